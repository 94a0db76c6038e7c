/- Part 10 of the claim for FnArf, of the chain from the printed contracts and the plain laws to the row. It has no condition of its own. -/
import Derived.Test.YtddgegejeoihaaaG1ZFnArf
import Derived.Test.YtddgegejeoihaaaG2ZFnArf
import Derived.Test.YtddgegejeoihaaaG6ZFnArf
import Derived.Test.YtddgegejeoihaaaG9ZFnArf
import Derived.Test.YtddgegejeoihaaaG3ZFnArf
import Derived.Test.YtddgegejeoihaaaG8ZFnArf
section
namespace Go.Proofs.Ytddgegejeoihaaa.PFnArf
open Go.RowKit Go.Proofs.YtddgegejeoihaaaW.PrintWords Go.Proofs.YtddgegejeoihaaaW.PrintLast Go.Proofs.YtddgegejeoihaaaW.PrintMore
open Go.Proofs.Ytddgegejeoihaaa.SortW (bk_ kr_ t_ f_)
open Go.Proofs.Ytddgegejeoihaaa.SqW
attribute [local go_sem] max2_int min2_int max_two min_two max_three min_three max_four min_four
set_option maxHeartbeats 8000000
set_option maxRecDepth 100000
set_option linter.unusedVariables false
set_option linter.unusedSimpArgs false
open Go.Proofs.Ytddgegejeoihaaa.SqW (bb_ bc_ be_ bl_ bs_ cs_ er_ ge_ gl_ nf_ ng_ ob_ rb_ rl_)
def inB (t : List Bool) (d : Int) : Bool := if t.length = 0 then false else if 200 ≤ d then true else if 0 ≤ d then rdOf false t d else false
def FnR (w : World) (v : Value) (t : List Bool) : Prop := ∃ (f : FuncId) (fn : Func) (cap : Array Value), v = .func (.func f) #[] cap ∧ Try.prog.funcs[f]? = some fn ∧ (fn.name == "runtime.NumGoroutine") = false ∧ fn.body.isSome = true ∧
 ∀ (d : Int) (W : World), Below w.heap.size w W → Calls Try.prog f (#[.int .i64 d] ++ cap) W fun e w' => e = .returned (.bool (inB t d)) ∧ Drawn0 W w'
theorem FnR.below {w w1 : World} {v : Value} {t : List Bool} (h : FnR w v t) (hb : Below w.heap.size w w1) : FnR w1 v t := by
 obtain ⟨f, fn, cap, h1, h2, h3, h4, h5⟩ := h
 exact ⟨f, fn, cap, h1, h2, h3, h4, fun d W hW => h5 d W (below_then hb hb.size hW)⟩
section
variable {ops : Array Oper} {Q : Exit → Act → World → Prop}
theorem fnV_ {rest : List Oper} {oi : Oper} {a : Act} {w : World} (N : Nat) (hd : oi.dst = some N) (hg : oi.guard = none) {x : Operand} {ags : Array Operand} {ts : Array TypeId} {v : Value} {t : List Bool} (d : Int)
 (hop : oi.op = .call { callee := .value x, args := ags, argTypes := ts }) (hx : a.eval x = v) (hargs : ags.map a.eval = #[.int .i64 d]) (hv : FnR w v t)
 (h : ∀ n, wpList Try.prog ops Q rest (a.put (some N) (.bool (inB t d))) (w.drewN n)) : wpList Try.prog ops Q (oi :: rest) a w := by
 obtain ⟨f, fn, cap, rfl, h2, h3, h4, h5⟩ := hv
 refine wpList_plain hg fun K hK => ?_
 have he := enters_ h2 h3 h4 (#[.int .i64 d] ++ cap) w
 have hrun : (execOp a.eval oi).run Try.prog w = .ok (.enter f (#[.int .i64 d] ++ cap)) w := by
  unfold execOp
  simp [hop, resolve, Deferred.ofValue, invoke, hx, hargs]
  simpa using he
 unfold Oper.wp
 rw [hrun, Oper.upon_enter]
 refine (h5 d w (Below.refl _ _)).mono fun e w'' hh => ?_
 obtain ⟨rfl, ⟨nd, rfl⟩⟩ := hh
 have := hK _ _ (h nd)
 rw [hd]
 exact this
end
theorem reach_no (d : Int) (W : World) : Calls Try.prog 104 #[.int .i64 d] W fun e w' => e = .returned (.bool false) ∧ Drawn0 W w' := by
 go_enter Try.func104, Try.ntmps104
 go_wp2
 go_ret
 exact ⟨rfl, Drawn0.refl _⟩
theorem reach_yes (t : List Bool) (ht : t.length = 201) (g : Nat) (A : Option Addr) (c : Nat) (d : Int) (W : World) (hg : W.heap[g]? = some (.cells #[.slice A t.length c] 56 (0, 0))) (hr : Kd.C Kd.bool W A t.length t) :
 Calls Try.prog 105 #[.int .i64 d, .pointer (some ⟨g, 0, none⟩)] W fun e w' => e = .returned (.bool (inB t d)) ∧ Drawn0 W w' := by
 have hcz : W.cell? ⟨g, 0, none⟩ = some (.slice A t.length c) := (blk_cell hg 0).trans rfl
 have hfz := blk_frozen hg 0
 have e : inB t d = if 200 ≤ d then true else if 0 ≤ d then rdOf false t d else false := by unfold inB; rw [if_neg (by omega)]
 rw [e]
 by_cases c1 : 200 ≤ d
 ·rw [if_pos c1]
  have c1b : decide (200 ≤ d) = true := decide_eq_true c1
  go_enter Try.func105, Try.ntmps105
  go_wp2
  go_ret
  exact ⟨rfl, Drawn0.refl _⟩
 rw [if_neg c1]
 have c1b : decide (200 ≤ d) = false := decide_eq_false c1
 by_cases c2 : 0 ≤ d
 ·rw [if_pos c2]
  have c2b : decide (0 ≤ d) = true := decide_eq_true c2
  have p1 : 0 ≤ d := c2
  have q1 : d < (t.length : Int) := by omega
  obtain ⟨ad, e1, hx⟩ := Kd.at_bool hr d p1 q1
  cases e1
  replace p1 := eq_true p1
  replace q1 := eq_true q1
  go_enter Try.func105, Try.ntmps105
  go_wp2
  go_ret
  exact ⟨rfl, Drawn0.refl _⟩
 rw [if_neg c2]
 have c2b : decide (0 ≤ d) = false := decide_eq_false c2
 go_enter Try.func105, Try.ntmps105
 go_wp2
 go_ret
 exact ⟨rfl, Drawn0.refl _⟩
def impl_reach.f (k : Nat) (l0_0 : List Int) : Option (List Bool) := (impl_IsSemigroup.f k l0_0).bind fun b => (if b = true then ((impl_table.f k l0_0 200).bind fun t => (if t.length = 201 then some t else none)) else some [])
def impl_reach_in.f (l0 : List Bool) (a1 : Int) : Option Bool := some (inB l0 a1)
theorem impl_reach.calls (k : Nat) (A0_0 : Option Addr) (c0_0 : Nat) (l0_0 : List Int) (r : List Bool) (w : World) (hr0_0 : Kd.C (Kd.int .i64) w A0_0 l0_0.length l0_0) (hc0_0 : l0_0.length ≤ c0_0) (h : impl_reach.f k l0_0 = some r) :
 Calls Try.prog 59 #[.agg #[.slice A0_0 l0_0.length c0_0]] w fun e w' => ∃ v0_ : Value, e = .returned (v0_) ∧ FnR w' v0_ r ∧ Below w.heap.size w w' := by
 have hu29 := Try.underlying29
 have hmf : ∀ (fn : Fn) (first cap : Array Value) (w : World), (Instr.makeFunc fn first cap).run Try.prog w = .ok (.func fn first cap) w := fun _ _ _ _ => rfl
 have HR0_0 := am_ hr0_0
 have HC0_0 := am_ hc0_0
 clear hr0_0 hc0_0
 have HB := am_ (Below.refl w.heap.size w)
 have H := h
 clear h
 unfold impl_reach.f at H
 obtain ⟨b, A2, H⟩ := ob_ H
 cases b with
 | false =>
  rw [if_neg nf_] at H
  obtain rfl := Option.some.inj H
  go_enter Try.func59, Try.ntmps59
  go_wp2_with (first | ((with_reducible refine gate_dst (N := 1) rfl ?_); refine be_ 1 #[.slice A0_0 l0_0.length c0_0] 29 fun gb616 hg w6 hbox hb => ?_; have GE616 := ge_ hg HB; replace HB := bs_ HB hb; have BK616 := am_ (hbox); clear hb hbox hg; have hcz7_0 := bc_ BK616; have hfz7_0 := blk_frozen BK616.out 0) | ((with_reducible refine gate_callee (f := 49) rfl ?_); refine gl_ 5 Try.func49 #[.agg #[.slice A0_0 l0_0.length c0_0]] ?_; (with_reducible refine (impl_IsSemigroup.calls k _ _ l0_0 false _ ?side1 ?side2 A2.out).mono ?_); (case side1 => exact cs_ HR0_0 HB); (case side2 => exact HC0_0.out); rintro e w8 ⟨rfl, hb⟩; refine ⟨_, rfl, ?_⟩; replace BK616 := bb_ BK616 hb; replace HB := bs_ HB hb; (try clear hb)))
  go_ret
  exact ⟨_, er_, ⟨104, _, #[], rfl, Try.func104, by kernel_rfl, rfl, fun d W _ => (reach_no d W).mono fun e w' ⟨h1, h2⟩ => ⟨by rw [h1]; rfl, h2⟩⟩, bl_ HB.out⟩
 | true =>
  rw [if_pos rfl] at H
  obtain ⟨t621, A4, H⟩ := ob_ H
  (try dsimp only at H)
  by_cases cl : t621.length = 201
  case neg => rw [if_neg cl] at H; cases H
  rw [if_pos cl] at H
  have CL := am_ cl
  clear cl
  obtain rfl := Option.some.inj H
  go_enter Try.func59, Try.ntmps59
  go_wp2_with (first | ((with_reducible refine gate_dst (N := 1) rfl ?_); refine be_ 1 #[.slice A0_0 l0_0.length c0_0] 29 fun gb616 hg w6 hbox hb => ?_; have GE616 := ge_ hg HB; replace HB := bs_ HB hb; have BK616 := am_ (hbox); clear hb hbox hg; have hcz7_0 := bc_ BK616; have hfz7_0 := blk_frozen BK616.out 0) | ((with_reducible refine gate_callee (f := 49) rfl ?_); refine gl_ 5 Try.func49 #[.agg #[.slice A0_0 l0_0.length c0_0]] ?_; (with_reducible refine (impl_IsSemigroup.calls k _ _ l0_0 true _ ?side1 ?side2 A2.out).mono ?_); (case side1 => exact cs_ HR0_0 HB); (case side2 => exact HC0_0.out); rintro e w8 ⟨rfl, hb⟩; refine ⟨_, rfl, ?_⟩; replace BK616 := bb_ BK616 hb; replace HB := bs_ HB hb; (try clear hb); have hcz9_0 := bc_ BK616; have hfz9_0 := blk_frozen BK616.out 0) | ((with_reducible refine gate_callee (f := 50) rfl ?_); refine gl_ 8 Try.func50 #[.agg #[.slice A0_0 l0_0.length c0_0], .int .i64 200] ?_; (with_reducible refine (impl_table.calls k _ _ l0_0 200 t621 _ ?side1 ?side2 A4.out).mono ?_); (case side1 => exact cs_ HR0_0 HB); (case side2 => exact HC0_0.out); rintro e w12 ⟨v622, rfl, ho0, hb⟩; refine ⟨_, rfl, ?_⟩; have HO623 := rl_ ho0 HB; replace BK616 := bb_ BK616 hb; replace HB := bs_ HB hb; (try clear hb); (try clear ho0); obtain ⟨Ao, co, eo⟩ := Kd.R_slice HO623.out; subst eo) | ((with_reducible refine gate_dst (N := 3) rfl ?_); refine be_ 3 #[.slice none 0 0] 56 fun gb700 hg w20 hbox hb => ?_; have GE700 := ge_ hg HB; have NB := ng_ hg BK616; replace BK616 := bb_ BK616 hb; replace HO623 := rb_ HO623 hb; replace HB := bs_ HB hb; have BK700 := am_ (hbox); clear hb hbox hg; have hcz20_0 := bc_ BK700; have hfz20_0 := blk_frozen BK700.out 0))
  go_ret
  have hR := Kd.R_mono (Kd.R_far (p := ⟨gb700, 0, none⟩) (Kd.R_types HO623.out BK700.out (by decide)) (fun _ hk => hk.2) (.slice Ao t621.length co)) (fun _ h_ => h_.1)
  have hK := blk_set BK700.out 0 (.slice Ao t621.length co)
  have hR' := Kd.R_reads' hR
  refine ⟨_, er_, ⟨105, _, #[.pointer (some ⟨gb700, 0, none⟩)], rfl, Try.func105, by kernel_rfl, rfl, fun d W hW => ?_⟩, bl_ HB.out⟩
  exact reach_yes t621 CL.out gb700 Ao co d W (blk_below hK hW) (Kd.C_below hR'.2.2 hW)
mutual
def impl_ArfFailure.l0 : Nat → List Int → List Bool → Int → Int → Option (Int × Int × Int × Bool)
 | 0, _, _, _, _ => none
 | k + 1, x6, x7, x19, x20 => if x20 < x19 then (if 0 ≤ x20 then (if x20 < (x6.length : Int) then (if 0 ≤ (wrap64 (x20 + 1)) then (if (wrap64 (x20 + 1)) ≤ (x6.length : Int) then ((some (x6.take ((wrap64 (x20 + 1)) : Int).toNat : List Int)).bind fun y637 => (impl_ArfFailure.l1 k x6 x7 (rd x6 x20) x19 x20 y637 (y637.length : Int) 0)) else (none)) else (none)) else (none)) else (none)) else (some (0, 0, 0, false))
def impl_ArfFailure.l1 : Nat → List Int → List Bool → Int → Int → Int → List Int → Int → Int → Option (Int × Int × Int × Bool)
 | 0, _, _, _, _, _, _, _, _ => none
 | k + 1, x6, x7, x9, x19, x20, x28, x29, x30 => if x30 < x29 then (if 0 ≤ x30 then (if x30 < (x28.length : Int) then (if 0 ≤ (wrap64 (x30 + 1)) then (if (wrap64 (x30 + 1)) ≤ (x6.length : Int) then ((some (x6.take ((wrap64 (x30 + 1)) : Int).toNat : List Int)).bind fun y642 => (impl_ArfFailure.l2 k x6 x7 x9 (rd x28 x30) x19 x20 x28 x29 x30 y642 (y642.length : Int) 0)) else (none)) else (none)) else (none)) else (none)) else (impl_ArfFailure.l0 k x6 x7 x19 (wrap64 (x20 + 1)))
def impl_ArfFailure.l2 : Nat → List Int → List Bool → Int → Int → Int → Int → List Int → Int → Int → List Int → Int → Int → Option (Int × Int × Int × Bool)
 | 0, _, _, _, _, _, _, _, _, _, _, _, _ => none
 | k + 1, x6, x7, x9, x11, x19, x20, x28, x29, x30, x38, x39, x40 => if x40 < x39 then (if 0 ≤ x40 then (if x40 < (x38.length : Int) then ((impl_reach_in.f x7 (wrap64 ((wrap64 (x9 + x11)) - (rd x38 x40)))).bind fun t647 => (if t647 = true then (impl_ArfFailure.l2 k x6 x7 x9 x11 x19 x20 x28 x29 x30 x38 x39 (wrap64 (x40 + 1))) else (some (x9, x11, rd x38 x40, true)))) else (none)) else (none)) else (impl_ArfFailure.l1 k x6 x7 x9 x19 x20 x28 x29 (wrap64 (x30 + 1)))
end
def impl_ArfFailure.f (k : Nat) (l0_0 : List Int) : Option (Int × Int × Int × Bool) := (impl_SmallElements.f k l0_0).bind fun t630 => ((impl_reach.f k l0_0).bind fun t633 => (impl_ArfFailure.l0 k t630 t633 (t630.length : Int) 0))
theorem impl_ArfFailure.calls (k : Nat) (A0_0 : Option Addr) (c0_0 : Nat) (l0_0 : List Int) (r1 : Int) (r2 : Int) (r3 : Int) (r4 : Bool) (w : World) (hr0_0 : Kd.C (Kd.int .i64) w A0_0 l0_0.length l0_0) (hc0_0 : l0_0.length ≤ c0_0) (h : impl_ArfFailure.f k l0_0 = some (r1, r2, r3, r4)) :
 Calls Try.prog 22 #[.agg #[.slice A0_0 l0_0.length c0_0]] w fun e w' => e = .returned (.tuple #[.int .i64 r1, .int .i64 r2, .int .i64 r3, .bool r4]) ∧ Below w.heap.size w w' := by
 have hu29 := Try.underlying29
 have HR0_0 := am_ hr0_0
 have HC0_0 := am_ hc0_0
 clear hr0_0 hc0_0
 have HB := am_ (Below.refl w.heap.size w)
 have H := h
 clear h
 unfold impl_ArfFailure.f at H
 obtain ⟨t630, A2, H⟩ := ob_ H
 (try dsimp only at H)
 obtain ⟨t633, A3, H⟩ := ob_ H
 (try dsimp only at H)
 have H' := am_ H
 clear H
 go_enter Try.func22, Try.ntmps22
 go_wp2_with (first | ((with_reducible refine gate_dst (N := 1) rfl ?_); refine be_ 1 #[.slice A0_0 l0_0.length c0_0] 29 fun gb629 hg w4 hbox hb => ?_; have BK629 := am_ (hbox); have GW629 := ge_ hg HB; have GE629 := ge_ hg HB; replace HB := bs_ HB hb; clear hb hbox hg; have hcz5_0 := bc_ BK629; have hfz5_0 := blk_frozen BK629.out 0) | ((with_reducible refine gate_callee (f := 58) rfl ?_); refine gl_ 15 Try.func58 #[.agg #[.slice A0_0 l0_0.length c0_0]] ?_; (with_reducible refine (impl_SmallElements.calls k _ _ l0_0 t630 _ ?side1 ?side2 A2.out).mono ?_); (case side1 => exact cs_ HR0_0 HB); (case side2 => exact HC0_0.out); rintro e w6 ⟨v631, rfl, ho0, hb⟩; refine ⟨_, rfl, ?_⟩; have HO632 := rl_ ho0 HB; replace BK629 := bb_ BK629 hb; replace HB := bs_ HB hb; (try clear hb); (try clear hb2); (try clear hk); (try clear hi); (try clear ho0); have hcz7_0 := bc_ BK629; have hfz7_0 := blk_frozen BK629.out 0) | ((with_reducible refine gate_callee (f := 59) rfl ?_); refine gl_ 17 Try.func59 #[.agg #[.slice A0_0 l0_0.length c0_0]] ?_; (with_reducible refine (impl_reach.calls k _ _ l0_0 t633 _ ?side1 ?side2 A3.out).mono ?_); (case side1 => exact cs_ HR0_0 HB); (case side2 => exact HC0_0.out); rintro e w8 ⟨v634, rfl, ho0, hb⟩; refine ⟨_, rfl, ?_⟩; have n0_ := am_ (Kd.R_below (kr_ HO632.out) hb); have n1_ := am_ ho0; have n2_ := am_ (blk_below (bk_ BK629.out) hb); have n3_ := am_ (below_step (bl_ HB.out) hb); clear HO632; clear BK629; clear HB; have HO632 := n0_; have HO635 := n1_; have BK629 := n2_; have HB := n3_; clear n0_ n1_ n2_ n3_; (try clear hb); (try clear hb2); (try clear hk); (try clear hi); (try clear ho0); obtain ⟨Ao9, co9, eo9⟩ := Kd.R_slice HO632.out; subst eo9))
 go_loopg [20] k (fun kq v20 w' => ∃ (x20_1 : Int), v20 = .int .i64 x20_1 ∧ Aside0 (impl_ArfFailure.l0 kq t630 t633 (t630.length : Int) x20_1 = some (r1, r2, r3, r4)) ∧ Aside0 (kq ≤ k) ∧ Aside0 (Kd.R (Kd.int .i64) 3 w' w.heap.size (fun _ => True) (.slice Ao9 t630.length co9) t630) ∧ Aside0 (FnR w' v634 t633) ∧ Aside0 (w'.heap[gb629]? = some (.cells #[(.slice A0_0 l0_0.length c0_0)] 29 (0, 0))) ∧ Aside0 (Below w.heap.size w w'))
 case atStart => exact ⟨(0), sd_, H', ⟨Nat.le_refl _⟩, ⟨kr_ HO632.out⟩, ⟨by first | exact HO635.out | exact FnR.below HO635.out (below_drew (Below.refl _ _)) | exact FnR.below HO635.out (pw_below_drewN (Below.refl _ _) _) | exact FnR.below HO635.out (by repeat (first | exact Below.refl _ _ | apply below_alloc | apply pw_below_drewN | apply below_drew1))⟩, ⟨bk_ BK629.out⟩, ⟨bl_ HB.out⟩⟩
 case round =>
  clear H'
  try clear c2
  try clear p2
  try clear c5
  try clear hcz5_0
  try clear hcz7_0
  try clear hfz5_0
  try clear hfz7_0
  obtain ⟨x20_1, rfl, HA, HK1, HO_6, HO_7, BK629, HB⟩ := hrel
  cases gk with
  | zero => exact absurd HA.out (by simp [impl_ArfFailure.l0])
  | succ k1 =>
   have H := HA.out
   clear HA
   simp only [impl_ArfFailure.l0] at H
   by_cases c10 : x20_1 < (t630.length : Int)
   rotate_left
   ·rw [if_neg c10] at H
    have c10b0 : decide (x20_1 < (t630.length : Int)) = false := decide_eq_false c10
    clear c10
    simp only [Option.some.injEq, Prod.mk.injEq] at H
    obtain ⟨rfl, rfl, rfl, rfl⟩ := H
    go_wp2
    refine bodyPost_ret (results_list (rs := [.tmp 2, .tmp 3, .tmp 4, .tmp 5]) rfl (by simp) (.tmp (.tmp (.tmp (.tmp .nil))))) rfl ?_
    exact ⟨er_, bl_ HB.out⟩
   rw [if_pos c10] at H
   have c10b0 := decide_eq_true c10
   clear c10
   obtain ⟨c11, H⟩ := in_ H
   have c11b0 := decide_eq_true c11
   clear c11
   obtain ⟨c12, H⟩ := in_ H
   have c12b0 := decide_eq_true c12
   clear c12
   obtain ⟨ji13, hji13⟩ : ∃ j_ : Int, (wrap64 (x20_1 + 1)) = j_ := ⟨_, rfl⟩
   replace H : (if 0 ≤ (ji13) then (if (ji13) ≤ (t630.length : Int) then ((some (t630.take ((ji13) : Int).toNat : List Int)).bind fun y637 => (impl_ArfFailure.l1 k1 t630 t633 (rd t630 x20_1) (t630.length : Int) x20_1 y637 (y637.length : Int) 0)) else (none)) else (none)) = some (r1, r2, r3, r4) := by first | (rw [hji13] at H; exact H) | (simp only [hji13] at H ⊢; exact H)
   have hji13w : (IntKind.i64.wrap (x20_1 + 1)) = ji13 := (i64_w _).trans hji13
   obtain ⟨c14, H⟩ := in_ H
   have c14b0 := eq_true c14
   have c14b1 := decide_eq_true c14
   clear c14
   obtain ⟨c15, H⟩ := in_ H
   have c15b0 := eq_true c15
   have c15b1 := decide_eq_true c15
   clear c15
   obtain ⟨y637, hy637⟩ : ∃ y_ : List Int, y_ = (t630.take ((ji13) : Int).toNat) := ⟨_, rfl⟩
   replace H : (impl_ArfFailure.l1 k1 t630 t633 (rd t630 x20_1) (t630.length : Int) x20_1 y637 (y637.length : Int) 0) = some (r1, r2, r3, r4) := hr_ hy637 H
   have Ny637 := am_ hy637
   clear hy637
   have H' := am_ H
   clear H
   obtain ⟨p636, q636, ad636, e636, hx636_0⟩ := ri_ (Kd.at_int (Kd.R_reads' HO_6.out).2.2 x20_1)
   cases e636
   have q16 : ((ji13) : Int) ≤ ((t630.length : Int) : Int) := od_
   obtain ⟨i016, hi016, _, hsz16, _⟩ := info_parts info3
   have hroom16 : t630.length ≤ co9 := (Kd.R_reads' HO_6.out).2.1
   have hC16 : Kd.C (Kd.int .i64) _ (some ad636) t630.length t630 := (Kd.R_reads' HO_6.out).2.2
   have hcut16 := cut_to (P := Try.prog) 22 3 .i64 Try.underlying22 hi016 (some ad636) t630.length co9 (ji13) (od_) q16 hroom16
   have hr16 := Kd.C_take (m := ((ji13) : Int).toNat) hC16 (by omega)
   have hy16 : y637.length = ((ji13) : Int).toNat := (by rw [Ny637.out, List.length_take]; omega)
   rw [← Ny637.out] at hr16
   rw [← hy16] at hcut16
   have HR640 := am_ hr16
   have HC640 := am_ (show y637.length ≤ co9 from by omega)
   clear hr16 hC16 hroom16 hi016 hsz16
   have KY16 := am_ hy16
   clear hy16
   have KL16 := am_ (show ((ji13) : Int).toNat ≤ t630.length from by omega)
   replace q16 := eq_true q16
   go_wp2
   go_loopg [30] k1 (fun kq v30 w' => ∃ (x30_2 : Int), v30 = .int .i64 x30_2 ∧ Aside0 (impl_ArfFailure.l1 kq t630 t633 (rd t630 x20_1) (t630.length : Int) x20_1 y637 (y637.length : Int) x30_2 = some (r1, r2, r3, r4)) ∧ Aside0 (kq ≤ k1) ∧ Aside0 (Kd.R (Kd.int .i64) 3 w' w.heap.size (fun _ => True) (.slice (some ad636) t630.length co9) t630) ∧ Aside0 (FnR w' v634 t633) ∧ Aside0 (w'.heap[gb629]? = some (.cells #[(.slice A0_0 l0_0.length c0_0)] 29 (0, 0))) ∧ Aside0 (Kd.C (Kd.int .i64) w' (some ad636) y637.length y637) ∧ Aside0 (Below w.heap.size w w'))
   case atStart => exact ⟨(0), sd_, H', ⟨Nat.le_refl _⟩, ⟨kr_ HO_6.out⟩, ⟨by first | exact HO_7.out | exact FnR.below HO_7.out (below_drew (Below.refl _ _)) | exact FnR.below HO_7.out (pw_below_drewN (Below.refl _ _) _) | exact FnR.below HO_7.out (by repeat (first | exact Below.refl _ _ | apply below_alloc | apply pw_below_drewN | apply below_drew1))⟩, ⟨bk_ BK629.out⟩, ⟨by repeat (first | (with_reducible exact HR640.out) | (with_reducible refine Kd.C_alloc ?_ _) | (with_reducible refine Kd.C_drewN ?_ _) | (with_reducible refine Kd.C_drew ?_) | exact HR640.out)⟩, ⟨bl_ HB.out⟩⟩
   case round =>
    clear H'
    try clear c1
    try clear q1
    try clear c2
    try clear p2
    try clear c5
    try clear p6
    try clear q6
    try clear hx6
    try clear q16
    try clear hcz5_0
    try clear hcz7_0
    try clear hfz5_0
    try clear hfz7_0
    try clear hx636_0
    try clear p636
    try clear q636
    obtain ⟨x30_2, rfl, HA, HK2, HO_6, HO_7, BK629, HR640, HB⟩ := hrel
    cases gk with
    | zero => exact absurd HA.out (by simp [impl_ArfFailure.l1])
    | succ k2 =>
     have H := HA.out
     clear HA
     simp only [impl_ArfFailure.l1] at H
     by_cases c17 : x30_2 < (y637.length : Int)
     rotate_left
     ·rw [if_neg c17] at H
      have c17b0 : decide (x30_2 < (y637.length : Int)) = false := decide_eq_false c17
      clear c17
      have H' := am_ H
      clear H
      go_wp2
      go_roundg k2
      case measure => have := HK1.out; have := HK2.out; omega
      case rel => exact ⟨(wrap64 (x20_1 + 1)), sd_, H', ⟨by have := HK1.out; have := HK2.out; omega⟩, ⟨kr_ HO_6.out⟩, ⟨by first | exact HO_7.out | exact FnR.below HO_7.out (below_drew (Below.refl _ _)) | exact FnR.below HO_7.out (pw_below_drewN (Below.refl _ _) _) | exact FnR.below HO_7.out (by repeat (first | exact Below.refl _ _ | apply below_alloc | apply pw_below_drewN | apply below_drew1))⟩, ⟨bk_ BK629.out⟩, ⟨bl_ HB.out⟩⟩
     rw [if_pos c17] at H
     have c17b0 := decide_eq_true c17
     clear c17
     obtain ⟨c18, H⟩ := in_ H
     have c18b0 := decide_eq_true c18
     clear c18
     obtain ⟨c19, H⟩ := in_ H
     have c19b0 := decide_eq_true c19
     clear c19
     obtain ⟨ji20, hji20⟩ : ∃ j_ : Int, (wrap64 (x30_2 + 1)) = j_ := ⟨_, rfl⟩
     replace H : (if 0 ≤ (ji20) then (if (ji20) ≤ (t630.length : Int) then ((some (t630.take ((ji20) : Int).toNat : List Int)).bind fun y642 => (impl_ArfFailure.l2 k2 t630 t633 (rd t630 x20_1) (rd y637 x30_2) (t630.length : Int) x20_1 y637 (y637.length : Int) x30_2 y642 (y642.length : Int) 0)) else (none)) else (none)) = some (r1, r2, r3, r4) := by first | (rw [hji20] at H; exact H) | (simp only [hji20] at H ⊢; exact H)
     have hji20w : (IntKind.i64.wrap (x30_2 + 1)) = ji20 := (i64_w _).trans hji20
     obtain ⟨c21, H⟩ := in_ H
     have c21b0 := eq_true c21
     have c21b1 := decide_eq_true c21
     clear c21
     obtain ⟨c22, H⟩ := in_ H
     have c22b0 := eq_true c22
     have c22b1 := decide_eq_true c22
     clear c22
     obtain ⟨y642, hy642⟩ : ∃ y_ : List Int, y_ = (t630.take ((ji20) : Int).toNat) := ⟨_, rfl⟩
     replace H : (impl_ArfFailure.l2 k2 t630 t633 (rd t630 x20_1) (rd y637 x30_2) (t630.length : Int) x20_1 y637 (y637.length : Int) x30_2 y642 (y642.length : Int) 0) = some (r1, r2, r3, r4) := hr_ hy642 H
     have Ny642 := am_ hy642
     clear hy642
     have H' := am_ H
     clear H
     obtain ⟨p641, q641, ad641, e641, hx641_0⟩ := ri_ (Kd.at_int HR640.out x30_2)
     obtain rfl : ad636 = ad641 := (by injection e641)
     (try (replace hx641_0 := (HB.out.cell (World.block_lt_of_cell? w _ hx641_0)).trans hx641_0))
     have q23 : ((ji20) : Int) ≤ ((t630.length : Int) : Int) := od_
     obtain ⟨i023, hi023, _, hsz23, _⟩ := info_parts info3
     have hroom23 : t630.length ≤ co9 := (Kd.R_reads' HO_6.out).2.1
     have hC23 : Kd.C (Kd.int .i64) _ (some ad636) t630.length t630 := (Kd.R_reads' HO_6.out).2.2
     have hcut23 := cut_to (P := Try.prog) 22 3 .i64 Try.underlying22 hi023 (some ad636) t630.length co9 (ji20) (od_) q23 hroom23
     have hr23 := Kd.C_take (m := ((ji20) : Int).toNat) hC23 (by omega)
     have hy23 : y642.length = ((ji20) : Int).toNat := (by rw [Ny642.out, List.length_take]; omega)
     rw [← Ny642.out] at hr23
     rw [← hy23] at hcut23
     have HR645 := am_ hr23
     have HC645 := am_ (show y642.length ≤ co9 from by omega)
     clear hr23 hC23 hroom23 hi023 hsz23
     have KY23 := am_ hy23
     clear hy23
     have KL23 := am_ (show ((ji20) : Int).toNat ≤ t630.length from by omega)
     replace q23 := eq_true q23
     go_wp2
     go_loopg [40] k2 (fun kq v40 w' => ∃ (x40_3 : Int), v40 = .int .i64 x40_3 ∧ Aside0 (impl_ArfFailure.l2 kq t630 t633 (rd t630 x20_1) (rd y637 x30_2) (t630.length : Int) x20_1 y637 (y637.length : Int) x30_2 y642 (y642.length : Int) x40_3 = some (r1, r2, r3, r4)) ∧ Aside0 (kq ≤ k2) ∧ Aside0 (Kd.R (Kd.int .i64) 3 w' w.heap.size (fun _ => True) (.slice (some ad636) t630.length co9) t630) ∧ Aside0 (FnR w' v634 t633) ∧ Aside0 (w'.heap[gb629]? = some (.cells #[(.slice A0_0 l0_0.length c0_0)] 29 (0, 0))) ∧ Aside0 (Kd.C (Kd.int .i64) w' (some ad636) y637.length y637) ∧ Aside0 (Kd.C (Kd.int .i64) w' (some ad636) y642.length y642) ∧ Aside0 (Below w.heap.size w w'))
     case atStart => exact ⟨(0), sd_, H', ⟨Nat.le_refl _⟩, ⟨kr_ HO_6.out⟩, ⟨by first | exact HO_7.out | exact FnR.below HO_7.out (below_drew (Below.refl _ _)) | exact FnR.below HO_7.out (pw_below_drewN (Below.refl _ _) _) | exact FnR.below HO_7.out (by repeat (first | exact Below.refl _ _ | apply below_alloc | apply pw_below_drewN | apply below_drew1))⟩, ⟨bk_ BK629.out⟩, ⟨by repeat (first | (with_reducible exact HR640.out) | (with_reducible refine Kd.C_alloc ?_ _) | (with_reducible refine Kd.C_drewN ?_ _) | (with_reducible refine Kd.C_drew ?_) | exact HR640.out)⟩, ⟨by repeat (first | (with_reducible exact HR645.out) | (with_reducible refine Kd.C_alloc ?_ _) | (with_reducible refine Kd.C_drewN ?_ _) | (with_reducible refine Kd.C_drew ?_) | exact HR645.out)⟩, ⟨bl_ HB.out⟩⟩
     case round =>
      clear H'
      try clear c1
      try clear q1
      try clear c2
      try clear p2
      try clear q2
      try clear c5
      try clear p6
      try clear q6
      try clear hx6
      try clear q16
      try clear q23
      try clear hcz5_0
      try clear hcz7_0
      try clear hfz5_0
      try clear hfz7_0
      try clear hx636_0
      try clear hx641_0
      try clear p636
      try clear p641
      try clear q636
      try clear q641
      obtain ⟨x40_3, rfl, HA, HK3, HO_6, HO_7, BK629, HR640, HR645, HB⟩ := hrel
      cases gk with
      | zero => exact absurd HA.out (by simp [impl_ArfFailure.l2])
      | succ k3 =>
       have H := HA.out
       clear HA
       simp only [impl_ArfFailure.l2] at H
       by_cases c24 : x40_3 < (y642.length : Int)
       rotate_left
       ·rw [if_neg c24] at H
        have c24b0 : decide (x40_3 < (y642.length : Int)) = false := decide_eq_false c24
        clear c24
        have H' := am_ H
        clear H
        go_wp2
        go_roundg k3
        case measure => have := HK1.out; have := HK2.out; have := HK3.out; omega
        case rel => exact ⟨(wrap64 (x30_2 + 1)), sd_, H', ⟨by have := HK1.out; have := HK2.out; have := HK3.out; omega⟩, ⟨kr_ HO_6.out⟩, ⟨by first | exact HO_7.out | exact FnR.below HO_7.out (below_drew (Below.refl _ _)) | exact FnR.below HO_7.out (pw_below_drewN (Below.refl _ _) _) | exact FnR.below HO_7.out (by repeat (first | exact Below.refl _ _ | apply below_alloc | apply pw_below_drewN | apply below_drew1))⟩, ⟨bk_ BK629.out⟩, ⟨by repeat (first | (with_reducible exact HR640.out) | (with_reducible refine Kd.C_alloc ?_ _) | (with_reducible refine Kd.C_drewN ?_ _) | (with_reducible refine Kd.C_drew ?_) | exact HR640.out)⟩, ⟨bl_ HB.out⟩⟩
       rw [if_pos c24] at H
       have c24b0 := decide_eq_true c24
       clear c24
       obtain ⟨c25, H⟩ := in_ H
       have c25b0 := decide_eq_true c25
       clear c25
       obtain ⟨c26, H⟩ := in_ H
       have c26b0 := decide_eq_true c26
       clear c26
       obtain ⟨t647, A27, H⟩ := ob_ H
       (try dsimp only at H)
       by_cases c28 : t647 = true
       ·subst c28
        rw [if_pos rfl] at H
        have H' := am_ H
        clear H
        obtain ⟨p646, q646, ad646, e646, hx646_0⟩ := ri_ (Kd.at_int HR645.out x40_3)
        obtain rfl : ad636 = ad646 := (by injection e646)
        (try (replace hx646_0 := (HB.out.cell (World.block_lt_of_cell? w _ hx646_0)).trans hx646_0))
        go_wp2_with (first | ((with_reducible refine gate_dst (N := 50) rfl ?_); refine fnV_ 50 rfl rfl (wrap64 ((wrap64 ((rd t630 x20_1) + (rd y637 x30_2))) - (rd y642 x40_3))) rfl rfl (by (try simp only [List.map_toArray, List.map_cons, List.map_nil]); first | done | rfl) (by first | exact HO_7.out | exact FnR.below HO_7.out (below_drew (Below.refl _ _)) | exact FnR.below HO_7.out (pw_below_drewN (Below.refl _ _) _) | exact FnR.below HO_7.out (by repeat (first | exact Below.refl _ _ | apply below_alloc | apply pw_below_drewN | apply below_drew1))) (fun nd => ?_); rw [show inB _ _ = _ from Option.some.inj A27.out]))
        go_roundg k3
        case measure => have := HK1.out; have := HK2.out; have := HK3.out; omega
        case rel => exact ⟨(wrap64 (x40_3 + 1)), sd_, H', ⟨by have := HK1.out; have := HK2.out; have := HK3.out; omega⟩, ⟨kr_ HO_6.out⟩, ⟨by first | exact HO_7.out | exact FnR.below HO_7.out (below_drew (Below.refl _ _)) | exact FnR.below HO_7.out (pw_below_drewN (Below.refl _ _) _) | exact FnR.below HO_7.out (by repeat (first | exact Below.refl _ _ | apply below_alloc | apply pw_below_drewN | apply below_drew1))⟩, ⟨bk_ BK629.out⟩, ⟨by repeat (first | (with_reducible exact HR640.out) | (with_reducible refine Kd.C_alloc ?_ _) | (with_reducible refine Kd.C_drewN ?_ _) | (with_reducible refine Kd.C_drew ?_) | exact HR640.out)⟩, ⟨by repeat (first | (with_reducible exact HR645.out) | (with_reducible refine Kd.C_alloc ?_ _) | (with_reducible refine Kd.C_drewN ?_ _) | (with_reducible refine Kd.C_drew ?_) | exact HR645.out)⟩, ⟨bl_ HB.out⟩⟩
       obtain rfl := Bool.eq_false_iff.mpr c28
       rw [if_neg nf_] at H
       simp only [Option.some.injEq, Prod.mk.injEq] at H
       obtain ⟨rfl, rfl, rfl, rfl⟩ := H
       obtain ⟨p646, q646, ad646, e646, hx646_0⟩ := ri_ (Kd.at_int HR645.out x40_3)
       obtain rfl : ad636 = ad646 := (by injection e646)
       (try (replace hx646_0 := (HB.out.cell (World.block_lt_of_cell? w _ hx646_0)).trans hx646_0))
       go_wp2_with (first | ((with_reducible refine gate_dst (N := 50) rfl ?_); refine fnV_ 50 rfl rfl (wrap64 ((wrap64 ((rd t630 x20_1) + (rd y637 x30_2))) - (rd y642 x40_3))) rfl rfl (by (try simp only [List.map_toArray, List.map_cons, List.map_nil]); first | done | rfl) (by first | exact HO_7.out | exact FnR.below HO_7.out (below_drew (Below.refl _ _)) | exact FnR.below HO_7.out (pw_below_drewN (Below.refl _ _) _) | exact FnR.below HO_7.out (by repeat (first | exact Below.refl _ _ | apply below_alloc | apply pw_below_drewN | apply below_drew1))) (fun nd => ?_); rw [show inB _ _ = _ from Option.some.inj A27.out]))
       refine bodyPost_ret (results_list (rs := [.tmp 2, .tmp 3, .tmp 4, .tmp 5]) rfl (by simp) (.tmp (.tmp (.tmp (.tmp .nil))))) rfl ?_
       exact ⟨by first | rfl | (simp [errW_none, errW_some] <;> rfl) | (simp only [← hji13, ← hji20]; first | rfl | (simp [errW_none, errW_some] <;> rfl)) | (simp [*, errW_none, errW_some] <;> rfl), bl_ HB.out⟩
def impl_IsArf.f (k : Nat) (l0_0 : List Int) : Option (Bool) := (impl_ArfFailure.f k l0_0).bind fun bt630 => ((impl_IsSemigroup.f k l0_0).bind fun t634 => (if t634 = true then (some (!bt630.2.2.2)) else (some false)))
theorem impl_IsArf.calls (k : Nat) (A0_0 : Option Addr) (c0_0 : Nat) (l0_0 : List Int) (r : Bool) (w : World) (hr0_0 : Kd.C (Kd.int .i64) w A0_0 l0_0.length l0_0) (hc0_0 : l0_0.length ≤ c0_0) (h : impl_IsArf.f k l0_0 = some r) :
 Calls Try.prog 21 #[.agg #[.slice A0_0 l0_0.length c0_0]] w fun e w' => e = .returned (.bool r) ∧ Below w.heap.size w w' := by
 have hu29 := Try.underlying29
 have HR0_0 := am_ hr0_0
 have HC0_0 := am_ hc0_0
 clear hr0_0 hc0_0
 have HB := am_ (Below.refl w.heap.size w)
 have H := h
 clear h
 unfold impl_IsArf.f at H
 replace H := Option.bind_eq_some_iff.mp H
 obtain ⟨⟨t630, t631, t632, t633⟩, A20, H⟩ := H
 (try dsimp only at H)
 have A2 := am_ A20
 clear A20
 obtain ⟨t634, A3, H⟩ := ob_ H
 (try dsimp only at H)
 by_cases c4 : t634 = true
 ·subst c4
  rw [if_pos rfl] at H
  obtain rfl := Option.some.inj H
  go_enter Try.func21, Try.ntmps21
  go_wp2_with (first | ((with_reducible refine gate_dst (N := 1) rfl ?_); refine be_ 1 #[.slice A0_0 l0_0.length c0_0] 29 fun gb629 hg w5 hbox hb => ?_; have BK629 := am_ (hbox); have GW629 := ge_ hg HB; have GE629 := ge_ hg HB; replace HB := bs_ HB hb; clear hb hbox hg; have hcz6_0 := bc_ BK629; have hfz6_0 := blk_frozen BK629.out 0) | ((with_reducible refine gate_callee (f := 22) rfl ?_); refine gl_ 9 Try.func22 #[.agg #[.slice A0_0 l0_0.length c0_0]] ?_; (with_reducible refine (impl_ArfFailure.calls k _ _ l0_0 t630 t631 t632 t633 _ ?side1 ?side2 A2.out).mono ?_); (case side1 => exact cs_ HR0_0 HB); (case side2 => exact HC0_0.out); rintro e w7 ⟨rfl, hb⟩; refine ⟨_, rfl, ?_⟩; replace BK629 := bb_ BK629 hb; replace HB := bs_ HB hb; (try clear hb); (try clear hb2); (try clear hk); (try clear hi); have hcz8_0 := bc_ BK629; have hfz8_0 := blk_frozen BK629.out 0) | ((with_reducible refine gate_callee (f := 49) rfl ?_); refine gl_ 15 Try.func49 #[.agg #[.slice A0_0 l0_0.length c0_0]] ?_; (with_reducible refine (impl_IsSemigroup.calls k _ _ l0_0 true _ ?side1 ?side2 A3.out).mono ?_); (case side1 => exact cs_ HR0_0 HB); (case side2 => exact HC0_0.out); rintro e w9 ⟨rfl, hb⟩; refine ⟨_, rfl, ?_⟩; replace BK629 := bb_ BK629 hb; replace HB := bs_ HB hb; (try clear hb); (try clear hb2); (try clear hk); (try clear hi)))
  go_ret
  exact ⟨er_, bl_ HB.out⟩
 obtain rfl := Bool.eq_false_iff.mpr c4
 rw [if_neg nf_] at H
 obtain rfl := Option.some.inj H
 go_enter Try.func21, Try.ntmps21
 go_wp2_with (first | ((with_reducible refine gate_dst (N := 1) rfl ?_); refine be_ 1 #[.slice A0_0 l0_0.length c0_0] 29 fun gb629 hg w10 hbox hb => ?_; have BK629 := am_ (hbox); have GW629 := ge_ hg HB; have GE629 := ge_ hg HB; replace HB := bs_ HB hb; clear hb hbox hg; have hcz11_0 := bc_ BK629; have hfz11_0 := blk_frozen BK629.out 0) | ((with_reducible refine gate_callee (f := 22) rfl ?_); refine gl_ 9 Try.func22 #[.agg #[.slice A0_0 l0_0.length c0_0]] ?_; (with_reducible refine (impl_ArfFailure.calls k _ _ l0_0 t630 t631 t632 t633 _ ?side1 ?side2 A2.out).mono ?_); (case side1 => exact cs_ HR0_0 HB); (case side2 => exact HC0_0.out); rintro e w12 ⟨rfl, hb⟩; refine ⟨_, rfl, ?_⟩; replace BK629 := bb_ BK629 hb; replace HB := bs_ HB hb; (try clear hb); (try clear hb2); (try clear hk); (try clear hi); have hcz13_0 := bc_ BK629; have hfz13_0 := blk_frozen BK629.out 0) | ((with_reducible refine gate_callee (f := 49) rfl ?_); refine gl_ 15 Try.func49 #[.agg #[.slice A0_0 l0_0.length c0_0]] ?_; (with_reducible refine (impl_IsSemigroup.calls k _ _ l0_0 false _ ?side1 ?side2 A3.out).mono ?_); (case side1 => exact cs_ HR0_0 HB); (case side2 => exact HC0_0.out); rintro e w14 ⟨rfl, hb⟩; refine ⟨_, rfl, ?_⟩; replace BK629 := bb_ BK629 hb; replace HB := bs_ HB hb; (try clear hb); (try clear hb2); (try clear hk); (try clear hi)))
 go_ret
 exact ⟨er_, bl_ HB.out⟩
def spec_l4Small.l0 : Nat → Int → List Int → List Bool → Int → Option (List Int)
 | 0, _, _, _, _ => none
 | k + 1, x1, x5, x6, x7 => if x7 < x1 then (if 0 ≤ x7 then (if x7 < (x6.length : Int) then (if rdOf false x6 x7 = true then (if x5.length < 17592186044416 then (spec_l4Small.l0 k x1 (x5 ++ [x7]) x6 (wrap64 (x7 + 1))) else (none)) else (spec_l4Small.l0 k x1 x5 x6 (wrap64 (x7 + 1)))) else (none)) else (none)) else (some x5)
def spec_l4Small.f (k : Nat) (l0_0 : List Int) (a1 : Int) : Option (List Int) := (some (([] : List Int) : List Int)).bind fun y636 => (if a1 < 1 then (some y636) else ((spec_l3Table.f k l0_0 a1).bind fun t639 => (spec_l4Small.l0 k a1 y636 t639 0)))
theorem spec_l4Small.calls (k : Nat) (A0_0 : Option Addr) (c0_0 : Nat) (l0_0 : List Int) (a1 : Int) (r : List Int) (w : World) (hr0_0 : Kd.C (Kd.int .i64) w A0_0 l0_0.length l0_0) (hc0_0 : l0_0.length ≤ c0_0) (h : spec_l4Small.f k l0_0 a1 = some r) :
 Calls Try.prog 106 #[.agg #[.slice A0_0 l0_0.length c0_0], .int .i64 a1] w fun e w' => ∃ v0_ : Value, e = .returned (v0_) ∧ Kd.R (Kd.int .i64) 3 w' w.heap.size (fun _ => True) v0_ r ∧ Below w.heap.size w w' := by
 have hu29 := Try.underlying29
 have HR0_0 := am_ hr0_0
 have HC0_0 := am_ hc0_0
 clear hr0_0 hc0_0
 have HB := am_ (Below.refl w.heap.size w)
 have H := h
 clear h
 unfold spec_l4Small.f at H
 obtain ⟨y636, hy636⟩ : ∃ y_ : List Int, y_ = (([] : List Int)) := ⟨_, rfl⟩
 replace H : (if a1 < 1 then (some y636) else ((spec_l3Table.f k l0_0 a1).bind fun t639 => (spec_l4Small.l0 k a1 y636 t639 0))) = some r := hr_ hy636 H
 have Ny636 := am_ hy636
 clear hy636
 by_cases c3 : a1 < 1
 ·rw [if_pos c3] at H
  have c3b0 := decide_eq_true c3
  clear c3
  obtain rfl := Option.some.inj H
  go_enter Try.func106, Try.ntmps106
  go_wp2_with (first | ((with_reducible refine gate_dst (N := 2) rfl ?_); refine be_ 2 #[.slice A0_0 l0_0.length c0_0] 29 fun gb635 hg w4 hbox hb => ?_; have BK635 := am_ (hbox); have GW635 := ge_ hg HB; have GE635 := ge_ hg HB; replace HB := bs_ HB hb; clear hb hbox hg) | ((with_reducible refine gate_dst (N := 8) rfl ?_); refine Kd.R_lit (Kd.int .i64) _ 3 ?hg (N := 8) ?hd (xs := ([] : List Int)) (inner := []) (ok := fun _ => True) (okp := fun _ => True) ?hr ?hp (fun _ hk => hk) trivial (Below.refl _ _) (Nat.le_refl _) (by simp) ?_; (case hd => rfl); (case hg => rfl); (case hr => first | (go_simp; done) | (go_simp; rfl)); (case hp => exact (Reps.none _ _)); intro v637 w5 ho6 hb hg_ hnew_; clear hg_ hnew_; (first | rw [← Ny636.out] at ho6 | (simp only [Int.reduceToNat] at ho6; rw [← Ny636.out] at ho6)); have HO638 := rl_ ho6 HB; replace BK635 := bb_ BK635 hb; replace HB := bs_ HB hb; clear hb ho6))
  go_ret
  exact ⟨_, er_, kr_ HO638.out, bl_ HB.out⟩
 rw [if_neg c3] at H
 have c3b0 : decide (a1 < 1) = false := decide_eq_false c3
 clear c3
 obtain ⟨t639, A7, H⟩ := ob_ H
 (try dsimp only at H)
 have H' := am_ H
 clear H
 go_enter Try.func106, Try.ntmps106
 go_wp2_with (first | ((with_reducible refine gate_dst (N := 2) rfl ?_); refine be_ 2 #[.slice A0_0 l0_0.length c0_0] 29 fun gb635 hg w8 hbox hb => ?_; have BK635 := am_ (hbox); have GW635 := ge_ hg HB; have GE635 := ge_ hg HB; replace HB := bs_ HB hb; clear hb hbox hg) | ((with_reducible refine gate_dst (N := 8) rfl ?_); refine Kd.R_lit (Kd.int .i64) _ 3 ?hg (N := 8) ?hd (xs := ([] : List Int)) (inner := []) (ok := fun _ => True) (okp := fun _ => True) ?hr ?hp (fun _ hk => hk) trivial (Below.refl _ _) (Nat.le_refl _) (by simp) ?_; (case hd => rfl); (case hg => rfl); (case hr => first | (go_simp; done) | (go_simp; rfl)); (case hp => exact (Reps.none _ _)); intro v637 w9 ho10 hb hg_ hnew_; clear hg_ hnew_; (first | rw [← Ny636.out] at ho10 | (simp only [Int.reduceToNat] at ho10; rw [← Ny636.out] at ho10)); have HO638 := rl_ ho10 HB; replace BK635 := bb_ BK635 hb; replace HB := bs_ HB hb; clear hb ho10; have hcz11_0 := bc_ BK635; have hfz11_0 := blk_frozen BK635.out 0) | ((with_reducible refine gate_callee (f := 99) rfl ?_); refine gl_ 15 Try.func99 #[.slice A0_0 l0_0.length c0_0, .int .i64 a1] ?_; (with_reducible refine (spec_l3Table.calls k _ _ l0_0 a1 t639 _ ?side1 ?side2 A7.out).mono ?_); (case side1 => exact cs_ HR0_0 HB); (case side2 => exact HC0_0.out); rintro e w12 ⟨v640, rfl, ho0, hb⟩; refine ⟨_, rfl, ?_⟩; replace HO638 := rb_ HO638 hb; have HO641 := rl_ ho0 HB; replace BK635 := bb_ BK635 hb; replace HB := bs_ HB hb; (try clear hb); (try clear hb2); (try clear hk); (try clear hi); (try clear ho0)))
 go_loopg [5, 7] k (fun kq v5 v7 w' => ∃ (x5_1 : List Int) (x7_1 : Int), v7 = .int .i64 x7_1 ∧ Aside0 (spec_l4Small.l0 kq a1 x5_1 t639 x7_1 = some r) ∧ Aside0 (kq ≤ k) ∧ Aside0 (Kd.R (Kd.int .i64) 3 w' w.heap.size (fun _ => True) v5 x5_1) ∧ Aside0 (Kd.R Kd.bool 4 w' w.heap.size (fun _ => True) v640 t639) ∧ Aside0 (w'.heap[gb635]? = some (.cells #[(.slice A0_0 l0_0.length c0_0)] 29 (0, 0))) ∧ Aside0 (Below w.heap.size w w'))
 case atStart => exact ⟨(y636), (0), sd_, H', ⟨Nat.le_refl _⟩, ⟨kr_ HO638.out⟩, ⟨kr_ HO641.out⟩, ⟨bk_ BK635.out⟩, ⟨bl_ HB.out⟩⟩
 case round =>
  clear H'
  try clear c1
  try clear p2
  try clear c9
  try clear c10
  try clear hcz11_0
  try clear hfz11_0
  obtain ⟨x5_1, x7_1, rfl, HA, HK1, HO_5, HO_6, BK635, HB⟩ := hrel
  cases gk with
  | zero => exact absurd HA.out (by simp [spec_l4Small.l0])
  | succ k1 =>
   have H := HA.out
   clear HA
   simp only [spec_l4Small.l0] at H
   by_cases c13 : x7_1 < a1
   rotate_left
   ·rw [if_neg c13] at H
    have c13b0 : decide (x7_1 < a1) = false := decide_eq_false c13
    clear c13
    obtain rfl := Option.some.inj H
    go_wp2
    go_ret
    exact ⟨_, er_, kr_ HO_5.out, bl_ HB.out⟩
   rw [if_pos c13] at H
   have c13b0 := decide_eq_true c13
   clear c13
   obtain ⟨c14, H⟩ := in_ H
   have c14b0 := decide_eq_true c14
   clear c14
   obtain ⟨c15, H⟩ := in_ H
   have c15b0 := decide_eq_true c15
   clear c15
   obtain ⟨bq16, hbq16⟩ : ∃ b_ : Bool, b_ = (rdOf false t639 x7_1) := ⟨_, rfl⟩
   replace H : (if bq16 = true then (if x5_1.length < 17592186044416 then (spec_l4Small.l0 k1 a1 (x5_1 ++ [x7_1]) t639 (wrap64 (x7_1 + 1))) else (none)) else (spec_l4Small.l0 k1 a1 x5_1 t639 (wrap64 (x7_1 + 1)))) = some r := by rw [← hbq16] at H; exact H
   have Nbq16 := am_ hbq16
   clear hbq16
   by_cases c17 : bq16 = true
   ·subst c17
    rw [if_pos rfl] at H
    obtain ⟨c18, H⟩ := in_ H
    have LMc18 := am_ c18
    clear c18
    obtain ⟨y643, hy643⟩ : ∃ y_ : List Int, y_ = (x5_1 ++ [x7_1]) := ⟨_, rfl⟩
    replace H : (spec_l4Small.l0 k1 a1 y643 t639 (wrap64 (x7_1 + 1))) = some r := hr_ hy643 H
    have Ny643 := am_ hy643
    clear hy643
    have H' := am_ H
    clear H
    obtain ⟨Ao19, co19, eo19⟩ := Kd.R_slice HO_6.out
    subst eo19
    obtain ⟨p642, q642, ad642, e642, hx642_0⟩ := ri_ (Kd.at_bool (Kd.R_reads' HO_6.out).2.2 x7_1)
    (try rw [← Nbq16.out] at hx642_0)
    cases e642
    go_wp2_with (first | ((with_reducible refine gate_builtin (b := .append) (xs := #[.tmp 25, .tmp 27]) rfl ?_); at_builtin; refine Kd.R_append (Kd.int .i64) (w0 := w) w.heap.size rfl (.tmp 25) (.tmp 27) 22 3 (.int .i64 0) 8 rfl Try.underlying22 info3 rfl (by decide) (by omega) u5 x5_1 x7_1 [.int .i64 x7_1] (fun _ => True) (fun _ => False) rfl rfl ?aP (fun _ hk => hk.elim) ?aF ?aO ?aB ?aS ?aL ?_; (case aP => exact rfl); (case aB => exact (bl_ HB.out)); (case aF => exact (fun _ _ => trivial)); (case aO => exact (kr_ HO_5.out)); (case aS => exact (below_size (bl_ HB.out))); (case aL => have := LMc18.out; omega); intro v644 w20 ho hb hg hat; rw [← Ny643.out] at ho; have n0_ := am_ (Kd.R_over' (kr_ HO_6.out) (Kd.R_typed (kr_ HO_5.out)) (by decide) hg); have n1_ := am_ (blk_grown (g := gb635) (o := .cells #[.slice A0_0 l0_0.length c0_0] 29 (0, 0)) (bk_ BK635.out) hg (Kd.R_ne HO_5.out BK635.out (by decide))); have n2_ := am_ (hb); have n3_ := am_ (ho); clear HO_6; clear BK635; clear HB; clear HO_5; have HO_6 := n0_; have BK635 := n1_; have HB := n2_; have HO645 := n3_; clear n0_ n1_ n2_ n3_; clear ho hb hg hat))
    go_roundg k1
    case measure => have := HK1.out; omega
    case rel => exact ⟨(y643), (wrap64 (x7_1 + 1)), sd_, H', ⟨by have := HK1.out; omega⟩, ⟨kr_ HO645.out⟩, ⟨kr_ HO_6.out⟩, ⟨bk_ BK635.out⟩, ⟨bl_ HB.out⟩⟩
   obtain rfl := Bool.eq_false_iff.mpr c17
   rw [if_neg nf_] at H
   have H' := am_ H
   clear H
   obtain ⟨Ao21, co21, eo21⟩ := Kd.R_slice HO_6.out
   subst eo21
   obtain ⟨p642, q642, ad642, e642, hx642_0⟩ := ri_ (Kd.at_bool (Kd.R_reads' HO_6.out).2.2 x7_1)
   (try rw [← Nbq16.out] at hx642_0)
   cases e642
   go_wp2
   go_roundg k1
   case measure => have := HK1.out; omega
   case rel => exact ⟨(x5_1), (wrap64 (x7_1 + 1)), sd_, H', ⟨by have := HK1.out; omega⟩, ⟨kr_ HO_5.out⟩, ⟨kr_ HO_6.out⟩, ⟨bk_ BK635.out⟩, ⟨bl_ HB.out⟩⟩
def spec_SmallElements.f (k : Nat) (l0_0 : List Int) : Option (List Int) := (spec_IsSemigroup.f k l0_0).bind fun t647 => (if t647 = true then ((spec_ConductorOf.f k l0_0).bind fun t648 => ((spec_l4Small.f k l0_0 t648).bind fun t649 => (some t649))) else (some (([] : List Int))))
theorem spec_SmallElements.calls (k : Nat) (A0_0 : Option Addr) (c0_0 : Nat) (l0_0 : List Int) (r : List Int) (w : World) (hr0_0 : Kd.C (Kd.int .i64) w A0_0 l0_0.length l0_0) (hc0_0 : l0_0.length ≤ c0_0) (h : spec_SmallElements.f k l0_0 = some r) :
 Calls Try.prog 60 #[.agg #[.slice A0_0 l0_0.length c0_0]] w fun e w' => ∃ v0_ : Value, e = .returned (v0_) ∧ Kd.R (Kd.int .i64) 3 w' w.heap.size (fun _ => True) v0_ r ∧ Below w.heap.size w w' := by
 have hu29 := Try.underlying29
 have HR0_0 := am_ hr0_0
 have HC0_0 := am_ hc0_0
 clear hr0_0 hc0_0
 have HB := am_ (Below.refl w.heap.size w)
 have H := h
 clear h
 unfold spec_SmallElements.f at H
 obtain ⟨t647, A2, H⟩ := ob_ H
 (try dsimp only at H)
 by_cases c3 : t647 = true
 rotate_left
 ·obtain rfl := Bool.eq_false_iff.mpr c3
  rw [if_neg nf_] at H
  obtain ⟨y652, hy652⟩ : ∃ y_ : List Int, y_ = (([] : List Int)) := ⟨_, rfl⟩
  replace H : (some y652) = some r := hr_ hy652 H
  have Ny652 := am_ hy652
  clear hy652
  obtain rfl := Option.some.inj H
  go_enter Try.func60, Try.ntmps60
  go_wp2_with (first | ((with_reducible refine gate_dst (N := 1) rfl ?_); refine be_ 1 #[.slice A0_0 l0_0.length c0_0] 29 fun gb646 hg w12 hbox hb => ?_; have BK646 := am_ (hbox); have GW646 := ge_ hg HB; have GE646 := ge_ hg HB; replace HB := bs_ HB hb; clear hb hbox hg; have hcz13_0 := bc_ BK646; have hfz13_0 := blk_frozen BK646.out 0) | ((with_reducible refine gate_callee (f := 52) rfl ?_); refine gl_ 4 Try.func52 #[.agg #[.slice A0_0 l0_0.length c0_0]] ?_; (with_reducible refine (spec_IsSemigroup.calls k _ _ l0_0 false _ ?side1 ?side2 A2.out).mono ?_); (case side1 => exact cs_ HR0_0 HB); (case side2 => exact HC0_0.out); rintro e w14 ⟨rfl, hb⟩; refine ⟨_, rfl, ?_⟩; replace BK646 := bb_ BK646 hb; replace HB := bs_ HB hb; (try clear hb); (try clear hb2); (try clear hk); (try clear hi)) | ((with_reducible refine gate_dst (N := 6) rfl ?_); refine Kd.R_lit (Kd.int .i64) _ 3 ?hg (N := 6) ?hd (xs := ([] : List Int)) (inner := []) (ok := fun _ => True) (okp := fun _ => True) ?hr ?hp (fun _ hk => hk) trivial (Below.refl _ _) (Nat.le_refl _) (by simp) ?_; (case hd => rfl); (case hg => rfl); (case hr => first | (go_simp; done) | (go_simp; rfl)); (case hp => exact (Reps.none _ _)); intro v653 w15 ho16 hb hg_ hnew_; clear hg_ hnew_; (first | rw [← Ny652.out] at ho16 | (simp only [Int.reduceToNat] at ho16; rw [← Ny652.out] at ho16)); have HO654 := rl_ ho16 HB; replace BK646 := bb_ BK646 hb; replace HB := bs_ HB hb; clear hb ho16))
  go_ret
  exact ⟨_, er_, kr_ HO654.out, bl_ HB.out⟩
 subst c3
 rw [if_pos rfl] at H
 obtain ⟨t648, A4, H⟩ := ob_ H
 (try dsimp only at H)
 obtain ⟨t649, A5, H⟩ := ob_ H
 (try dsimp only at H)
 obtain rfl := Option.some.inj H
 go_enter Try.func60, Try.ntmps60
 try go_wp2_with (first | ((with_reducible refine gate_dst (N := 1) rfl ?_); refine be_ 1 #[.slice A0_0 l0_0.length c0_0] 29 fun gb646 hg w6 hbox hb => ?_; have BK646 := am_ (hbox); have GW646 := ge_ hg HB; have GE646 := ge_ hg HB; replace HB := bs_ HB hb; clear hb hbox hg; have hcz7_0 := bc_ BK646; have hfz7_0 := blk_frozen BK646.out 0) | ((with_reducible refine gate_callee (f := 52) rfl ?_); refine gl_ 4 Try.func52 #[.agg #[.slice A0_0 l0_0.length c0_0]] ?_; (with_reducible refine (spec_IsSemigroup.calls k _ _ l0_0 true _ ?side1 ?side2 A2.out).mono ?_); (case side1 => exact cs_ HR0_0 HB); (case side2 => exact HC0_0.out); rintro e w8 ⟨rfl, hb⟩; refine ⟨_, rfl, ?_⟩; replace BK646 := bb_ BK646 hb; replace HB := bs_ HB hb; (try clear hb); (try clear hb2); (try clear hk); (try clear hi)))
 replace BK646 := am_ (blk_drew BK646.out)
 replace HB := am_ (below_drew1 HB.out)
 refine start_ (n := 5) (S := fun w' => w'.cell? ⟨gb646, 0, none⟩ = some (.slice A0_0 l0_0.length c0_0)) (ds := []) (fl_ 5 0) (by kernel_rfl) rfl rfl ((blk_cell BK646.out 0).trans rfl) (fun hHeld => ?_)
 generalize w8.drew = w9 at BK646 HB hHeld ⊢
 refine ta_ 0 7 (fl_ 5 1) ?_
 refine ta_ 1 8 (fl_ 5 2) ?_
 refine on_ 2 9 (fl_ 5 3) fun K hK => ?_
 refine go_ Try.func54 #[.agg #[.slice A0_0 l0_0.length c0_0]] ?_
 with_reducible refine (spec_ConductorOf.calls k _ _ l0_0 t648 _ ?side1 ?side2 A4.out).mono ?_
 (case side1 => exact cs_ HR0_0 HB)
 (case side2 => exact HC0_0.out)
 rintro e w10 ⟨rfl, hb⟩
 refine ⟨_, rfl, ?_⟩
 replace BK646 := bb_ BK646 hb
 replace HB := bs_ HB hb
 (try clear hb)
 (try clear hb2)
 (try clear hk)
 (try clear hi)
 refine hK.out _ _ ((blk_cell BK646.out 0).trans rfl) (fun hHeld => ?_)
 clear hK K
 refine no_ 9 ?_
 refine on_ 3 10 (fl_ 5 4) fun K hK => ?_
 refine go_ Try.func106 #[.agg #[.slice A0_0 l0_0.length c0_0], .int .i64 t648] ?_
 with_reducible refine (spec_l4Small.calls k _ _ l0_0 t648 t649 _ ?side1 ?side2 A5.out).mono ?_
 (case side1 => exact cs_ HR0_0 HB)
 (case side2 => exact HC0_0.out)
 rintro e w11 ⟨v650, rfl, ho0, hb⟩
 refine ⟨_, rfl, ?_⟩
 have HO651 := rl_ ho0 HB
 replace BK646 := bb_ BK646 hb
 replace HB := bs_ HB hb
 (try clear hb)
 (try clear hb2)
 (try clear hk)
 (try clear hi)
 (try clear ho0)
 refine hK.out _ _ ((blk_cell BK646.out 0).trans rfl) (fun hHeld => ?_)
 clear hK K
 refine no_ 10 ?_
 refine pu_ 4 2 (fl_ 5 5) ?_
 refine done_ (by kernel_rfl) ?_
 try go_wp2
 go_ret
 exact ⟨_, er_, kr_ HO651.out, bl_ HB.out⟩
def spec_l3Has.f (k : Nat) (l0_0 : List Int) (a1 : Int) : Option (Bool) := if a1 < 0 then (some (decide (a1 > 0))) else (if a1 ≥ 200 then (some (decide (a1 > 0))) else ((spec_l3Table.f k l0_0 a1).bind fun t656 => (if 0 ≤ a1 then (if a1 < (t656.length : Int) then (some (rdOf false t656 a1)) else (none)) else (none))))
theorem spec_l3Has.calls (k : Nat) (A0_0 : Option Addr) (c0_0 : Nat) (l0_0 : List Int) (a1 : Int) (r : Bool) (w : World) (hr0_0 : Kd.C (Kd.int .i64) w A0_0 l0_0.length l0_0) (hc0_0 : l0_0.length ≤ c0_0) (h : spec_l3Has.f k l0_0 a1 = some r) :
 Calls Try.prog 65 #[.agg #[.slice A0_0 l0_0.length c0_0], .int .i64 a1] w fun e w' => e = .returned (.bool r) ∧ Below w.heap.size w w' := by
 have hu29 := Try.underlying29
 have HR0_0 := am_ hr0_0
 have HC0_0 := am_ hc0_0
 clear hr0_0 hc0_0
 have HB := am_ (Below.refl w.heap.size w)
 have H := h
 clear h
 unfold spec_l3Has.f at H
 by_cases c3 : a1 < 0
 ·rw [if_pos c3] at H
  have c3b0 := decide_eq_true c3
  clear c3
  obtain rfl := Option.some.inj H
  go_enter Try.func65, Try.ntmps65
  go_wp2_with (first | ((with_reducible refine gate_dst (N := 2) rfl ?_); refine be_ 2 #[.slice A0_0 l0_0.length c0_0] 29 fun gb655 hg w4 hbox hb => ?_; have BK655 := am_ (hbox); have GW655 := ge_ hg HB; have GE655 := ge_ hg HB; replace HB := bs_ HB hb; clear hb hbox hg))
  go_ret
  exact ⟨er_, bl_ HB.out⟩
 rw [if_neg c3] at H
 have c3b0 : decide (a1 < 0) = false := decide_eq_false c3
 clear c3
 by_cases c5 : a1 ≥ 200
 ·rw [if_pos c5] at H
  have c5b0 : decide (200 ≤ a1) = true := decide_eq_true c5
  clear c5
  obtain rfl := Option.some.inj H
  go_enter Try.func65, Try.ntmps65
  go_wp2_with (first | ((with_reducible refine gate_dst (N := 2) rfl ?_); refine be_ 2 #[.slice A0_0 l0_0.length c0_0] 29 fun gb655 hg w6 hbox hb => ?_; have BK655 := am_ (hbox); have GW655 := ge_ hg HB; have GE655 := ge_ hg HB; replace HB := bs_ HB hb; clear hb hbox hg))
  go_ret
  exact ⟨er_, bl_ HB.out⟩
 rw [if_neg c5] at H
 have c5b0 : decide (200 ≤ a1) = false := decide_eq_false c5
 clear c5
 obtain ⟨t656, A7, H⟩ := ob_ H
 (try dsimp only at H)
 by_cases c8 : 0 ≤ a1
 ·rw [if_pos c8] at H
  have c8b0 := decide_eq_true c8
  clear c8
  by_cases c9 : a1 < (t656.length : Int)
  ·rw [if_pos c9] at H
   have c9b0 := decide_eq_true c9
   clear c9
   obtain rfl := Option.some.inj H
   go_enter Try.func65, Try.ntmps65
   go_wp2_with (first | ((with_reducible refine gate_dst (N := 2) rfl ?_); refine be_ 2 #[.slice A0_0 l0_0.length c0_0] 29 fun gb655 hg w10 hbox hb => ?_; have BK655 := am_ (hbox); have GW655 := ge_ hg HB; have GE655 := ge_ hg HB; replace HB := bs_ HB hb; clear hb hbox hg; have hcz11_0 := bc_ BK655; have hfz11_0 := blk_frozen BK655.out 0) | ((with_reducible refine gate_callee (f := 99) rfl ?_); refine gl_ 16 Try.func99 #[.slice A0_0 l0_0.length c0_0, .int .i64 a1] ?_; (with_reducible refine (spec_l3Table.calls k _ _ l0_0 a1 t656 _ ?side1 ?side2 A7.out).mono ?_); (case side1 => exact cs_ HR0_0 HB); (case side2 => exact HC0_0.out); rintro e w12 ⟨v657, rfl, ho0, hb⟩; refine ⟨_, rfl, ?_⟩; have HO658 := rl_ ho0 HB; replace BK655 := bb_ BK655 hb; replace HB := bs_ HB hb; (try clear hb); (try clear hb2); (try clear hk); (try clear hi); (try clear ho0); obtain ⟨Ao13, co13, eo13⟩ := Kd.R_slice HO658.out; subst eo13; obtain ⟨p659, q659, ad659, e659, hx659_0⟩ := ri_ (Kd.at_bool (Kd.R_reads' HO658.out).2.2 a1); cases e659))
   go_ret
   exact ⟨er_, bl_ HB.out⟩
  rw [if_neg c9] at H
  exact absurd H (by simp)
 rw [if_neg c8] at H
 exact absurd H (by simp)
def spec_l15Has.f (k : Nat) (l0_0 : List Int) (a1 : Int) : Option (Bool) := if a1 = 0 then (some true) else ((spec_l3Has.f k l0_0 a1).bind fun t661 => (some t661))
theorem spec_l15Has.calls (k : Nat) (A0_0 : Option Addr) (c0_0 : Nat) (l0_0 : List Int) (a1 : Int) (r : Bool) (w : World) (hr0_0 : Kd.C (Kd.int .i64) w A0_0 l0_0.length l0_0) (hc0_0 : l0_0.length ≤ c0_0) (h : spec_l15Has.f k l0_0 a1 = some r) :
 Calls Try.prog 61 #[.agg #[.slice A0_0 l0_0.length c0_0], .int .i64 a1] w fun e w' => e = .returned (.bool r) ∧ Below w.heap.size w w' := by
 have hu29 := Try.underlying29
 have HR0_0 := am_ hr0_0
 have HC0_0 := am_ hc0_0
 clear hr0_0 hc0_0
 have HB := am_ (Below.refl w.heap.size w)
 have H := h
 clear h
 unfold spec_l15Has.f at H
 by_cases c3 : a1 = 0
 ·rw [if_pos c3] at H
  have c3b0 : (a1 == 0) = true := beq_iff_eq.mpr c3
  have c3b1 : (a1 != 0) = false := bne_eq_false_iff_eq.mpr c3
  clear c3
  obtain rfl := Option.some.inj H
  go_enter Try.func61, Try.ntmps61
  go_wp2_with (first | ((with_reducible refine gate_dst (N := 2) rfl ?_); refine be_ 2 #[.slice A0_0 l0_0.length c0_0] 29 fun gb660 hg w4 hbox hb => ?_; have BK660 := am_ (hbox); have GW660 := ge_ hg HB; have GE660 := ge_ hg HB; replace HB := bs_ HB hb; clear hb hbox hg))
  go_ret
  exact ⟨er_, bl_ HB.out⟩
 rw [if_neg c3] at H
 have c3b0 : (a1 == 0) = false := beq_eq_false_iff_ne.mpr c3
 have c3b1 : (a1 != 0) = true := bne_iff_ne.mpr c3
 obtain ⟨t661, A5, H⟩ := ob_ H
 (try dsimp only at H)
 obtain rfl := Option.some.inj H
 go_enter Try.func61, Try.ntmps61
 go_wp2_with (first | ((with_reducible refine gate_dst (N := 2) rfl ?_); refine be_ 2 #[.slice A0_0 l0_0.length c0_0] 29 fun gb660 hg w6 hbox hb => ?_; have BK660 := am_ (hbox); have GW660 := ge_ hg HB; have GE660 := ge_ hg HB; replace HB := bs_ HB hb; clear hb hbox hg; have hcz7_0 := bc_ BK660; have hfz7_0 := blk_frozen BK660.out 0) | (go_at_call 65; (with_reducible refine (spec_l3Has.calls k _ _ l0_0 a1 t661 _ ?side1 ?side2 A5.out).mono ?_); (case side1 => exact cs_ HR0_0 HB); (case side2 => exact HC0_0.out); rintro e w8 ⟨rfl, hb⟩; replace BK660 := bb_ BK660 hb; replace HB := bs_ HB hb; (try clear hb); (try clear hb2); (try clear hk); (try clear hi)))
 go_ret
 exact ⟨er_, bl_ HB.out⟩
mutual
def spec_ArfFailure.l0 : Nat → List Int → Int → List Int → Option (Int × Int × Int × Bool)
 | 0, _, _, _ => none
 | k + 1, x6, x7, x663000 => if x7 < (x6.length : Int) then (spec_ArfFailure.l1 k x6 x7 0 x663000) else (some (0, 0, 0, false))
def spec_ArfFailure.l1 : Nat → List Int → Int → Int → List Int → Option (Int × Int × Int × Bool)
 | 0, _, _, _, _ => none
 | k + 1, x6, x7, x8, x663000 => if x8 ≤ x7 then (spec_ArfFailure.l2 k x6 x7 x8 0 x663000) else (spec_ArfFailure.l0 k x6 (wrap64 (x7 + 1)) x663000)
def spec_ArfFailure.l2 : Nat → List Int → Int → Int → Int → List Int → Option (Int × Int × Int × Bool)
 | 0, _, _, _, _, _ => none
 | k + 1, x6, x7, x8, x9, x663000 => if x9 ≤ x8 then (if 0 ≤ x7 then (if x7 < (x6.length : Int) then (if 0 ≤ x8 then (if x8 < (x6.length : Int) then (if 0 ≤ x9 then (if x9 < (x6.length : Int) then ((spec_l15Has.f k x663000 (wrap64 ((wrap64 ((rd x6 x7) + (rd x6 x8))) - (rd x6 x9)))).bind fun t669 => (if t669 = true then (spec_ArfFailure.l2 k x6 x7 x8 (wrap64 (x9 + 1)) x663000) else (some (rd x6 x7, rd x6 x8, rd x6 x9, true)))) else (none)) else (none)) else (none)) else (none)) else (none)) else (none)) else (spec_ArfFailure.l1 k x6 x7 (wrap64 (x8 + 1)) x663000)
end
def spec_ArfFailure.f (k : Nat) (l0_0 : List Int) : Option (Int × Int × Int × Bool) := (spec_SmallElements.f k l0_0).bind fun t663 => (spec_ArfFailure.l0 k t663 0 l0_0)
def spec_ArfFailure.T11 : Bool × List (List Nat × List Nat) := (true, [([], []), ([], []), ([], []), ([1, 2], [1, 2]), ([3], [3]), ([], []), ([], []), ([5, 6], [5, 6]), ([7], [7]), ([4, 8], [4, 8]), ([], []), ([], []), ([10, 11], [10, 11]), ([12], [12]), ([9, 13], [9, 13]), ([0, 14], [0, 14]), ([15], [15])])
def spec_ArfFailure.B11 : List Nat := [0, 0, 0, 6, 14, 0, 0, 96, 224, 510, 0, 0, 3072, 7168, 16382, 32767, 65535]
theorem spec_ArfFailure.tab11 : rtab .any (opsOf Try.f23 11) = spec_ArfFailure.T11 := by kernel_rfl
theorem spec_ArfFailure.bits11 : waitsOk spec_ArfFailure.T11.2 spec_ArfFailure.B11 = true := by kernel_rfl
def spec_ArfFailure.T12 : Bool × List (List Nat × List Nat) := (true, [([], []), ([], []), ([0, 1], [0, 1]), ([2], [2]), ([], []), ([], []), ([4, 5], [4, 5]), ([6], [6]), ([], []), ([], []), ([8, 9], [8, 9]), ([10], [10]), ([3, 0, 1, 2, 3], [3]), ([7, 12, 0, 1, 2, 3, 4, 5, 6, 7, 12], [7]), ([11, 13, 0, 1, 2, 3, 4, 5, 6, 7, 8, 9, 10, 11, 12, 13], [11]), ([14, 0, 1, 2, 3, 4, 5, 6, 7, 8, 9, 10, 11, 12, 13, 14], [])])
def spec_ArfFailure.B12 : List Nat := [0, 0, 3, 7, 0, 0, 48, 112, 0, 0, 768, 1792, 15, 4351, 16383, 32767]
theorem spec_ArfFailure.tab12 : rtab .any (opsOf Try.f23 12) = spec_ArfFailure.T12 := by kernel_rfl
theorem spec_ArfFailure.bits12 : waitsOk spec_ArfFailure.T12.2 spec_ArfFailure.B12 = true := by kernel_rfl
theorem spec_ArfFailure.calls (k : Nat) (A0_0 : Option Addr) (c0_0 : Nat) (l0_0 : List Int) (r1 : Int) (r2 : Int) (r3 : Int) (r4 : Bool) (w : World) (hr0_0 : Kd.C (Kd.int .i64) w A0_0 l0_0.length l0_0) (hc0_0 : l0_0.length ≤ c0_0) (h : spec_ArfFailure.f k l0_0 = some (r1, r2, r3, r4)) :
 Calls Try.prog 23 #[.agg #[.slice A0_0 l0_0.length c0_0]] w fun e w' => e = .returned (.tuple #[.int .i64 r1, .int .i64 r2, .int .i64 r3, .bool r4]) ∧ Below w.heap.size w w' := by
 have hu29 := Try.underlying29
 have HR0_0 := am_ hr0_0
 have HC0_0 := am_ hc0_0
 clear hr0_0 hc0_0
 have HB := am_ (Below.refl w.heap.size w)
 have H := h
 clear h
 unfold spec_ArfFailure.f at H
 obtain ⟨t663, A2, H⟩ := ob_ H
 (try dsimp only at H)
 have H' := am_ H
 clear H
 go_enter Try.func23, Try.ntmps23
 go_wp2_with (first | ((with_reducible refine gate_dst (N := 1) rfl ?_); refine be_ 1 #[.slice A0_0 l0_0.length c0_0] 29 fun gb662 hg w3 hbox hb => ?_; have BK662 := am_ (hbox); have GW662 := ge_ hg HB; have GE662 := ge_ hg HB; replace HB := bs_ HB hb; clear hb hbox hg; have hcz4_0 := bc_ BK662; have hfz4_0 := blk_frozen BK662.out 0) | ((with_reducible refine gate_callee (f := 60) rfl ?_); refine gl_ 11 Try.func60 #[.agg #[.slice A0_0 l0_0.length c0_0]] ?_; (with_reducible refine (spec_SmallElements.calls k _ _ l0_0 t663 _ ?side1 ?side2 A2.out).mono ?_); (case side1 => exact cs_ HR0_0 HB); (case side2 => exact HC0_0.out); rintro e w5 ⟨v664, rfl, ho0, hb⟩; refine ⟨_, rfl, ?_⟩; have HO665 := rl_ ho0 HB; replace BK662 := bb_ BK662 hb; replace HB := bs_ HB hb; (try clear hb); (try clear hb2); (try clear hk); (try clear hi); (try clear ho0)))
 go_loopg [7] k (fun kq v7 w' => ∃ (x7_1 : Int), v7 = .int .i64 x7_1 ∧ Aside0 (spec_ArfFailure.l0 kq t663 x7_1 l0_0 = some (r1, r2, r3, r4)) ∧ Aside0 (kq ≤ k) ∧ Aside0 (Kd.R (Kd.int .i64) 3 w' w.heap.size (fun _ => True) v664 t663) ∧ Aside0 (w'.heap[gb662]? = some (.cells #[(.slice A0_0 l0_0.length c0_0)] 29 (0, 0))) ∧ Aside0 (Below w.heap.size w w'))
 case atStart => exact ⟨(0), sd_, H', ⟨Nat.le_refl _⟩, ⟨kr_ HO665.out⟩, ⟨bk_ BK662.out⟩, ⟨bl_ HB.out⟩⟩
 case round =>
  clear H'
  try clear c2
  try clear p2
  try clear hcz4_0
  try clear hfz4_0
  obtain ⟨x7_1, rfl, HA, HK1, HO_6, BK662, HB⟩ := hrel
  cases gk with
  | zero => exact absurd HA.out (by simp [spec_ArfFailure.l0])
  | succ k1 =>
   have H := HA.out
   clear HA
   simp only [spec_ArfFailure.l0] at H
   by_cases c6 : x7_1 < (t663.length : Int)
   rotate_left
   ·rw [if_neg c6] at H
    have c6b0 : decide (x7_1 < (t663.length : Int)) = false := decide_eq_false c6
    clear c6
    simp only [Option.some.injEq, Prod.mk.injEq] at H
    obtain ⟨rfl, rfl, rfl, rfl⟩ := H
    obtain ⟨Ao23, co23, eo23⟩ := Kd.R_slice HO_6.out
    subst eo23
    go_wp2
    refine bodyPost_ret (results_list (rs := [.tmp 2, .tmp 3, .tmp 4, .tmp 5]) rfl (by simp) (.tmp (.tmp (.tmp (.tmp .nil))))) rfl ?_
    exact ⟨er_, bl_ HB.out⟩
   rw [if_pos c6] at H
   have c6b0 := decide_eq_true c6
   clear c6
   have H' := am_ H
   clear H
   obtain ⟨Ao7, co7, eo7⟩ := Kd.R_slice HO_6.out
   subst eo7
   go_wp2
   go_loopg [8] k1 (fun kq v8 w' => ∃ (x8_2 : Int), v8 = .int .i64 x8_2 ∧ Aside0 (spec_ArfFailure.l1 kq t663 x7_1 x8_2 l0_0 = some (r1, r2, r3, r4)) ∧ Aside0 (kq ≤ k1) ∧ Aside0 (Kd.R (Kd.int .i64) 3 w' w.heap.size (fun _ => True) (.slice Ao7 t663.length co7) t663) ∧ Aside0 (w'.heap[gb662]? = some (.cells #[(.slice A0_0 l0_0.length c0_0)] 29 (0, 0))) ∧ Aside0 (Below w.heap.size w w'))
   case atStart => exact ⟨(0), sd_, H', ⟨Nat.le_refl _⟩, ⟨kr_ HO_6.out⟩, ⟨bk_ BK662.out⟩, ⟨bl_ HB.out⟩⟩
   case round =>
    clear H'
    try clear c2
    try clear p2
    try clear hcz4_0
    try clear hfz4_0
    obtain ⟨x8_2, rfl, HA, HK2, HO_6, BK662, HB⟩ := hrel
    cases gk with
    | zero => exact absurd HA.out (by simp [spec_ArfFailure.l1])
    | succ k2 =>
     have H := HA.out
     clear HA
     simp only [spec_ArfFailure.l1] at H
     by_cases c8 : x8_2 ≤ x7_1
     rotate_left
     ·rw [if_neg c8] at H
      have c8b0 : decide (x8_2 ≤ x7_1) = false := decide_eq_false c8
      clear c8
      have H' := am_ H
      clear H
      go_wp2
      go_roundg k2
      case measure => have := HK1.out; have := HK2.out; omega
      case rel => exact ⟨(wrap64 (x7_1 + 1)), sd_, H', ⟨by have := HK1.out; have := HK2.out; omega⟩, ⟨kr_ HO_6.out⟩, ⟨bk_ BK662.out⟩, ⟨bl_ HB.out⟩⟩
     rw [if_pos c8] at H
     have c8b0 := decide_eq_true c8
     clear c8
     have H' := am_ H
     clear H
     go_wp2
     go_loopg [9] k2 (fun kq v9 w' => ∃ (x9_3 : Int), v9 = .int .i64 x9_3 ∧ Aside0 (spec_ArfFailure.l2 kq t663 x7_1 x8_2 x9_3 l0_0 = some (r1, r2, r3, r4)) ∧ Aside0 (kq ≤ k2) ∧ Aside0 (Kd.R (Kd.int .i64) 3 w' w.heap.size (fun _ => True) (.slice Ao7 t663.length co7) t663) ∧ Aside0 (w'.heap[gb662]? = some (.cells #[(.slice A0_0 l0_0.length c0_0)] 29 (0, 0))) ∧ Aside0 (Below w.heap.size w w'))
     case atStart => exact ⟨(0), sd_, H', ⟨Nat.le_refl _⟩, ⟨kr_ HO_6.out⟩, ⟨bk_ BK662.out⟩, ⟨bl_ HB.out⟩⟩
     case round =>
      clear H'
      try clear c2
      try clear p2
      try clear hcz4_0
      try clear hfz4_0
      obtain ⟨x9_3, rfl, HA, HK3, HO_6, BK662, HB⟩ := hrel
      cases gk with
      | zero => exact absurd HA.out (by simp [spec_ArfFailure.l2])
      | succ k3 =>
       have H := HA.out
       clear HA
       simp only [spec_ArfFailure.l2] at H
       by_cases c9 : x9_3 ≤ x8_2
       rotate_left
       ·rw [if_neg c9] at H
        have c9b0 : decide (x9_3 ≤ x8_2) = false := decide_eq_false c9
        clear c9
        have H' := am_ H
        clear H
        go_wp2
        go_roundg k3
        case measure => have := HK1.out; have := HK2.out; have := HK3.out; omega
        case rel => exact ⟨(wrap64 (x8_2 + 1)), sd_, H', ⟨by have := HK1.out; have := HK2.out; have := HK3.out; omega⟩, ⟨kr_ HO_6.out⟩, ⟨bk_ BK662.out⟩, ⟨bl_ HB.out⟩⟩
       rw [if_pos c9] at H
       have c9b0 := decide_eq_true c9
       clear c9
       obtain ⟨c10, H⟩ := in_ H
       have c10b0 := decide_eq_true c10
       clear c10
       obtain ⟨c11, H⟩ := in_ H
       have c11b0 := decide_eq_true c11
       clear c11
       obtain ⟨c12, H⟩ := in_ H
       have c12b0 := decide_eq_true c12
       clear c12
       obtain ⟨c13, H⟩ := in_ H
       have c13b0 := decide_eq_true c13
       clear c13
       obtain ⟨c14, H⟩ := in_ H
       have c14b0 := decide_eq_true c14
       clear c14
       obtain ⟨c15, H⟩ := in_ H
       have c15b0 := decide_eq_true c15
       clear c15
       obtain ⟨t669, A16, H⟩ := ob_ H
       (try dsimp only at H)
       by_cases c17 : t669 = true
       ·subst c17
        rw [if_pos rfl] at H
        have H' := am_ H
        clear H
        try go_wp2
        replace HO_6 := am_ (Kd.R_drew HO_6.out)
        replace BK662 := am_ (blk_drew BK662.out)
        replace HB := am_ (below_drew1 HB.out)
        obtain ⟨p666, q666, ad666, e666, hx666_0⟩ := ri_ (Kd.at_int (Kd.R_reads' HO_6.out).2.2 x7_1)
        cases e666
        obtain ⟨p667, q667, ad667, e667, hx667_0⟩ := ri_ (Kd.at_int (Kd.R_reads' HO_6.out).2.2 x8_2)
        obtain rfl : ad666 = ad667 := (by injection e667)
        obtain ⟨p668, q668, ad668, e668, hx668_0⟩ := ri_ (Kd.at_int (Kd.R_reads' HO_6.out).2.2 x9_3)
        obtain rfl : ad666 = ad668 := (by injection e668)
        refine start_ (n := 17) (S := fun w' => w'.cell? ⟨gb662, 0, none⟩ = some (.slice A0_0 l0_0.length c0_0) ∧ w'.cell? (ad666.add (x7_1).toNat) = some (.int .i64 (rd t663 x7_1)) ∧ w'.cell? (ad666.add (x8_2).toNat) = some (.int .i64 (rd t663 x8_2)) ∧ w'.cell? (ad666.add (x9_3).toNat) = some (.int .i64 (rd t663 x9_3))) (ds := []) (fl_ 17 0) (by kernel_rfl) rfl rfl ⟨(blk_cell BK662.out 0).trans rfl, hx666_0, hx667_0, hx668_0⟩ (fun hHeld => ?_); refine with_tabW spec_ArfFailure.tab11 spec_ArfFailure.bits11 (fun HT_ HW_ => ?_)
        generalize wr.drew = w18 at HO_6 BK662 HB hx666_0 hx667_0 hx668_0 hHeld ⊢
        refine pu_ 1 29 (fm_ 17 2) ?_
        refine pu_ 2 30 (fm_ 17 6) ?_
        refine pu_ 3 31 (fm_ 17 14) ?_
        refine pu_ 5 33 (fm_ 17 46) ?_
        refine pu_ 6 34 (fm_ 17 110) ?_
        refine pu_ 7 35 (fm_ 17 238) ?_
        refine pu_ 10 38 (fm_ 17 1262) ?_
        refine pu_ 11 39 (fm_ 17 3310) ?_
        refine pu_ 12 40 (fm_ 17 7406) ?_
        refine ta_ 0 28 (fm_ 17 7407) ?_
        refine ta_ 4 32 (fm_ 17 7423) ?_
        refine ta_ 8 36 (fm_ 17 7679) ?_
        refine pu_ 9 37 (fl_ 17 13) ?_
        refine ta_ 13 41 (fl_ 17 14) ?_
        refine pu_ 14 42 (fl_ 17 15) ?_
        refine on_ 15 43 (fl_ 17 16) fun K hK => ?_
        refine go_ Try.func61 #[.agg #[.slice A0_0 l0_0.length c0_0], .int .i64 (wrap64 ((wrap64 ((rd t663 x7_1) + (rd t663 x8_2))) - (rd t663 x9_3)))] ?_
        with_reducible refine (spec_l15Has.calls k3 _ _ l0_0 (wrap64 ((wrap64 ((rd t663 x7_1) + (rd t663 x8_2))) - (rd t663 x9_3))) true _ ?side1 ?side2 A16.out).mono ?_
        (case side1 => exact cs_ HR0_0 HB)
        (case side2 => exact HC0_0.out)
        rintro e w19 ⟨rfl, hb⟩
        have HS1_ := (hb.cell (World.block_lt_of_cell? _ _ (hHeld.2.1))).trans (hHeld.2.1)
        have HS2_ := (hb.cell (World.block_lt_of_cell? _ _ (hHeld.2.2.1))).trans (hHeld.2.2.1)
        have HS3_ := (hb.cell (World.block_lt_of_cell? _ _ (hHeld.2.2.2))).trans (hHeld.2.2.2)
        refine ⟨_, rfl, ?_⟩
        replace HO_6 := rb_ HO_6 hb
        replace BK662 := bb_ BK662 hb
        replace HB := bs_ HB hb
        (try clear hb)
        (try clear hb2)
        (try clear hk)
        (try clear hi)
        refine hK.out _ _ ⟨(blk_cell BK662.out 0).trans rfl, HS1_, HS2_, HS3_⟩ (fun hHeld => ?_)
        clear hK K
        refine no_ 43 ?_
        refine pu_ 16 44 (fl_ 17 17) ?_
        refine done_ (done_of HT_.out (by kernel_rfl)) ?_
        try go_wp2
        go_roundg k3
        case measure => have := HK1.out; have := HK2.out; have := HK3.out; omega
        case rel => exact ⟨(wrap64 (x9_3 + 1)), sd_, H', ⟨by have := HK1.out; have := HK2.out; have := HK3.out; omega⟩, ⟨kr_ HO_6.out⟩, ⟨bk_ BK662.out⟩, ⟨bl_ HB.out⟩⟩
       obtain rfl := Bool.eq_false_iff.mpr c17
       rw [if_neg nf_] at H
       simp only [Option.some.injEq, Prod.mk.injEq] at H
       obtain ⟨rfl, rfl, rfl, rfl⟩ := H
       try go_wp2
       replace HO_6 := am_ (Kd.R_drew HO_6.out)
       replace BK662 := am_ (blk_drew BK662.out)
       replace HB := am_ (below_drew1 HB.out)
       obtain ⟨p666, q666, ad666, e666, hx666_0⟩ := ri_ (Kd.at_int (Kd.R_reads' HO_6.out).2.2 x7_1)
       cases e666
       obtain ⟨p667, q667, ad667, e667, hx667_0⟩ := ri_ (Kd.at_int (Kd.R_reads' HO_6.out).2.2 x8_2)
       obtain rfl : ad666 = ad667 := (by injection e667)
       obtain ⟨p668, q668, ad668, e668, hx668_0⟩ := ri_ (Kd.at_int (Kd.R_reads' HO_6.out).2.2 x9_3)
       obtain rfl : ad666 = ad668 := (by injection e668)
       refine start_ (n := 17) (S := fun w' => w'.cell? ⟨gb662, 0, none⟩ = some (.slice A0_0 l0_0.length c0_0) ∧ w'.cell? (ad666.add (x7_1).toNat) = some (.int .i64 (rd t663 x7_1)) ∧ w'.cell? (ad666.add (x8_2).toNat) = some (.int .i64 (rd t663 x8_2)) ∧ w'.cell? (ad666.add (x9_3).toNat) = some (.int .i64 (rd t663 x9_3))) (ds := []) (fl_ 17 0) (by kernel_rfl) rfl rfl ⟨(blk_cell BK662.out 0).trans rfl, hx666_0, hx667_0, hx668_0⟩ (fun hHeld => ?_); refine with_tabW spec_ArfFailure.tab11 spec_ArfFailure.bits11 (fun HT_ HW_ => ?_)
       generalize wr.drew = w20 at HO_6 BK662 HB hx666_0 hx667_0 hx668_0 hHeld ⊢
       refine pu_ 1 29 (fm_ 17 2) ?_
       refine pu_ 2 30 (fm_ 17 6) ?_
       refine pu_ 3 31 (fm_ 17 14) ?_
       refine pu_ 5 33 (fm_ 17 46) ?_
       refine pu_ 6 34 (fm_ 17 110) ?_
       refine pu_ 7 35 (fm_ 17 238) ?_
       refine pu_ 10 38 (fm_ 17 1262) ?_
       refine pu_ 11 39 (fm_ 17 3310) ?_
       refine pu_ 12 40 (fm_ 17 7406) ?_
       refine ta_ 0 28 (fm_ 17 7407) ?_
       refine ta_ 4 32 (fm_ 17 7423) ?_
       refine ta_ 8 36 (fm_ 17 7679) ?_
       refine pu_ 9 37 (fl_ 17 13) ?_
       refine ta_ 13 41 (fl_ 17 14) ?_
       refine pu_ 14 42 (fl_ 17 15) ?_
       refine on_ 15 43 (fl_ 17 16) fun K hK => ?_
       refine go_ Try.func61 #[.agg #[.slice A0_0 l0_0.length c0_0], .int .i64 (wrap64 ((wrap64 ((rd t663 x7_1) + (rd t663 x8_2))) - (rd t663 x9_3)))] ?_
       with_reducible refine (spec_l15Has.calls k3 _ _ l0_0 (wrap64 ((wrap64 ((rd t663 x7_1) + (rd t663 x8_2))) - (rd t663 x9_3))) false _ ?side1 ?side2 A16.out).mono ?_
       (case side1 => exact cs_ HR0_0 HB)
       (case side2 => exact HC0_0.out)
       rintro e w21 ⟨rfl, hb⟩
       have HS1_ := (hb.cell (World.block_lt_of_cell? _ _ (hHeld.2.1))).trans (hHeld.2.1)
       have HS2_ := (hb.cell (World.block_lt_of_cell? _ _ (hHeld.2.2.1))).trans (hHeld.2.2.1)
       have HS3_ := (hb.cell (World.block_lt_of_cell? _ _ (hHeld.2.2.2))).trans (hHeld.2.2.2)
       refine ⟨_, rfl, ?_⟩
       replace HO_6 := rb_ HO_6 hb
       replace BK662 := bb_ BK662 hb
       replace HB := bs_ HB hb
       (try clear hb)
       (try clear hb2)
       (try clear hk)
       (try clear hi)
       refine hK.out _ _ ⟨(blk_cell BK662.out 0).trans rfl, HS1_, HS2_, HS3_⟩ (fun hHeld => ?_)
       clear hK K
       refine no_ 43 ?_
       refine pu_ 16 44 (fl_ 17 17) ?_
       refine done_ (done_of HT_.out (by kernel_rfl)) ?_
       try go_wp2
       replace HO_6 := am_ (Kd.R_drew HO_6.out)
       replace BK662 := am_ (blk_drew BK662.out)
       replace HB := am_ (below_drew1 HB.out)
       obtain ⟨p670, q670, ad670, e670, hx670_0⟩ := ri_ (Kd.at_int (Kd.R_reads' HO_6.out).2.2 x7_1)
       obtain rfl : ad666 = ad670 := (by injection e670)
       obtain ⟨p671, q671, ad671, e671, hx671_0⟩ := ri_ (Kd.at_int (Kd.R_reads' HO_6.out).2.2 x8_2)
       obtain rfl : ad666 = ad671 := (by injection e671)
       obtain ⟨p672, q672, ad672, e672, hx672_0⟩ := ri_ (Kd.at_int (Kd.R_reads' HO_6.out).2.2 x9_3)
       obtain rfl : ad666 = ad672 := (by injection e672)
       refine start_ (n := 16) (S := fun w' => w'.cell? (ad666.add (x7_1).toNat) = some (.int .i64 (rd t663 x7_1)) ∧ w'.cell? (ad666.add (x8_2).toNat) = some (.int .i64 (rd t663 x8_2)) ∧ w'.cell? (ad666.add (x9_3).toNat) = some (.int .i64 (rd t663 x9_3))) (ds := []) (fl_ 16 0) (by kernel_rfl) rfl rfl ⟨hx670_0, hx671_0, hx672_0⟩ (fun hHeld => ?_); refine with_tabW spec_ArfFailure.tab12 spec_ArfFailure.bits12 (fun HT_ HW_ => ?_)
       generalize w21.drew = w22 at HO_6 BK662 HB hx670_0 hx671_0 hx672_0 hHeld ⊢
       refine pu_ 0 45 (fl_ 16 1) ?_
       refine pu_ 1 46 (fl_ 16 2) ?_
       refine pu_ 2 47 (fl_ 16 3) ?_
       refine pu_ 4 49 (fm_ 16 23) ?_
       refine pu_ 5 50 (fm_ 16 55) ?_
       refine pu_ 6 51 (fm_ 16 119) ?_
       refine pu_ 8 53 (fm_ 16 375) ?_
       refine pu_ 9 54 (fm_ 16 887) ?_
       refine pu_ 10 55 (fm_ 16 1911) ?_
       refine ta_ 3 48 (fm_ 16 1919) ?_
       refine pu_ 12 2 (fm_ 16 6015) ?_
       refine ta_ 7 52 (fm_ 16 6143) ?_
       refine pu_ 13 3 (fm_ 16 14335) ?_
       refine ta_ 11 56 (fl_ 16 14) ?_
       refine pu_ 14 4 (fl_ 16 15) ?_
       refine pu_ 15 5 (fl_ 16 16) ?_
       refine done_ (done_of HT_.out (by kernel_rfl)) ?_
       try go_wp2
       refine bodyPost_ret (results_list (rs := [.tmp 2, .tmp 3, .tmp 4, .tmp 5]) rfl (by simp) (.tmp (.tmp (.tmp (.tmp .nil))))) rfl ?_
       exact ⟨er_, bl_ HB.out⟩
def slices_Sort_int_int.f (l0 : List Int) : Option (List Int) := if l0.length < 4611686018427387904 then some (l0.mergeSort fun x y => decide (x ≤ y)) else none
theorem slices_Sort_int_int.calls (P0_ : Nat → Prop) (u9000_ : Value) (l0 : List Int) (r : List Int) (w0 w : World) (hB : Below w0.heap.size w0 w) (ho0 : Kd.R (Kd.int .i64) 3 w w0.heap.size P0_ u9000_ l0) (h : slices_Sort_int_int.f l0 = some r) :
 Calls Try.prog 126 #[u9000_] w fun e w' => e = .returned (.tuple #[]) ∧ Kd.R (Kd.int .i64) 3 w' w0.heap.size (fun k_ => (P0_ k_ ∨ w.heap.size ≤ k_)) u9000_ r ∧ Below w0.heap.size w0 w' ∧ Kept w w' (fun k_ => P0_ k_) := by
 unfold slices_Sort_int_int.f at h
 split at h
 ·rename_i hl
  have hr := Option.some.inj h
  rcases SortW.R_cases ho0 with ⟨hu, hn⟩ | ⟨g, cap, hu, hg, h1, h2⟩
  ·subst hu hn
   refine (Try.slices_Sort_int_none none 0 w).mono ?_
   rintro e w' ⟨rfl, rfl⟩
   exact ⟨rfl, by subst hr; simpa using SortW.R_or ho0, hB, Kept.refl _ _⟩
  subst hu
  refine (Try.slices_Sort_int g 0 cap l0 w (SortW.holds_R ho0) hg hl).mono ?_
  rintro e w' ⟨rfl, n, os, rfl⟩
  have hd : (l0.mergeSort fun x y => decide (x ≤ y)).length = l0.length := List.length_mergeSort _
  have := SortW.put_R ho0 (l0.mergeSort fun x y => decide (x ≤ y)) r hd (by rw [← hr]; exact Nat.le_refl _) (by rw [← hr]; exact List.take_of_length_le (Nat.le_refl _)) n os
  rw [show r.length = l0.length by rw [← hr]; exact hd] at this
  exact ⟨rfl, this, SortW.put_below hB ho0 _ n os, SortW.put_kept ho0 _ n os⟩
 cases h
def slices_Compact_int_int.f (l0 : List Int) : Option (List Int) := some (Lib.compact l0)
theorem slices_Compact_int_int.calls (P0_ : Nat → Prop) (u9000_ : Value) (l0 : List Int) (r : List Int) (w0 w : World) (hB : Below w0.heap.size w0 w) (ho0 : Kd.R (Kd.int .i64) 3 w w0.heap.size P0_ u9000_ l0) (h : slices_Compact_int_int.f l0 = some r) :
 Calls Try.prog 127 #[u9000_] w fun e w' => ∃ v0_ : Value, e = .returned (v0_) ∧ Kd.R (Kd.int .i64) 3 w' w0.heap.size (fun k_ => (P0_ k_ ∨ w.heap.size ≤ k_)) v0_ r ∧ Below w0.heap.size w0 w' ∧ Kept w w' (fun k_ => P0_ k_) := by
 obtain rfl := Option.some.inj h
 have hle := SortW.compact_le l0
 rcases SortW.R_cases ho0 with ⟨hu, hn⟩ | ⟨g, cap, hu, hg, h1, h2⟩
 ·subst hu hn
  refine (Try.slices_Compact_int_empty none 0 w).mono ?_
  rintro e w' ⟨rfl, rfl⟩
  exact ⟨_, rfl, SortW.R_or ho0, hB, Kept.refl _ _⟩
 subst hu
 refine (Try.slices_Compact_int g 0 cap l0 w (SortW.holds_R ho0) (by unfold maxLen at h2; omega) h1).mono ?_
 rintro e w' ⟨rfl, n, rfl⟩
 have hd : (Lib.compact l0 ++ List.replicate (l0.length - (Lib.compact l0).length) 0).length = l0.length := by simp; omega
 have := SortW.put_R ho0 _ (Lib.compact l0) hd (by simp) (by simp) n #[]
 rw [Go.Sort.grow_empty] at this
 have hb := SortW.put_below hB ho0 (Lib.compact l0 ++ List.replicate (l0.length - (Lib.compact l0).length) 0) n #[]
 have hk := SortW.put_kept ho0 (Lib.compact l0 ++ List.replicate (l0.length - (Lib.compact l0).length) 0) n #[]
 rw [Go.Sort.grow_empty] at hb hk
 exact ⟨_, rfl, this, hb, hk⟩
end Go.Proofs.Ytddgegejeoihaaa.PFnArf
end
