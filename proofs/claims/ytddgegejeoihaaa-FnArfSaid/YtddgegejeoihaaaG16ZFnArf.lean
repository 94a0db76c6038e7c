/- Part 16 of the claim for FnArf, of the chain from the printed contracts and the plain laws to the row. It has no condition of its own. -/
import Derived.Test.YtddgegejeoihaaaG15ZFnArf
import Derived.Test.YtddgegejeoihaaaG14ZFnArf
import Derived.SizedLaws
import Derived.ChangeSlices
section
namespace Go.Proofs.Ytddgegejeoihaaa.FFnArf
open Go Go.RowKit Go.Proofs.YtddgegejeoihaaaW.PrintWords Go.Proofs.Ytddgegejeoihaaa.M Go.Proofs.Ytddgegejeoihaaa.PFnArf Go.Proofs.Ytddgegejeoihaaa.WM
attribute [local irreducible] con
section
variable (l : List Int) (h : IsSG l) (c : Nat) (hc : c = con l) (r : List Int × Bool) (hr : Ev (fun k => spec_FromGaps.f k (agaps l)) r)
include h hc hr
theorem sAC_l5 (t : List Bool) (ht : t.length = c + 1) (hac : ∀ m : Nat, m < c → (t.getD m false = true ↔ AC l m)) : ∀ (d n : Nat), max c 1 - n = d → 1 ≤ n → n ≤ max c 1 → Ev (fun k => spec_ArfClosure.l5 k (c : Int) t (acUp l n) (n : Int)) r := by
 have hc200 := con_le l
 have e1 : acUp l 1 = [] := by
  have := acUp_yes (l := l) (n := 0) (.base .zero)
  rw [this]; rfl
 intro d
 induction d with
 | zero =>
  intro n hd h1 hn
  have e : acUp l n = agaps l := by
   have hag := agaps_con h
   rw [← hc] at hag
   by_cases c0 : c = 0
   ·rw [← hag, c0, show n = 1 by omega, e1]; rfl
   ·rw [← hag, show n = c by omega]
  rw [e]
  exact Ev.step (fun _ => spec_ArfClosure.l5.eq_2 ..) (Ev.neg (by omega) (Ev.bind hr (Ev.now _)))
 | succ d ih =>
  intro n hd h1 hn
  have nx := ih (n + 1) (by omega) (by omega) (by omega)
  have hlen := acUp_len l n
  refine Ev.step (fun _ => spec_ArfClosure.l5.eq_2 ..) (Ev.pos (by omega) (Ev.pos (by omega) (Ev.pos (by omega) ?_)))
  rw [rdOf_nat, w64s (by omega)]
  by_cases k : AC l n
  ·rw [acUp_yes k] at nx
   exact Ev.pos ((hac n (by omega)).2 k) nx
  ·rw [acUp_no k] at nx
   exact Ev.neg (fun q => k ((hac n (by omega)).1 q)) (Ev.pos (by omega) nx)
def OkS (c : Nat) (t0 : List Bool) (x y z : Nat) : Prop := t0.getD x false = true → t0.getD y false = true → t0.getD z false = true → x + y - z < c → t0.getD (x + y - z) false = true
omit h hr in
theorem sAC_l4 (Pre : Prop) (t0 : List Bool) (x y : Nat) (hx : x < c) (hy : y ≤ x)
 (next : ∀ t ch, Pass l c (c + 1) t0 t ch → (ch = false → Pre ∧ ∀ z, z ≤ y → OkS c t0 x y z) → Ev (fun k => spec_ArfClosure.l3 k (c : Int) t ch (x : Int) ((y + 1 : Nat) : Int)) r) :
 ∀ (d z : Nat) (t : List Bool) (ch : Bool), y + 1 - z = d → z ≤ y + 1 → Pass l c (c + 1) t0 t ch → t.getD x false = true → (ch = false → Pre ∧ ∀ k, k < z → OkS c t0 x y k) → Ev (fun k => spec_ArfClosure.l4 k (c : Int) t ch (x : Int) (y : Int) (z : Int)) r := by
 have hc200 := con_le l
 intro d
 induction d with
 | zero =>
  intro z t ch hd hz hP _ hok
  refine Ev.step (fun _ => spec_ArfClosure.l4.eq_2 ..) (Ev.neg (by omega) (Ev.step (fun _ => spec_ArfClosure.j6.eq_2 ..) (Ev.neg (by simp) ?_)))
  rw [w64s (by omega)]
  exact next t ch hP fun hf => ⟨(hok hf).1, fun k hk => (hok hf).2 k (by omega)⟩
 | succ d ih =>
  intro z t ch hd hz hP htx hok
  have tl := hP.good.len
  have ih' := fun t ch => ih (z + 1) t ch (by omega) (by omega)
  have more : ∀ ch', (ch' = false → ch = false ∧ OkS c t0 x y z) → ch' = false → Pre ∧ ∀ k, k < z + 1 → OkS c t0 x y k := by
   intro ch' h1 h2
   refine ⟨(hok (h1 h2).1).1, fun k hk => ?_⟩
   by_cases e' : k = z
   ·subst e'; exact (h1 h2).2
   ·exact (hok (h1 h2).1).2 k (by omega)
  refine Ev.step (fun _ => spec_ArfClosure.l4.eq_2 ..) (Ev.pos (by omega) (Ev.pos (by omega) (Ev.pos (by omega) ?_)))
  rw [rdOf_nat]
  by_cases cy : t.getD y false = true
  ·rw [cy]
   refine Ev.step (fun _ => spec_ArfClosure.j6.eq_2 ..) (Ev.pos rfl (Ev.pos (by omega) (Ev.pos (by omega) ?_)))
   rw [rdOf_nat, w64s (j := z) (by omega)]
   by_cases cz : t.getD z false = true
   ·refine Ev.pos cz ?_
    rw [w64 (x := (x : Int) + y) (by omega) (by omega), w64 (x := (x : Int) + y - z) (by omega) (by omega)]
    obtain ⟨q, hq⟩ : ∃ q : Nat, (x : Int) + y - z = (q : Int) := ⟨x + y - z, by omega⟩
    have hq' : x + y - z = q := by omega
    rw [hq, Int.toNat_natCast]
    by_cases cn : (q : Int) < (c : Int)
    ·refine Ev.pos cn (Ev.pos (by omega) (Ev.pos (by omega) ?_))
     rw [rdOf_nat]
     by_cases ct : t.getD q false = true
     ·refine Ev.pos ct (ih' t ch hP htx (more ch fun hf => ⟨hf, fun _ _ _ _ => ?_⟩))
      have := hP.same hf
      subst this
      rw [hq']; exact ct
     ·refine Ev.neg ct (ih' _ true (hP.set (by omega) ?_ ct) ?_ (more true fun hf => by simp at hf))
      ·rw [← hq]
       exact .step (hP.good.ac x hx htx) (hP.good.ac y (by omega) cy) (hP.good.ac z (by omega) cz) (by omega) (by omega)
      ·rw [getD_set _ _ _ _ _ (by omega)]
       split
       ·rfl
       ·exact htx
    ·exact Ev.neg cn (ih' t ch hP htx (more ch fun hf => ⟨hf, fun _ _ _ hlt => by omega⟩))
   ·refine Ev.neg cz (ih' t ch hP htx (more ch fun hf => ⟨hf, fun _ _ hz' _ => ?_⟩))
    have := hP.same hf
    subst this
    exact absurd hz' cz
  ·rw [show t.getD y false = false by simpa using cy]
   refine Ev.step (fun _ => spec_ArfClosure.j6.eq_2 ..) (Ev.neg (by simp) ?_)
   rw [w64s (j := y) (by omega)]
   refine next t ch hP fun hf => ⟨(hok hf).1, fun k hk _ hy' _ _ => ?_⟩
   have := hP.same hf
   subst this
   exact absurd hy' cy
omit h hr in
theorem sAC_l3 (Pre : Prop) (t0 : List Bool) (x : Nat) (hx : x < c)
 (next : ∀ t ch, Pass l c (c + 1) t0 t ch → (ch = false → Pre ∧ ∀ y z, y ≤ x → z ≤ y → OkS c t0 x y z) → Ev (fun k => spec_ArfClosure.l2 k (c : Int) t ch ((x + 1 : Nat) : Int)) r) :
 ∀ (d y : Nat) (t : List Bool) (ch : Bool), x + 1 - y = d → y ≤ x + 1 → Pass l c (c + 1) t0 t ch → (ch = false → Pre ∧ ∀ j k, j < y → k ≤ j → OkS c t0 x j k) → Ev (fun k => spec_ArfClosure.l3 k (c : Int) t ch (x : Int) (y : Int)) r := by
 have hc200 := con_le l
 intro d
 induction d with
 | zero =>
  intro y t ch hd hy hP hok
  refine Ev.step (fun _ => spec_ArfClosure.l3.eq_2 ..) (Ev.neg (by omega) (Ev.step (fun _ => spec_ArfClosure.j4.eq_2 ..) (Ev.neg (by simp) ?_)))
  rw [w64s (by omega)]
  exact next t ch hP fun hf => ⟨(hok hf).1, fun j k hj hk => (hok hf).2 j k (by omega) hk⟩
 | succ d ih =>
  intro y t ch hd hy hP hok
  have tl := hP.good.len
  refine Ev.step (fun _ => spec_ArfClosure.l3.eq_2 ..) (Ev.pos (by omega) (Ev.pos (by omega) (Ev.pos (by omega) ?_)))
  rw [rdOf_nat]
  by_cases cx : t.getD x false = true
  ·rw [cx]
   refine Ev.step (fun _ => spec_ArfClosure.j4.eq_2 ..) (Ev.pos rfl ?_)
   refine sAC_l4 l c hc r (Pre ∧ ∀ j k, j < y → k ≤ j → OkS c t0 x j k) t0 x y hx (by omega) (fun t' ch' hP' hk => ih (y + 1) t' ch' (by omega) (by omega) hP' fun hf => ⟨(hk hf).1.1, fun j k hj hkj => ?_⟩) (y + 1) 0 t ch (by omega) (by omega) hP cx (fun hf => ⟨hok hf, fun k hk => by omega⟩)
   by_cases e : j = y
   ·subst e; exact (hk hf).2 k hkj
   ·exact (hk hf).1.2 j k (by omega) hkj
  ·rw [show t.getD x false = false by simpa using cx]
   refine Ev.step (fun _ => spec_ArfClosure.j4.eq_2 ..) (Ev.neg (by simp) ?_)
   rw [w64s (j := x) (by omega)]
   refine next t ch hP fun hf => ⟨(hok hf).1, fun j k _ _ hx' _ _ _ => ?_⟩
   have := hP.same hf
   subst this
   exact absurd hx' cx
omit h hr in
theorem sAC_l2 (t0 : List Bool)
 (next : ∀ t ch, Pass l c (c + 1) t0 t ch → (ch = false → ∀ x y z, x < c → y ≤ x → z ≤ y → OkS c t0 x y z) → Ev (fun k => spec_ArfClosure.l1 k (c : Int) t ch) r) :
 ∀ (d x : Nat) (t : List Bool) (ch : Bool), c - x = d → x ≤ c → Pass l c (c + 1) t0 t ch → (ch = false → ∀ i j k, i < x → j ≤ i → k ≤ j → OkS c t0 i j k) → Ev (fun k => spec_ArfClosure.l2 k (c : Int) t ch (x : Int)) r := by
 intro d
 induction d with
 | zero =>
  intro x t ch hd hx hP hok
  refine Ev.step (fun _ => spec_ArfClosure.l2.eq_2 ..) (Ev.neg (by omega) ?_)
  exact next t ch hP fun hf i j k hi hj hk => hok hf i j k (by omega) hj hk
 | succ d ih =>
  intro x t ch hd hx hP hok
  refine Ev.step (fun _ => spec_ArfClosure.l2.eq_2 ..) (Ev.pos (by omega) ?_)
  refine sAC_l3 l c hc r (∀ i j k, i < x → j ≤ i → k ≤ j → OkS c t0 i j k) t0 x (by omega) (fun t' ch' hP' hk => ih (x + 1) t' ch' (by omega) (by omega) hP' fun hf i j k hi hj hkj => ?_) (x + 1) 0 t ch (by omega) (by omega) hP (fun hf => ⟨hok hf, fun j k hj => by omega⟩)
  by_cases e : i = x
  ·subst e; exact (hk hf).2 j k hj hkj
  ·exact (hk hf).1 i j k (by omega) hj hkj
theorem sAC_l1 : ∀ (p : Nat) (t : List Bool), fals t = p → Good l c (c + 1) t → Ev (fun k => spec_ArfClosure.l1 k (c : Int) t true) r := by
 intro p
 induction p using Nat.strongRecOn with
 | _ p ih =>
  intro t hp hG
  have pos : ∀ x ∈ l, 1 ≤ x := fun x hx => (h.rng x hx).1
  have tl := hG.len
  have e0 : ∀ k, spec_ArfClosure.l1 (k + 1) (c : Int) t true = spec_ArfClosure.l2 k (c : Int) t false 0 := fun k => by rw [spec_ArfClosure.l1.eq_2, if_pos rfl]
  refine Ev.step e0 ?_
  refine sAC_l2 l c hc r t (fun t' ch hP hok => ?_) c 0 t false (by omega) (by omega) ⟨hG, fun _ => rfl, fun k => by simp at k⟩ (fun _ i j k hi => by omega)
  cases ch with
  | true => exact ih (fals t') (by have := hP.less rfl; omega) t' rfl hP.good
  | false =>
   have := hP.same rfl
   subst this
   have hok := hok rfl
   have hac := closed_ac pos hG (fun x y z h1 h2 hx hy hz hlt => hok x y z (by omega) h2 h1 hx hy hz hlt)
   have e1 : ∀ k, spec_ArfClosure.l1 (k + 1) (c : Int) t' false = spec_ArfClosure.l5 k (c : Int) t' [] 1 := fun k => by rw [spec_ArfClosure.l1.eq_2, if_neg (by simp)]
   refine Ev.step e1 ?_
   have := sAC_l5 l h c hc r hr t' (by omega) hac (max c 1 - 1) 1 rfl (by omega) (by omega)
   have e2 : acUp l 1 = [] := by
    have := acUp_yes (l := l) (n := 0) (.base .zero)
    rw [this]; rfl
   rw [e2] at this
   exact this
theorem sAC_l0 : ∀ (d n : Nat) (t : List Bool), c - n = d → n ≤ c → t.length = c + 1 → (∀ m : Nat, m < n → (t.getD m false = true ↔ Sums l m)) → Ev (fun k => spec_ArfClosure.l0 k (gaps l) (c : Int) t (n : Int)) r := by
 have hc200 := con_le l
 have hgl := gaps_len l
 intro d
 induction d with
 | zero =>
  intro n t hd hn ht hm
  have : n = c := by omega
  subst this
  refine Ev.step (fun _ => spec_ArfClosure.l0.eq_2 ..) (Ev.neg (by omega) ?_)
  exact sAC_l1 l h n hc r hr (fals t) t rfl ⟨ht, by omega, fun m hm' hs => (hm m hm').2 hs, fun m hm' hs => .base ((hm m hm').1 hs)⟩
 | succ d ih =>
  intro n t hd hn ht hm
  have hg : (n : Int) ∈ gaps l ↔ ¬ Sums l n := by
   have := gapsUp_mem l 200 n
   unfold gaps
   rw [this]
   exact ⟨fun k => k.2.2, fun k => ⟨by omega, by omega, k⟩⟩
  refine Ev.step (fun _ => spec_ArfClosure.l0.eq_2 ..) (Ev.pos (by omega) ?_)
  obtain ⟨b, b1, b2⟩ := sHasNum (gaps l) n (by omega)
  refine Ev.bind b1 (Ev.pos (by omega) (Ev.pos (by omega) ?_))
  rw [w64s (by omega), Int.toNat_natCast]
  refine ih (n + 1) _ (by omega) (by omega) (by simpa using ht) fun m hmn => ?_
  rw [getD_set _ _ _ _ _ (by omega)]
  by_cases e : m = n
  ·subst e
   rw [if_pos rfl]
   have : b = true ↔ ¬ Sums l m := b2.trans hg
   cases b
   ·simp at this ⊢; exact this
   ·simp at this ⊢; exact this
  ·rw [if_neg e]; exact hm m (by omega)
end
theorem sCL (l : List Int) (hl : l.length ≤ 1048576) : ∃ r, Ev (fun k => spec_ArfClosure.f k l) r ∧ CL l r := by
 unfold spec_ArfClosure.f
 by_cases h : IsSG l
 ·have hal := acUp_len l 201
  have hc := con_le l
  obtain ⟨r, hr, hF⟩ := sFGap (agaps l) (by unfold agaps; omega)
  have go := sAC_l0 l h (con l) rfl r hr (con l) 0 (List.replicate (con l + 1) false) (by omega) (by omega) (by simp) (fun m hm => by omega)
  have hcb := (conBoth l h).1
  refine ⟨r, Ev.bind ((sIsSG l hl).yes h) (Ev.pos rfl (Ev.bind (sL4Gaps l h) (Ev.bind hcb ?_))), .inl ⟨h, hF⟩⟩
  rw [w64s (by omega), Int.toNat_natCast]
  exact Ev.pos (by omega) (Ev.pos (by omega) go)
 ·exact ⟨_, Ev.bind ((sIsSG l hl).no h) (Ev.neg (by simp) (Ev.now _)), .inr ⟨h, rfl⟩⟩
theorem CL.uniq {l : List Int} {r r' : List Int × Bool} (h : CL l r) (h' : CL l r') : r = r' := by
 rcases h with ⟨a, b⟩ | ⟨a, b⟩ <;> rcases h' with ⟨a', b'⟩ | ⟨a', b'⟩
 ·exact b.uniq b'
 ·exact absurd a a'
 ·exact absurd a' a
 ·rw [b, b']
theorem CL.cases {l : List Int} {r : List Int × Bool} (h : CL l r) : (r.2 = true ∧ IsSG r.1) ∨ r = ([], false) := by
 rcases h with ⟨_, h⟩ | ⟨_, h⟩
 ·exact h.cases
 ·exact .inr h
theorem CL.ok {l c : List Int} (h : CL l (c, true)) : IsSG l ∧ IsSG c ∧ (∀ n, Sums c n ↔ AC l n) ∧ FGap (agaps l) (c, true) ∧ gaps c = agaps l := by
 rcases h with ⟨hs, hF⟩ | ⟨_, e⟩
 ·have hF' := hF
  rcases hF with ⟨⟨a1, a2, a3⟩, e⟩ | ⟨_, e⟩
  ·have e' : c = irr (agaps l) := congrArg Prod.fst e
   rw [e'] at hF' ⊢
   have hg := irr_gaps a1 a2
   refine ⟨hs, a3, fun n => ?_, hF', hg⟩
   have p1 : ∀ x ∈ l, 1 ≤ x := fun x hx => (hs.rng x hx).1
   have p2 : ∀ x ∈ irr (agaps l), 1 ≤ x := fun x hx => (a3.rng x hx).1
   rcases Int.lt_or_le n 0 with k | k
   ·exact ⟨fun q => by have := q.nonneg p2; omega, fun q => by have := q.nonneg p1; omega⟩
   ·rcases Int.lt_or_le n 200 with k2 | k2
    ·have h1 : n ∈ gaps (irr (agaps l)) ↔ ¬ Sums (irr (agaps l)) n := by
      unfold gaps
      rw [gapsUp_mem]
      exact ⟨fun q => q.2.2, fun q => ⟨k, by omega, q⟩⟩
     have h2 : n ∈ agaps l ↔ ¬ AC l n := by
      unfold agaps
      rw [acUp_mem]
      exact ⟨fun q => q.2.2, fun q => ⟨k, by omega, q⟩⟩
     rw [hg, h2] at h1
     exact ⟨fun q => Classical.byContradiction fun q2 => h1.1 q2 q, fun q => Classical.byContradiction fun q2 => h1.2 q2 q⟩
    ·exact ⟨fun _ => .base (hs.ends n k2), fun _ => a3.ends n k2⟩
  ·injection e with _ e; cases e
 ·injection e with _ e; cases e
theorem CL.arf {l c : List Int} (h : CL l (c, true)) : ArfP c := by
 obtain ⟨_, _, hm, _, _⟩ := h.ok
 intro x y z hx hy hz h1 h2
 rw [hm] at *
 exact .step hx hy hz h1 h2
theorem CL.again {l c : List Int} (h : CL l (c, true)) : CL c (c, true) := by
 obtain ⟨_, hc, hm, hF, hg⟩ := h.ok
 have harf := h.arf
 have hac : ∀ n, AC c n ↔ Sums c n := by
  intro n
  refine ⟨fun k => ?_, .base⟩
  induction k with
  | base k => exact k
  | step _ _ _ h1 h2 a b d => exact harf _ _ _ a b d h1 h2
 have e : agaps c = agaps l := by
  unfold agaps
  have : ∀ n : Nat, acUp c n = acUp l n := by
   intro n
   induction n with
   | zero => rfl
   | succ n ih =>
    by_cases k : AC c n
    ·rw [acUp_yes k, acUp_yes ((hm _).1 ((hac _).1 k)), ih]
    ·rw [acUp_no k, acUp_no fun q => k ((hac _).2 ((hm _).2 q)), ih]
  exact this 201
 exact .inl ⟨hc, by rw [e]; exact hF⟩
end Go.Proofs.Ytddgegejeoihaaa.FFnArf
end
section
namespace Go.Proofs.Ytddgegejeoihaaa.FFnArf
open Go Go.RowKit Go.Proofs.YtddgegejeoihaaaW.PrintWords Go.Proofs.Ytddgegejeoihaaa.M Go.Proofs.Ytddgegejeoihaaa.PFnArf
def Blow (l : List Int) : List Int := rd l 0 :: (l.drop 1).map (fun g => g - rd l 0)
def BU (l : List Int) (r : List Int × Bool) : Prop := (IsSG l ∧ FG (Blow l) r) ∨ (¬ IsSG l ∧ r = ([], false))
theorem BU.uniq {l : List Int} {r r' : List Int × Bool} (h : BU l r) (h' : BU l r') : r = r' := by
 rcases h with ⟨a, b⟩ | ⟨a, rfl⟩ <;> rcases h' with ⟨a', b'⟩ | ⟨a', rfl⟩
 ·exact b.uniq b'
 ·exact absurd a a'
 ·exact absurd a' a
 ·rfl
theorem BU.cases {l : List Int} {r : List Int × Bool} (h : BU l r) : (r.2 = true ∧ IsSG r.1) ∨ r = ([], false) := by
 rcases h with ⟨_, h⟩ | ⟨_, h⟩
 ·exact h.cases
 ·exact .inr h
theorem sBU_l0 (l : List Int) (h : IsSG l) (r : List Int × Bool) : ∀ (d j : Nat) (acc : List Int), l.length - j = d → j ≤ l.length → acc.length ≤ j → Ev (fun k => spec_FromGens.f k (acc ++ (l.drop j).map (fun g => g - rd l 0))) r → Ev (fun k => spec_BlowUp.l0 k acc (j : Int) l) r := by
 have hle := h.le
 have hpos := h.pos
 have h0 : 1 ≤ rd l 0 ∧ rd l 0 ≤ 60 := h.rng _ (rd_mem (i := 0) (by omega))
 intro d
 induction d with
 | zero =>
  intro j acc hd hj ha hr
  rw [List.drop_of_length_le (by omega), List.map_nil, List.append_nil] at hr
  refine Ev.step (fun _ => spec_BlowUp.l0.eq_2 ..) ?_
  refine Ev.neg (by omega) ?_
  exact Ev.bind hr (Ev.now _)
 | succ d ih =>
  intro j acc hd hj ha hr
  have hlt : j < l.length := by omega
  have hx := h.rng _ (List.getElem_mem hlt)
  refine Ev.step (fun _ => spec_BlowUp.l0.eq_2 ..) ?_
  refine Ev.pos (by omega) ?_
  refine Ev.pos (by omega) ?_
  refine Ev.pos (by omega) ?_
  refine Ev.pos (by omega) ?_
  rw [w64s (by omega), rd_get hlt, w64 (by omega) (by omega)]
  refine ih (j + 1) _ (by omega) (by omega) (by simp <;> omega) ?_
  rw [drop_cons hlt, List.map_cons] at hr
  rw [List.append_assoc, List.singleton_append]
  exact hr
theorem sBU (l : List Int) (hl : l.length ≤ 1048576) : ∃ r, Ev (fun k => spec_BlowUp.f k l) r ∧ BU l r := by
 by_cases h : IsSG l
 ·have hle := h.le
  have hpos := h.pos
  obtain ⟨r, h1, h2⟩ := sFG (Blow l) (by unfold Blow; simp <;> omega)
  refine ⟨r, ?_, .inl ⟨h, h2⟩⟩
  unfold spec_BlowUp.f
  refine Ev.bind ((sIsSG l hl).yes h) (Ev.pos rfl ?_)
  refine Ev.pos (by omega) ?_
  exact sBU_l0 l h r (l.length - 1) 1 [rd l 0] (by omega) (by omega) (by simp) h1
 ·refine ⟨([], false), ?_, .inr ⟨h, rfl⟩⟩
  unfold spec_BlowUp.f
  exact Ev.bind ((sIsSG l hl).no h) (Ev.neg (by simp) (Ev.now _))
theorem iBU_l0 (l : List Int) (h : IsSG l) (r : List Int × Bool) : ∀ (d j : Nat) (acc : List Int), (l.drop 1).length - j = d → j ≤ (l.drop 1).length → acc.length ≤ j + 1 → Ev (fun k => impl_FromGens.f k (acc ++ ((l.drop 1).drop j).map (fun g => g - rd l 0))) r → Ev (fun k => impl_BlowUp.l0 k acc (l.drop 1) ((l.drop 1).length : Int) (j : Int) l) r := by
 have hle := h.le
 have hpos := h.pos
 have h0 : 1 ≤ rd l 0 ∧ rd l 0 ≤ 60 := h.rng _ (rd_mem (i := 0) (by omega))
 have hdl : (l.drop 1).length = l.length - 1 := by simp
 intro d
 induction d with
 | zero =>
  intro j acc hd hj ha hr
  rw [List.drop_of_length_le (by omega), List.map_nil, List.append_nil] at hr
  refine Ev.step (fun _ => impl_BlowUp.l0.eq_2 ..) ?_
  refine Ev.neg (by omega) ?_
  exact Ev.bind hr (Ev.now _)
 | succ d ih =>
  intro j acc hd hj ha hr
  have hlt : j < (l.drop 1).length := by omega
  have hx := h.rng _ (List.mem_of_mem_drop (List.getElem_mem hlt))
  refine Ev.step (fun _ => impl_BlowUp.l0.eq_2 ..) ?_
  refine Ev.pos (by omega) ?_
  refine Ev.pos (by omega) ?_
  refine Ev.pos (by omega) ?_
  refine Ev.pos (by omega) ?_
  refine Ev.pos (by omega) ?_
  rw [w64s (by omega), rd_get hlt, w64 (by omega) (by omega)]
  refine ih (j + 1) _ (by omega) (by omega) (by simp <;> omega) ?_
  rw [drop_cons hlt, List.map_cons] at hr
  rw [List.append_assoc, List.singleton_append]
  exact hr
theorem iBU (l : List Int) (hl : l.length ≤ 1048576) : ∃ r, Ev (fun k => impl_BlowUp.f k l) r ∧ BU l r := by
 by_cases h : IsSG l
 ·have hle := h.le
  have hpos := h.pos
  obtain ⟨r, h1, h2⟩ := iFG (Blow l) (by unfold Blow; simp <;> omega)
  refine ⟨r, ?_, .inl ⟨h, h2⟩⟩
  unfold impl_BlowUp.f
  refine Ev.bind ((iIsSG l hl).yes h) (Ev.pos rfl ?_)
  refine Ev.pos (by omega) ?_
  refine Ev.pos (by omega) ?_
  exact iBU_l0 l h r (l.drop 1).length 0 [rd l 0] (by omega) (by omega) (by simp) h1
 ·refine ⟨([], false), ?_, .inr ⟨h, rfl⟩⟩
  unfold impl_BlowUp.f
  exact Ev.bind ((iIsSG l hl).no h) (Ev.neg (by simp) (Ev.now _))
end Go.Proofs.Ytddgegejeoihaaa.FFnArf
end
section
namespace Go.Proofs.Ytddgegejeoihaaa.FFnArf
open Go Go.RowKit Go.Proofs.YtddgegejeoihaaaW.PrintWords Go.Proofs.Ytddgegejeoihaaa.M Go.Proofs.Ytddgegejeoihaaa.PFnArf
noncomputable def cntP (p : Nat → Prop) : Nat → Nat
 | 0 => 0
 | N + 1 => cntP p N + (open Classical in if p N then 1 else 0)
theorem cntP_le (p : Nat → Prop) (N : Nat) : cntP p N ≤ N := by
 induction N with
 | zero => simp [cntP]
 | succ N ih => unfold cntP; split <;> omega
theorem cntP_mono {p q : Nat → Prop} {N : Nat} (h : ∀ n, n < N → p n → q n) : cntP p N ≤ cntP q N := by
 induction N with
 | zero => simp [cntP]
 | succ N ih =>
  have h1 := ih fun n hn => h n (by omega)
  have h2 := h N (by omega)
  unfold cntP
  by_cases c : p N
  ·rw [if_pos c, if_pos (h2 c)]; omega
  ·rw [if_neg c]; omega
theorem cntP_lt {p q : Nat → Prop} {N : Nat} (h : ∀ n, n < N → p n → q n) {m : Nat} (hm : m < N) (hq : q m) (hp : ¬ p m) : cntP p N < cntP q N := by
 induction N with
 | zero => omega
 | succ N ih =>
  have h2 := h N (by omega)
  unfold cntP
  by_cases e : m = N
  ·subst e
   have := cntP_mono (p := p) (q := q) (N := m) fun n hn => h n (by omega)
   rw [if_neg hp, if_pos hq]; omega
  ·have := ih (fun n hn => h n (by omega)) (by omega)
   by_cases c : p N
   ·rw [if_pos c, if_pos (h2 c)]; omega
   ·rw [if_neg c]; omega
noncomputable def gapN (g : List Int) : Nat := cntP (fun n => ¬ Sums g n) 200
theorem sums_minOf : ∀ (t seen out : List Int), (∀ n, Sums out n ↔ Sums seen n) → ∀ n, Sums (out ++ minOf seen t) n ↔ Sums (seen ++ t) n
 | [], seen, out, h => by simpa [minOf] using h
 | x :: t, seen, out, h => by
  intro n
  unfold minOf
  by_cases c : Sums seen x
  ·rw [if_pos c]
   have := sums_minOf t (seen ++ [x]) out (fun n => (h n).trans ⟨Sums.mono fun y hy => List.mem_append_left _ hy, Sums.sub fun y hy => by
    rcases List.mem_append.1 hy with k | k
    ·exact .one k
    ·rw [List.mem_singleton] at k; subst k; exact c⟩) n
   rw [this]; simp
  ·rw [if_neg c]
   have := sums_minOf t (seen ++ [x]) (out ++ [x]) (fun n => sums_append_congr h n) n
   rw [List.append_assoc, List.singleton_append] at this
   rw [this]; simp
theorem FG.sums {l g : List Int} (h : FG l (g, true)) (n : Int) : Sums g n ↔ Sums l n := by
 obtain ⟨s, hs, ⟨_, _, e⟩ | ⟨_, e⟩⟩ := h
 ·injection e with e _
  subst e
  have := sums_minOf s [] [] (fun _ => Iff.rfl) n
  simp only [List.nil_append] at this
  rw [this]
  exact ⟨Sums.mono fun x hx => (hs.2.1 x).1 hx, Sums.mono fun x hx => (hs.2.1 x).2 hx⟩
 ·injection e with _ e; cases e
theorem _root_.Go.Proofs.Ytddgegejeoihaaa.M.IsSG.first {l : List Int} (h : IsSG l) : 1 ≤ rd l 0 ∧ rd l 0 ≤ 60 ∧ rd l 0 ∈ l := by
 have hpos := h.pos
 have hm : rd l ((0 : Nat) : Int) ∈ l := rd_mem (by omega)
 exact ⟨(h.rng _ hm).1, (h.rng _ hm).2, hm⟩
theorem blow_sub {l : List Int} (h : IsSG l) {n : Int} (hn : Sums l n) : Sums (Blow l) n := by
 have hf := h.first
 have hpos := h.pos
 refine hn.sub fun x hx => ?_
 obtain ⟨i, hi, rfl⟩ := List.getElem_of_mem hx
 have hm : Sums (Blow l) (rd l 0) := .one (by unfold Blow; exact List.mem_cons_self)
 by_cases e : i = 0
 ·subst e
  rw [← rd_get hi]; exact hm
 ·have : Sums (Blow l) (l[i] - rd l 0) := by
   refine .one ?_
   unfold Blow
   refine List.mem_cons_of_mem _ (List.mem_map.2 ⟨l[i], ?_, rfl⟩)
   rw [List.mem_iff_getElem]
   exact ⟨i - 1, by simp; omega, by simp; congr 1; omega⟩
  have := this.trans hm
  rwa [Int.sub_add_cancel] at this
theorem blow_gap {l g : List Int} (h : IsSG l) (h1 : 1 < rd l 0) (hg : FG (Blow l) (g, true)) : gapN g < gapN l := by
 have hf := h.first
 have hpos := h.pos
 have hlen : 1 < l.length := by
  rcases Nat.lt_or_ge 1 l.length with c | c
  ·exact c
  ·exfalso
   obtain ⟨x, hx⟩ : ∃ x, l = [x] := by
    match l, hpos, c with
    | [x], _, _ => exact ⟨x, rfl⟩
   have hgc := h.gcd
   subst hx
   simp [gcdL] at hgc
   have : rd [x] 0 = x := rfl
   omega
 have e0 : rd l 0 = l[0] := rd_get (i := 0) (by omega)
 have hx1 := h.rng _ (List.getElem_mem hlen)
 have hlt : l[0] < l[1] := List.pairwise_iff_getElem.1 h.asc 0 1 (by omega) hlen (by omega)
 obtain ⟨q, hq⟩ : ∃ q : Nat, l[1] - l[0] = (q : Int) := ⟨(l[1] - l[0]).toNat, by omega⟩
 unfold gapN
 refine cntP_lt (m := q) (fun n _ k1 k2 => k1 ((hg.sums n).2 (blow_sub h k2))) (by omega) (fun k => ?_) (fun k => k ?_)
 ·have hmin := h.minl 1 (by omega) hlen
  rw [getD_get hlen] at hmin
  have htake : l.take 1 = [l[0]] := by
   match l, hpos with
   | x :: t, _ => rfl
  rw [htake] at hmin
  refine hmin ?_
  have small : ∀ n, Sums l n → n < l[1] → Sums [l[0]] n := by
   intro n hn
   induction hn with
   | zero => intro _; exact .zero
   | add hx hn ih =>
    rename_i n x
    intro hlt'
    have hx' := h.rng _ hx
    have hn0 := hn.nonneg fun y hy => (h.rng y hy).1
    obtain ⟨i, hi, rfl⟩ := List.getElem_of_mem hx
    have hi0 : i = 0 := by
     rcases Nat.eq_zero_or_pos i with c | c
     ·exact c
     ·exfalso
      rcases Nat.lt_or_ge 1 i with c2 | c2
      ·have := List.pairwise_iff_getElem.1 h.asc 1 i hlen hi c2
       omega
      ·have : i = 1 := by omega
       subst this; omega
    subst hi0
    exact .add (List.mem_singleton.2 rfl) (ih (by omega))
  have := small (q : Int) k (by omega)
  have := Sums.add (List.mem_singleton.2 rfl : l[0] ∈ [l[0]]) this
  rwa [← hq, Int.sub_add_cancel] at this
 ·refine (hg.sums _).2 (.one ?_)
  unfold Blow
  refine List.mem_cons_of_mem _ (List.mem_map.2 ⟨l[1], ?_, by rw [e0, hq]⟩)
  rw [List.mem_iff_getElem]
  exact ⟨0, by simp; omega, by simp⟩
inductive MSq : List Int → List Int → Prop
 | one {l : List Int} : IsSG l → rd l 0 = 1 → MSq l [rd l 0]
 | more {l g s : List Int} : IsSG l → 1 < rd l 0 → FG (Blow l) (g, true) → MSq g s → MSq l (rd l 0 :: s)
theorem MS_l0 : ∀ (p : Nat) (g acc : List Int), gapN g = p → IsSG g → acc.length + p ≤ 1000 → ∃ r : List Int × Bool, Ev (fun k => impl_MultiplicitySequence.l0 k (acc ++ [rd g 0]) g) r ∧ Ev (fun k => spec_MultiplicitySequence.l0 k acc g) r ∧ r.1.length ≤ acc.length + p + 1 ∧ (r.2 = true → ∃ s, r.1 = acc ++ s ∧ MSq g s) := by
 intro p
 induction p using Nat.strongRecOn with
 | _ p ih =>
  intro g acc hp hg hb
  have hf := hg.first
  have hpos := hg.pos
  have hle := hg.le
  by_cases c : rd g 0 > 1
  ·obtain ⟨r1, a1, a2⟩ := sBU g (by omega)
   obtain ⟨r2, b1, b2⟩ := iBU g (by omega)
   have := a2.uniq b2
   subst this
   obtain ⟨g', b⟩ := r1
   rcases a2 with ⟨_, a2⟩ | ⟨no, _⟩
   case inr => exact absurd hg no
   cases b with
   | true =>
    have hg' := a2.ok
    have hgap := blow_gap hg c a2
    have hpos' := hg'.pos
    obtain ⟨r, c1, c2, c3, c4⟩ := ih (gapN g') (by omega) g' (acc ++ [rd g 0]) rfl hg' (by simp; omega)
    refine ⟨r, ?_, ?_, by simp at c3; omega, fun k => ?_⟩
    rotate_left 2
    ·obtain ⟨s, e1, e2⟩ := c4 k
     exact ⟨rd g 0 :: s, by rw [e1, List.append_assoc, List.singleton_append], .more hg c a2 e2⟩
    ·refine Ev.step (fun _ => impl_MultiplicitySequence.l0.eq_2 ..) ?_
     refine Ev.pos (by omega) ?_
     refine Ev.pos c ?_
     refine Ev.bind b1 ?_
     refine Ev.pos rfl ?_
     refine Ev.pos (by simp only; omega) ?_
     exact Ev.pos (by simp; omega) c1
    ·refine Ev.step (fun _ => spec_MultiplicitySequence.l0.eq_2 ..) ?_
     refine Ev.bind ((sIsSG g (by omega)).yes hg) (Ev.pos rfl ?_)
     refine Ev.pos (by omega) ?_
     refine Ev.pos (by omega) ?_
     refine Ev.call rfl ?_
     refine Ev.neg (by omega) ?_
     exact Ev.bind a1 c2
   | false =>
    have := a2.no
    subst this
    refine ⟨([], false), ?_, ?_, by simp, fun k => by simp at k⟩
    ·refine Ev.step (fun _ => impl_MultiplicitySequence.l0.eq_2 ..) ?_
     refine Ev.pos (by omega) ?_
     refine Ev.pos c ?_
     refine Ev.bind b1 ?_
     exact Ev.neg (by simp) (Ev.now _)
    ·refine Ev.step (fun _ => spec_MultiplicitySequence.l0.eq_2 ..) ?_
     refine Ev.bind ((sIsSG g (by omega)).yes hg) (Ev.pos rfl ?_)
     refine Ev.pos (by omega) ?_
     refine Ev.pos (by omega) ?_
     refine Ev.call rfl ?_
     refine Ev.neg (by omega) ?_
     refine Ev.bind a1 ?_
     refine Ev.step (fun _ => spec_MultiplicitySequence.l0.eq_2 ..) ?_
     exact Ev.bind ((sIsSG [] (by simp)).no fun h => by have := h.pos; simp at this) (Ev.neg (by simp) (Ev.now _))
  ·refine ⟨(acc ++ [rd g 0], true), ?_, ?_, by simp, fun _ => ⟨[rd g 0], rfl, .one hg (by omega)⟩⟩
   ·refine Ev.step (fun _ => impl_MultiplicitySequence.l0.eq_2 ..) ?_
    refine Ev.pos (by omega) ?_
    exact Ev.neg c (Ev.now _)
   ·refine Ev.step (fun _ => spec_MultiplicitySequence.l0.eq_2 ..) ?_
    refine Ev.bind ((sIsSG g (by omega)).yes hg) (Ev.pos rfl ?_)
    refine Ev.pos (by omega) ?_
    refine Ev.pos (by omega) ?_
    refine Ev.call rfl ?_
    exact Ev.pos (by omega) (Ev.now _)
theorem MSfull (l : List Int) (hl : l.length ≤ 1048576) : ∃ r : List Int × Bool, Ev (fun k => spec_MultiplicitySequence.f k l) r ∧ Ev (fun k => impl_MultiplicitySequence.f k l) r ∧ r.1.length ≤ 200 ∧ (r.2 = true → MSq l r.1) := by
 by_cases h : IsSG l
 ·have hpos := h.pos
  have hgn : gapN l < 200 := Nat.lt_of_lt_of_le (cntP_lt (q := fun _ => True) (m := 0) (fun _ _ _ => trivial) (by omega) trivial fun k => k .zero) (cntP_le _ _)
  obtain ⟨r, c1, c2, c3, c4⟩ := MS_l0 (gapN l) l [] rfl h (by simp; omega)
  refine ⟨r, c2, ?_, by simp at c3; omega, fun k => ?_⟩
  rotate_left
  ·obtain ⟨s, e1, e2⟩ := c4 k
   rw [List.nil_append] at e1
   rw [e1]; exact e2
  unfold impl_MultiplicitySequence.f
  refine Ev.bind ((iIsSG l hl).yes h) (Ev.pos rfl ?_)
  exact Ev.pos (by omega) c1
 ·refine ⟨([], false), ?_, ?_, by simp, fun k => by simp at k⟩
  ·refine Ev.step (fun _ => spec_MultiplicitySequence.l0.eq_2 ..) ?_
   exact Ev.bind ((sIsSG l hl).no h) (Ev.neg (by simp) (Ev.now _))
  ·unfold impl_MultiplicitySequence.f
   exact Ev.bind ((iIsSG l hl).no h) (Ev.neg (by simp) (Ev.now _))
end Go.Proofs.Ytddgegejeoihaaa.FFnArf
end
section
namespace Go.Proofs.Ytddgegejeoihaaa.FFnArf
open Go Go.RowKit Go.Proofs.YtddgegejeoihaaaW.PrintWords Go.Proofs.Ytddgegejeoihaaa.M Go.Proofs.Ytddgegejeoihaaa.PFnArf Go.Proofs.Ytddgegejeoihaaa.WM
attribute [local irreducible] con
theorem cntS_yes {l : List Int} {n : Nat} (h : Sums l n) : cntS l (n + 1) = cntS l n := by unfold cntS; rw [if_pos h]; cases n <;> rfl
theorem cntS_no {l : List Int} {n : Nat} (h : ¬ Sums l n) : cntS l (n + 1) = cntS l n + 1 := by rw [cntS, if_neg h]
theorem cntS_add (l : List Int) (m : Nat) : ∀ d : Nat, cntS l (m + d) ≤ cntS l m + d := by
 intro d
 induction d with
 | zero => exact Nat.le_refl _
 | succ d ih =>
  rw [← Nat.add_assoc]
  by_cases c : Sums l ((m + d : Nat) : Int)
  ·rw [cntS_yes c]; omega
  ·rw [cntS_no c]; omega
theorem cntS_200 {l : List Int} (h : IsSG l) (n : Nat) : cntS l n ≤ 200 := by
 rcases Nat.lt_or_ge n 200 with c | c
 ·have := smUp_len l n
  omega
 ·have := smUp_len l 200
  have := cntS_from l 200 n c fun x hx _ => h.ends x (by omega)
  omega
theorem iElem_l0 (l : List Int) (t : List Bool) (ht : t.length = 601) (htab : ∀ m : Nat, m ≤ 600 → (t.getD m false = true ↔ Sums l m)) (n : Nat) (hn : n ≤ 600) (hs : Sums l n) (k : Nat) (hk : k + cntS l n = n) :
 ∀ (d j x : Nat), n - j = d → j ≤ n → x + j = k + cntS l j → Ev (fun q => impl_ElementAt.l0 q (x : Int) t (t.length : Int) (j : Int)) (n : Int) := by
 intro d
 induction d with
 | zero =>
  intro j x hd hj hx
  have e : j = n := by omega
  subst e
  refine Ev.step (fun _ => impl_ElementAt.l0.eq_2 ..) (Ev.pos (by omega) (Ev.pos (by omega) (Ev.pos (by omega) ?_)))
  rw [rdOf_nat]
  exact Ev.pos ((htab j hn).2 hs) (Ev.pos (by omega) (Ev.now _))
 | succ d ih =>
  intro j x hd hj hx
  refine Ev.step (fun _ => impl_ElementAt.l0.eq_2 ..) (Ev.pos (by omega) (Ev.pos (by omega) (Ev.pos (by omega) ?_)))
  rw [rdOf_nat, w64s (j := j) (by omega)]
  by_cases c : Sums l j
  ·have h1 := cntS_add l (j + 1) (n - (j + 1))
   rw [show j + 1 + (n - (j + 1)) = n by omega] at h1
   have h2 := cntS_yes c
   have h3 := smUp_len l j
   refine Ev.pos ((htab j (by omega)).2 c) (Ev.neg (by omega) ?_)
   rw [w64 (x := (x : Int) - 1) (by omega) (by omega), show (x : Int) - 1 = ((x - 1 : Nat) : Int) by omega]
   exact ih (j + 1) (x - 1) (by omega) (by omega) (by omega)
  ·have h2 := cntS_no c
   exact Ev.neg (fun q => c ((htab j (by omega)).1 q)) (ih (j + 1) x (by omega) (by omega) (by omega))
theorem iElem (l : List Int) (h : IsSG l) (n k : Nat) (hk200 : k ≤ 200) (hs : Sums l n) (hk : k + cntS l n = n) : Ev (fun q => impl_ElementAt.f q l (k : Int)) (n : Int) := by
 have hle := h.le
 have h200 := cntS_200 h n
 obtain ⟨t, t1, t2, t3⟩ := iTable l h 600 (by omega)
 unfold impl_ElementAt.f
 refine Ev.bind ((iIsSG l (by omega)).yes h) (Ev.pos rfl (Ev.call (within_yes ⟨by omega, by omega⟩) ?_))
 refine Ev.step (fun _ => impl_ElementAt.j0.eq_2 ..) (Ev.neg (by simp) (Ev.bind t1 ?_))
 exact iElem_l0 l t t2 t3 n (by omega) hs k hk n 0 k (by omega) (by omega) (by simp [cntS])
theorem arf_blow {l : List Int} (h : IsSG l) (ha : ArfP l) {n : Int} (hn : Sums (Blow l) n) : Sums l (n + rd l 0) := by
 obtain ⟨f1, f2, f3⟩ := h.first
 have pos : ∀ x ∈ l, 1 ≤ x := fun x hx => (h.rng x hx).1
 have hfe : Sums l (rd l 0) := .one f3
 have low : ∀ x ∈ l, rd l 0 ≤ x := by
  intro x hx
  obtain ⟨i, hi, rfl⟩ := List.getElem_of_mem hx
  have e0 : rd l 0 = l[0]'(by omega) := rd_get (i := 0) (by omega)
  rcases Nat.eq_zero_or_pos i with c | c
  ·subst c; rw [e0]; exact Int.le_refl _
  ·rw [e0]; exact Int.le_of_lt (List.pairwise_iff_getElem.1 h.asc 0 i (by omega) hi c)
 have key : 0 ≤ n ∧ Sums l (n + rd l 0) := by
  induction hn with
  | zero => exact ⟨Int.le_refl _, by rwa [Int.zero_add]⟩
  | add hx hn2 ih =>
   rename_i n x
   unfold Blow at hx
   rcases List.mem_cons.1 hx with c | c
   ·subst c
    exact ⟨by omega, ih.2.trans hfe⟩
   ·obtain ⟨y, hy, rfl⟩ := List.mem_map.1 c
    have hy' := List.mem_of_mem_drop hy
    have l1 := low y hy'
    refine ⟨by omega, ?_⟩
    rcases Int.le_total y (n + rd l 0) with q | q
    ·have := ha _ _ _ ih.2 (.one hy') hfe l1 q
     rwa [show n + rd l 0 + y - rd l 0 = n + (y - rd l 0) + rd l 0 by omega] at this
    ·have := ha _ _ _ (.one hy') ih.2 hfe (by omega) q
     rwa [show y + (n + rd l 0) - rd l 0 = n + (y - rd l 0) + rd l 0 by omega] at this
 exact key.2
theorem blow_back {l : List Int} (h : IsSG l) {n : Int} (hn : Sums l n) : n = 0 ∨ Sums (Blow l) (n - rd l 0) := by
 obtain ⟨f1, f2, f3⟩ := h.first
 have pos : ∀ x ∈ l, 1 ≤ x := fun x hx => (h.rng x hx).1
 by_cases c : n = 0
 ·exact .inl c
 ·right
  obtain ⟨x, hx, hr⟩ := hn.step c
  have hr' := blow_sub h hr
  have hx' : Sums (Blow l) (x - rd l 0) := by
   have hpos := h.pos
   obtain ⟨i, hi, rfl⟩ := List.getElem_of_mem hx
   by_cases e : i = 0
   ·subst e
    rw [← rd_get hi, show rd l ((0 : Nat) : Int) - rd l 0 = 0 by exact Int.sub_self _]
    exact .zero
   ·refine .one ?_
    unfold Blow
    refine List.mem_cons_of_mem _ (List.mem_map.2 ⟨l[i], ?_, rfl⟩)
    rw [List.mem_iff_getElem]
    exact ⟨i - 1, by simp; omega, by simp; congr 1; omega⟩
  have := hr'.trans hx'
  rwa [show n - x + (x - rd l 0) = n - rd l 0 by omega] at this
theorem blow_iff {l g : List Int} (h : IsSG l) (ha : ArfP l) (hg : FG (Blow l) (g, true)) (n : Nat) : Sums g n ↔ Sums l (n + rd l 0) := by
 obtain ⟨f1, f2, f3⟩ := h.first
 rw [hg.sums]
 constructor
 ·exact arf_blow h ha
 ·intro k
  rcases blow_back h k with c | c
  ·omega
  ·rwa [show (n : Int) + rd l 0 - rd l 0 = n by omega] at c
theorem arf_blow_arf {l g : List Int} (h : IsSG l) (ha : ArfP l) (hg : FG (Blow l) (g, true)) : ArfP g := by
 intro x y z hx hy hz h1 h2
 have p := hg.ok
 have pos : ∀ x ∈ g, 1 ≤ x := fun x hx => (p.rng x hx).1
 have z0 := hz.nonneg pos
 obtain ⟨a, rfl⟩ := Int.eq_ofNat_of_zero_le (show 0 ≤ x by omega)
 obtain ⟨b, rfl⟩ := Int.eq_ofNat_of_zero_le (show 0 ≤ y by omega)
 obtain ⟨c, rfl⟩ := Int.eq_ofNat_of_zero_le z0
 rw [blow_iff h ha hg] at hx hy hz
 have := ha _ _ _ hx hy hz (by omega) (by omega)
 rw [show (a : Int) + b - c = ((a + b - c : Nat) : Int) by omega, blow_iff h ha hg]
 rwa [show (a : Int) + rd l 0 + (b + rd l 0) - (c + rd l 0) = ((a + b - c : Nat) : Int) + rd l 0 by omega] at this
theorem low_none {l : List Int} (h : IsSG l) {n : Int} (h1 : 1 ≤ n) (h2 : n < rd l 0) : ¬ Sums l n := by
 intro k
 rcases blow_back h k with c | c
 ·omega
 ·have f := h.first
  have : 0 ≤ n - rd l 0 := by
   have hb : ∀ m, Sums (Blow l) m → 0 ≤ m := by
    intro m hm
    induction hm with
    | zero => exact Int.le_refl _
    | add hx hn2 ih =>
     rename_i m x
     unfold Blow at hx
     rcases List.mem_cons.1 hx with c | c
     ·subst c; omega
     ·obtain ⟨y, hy, rfl⟩ := List.mem_map.1 c
      have hy' := List.mem_of_mem_drop hy
      obtain ⟨i, hi, rfl⟩ := List.getElem_of_mem hy'
      have e0 : rd l 0 = l[0]'(by omega) := rd_get (i := 0) (by omega)
      rcases Nat.eq_zero_or_pos i with c | c
      ·subst c; omega
      ·have := List.pairwise_iff_getElem.1 h.asc 0 i (by omega) hi c
       omega
   exact hb _ c
  omega
theorem cnt_low {l : List Int} (h : IsSG l) : ∀ n : Nat, ((n + 1 : Nat) : Int) ≤ rd l 0 → cntS l (n + 1) = n := by
 intro n
 induction n with
 | zero =>
  intro _
  rw [cntS_yes (show Sums l ((0 : Nat) : Int) from .zero)]; rfl
 | succ n ih =>
  intro hn
  rw [cntS_no (low_none h (by omega) (by omega)), ih (by omega)]
theorem cnt_blow {l g : List Int} (h : IsSG l) (ha : ArfP l) (hg : FG (Blow l) (g, true)) (e : Nat) (he : (e : Int) = rd l 0) : ∀ m : Nat, cntS l (e + m) + 1 = cntS g m + e := by
 have f := h.first
 intro m
 induction m with
 | zero =>
  have := cnt_low h (e - 1) (by omega)
  rw [show e - 1 + 1 = e by omega] at this
  simp only [Nat.add_zero, cntS]
  omega
 | succ m ih =>
  have hi := blow_iff h ha hg m
  rw [show (m : Int) + rd l 0 = ((e + m : Nat) : Int) by omega] at hi
  rw [← Nat.add_assoc]
  by_cases c : Sums g m
  ·rw [cntS_yes c, cntS_yes (hi.1 c)]; exact ih
  ·rw [cntS_no c, cntS_no fun k => c (hi.2 k)]; omega
theorem ms_at {l s : List Int} (h : MSq l s) : ArfP l → ∀ i, i < s.length → ∃ n : Nat, (n : Int) = (s.take (i + 1)).sum ∧ Sums l n ∧ i + 1 + cntS l n = n := by
 induction h with
 | one hs h1 =>
  rename_i l
  intro _ i hi
  have : i = 0 := by simp at hi; omega
  subst this
  refine ⟨1, by simp [h1], ?_, ?_⟩
  ·have := hs.first.2.2
   rw [h1] at this
   exact .one this
  ·rw [show cntS l 1 = cntS l (0 + 1) from rfl, cntS_yes (show Sums l ((0 : Nat) : Int) from .zero)]; rfl
 | more hs h1 hg hm ih =>
  rename_i l g s
  intro ha i hi
  have f := hs.first
  obtain ⟨e, he⟩ : ∃ e : Nat, (e : Int) = rd l 0 := ⟨(rd l 0).toNat, by omega⟩
  cases i with
  | zero =>
   refine ⟨e, by simp [he], by rw [he]; exact .one f.2.2, ?_⟩
   have := cnt_blow hs ha hg e he 0
   simp only [Nat.add_zero, cntS] at this
   omega
  | succ i =>
   obtain ⟨n, n1, n2, n3⟩ := ih (arf_blow_arf hs ha hg) i (by simpa using hi)
   have := cnt_blow hs ha hg e he n
   refine ⟨e + n, ?_, ?_, by omega⟩
   ·rw [List.take_succ_cons, List.sum_cons, ← n1, ← he]; omega
   ·have := (blow_iff hs ha hg n).1 n2
    rwa [show (n : Int) + rd l 0 = ((e + n : Nat) : Int) by omega] at this
theorem iWith_l0 (l c : List Int) (hl : l.length ≤ 1048576) (hc : c.length ≤ 1048576) (hin : ∀ x ∈ l, Elem c x) : ∀ (d j : Nat), l.length - j = d → j ≤ l.length → Ev (fun k => impl_IsWithin.l0 k l (l.length : Int) (j : Int) c) true := by
 intro d
 induction d with
 | zero =>
  intro j hd hj
  exact Ev.step (fun _ => impl_IsWithin.l0.eq_2 ..) (Ev.neg (by omega) (Ev.now _))
 | succ d ih =>
  intro j hd hj
  have hlt : j < l.length := by omega
  refine Ev.step (fun _ => impl_IsWithin.l0.eq_2 ..) (Ev.pos (by omega) (Ev.pos (by omega) (Ev.pos (by omega) ?_)))
  rw [rd_get hlt, w64s (by omega)]
  exact Ev.bind ((iContains c hc _).yes (hin _ (List.getElem_mem hlt))) (Ev.pos rfl (ih (j + 1) (by omega) (by omega)))
theorem iWith (l c : List Int) (h : IsSG l) (hc : IsSG c) (hin : ∀ x ∈ l, Sums c x) : Ev (fun k => impl_IsWithin.f k l c) true := by
 have h1 := h.le
 have h2 := hc.le
 unfold impl_IsWithin.f
 refine Ev.bind ((iIsSG l (by omega)).yes h) (Ev.pos rfl (Ev.bind ((iIsSG c (by omega)).yes hc) ?_))
 refine Ev.step (fun _ => impl_IsWithin.j0.eq_2 ..) (Ev.neg (by simp) ?_)
 exact iWith_l0 l c (by omega) (by omega) (fun x hx => ⟨hc, by have := (h.rng x hx).1; omega, hin x hx⟩) l.length 0 (by omega) (by omega)
theorem same_l0 (a : List Int) (ha : a.length ≤ 1048576) : ∀ (d j : Nat), a.length - j = d → j ≤ a.length → Ev (fun k => laws_sameInts.l0 k a a (j : Int)) true := by
 intro d
 induction d with
 | zero =>
  intro j hd hj
  exact Ev.step (fun _ => laws_sameInts.l0.eq_2 ..) (Ev.neg (by omega) (Ev.now _))
 | succ d ih =>
  intro j hd hj
  refine Ev.step (fun _ => laws_sameInts.l0.eq_2 ..) (Ev.pos (by omega) (Ev.pos (by omega) (Ev.pos (by omega) (Ev.pos rfl ?_))))
  rw [w64s (by omega)]
  exact ih (j + 1) (by omega) (by omega)
theorem same (a : List Int) (ha : a.length ≤ 1048576) : Ev (fun k => laws_sameInts.f k a a) true :=
 Ev.pos rfl (same_l0 a ha a.length 0 (by omega) (by omega))
end Go.Proofs.Ytddgegejeoihaaa.FFnArf
end
section
namespace Go.Proofs.Ytddgegejeoihaaa.WM
open Go.Proofs.Ytddgegejeoihaaa.M
def minb : Nat → List Nat → Bool
 | _, [] => true
 | m, g :: t => (!m.testBit g) && minb (add g m) t
def msk : Nat → List Nat → Nat
 | m, [] => m
 | m, g :: t => msk (add g m) t
theorem ints_cons (a : Nat) (t : List Nat) : ints (a :: t) = (a : Int) :: ints t := rfl
theorem ints_len (t : List Nat) : (ints t).length = t.length := by unfold ints; rw [List.length_map]
theorem ints_getD (t : List Nat) (i : Nat) : (ints t).getD i 0 = ((t.getD i 0 : Nat) : Int) := by
 unfold ints
 rw [List.getD_eq_getElem?_getD, List.getD_eq_getElem?_getD, List.getElem?_map]
 cases t[i]? <;> rfl
theorem ints_take (t : List Nat) (i : Nat) : (ints t).take i = ints (t.take i) := by unfold ints; rw [List.map_take]
theorem pos_snoc {l : List Int} {g : Nat} (hl : ∀ x ∈ l, 1 ≤ x) (hg : 1 ≤ g) : ∀ x ∈ l ++ [(g : Int)], 1 ≤ x := by
 intro x hx
 rcases List.mem_append.1 hx with hx | hx
 ·exact hl x hx
 ·have : x = g := by simpa using hx
  omega
theorem msk_sp : ∀ (t : List Nat) (m : Nat) (l : List Int), Sp m l → (∀ x ∈ l, 1 ≤ x) → (∀ x ∈ t, 1 ≤ x) → Sp (msk m t) (l ++ ints t) := by
 intro t
 induction t with
 | nil => intro m l h _ _; simpa [msk, ints] using h
 | cons g t ih =>
  intro m l h hl ht
  have hg := ht g (List.mem_cons_self ..)
  have := ih (add g m) (l ++ [(g : Int)]) (sp_add h hl hg) (pos_snoc hl hg) fun x hx => ht x (List.mem_cons_of_mem _ hx)
  rw [List.append_assoc, List.singleton_append] at this
  exact this
theorem msk_sp1 (t : List Nat) (ht : ∀ x ∈ t, 1 ≤ x) : Sp (msk 1 t) (ints t) := by
 have := msk_sp t 1 [] sp_one (by simp) ht
 simpa using this
theorem minb_mn : ∀ (t : List Nat) (m : Nat) (l : List Int), Sp m l → (∀ x ∈ l, 1 ≤ x) → (∀ x ∈ t, 1 ≤ x ∧ x < 256) → minb m t = true → Mn l t := by
 intro t
 induction t with
 | nil => intro _ _ _ _ _ _; trivial
 | cons g t ih =>
  intro m l h hl ht hb
  have hg := ht g (List.mem_cons_self ..)
  unfold minb at hb
  rw [Bool.and_eq_true] at hb
  refine ⟨fun hs => ?_, ih (add g m) _ (sp_add h hl hg.1) (pos_snoc hl hg.1) (fun x hx => ht x (List.mem_cons_of_mem _ hx)) hb.2⟩
  have := (h.2 g hg.2).2 hs
  rw [this] at hb
  exact absurd hb.1 (by decide)
theorem mn_get : ∀ (t : List Nat) (l : List Int), Mn l t → ∀ i : Nat, i < t.length → ¬ Sums (l ++ ints (t.take i)) (t.getD i 0 : Nat) := by
 intro t
 induction t with
 | nil => intro l _ i hi; simp at hi
 | cons g t ih =>
  intro l h i hi
  cases i with
  | zero => simpa [ints] using h.1
  | succ i =>
   have := ih _ h.2 i (by simpa using hi)
   rw [List.append_assoc, List.singleton_append] at this
   simpa [ints] using this
theorem mn_of : ∀ (t : List Nat) (l : List Int), (∀ i : Nat, i < t.length → ¬ Sums (l ++ ints (t.take i)) (t.getD i 0 : Nat)) → Mn l t := by
 intro t
 induction t with
 | nil => intro _ _; trivial
 | cons g t ih =>
  intro l h
  refine ⟨by have := h 0 (by simp); simpa [ints] using this, ih _ fun i hi => ?_⟩
  have := h (i + 1) (by simpa using hi)
  rw [List.append_assoc, List.singleton_append]
  simpa [ints] using this
theorem isSG_of (a : Nat) (t : List Nat) (h1 : 1 ≤ a) (h2 : a ≤ 56) (hlen : t.length ≤ 11) (hr : ∀ x ∈ a :: t, 1 ≤ x ∧ x ≤ 60) (hp : (a :: t).Pairwise (· < ·)) (hg : gcdL (ints (a :: t)) = 1) (hm : minb (add a 1) t = true)
 (he : ((List.range a).all fun i => (msk 1 (a :: t)).testBit (200 + i)) = true) : IsSG (ints (a :: t)) := by
 have hsp := msk_sp1 (a :: t) fun x hx => (hr x hx).1
 have hmn : Mn [(a : Int)] t := minb_mn t (add a 1) [(a : Int)] (by have := sp_add sp_one (g := a) (by simp) h1; simpa using this) (by simp; omega) (fun x hx => by have := hr x (List.mem_cons_of_mem _ hx); omega) hm
 refine ⟨by rw [ints_len]; simp, by rw [ints_len]; simp; omega, ?_, ?_, hg, ?_, ?_⟩
 ·intro x hx
  unfold ints at hx
  obtain ⟨y, hy, rfl⟩ := List.mem_map.1 hx
  have := hr y hy
  omega
 ·unfold ints
  rw [List.pairwise_map]
  exact hp.imp fun h => by omega
 ·intro i hi1 hi2
  obtain ⟨j, rfl⟩ : ∃ j, i = j + 1 := ⟨i - 1, by omega⟩
  rw [ints_len] at hi2
  have := mn_get t _ hmn j (by simpa using hi2)
  rw [ints_cons, List.take_succ_cons, List.getD_cons_succ, ints_getD, ints_take]
  exact this
 ·refine ends_of (a := (a : Int)) (by omega) (by simp [ints]) fun n hn1 hn2 => ?_
  obtain ⟨x, rfl⟩ : ∃ x : Nat, n = (x : Int) := ⟨n.toNat, by omega⟩
  refine (hsp.2 x (by omega)).1 ?_
  have := List.all_eq_true.1 he (x - 200) (List.mem_range.2 (by omega))
  rwa [show 200 + (x - 200) = x by omega] at this
theorem of_pre {l : List Int} (h0 : 1 ≤ l.length) (hr : ∀ x ∈ l, 1 ≤ x) (hp : l.Pairwise (· < ·)) (hm : ∀ i : Nat, 1 ≤ i → i < l.length → ¬ Sums (l.take i) (l.getD i 0)) :
 ∃ (a : Nat) (t : List Nat), l = ints (a :: t) ∧ 1 ≤ a ∧ (a :: t).Pairwise (· < ·) ∧ Mn [(a : Int)] t := by
 obtain ⟨u, rfl⟩ : ∃ u : List Nat, l = ints u := by
  refine ⟨l.map Int.toNat, ?_⟩
  unfold ints
  rw [List.map_map]
  conv => lhs; rw [← List.map_id l]
  refine List.map_congr_left fun x hx => ?_
  have := hr x hx
  simp only [id_eq, Function.comp_apply]
  omega
 cases u with
 | nil => simp [ints] at h0
 | cons a t =>
  refine ⟨a, t, rfl, ?_, ?_, ?_⟩
  ·have := hr (a : Int) (by simp [ints]); omega
  ·unfold ints at hp
   rw [List.pairwise_map] at hp
   exact hp.imp fun h => by omega
  ·refine mn_of t _ fun i hi => ?_
   have := hm (i + 1) (by omega) (by rw [ints_len]; simpa using hi)
   rw [ints_cons, List.take_succ_cons, List.getD_cons_succ, ints_getD, ints_take] at this
   exact this
theorem wilfW {l : List Int} (h : IsSG l) (hlen : l.length ≤ 6) (hw : ∀ x ∈ l, ∀ y ∈ l, x ≤ y + 12 ∧ x ≤ 21) : Wil l l.length := by
 obtain ⟨a, t, rfl, h1, hp, hm⟩ := of_pre h.pos (fun x hx => (h.rng x hx).1) h.asc h.minl
 have ha : (a : Int) ∈ ints (a :: t) := by simp [ints]
 rw [ints_len] at hlen ⊢
 rw [List.length_cons] at hlen ⊢
 rw [Nat.add_comm]
 refine wilf_top a t h1 (by have := (hw _ ha _ ha).2; omega) hp (fun x hx => ?_) (by omega) hm (fun x hx _ => h.ends x (by omega))
 have := hw (x : Int) (by unfold ints; exact List.mem_map.2 ⟨x, List.mem_cons_of_mem _ hx, rfl⟩) _ ha
 omega
theorem wilfW60 {l : List Int} (h : IsSG (l ++ [60])) (h0 : 1 ≤ l.length) (hlen : l.length ≤ 6) (hw : ∀ x ∈ l, ∀ y ∈ l, x ≤ y + 12 ∧ x ≤ 21) : Wil (l ++ [60]) (l ++ [60]).length := by
 have hl : (l ++ [60]).length = l.length + 1 := by simp
 have hm60 := h.minl l.length h0 (by omega)
 have e60 : (l ++ [(60 : Int)]).getD l.length 0 = 60 := by
  rw [List.getD_eq_getElem?_getD, List.getElem?_append_right (Nat.le_refl _), Nat.sub_self]; rfl
 rw [e60, List.take_left] at hm60
 have hml : ∀ i : Nat, 1 ≤ i → i < l.length → ¬ Sums (l.take i) (l.getD i 0) := by
  intro i h1 h2
  have := h.minl i h1 (by omega)
  rw [List.take_append_of_le_length (by omega), List.getD_eq_getElem?_getD, List.getElem?_append_left h2, ← List.getD_eq_getElem?_getD] at this
  exact this
 obtain ⟨a, t, rfl, h1, hp, hm⟩ := of_pre h0 (fun x hx => (h.rng x (List.mem_append_left _ hx)).1) (List.pairwise_append.1 h.asc).1 hml
 have ha : (a : Int) ∈ ints (a :: t) := by simp [ints]
 rw [hl]
 rw [ints_len] at hlen ⊢
 rw [List.length_cons] at hlen ⊢
 rw [show t.length + 1 + 1 = 2 + t.length by omega]
 refine wilf_top60 a t h1 (by have := (hw _ ha _ ha).2; omega) hp (fun x hx => ?_) (by omega) hm hm60 (fun x hx _ => h.ends x (by omega))
 have := hw (x : Int) (by unfold ints; exact List.mem_map.2 ⟨x, List.mem_cons_of_mem _ hx, rfl⟩) _ ha
 omega
def Exam (l : List Int) : Prop := l = [1] ∨ l = [3, 5] ∨ l = [4, 6, 9] ∨ l = [3, 4, 5] ∨ l = [6, 9, 20] ∨ l = [5, 7, 9, 11] ∨ l = [2, 3] ∨ l = [4, 5, 11]
theorem Exam.sg {l : List Int} (h : Exam l) : IsSG l := by
 rcases h with rfl | rfl | rfl | rfl | rfl | rfl | rfl | rfl
 ·exact isSG_of 1 [] (by decide) (by decide) (by decide) (by decide) (by decide) (by decide) (by decide +kernel) (by decide +kernel)
 ·exact isSG_of 3 [5] (by decide) (by decide) (by decide) (by decide) (by decide) (by decide) (by decide +kernel) (by decide +kernel)
 ·exact isSG_of 4 [6, 9] (by decide) (by decide) (by decide) (by decide) (by decide) (by decide) (by decide +kernel) (by decide +kernel)
 ·exact isSG_of 3 [4, 5] (by decide) (by decide) (by decide) (by decide) (by decide) (by decide) (by decide +kernel) (by decide +kernel)
 ·exact isSG_of 6 [9, 20] (by decide) (by decide) (by decide) (by decide) (by decide) (by decide) (by decide +kernel) (by decide +kernel)
 ·exact isSG_of 5 [7, 9, 11] (by decide) (by decide) (by decide) (by decide) (by decide) (by decide) (by decide +kernel) (by decide +kernel)
 ·exact isSG_of 2 [3] (by decide) (by decide) (by decide) (by decide) (by decide) (by decide) (by decide +kernel) (by decide +kernel)
 ·exact isSG_of 4 [5, 11] (by decide) (by decide) (by decide) (by decide) (by decide) (by decide) (by decide +kernel) (by decide +kernel)
theorem Exam.win {l : List Int} (h : Exam l) : (l.length ≤ 5 ∧ ∀ x ∈ l, ∀ y ∈ l, x ≤ y + 12 ∧ x ≤ 21) ∨ l = [6, 9, 20] := by
 rcases h with rfl | rfl | rfl | rfl | rfl | rfl | rfl | rfl
 ·exact .inl ⟨by decide, by decide⟩
 ·exact .inl ⟨by decide, by decide⟩
 ·exact .inl ⟨by decide, by decide⟩
 ·exact .inl ⟨by decide, by decide⟩
 ·exact .inr rfl
 ·exact .inl ⟨by decide, by decide⟩
 ·exact .inl ⟨by decide, by decide⟩
 ·exact .inl ⟨by decide, by decide⟩
theorem wil_6_9_20 : Wil [6, 9, 20] 3 := by
 refine chk_sound (m := msk 1 [6, 9, 20]) (msk_sp1 [6, 9, 20] (by decide)) (by decide +kernel) fun x hx _ => ?_
 exact (Exam.sg (.inr (.inr (.inr (.inr (.inl rfl)))))).ends x (by omega)
def Dr (g : List Int) : Prop := IsSG g ∧ ((g.length ≤ 5 ∧ ∀ x ∈ g, ∀ y ∈ g, x ≤ y + 12 ∧ x ≤ 21) ∨ g = [6, 9, 20])
def Bt (r : List Int) : Prop := r.length ≤ 13 ∧ (IsSG r → Wil r r.length)
theorem Dr.bt {g : List Int} (h : Dr g) : Bt g := by
 refine ⟨by have := h.1.le; omega, fun _ => ?_⟩
 rcases h.2 with ⟨h1, h2⟩ | rfl
 ·exact wilfW h.1 (by omega) h2
 ·exact wil_6_9_20
theorem Dr.tail {g : List Int} (h : Dr g) : Bt (g.drop 1) := by
 have hle := h.1.le
 refine ⟨by rw [List.length_drop]; omega, fun hs => wilfW hs ?_ ?_⟩
 ·rw [List.length_drop]
  rcases h.2 with ⟨h1, _⟩ | rfl
  ·omega
  ·decide
 ·rcases h.2 with ⟨_, h2⟩ | rfl
  ·exact fun x hx y hy => h2 x (List.mem_of_mem_drop hx) y (List.mem_of_mem_drop hy)
  ·decide
theorem Dr.snoc {g : List Int} (h : Dr g) (z : Int) (hz : z ∈ [0, 61, 12, -3, (60 : Int)]) : Bt (g ++ [z]) := by
 have hle := h.1.le
 refine ⟨by simp; omega, fun hs => ?_⟩
 have hzr := hs.rng z (by simp)
 have hasc := hs.asc
 rw [List.pairwise_append] at hasc
 simp only [List.mem_cons, List.not_mem_nil, or_false] at hz
 have h5 : g.length ≤ 5 := by
  rcases h.2 with ⟨h1, _⟩ | rfl
  ·exact h1
  ·decide
 rcases hz with rfl | rfl | rfl | rfl | rfl
 ·omega
 ·omega
 ·refine wilfW hs (by simp; omega) fun x hx y hy => ?_
  have hy1 := hs.rng y hy
  have hx1 : x ≤ 12 := by
   rcases List.mem_append.1 hx with hx | hx
   ·have := hasc.2.2 x hx 12 (by simp); omega
   ·have : x = 12 := by simpa using hx
    omega
  omega
 ·omega
 ·rcases h.2 with ⟨h1, h2⟩ | rfl
  ·exact wilfW60 hs h.1.pos (by omega) h2
  ·exfalso
   refine hs.minl 3 (by decide) (by decide) ?_
   have := (Sums.one (g := [6, 9, 20]) (x := 6) (by decide)).mul 10
   exact this
theorem bt_pair (z : Int) (hz : z ∈ [0, 59, (4 : Int)]) : Bt [z, 60] := by
 refine ⟨by simp, fun hs => ?_⟩
 simp only [List.mem_cons, List.not_mem_nil, or_false] at hz
 rcases hz with rfl | rfl | rfl
 ·have := hs.rng 0 (by simp); omega
 ·exfalso
  have h1 := hs.ends 200 (by omega)
  have h2 := ((msk_sp1 [59, 60] (by decide)).2 200 (by decide)).2 h1
  exact absurd h2 (by decide +kernel)
 ·exfalso
  have := hs.gcd
  exact absurd this (by decide)
end Go.Proofs.Ytddgegejeoihaaa.WM
end
section
namespace Go.Proofs.Ytddgegejeoihaaa.FFnArf
open Go Go.RowKit Go.Proofs.YtddgegejeoihaaaW.PrintWords Go.Proofs.Ytddgegejeoihaaa.M Go.Proofs.Ytddgegejeoihaaa.PFnArf Go.Proofs.Ytddgegejeoihaaa.WM
theorem and255 (x : Int) : 0 ≤ Go.bits .and .i64 x 255 ∧ Go.bits .and .i64 x 255 ≤ 255 := by
 have h : (BitVec.ofInt 64 x &&& BitVec.ofInt 64 255).toNat ≤ 255 := by
  rw [BitVec.toNat_and]; exact Nat.and_le_right
 have e : Go.bits .and .i64 x 255 = IntKind.wrap .i64 ((BitVec.ofInt 64 x &&& BitVec.ofInt 64 255).toNat : Int) := rfl
 rw [e]
 revert h
 generalize (BitVec.ofInt 64 x &&& BitVec.ofInt 64 255).toNat = n
 intro h
 have : IntKind.wrap .i64 (n : Int) = n := by
  rw [IntKind.wrap_i64 (n : Int)]; omega
 omega
theorem byteD (b : List Int) (i h : Int) (hb : b.length ≤ 4611686018427387904) (hi : 0 ≤ i ∧ i ≤ b.length) : ∃ x i' h', spec_l1Byte.f b i h = some (x, i', h') ∧ 0 ≤ x ∧ x ≤ 255 ∧ 0 ≤ i' ∧ i' ≤ b.length := by
 unfold spec_l1Byte.f
 by_cases c : i < (b.length : Int)
 ·rw [if_pos c, if_pos hi.1]
  have := and255 (wrap64 ((Go.bits .and .i64 (Go.bits .xor .i64 ((wrap64 ((wrap64 (h * 6364136223846793005)) + 1442695040888963407)) / 8589934592) ((wrap64 ((wrap64 (h * 6364136223846793005)) + 1442695040888963407)) / 35184372088832)) 255) + (wrap64 (rd b i))))
  refine ⟨_, _, _, rfl, this.1, this.2, ?_, ?_⟩
  ·rw [w64 (by omega) (by omega)]; omega
  ·rw [w64 (by omega) (by omega)]; omega
 ·rw [if_neg c]
  have := and255 (Go.bits .xor .i64 ((wrap64 ((wrap64 (h * 6364136223846793005)) + 1442695040888963407)) / 8589934592) ((wrap64 ((wrap64 (h * 6364136223846793005)) + 1442695040888963407)) / 35184372088832))
  exact ⟨_, _, _, rfl, this.1, this.2, hi⟩
theorem belowD (b : List Int) (i h n : Int) (hb : b.length ≤ 4611686018427387904) (hi : 0 ≤ i ∧ i ≤ b.length) (hn : 1 ≤ n ∧ n ≤ 256) : ∃ x i' h', spec_l1Below.f b i h n = some (x, i', h') ∧ 0 ≤ x ∧ x < n ∧ 0 ≤ i' ∧ i' ≤ b.length := by
 obtain ⟨x, i', h', e, h0, _, hi'⟩ := byteD b i h hb hi
 unfold spec_l1Below.f
 rw [if_neg (by omega), if_pos hn.2, e]
 refine ⟨Int.tmod x n, i', h', ?_, ?_, ?_, hi'⟩
 ·rw [Option.bind_some, if_neg (by omega)]
 ·rw [tmod_pos h0]; exact Int.emod_nonneg _ (by omega)
 ·rw [tmod_pos h0]; exact Int.emod_lt_of_pos _ (by omega)
theorem pickD (b : List Int) (i h : Int) (l : List Int) (hb : b.length ≤ 4611686018427387904) (hi : 0 ≤ i ∧ i ≤ b.length) (hn : 1 ≤ l.length ∧ l.length ≤ 256) : ∃ x i' h', spec_l1PickInt.f b i h l = some (x, i', h') ∧ x ∈ l ∧ 0 ≤ i' ∧ i' ≤ b.length := by
 obtain ⟨x, i', h', e, h0, h1, hi'⟩ := belowD b i h l.length hb hi (by omega)
 unfold spec_l1PickInt.f
 rw [e]
 refine ⟨rd l x, i', h', ?_, ?_, hi'⟩
 ·rw [Option.bind_some, if_pos h0, if_pos h1]
 ·obtain ⟨m, rfl⟩ := Int.eq_ofNat_of_zero_le h0
  exact rd_mem (by omega)
theorem listD (b : List Int) (i h : Int) (hb : b.length ≤ 4611686018427387904) (hi : 0 ≤ i ∧ i ≤ b.length) : ∃ l i' h', spec_l3List.f b i h = some (l, i', h') ∧ Exam l ∧ 0 ≤ i' ∧ i' ≤ b.length := by
 obtain ⟨x, i', h', e, h0, h1, hi'⟩ := belowD b i h 8 hb hi (by omega)
 unfold spec_l3List.f
 rw [e, Option.bind_some]
 dsimp only
 by_cases c0 : x = 0
 ·rw [if_pos c0]; exact ⟨_, _, _, rfl, .inl rfl, hi'⟩
 rw [if_neg c0]
 by_cases c1 : x = 1
 ·rw [if_pos c1]; exact ⟨_, _, _, rfl, .inr (.inl rfl), hi'⟩
 rw [if_neg c1]
 by_cases c2 : x = 2
 ·rw [if_pos c2]; exact ⟨_, _, _, rfl, .inr (.inr (.inl rfl)), hi'⟩
 rw [if_neg c2]
 by_cases c3 : x = 3
 ·rw [if_pos c3]; exact ⟨_, _, _, rfl, .inr (.inr (.inr (.inl rfl))), hi'⟩
 rw [if_neg c3]
 by_cases c4 : x = 4
 ·rw [if_pos c4]; exact ⟨_, _, _, rfl, .inr (.inr (.inr (.inr (.inl rfl)))), hi'⟩
 rw [if_neg c4]
 by_cases c5 : x = 5
 ·rw [if_pos c5]; exact ⟨_, _, _, rfl, .inr (.inr (.inr (.inr (.inr (.inl rfl))))), hi'⟩
 rw [if_neg c5]
 by_cases c6 : x = 6
 ·rw [if_pos c6]; exact ⟨_, _, _, rfl, .inr (.inr (.inr (.inr (.inr (.inr (.inl rfl)))))), hi'⟩
 rw [if_neg c6]
 exact ⟨_, _, _, rfl, .inr (.inr (.inr (.inr (.inr (.inr (.inr rfl)))))), hi'⟩
theorem newD_l0 (b : List Int) : ∀ (d j : Nat) (h : Int), 4000 - j = d → j ≤ 4000 → ∃ h', Ev (fun k => spec_l1New.l0 k b h (j : Int)) (b, 0, h') := by
 intro d
 induction d with
 | zero =>
  intro j h hd hj
  refine ⟨h, Ev.step (fun _ => spec_l1New.l0.eq_2 ..) ?_⟩
  by_cases c : (j : Int) < (b.length : Int)
  ·exact Ev.pos c (Ev.neg (by omega) (Ev.now _))
  ·exact Ev.neg c (Ev.now _)
 | succ d ih =>
  intro j h hd hj
  by_cases c : (j : Int) < (b.length : Int)
  ·obtain ⟨h', e⟩ := ih (j + 1) (Go.bits .and .i64 (wrap64 ((wrap64 ((wrap64 (h * 131)) + (wrap64 (rd b j)))) + 7)) 1073741823) (by omega) (by omega)
   refine ⟨h', Ev.step (fun _ => spec_l1New.l0.eq_2 ..) ?_⟩
   refine Ev.pos c (Ev.pos (by omega) (Ev.pos (by omega) ?_))
   rw [w64s (j := j) (by omega)]
   exact e
  ·exact ⟨h, Ev.step (fun _ => spec_l1New.l0.eq_2 ..) (Ev.neg c (Ev.now _))⟩
theorem newD (b : List Int) : ∃ h', Ev (fun k => spec_l1New.f k b) (b, 0, h') := by
 unfold spec_l1New.f
 exact newD_l0 b 4000 0 _ (by omega) (by omega)
theorem onceD (b : List Int) (i h n : Int) (hb : b.length ≤ 4611686018427387904) (hi : 0 ≤ i ∧ i ≤ b.length) (hn : 1 ≤ n ∧ n ≤ 256) : ∃ x i' h', spec_l1Once.f b i h n = some (x, i', h') ∧ 0 ≤ i' ∧ i' ≤ b.length := by
 obtain ⟨x, i', h', e, _, _, hi'⟩ := belowD b i h n hb hi hn
 unfold spec_l1Once.f
 rw [e, Option.bind_some]
 exact ⟨_, _, _, rfl, hi'⟩
theorem examFG {l : List Int} (h : Exam l) {r : List Int × Bool} (hr : FG l r) : r = (l, true) := by
 obtain ⟨s, hs, hr⟩ := hr
 have hg := h.sg
 have : s = l := hs.uniq ⟨hg.asc, fun _ => Iff.rfl, Nat.le_refl _⟩
 subst this
 have hm : minOf [] s = s := (minOf_self s []).2 fun i hi => by
  rw [List.nil_append]
  rcases Nat.eq_zero_or_pos i with h0 | h0
  ·subst h0
   intro k
   have := hg.rng _ (List.getElem_mem hi)
   have := Sums.nil (by simpa using k)
   omega
  ·have := hg.minl i h0 hi
   rwa [getD_get hi] at this
 rw [hm] at hr
 rcases hr with ⟨_, _, e⟩ | ⟨n, _⟩
 ·exact e
 ·refine absurd ⟨⟨hg.rng, hg.pos, ?_⟩, hg⟩ n
  have := hg.le; omega
theorem examD (l : List Int) (h : Exam l) : Ev (fun k => spec_FromGens.f k l) (l, true) := by
 have hg := h.sg
 obtain ⟨r, h1, h2⟩ := sFG l (by have := hg.le; omega)
 rw [examFG h h2] at h1
 exact h1
theorem examDr {l : List Int} (h : Exam l) : Dr l := ⟨h.sg, h.win⟩
def Wl (l : List Int) : Prop := 1 ≤ l.length ∧ l.length ≤ 5 ∧ ∃ a, rd l 0 = a ∧ 2 ≤ a ∧ a ≤ 9 ∧ ∀ x ∈ l, a ≤ x ∧ x ≤ a + 12
theorem Wl.dr {l g : List Int} (h : Wl l) (hg : FG l (g, true)) : Dr g := by
 obtain ⟨h1, h2, a, _, h3, h4, h5⟩ := h
 have hsg := hg.ok
 obtain ⟨s, hs, ⟨_, _, e⟩ | ⟨_, e⟩⟩ := hg
 ·injection e with e _
  have hsub := minOf_sublist s []
  rw [← e] at hsub
  have hm : ∀ x ∈ g, a ≤ x ∧ x ≤ a + 12 := fun x hx => h5 x ((hs.2.1 x).1 (hsub.subset hx))
  refine ⟨hsg, .inl ⟨?_, fun x hx y hy => ?_⟩⟩
  ·have := hsub.length_le; have := hs.2.2; omega
  ·have := hm x hx; have := hm y hy; omega
 ·injection e with _ e; cases e
theorem drawD_l1 (b : List Int) (hb : b.length ≤ 4611686018427387904) (j : Nat) (n : Nat) (hn : n ≤ 4) (hj : j ≤ 3) (next : ∀ i h : Int, 0 ≤ i ∧ i ≤ b.length → ∃ g i' h', Ev (fun k => spec_l3Draw.l0 k ((j + 1 : Nat) : Int) b i h) (g, i', h') ∧ Dr g ∧ 0 ≤ i' ∧ i' ≤ b.length) :
 ∀ (d m : Nat) (l : List Int) (i h : Int), n - m = d → m ≤ n → l.length = m + 1 → Wl l → 0 ≤ i ∧ i ≤ b.length → ∃ g i' h', Ev (fun k => spec_l3Draw.l1 k (j : Int) l (n : Int) (m : Int) b i h) (g, i', h') ∧ Dr g ∧ 0 ≤ i' ∧ i' ≤ b.length := by
 intro d
 induction d with
 | zero =>
  intro m l i h hd hm hl hw hi
  obtain ⟨⟨g, ok⟩, a1, a2⟩ := sFG l (by have := hw.2.1; omega)
  cases ok with
  | true =>
   refine ⟨g, i, h, Ev.step (fun _ => spec_l3Draw.l1.eq_2 ..) ?_, hw.dr a2, hi⟩
   refine Ev.neg (by omega) (Ev.bind a1 (Ev.pos rfl (Ev.now _)))
  | false =>
   obtain ⟨g', i', h', k1, k2⟩ := next i h hi
   refine ⟨g', i', h', Ev.step (fun _ => spec_l3Draw.l1.eq_2 ..) ?_, k2⟩
   refine Ev.neg (by omega) (Ev.bind a1 (Ev.neg (by simp) ?_))
   rw [w64s (by omega)]
   exact k1
 | succ d ih =>
  intro m l i h hd hm hl hw hi
  obtain ⟨x, i1, h1, e, hx0, hx1, hi1⟩ := belowD b i h 12 hb hi (by omega)
  obtain ⟨w1, w2, a, w3, w4, w5, w6⟩ := hw
  obtain ⟨g, i', h', k1, k2⟩ := ih (m + 1) (l ++ [a + 1 + x]) i1 h1 (by omega) (by omega) (by simp; omega) (by
   refine ⟨by simp, by simp; omega, a, ?_, w4, w5, fun y hy => ?_⟩
   ·rw [← w3]; unfold rd
    rw [List.getD_eq_getElem?_getD, List.getElem?_append_left (by omega), ← List.getD_eq_getElem?_getD]
   ·rcases List.mem_append.1 hy with hy | hy
    ·exact w6 y hy
    ·have : y = a + 1 + x := by simpa using hy
     omega) hi1
  refine ⟨g, i', h', Ev.step (fun _ => spec_l3Draw.l1.eq_2 ..) ?_, k2⟩
  refine Ev.pos (by omega) (Ev.pos (by omega) (Ev.call e (Ev.pos (by omega) ?_)))
  rw [w3, w64 (x := a + 1) (by omega) (by omega), w64 (x := a + 1 + x) (by omega) (by omega), w64s (by omega)]
  exact k1
theorem drawD_l0 (b : List Int) (hb : b.length ≤ 4611686018427387904) : ∀ (d j : Nat) (i h : Int), 4 - j = d → j ≤ 4 → 0 ≤ i ∧ i ≤ b.length → ∃ g i' h', Ev (fun k => spec_l3Draw.l0 k (j : Int) b i h) (g, i', h') ∧ Dr g ∧ 0 ≤ i' ∧ i' ≤ b.length := by
 intro d
 induction d with
 | zero =>
  intro j i h hd hj hi
  obtain ⟨l, i', h', e, hE, hi'⟩ := listD b i h hb hi
  refine ⟨l, i', h', Ev.step (fun _ => spec_l3Draw.l0.eq_2 ..) ?_, examDr hE, hi'⟩
  exact Ev.neg (by omega) (Ev.call e (Ev.bind (examD l hE) (Ev.now _)))
 | succ d ih =>
  intro j i h hd hj hi
  obtain ⟨x, i1, h1, e1, x0, x1, hi1⟩ := belowD b i h 8 hb hi (by omega)
  obtain ⟨y, i2, h2, e2, y0, y1, hi2⟩ := belowD b i1 h1 4 hb hi1 (by omega)
  obtain ⟨n, hn⟩ : ∃ n : Nat, 1 + y = (n : Int) := ⟨(1 + y).toNat, by omega⟩
  obtain ⟨g, i', h', k1, k2⟩ := drawD_l1 b hb j n (by omega) (by omega) (fun i h hi => ih (j + 1) i h (by omega) (by omega) hi) n 0 [2 + x] i2 h2 (by omega) (by omega) (by simp) (by
   refine ⟨by simp, by simp, 2 + x, rfl, by omega, by omega, fun z hz => ?_⟩
   have : z = 2 + x := by simpa using hz
   omega) hi2
  refine ⟨g, i', h', Ev.step (fun _ => spec_l3Draw.l0.eq_2 ..) ?_, k2⟩
  refine Ev.pos (by omega) (Ev.call e1 (Ev.call e2 ?_))
  dsimp only
  rw [w64 (x := 2 + x) (by omega) (by omega), w64 (x := 1 + y) (by omega) (by omega), hn]
  exact k1
theorem drawD (b : List Int) (i h : Int) (hb : b.length ≤ 4611686018427387904) (hi : 0 ≤ i ∧ i ≤ b.length) : ∃ g i' h', Ev (fun k => spec_l3Draw.f k b i h) (g, i', h') ∧ Dr g ∧ 0 ≤ i' ∧ i' ≤ b.length := by
 obtain ⟨x, i1, h1, e1, hi1⟩ := onceD b i h 4 hb hi (by omega)
 unfold spec_l3Draw.f
 cases x with
 | true =>
  obtain ⟨l, i', h', e, hE, hi'⟩ := listD b i1 h1 hb hi1
  exact ⟨l, i', h', Ev.call e1 (Ev.pos rfl (Ev.call e (Ev.bind (examD l hE) (Ev.now _)))), examDr hE, hi'⟩
 | false =>
  obtain ⟨g, i', h', k1, k2⟩ := drawD_l0 b hb 4 0 i1 h1 (by omega) (by omega) hi1
  exact ⟨g, i', h', Ev.call e1 (Ev.neg (by simp) k1), k2⟩
theorem bentD (b : List Int) (i h : Int) (hb : b.length ≤ 4611686018427387904) (hi : 0 ≤ i ∧ i ≤ b.length) : ∃ g i' h', Ev (fun k => spec_l3Bent.f k b i h) (g, i', h') ∧ Bt g ∧ 0 ≤ i' ∧ i' ≤ b.length := by
 obtain ⟨g, i1, h1, e1, hD, hi1⟩ := drawD b i h hb hi
 obtain ⟨x, i2, h2, e2, x0, x1, hi2⟩ := belowD b i1 h1 12 hb hi1 (by omega)
 have hle := hD.1.le
 unfold spec_l3Bent.f
 by_cases c0 : x = 0
 ·obtain ⟨z, i3, h3, e3, hz, hi3⟩ := pickD b i2 h2 [0, 61, 12, -3, 60] hb hi2 (by decide)
  exact ⟨_, _, _, Ev.bind e1 (Ev.call e2 (Ev.pos c0 (Ev.call e3 (Ev.pos (by simp only; omega) (Ev.now _))))), hD.snoc z hz, hi3⟩
 by_cases c1 : x = 1
 ·exact ⟨_, _, _, Ev.bind e1 (Ev.call e2 (Ev.neg c0 (Ev.pos c1 (Ev.pos (by have := hD.1.pos; simp only; omega) (Ev.now _))))), hD.tail, hi2⟩
 by_cases c2 : x = 2
 ·obtain ⟨z, i3, h3, e3, hz, hi3⟩ := pickD b i2 h2 [0, 59, 4] hb hi2 (by decide)
  exact ⟨_, _, _, Ev.bind e1 (Ev.call e2 (Ev.neg c0 (Ev.neg c1 (Ev.pos c2 (Ev.call e3 (Ev.now _)))))), bt_pair z hz, hi3⟩
 ·exact ⟨_, _, _, Ev.bind e1 (Ev.call e2 (Ev.neg c0 (Ev.neg c1 (Ev.neg c2 (Ev.now _))))), hD.bt, hi2⟩
end Go.Proofs.Ytddgegejeoihaaa.FFnArf
end
section
namespace Go.Proofs.Ytddgegejeoihaaa.FFnArf
open Go Go.RowKit Go.Proofs.YtddgegejeoihaaaW.PrintWords Go.Proofs.Ytddgegejeoihaaa.M Go.Proofs.Ytddgegejeoihaaa.PFnArf Go.Proofs.Ytddgegejeoihaaa.WM
theorem eqSGs (a b : List Int) (ha : a.length ≤ 1048576) : EvB (fun k => spec_EqualSemigroup.f k a b) (a = b) := by
 unfold spec_EqualSemigroup.f
 obtain ⟨c, h1, h2⟩ := l2Same a b (by omega)
 exact EvB.bind h1 ⟨c, Ev.now _, h2⟩
theorem law_l0 (l s : List Int) (arf ok : Bool) (hs : s.length ≤ 200) (h : arf = true → ok = true → IsSG l ∧ ArfP l ∧ MSq l s) : ∀ (d j : Nat), s.length - j = d → j ≤ s.length → Ev (fun k => laws_FnArf.l0 k arf s ok (s.take j).sum (j : Int) l) true := by
 intro d
 have stop : ∀ j x : Int, Ev (fun k => laws_FnArf.j3 k arf s ok x j false l) true := fun j x => Ev.step (fun _ => laws_FnArf.j3.eq_2 ..) (Ev.neg (by simp) (Ev.now _))
 induction d with
 | zero =>
  intro j hd hj
  exact Ev.step (fun _ => laws_FnArf.l0.eq_2 ..) (Ev.neg (by omega) (stop _ _))
 | succ d ih =>
  intro j hd hj
  have hlt : j < s.length := by omega
  refine Ev.step (fun _ => laws_FnArf.l0.eq_2 ..) (Ev.pos (by omega) ?_)
  by_cases ha : arf = true
  case neg => exact Ev.neg ha (stop _ _)
  refine Ev.pos ha ?_
  by_cases hk : ok = true
  case neg =>
   have : ok = false := by simpa using hk
   subst this
   exact stop _ _
  obtain ⟨h1, h2, h3⟩ := h ha hk
  obtain ⟨n, n1, n2, n3⟩ := ms_at h3 h2 j hlt
  have hn := cntS_200 h1 n
  have nx := ih (j + 1) (by omega) (by omega)
  have e : (s.take j).sum + s[j] = (n : Int) := by rw [n1, take_snoc' hlt, List.sum_append]; simp
  rw [← n1] at nx
  subst hk
  refine Ev.step (fun _ => laws_FnArf.j3.eq_2 ..) (Ev.pos rfl (Ev.pos (by omega) (Ev.pos (by omega) ?_)))
  rw [rd_get hlt, e, w64 (x := (n : Int)) (by omega) (by omega), w64s (j := j) (by omega)]
  exact Ev.bind (iElem l h1 n (j + 1) (by omega) n2 n3) (Ev.pos rfl nx)
theorem law_j0 (u l s : List Int) (c : List Int × Bool) (arf ok : Bool) (hc : CL u c) (hs : s.length ≤ 200) (h : arf = true → ok = true → IsSG l ∧ ArfP l ∧ MSq l s) : Ev (fun k => laws_FnArf.j0 k c.2 arf s ok false u c.1 l) true := by
 have j1 : Ev (fun k => laws_FnArf.j1 k arf s ok l) true := Ev.step (fun _ => laws_FnArf.j1.eq_2 ..) (law_l0 l s arf ok hs h s.length 0 (by omega) (by omega))
 refine Ev.step (fun _ => laws_FnArf.j0.eq_2 ..) (Ev.neg (by simp) ?_)
 obtain ⟨c, b⟩ := c
 cases b with
 | false => exact Ev.neg (by simp) j1
 | true =>
  obtain ⟨k1, k2, k3, k4, k5⟩ := hc.ok
  have hle := k2.le
  obtain ⟨r, r1, r2⟩ := iCL c (by omega)
  have := r2.uniq hc.again
  subst this
  refine Ev.pos rfl (Ev.bind r1 (Ev.bind ((arfBoth c (by omega)).2.yes ⟨k2, hc.arf⟩) (Ev.pos rfl (Ev.bind (iWith u c k1 k2 fun x hx => (k3 x).2 (.base (.one hx))) (Ev.pos rfl (Ev.pos rfl (Ev.bind ((eqSGs c c (by omega)).yes rfl) (Ev.pos rfl j1))))))))
theorem cl_len {l : List Int} {r : List Int × Bool} (h : CL l r) : r.1.length ≤ 1048576 := by
 rcases h.cases with ⟨_, h⟩ | h
 ·have := h.le; omega
 ·rw [h]; simp
theorem law (l0 : List Int) (hl : l0.length ≤ 1048576) : Ev (fun k => laws_FnArf.f k l0) true := by
 unfold laws_FnArf.f
 refine Ev.call rfl (Ev.neg (by simp; omega) ?_)
 obtain ⟨h', e1⟩ := newD l0
 obtain ⟨u, i', h'', e2, hB, hi'⟩ := bentD l0 0 h' (by omega) (by omega)
 have hu : u.length ≤ 1048576 := by have := hB.1; omega
 refine Ev.bind (a := u) ?_ ?_
 ·unfold spec_DrawArfClosure.f
  exact Ev.bind e1 (Ev.bind e2 (Ev.now _))
 obtain ⟨c, c1, c2⟩ := iCL u hu
 obtain ⟨c', c1', c2'⟩ := sCL u hu
 have := c2'.uniq c2
 subst this
 refine Ev.bind c1 (Ev.bind c1' ?_)
 have hcl := cl_len c2
 obtain ⟨l, l1, l2⟩ : ∃ l, Ev (fun k => spec_DrawIsArf.f k l0) l ∧ l.length ≤ 1048576 := by
  unfold spec_DrawIsArf.f
  obtain ⟨x, i3, h3, e3, _⟩ := onceD l0 i' h'' 2 (by omega) hi' (by omega)
  cases x with
  | false => exact ⟨u, Ev.bind e1 (Ev.bind e2 (Ev.call e3 (Ev.neg (by simp) (Ev.now _)))), hu⟩
  | true =>
   by_cases q : c'.2 = true
   ·exact ⟨c'.1, Ev.bind e1 (Ev.bind e2 (Ev.call e3 (Ev.pos rfl (Ev.bind c1' (Ev.pos q (Ev.now _)))))), hcl⟩
   ·exact ⟨u, Ev.bind e1 (Ev.bind e2 (Ev.call e3 (Ev.pos rfl (Ev.bind c1' (Ev.neg q (Ev.now _)))))), hu⟩
 clear e1 e2
 obtain ⟨as1, ai⟩ := arfBoth l l2
 obtain ⟨b, b1, b2⟩ := ai
 have b1' : Ev (fun k => spec_IsArf.f k l) b := by
  obtain ⟨b', b1', b2'⟩ := as1
  have : b' = b := by rw [Bool.eq_iff_iff, b2, b2']
  rwa [this] at b1'
 obtain ⟨r, r1, r2⟩ := sBU l l2
 obtain ⟨r', r1', r2'⟩ := iBU l l2
 have := r2'.uniq r2
 subst this
 have hrl : r'.1.length ≤ 1048576 := by
  rcases r2.cases with ⟨_, h⟩ | h
  ·have := h.le; omega
  ·rw [h]; simp
 obtain ⟨s, s1, s2, s3, s4⟩ := MSfull l l2
 have fin := law_j0 u l s.1 c' b s.2 c2 (by omega) fun h1 h2 => ⟨(b2.1 h1).1, (b2.1 h1).2, s4 h2⟩
 refine Ev.bind l1 (Ev.bind b1 ?_)
 obtain ⟨f, f1, f2, f3⟩ : ∃ f, Ev (fun k => spec_ArfFailure.f k l) f ∧ Ev (fun k => impl_ArfFailure.f k l) f ∧ (f.2.2.2 = true → b = false ∧ ∃ x y z, f = (x, y, z, true) ∧ x ∈ small l ∧ y ∈ small l ∧ z ∈ small l ∧ z ≤ y ∧ y ≤ x ∧ ¬ Sums l (x + y - z)) := by
  by_cases h : IsSG l
  ·obtain ⟨f, f1, f2, f3⟩ := failBoth l h
   refine ⟨f, f1, f2, fun k => ⟨?_, ?_⟩⟩
   ·have := f3.flag h
    rw [k] at this
    rw [Bool.eq_false_iff]
    exact fun q => by simpa using this.2 (b2.1 q).2
   ·rcases f3 with ⟨_, q⟩ | ⟨q, _⟩
    ·exact q
    ·rw [q] at k; simp at k
  ·obtain ⟨f1, f2⟩ := failNo l l2 h
   exact ⟨_, f1, f2, fun k => by simp at k⟩
 refine Ev.bind f2 (Ev.bind f1 (Ev.bind r1' (Ev.bind r1 (Ev.bind s2 (Ev.bind s1 ?_)))))
 refine Ev.neg (by simp) (Ev.bind ((eqSGs c'.1 c'.1 hcl).yes rfl) (Ev.pos rfl (Ev.bind b1' (Ev.neg (by simp) (Ev.pos rfl (Ev.pos rfl (Ev.pos rfl (Ev.neg (by simp) (Ev.neg (by simp) (Ev.bind ((eqSGs r'.1 r'.1 hrl).yes rfl) (Ev.pos rfl (Ev.neg (by simp) (Ev.bind (same s.1 (by omega)) (Ev.pos rfl ?_))))))))))))))
 by_cases q : f.2.2.2 = true
 ·obtain ⟨hb, x, y, z, e, hx, hy, hz, k1, k2, k3⟩ := f3 q
  have mx := small_mem.1 hx
  have my := small_mem.1 hy
  have mz := small_mem.1 hz
  have hc := con_le l
  refine Ev.pos q (Ev.neg (by rw [hb]; simp) ?_)
  rw [e]
  simp only
  rw [w64 (x := x + y) (by omega) (by omega), w64 (x := x + y - z) (by omega) (by omega)]
  exact Ev.bind ((sContains l l2 _).no fun k => k3 k.2.2) fin
 ·exact Ev.neg q fin
end Go.Proofs.Ytddgegejeoihaaa.FFnArf
namespace Go.Proofs.Ytddgegejeoihaaa.Pure
open Go.Proofs.YtddgegejeoihaaaW.PrintWords Go.Proofs.Ytddgegejeoihaaa.PFnArf Go.Proofs.Ytddgegejeoihaaa.FFnArf Go.Proofs.Ytddgegejeoihaaa.M
theorem FnArf : laws_FnArf.Pure := by
 intro l0 _ hl _
 by_cases h : l0.length ≤ 1048576
 ·exact Ev.rounds (law l0 h)
 ·refine ⟨0, ?_⟩
  unfold laws_FnArf.f laws_big.f
  rw [Option.bind_some, if_pos (by simp; omega)]
end Go.Proofs.Ytddgegejeoihaaa.Pure
end
section
namespace Go.Proofs.YtddgegejeoihaaaW.PrintWords
open Go.ChangeShapes Go.WideShapes
theorem sized_ints {H : Type} {enc : TypeId × Value → H} {P : Program} {W : World} {base : Nat} {spare : Nat → Bool} {held : Bool} {t e : TypeId} {k : IntKind} {a : Option Addr} {len cap : Nat} {d : DataW H} {ps : List MemPlace} {ts : List TypeId} {ds : List (DataW H)} {j : Nat}
 (hsz : (DataW.weightsEach P ts ds).all (· ≤ reachBytes) = true) (ht : ts[j]? = some t) (hd : ds[j]? = some d) (hu : P.underlying t = some (.slice e)) (he : P.underlying e = some (.int k)) (hc : P.cellsOf e = 1) {B : Nat} (hB : P.bytesOf e = B)
 (h : DataW.Trod enc P W base spare held t (.slice a len cap) d ps) : len * B ≤ 140737488351232 := by
 obtain ⟨fuel, hf⟩ := h
 rcases open_ints hu he hc hf with ⟨hcs, _⟩ | ⟨x, l, c, zs, hcs, _, hl, _, hz, hx, _, _⟩
 ·simp [Value.cells] at hcs
  obtain ⟨rfl, rfl, rfl⟩ := hcs
  simp
 ·simp [Value.cells] at hcs
  obtain ⟨rfl, rfl, rfl⟩ := hcs
  obtain ⟨hx, _⟩ := Prod.mk.inj hx
  subst hx
  have z := sized_slice hsz ht hd hu
  rw [hB] at z
  have hl2 : len ≤ zs.length := by
   rw [hz]
   split
   ·exact hl
   ·exact Nat.le_refl _
  have h1 : (lits (H := H) k (zs.take len)).length + (lits (H := H) k (zs.drop len)).length = zs.length := by
   simp [lits]
   omega
  rw [h1] at z
  exact Nat.le_trans (Nat.mul_le_mul_right _ hl2) z
end Go.Proofs.YtddgegejeoihaaaW.PrintWords
end
