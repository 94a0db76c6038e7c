/- Words for a row of whole numbers of the call's own that the library sorts or compacts in place: from the library's words (Holds, putRow, grow) to the print's (Kd.R, Kept). No condition. -/
import Derived.Test.YtbjbolblahlhcaaWKeptZFnExactGlueFrobenius
import Derived.Test.YtbjbolblahlhcaaWLastZFnExactGlueFrobenius
import Derived.Shelf.Sort.Plain
import Derived.Shelf.Slices.CompactI
import Derived.Shelf.Slices.In.SortNone
namespace Go.Proofs.Ytbjbolblahlhcaa.SortW
open Go.Sort (grow putRow putCells onCells mapBlock Holds)
open Go Go.RowKit Go.Proofs.YtbjbolblahlhcaaW.PrintWords Go.Proofs.YtbjbolblahlhcaaW.PrintLast
theorem reps_int {w : World} {base : Nat} {ok : Nat → Prop} {ps : List Int} {cs : List Value} (h : Reps ((Kd.int .i64).M w base ok) 1 ps cs) : cs = ps.map (Value.int .i64) := by
 apply List.ext_getElem?
 intro j
 have hl := h.1
 rw [List.getElem?_map]
 cases hp : ps[j]? with
 | none =>
  have : ps.length ≤ j := List.getElem?_eq_none_iff.1 hp
  exact List.getElem?_eq_none_iff.2 (by omega)
 | some p =>
  have h2 : (cs.drop (j * 1)).take 1 = [Value.int .i64 p] := h.2 j p hp
  have h3 : ((cs.drop (j * 1)).take 1)[0]? = some (Value.int .i64 p) := by rw [h2]; rfl
  rw [List.getElem?_take_of_lt (by omega), List.getElem?_drop] at h3
  simpa using h3
theorem reps_map {w : World} {base : Nat} {ok : Nat → Prop} (ps : List Int) : Reps ((Kd.int .i64).M w base ok) 1 ps (ps.map (Value.int .i64)) := by
 refine ⟨by simp, fun j p hp => ?_⟩
 show ((ps.map (Value.int .i64)).drop (j * 1)).take 1 = [Value.int .i64 p]
 obtain ⟨hj, rfl⟩ := List.getElem?_eq_some_iff.1 hp
 rw [Nat.mul_one, List.drop_eq_getElem_cons (by simpa using hj)]
 simp
theorem holds_R {e : Nat} {w : World} {base : Nat} {P : Nat → Prop} {g cap : Nat} {l : List Int} (h : Kd.R (Kd.int .i64) e w base P (.slice (some ⟨g, 0, none⟩) l.length cap) l) : Holds (Value.int .i64) w g 0 l.toArray := by
 intro j hj
 have hj' : j < l.length := by simpa using hj
 have := Kd.R_celln (0 : Int) h (j : Int) (by omega) (by omega)
 rw [Int.toNat_natCast] at this
 rw [Nat.zero_add]
 refine ⟨this.1.trans ?_, this.2⟩
 congr 2
 simp [rdOf, List.getD_eq_getElem?_getD, hj']
theorem put_heap (w : World) (q g : Nat) (d : List Int) (os : Array Obj) (i : Nat) (hi : i < w.heap.size) (hne : i ≠ g) : (grow (putRow (Value.int .i64) (Go.Sort.ahead w q) g 0 d.toArray) os).heap[i]? = w.heap[i]? := by
 show (w.heap.modify g (onCells (putCells (Value.int .i64) 0 d.toArray)) ++ os)[i]? = w.heap[i]?
 rw [Array.getElem?_append_left (by simpa using hi), Array.getElem?_modify, if_neg (fun e => hne e.symm)]
theorem put_own (w : World) (q g : Nat) (d : List Int) (os : Array Obj) {cur : Array Value} {e : Nat} (hg : w.heap[g]? = some (.cells cur e (0, 0))) : (grow (putRow (Value.int .i64) (Go.Sort.ahead w q) g 0 d.toArray) os).heap[g]? = some (.cells (putCells (Value.int .i64) 0 d.toArray cur) e (0, 0)) := by
 have hi : g < w.heap.size := by
  rcases Nat.lt_or_ge g w.heap.size with h | h
  ·exact h
  ·rw [Array.getElem?_eq_none h] at hg; cases hg
 show (w.heap.modify g (onCells (putCells (Value.int .i64) 0 d.toArray)) ++ os)[g]? = _
 rw [Array.getElem?_append_left (by simpa using hi), Array.getElem?_modify, if_pos rfl, hg]
 rfl
theorem putCells_take (d : List Int) (cur : Array Value) (n : Nat) (hn : n ≤ d.length) (hc : d.length ≤ cur.size) : (putCells (Value.int .i64) 0 d.toArray cur).toList.take n = (d.take n).map (Value.int .i64) := by
 apply List.ext_getElem
 ·simp [putCells]; omega
 ·intro i h1 h2
  have hi : i < n := by simp at h1; omega
  simp only [putCells, List.getElem_take, Array.getElem_toList, Array.getElem_mapIdx, List.getElem_map, Nat.sub_zero, Nat.zero_add, List.size_toArray]
  rw [if_pos ⟨Nat.zero_le _, by omega⟩]
  congr 1
  rw [getElem!_pos _ i (by simp; omega)]
  simp
theorem put_R {e : Nat} {w : World} {base : Nat} {P : Nat → Prop} {g cap : Nat} {l : List Int} (h : Kd.R (Kd.int .i64) e w base P (.slice (some ⟨g, 0, none⟩) l.length cap) l) (d r : List Int) (hd : d.length = l.length) (hr : r.length ≤ d.length) (ht : d.take r.length = r) (q : Nat) (os : Array Obj) :
 Kd.R (Kd.int .i64) e (grow (putRow (Value.int .i64) (Go.Sort.ahead w q) g 0 d.toArray) os) base (fun k => P k ∨ w.heap.size ≤ k) (.slice (some ⟨g, 0, none⟩) r.length cap) r := by
 obtain ⟨hP, inner, ho, _⟩ := h
 rcases ho.2 with ⟨he, _⟩ | ⟨g', cap', cur, he, hb, hg, h1, h2, h3, h4⟩
 ·cases he
 ·injection he with e1 e2 e3
  injection e1 with e1
  injection e1 with e1
  subst e1; subst e3
  refine ⟨fun k hk => .inl (hP k hk), r.map (Value.int .i64), ⟨by simp [Kd.int, Kd.scalar], .inr ⟨g, cap, _, rfl, hb, put_own w q g d os hg, by omega, h2, ?_, ?_⟩⟩, reps_map r⟩
  ·simpa [putCells] using h3
  ·show List.take (r.length * 1) _ = _
   have h3' : cur.size = cap * 1 := h3
   rw [Nat.mul_one, putCells_take d cur r.length hr (by omega), ht]
theorem put_kept {e : Nat} {w : World} {base : Nat} {P : Nat → Prop} {g n cap : Nat} {l : List Int} (h : Kd.R (Kd.int .i64) e w base P (.slice (some ⟨g, 0, none⟩) n cap) l) (d : List Int) (q : Nat) (os : Array Obj) : Kept w (grow (putRow (Value.int .i64) (Go.Sort.ahead w q) g 0 d.toArray) os) P := by
 refine ⟨by show w.heap.size ≤ (w.heap.modify g _ ++ os).size; simp, fun i hi hn => put_heap w q g d os i hi ?_⟩
 rintro rfl
 exact hn (h.1 _ rfl)
theorem put_below {e : Nat} {w0 w : World} {P : Nat → Prop} {g n cap : Nat} {l : List Int} (hB : Below w0.heap.size w0 w) (h : Kd.R (Kd.int .i64) e w w0.heap.size P (.slice (some ⟨g, 0, none⟩) n cap) l) (d : List Int) (q : Nat) (os : Array Obj) : Below w0.heap.size w0 (grow (putRow (Value.int .i64) (Go.Sort.ahead w q) g 0 d.toArray) os) := by
 have hb : w0.heap.size ≤ g := by
  obtain ⟨_, inner, ho, _⟩ := h
  exact own_base ho g rfl
 have hs : w.heap.size ≤ (grow (putRow (Value.int .i64) (Go.Sort.ahead w q) g 0 d.toArray) os).heap.size := by
  show w.heap.size ≤ (w.heap.modify g _ ++ os).size; simp
 refine ⟨hB.os, hB.tape, hB.output, Nat.le_trans hB.size hs, fun k hk => ?_⟩
 exact (put_heap w q g d os k (Nat.lt_of_lt_of_le hk hB.size) (by omega)).trans (hB.block k hk)
theorem R_cases {e : Nat} {w : World} {base : Nat} {P : Nat → Prop} {u : Value} {l : List Int} (h : Kd.R (Kd.int .i64) e w base P u l) : (u = .slice none 0 0 ∧ l = []) ∨ ∃ g cap, u = .slice (some ⟨g, 0, none⟩) l.length cap ∧ g < w.heap.size ∧ l.length ≤ cap ∧ cap ≤ maxLen := by
 obtain ⟨hP, inner, ho, _⟩ := h
 rcases ho.2 with ⟨he, hn⟩ | ⟨g, cap, cur, he, hb, hg, h1, h2, _⟩
 ·exact .inl ⟨he, List.length_eq_zero_iff.1 hn⟩
 ·exact .inr ⟨g, cap, he, own_lt ho g (by rw [he]; rfl), h1, h2⟩
theorem R_or {e : Nat} {w : World} {base : Nat} {P : Nat → Prop} {u : Value} {l : List Int} (h : Kd.R (Kd.int .i64) e w base P u l) : Kd.R (Kd.int .i64) e w base (fun k => P k ∨ w.heap.size ≤ k) u l := Kd.R_mono h (fun _ hk => .inl hk)
theorem compact_le (l : List Int) : (Lib.compact l).length ≤ l.length := by
 unfold Lib.compact Lib.compactUpTo
 rw [List.length_map]
 exact Nat.le_trans (List.length_filter_le _ _) (by simp)
theorem own_len {k : Nat} {A : Option Addr} {n n' c c' : Nat} (h : some k ≠ (Value.slice A n c).ownBlock) : some k ≠ (Value.slice A n' c').ownBlock := by cases A <;> exact h
theorem bk_ {w W : World} {g : Nat} {o : Obj} (h : w.heap[g]? = some o) (k : w.heap[g]? = some o → W.heap[g]? = some o := by (intro hx_; (with_reducible repeat (first | refine blk_drewN ?_ _ | refine blk_drew ?_ | refine blk_alloc ?_ _)); exact hx_)) : W.heap[g]? = some o := k h
theorem kr_ {α : Type} {d : Kd α} {e base : Nat} {ok : Nat → Prop} {v : Value} {xs : List α} {w W : World} (h : d.R e w base ok v xs) (k : d.R e w base ok v xs → d.R e W base ok v xs := by (intro hx_; (with_reducible repeat (first | apply Kd.R_alloc | apply Kd.R_drewN | apply Kd.R_drew)); exact hx_)) : d.R e W base ok v xs := k h
theorem bl_ {w W W' : World} (h : Below w.heap.size w W) (k : Below w.heap.size w W → Below w.heap.size w W' := by (intro hx_; repeat (first | (with_reducible first | exact hx_ | apply below_alloc | apply pw_below_drewN | apply below_drew1 | refine below_set ?_ (Aside0.out (by assumption))) | exact hx_ | exact Below.refl _ _))) : Below w.heap.size w W' := k h
abbrev t_ : Bool := true
abbrev f_ : Bool := false
end Go.Proofs.Ytbjbolblahlhcaa.SortW
