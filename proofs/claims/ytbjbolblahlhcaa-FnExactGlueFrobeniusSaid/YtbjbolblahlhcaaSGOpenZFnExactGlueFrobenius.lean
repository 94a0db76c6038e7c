/- Opening an argument that is a struct of one slice of whole numbers: the value written out, and what its cells hold. No condition. -/
import Derived.WalkKit
import Derived.ProofKit
import Derived.OpenShut
import Derived.ChangeOld
import Derived.Below
import Derived.SizedLaws
import Derived.Lib.SmallJoins
namespace Go.Proofs.Ytbjbolblahlhcaa.SGOpen
open Go Go.ChangeShapes Go.WideShapes Go.ChangeAt Go.RowKit
variable {H : Type} {enc : TypeId × Value → H} {P : Program} {W : World}
def IsRow (k : IntKind) (w : World) (a : Option Addr) (len cap : Nat) (zs : List Int) : Prop :=
 (a = none ∧ len = 0 ∧ cap = 0 ∧ zs = []) ∨
 ∃ x, a = some x ∧ len ≤ cap ∧ cap ≤ maxLen ∧ zs.length = cap ∧ (∀ i, i < zs.length → w.cell? (x.add i) = some (.int k (zs.getD i 0))) ∧ ∀ n ∈ zs, (Lit.int k n).wf = true
theorem wf_bounds {a : Int} (h : (Lit.int .i64 a).wf = true) : -9223372036854775808 ≤ a ∧ a ≤ 9223372036854775807 := by
 simp [Lit.wf] at h
 have h1 : IntKind.i64.min = -9223372036854775808 := by decide
 have h2 : IntKind.i64.max = 9223372036854775807 := by decide
 omega
theorem open_agg1 {r : Reach} {b0 base : Nat} {spare : Nat → Bool} {held : Bool} {t : TypeId} {f0 : Field} {v : Value} {d : DataW H} {p : List MemPlace} (hs : P.underlying t = some (.struct #[f0])) (h0 : f0.offset = 0) (hC : P.cellsOf t = 1) (hC0 : P.cellsOf f0.type = 1)
 (hv : Value.okWide P W r b0 t v) (h : DataW.Trod enc P W base spare held t v d p) :
 ∃ (v0 : Value) (y0 : DataW H × List MemPlace) (n : Nat), v = .agg #[v0] ∧ DataW.trod enc P W base spare held n f0.type [v0] = some y0 := by
 obtain ⟨cs, rfl, hsz⟩ := okWide_struct hs hv
 have hsz1 : cs.size = 1 := hsz.trans hC
 obtain ⟨c0, rfl⟩ : ∃ c, cs = #[c] := by
  obtain ⟨l⟩ := cs
  match l, hsz1 with
  | [c], _ => exact ⟨c, rfl⟩
 obtain ⟨fuel, hf⟩ := h
 cases fuel with
 | zero => simp [DataW.trod] at hf
 | succ n =>
  simp [DataW.trod, hs, hC, Value.cells, h0, hC0] at hf
  cases hx : DataW.trod enc P W base spare held n f0.type [c0] with
  | none => rw [hx] at hf; simp at hf
  | some y => exact ⟨c0, y, n, rfl, hx⟩
theorem open_sg {r : Reach} {b0 : Nat} {held : Bool} {t ts e : TypeId} {f0 : Field} {v : Value} {d : DataW H} {p : List MemPlace} (hs : P.underlying t = some (.struct #[f0])) (h0 : f0.offset = 0) (hC : P.cellsOf t = 1) (hC0 : P.cellsOf f0.type = 1) (hty : f0.type = ts)
 (hu : P.underlying ts = some (.slice e)) (he : P.underlying e = some (.int .i64)) (hce : P.cellsOf e = 1)
 (hv : Value.okWide P W r b0 t v) (h : DataW.Trod enc P W 0 (fun _ => true) held t v d p) :
 ∃ (a : Option Addr) (len cap : Nat) (zs : List Int), v = .agg #[.slice a len cap] ∧ IsRow .i64 W a len cap zs := by
 obtain ⟨v0, y0, n, rfl, hx⟩ := open_agg1 hs h0 hC hC0 hv h
 rw [hty] at hx
 rcases open_ints hu he hce hx with ⟨hcs, _⟩ | ⟨x, l, c, zs, hcs, _, hl, hm, hz, _, hcell, hwz⟩
 ·injection hcs with hcs _
  subst hcs
  exact ⟨none, 0, 0, [], rfl, .inl ⟨rfl, rfl, rfl, rfl⟩⟩
 ·injection hcs with hcs _
  subst hcs
  exact ⟨some x, l, c, zs, rfl, .inr ⟨x, rfl, hl, hm, by simpa using hz, hcell, hwz⟩⟩
end Go.Proofs.Ytbjbolblahlhcaa.SGOpen
