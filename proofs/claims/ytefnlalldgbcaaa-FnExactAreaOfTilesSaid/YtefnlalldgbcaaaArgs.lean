/-
  How the arguments of the statements read: spots, numbers, sheets, lists of spots.
-/
import Derived.Test.YtefnlalldgbcaaaA
import Derived.ProofKit
import Derived.OpenShut
import Derived.ChangeOld
import Derived.Below
import Derived.Deep.Slices
import Derived.Lib.SmallJoins
namespace Go.Proofs.Ytefnlalldgbcaaa
open Go.ChangeShapes Go.WideShapes Go.ChangeAt Go.RowKit Go.Joins

theorem own_ : ownKnob Try.prog.godebug = none := by kernel_rfl
theorem laidOut_ : laidOutB Try.prog = true := by kernel_rfl

section
variable {H : Type} {enc : TypeId × Value → H} {w : World} {base : Nat} {spare : Nat → Bool} {held : Bool}

theorem float_of_trod {P : Program} {t : TypeId} {k : FloatKind} {c : Value} {n : Nat} {y : DataW H × List MemPlace} (ht : P.underlying t = some (.float k)) (h : DataW.trod enc P w base spare held n t [c] = some y) :
    ∃ b, c = .float k b ∧ b < 2 ^ k.format.width := by
  cases n with
  | zero => simp [DataW.trod] at h
  | succ n =>
    simp only [DataW.trod, ht] at h
    cases c <;> simp at h
    rename_i k' b
    obtain ⟨⟨rfl, hw⟩, _⟩ := h
    exact ⟨b, rfl, lt_of_wf hw⟩

set_option maxRecDepth 100000 in
theorem spot_of_trod {r : Reach} {b0 : Nat} {v : Value} {d : DataW H} {p : List MemPlace} (hv : Value.okWide Try.prog w r b0 24 v) (h : DataW.Trod enc Try.prog w base spare held 24 v d p) :
    ∃ b : B3, v = vS b ∧ b.1 < 2 ^ 32 ∧ b.2.1 < 2 ^ 32 ∧ b.2.2 < 2 ^ 32 := by
  obtain ⟨v0, v1, v2, y0, y1, y2, n, rfl, _, _, h0, h1, h2⟩ := open_agg3 Try.underlying24 (by kernel_rfl) (by kernel_rfl) hv h
  obtain ⟨x, rfl, hx⟩ := float_of_trod Try.underlying22 h0
  obtain ⟨y, rfl, hy⟩ := float_of_trod Try.underlying22 h1
  obtain ⟨z, rfl, hz⟩ := float_of_trod Try.underlying22 h2
  exact ⟨(x, y, z), rfl, hx, hy, hz⟩
end
end Go.Proofs.Ytefnlalldgbcaaa
