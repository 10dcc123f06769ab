/-
  How the arguments of the statements read, further: lists of spots, sheets, numbers.
-/
import Derived.Test.YtefnlalldgbcaaaArgs
import Derived.Test.YtefnlalldgbcaaaK
import Derived.Deep.Strs
namespace Go.Proofs.Ytefnlalldgbcaaa
open Go.ChangeShapes Go.WideShapes Go.ChangeAt Go.RowKit Go.Joins

section
variable {H : Type} {enc : TypeId × Value → H} {w : World} {base : Nat} {spare : Nat → Bool} {held : Bool}

theorem cell_spot {w : World} {a : Addr} {v : Value} (h : w.cell? a = some v) : ∃ cs t fr, w.heap[a.block]? = some (.cells cs t fr) ∧ a.spot = none ∧ cs[a.off]? = some v := by
  unfold World.cell? at h
  split at h
  · rename_i c t fr hc
    split at h
    · cases h
    · refine ⟨c, t, fr, hc, ?_, h⟩
      cases hs : a.spot with
      | none => rfl
      | some k => simp_all
  · cases h

end
end Go.Proofs.Ytefnlalldgbcaaa
