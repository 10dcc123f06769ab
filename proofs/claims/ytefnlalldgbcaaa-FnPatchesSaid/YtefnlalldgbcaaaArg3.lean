/-
  How the arguments of the statements read, further: single numbers, lists of spots.
-/
import Derived.Test.YtefnlalldgbcaaaArg2
namespace Go.Proofs.Ytefnlalldgbcaaa
open Go.ChangeShapes Go.WideShapes Go.ChangeAt Go.RowKit Go.Joins

section
variable {H : Type} {enc : TypeId × Value → H} {w : World} {base : Nat} {spare : Nat → Bool} {held : Bool}

end
end Go.Proofs.Ytefnlalldgbcaaa
