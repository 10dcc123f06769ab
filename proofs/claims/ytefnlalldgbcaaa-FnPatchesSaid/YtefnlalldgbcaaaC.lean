/-
  Contracts: the same number, the same spot.
-/
import Derived.Test.YtefnlalldgbcaaaB
import Derived.Test.YtefnlalldgbcaaaNum
import Derived.Test.YtefnlalldgbcaaaDraw
import Derived.Laws.Externs
namespace Go.Proofs.Ytefnlalldgbcaaa
open Go.RowKit
attribute [local irreducible] Code.wp wpList Oper.wp Calls bodyPost Exit.then Exit.inBlock

section
variable {P : Program} {w0 w : World} {N : Nat} {a : Act} {E : List (Nat × Value)} {L : List Ent} {K : Act → World → Prop} {Q : Exit → Act → World → Prop}
end

theorem hm_ : Try.prog.follows .mixedOrders = true := by kernel_rfl

end Go.Proofs.Ytefnlalldgbcaaa
