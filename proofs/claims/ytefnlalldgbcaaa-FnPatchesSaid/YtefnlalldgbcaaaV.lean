/-
  Contracts: a spot of a sheet is moved; rows and columns of a sheet.
-/
import Derived.Test.YtefnlalldgbcaaaS
import Derived.Test.YtefnlalldgbcaaaT
import Derived.Test.YtefnlalldgbcaaaU
namespace Go.Proofs.Ytefnlalldgbcaaa
open Go.RowKit

section
variable {P : Program} {w0 w : World} {N : Nat} {a : Act} {E : List (Nat × Value)} {L Lh : List Ent} {K : Act → World → Prop} {Q : Exit → Act → World → Prop}
variable {d : Nat} {ty : TypeId} {pos : String} {aft : Array Edge} {g : Option (Nat × Bool)}

end

attribute [local irreducible] Code.wp wpList Oper.wp Calls bodyPost Exit.then Exit.inBlock

/-! ## rows and columns -/
end Go.Proofs.Ytefnlalldgbcaaa
