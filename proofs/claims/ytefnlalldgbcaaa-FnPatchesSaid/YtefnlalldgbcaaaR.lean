/-
  Contracts: lists of spots marked and held; sheets marked and held; lists cloned; sheets owned and given.
-/
import Derived.Test.YtefnlalldgbcaaaP
import Derived.Lib.SliceRun
namespace Go.Proofs.Ytefnlalldgbcaaa
open Go.RowKit
attribute [local irreducible] Code.wp wpList Oper.wp Calls bodyPost Exit.then Exit.inBlock

section
variable {P : Program} {w0 w : World} {N : Nat} {a : Act} {E : List (Nat × Value)} {L Lh : List Ent} {K : Act → World → Prop} {Q : Exit → Act → World → Prop}
variable {d : Nat} {ty : TypeId} {pos : String} {aft : Array Edge} {g : Option (Nat × Bool)}

end

/-! ## marks -/
/-! ## clones -/
/-! ## the sheet of four spots -/
end Go.Proofs.Ytefnlalldgbcaaa
