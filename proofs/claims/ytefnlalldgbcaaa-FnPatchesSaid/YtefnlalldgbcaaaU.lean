/-
  What the laws ask of functions that give sheets or lists of spots; sheets and lists read in, compared.
-/
import Derived.Test.YtefnlalldgbcaaaR
namespace Go.Proofs.Ytefnlalldgbcaaa
open Go.RowKit
attribute [local irreducible] Code.wp wpList Oper.wp Calls bodyPost Exit.then Exit.inBlock

section
variable {P : Program} {w0 w : World} {N : Nat} {a : Act} {E : List (Nat × Value)} {L Lh : List Ent} {K : Act → World → Prop} {Q : Exit → Act → World → Prop}
variable {d : Nat} {ty : TypeId} {pos : String} {aft : Array Edge} {g : Option (Nat × Bool)}

end

theorem IsSL_nil : IsSL [] [] := ⟨rfl, by simp⟩
end Go.Proofs.Ytefnlalldgbcaaa
