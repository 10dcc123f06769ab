/-
  Contracts: lists reversed; sheets cut.
-/
import Derived.Test.YtefnlalldgbcaaaX
import Derived.Test.YtefnlalldgbcaaaBox
namespace Go.Proofs.Ytefnlalldgbcaaa
open Go.RowKit

section
variable {P : Program} {w0 w : World} {N : Nat} {a : Act} {E : List (Nat × Value)} {L Lh : List Ent} {K : Act → World → Prop} {Q : Exit → Act → World → Prop}
variable {d : Nat} {ty : TypeId} {pos : String} {aft : Array Edge} {g : Option (Nat × Bool)}
end

attribute [local irreducible] Code.wp wpList Oper.wp Calls bodyPost Exit.then Exit.inBlock

/-! ## what a cut gives -/
section
variable {P : Program} {w0 w : World} {N : Nat} {a : Act} {E : List (Nat × Value)} {L Lh : List Ent} {K : Act → World → Prop} {Q : Exit → Act → World → Prop}
variable {d : Nat} {ty : TypeId} {pos : String} {aft : Array Edge} {g : Option (Nat × Bool)}
theorem St.perm {L' : List Ent} (st : St w0 N a w E L) (h : L.Perm L') : St w0 N a w E L' := by
  refine ⟨st.env, st.size, st.defers, st.below, fun e he => st.facts e (h.mem_iff.2 he), ?_⟩
  exact (h.pairwise_iff (fun hxy ho => (hxy ho.symm).symm)).1 st.uniq
end

end Go.Proofs.Ytefnlalldgbcaaa
