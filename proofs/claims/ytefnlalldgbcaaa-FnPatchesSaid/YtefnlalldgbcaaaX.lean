/-
  Contracts: the spot at a place of a sheet.
-/
import Derived.Test.YtefnlalldgbcaaaW
namespace Go.Proofs.Ytefnlalldgbcaaa
open Go.RowKit

section
variable {P : Program} {w0 w : World} {N : Nat} {a : Act} {E : List (Nat × Value)} {L Lh : List Ent} {K : Act → World → Prop} {Q : Exit → Act → World → Prop}
variable {d : Nat} {ty : TypeId} {pos : String} {aft : Array Edge} {g : Option (Nat × Bool)}
theorem o_callSBb {f : FuncId} {args : List Operand} {tys : Array TypeId} {vs : List Value} {s : S3} {ok : Bool} [hf : FnT P f] (st : St w0 N a w E L) (ha : evs E args = some vs)
    (hc : CSB P f vs w s ok) (hd : Nat.blt d N = true) (h : ∀ b, IsS b s → ∀ a' w', St w0 N a' w' ((d, .tuple #[vS b, .bool ok]) :: E) L → K a' w') : Oper.wp P ⟨some d, .call { callee := .value (.func f), args := args.toArray, argTypes := tys }, ty, pos, aft, g⟩ a w K Q :=
  o_callR st ha hc hd fun v ⟨b, hv, hb⟩ => by subst hv; exact h b hb
end
attribute [local irreducible] Code.wp wpList Oper.wp Calls bodyPost Exit.then Exit.inBlock

/-! ## rows and columns, cut -/
end Go.Proofs.Ytefnlalldgbcaaa
