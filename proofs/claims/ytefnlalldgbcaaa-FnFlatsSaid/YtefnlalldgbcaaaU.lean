/-
  What the laws ask of functions that give sheets or lists of spots; sheets and lists read in, compared.
-/
import Derived.Test.YtefnlalldgbcaaaS
namespace Go.Proofs.Ytefnlalldgbcaaa
open Go.RowKit
attribute [local irreducible] Code.wp wpList Oper.wp Calls bodyPost Exit.then Exit.inBlock

section
variable {P : Program} {w0 w : World} {N : Nat} {a : Act} {E : List (Nat × Value)} {L Lh : List Ent} {K : Act → World → Prop} {Q : Exit → Act → World → Prop}
variable {d : Nat} {ty : TypeId} {pos : String} {aft : Array Edge} {g : Option (Nat × Bool)}

/-- The block that a slot points to, first. -/
theorem St.fore (i : Nat) {b : Nat} {o : Obj} {Lr : List Ent} (st : St w0 N a w E L) (_ : lk E i = some (.pointer (some ⟨b, 0, none⟩))) (hR : Rem L b o Lr) : St w0 N a w E (⟨b, true, o⟩ :: Lr) := by
  refine ⟨st.env, st.size, st.defers, st.below, ?_, List.pairwise_cons.2 ⟨fun e he _ => (hR.other st.uniq e he).symm, st.uniq.sublist hR.sub⟩⟩
  intro e he
  rcases List.mem_cons.1 he with rfl | he
  · exact st.facts _ hR.at_.mem
  · exact st.facts e (hR.sub.mem he)

/-- A call that gives a sheet of its own, and true. -/
def CShY (P : Program) (f : FuncId) (vs : List Value) (w : World) (m n : Int) (ss : List S3) : Prop := CM1 P f vs w fun v b o => ∃ bs cap pad, v = .tuple #[vSh m n (some ⟨b, 0, none⟩) bs.length cap, .bool true] ∧ o = oS bs pad ∧ IsSL bs ss
theorem o_callShY {f : FuncId} {args : List Operand} {tys : Array TypeId} {vs : List Value} {m n : Int} {ss : List S3} [hf : FnT P f] (st : St w0 N a w E L) (ha : evs E args = some vs)
    (hc : CShY P f vs w m n ss) (hd : Nat.blt d N = true) (h : ∀ b bs cap pad, IsSL bs ss → bs.length = ss.length → ∀ a' w', St w0 N a' w' ((d, .tuple #[vSh m n (some ⟨b, 0, none⟩) bs.length cap, .bool true]) :: E) (⟨b, true, oS bs pad⟩ :: L) → K a' w') : Oper.wp P ⟨some d, .call { callee := .value (.func f), args := args.toArray, argTypes := tys }, ty, pos, aft, g⟩ a w K Q :=
  o_callM1 st ha hc hd fun v b o ⟨bs, cap, pad, hv, ho, hI⟩ => by subst hv; subst ho; exact h b bs cap pad hI hI.len
/-- A call that gives a list of spots of its own, and true. -/
def CLsY (P : Program) (f : FuncId) (vs : List Value) (w : World) (ss : List S3) : Prop := CM1 P f vs w fun v b o => ∃ bs cap pad, v = .tuple #[.slice (some ⟨b, 0, none⟩) bs.length cap, .bool true] ∧ o = oS bs pad ∧ IsSL bs ss
theorem o_callLsY {f : FuncId} {args : List Operand} {tys : Array TypeId} {vs : List Value} {ss : List S3} [hf : FnT P f] (st : St w0 N a w E L) (ha : evs E args = some vs)
    (hc : CLsY P f vs w ss) (hd : Nat.blt d N = true) (h : ∀ b bs cap pad, IsSL bs ss → bs.length = ss.length → ∀ a' w', St w0 N a' w' ((d, .tuple #[.slice (some ⟨b, 0, none⟩) bs.length cap, .bool true]) :: E) (⟨b, true, oS bs pad⟩ :: L) → K a' w') : Oper.wp P ⟨some d, .call { callee := .value (.func f), args := args.toArray, argTypes := tys }, ty, pos, aft, g⟩ a w K Q :=
  o_callM1 st ha hc hd fun v b o ⟨bs, cap, pad, hv, ho, hI⟩ => by subst hv; subst ho; exact h b bs cap pad hI hI.len
end

theorem IsSL_nil : IsSL [] [] := ⟨rfl, by simp⟩
end Go.Proofs.Ytefnlalldgbcaaa
