/-
  Contracts: lists of spots and sheets that are equal; sheets that are sheets.
-/
import Derived.Test.YtefnlalldgbcaaaJ
namespace Go.Proofs.Ytefnlalldgbcaaa
open Go.RowKit
attribute [local irreducible] Code.wp wpList Oper.wp Calls bodyPost Exit.then Exit.inBlock

theorem St.addOld {w0 w : World} {N : Nat} {a : Act} {E : List (Nat × Value)} {L : List Ent} (st : St w0 N a w E L) {b : Nat} {o : Obj} (h : w0.heap[b]? = some o) : St w0 N a w E (⟨b, false, o⟩ :: L) := by
  have hlt : b < w0.heap.size := (Array.getElem?_eq_some_iff.1 h).1
  refine ⟨st.env, st.size, st.defers, st.below, ?_, ?_⟩
  · intro e he
    rcases List.mem_cons.1 he with rfl | he
    · exact ⟨by rw [st.below.block b hlt]; exact h, fun h => by cases h⟩
    · exact st.facts e he
  · refine List.pairwise_cons.2 ⟨?_, st.uniq⟩
    intro y hy ho
    rcases ho with ho | ho
    · cases ho
    · have := (st.facts y hy).2 ho
      simp
      omega

theorem v_loadSp {P : Program} {w0 w : World} {N : Nat} {a : Act} {E : List (Nat × Value)} {L Lh : List Ent} {t t' : TypeId} {x : Operand} {blk off : Nat} {own : Bool} {cs : Array Value} {fr : Nat × Nat} {b : B3} [ht : AggT P t 3] (st : St w0 N a w E L) (hx : evE E x = some (.pointer (some ⟨blk, off, none⟩))) (hA : At Lh blk own (.cells cs t' fr))
    (hv : cs[off]? = some (.float .f32 b.1) ∧ cs[off + 1]? = some (.float .f32 b.2.1) ∧ cs[off + 2]? = some (.float .f32 b.2.2)) : Vl P a Lh (.load t x) (vS b) := by
  refine v_loadA [Value.float .f32 b.1, .float .f32 b.2.1, .float .f32 b.2.2] st hx hA rfl ?_
  intro j u hj
  match j with
  | 0 => simp at hj; subst hj; exact hv.1
  | 1 => simp at hj; subst hj; exact hv.2.1
  | 2 => simp at hj; subst hj; exact hv.2.2
  | j + 3 => simp at hj

end Go.Proofs.Ytefnlalldgbcaaa
