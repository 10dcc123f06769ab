/-
  Rules: drawn regions that leave out some blocks; quotients and rests of integers. Contracts: the box of spots.
-/
import Derived.Test.YtefnlalldgbcaaaR
import Derived.Test.YtefnlalldgbcaaaH
namespace Go.Proofs.Ytefnlalldgbcaaa
open Go.RowKit

section
variable {P : Program} {w0 w : World} {N : Nat} {a : Act} {E : List (Nat × Value)} {L Lh : List Ent} {K : Act → World → Prop} {Q : Exit → Act → World → Prop}
variable {ops : Array Oper} {fuel last : Nat} {listed : Array Bool}
variable {d : Nat} {ty : TypeId} {pos : String} {aft : Array Edge} {g : Option (Nat × Bool)}

/-- The block that a slot points to, first. -/
theorem St.front (i : Nat) {b : Nat} {o : Obj} {Lr : List Ent} (st : St w0 N a w E L) (_ : lk E i = some (.pointer (some ⟨b, 0, none⟩))) (hR : Rem L b o Lr) : St w0 N a w E (⟨b, true, o⟩ :: Lr) := by
  refine ⟨st.env, st.size, st.defers, st.below, ?_, List.pairwise_cons.2 ⟨fun e he _ => (hR.other st.uniq e he).symm, st.uniq.sublist hR.sub⟩⟩
  intro e he
  rcases List.mem_cons.1 he with rfl | he
  · exact st.facts _ hR.at_.mem
  · exact st.facts e (hR.sub.mem he)

/-! quotients and rests of natural numbers -/
theorem run_quoN (w : World) (i j : Nat) (hj : 0 < j) (hi : i ≤ 9223372036854775807) : (Op.intDiv .quo .i64 (i : Int) (j : Int)).run P w = .ok (.int .i64 ((i / j : Nat) : Int)) w := by
  have ht : Int.tdiv (i : Int) (j : Int) = ((i / j : Nat) : Int) := rfl
  have hle : i / j ≤ i := Nat.div_le_self _ _
  unfold Op.intDiv
  rw [if_neg (by omega)]
  simp only [ht]
  generalize i / j = q at hle
  rw [show IntKind.i64.wrap (q : Int) = (q : Int) by rw [IntKind.wrap_i64]; omega]
  rfl
theorem run_remN (w : World) (i j : Nat) (hj : 0 < j) : (Op.intDiv .rem .i64 (i : Int) (j : Int)).run P w = .ok (.int .i64 ((i % j : Nat) : Int)) w := by
  have ht : Int.tmod (i : Int) (j : Int) = ((i % j : Nat) : Int) := rfl
  unfold Op.intDiv
  rw [if_neg (by omega)]
  simp only [ht]
  rfl
theorem v_quo64 {x y : Operand} {t ys : TypeId} {i j : Nat} (st : St w0 N a w E L) (hx : evE E x = some (.int .i64 (i : Int))) (hy : evE E y = some (.int .i64 (j : Int))) (hj : 0 < j) (hi : i ≤ 9223372036854775807) : Vl P a Lh (.binOp .quo t x y ys) (.int .i64 ((i / j : Nat) : Int)) := by
  intro d ty pos aft g w' _
  simp only [execOp, evE_eval st hx, evE_eval st hy, binOp_quo, eqGuard_at_int, Sem.run_bind, Sem.run_pure, Result.andThen_ok, run_quoN (P := P) w' i j hj hi]
theorem v_rem64 {x y : Operand} {t ys : TypeId} {i j : Nat} (st : St w0 N a w E L) (hx : evE E x = some (.int .i64 (i : Int))) (hy : evE E y = some (.int .i64 (j : Int))) (hj : 0 < j) : Vl P a Lh (.binOp .rem t x y ys) (.int .i64 ((i % j : Nat) : Int)) := by
  intro d ty pos aft g w' _
  simp only [execOp, evE_eval st hx, evE_eval st hy, binOp_rem, eqGuard_at_int, Sem.run_bind, Sem.run_pure, Result.andThen_ok, run_remN (P := P) w' i j hj]
theorem o_quo64 {x y : Operand} {t ys : TypeId} {i j : Nat} (st : St w0 N a w E L) (hx : evE E x = some (.int .i64 (i : Int))) (hy : evE E y = some (.int .i64 (j : Int))) (hj : 0 < j) (hi : i ≤ 9223372036854775807) (hd : Nat.blt d N = true)
    (h : ∀ a', St w0 N a' w ((d, .int .i64 ((i / j : Nat) : Int)) :: E) L → K a' w) : Oper.wp P ⟨some d, .binOp .quo t x y ys, ty, pos, aft, g⟩ a w K Q :=
  o_val (v := .int .i64 ((i / j : Nat) : Int)) (w' := w) (v_quo64 (P := P) (Lh := []) st hx hy hj hi d ty pos aft g w (fun _ h => by cases h)) (h _ (st.put d hd _))
theorem o_rem64 {x y : Operand} {t ys : TypeId} {i j : Nat} (st : St w0 N a w E L) (hx : evE E x = some (.int .i64 (i : Int))) (hy : evE E y = some (.int .i64 (j : Int))) (hj : 0 < j) (hd : Nat.blt d N = true)
    (h : ∀ a', St w0 N a' w ((d, .int .i64 ((i % j : Nat) : Int)) :: E) L → K a' w) : Oper.wp P ⟨some d, .binOp .rem t x y ys, ty, pos, aft, g⟩ a w K Q :=
  o_val (v := .int .i64 ((i % j : Nat) : Int)) (w' := w) (v_rem64 (P := P) (Lh := []) st hx hy hj d ty pos aft g w (fun _ h => by cases h)) (h _ (st.put d hd _))
end

attribute [local irreducible] Code.wp wpList Oper.wp Calls bodyPost Exit.then Exit.inBlock

/-! ## boxes -/
abbrev cB (b : B3) : List Value := [.float .f32 b.1, .float .f32 b.2.1, .float .f32 b.2.2]
abbrev oB (b : B3) (t : TypeId) : Obj := .cells (cB b).toArray t (0, 0)
end Go.Proofs.Ytefnlalldgbcaaa
