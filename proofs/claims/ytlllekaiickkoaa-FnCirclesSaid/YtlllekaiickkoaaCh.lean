/-
  FnCircles: magnitudes of wide numbers (walks).
-/
import Derived.Test.YtlllekaiickkoaaCg
import Derived.KernelRfl
namespace Go.Proofs.Ytlllekaiickkoaa
open Go.RowKit
attribute [local irreducible] Code.wp wpList Oper.wp Calls bodyPost Exit.then Exit.inBlock

theorem o_extV {P : Program} {w0 w : World} {N : Nat} {a : Act} {E : List (Nat × Value)} {L : List Ent} {K : Act → World → Prop} {Q : Exit → Act → World → Prop} {d : Nat} {ty : TypeId} {pos : String} {aft : Array Edge} {g : Option (Nat × Bool)}
    {f : FuncId} {args : List Operand} {tys : Array TypeId} {vs : List Value} {v : Value} (st : St w0 N a w E L) (ha : evs E args = some vs)
    (hc : (callFunc f vs.toArray).run P w = .ok (.value v) w) (hd : Nat.blt d N = true) (h : ∀ a', St w0 N a' w ((d, v) :: E) L → K a' w) : Oper.wp P ⟨some d, .call { callee := .value (.func f), args := args.toArray, argTypes := tys }, ty, pos, aft, g⟩ a w K Q := by
  refine o_val (v := v) (w' := w) ?_ (h _ (st.put d hd _))
  simp [execOp, resolve, invoke, Deferred.ofValue, Act.eval, evs_map st ha, hc]
theorem ext_bits (x : Nat) (w : World) : (callFunc 28 [.float .f64 x].toArray).run Try.prog w = .ok (.value (.int .u64 (x : Int))) w := by
  rw [run_callFunc_extern (fn := Try.f28) (e := Extern.MathFloatBits.float64bits) Try.func28 (by kernel_rfl) (by kernel_rfl) (by kernel_rfl) (by kernel_rfl)]
  rfl
theorem ext_from (n : Int) (w : World) : (callFunc 27 [.int .u64 n].toArray).run Try.prog w = .ok (.value (.float .f64 n.toNat)) w := by
  rw [run_callFunc_extern (fn := Try.f27) (e := Extern.MathFloatBits.float64frombits) Try.func27 (by kernel_rfl) (by kernel_rfl) (by kernel_rfl) (by kernel_rfl)]
  rfl
def andN (x y : Int) : Int := IntKind.u64.wrap ((BitVec.ofInt IntKind.u64.bits x &&& ~~~ BitVec.ofInt IntKind.u64.bits y).toNat : Int)
theorem o_andNot {P : Program} {w0 w : World} {N : Nat} {a : Act} {E : List (Nat × Value)} {L : List Ent} {K : Act → World → Prop} {Q : Exit → Act → World → Prop} {d : Nat} {ty : TypeId} {pos : String} {aft : Array Edge} {g : Option (Nat × Bool)}
    {x y : Operand} {t ys : TypeId} {i j : Int} (st : St w0 N a w E L) (hx : evE E x = some (.int .u64 i)) (hy : evE E y = some (.int .u64 j)) (hd : Nat.blt d N = true)
    (h : ∀ a', St w0 N a' w ((d, .int .u64 (andN i j)) :: E) L → K a' w) : Oper.wp P ⟨some d, .binOp .andNot t x y ys, ty, pos, aft, g⟩ a w K Q := by
  have e : (Op.intBits .andNot .u64 i j : Sem Value) = pure (.int .u64 (andN i j)) := rfl
  exact o_val (v := .int .u64 (andN i j)) (w' := w) (by simp [execOp, evE_eval st hx, evE_eval st hy, binOp_andNot, e, eqGuard]) (h _ (st.put d hd _))
def absW (x : Nat) : Nat := (andN x 9223372036854775808).toNat
theorem Abs_ok (x : Nat) (w : World) : CV Try.prog 16 [.float .f64 x] w (.float .f64 (absW x)) := by
  refine enter Try.func16 rfl rfl rfl rfl ?_
  intro y st
  (repeat' (first | (refine o_extV st rfl (ext_bits x _) rfl ?_; clear st; intro _ st) | (refine o_extV st rfl (ext_from _ _) rfl ?_; clear st; intro _ st) | (refine o_andNot st rfl rfl rfl ?_; clear st; intro _ st) | refine c_seq ?_ | refine c_region ?_ | refine l_do ?_ | refine l_nil ?_ | refine x_then ?_ | refine x_thenR ?_ | refine x_thenE ?_ | refine wp_ret ?_ | ((first | refine o_move st rfl rfl ?_ | refine o_assign st rfl rfl ?_); clear st; intro _ st)))
  refine post1 st Try.results16 (rd_t st rfl) ?_
  exact ⟨rfl, st.ex0⟩
end Go.Proofs.Ytlllekaiickkoaa
