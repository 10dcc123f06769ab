/-
  Rules for the parts of complex numbers, for whole numbers from floats, and for operations on floats that give a known word.
-/
import Derived.Test.YtlllekaiickkoaaDraw
namespace Go.Proofs.Ytlllekaiickkoaa
open Go.RowKit

section
variable {P : Program} {w0 w : World} {N : Nat} {a : Act} {E : List (Nat × Value)} {L Lh : List Ent} {K : Act → World → Prop} {Q : Exit → Act → World → Prop}
variable {d : Nat} {ty : TypeId} {pos : String} {aft : Array Edge} {g : Option (Nat × Bool)}
theorem o_real {x : Operand} {k : FloatKind} {i j : Nat} {tys : Array TypeId} (st : St w0 N a w E L) (hx : evE E x = some (.complex k i j)) (hd : Nat.blt d N = true)
    (h : ∀ a', St w0 N a' w ((d, .float k i) :: E) L → K a' w) : Oper.wp P ⟨some d, .call { callee := .builtin .real, args := #[x], argTypes := tys }, ty, pos, aft, g⟩ a w K Q :=
  o_val (v := .float k i) (w' := w) (by simp [execOp, resolve, invoke, builtin, evE_eval st hx, run_real]) (h _ (st.put d hd _))
theorem o_imag {x : Operand} {k : FloatKind} {i j : Nat} {tys : Array TypeId} (st : St w0 N a w E L) (hx : evE E x = some (.complex k i j)) (hd : Nat.blt d N = true)
    (h : ∀ a', St w0 N a' w ((d, .float k j) :: E) L → K a' w) : Oper.wp P ⟨some d, .call { callee := .builtin .imag, args := #[x], argTypes := tys }, ty, pos, aft, g⟩ a w K Q :=
  o_val (v := .float k j) (w' := w) (by simp [execOp, resolve, invoke, builtin, evE_eval st hx, run_imag]) (h _ (st.put d hd _))
theorem o_complex {x y : Operand} {k : FloatKind} {i j : Nat} {tys : Array TypeId} (st : St w0 N a w E L) (hx : evE E x = some (.float k i)) (hy : evE E y = some (.float k j)) (hd : Nat.blt d N = true)
    (h : ∀ a', St w0 N a' w ((d, .complex k i j) :: E) L → K a' w) : Oper.wp P ⟨some d, .call { callee := .builtin .complex, args := #[x, y], argTypes := tys }, ty, pos, aft, g⟩ a w K Q :=
  o_val (v := .complex k i j) (w' := w) (by simp [execOp, resolve, invoke, builtin, evE_eval st hx, evE_eval st hy, run_complex]) (h _ (st.put d hd _))
/-- A float operation whose word is known. -/
theorem o_fopK {op : BinOp} {x y : Operand} {t ys : TypeId} {k : FloatKind} {i j r : Nat} (st : St w0 N a w E L) (hx : evE E x = some (.float k i)) (hy : evE E y = some (.float k j)) (hr : fop op k (some i) (some j) = some r) (hd : Nat.blt d N = true)
    (h : ∀ a', St w0 N a' w ((d, .float k r) :: E) L → K a' w) : Oper.wp P ⟨some d, .binOp op t x y ys, ty, pos, aft, g⟩ a w K Q := by
  have hr : floatBits op k i j = some r := hr
  refine o_val (v := .float k r) (w' := w) ?_ (h _ (st.put d hd _))
  simp only [execOp, evE_eval st hx, evE_eval st hy, eqGuard_at_float, Sem.run_bind, Sem.run_pure, Result.andThen_ok, run_float_arith w op t k i j r hr]
theorem o_fcvW {x : Operand} {src dst : TypeId} {s k : FloatKind} {i r : Nat} [hs : FloatT P src s] [hk : FloatT P dst k] (st : St w0 N a w E L) (hx : evE E x = some (.float s i)) (hr : floatToFloatBits s i k = some r) (hd : Nat.blt d N = true)
    (h : ∀ a', St w0 N a' w ((d, .float k r) :: E) L → K a' w) : Oper.wp P ⟨some d, .convert src dst x, ty, pos, aft, g⟩ a w K Q := by
  refine o_val (v := .float k r) (w' := w) ?_ (h _ (st.put d hd _))
  simp only [execOp, evE_eval st hx, Sem.run_bind, Sem.run_pure, Result.andThen_ok, run_convert_float_float w src dst s k i r (by simp [hs.u]) hk.u hr]
theorem o_floatInt {x : Operand} {src dst : TypeId} {s : FloatKind} {k : IntKind} {i : Nat} {n : Int} [hs : FloatT P src s] (hk : P.underlying dst = some (.int k)) (st : St w0 N a w E L) (hx : evE E x = some (.float s i)) (hr : floatToIntVal s i k = some n) (hd : Nat.blt d N = true)
    (h : ∀ a', St w0 N a' w ((d, .int k n) :: E) L → K a' w) : Oper.wp P ⟨some d, .convert src dst x, ty, pos, aft, g⟩ a w K Q := by
  refine o_val (v := .int k n) (w' := w) ?_ (h _ (st.put d hd _))
  simp only [execOp, evE_eval st hx, Sem.run_bind, Sem.run_pure, Result.andThen_ok, run_convert_float_int w src dst s k i n (by simp [hs.u]) hk hr]
/-- An order of floats whose words are known. -/
theorem o_fgeqW {x y : Operand} {t ys : TypeId} {k : FloatKind} {i j : Nat} {r : Bool} (st : St w0 N a w E L) (hx : evE E x = some (.float k i)) (hy : evE E y = some (.float k j)) (hi : Is k i (some i)) (hj : Is k j (some j)) (hr : fgeB k (some i) (some j) = r) (hd : Nat.blt d N = true)
    (h : ∀ a', St w0 N a' w ((d, .bool r) :: E) L → K a' w) : Oper.wp P ⟨some d, .binOp .geq t x y ys, ty, pos, aft, g⟩ a w K Q := by
  cases r
  · exact o_fgeq st hx hy hi hj hd (fun ht => by rw [hr] at ht; cases ht) fun _ => h
  · exact o_fgeq st hx hy hi hj hd (fun _ => h) fun ht => by rw [hr] at ht; cases ht
theorem o_fgtrW {x y : Operand} {t ys : TypeId} {k : FloatKind} {i j : Nat} {r : Bool} (st : St w0 N a w E L) (hx : evE E x = some (.float k i)) (hy : evE E y = some (.float k j)) (hi : Is k i (some i)) (hj : Is k j (some j)) (hr : fgtB k (some i) (some j) = r) (hd : Nat.blt d N = true)
    (h : ∀ a', St w0 N a' w ((d, .bool r) :: E) L → K a' w) : Oper.wp P ⟨some d, .binOp .gtr t x y ys, ty, pos, aft, g⟩ a w K Q := by
  cases r
  · exact o_fgtr st hx hy hi hj hd (fun ht => by rw [hr] at ht; cases ht) fun _ => h
  · exact o_fgtr st hx hy hi hj hd (fun _ => h) fun ht => by rw [hr] at ht; cases ht
theorem o_flssW {x y : Operand} {t ys : TypeId} {k : FloatKind} {i j : Nat} {r : Bool} (st : St w0 N a w E L) (hx : evE E x = some (.float k i)) (hy : evE E y = some (.float k j)) (hi : Is k i (some i)) (hj : Is k j (some j)) (hr : fltB k (some i) (some j) = r) (hd : Nat.blt d N = true)
    (h : ∀ a', St w0 N a' w ((d, .bool r) :: E) L → K a' w) : Oper.wp P ⟨some d, .binOp .lss t x y ys, ty, pos, aft, g⟩ a w K Q := by
  cases r
  · exact o_flss st hx hy hi hj hd (fun ht => by rw [hr] at ht; cases ht) fun _ => h
  · exact o_flss st hx hy hi hj hd (fun _ => h) fun ht => by rw [hr] at ht; cases ht
/-- The word that an operation gives is one of its format. -/
theorem fop_is {op : BinOp} {k : FloatKind} {i j r : Nat} (h : fop op k (some i) (some j) = some r) : Is k r (some r) := by
  have hb : floatBits op k i j = some r := h
  exact ⟨lt_of_wf (floatBits_wf hb), floatBits_not_nan hb⟩
end
end Go.Proofs.Ytlllekaiickkoaa
