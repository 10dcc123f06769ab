/-
  FnCircles: finite numbers (walks).
-/
import Derived.Test.YtlllekaiickkoaaCe
namespace Go.Proofs.Ytlllekaiickkoaa
open Go.RowKit
attribute [local irreducible] Code.wp wpList Oper.wp Calls bodyPost Exit.then Exit.inBlock

theorem o_feqlW {P : Program} {w0 w : World} {N : Nat} {a : Act} {E : List (Nat × Value)} {L : List Ent} {K : Act → World → Prop} {Q : Exit → Act → World → Prop} {d : Nat} {ty : TypeId} {pos : String} {aft : Array Edge} {g : Option (Nat × Bool)}
    {x y : Operand} {t ys : TypeId} {k : FloatKind} {i j : Nat} {r : Bool} (st : St w0 N a w E L) (hx : evE E x = some (.float k i)) (hy : evE E y = some (.float k j)) (hi : Is k i (some i)) (hj : Is k j (some j)) (hr : feqB k (some i) (some j) = r) (hd : Nat.blt d N = true)
    (h : ∀ a', St w0 N a' w ((d, .bool r) :: E) L → K a' w) : Oper.wp P ⟨some d, .binOp .eql t x y ys, ty, pos, aft, g⟩ a w K Q := by
  cases r
  · exact o_feql st hx hy hi hj hd (fun ht => by rw [hr] at ht; cases ht) fun _ => h
  · exact o_feql st hx hy hi hj hd (fun _ => h) fun ht => by rw [hr] at ht; cases ht
def finW (x : Nat) : Option Bool := bw (subW x x) fun z => some (feqB .f64 (some z) (some 0))
theorem isFinite64_ok (x : Nat) (r : Bool) (h : finW x = some r) (w : World) : CV Try.prog 14 [.float .f64 x] w (.bool r) := by
  unfold finW at h
  obtain ⟨z, hz, h⟩ := bw_some h
  have h : feqB .f64 (some z) (some 0) = r := Option.some.inj h
  have hz := subF_some hz
  refine enter Try.func14 rfl rfl rfl rfl ?_
  intro y st
  (repeat' (first | (refine o_fopK st rfl rfl hz rfl ?_; clear st; intro _ st) | (refine o_feqlW st rfl rfl (fop_is hz) (Is_lit (by decide +kernel)) h rfl ?_; clear st; intro _ st) | refine c_seq ?_ | refine c_region ?_ | refine l_do ?_ | refine l_nil ?_ | refine x_then ?_ | refine x_thenR ?_ | refine x_thenE ?_ | refine wp_ret ?_ | ((first | refine o_move st rfl rfl ?_ | refine o_assign st rfl rfl ?_); clear st; intro _ st) | (refine o_fop rfl st rfl rfl (by first | assumption | exact Is_ofInt _ _ | exact Is_lit (by decide +kernel)) (by first | assumption | exact Is_ofInt _ _ | exact Is_lit (by decide +kernel)) rfl ?_; clear st; intro _ _ _ _ st) | (refine o_feql st rfl rfl (by first | assumption | exact Is_ofInt _ _ | exact Is_lit (by decide +kernel)) (by first | assumption | exact Is_ofInt _ _ | exact Is_lit (by decide +kernel)) rfl ?_ ?_ <;> clear st <;> intro _ _ st <;> (try simp_all))))
  refine post1 st Try.results14 (rd_t st rfl) ?_
  exact ⟨rfl, st.ex0⟩
end Go.Proofs.Ytlllekaiickkoaa
