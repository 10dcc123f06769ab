/-
  Contracts: sheets read in, sheets compared, sheets that are sheets.
-/
import Derived.Test.YtefnlalldgbcaaaI
namespace Go.Proofs.Ytefnlalldgbcaaa
open Go.RowKit
attribute [local irreducible] Code.wp wpList Oper.wp Calls bodyPost Exit.then Exit.inBlock

def inB (i lo hi : Int) : Bool := decide (lo ≤ i) && decide (i ≤ hi)

theorem within_ok (i lo hi : Int) (w : World) : CV Try.prog 146 [.int .i64 i, .int .i64 lo, .int .i64 hi] w (.bool (inB i lo hi)) := by
  refine enter Try.func146 rfl rfl rfl rfl ?_
  intro a st
  (repeat' (first | refine c_seq ?_  | refine c_region ?_  | refine l_do ?_  | refine l_doG st rfl rfl ?_  | ((first | refine l_skip st rfl rfl rfl rfl ?_); clear st; intro _ st)  | refine l_nil ?_  | refine x_then ?_  | refine wp_ret ?_  | ((first | refine o_move st rfl rfl ?_  | refine o_assign st rfl rfl ?_  | refine o_pickT st rfl rfl rfl ?_  | refine o_pickF st rfl rfl rfl ?_); clear st; intro _ st)  | ((first | refine o_leq st rfl rfl rfl ?_ ?_  | refine o_geq st rfl rfl rfl ?_ ?_) <;> clear st <;> intro _ _ st <;> (try (exfalso; omega)))))
  all_goals
    refine post1 st Try.results146 (rd_t st rfl) ?_
    exact ⟨by simp [inB]; omega, st.ex0⟩
end Go.Proofs.Ytefnlalldgbcaaa
