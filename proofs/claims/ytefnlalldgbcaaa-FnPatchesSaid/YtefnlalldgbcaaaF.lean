/-
  Contracts: spots that are equal up to NaNs, given spots, crossed spots.
-/
import Derived.Test.YtefnlalldgbcaaaE
namespace Go.Proofs.Ytefnlalldgbcaaa
open Go.RowKit
attribute [local irreducible] Code.wp wpList Oper.wp Calls bodyPost Exit.then Exit.inBlock

def z3 : S3 := (some 0, some 0, some 0)
/-- What is given: the spot, if finite; else none. -/
def giveS (s : S3) : S3 := bif finS s then s else z3
theorem Is_z : Is .f32 0 (some 0) := Is_lit (by decide +kernel)
theorem IsS_z : IsS (0, 0, 0) z3 := ⟨Is_z, Is_z, Is_z⟩

theorem ifSpot_ok (b : B3) (s : S3) (h : IsS b s) (w : World) : CSB Try.prog 111 [vS b] w (giveS s) (finS s) := by
  refine enter Try.func111 rfl rfl rfl rfl ?_
  intro a st
  (repeat' (first | (refine o_callB st rfl (implIsSpot_ok b s h _) rfl ?_ ?_ <;> clear st <;> intro _ _ _ st)  | refine c_seq ?_  | refine c_region ?_  | refine l_do ?_  | refine l_nil ?_  | refine x_then ?_  | refine x_thenR ?_  | refine wp_ret ?_  | refine wp_skip ?_  | refine c_condT st rfl ?_  | refine c_condF st rfl ?_  | (refine o_assign st rfl rfl ?_; clear st; intro _ st)  | ((first | refine o_alloc st rfl ?_  | refine o_boxA st rfl rfl ?_ ); clear st; intro _ _ _ st)  | ((first | refine o_load3 st rfl (by repeat constructor) rfl ?_ ); clear st; intro _ st)  | ((first | refine o_storeW st rfl rfl (by repeat constructor) rfl rfl rfl ?_); clear st; intro _ _ st)  | ((first | refine o_build0 st rfl ?_  | refine o_notT st rfl rfl ?_  | refine o_notF st rfl rfl ?_); clear st; intro _ st)))
  · refine post2 st Try.results111 (rd_c st rfl (by repeat constructor) rfl) (rd_t st rfl) ?_
    have hf : finS s = true := by assumption
    exact ⟨_, rfl, ⟨b, by rw [hf]; rfl, by simpa [giveS, hf] using h⟩, st.ex0⟩
  · refine post2 st Try.results111 (rd_c st rfl (by repeat constructor) rfl) (rd_t st rfl) ?_
    have hf : finS s = false := by assumption
    exact ⟨_, rfl, ⟨(0, 0, 0), by rw [hf]; rfl, by simpa [giveS, hf] using IsS_z⟩, st.ex0⟩

end Go.Proofs.Ytefnlalldgbcaaa
