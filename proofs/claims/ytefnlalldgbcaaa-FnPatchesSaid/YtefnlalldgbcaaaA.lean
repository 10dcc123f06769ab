/-
  Contracts of the small functions on numbers and spots.
-/
import Derived.Test.YtefnlalldgbcaaaStep
import Derived.Test.YtefnlalldgbcaaaTypes
namespace Go.Proofs.Ytefnlalldgbcaaa
open Go.RowKit
attribute [local irreducible] Code.wp wpList Oper.wp Calls bodyPost Exit.then Exit.inBlock

/-- Is a number finite: by classes. -/
def finC (c : Option Nat) : Bool := feqB .f32 (fop .sub .f32 c c) (some 0)

theorem IsFinite_ok (x : Nat) (c : Option Nat) (hx : Is .f32 x c) (w : World) : CV Try.prog 160 [.float .f32 x] w (.bool (finC c)) := by
  refine enter Try.func160 rfl rfl rfl rfl ?_
  intro a st
  (repeat' (first | refine c_seq ?_  | refine c_region ?_  | refine l_do ?_  | refine l_nil ?_  | refine x_then ?_  | refine wp_ret ?_  | ((first | refine o_move st rfl rfl ?_  | refine o_assign st rfl rfl ?_); clear st; intro _ st)  | (refine o_fop rfl st rfl rfl (by first | assumption | exact Is_ofInt _ _ | exact Is_lit (by decide +kernel)) (by first | assumption | exact Is_ofInt _ _ | exact Is_lit (by decide +kernel)) rfl ?_; clear st; intro _ _ _ _ st)  | (refine o_feql st rfl rfl (by first | assumption | exact Is_ofInt _ _ | exact Is_lit (by decide +kernel)) (by first | assumption | exact Is_ofInt _ _ | exact Is_lit (by decide +kernel)) rfl ?_ ?_ <;> clear st <;> intro _ _ st <;> (try simp_all))))
  all_goals
    refine post1 st Try.results160 (rd_t st rfl) ?_
    exact ⟨by simp [finC, *], st.ex0⟩

/-- The closure of areFinite. -/
theorem areFinite1_ok (x : Nat) (c : Option Nat) (hx : Is .f32 x c) (w : World) : CV Try.prog 175 [.float .f32 x] w (.bool (!finC c)) := by
  refine enter Try.func175 rfl rfl rfl rfl ?_
  intro a st
  (repeat' (first | (refine o_callB st rfl (IsFinite_ok _ _ (by first | assumption | exact Is_ofInt _ _ | exact Is_lit (by decide +kernel)) _) rfl ?_ ?_ <;> clear st <;> intro _ _ _ st)  | refine c_seq ?_  | refine c_region ?_  | refine l_do ?_  | refine l_nil ?_  | refine x_then ?_  | refine wp_ret ?_  | ((first | refine o_move st rfl rfl ?_  | refine o_assign st rfl rfl ?_  | refine o_notT st rfl rfl ?_  | refine o_notF st rfl rfl ?_); clear st; intro _ st)))
  all_goals
    refine post1 st Try.results175 (rd_t st rfl) ?_
    exact ⟨by simp [*], st.ex0⟩

/-- The classes of a spot's parts. -/
abbrev S3 := Option Nat × Option Nat × Option Nat
def finS (s : S3) : Bool := finC s.1 && (finC s.2.1 && finC s.2.2)
/-- The words of a spot. -/
abbrev B3 := Nat × Nat × Nat
def vS (b : B3) : Value := .agg [.float .f32 b.1, .float .f32 b.2.1, .float .f32 b.2.2].toArray
structure IsS (b : B3) (s : S3) : Prop where
  x : Is .f32 b.1 s.1
  y : Is .f32 b.2.1 s.2.1
  z : Is .f32 b.2.2 s.2.2

end Go.Proofs.Ytefnlalldgbcaaa
