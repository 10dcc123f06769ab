/-
  Contracts of the small functions on numbers and spots.
-/
import Derived.Test.YtefnlalldgbcaaaStep
import Derived.Test.YtefnlalldgbcaaaTypes
namespace Go.Proofs.Ytefnlalldgbcaaa
open Go.RowKit
attribute [local irreducible] Code.wp wpList Oper.wp Calls bodyPost Exit.then Exit.inBlock

/-- Is a number finite: by classes. -/
def finC (c : Option Nat) : Bool := feqB .f32 (fop .sub .f32 c c) (some 0)

theorem l01Finite_ok (x : Nat) (c : Option Nat) (hx : Is .f32 x c) (w : World) : CV Try.prog 142 [.float .f32 x] w (.bool (finC c)) := by
  refine enter Try.func142 rfl rfl rfl rfl ?_
  intro a st
  (repeat' (first | (refine c_seq ?_) | (refine c_region ?_) | (refine l_do ?_) | (refine l_nil ?_) | (refine x_then ?_) | (refine x_thenR ?_) | (refine x_thenE ?_) | (refine wp_ret ?_) | (refine o_move st rfl rfl ?_; clear st; intro _ st) | (refine o_assign st rfl rfl ?_; clear st; intro _ st) | (refine o_fop rfl st rfl rfl (by first | assumption | exact Is_ofInt _ _ | exact Is_lit (by decide +kernel)) (by first | assumption | exact Is_ofInt _ _ | exact Is_lit (by decide +kernel)) rfl ?_; clear st; intro _ _ _ _ st) | (refine o_feql st rfl rfl (by first | assumption | exact Is_ofInt _ _ | exact Is_lit (by decide +kernel)) (by first | assumption | exact Is_ofInt _ _ | exact Is_lit (by decide +kernel)) rfl ?_ ?_ <;> clear st <;> intro _ _ st <;> (try simp_all))))
  all_goals
    refine post1 st Try.results142 (rd_t st rfl) ?_
    exact ⟨by simp [finC, *], st.ex0⟩

theorem IsFinite_ok (x : Nat) (c : Option Nat) (hx : Is .f32 x c) (w : World) : CV Try.prog 160 [.float .f32 x] w (.bool (finC c)) := by
  refine enter Try.func160 rfl rfl rfl rfl ?_
  intro a st
  (repeat' (first | (refine c_seq ?_) | (refine c_region ?_) | (refine l_do ?_) | (refine l_nil ?_) | (refine x_then ?_) | (refine x_thenR ?_) | (refine x_thenE ?_) | (refine wp_ret ?_) | (refine o_move st rfl rfl ?_; clear st; intro _ st) | (refine o_assign st rfl rfl ?_; clear st; intro _ st) | (refine o_fop rfl st rfl rfl (by first | assumption | exact Is_ofInt _ _ | exact Is_lit (by decide +kernel)) (by first | assumption | exact Is_ofInt _ _ | exact Is_lit (by decide +kernel)) rfl ?_; clear st; intro _ _ _ _ st) | (refine o_feql st rfl rfl (by first | assumption | exact Is_ofInt _ _ | exact Is_lit (by decide +kernel)) (by first | assumption | exact Is_ofInt _ _ | exact Is_lit (by decide +kernel)) rfl ?_ ?_ <;> clear st <;> intro _ _ st <;> (try simp_all))))
  all_goals
    refine post1 st Try.results160 (rd_t st rfl) ?_
    exact ⟨by simp [finC, *], st.ex0⟩

/-- The closure of areFinite. -/
theorem areFinite1_ok (x : Nat) (c : Option Nat) (hx : Is .f32 x c) (w : World) : CV Try.prog 175 [.float .f32 x] w (.bool (!finC c)) := by
  refine enter Try.func175 rfl rfl rfl rfl ?_
  intro a st
  (repeat' (first | (refine o_callB st rfl (IsFinite_ok _ _ (by first | assumption | exact Is_ofInt _ _ | exact Is_lit (by decide +kernel)) _) rfl ?_ ?_ <;> clear st <;> intro _ _ _ st) | (refine c_seq ?_) | (refine c_region ?_) | (refine l_do ?_) | (refine l_nil ?_) | (refine x_then ?_) | (refine x_thenR ?_) | (refine x_thenE ?_) | (refine wp_ret ?_) | (refine o_move st rfl rfl ?_; clear st; intro _ st) | (refine o_assign st rfl rfl ?_; clear st; intro _ st) | (refine o_notT st rfl rfl ?_; clear st; intro _ st) | (refine o_notF st rfl rfl ?_; clear st; intro _ st)))
  all_goals
    refine post1 st Try.results175 (rd_t st rfl) ?_
    exact ⟨by simp [*], st.ex0⟩

/-- The classes of a spot's parts. -/
abbrev S3 := Option Nat × Option Nat × Option Nat
def finS (s : S3) : Bool := finC s.1 && (finC s.2.1 && finC s.2.2)
/-- The words of a spot. -/
abbrev B3 := Nat × Nat × Nat
def vS (b : B3) : Value := .agg [.float .f32 b.1, .float .f32 b.2.1, .float .f32 b.2.2].toArray
structure IsS (b : B3) (s : S3) : Prop where
  x : Is .f32 b.1 s.1
  y : Is .f32 b.2.1 s.2.1
  z : Is .f32 b.2.2 s.2.2

theorem l04Spot_ok (b : B3) (s : S3) (h : IsS b s) (w : World) : CV Try.prog 100 [vS b] w (.bool (finS s)) := by
  obtain ⟨x, y, z⟩ := b
  obtain ⟨c1, c2, c3⟩ := s
  obtain ⟨h1, h2, h3⟩ := h
  refine enter Try.func100 rfl rfl rfl rfl ?_
  intro a st
  (repeat' (first | (refine o_callB st rfl (l01Finite_ok _ _ (by first | assumption | exact Is_ofInt _ _ | exact Is_lit (by decide +kernel)) _) rfl ?_ ?_ <;> clear st <;> intro _ _ _ st) | (refine c_seq ?_) | (refine c_region ?_) | (refine l_do ?_) | (refine l_doG st rfl rfl ?_) | (refine l_skipU st rfl rfl rfl ?_; clear st; intro _ st) | (refine l_skip st rfl rfl rfl rfl ?_; clear st; intro _ st) | (refine l_nil ?_) | (refine x_then ?_) | (refine x_thenR ?_) | (refine x_thenE ?_) | (refine wp_ret ?_) | (refine o_move st rfl rfl ?_; clear st; intro _ st) | (refine o_assign st rfl rfl ?_; clear st; intro _ st) | (refine o_pickT st rfl rfl rfl ?_; clear st; intro _ st) | (refine o_pickF st rfl rfl rfl ?_; clear st; intro _ st) | (refine o_boxA st rfl rfl ?_; clear st; intro _ _ _ st) | (refine o_boxS st rfl rfl rfl ?_; clear st; intro _ _ _ st) | (refine o_fieldAddr st rfl rfl ?_; clear st; intro _ st) | (refine o_loadS st rfl (by repeat (first | exact At.here | apply At.there)) rfl rfl ?_; clear st; intro _ st) | (refine o_load3 st rfl (by repeat (first | exact At.here | apply At.there)) rfl ?_; clear st; intro _ st) | (refine o_load2 st rfl (by repeat (first | exact At.here | apply At.there)) rfl ?_; clear st; intro _ st) | (refine o_load4 st rfl (by repeat (first | exact At.here | apply At.there)) rfl ?_; clear st; intro _ st)))
  all_goals
    refine post1 st Try.results100 (rd_t st rfl) ?_
    exact ⟨by simp_all [finS], st.ex0⟩

theorem specIsSpot_ok (b : B3) (s : S3) (h : IsS b s) (w : World) : CV Try.prog 30 [vS b] w (.bool (finS s)) := by
  refine enter Try.func30 rfl rfl rfl rfl ?_
  intro a st
  (repeat' (first | (refine o_callB st rfl (l04Spot_ok b s h _) rfl ?_ ?_ <;> clear st <;> intro _ _ _ st) | (refine c_seq ?_) | (refine c_region ?_) | (refine l_do ?_) | (refine l_nil ?_) | (refine x_then ?_) | (refine x_thenR ?_) | (refine x_thenE ?_) | (refine wp_ret ?_) | (refine o_assign st rfl rfl ?_; clear st; intro _ st) | (refine o_boxA st rfl rfl ?_; clear st; intro _ _ _ st) | (refine o_boxS st rfl rfl rfl ?_; clear st; intro _ _ _ st) | (refine o_loadS st rfl (by repeat (first | exact At.here | apply At.there)) rfl rfl ?_; clear st; intro _ st) | (refine o_load3 st rfl (by repeat (first | exact At.here | apply At.there)) rfl ?_; clear st; intro _ st) | (refine o_load2 st rfl (by repeat (first | exact At.here | apply At.there)) rfl ?_; clear st; intro _ st) | (refine o_load4 st rfl (by repeat (first | exact At.here | apply At.there)) rfl ?_; clear st; intro _ st)))
  all_goals
    refine post1 st Try.results30 (rd_t st rfl) ?_
    exact ⟨by simp_all, st.ex0⟩

theorem toSpot_ok (b : B3) (w : World) : CV Try.prog 31 [vS b] w (vS b) := by
  refine enter Try.func31 rfl rfl rfl rfl ?_
  intro a st
  (repeat' (first | (refine c_seq ?_) | (refine c_region ?_) | (refine l_do ?_) | (refine l_nil ?_) | (refine x_then ?_) | (refine x_thenR ?_) | (refine x_thenE ?_) | (refine wp_ret ?_) | (refine o_alloc st rfl ?_; clear st; intro _ _ _ st) | (refine o_boxA st rfl rfl ?_; clear st; intro _ _ _ st) | (refine o_boxS st rfl rfl rfl ?_; clear st; intro _ _ _ st) | (refine o_fieldAddr st rfl rfl ?_; clear st; intro _ st) | (refine o_loadS st rfl (by repeat (first | exact At.here | apply At.there)) rfl rfl ?_; clear st; intro _ st) | (refine o_load3 st rfl (by repeat (first | exact At.here | apply At.there)) rfl ?_; clear st; intro _ st) | (refine o_load2 st rfl (by repeat (first | exact At.here | apply At.there)) rfl ?_; clear st; intro _ st) | (refine o_load4 st rfl (by repeat (first | exact At.here | apply At.there)) rfl ?_; clear st; intro _ st) | (refine o_storeS st rfl rfl rfl (by repeat (first | exact Upd.here | apply Upd.there)) rfl (by dsimp only [List.set]) ?_; clear st; intro _ _ st) | (refine o_storeW st rfl rfl (by repeat (first | exact Upd.here | apply Upd.there)) rfl rfl rfl ?_; clear st; intro _ _ st)))
  refine post1 st Try.results31 (rd_c st rfl (by repeat (first | exact At.here | apply At.there)) rfl) ?_
  exact ⟨rfl, st.ex0⟩

end Go.Proofs.Ytefnlalldgbcaaa
