/-
  Contracts: spots that are equal up to NaNs, given spots, crossed spots.
-/
import Derived.Test.YtefnlalldgbcaaaE
namespace Go.Proofs.Ytefnlalldgbcaaa
open Go.RowKit
attribute [local irreducible] Code.wp wpList Oper.wp Calls bodyPost Exit.then Exit.inBlock

set_option maxHeartbeats 4000000 in
theorem sameFloat_ok (x y : Nat) (c : Option Nat) (hx : Is .f64 x c) (hy : Is .f64 y c) (w : World) : CV Try.prog 63 [.float .f64 x, .float .f64 y] w (.bool true) := by
  refine enter Try.func63 rfl rfl rfl rfl ?_
  intro a st
  cases c with
  | none =>
    (repeat' (first | (refine c_seq ?_) | (refine c_region ?_) | (refine l_do ?_) | (refine l_doG st rfl rfl ?_) | (refine l_skipU st rfl rfl rfl ?_; clear st; intro _ st) | (refine l_skip st rfl rfl rfl rfl ?_; clear st; intro _ st) | (refine l_nil ?_) | (refine x_then ?_) | (refine x_thenR ?_) | (refine x_thenE ?_) | (refine wp_ret ?_) | (refine wp_skip ?_) | (refine c_condT st rfl ?_) | (refine c_condF st rfl ?_) | (refine o_move st rfl rfl ?_; clear st; intro _ st) | (refine o_assign st rfl rfl ?_; clear st; intro _ st) | (refine o_pickT st rfl rfl rfl ?_; clear st; intro _ st) | (refine o_pickF st rfl rfl rfl ?_; clear st; intro _ st) | (refine o_eqlB st rfl rfl rfl rfl ?_; clear st; intro _ st) | (refine o_fop rfl st rfl rfl (by first | assumption | exact Is_ofInt _ _ | exact Is_lit (by decide +kernel)) (by first | assumption | exact Is_ofInt _ _ | exact Is_lit (by decide +kernel)) rfl ?_; clear st; intro _ _ _ _ st) | (refine o_fgtr st rfl rfl (by first | assumption | exact Is_ofInt _ _ | exact Is_lit (by decide +kernel)) (by first | assumption | exact Is_ofInt _ _ | exact Is_lit (by decide +kernel)) rfl ?_ ?_ <;> clear st <;> intro _ _ st <;> (try simp_all)) | (refine o_feql st rfl rfl (by first | assumption | exact Is_ofInt _ _ | exact Is_lit (by decide +kernel)) (by first | assumption | exact Is_ofInt _ _ | exact Is_lit (by decide +kernel)) rfl ?_ ?_ <;> clear st <;> intro _ _ st <;> (try simp_all)) | (refine o_fneq st rfl rfl (by first | assumption | exact Is_ofInt _ _ | exact Is_lit (by decide +kernel)) (by first | assumption | exact Is_ofInt _ _ | exact Is_lit (by decide +kernel)) rfl ?_ ?_ <;> clear st <;> intro _ _ st <;> (try simp_all))))
    all_goals first
      | (exfalso; simp_all [feqB_none]; done)
      | (refine post1 st Try.results63 (rd_t st rfl) ?_
         exact ⟨by rfl, st.ex0⟩)
  | some p =>
    have h1 := feqB_self' hx
    (repeat' (first | (refine c_seq ?_) | (refine c_region ?_) | (refine l_do ?_) | (refine l_doG st rfl rfl ?_) | (refine l_skipU st rfl rfl rfl ?_; clear st; intro _ st) | (refine l_skip st rfl rfl rfl rfl ?_; clear st; intro _ st) | (refine l_nil ?_) | (refine x_then ?_) | (refine x_thenR ?_) | (refine x_thenE ?_) | (refine wp_ret ?_) | (refine wp_skip ?_) | (refine c_condT st rfl ?_) | (refine c_condF st rfl ?_) | (refine o_move st rfl rfl ?_; clear st; intro _ st) | (refine o_assign st rfl rfl ?_; clear st; intro _ st) | (refine o_pickT st rfl rfl rfl ?_; clear st; intro _ st) | (refine o_pickF st rfl rfl rfl ?_; clear st; intro _ st) | (refine o_eqlB st rfl rfl rfl rfl ?_; clear st; intro _ st) | (refine o_fop rfl st rfl rfl (by first | assumption | exact Is_ofInt _ _ | exact Is_lit (by decide +kernel)) (by first | assumption | exact Is_ofInt _ _ | exact Is_lit (by decide +kernel)) rfl ?_; clear st; intro _ _ _ _ st) | (refine o_fgtr st rfl rfl (by first | assumption | exact Is_ofInt _ _ | exact Is_lit (by decide +kernel)) (by first | assumption | exact Is_ofInt _ _ | exact Is_lit (by decide +kernel)) rfl ?_ ?_ <;> clear st <;> intro _ _ st <;> (try simp_all)) | (refine o_feql st rfl rfl (by first | assumption | exact Is_ofInt _ _ | exact Is_lit (by decide +kernel)) (by first | assumption | exact Is_ofInt _ _ | exact Is_lit (by decide +kernel)) rfl ?_ ?_ <;> clear st <;> intro _ _ st <;> (try simp_all)) | (refine o_fneq st rfl rfl (by first | assumption | exact Is_ofInt _ _ | exact Is_lit (by decide +kernel)) (by first | assumption | exact Is_ofInt _ _ | exact Is_lit (by decide +kernel)) rfl ?_ ?_ <;> clear st <;> intro _ _ st <;> (try simp_all))))
    all_goals first
      | (exfalso; simp_all; done)
      | (refine post1 st Try.results63 (rd_t st rfl) ?_
         exact ⟨by rfl, st.ex0⟩)

set_option maxHeartbeats 4000000 in
theorem eqSpot_ok (b b' : B3) (s : S3) (h : IsS b s) (h' : IsS b' s) (w : World) : CV Try.prog 42 [vS b, vS b'] w (.bool true) := by
  obtain ⟨x, y, z⟩ := b
  obtain ⟨c1, c2, c3⟩ := s
  obtain ⟨h1, h2, h3⟩ := h
  obtain ⟨x', y', z'⟩ := b'
  obtain ⟨h4, h5, h6⟩ := h'
  refine enter Try.func42 rfl rfl rfl rfl ?_
  intro a st
  (repeat' (first | (refine o_fcv (by decide) st rfl (by first | assumption | exact Is_ofInt _ _ | exact Is_lit (by decide +kernel)) (fits_widen (by first | assumption | exact Is_ofInt _ _ | exact Is_lit (by decide +kernel))) rfl ?_; clear st; intro _ _ _ _ st) | (refine o_callV st rfl (sameFloat_ok _ _ _ (by first | assumption | exact Is_ofInt _ _ | exact Is_lit (by decide +kernel)) (by first | assumption | exact Is_ofInt _ _ | exact Is_lit (by decide +kernel)) _) rfl ?_; clear st; intro _ _ st) | (refine c_seq ?_) | (refine c_region ?_) | (refine l_do ?_) | (refine l_nil ?_) | (refine x_then ?_) | (refine x_thenR ?_) | (refine x_thenE ?_) | (refine wp_ret ?_) | (refine wp_skip ?_) | (refine c_condT st rfl ?_) | (refine c_condF st rfl ?_) | (refine o_assign st rfl rfl ?_; clear st; intro _ st) | (refine o_boxA st rfl rfl ?_; clear st; intro _ _ _ st) | (refine o_boxS st rfl rfl rfl ?_; clear st; intro _ _ _ st) | (refine o_fieldAddr st rfl rfl ?_; clear st; intro _ st) | (refine o_loadS st rfl (by repeat (first | exact At.here | apply At.there)) rfl rfl ?_; clear st; intro _ st) | (refine o_load3 st rfl (by repeat (first | exact At.here | apply At.there)) rfl ?_; clear st; intro _ st) | (refine o_load2 st rfl (by repeat (first | exact At.here | apply At.there)) rfl ?_; clear st; intro _ st) | (refine o_load4 st rfl (by repeat (first | exact At.here | apply At.there)) rfl ?_; clear st; intro _ st) | (refine o_notT st rfl rfl ?_; clear st; intro _ st) | (refine o_notF st rfl rfl ?_; clear st; intro _ st) | (refine o_fcv0 st rfl rfl ?_; clear st; intro _ st) | (refine o_intFloat st rfl rfl ?_; clear st; intro _ st)))
  refine post1 st Try.results42 (rd_t st rfl) ?_
  exact ⟨by rfl, st.ex0⟩

def z3 : S3 := (some 0, some 0, some 0)
/-- What is given: the spot, if finite; else none. -/
def giveS (s : S3) : S3 := bif finS s then s else z3
theorem Is_z : Is .f32 0 (some 0) := Is_lit (by decide +kernel)
theorem IsS_z : IsS (0, 0, 0) z3 := ⟨Is_z, Is_z, Is_z⟩

theorem l04Given_ok (b : B3) (s : S3) (h : IsS b s) (w : World) : CSB Try.prog 108 [vS b] w (giveS s) (finS s) := by
  refine enter Try.func108 rfl rfl rfl rfl ?_
  intro a st
  (repeat' (first | (refine o_callB st rfl (l04Spot_ok b s h _) rfl ?_ ?_ <;> clear st <;> intro _ _ _ st) | (refine c_seq ?_) | (refine c_region ?_) | (refine l_do ?_) | (refine l_nil ?_) | (refine x_then ?_) | (refine x_thenR ?_) | (refine x_thenE ?_) | (refine wp_ret ?_) | (refine wp_skip ?_) | (refine c_condT st rfl ?_) | (refine c_condF st rfl ?_) | (refine o_assign st rfl rfl ?_; clear st; intro _ st) | (refine o_alloc st rfl ?_; clear st; intro _ _ _ st) | (refine o_boxA st rfl rfl ?_; clear st; intro _ _ _ st) | (refine o_boxS st rfl rfl rfl ?_; clear st; intro _ _ _ st) | (refine o_loadS st rfl (by repeat (first | exact At.here | apply At.there)) rfl rfl ?_; clear st; intro _ st) | (refine o_load3 st rfl (by repeat (first | exact At.here | apply At.there)) rfl ?_; clear st; intro _ st) | (refine o_load2 st rfl (by repeat (first | exact At.here | apply At.there)) rfl ?_; clear st; intro _ st) | (refine o_load4 st rfl (by repeat (first | exact At.here | apply At.there)) rfl ?_; clear st; intro _ st) | (refine o_storeS st rfl rfl rfl (by repeat (first | exact Upd.here | apply Upd.there)) rfl (by dsimp only [List.set]) ?_; clear st; intro _ _ st) | (refine o_storeW st rfl rfl (by repeat (first | exact Upd.here | apply Upd.there)) rfl rfl rfl ?_; clear st; intro _ _ st) | (refine o_build3 st rfl rfl rfl rfl rfl rfl rfl ?_; clear st; intro _ st) | (refine o_build2 st rfl rfl rfl rfl rfl ?_; clear st; intro _ st) | (refine o_build0 st rfl ?_; clear st; intro _ st) | (refine o_notT st rfl rfl ?_; clear st; intro _ st) | (refine o_notF st rfl rfl ?_; clear st; intro _ st)))
  · refine post2 st Try.results108 (rd_c st rfl (by repeat (first | exact At.here | apply At.there)) rfl) (rd_t st rfl) ?_
    have hf : finS s = true := by assumption
    exact ⟨_, rfl, ⟨b, by rw [hf]; rfl, by simpa [giveS, hf] using h⟩, st.ex0⟩
  · refine post2 st Try.results108 (rd_c st rfl (by repeat (first | exact At.here | apply At.there)) rfl) (rd_t st rfl) ?_
    have hf : finS s = false := by assumption
    exact ⟨_, rfl, ⟨(0, 0, 0), by rw [hf]; rfl, by simpa [giveS, hf] using IsS_z⟩, st.ex0⟩

theorem ifSpot_ok (b : B3) (s : S3) (h : IsS b s) (w : World) : CSB Try.prog 111 [vS b] w (giveS s) (finS s) := by
  refine enter Try.func111 rfl rfl rfl rfl ?_
  intro a st
  (repeat' (first | (refine o_callB st rfl (implIsSpot_ok b s h _) rfl ?_ ?_ <;> clear st <;> intro _ _ _ st) | (refine c_seq ?_) | (refine c_region ?_) | (refine l_do ?_) | (refine l_nil ?_) | (refine x_then ?_) | (refine x_thenR ?_) | (refine x_thenE ?_) | (refine wp_ret ?_) | (refine wp_skip ?_) | (refine c_condT st rfl ?_) | (refine c_condF st rfl ?_) | (refine o_assign st rfl rfl ?_; clear st; intro _ st) | (refine o_alloc st rfl ?_; clear st; intro _ _ _ st) | (refine o_boxA st rfl rfl ?_; clear st; intro _ _ _ st) | (refine o_boxS st rfl rfl rfl ?_; clear st; intro _ _ _ st) | (refine o_loadS st rfl (by repeat (first | exact At.here | apply At.there)) rfl rfl ?_; clear st; intro _ st) | (refine o_load3 st rfl (by repeat (first | exact At.here | apply At.there)) rfl ?_; clear st; intro _ st) | (refine o_load2 st rfl (by repeat (first | exact At.here | apply At.there)) rfl ?_; clear st; intro _ st) | (refine o_load4 st rfl (by repeat (first | exact At.here | apply At.there)) rfl ?_; clear st; intro _ st) | (refine o_storeS st rfl rfl rfl (by repeat (first | exact Upd.here | apply Upd.there)) rfl (by dsimp only [List.set]) ?_; clear st; intro _ _ st) | (refine o_storeW st rfl rfl (by repeat (first | exact Upd.here | apply Upd.there)) rfl rfl rfl ?_; clear st; intro _ _ st) | (refine o_build3 st rfl rfl rfl rfl rfl rfl rfl ?_; clear st; intro _ st) | (refine o_build2 st rfl rfl rfl rfl rfl ?_; clear st; intro _ st) | (refine o_build0 st rfl ?_; clear st; intro _ st) | (refine o_notT st rfl rfl ?_; clear st; intro _ st) | (refine o_notF st rfl rfl ?_; clear st; intro _ st)))
  · refine post2 st Try.results111 (rd_c st rfl (by repeat (first | exact At.here | apply At.there)) rfl) (rd_t st rfl) ?_
    have hf : finS s = true := by assumption
    exact ⟨_, rfl, ⟨b, by rw [hf]; rfl, by simpa [giveS, hf] using h⟩, st.ex0⟩
  · refine post2 st Try.results111 (rd_c st rfl (by repeat (first | exact At.here | apply At.there)) rfl) (rd_t st rfl) ?_
    have hf : finS s = false := by assumption
    exact ⟨_, rfl, ⟨(0, 0, 0), by rw [hf]; rfl, by simpa [giveS, hf] using IsS_z⟩, st.ex0⟩

def sub32 (x y : Option Nat) : Option Nat := fop .sub .f32 x y
def mul32 (x y : Option Nat) : Option Nat := fop .mul .f32 x y
def add32 (x y : Option Nat) : Option Nat := fop .add .f32 x y
/-- The classes of the crossed spot. -/
def crossC (s t : S3) : S3 := (fop .sub .f32 (fop .mul .f32 s.2.1 t.2.2) (fop .mul .f32 s.2.2 t.2.1), fop .sub .f32 (fop .mul .f32 s.2.2 t.1) (fop .mul .f32 s.1 t.2.2), fop .sub .f32 (fop .mul .f32 s.1 t.2.1) (fop .mul .f32 s.2.1 t.1))

set_option maxHeartbeats 4000000 in
theorem l04Cross_ok (b b' : B3) (s s' : S3) (h : IsS b s) (h' : IsS b' s') (w : World) : CS Try.prog 109 [vS b, vS b'] w (crossC s s') := by
  obtain ⟨x, y, z⟩ := b
  obtain ⟨c1, c2, c3⟩ := s
  obtain ⟨h1, h2, h3⟩ := h
  obtain ⟨x', y', z'⟩ := b'
  obtain ⟨d1, d2, d3⟩ := s'
  obtain ⟨h4, h5, h6⟩ := h'
  refine enter Try.func109 rfl rfl rfl rfl ?_
  intro a st
  (repeat' (first | (refine c_seq ?_) | (refine c_region ?_) | (refine l_do ?_) | (refine l_nil ?_) | (refine x_then ?_) | (refine x_thenR ?_) | (refine x_thenE ?_) | (refine wp_ret ?_) | (refine o_move st rfl rfl ?_; clear st; intro _ st) | (refine o_assign st rfl rfl ?_; clear st; intro _ st) | (refine o_alloc st rfl ?_; clear st; intro _ _ _ st) | (refine o_boxA st rfl rfl ?_; clear st; intro _ _ _ st) | (refine o_boxS st rfl rfl rfl ?_; clear st; intro _ _ _ st) | (refine o_fieldAddr st rfl rfl ?_; clear st; intro _ st) | (refine o_loadS st rfl (by repeat (first | exact At.here | apply At.there)) rfl rfl ?_; clear st; intro _ st) | (refine o_load3 st rfl (by repeat (first | exact At.here | apply At.there)) rfl ?_; clear st; intro _ st) | (refine o_load2 st rfl (by repeat (first | exact At.here | apply At.there)) rfl ?_; clear st; intro _ st) | (refine o_load4 st rfl (by repeat (first | exact At.here | apply At.there)) rfl ?_; clear st; intro _ st) | (refine o_storeS st rfl rfl rfl (by repeat (first | exact Upd.here | apply Upd.there)) rfl (by dsimp only [List.set]) ?_; clear st; intro _ _ st) | (refine o_storeW st rfl rfl (by repeat (first | exact Upd.here | apply Upd.there)) rfl rfl rfl ?_; clear st; intro _ _ st) | (refine o_build3 st rfl rfl rfl rfl rfl rfl rfl ?_; clear st; intro _ st) | (refine o_build2 st rfl rfl rfl rfl rfl ?_; clear st; intro _ st) | (refine o_build0 st rfl ?_; clear st; intro _ st) | (refine o_fop rfl st rfl rfl (by first | assumption | exact Is_ofInt _ _ | exact Is_lit (by decide +kernel)) (by first | assumption | exact Is_ofInt _ _ | exact Is_lit (by decide +kernel)) rfl ?_; clear st; intro _ _ _ _ st)))
  refine post1 st Try.results109 (rd_c st rfl (by repeat (first | exact At.here | apply At.there)) rfl) ?_
  exact ⟨_, rfl, ⟨(_, _, _), rfl, IsS.mk' (by assumption) (by assumption) (by assumption)⟩, st.ex0⟩

set_option maxHeartbeats 4000000 in
theorem crossed_ok (b b' : B3) (s s' : S3) (h : IsS b s) (h' : IsS b' s') (w : World) : CS Try.prog 112 [vS b, vS b'] w (crossC s s') := by
  obtain ⟨x, y, z⟩ := b
  obtain ⟨c1, c2, c3⟩ := s
  obtain ⟨h1, h2, h3⟩ := h
  obtain ⟨x', y', z'⟩ := b'
  obtain ⟨d1, d2, d3⟩ := s'
  obtain ⟨h4, h5, h6⟩ := h'
  refine enter Try.func112 rfl rfl rfl rfl ?_
  intro a st
  (repeat' (first | (refine c_seq ?_) | (refine c_region ?_) | (refine l_do ?_) | (refine l_nil ?_) | (refine x_then ?_) | (refine x_thenR ?_) | (refine x_thenE ?_) | (refine wp_ret ?_) | (refine o_alloc st rfl ?_; clear st; intro _ _ _ st) | (refine o_boxA st rfl rfl ?_; clear st; intro _ _ _ st) | (refine o_boxS st rfl rfl rfl ?_; clear st; intro _ _ _ st) | (refine o_fieldAddr st rfl rfl ?_; clear st; intro _ st) | (refine o_loadS st rfl (by repeat (first | exact At.here | apply At.there)) rfl rfl ?_; clear st; intro _ st) | (refine o_load3 st rfl (by repeat (first | exact At.here | apply At.there)) rfl ?_; clear st; intro _ st) | (refine o_load2 st rfl (by repeat (first | exact At.here | apply At.there)) rfl ?_; clear st; intro _ st) | (refine o_load4 st rfl (by repeat (first | exact At.here | apply At.there)) rfl ?_; clear st; intro _ st) | (refine o_storeS st rfl rfl rfl (by repeat (first | exact Upd.here | apply Upd.there)) rfl (by dsimp only [List.set]) ?_; clear st; intro _ _ st) | (refine o_storeW st rfl rfl (by repeat (first | exact Upd.here | apply Upd.there)) rfl rfl rfl ?_; clear st; intro _ _ st) | (refine o_build3 st rfl rfl rfl rfl rfl rfl rfl ?_; clear st; intro _ st) | (refine o_build2 st rfl rfl rfl rfl rfl ?_; clear st; intro _ st) | (refine o_build0 st rfl ?_; clear st; intro _ st) | (refine o_fop rfl st rfl rfl (by first | assumption | exact Is_ofInt _ _ | exact Is_lit (by decide +kernel)) (by first | assumption | exact Is_ofInt _ _ | exact Is_lit (by decide +kernel)) rfl ?_; clear st; intro _ _ _ _ st)))
  refine post1 st Try.results112 (rd_c st rfl (by repeat (first | exact At.here | apply At.there)) rfl) ?_
  exact ⟨_, rfl, ⟨(_, _, _), rfl, IsS.mk' (by assumption) (by assumption) (by assumption)⟩, st.ex0⟩
end Go.Proofs.Ytefnlalldgbcaaa
