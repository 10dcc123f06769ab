/-
  FnNumbers: contracts by classes: finite numbers, angles, small numbers, bits, sums (walks).
-/
import Derived.Test.YtclgplbikjmopaaGreatDoorDf
namespace Go.Proofs.YtclgplbikjmopaaGreatDoor
open Go.RowKit
set_option maxRecDepth 100000

/-! ## plain facts -/
theorem nan_rung (x : Nat) : (FloatKind.f64.format.read x).isNaN = decide (FloatKind.f64.format.infRung < rung FloatKind.f64.format x) := by
  have hb := bb .f64
  unfold Ieee.Format.read rung
  dsimp only
  by_cases h1 : x % FloatKind.f64.format.signWeight < FloatKind.f64.format.binade
  · rw [if_pos h1, decide_eq_false (by omega)]; rfl
  · rw [if_neg h1]
    by_cases h2 : x % FloatKind.f64.format.signWeight < FloatKind.f64.format.infRung
    · rw [if_pos h2, decide_eq_false (by omega)]; rfl
    · rw [if_neg h2]
      by_cases h3 : x % FloatKind.f64.format.signWeight = FloatKind.f64.format.infRung
      · rw [if_pos h3, decide_eq_false (by omega)]; rfl
      · rw [if_neg h3, decide_eq_true (by omega)]; rfl
theorem abs_is {r : Nat} {c : Option Nat} (h : Is .f64 r c) : Is .f64 (absW r) (c.map absW) := by
  have hS : FloatKind.f64.format.signWeight = 2 ^ 63 := rfl
  have hr : rung FloatKind.f64.format (absW r) = rung FloatKind.f64.format r := by rw [andN_abs]; unfold rung; rw [hS, Nat.mod_mod]
  have hn : (FloatKind.f64.decode (absW r)).isNaN = (FloatKind.f64.decode r).isNaN := by
    show (FloatKind.f64.format.read _).isNaN = (FloatKind.f64.format.read _).isNaN
    rw [nan_rung, nan_rung, hr]
  refine ⟨?_, ?_⟩
  · rw [andN_abs]
    exact Nat.lt_of_lt_of_le (Nat.mod_lt _ (by decide)) (by decide)
  · have h2 := h.2
    unfold cl at h2 ⊢
    rw [hn]
    cases hc : (FloatKind.f64.decode r).isNaN
    · rw [hc] at h2
      rw [← h2]
      rfl
    · rw [hc] at h2
      rw [← h2]
      rfl
theorem back_c {x : Nat} {c : Option Nat} (h : Is .f32 x c) : fits .f64 .f32 (fcv .f32 .f64 c) ∧ fcv .f64 .f32 (fcv .f32 .f64 c) = c := by
  have hx : x < 2 ^ 32 := h.1
  have hc := h.2
  rcases f32_cases hx with h1 | rfl | rfl | ⟨h1, h2⟩
  · rw [← hc, h1]
    refine ⟨?_, rfl⟩
    intro b hb
    cases hb
  · have e : cl .f32 2139095040 = some 2139095040 := by decide +kernel
    have e1 : fcv .f32 .f64 (some 2139095040) = some 9218868437227405312 := by decide +kernel
    have e2 : fcv .f64 .f32 (some 9218868437227405312) = some 2139095040 := by decide +kernel
    rw [← hc, e, e1]
    exact ⟨fun b hb => by cases hb; exact ⟨_, e2⟩, e2⟩
  · have e : cl .f32 4286578688 = some 4286578688 := by decide +kernel
    have e1 : fcv .f32 .f64 (some 4286578688) = some 18442240474082181120 := by decide +kernel
    have e2 : fcv .f64 .f32 (some 18442240474082181120) = some 4286578688 := by decide +kernel
    rw [← hc, e, e1]
    exact ⟨fun b hb => by cases hb; exact ⟨_, e2⟩, e2⟩
  · obtain ⟨r, e1, _⟩ := wide_ok h2
    have e2 := narrow_back h2 hx e1
    have e1 : fcv .f32 .f64 (some x) = some r := e1
    have e2 : fcv .f64 .f32 (some r) = some x := e2
    rw [← hc, h1, e1]
    exact ⟨fun b hb => by cases hb; exact ⟨_, e2⟩, e2⟩
/-- The canonical bits of a number. -/
def nb (x : Nat) : Nat := match cl .f32 x with
  | none => 2143289344
  | some _ => x
theorem nb_lt {x : Nat} (h : x < 2 ^ 32) : nb x < 2 ^ 32 := by
  unfold nb
  split
  · decide
  · exact h
theorem nb_is {x y : Nat} {c : Option Nat} (h : Is .f32 x c) (h' : Is .f32 y c) : nb x = nb y := by
  unfold nb
  rw [h.2, h'.2]
  cases c with
  | none => rfl
  | some b =>
    have h1 := (cl_some h.2).1
    have h2 := (cl_some h'.2).1
    show x = y
    rw [← h1, ← h2]
theorem nb_nb (x : Nat) : nb (nb x) = nb x := by
  cases hc : cl .f32 x with
  | none =>
    have e : nb x = 2143289344 := by unfold nb; rw [hc]
    rw [e]
    decide +kernel
  | some b =>
    have e : nb x = x := by unfold nb; rw [hc]
    rw [e, e]
/-- Whether a number is subnormal. -/
def subC (c : Option Nat) : Bool := !feqB .f32 c (some 0) && fltB .f64 ((fcv .f32 .f64 c).map absW) (some 4039728865751334912)
theorem sub_true {c : Option Nat} (h : subC c = true) : feqB .f32 c (some 0) = false ∧ fltB .f64 ((fcv .f32 .f64 c).map absW) (some 4039728865751334912) = true := by
  unfold subC at h
  rw [Bool.and_eq_true] at h
  exact ⟨by simpa using h.1, h.2⟩
theorem sub_zero : subC (some 0) = false ∧ subC (some 2147483648) = false := by decide +kernel
/-- A sum from left to right. -/
def sumC : Option Nat → List Nat → Option Nat
  | c, [] => c
  | c, x :: xs => sumC (fop .add .f32 c (cl .f32 x)) xs
theorem sumC_snoc : ∀ (xs : List Nat) (c : Option Nat) (x : Nat), sumC c (xs ++ [x]) = fop .add .f32 (sumC c xs) (cl .f32 x)
  | [], _, _ => rfl
  | _ :: xs, _, x => sumC_snoc xs _ x
def orW (x y : Int) : Int := IntKind.u64.wrap ((BitVec.ofInt IntKind.u64.bits x ||| BitVec.ofInt IntKind.u64.bits y).toNat : Int)
def andW (x y : Int) : Int := IntKind.u64.wrap ((BitVec.ofInt IntKind.u64.bits x &&& BitVec.ofInt IntKind.u64.bits y).toNat : Int)
theorem andW_top (r : Nat) : andW (r : Int) 9223372036854775808 = 0 ∨ andW (r : Int) 9223372036854775808 = 9223372036854775808 := by
  have key : ∀ b : BitVec 64, b &&& BitVec.twoPow 64 63 = 0#64 ∨ b &&& BitVec.twoPow 64 63 = BitVec.twoPow 64 63 := by
    intro b
    rw [BitVec.and_twoPow]
    cases b.getLsbD 63
    · exact .inl rfl
    · exact .inr rfl
  have e2 : (BitVec.ofInt 64 9223372036854775808 : BitVec 64) = BitVec.twoPow 64 63 := by decide
  unfold andW
  rcases key (BitVec.ofInt 64 (r : Int)) with h | h
  · left
    have h : (BitVec.ofInt IntKind.u64.bits (r : Int) &&& BitVec.ofInt IntKind.u64.bits 9223372036854775808) = 0#64 := by rw [← h, ← e2]; rfl
    rw [h]
    decide
  · right
    have h : (BitVec.ofInt IntKind.u64.bits (r : Int) &&& BitVec.ofInt IntKind.u64.bits 9223372036854775808) = BitVec.twoPow 64 63 := by rw [← h, ← e2]; rfl
    rw [h]
    decide
attribute [local irreducible] Code.wp wpList Oper.wp Calls bodyPost Exit.then Exit.inBlock
section
variable {P : Program} {w0 w : World} {N : Nat} {a : Act} {E : List (Nat × Value)} {L Lh : List Ent} {K : Act → World → Prop} {Q : Exit → Act → World → Prop}
variable {d : Nat} {ty : TypeId} {pos : String} {aft : Array Edge} {g : Option (Nat × Bool)}
theorem o_orU {x y : Operand} {t ys : TypeId} {i j : Int} (st : St w0 N a w E L) (hx : evE E x = some (.int .u64 i)) (hy : evE E y = some (.int .u64 j)) (hd : Nat.blt d N = true)
    (h : ∀ a', St w0 N a' w ((d, .int .u64 (orW i j)) :: E) L → K a' w) : Oper.wp P ⟨some d, .binOp .or t x y ys, ty, pos, aft, g⟩ a w K Q := by
  have e : (Op.intBits .or .u64 i j : Sem Value) = pure (.int .u64 (orW i j)) := rfl
  exact o_val (v := .int .u64 (orW i j)) (w' := w) (by simp [execOp, evE_eval st hx, evE_eval st hy, binOp_or, e, eqGuard]) (h _ (st.put d hd _))
theorem o_andU {x y : Operand} {t ys : TypeId} {i j : Int} (st : St w0 N a w E L) (hx : evE E x = some (.int .u64 i)) (hy : evE E y = some (.int .u64 j)) (hd : Nat.blt d N = true)
    (h : ∀ a', St w0 N a' w ((d, .int .u64 (andW i j)) :: E) L → K a' w) : Oper.wp P ⟨some d, .binOp .and t x y ys, ty, pos, aft, g⟩ a w K Q := by
  have e : (Op.intBits .and .u64 i j : Sem Value) = pure (.int .u64 (andW i j)) := rfl
  exact o_val (v := .int .u64 (andW i j)) (w' := w) (by simp [execOp, evE_eval st hx, evE_eval st hy, binOp_and, e, eqGuard]) (h _ (st.put d hd _))
end
/-- A call that gives a float of a class. -/
abbrev CC32 (f : FuncId) (vs : List Value) (w : World) (c : Option Nat) : Prop := CR Tryz.prog f vs w fun v => ∃ r, v = vF r ∧ Is .f32 r c

theorem IsFiniteC_ok (x : Nat) (c : Option Nat) (h : Is .f32 x c) (w : World) : CV Tryz.prog 36 [vF x] w (.bool (finB c)) := by
  refine enter Tryz.func36 rfl rfl rfl rfl ?_
  intro y st
  (repeat' (first | (refine o_fop rfl st rfl rfl h h rfl ?_; clear st; intro q _ _ hq st) | (refine o_feql st rfl rfl hq i32_0 rfl ?_ ?_) | refine c_seq ?_ | refine c_region ?_ | refine l_do ?_ | refine l_nil ?_ | refine x_then ?_ | refine x_thenR ?_ | refine x_thenE ?_ | refine wp_ret ?_ | ((first | refine o_move st rfl rfl ?_ | refine o_assign st rfl rfl ?_); clear st; intro _ st) | (refine o_fop rfl st rfl rfl (by first | assumption | exact Is_ofInt _ _ | exact Is_lit (by decide +kernel)) (by first | assumption | exact Is_ofInt _ _ | exact Is_lit (by decide +kernel)) rfl ?_; clear st; intro _ _ _ _ st) | (refine o_feql st rfl rfl (by first | assumption | exact Is_ofInt _ _ | exact Is_lit (by decide +kernel)) (by first | assumption | exact Is_ofInt _ _ | exact Is_lit (by decide +kernel)) rfl ?_ ?_ <;> clear st <;> intro _ _ st <;> (try simp_all))))
  · intro hT _ st
    (repeat' (first | refine c_seq ?_ | refine c_region ?_ | refine l_do ?_ | refine l_nil ?_ | refine x_then ?_ | refine x_thenR ?_ | refine x_thenE ?_ | refine wp_ret ?_ | ((first | refine o_move st rfl rfl ?_ | refine o_assign st rfl rfl ?_); clear st; intro _ st) | (refine o_fop rfl st rfl rfl (by first | assumption | exact Is_ofInt _ _ | exact Is_lit (by decide +kernel)) (by first | assumption | exact Is_ofInt _ _ | exact Is_lit (by decide +kernel)) rfl ?_; clear st; intro _ _ _ _ st) | (refine o_feql st rfl rfl (by first | assumption | exact Is_ofInt _ _ | exact Is_lit (by decide +kernel)) (by first | assumption | exact Is_ofInt _ _ | exact Is_lit (by decide +kernel)) rfl ?_ ?_ <;> clear st <;> intro _ _ st <;> (try simp_all))))
    refine post1 st Tryz.results36 (rd_t st rfl) ?_
    exact ⟨by unfold finB; rw [hT], st.ex0⟩
  · intro hT _ st
    (repeat' (first | refine c_seq ?_ | refine c_region ?_ | refine l_do ?_ | refine l_nil ?_ | refine x_then ?_ | refine x_thenR ?_ | refine x_thenE ?_ | refine wp_ret ?_ | ((first | refine o_move st rfl rfl ?_ | refine o_assign st rfl rfl ?_); clear st; intro _ st) | (refine o_fop rfl st rfl rfl (by first | assumption | exact Is_ofInt _ _ | exact Is_lit (by decide +kernel)) (by first | assumption | exact Is_ofInt _ _ | exact Is_lit (by decide +kernel)) rfl ?_; clear st; intro _ _ _ _ st) | (refine o_feql st rfl rfl (by first | assumption | exact Is_ofInt _ _ | exact Is_lit (by decide +kernel)) (by first | assumption | exact Is_ofInt _ _ | exact Is_lit (by decide +kernel)) rfl ?_ ?_ <;> clear st <;> intro _ _ st <;> (try simp_all))))
    refine post1 st Tryz.results36 (rd_t st rfl) ?_
    exact ⟨by unfold finB; rw [hT], st.ex0⟩
theorem NaN_ok (w : World) : CV Tryz.prog 37 [] w (.float .f64 9221120237041090561) := by
  refine enter Tryz.func37 rfl rfl rfl rfl ?_
  intro y st
  (repeat' (first | (refine o_extV st rfl (ext_from _ _) rfl ?_; clear st; intro _ st) | refine c_seq ?_ | refine c_region ?_ | refine l_do ?_ | refine l_nil ?_ | refine x_then ?_ | refine x_thenR ?_ | refine x_thenE ?_ | refine wp_ret ?_ | (refine o_assign st rfl rfl ?_; clear st; intro _ st)))
  refine post1 st Tryz.results37 (rd_t st rfl) ?_
  exact ⟨rfl, st.ex0⟩
theorem nan_is : Is .f64 9221120237041090561 none := ⟨by decide, by decide +kernel⟩
theorem fits_none {s d : FloatKind} : fits s d none := fun _ h => by cases h
theorem AngleNone_ok (y x : Nat) (cy cx : Option Nat) (hy : Is .f32 y cy) (hx : Is .f32 x cx) (hf : (finB cx && finB cy) = false) (w : World) : CC32 16 [vF y, vF x] w none := by
  have k1 := fun w => IsFiniteC_ok x cx hx w
  have k2 := fun w => IsFiniteC_ok y cy hy w
  generalize finB cx = b1 at *
  generalize finB cy = b2 at *
  refine enter Tryz.func16 rfl rfl rfl rfl ?_
  intro z st
  cases b1
  · (repeat' (first | (refine o_callV st rfl (k1 _) rfl ?_; clear st; intro _ _ st) | (refine o_callV st rfl (NaN_ok _) rfl ?_; clear st; intro _ _ st) | (refine o_fcv (by decide) st rfl nan_is fits_none rfl ?_; clear st; intro q _ _ hq st) | refine c_seq ?_ | refine c_region ?_ | refine l_do ?_ | refine l_doG st rfl rfl ?_ | ((first | refine l_skipU st rfl rfl rfl ?_ | refine l_skip st rfl rfl rfl rfl ?_); clear st; intro _ st) | refine l_nil ?_ | refine x_then ?_ | refine x_thenR ?_ | refine x_thenE ?_ | refine x_blkN ?_ | refine x_blkR ?_ | refine x_blkE ?_ | refine x_blkO rfl ?_ | refine wp_ret ?_ | refine wp_skip ?_ | refine wp_block ?_ | refine wp_exit ?_ | refine c_condT st rfl ?_ | refine c_condF st rfl ?_ | ((first | refine o_move st rfl rfl ?_ | refine o_assign st rfl rfl ?_ | refine o_pickT st rfl rfl rfl ?_ | refine o_pickF st rfl rfl rfl ?_ | refine o_add64 st rfl rfl rfl (by omega) (by omega) ?_ | refine o_notT st rfl rfl ?_ | refine o_notF st rfl rfl ?_); clear st; intro _ st) | (refine o_fop rfl st rfl rfl (by first | assumption | exact Is_ofInt _ _ | exact Is_lit (by decide +kernel)) (by first | assumption | exact Is_ofInt _ _ | exact Is_lit (by decide +kernel)) rfl ?_; clear st; intro _ _ _ _ st) | ((first | refine o_fcv0 st rfl rfl ?_ | refine o_intFloat st rfl rfl ?_); clear st; intro _ st) | (refine o_lss st rfl rfl rfl ?_ ?_ <;> clear st <;> intro _ _ st <;> (try (exfalso; omega))) | ((first | refine o_flss st rfl rfl (by first | assumption | exact Is_ofInt _ _ | exact Is_lit (by decide +kernel)) (by first | assumption | exact Is_ofInt _ _ | exact Is_lit (by decide +kernel)) rfl ?_ ?_ | refine o_fgtr st rfl rfl (by first | assumption | exact Is_ofInt _ _ | exact Is_lit (by decide +kernel)) (by first | assumption | exact Is_ofInt _ _ | exact Is_lit (by decide +kernel)) rfl ?_ ?_ | refine o_fgeq st rfl rfl (by first | assumption | exact Is_ofInt _ _ | exact Is_lit (by decide +kernel)) (by first | assumption | exact Is_ofInt _ _ | exact Is_lit (by decide +kernel)) rfl ?_ ?_ | refine o_feql st rfl rfl (by first | assumption | exact Is_ofInt _ _ | exact Is_lit (by decide +kernel)) (by first | assumption | exact Is_ofInt _ _ | exact Is_lit (by decide +kernel)) rfl ?_ ?_) <;> clear st <;> intro _ _ st <;> (try simp_all))))
    refine post1 st Tryz.results16 (rd_t st rfl) ?_
    exact ⟨_, rfl, ⟨q, rfl, hq⟩, st.ex0⟩
  · obtain rfl : b2 = false := by simpa using hf
    (repeat' (first | (refine o_callV st rfl (k1 _) rfl ?_; clear st; intro _ _ st) | (refine o_callV st rfl (k2 _) rfl ?_; clear st; intro _ _ st) | (refine o_callV st rfl (NaN_ok _) rfl ?_; clear st; intro _ _ st) | (refine o_fcv (by decide) st rfl nan_is fits_none rfl ?_; clear st; intro q _ _ hq st) | refine c_seq ?_ | refine c_region ?_ | refine l_do ?_ | refine l_doG st rfl rfl ?_ | ((first | refine l_skipU st rfl rfl rfl ?_ | refine l_skip st rfl rfl rfl rfl ?_); clear st; intro _ st) | refine l_nil ?_ | refine x_then ?_ | refine x_thenR ?_ | refine x_thenE ?_ | refine x_blkN ?_ | refine x_blkR ?_ | refine x_blkE ?_ | refine x_blkO rfl ?_ | refine wp_ret ?_ | refine wp_skip ?_ | refine wp_block ?_ | refine wp_exit ?_ | refine c_condT st rfl ?_ | refine c_condF st rfl ?_ | ((first | refine o_move st rfl rfl ?_ | refine o_assign st rfl rfl ?_ | refine o_pickT st rfl rfl rfl ?_ | refine o_pickF st rfl rfl rfl ?_ | refine o_add64 st rfl rfl rfl (by omega) (by omega) ?_ | refine o_notT st rfl rfl ?_ | refine o_notF st rfl rfl ?_); clear st; intro _ st) | (refine o_fop rfl st rfl rfl (by first | assumption | exact Is_ofInt _ _ | exact Is_lit (by decide +kernel)) (by first | assumption | exact Is_ofInt _ _ | exact Is_lit (by decide +kernel)) rfl ?_; clear st; intro _ _ _ _ st) | ((first | refine o_fcv0 st rfl rfl ?_ | refine o_intFloat st rfl rfl ?_); clear st; intro _ st) | (refine o_lss st rfl rfl rfl ?_ ?_ <;> clear st <;> intro _ _ st <;> (try (exfalso; omega))) | ((first | refine o_flss st rfl rfl (by first | assumption | exact Is_ofInt _ _ | exact Is_lit (by decide +kernel)) (by first | assumption | exact Is_ofInt _ _ | exact Is_lit (by decide +kernel)) rfl ?_ ?_ | refine o_fgtr st rfl rfl (by first | assumption | exact Is_ofInt _ _ | exact Is_lit (by decide +kernel)) (by first | assumption | exact Is_ofInt _ _ | exact Is_lit (by decide +kernel)) rfl ?_ ?_ | refine o_fgeq st rfl rfl (by first | assumption | exact Is_ofInt _ _ | exact Is_lit (by decide +kernel)) (by first | assumption | exact Is_ofInt _ _ | exact Is_lit (by decide +kernel)) rfl ?_ ?_ | refine o_feql st rfl rfl (by first | assumption | exact Is_ofInt _ _ | exact Is_lit (by decide +kernel)) (by first | assumption | exact Is_ofInt _ _ | exact Is_lit (by decide +kernel)) rfl ?_ ?_) <;> clear st <;> intro _ _ st <;> (try simp_all))))
    refine post1 st Tryz.results16 (rd_t st rfl) ?_
    exact ⟨_, rfl, ⟨q, rfl, hq⟩, st.ex0⟩
theorem AngleZero_ok (y x : Nat) (hy : Is .f32 y (some y)) (hx : Is .f32 x (some x)) (fy : finB (some y) = true) (fx : finB (some x) = true) (zy : feqB .f32 (some y) (some 0) = true) (zx : feqB .f32 (some x) (some 0) = true) (w : World) : CC32 16 [vF y, vF x] w (some 0) := by
  have k1 := fun w => IsFiniteC_ok x _ hx w
  have k2 := fun w => IsFiniteC_ok y _ hy w
  rw [fx] at k1
  rw [fy] at k2
  refine enter Tryz.func16 rfl rfl rfl rfl ?_
  intro z st
  (repeat' (first | (refine o_callV st rfl (k1 _) rfl ?_; clear st; intro _ _ st) | (refine o_callV st rfl (k2 _) rfl ?_; clear st; intro _ _ st) | (refine o_feqlW st rfl rfl hx i32_0 zx rfl ?_; clear st; intro _ st) | (refine o_feqlW st rfl rfl hy i32_0 zy rfl ?_; clear st; intro _ st) | refine c_seq ?_ | refine c_region ?_ | refine l_do ?_ | refine l_doG st rfl rfl ?_ | ((first | refine l_skipU st rfl rfl rfl ?_ | refine l_skip st rfl rfl rfl rfl ?_); clear st; intro _ st) | refine l_nil ?_ | refine x_then ?_ | refine x_thenR ?_ | refine x_thenE ?_ | refine x_blkN ?_ | refine x_blkR ?_ | refine x_blkE ?_ | refine x_blkO rfl ?_ | refine wp_ret ?_ | refine wp_skip ?_ | refine wp_block ?_ | refine wp_exit ?_ | refine c_condT st rfl ?_ | refine c_condF st rfl ?_ | ((first | refine o_move st rfl rfl ?_ | refine o_assign st rfl rfl ?_ | refine o_pickT st rfl rfl rfl ?_ | refine o_pickF st rfl rfl rfl ?_ | refine o_add64 st rfl rfl rfl (by omega) (by omega) ?_ | refine o_notT st rfl rfl ?_ | refine o_notF st rfl rfl ?_); clear st; intro _ st) | (refine o_fop rfl st rfl rfl (by first | assumption | exact Is_ofInt _ _ | exact Is_lit (by decide +kernel)) (by first | assumption | exact Is_ofInt _ _ | exact Is_lit (by decide +kernel)) rfl ?_; clear st; intro _ _ _ _ st) | ((first | refine o_fcv0 st rfl rfl ?_ | refine o_intFloat st rfl rfl ?_); clear st; intro _ st) | (refine o_lss st rfl rfl rfl ?_ ?_ <;> clear st <;> intro _ _ st <;> (try (exfalso; omega))) | ((first | refine o_flss st rfl rfl (by first | assumption | exact Is_ofInt _ _ | exact Is_lit (by decide +kernel)) (by first | assumption | exact Is_ofInt _ _ | exact Is_lit (by decide +kernel)) rfl ?_ ?_ | refine o_fgtr st rfl rfl (by first | assumption | exact Is_ofInt _ _ | exact Is_lit (by decide +kernel)) (by first | assumption | exact Is_ofInt _ _ | exact Is_lit (by decide +kernel)) rfl ?_ ?_ | refine o_fgeq st rfl rfl (by first | assumption | exact Is_ofInt _ _ | exact Is_lit (by decide +kernel)) (by first | assumption | exact Is_ofInt _ _ | exact Is_lit (by decide +kernel)) rfl ?_ ?_ | refine o_feql st rfl rfl (by first | assumption | exact Is_ofInt _ _ | exact Is_lit (by decide +kernel)) (by first | assumption | exact Is_ofInt _ _ | exact Is_lit (by decide +kernel)) rfl ?_ ?_) <;> clear st <;> intro _ _ st <;> (try simp_all))))
  refine post1 st Tryz.results16 (rd_t st rfl) ?_
  exact ⟨_, rfl, ⟨0, rfl, i32_0⟩, st.ex0⟩
theorem AngleC_ok (y x : Nat) (hy : y < 2 ^ 32) (hx : x < 2 ^ 32) : ∃ c, ∀ w, CC32 16 [vF y, vF x] w c := by
  have iy : Is .f32 y (cl .f32 y) := ⟨hy, rfl⟩
  have ix : Is .f32 x (cl .f32 x) := ⟨hx, rfl⟩
  have e1 : cl .f32 2139095040 = some 2139095040 := by decide +kernel
  have e2 : cl .f32 4286578688 = some 4286578688 := by decide +kernel
  by_cases hf : (finB (cl .f32 x) && finB (cl .f32 y)) = false
  · exact ⟨none, fun w => AngleNone_ok y x _ _ iy ix hf w⟩
  have hf : finB (cl .f32 x) = true ∧ finB (cl .f32 y) = true := by
    rw [← Bool.and_eq_true]
    simpa using hf
  have fin : ∀ x, x < 2 ^ 32 → finB (cl .f32 x) = true → cl .f32 x = some x ∧ Fin .f32 (some x) := by
    intro x hx h
    rcases f32_cases hx with h1 | rfl | rfl | h1
    · rw [h1, finB_none] at h; cases h
    · rw [e1, finB_inf.1] at h; cases h
    · rw [e2, finB_inf.2] at h; cases h
    · exact h1
  obtain ⟨c1, f1⟩ := fin x hx hf.1
  obtain ⟨c2, f2⟩ := fin y hy hf.2
  rw [c1] at ix hf
  rw [c2] at iy hf
  have hfin : ∀ x, Is .f32 x (some x) → finB (some x) = true → fin32 x = some true := by
    intro x hi h
    unfold finB at h
    cases hz : fop .sub .f32 (some x) (some x) with
    | none => rw [hz] at h; cases h
    | some z =>
      rw [hz] at h
      unfold fin32
      rw [hz, bw_of, h]
  by_cases hz : feqB .f32 (some x) (some 0) = true ∧ feqB .f32 (some y) (some 0) = true
  · exact ⟨some 0, fun w => AngleZero_ok y x iy ix hf.2 hf.1 hz.2 hz.1 w⟩
  · have hz' : feqB .f32 (some x) (some 0) = false ∨ feqB .f32 (some x) (some 0) = true ∧ feqB .f32 (some y) (some 0) = false := by
      cases h1 : feqB .f32 (some x) (some 0)
      · exact .inl rfl
      · right
        refine ⟨rfl, ?_⟩
        cases h2 : feqB .f32 (some y) (some 0)
        · rfl
        · exact absurd ⟨h1, h2⟩ hz
    obtain ⟨r, hr, hrw⟩ := angle_some f2 f1 hz'
    refine ⟨cl .f32 r, fun w => ?_⟩
    refine (AngleTurns_ok y x r iy ix (hfin y iy hf.2) (hfin x ix hf.1) hz' hr w).mono ?_
    rintro e w' ⟨rfl, hx⟩
    exact ⟨_, rfl, ⟨r, rfl, hrw, rfl⟩, hx⟩
theorem AngleOfC_ok (x y : Nat) (c : Option Nat) (h : ∀ w, CC32 16 [vF y, vF x] w c) (w : World) : CC32 17 [.complex .f32 x y] w c := by
  refine enter Tryz.func17 rfl rfl rfl rfl ?_
  intro z st
  (repeat' (first | (refine o_callR st rfl (h _) rfl ?_; clear st; rintro _ ⟨r, rfl, hr⟩ _ _ st) | (refine o_real st rfl rfl ?_; clear st; intro _ st) | (refine o_imag st rfl rfl ?_; clear st; intro _ st) | refine c_seq ?_ | refine c_region ?_ | refine l_do ?_ | refine l_nil ?_ | refine x_then ?_ | refine x_thenR ?_ | refine x_thenE ?_ | refine wp_ret ?_ | ((first | refine o_move st rfl rfl ?_ | refine o_assign st rfl rfl ?_); clear st; intro _ st)))
  refine post1 st Tryz.results17 (rd_t st rfl) ?_
  exact ⟨_, rfl, ⟨r, rfl, hr⟩, st.ex0⟩
theorem Narrow_ok (x : Nat) (c : Option Nat) (h : Is .f64 x c) (hf : fits .f64 .f32 c) (w : World) : CC32 18 [.float .f64 x] w (fcv .f64 .f32 c) := by
  refine enter Tryz.func18 rfl rfl rfl rfl ?_
  intro z st
  (repeat' (first | (refine o_fcv (by decide) st rfl h hf rfl ?_; clear st; intro q _ _ hq st) | refine c_seq ?_ | refine c_region ?_ | refine l_do ?_ | refine l_nil ?_ | refine x_then ?_ | refine x_thenR ?_ | refine x_thenE ?_ | refine wp_ret ?_ | ((first | refine o_move st rfl rfl ?_ | refine o_assign st rfl rfl ?_ | refine o_fcv0 st rfl rfl ?_ | refine o_intFloat st rfl rfl ?_); clear st; intro _ st)))
  refine post1 st Tryz.results18 (rd_t st rfl) ?_
  exact ⟨_, rfl, ⟨q, rfl, hq⟩, st.ex0⟩
theorem Sine_ok (w : World) : CV Tryz.prog 19 [vF 1048576000] w (vF 1065353216) := by
  have k1 := fun w => IsFiniteC_ok 1048576000 (some 1048576000) (Is_lit (by decide +kernel)) w
  rw [show finB (some 1048576000) = true by decide +kernel] at k1
  have e1 : floatToFloatBits .f32 1048576000 .f64 = some 4598175219545276416 := by decide +kernel
  have k2 := fun w => Abs_ok 4598175219545276416 w
  rw [show absW 4598175219545276416 = 4598175219545276416 by rw [andN_abs]] at k2
  have e2 : sineW 4598175219545276416 = some 4607182418800017604 := by decide +kernel
  have k3 := fun w => sine_ok 4598175219545276416 _ e2 w
  have e3 : floatToFloatBits .f64 4607182418800017604 .f32 = some 1065353216 := by decide +kernel
  refine enter Tryz.func19 rfl rfl rfl rfl ?_
  intro z st
  (repeat' (first | (refine o_callV st rfl (k1 _) rfl ?_; clear st; intro _ _ st) | (refine o_callV st rfl (k2 _) rfl ?_; clear st; intro _ _ st) | (refine o_callV st rfl (k3 _) rfl ?_; clear st; intro _ _ st) | (refine o_fcvW st rfl e1 rfl ?_; clear st; intro _ st) | (refine o_fcvW st rfl e3 rfl ?_; clear st; intro _ st) | (refine o_fgeqW (r := false) st rfl rfl (Is_lit (by decide +kernel)) (Is_lit (by decide +kernel)) (by decide +kernel) rfl ?_; clear st; intro _ st) | refine c_seq ?_ | refine c_region ?_ | refine l_do ?_ | refine l_nil ?_ | refine x_then ?_ | refine x_thenR ?_ | refine x_thenE ?_ | refine wp_ret ?_ | refine wp_skip ?_ | refine c_condT st rfl ?_ | refine c_condF st rfl ?_ | ((first | refine o_move st rfl rfl ?_ | refine o_assign st rfl rfl ?_ | refine o_notT st rfl rfl ?_ | refine o_notF st rfl rfl ?_ | refine o_fcv0 st rfl rfl ?_ | refine o_intFloat st rfl rfl ?_); clear st; intro _ st) | (refine o_fgeq st rfl rfl (by first | assumption | exact Is_ofInt _ _ | exact Is_lit (by decide +kernel)) (by first | assumption | exact Is_ofInt _ _ | exact Is_lit (by decide +kernel)) rfl ?_ ?_ <;> clear st <;> intro _ _ st <;> (try simp_all))))
  refine post1 st Tryz.results19 (rd_t st rfl) ?_
  exact ⟨rfl, st.ex0⟩
theorem Sub_ok (x : Nat) (c : Option Nat) (h : Is .f32 x c) (w : World) : CV Tryz.prog 15 [vF x] w (.bool (subC c)) := by
  have hfw := fits_widen h
  have iq : Is .f64 4039728865751334912 (some 4039728865751334912) := Is_lit (by decide +kernel)
  refine enter Tryz.func15 rfl rfl rfl rfl ?_
  intro z st
  cases hz : feqB .f32 c (some 0)
  · (repeat' (first | (refine o_fneq st rfl rfl h i32_0 rfl (fun _ => ?_) (fun hT => by rw [hz] at hT; cases hT); clear st; intro _ st) | (refine o_fcv (by decide) st rfl h hfw rfl ?_; clear st; intro q _ _ hq st) | (refine o_callV st rfl (Abs_ok _ _) rfl ?_; clear st; intro _ _ st) | (refine o_flss st rfl rfl (abs_is (by assumption)) iq rfl ?_ ?_) | refine c_seq ?_ | refine c_region ?_ | refine l_do ?_ | refine l_doG st rfl rfl ?_ | ((first | refine l_skipU st rfl rfl rfl ?_ | refine l_skip st rfl rfl rfl rfl ?_); clear st; intro _ st) | refine l_nil ?_ | refine x_then ?_ | refine x_thenR ?_ | refine x_thenE ?_ | refine wp_ret ?_ | ((first | refine o_move st rfl rfl ?_ | refine o_assign st rfl rfl ?_ | refine o_pickT st rfl rfl rfl ?_ | refine o_pickF st rfl rfl rfl ?_ | refine o_fcv0 st rfl rfl ?_ | refine o_intFloat st rfl rfl ?_); clear st; intro _ st) | ((first | refine o_flss st rfl rfl (by first | assumption | exact Is_ofInt _ _ | exact Is_lit (by decide +kernel)) (by first | assumption | exact Is_ofInt _ _ | exact Is_lit (by decide +kernel)) rfl ?_ ?_ | refine o_fneq st rfl rfl (by first | assumption | exact Is_ofInt _ _ | exact Is_lit (by decide +kernel)) (by first | assumption | exact Is_ofInt _ _ | exact Is_lit (by decide +kernel)) rfl ?_ ?_) <;> clear st <;> intro _ _ st <;> (try simp_all))))
    · intro hT _ st
      (repeat' (first | refine c_seq ?_ | refine c_region ?_ | refine l_do ?_ | refine l_doG st rfl rfl ?_ | ((first | refine l_skipU st rfl rfl rfl ?_ | refine l_skip st rfl rfl rfl rfl ?_); clear st; intro _ st) | refine l_nil ?_ | refine x_then ?_ | refine x_thenR ?_ | refine x_thenE ?_ | refine wp_ret ?_ | ((first | refine o_move st rfl rfl ?_ | refine o_assign st rfl rfl ?_ | refine o_pickT st rfl rfl rfl ?_ | refine o_pickF st rfl rfl rfl ?_ | refine o_fcv0 st rfl rfl ?_ | refine o_intFloat st rfl rfl ?_); clear st; intro _ st) | ((first | refine o_flss st rfl rfl (by first | assumption | exact Is_ofInt _ _ | exact Is_lit (by decide +kernel)) (by first | assumption | exact Is_ofInt _ _ | exact Is_lit (by decide +kernel)) rfl ?_ ?_ | refine o_fneq st rfl rfl (by first | assumption | exact Is_ofInt _ _ | exact Is_lit (by decide +kernel)) (by first | assumption | exact Is_ofInt _ _ | exact Is_lit (by decide +kernel)) rfl ?_ ?_) <;> clear st <;> intro _ _ st <;> (try simp_all))))
      refine post1 st Tryz.results15 (rd_t st rfl) ?_
      exact ⟨by unfold subC; rw [hz, hT]; rfl, st.ex0⟩
    · intro hT _ st
      (repeat' (first | refine c_seq ?_ | refine c_region ?_ | refine l_do ?_ | refine l_doG st rfl rfl ?_ | ((first | refine l_skipU st rfl rfl rfl ?_ | refine l_skip st rfl rfl rfl rfl ?_); clear st; intro _ st) | refine l_nil ?_ | refine x_then ?_ | refine x_thenR ?_ | refine x_thenE ?_ | refine wp_ret ?_ | ((first | refine o_move st rfl rfl ?_ | refine o_assign st rfl rfl ?_ | refine o_pickT st rfl rfl rfl ?_ | refine o_pickF st rfl rfl rfl ?_ | refine o_fcv0 st rfl rfl ?_ | refine o_intFloat st rfl rfl ?_); clear st; intro _ st) | ((first | refine o_flss st rfl rfl (by first | assumption | exact Is_ofInt _ _ | exact Is_lit (by decide +kernel)) (by first | assumption | exact Is_ofInt _ _ | exact Is_lit (by decide +kernel)) rfl ?_ ?_ | refine o_fneq st rfl rfl (by first | assumption | exact Is_ofInt _ _ | exact Is_lit (by decide +kernel)) (by first | assumption | exact Is_ofInt _ _ | exact Is_lit (by decide +kernel)) rfl ?_ ?_) <;> clear st <;> intro _ _ st <;> (try simp_all))))
      refine post1 st Tryz.results15 (rd_t st rfl) ?_
      exact ⟨by unfold subC; rw [hz, hT]; rfl, st.ex0⟩
  · (repeat' (first | (refine o_fneq st rfl rfl h i32_0 rfl (fun hT => by rw [hz] at hT; cases hT) (fun _ => ?_); clear st; intro _ st) | refine c_seq ?_ | refine c_region ?_ | refine l_do ?_ | refine l_doG st rfl rfl ?_ | ((first | refine l_skipU st rfl rfl rfl ?_ | refine l_skip st rfl rfl rfl rfl ?_); clear st; intro _ st) | refine l_nil ?_ | refine x_then ?_ | refine x_thenR ?_ | refine x_thenE ?_ | refine wp_ret ?_ | ((first | refine o_move st rfl rfl ?_ | refine o_assign st rfl rfl ?_ | refine o_pickT st rfl rfl rfl ?_ | refine o_pickF st rfl rfl rfl ?_ | refine o_fcv0 st rfl rfl ?_ | refine o_intFloat st rfl rfl ?_); clear st; intro _ st) | ((first | refine o_flss st rfl rfl (by first | assumption | exact Is_ofInt _ _ | exact Is_lit (by decide +kernel)) (by first | assumption | exact Is_ofInt _ _ | exact Is_lit (by decide +kernel)) rfl ?_ ?_ | refine o_fneq st rfl rfl (by first | assumption | exact Is_ofInt _ _ | exact Is_lit (by decide +kernel)) (by first | assumption | exact Is_ofInt _ _ | exact Is_lit (by decide +kernel)) rfl ?_ ?_) <;> clear st <;> intro _ _ st <;> (try simp_all))))
    refine post1 st Tryz.results15 (rd_t st rfl) ?_
    exact ⟨by unfold subC; rw [hz]; rfl, st.ex0⟩
theorem orW_zero {r : Nat} : (orW (andN ((0 : Nat) : Int) 9223372036854775808) (andW (r : Int) 9223372036854775808)).toNat = 0 ∨ (orW (andN ((0 : Nat) : Int) 9223372036854775808) (andW (r : Int) 9223372036854775808)).toNat = 9223372036854775808 := by
  rcases andW_top r with h | h
  · left; rw [h]; decide
  · right; rw [h]; decide
theorem Copysign_ok (r : Nat) (w : World) : CR Tryz.prog 28 [.float .f64 0, .float .f64 r] w fun v => v = .float .f64 0 ∨ v = .float .f64 9223372036854775808 := by
  refine enter Tryz.func28 rfl rfl rfl rfl ?_
  intro z st
  (repeat' (first | (refine o_extV st rfl (ext_bits _ _) rfl ?_; clear st; intro _ st) | (refine o_extV st rfl (ext_from _ _) rfl ?_; clear st; intro _ st) | (refine o_andNot st rfl rfl rfl ?_; clear st; intro _ st) | (refine o_andU st rfl rfl rfl ?_; clear st; intro _ st) | (refine o_orU st rfl rfl rfl ?_; clear st; intro _ st) | refine c_seq ?_ | refine c_region ?_ | refine l_do ?_ | refine l_nil ?_ | refine x_then ?_ | refine x_thenR ?_ | refine x_thenE ?_ | refine wp_ret ?_ | ((first | refine o_move st rfl rfl ?_ | refine o_assign st rfl rfl ?_); clear st; intro _ st)))
  refine post1 st Tryz.results28 (rd_t st rfl) ?_
  refine ⟨_, rfl, ?_, st.ex0⟩
  rcases orW_zero (r := r) with h | h
  · left; exact congrArg (Value.float .f64) h
  · right; exact congrArg (Value.float .f64) h
theorem Flush_ok (x : Nat) (c : Option Nat) (h : Is .f32 x c) (w : World) : CR Tryz.prog 8 [vF x] w fun v => ∃ z, v = vF z ∧ (subC c = true → z = 0 ∨ z = 2147483648) ∧ (subC c = false → z = x) := by
  have hfw := fits_widen h
  have k1 := fun w => Sub_ok x c h w
  have e1 : floatToFloatBits .f64 0 .f32 = some 0 := by decide +kernel
  have e2 : floatToFloatBits .f64 9223372036854775808 .f32 = some 2147483648 := by decide +kernel
  generalize subC c = b at *
  refine enter Tryz.func8 rfl rfl rfl rfl ?_
  intro y st
  cases b
  · (repeat' (first | (refine o_callV st rfl (k1 _) rfl ?_; clear st; intro _ _ st) | refine c_seq ?_ | refine c_region ?_ | refine l_do ?_ | refine l_nil ?_ | refine x_then ?_ | refine x_thenR ?_ | refine x_thenE ?_ | refine wp_ret ?_ | refine wp_skip ?_ | refine c_condT st rfl ?_ | refine c_condF st rfl ?_ | ((first | refine o_move st rfl rfl ?_ | refine o_assign st rfl rfl ?_ | refine o_fcv0 st rfl rfl ?_ | refine o_intFloat st rfl rfl ?_); clear st; intro _ st)))
    refine post1 st Tryz.results8 (rd_t st rfl) ?_
    exact ⟨_, rfl, ⟨x, rfl, fun h => by (cases h), fun _ => rfl⟩, st.ex0⟩
  · (repeat' (first | (refine o_callV st rfl (k1 _) rfl ?_; clear st; intro _ _ st) | (refine o_fcv (by decide) st rfl h hfw rfl ?_; clear st; intro q _ _ hq st) | (refine o_callR st rfl (Copysign_ok _ _) rfl ?_; clear st; rintro _ (rfl | rfl) _ _ st) | (refine o_fcvW st rfl e1 rfl ?_; clear st; intro _ st) | (refine o_fcvW st rfl e2 rfl ?_; clear st; intro _ st) | refine c_seq ?_ | refine c_region ?_ | refine l_do ?_ | refine l_nil ?_ | refine x_then ?_ | refine x_thenR ?_ | refine x_thenE ?_ | refine wp_ret ?_ | refine wp_skip ?_ | refine c_condT st rfl ?_ | refine c_condF st rfl ?_ | ((first | refine o_move st rfl rfl ?_ | refine o_assign st rfl rfl ?_ | refine o_fcv0 st rfl rfl ?_ | refine o_intFloat st rfl rfl ?_); clear st; intro _ st)))
    · refine post1 st Tryz.results8 (rd_t st rfl) ?_
      exact ⟨_, rfl, ⟨0, rfl, fun _ => .inl rfl, fun h => by (cases h)⟩, st.ex0⟩
    · refine post1 st Tryz.results8 (rd_t st rfl) ?_
      exact ⟨_, rfl, ⟨2147483648, rfl, fun _ => .inr rfl, fun h => by (cases h)⟩, st.ex0⟩
theorem nan_self {x : Nat} (hx : x < 2 ^ 32) : nb x = if feqB .f32 (cl .f32 x) (cl .f32 x) then x else 2143289344 := by
  unfold nb
  cases hc : cl .f32 x with
  | none => rfl
  | some b =>
    obtain ⟨rfl, hn⟩ := cl_some hc
    have : feqB .f32 (some b) (some b) = true := by
      unfold feqB
      rw [feqB_self .f32 b b ⟨hx, hc⟩]
      rfl
    rw [this]
    rfl
theorem Bits_ok (x : Nat) (hx : x < 2 ^ 32) (w : World) : CV Tryz.prog 50 [vF x] w (.int .i64 (nb x : Int)) := by
  have ix : Is .f32 x (cl .f32 x) := ⟨hx, rfl⟩
  have e := nan_self hx
  have ew : IntKind.i64.wrap ((x : Nat) : Int) = (x : Int) := by rw [IntKind.wrap_i64]; omega
  refine enter Tryz.func50 rfl rfl rfl rfl ?_
  intro y st
  cases hf : feqB .f32 (cl .f32 x) (cl .f32 x)
  · (repeat' (first | (refine o_fneq st rfl rfl ix ix rfl (fun _ => ?_) (fun hT => by rw [hf] at hT; cases hT); clear st; intro _ st) | refine c_seq ?_ | refine c_region ?_ | refine l_do ?_ | refine l_nil ?_ | refine x_then ?_ | refine x_thenR ?_ | refine x_thenE ?_ | refine wp_ret ?_ | refine wp_skip ?_ | refine c_condT st rfl ?_ | refine c_condF st rfl ?_ | ((first | refine o_move st rfl rfl ?_ | refine o_assign st rfl rfl ?_ | refine o_fcv0 st rfl rfl ?_ | refine o_intFloat st rfl rfl ?_); clear st; intro _ st) | (refine o_fneq st rfl rfl (by first | assumption | exact Is_ofInt _ _ | exact Is_lit (by decide +kernel)) (by first | assumption | exact Is_ofInt _ _ | exact Is_lit (by decide +kernel)) rfl ?_ ?_ <;> clear st <;> intro _ _ st <;> (try simp_all))))
    refine post1 st Tryz.results50 (rd_t st rfl) ?_
    rw [hf] at e
    exact ⟨by rw [e]; rfl, st.ex0⟩
  · (repeat' (first | (refine o_fneq st rfl rfl ix ix rfl (fun hT => by rw [hf] at hT; cases hT) (fun _ => ?_); clear st; intro _ st) | (refine o_extV st rfl (ext_bits32 x _) rfl ?_; clear st; intro _ st) | (refine o_intInt st rfl ew rfl ?_; clear st; intro _ st) | refine c_seq ?_ | refine c_region ?_ | refine l_do ?_ | refine l_nil ?_ | refine x_then ?_ | refine x_thenR ?_ | refine x_thenE ?_ | refine wp_ret ?_ | refine wp_skip ?_ | refine c_condT st rfl ?_ | refine c_condF st rfl ?_ | ((first | refine o_move st rfl rfl ?_ | refine o_assign st rfl rfl ?_ | refine o_fcv0 st rfl rfl ?_ | refine o_intFloat st rfl rfl ?_); clear st; intro _ st) | (refine o_fneq st rfl rfl (by first | assumption | exact Is_ofInt _ _ | exact Is_lit (by decide +kernel)) (by first | assumption | exact Is_ofInt _ _ | exact Is_lit (by decide +kernel)) rfl ?_ ?_ <;> clear st <;> intro _ _ st <;> (try simp_all))))
    refine post1 st Tryz.results50 (rd_t st rfl) ?_
    rw [hf, if_pos rfl] at e
    exact ⟨by rw [e], st.ex0⟩
theorem BitsOf_ok (x : Nat) (hx : x < 2 ^ 32) (w : World) : CV Tryz.prog 7 [vF x] w (.int .i64 (nb x : Int)) := by
  have ix : Is .f32 x (cl .f32 x) := ⟨hx, rfl⟩
  have e := nan_self hx
  have ew : IntKind.i64.wrap ((x : Nat) : Int) = (x : Int) := by rw [IntKind.wrap_i64]; omega
  refine enter Tryz.func7 rfl rfl rfl rfl ?_
  intro y st
  cases hf : feqB .f32 (cl .f32 x) (cl .f32 x)
  · (repeat' (first | (refine o_fneq st rfl rfl ix ix rfl (fun _ => ?_) (fun hT => by rw [hf] at hT; cases hT); clear st; intro _ st) | refine c_seq ?_ | refine c_region ?_ | refine l_do ?_ | refine l_nil ?_ | refine x_then ?_ | refine x_thenR ?_ | refine x_thenE ?_ | refine wp_ret ?_ | refine wp_skip ?_ | refine c_condT st rfl ?_ | refine c_condF st rfl ?_ | ((first | refine o_move st rfl rfl ?_ | refine o_assign st rfl rfl ?_ | refine o_fcv0 st rfl rfl ?_ | refine o_intFloat st rfl rfl ?_); clear st; intro _ st) | (refine o_fneq st rfl rfl (by first | assumption | exact Is_ofInt _ _ | exact Is_lit (by decide +kernel)) (by first | assumption | exact Is_ofInt _ _ | exact Is_lit (by decide +kernel)) rfl ?_ ?_ <;> clear st <;> intro _ _ st <;> (try simp_all))))
    refine post1 st Tryz.results7 (rd_t st rfl) ?_
    rw [hf] at e
    exact ⟨by rw [e]; rfl, st.ex0⟩
  · (repeat' (first | (refine o_fneq st rfl rfl ix ix rfl (fun hT => by rw [hf] at hT; cases hT) (fun _ => ?_); clear st; intro _ st) | (refine o_extV st rfl (ext_bits32 x _) rfl ?_; clear st; intro _ st) | (refine o_intInt st rfl ew rfl ?_; clear st; intro _ st) | refine c_seq ?_ | refine c_region ?_ | refine l_do ?_ | refine l_nil ?_ | refine x_then ?_ | refine x_thenR ?_ | refine x_thenE ?_ | refine wp_ret ?_ | refine wp_skip ?_ | refine c_condT st rfl ?_ | refine c_condF st rfl ?_ | ((first | refine o_move st rfl rfl ?_ | refine o_assign st rfl rfl ?_ | refine o_fcv0 st rfl rfl ?_ | refine o_intFloat st rfl rfl ?_); clear st; intro _ st) | (refine o_fneq st rfl rfl (by first | assumption | exact Is_ofInt _ _ | exact Is_lit (by decide +kernel)) (by first | assumption | exact Is_ofInt _ _ | exact Is_lit (by decide +kernel)) rfl ?_ ?_ <;> clear st <;> intro _ _ st <;> (try simp_all))))
    refine post1 st Tryz.results7 (rd_t st rfl) ?_
    rw [hf, if_pos rfl] at e
    exact ⟨by rw [e], st.ex0⟩
theorem within_ok (n : Int) (h0 : 0 ≤ n) (h1 : n ≤ 4294967295) (w : World) : CV Tryz.prog 25 [.int .i64 n, .int .i64 0, .int .i64 4294967295] w (.bool true) := by
  refine enter Tryz.func25 rfl rfl rfl rfl ?_
  intro y st
  (repeat' (first | refine c_seq ?_ | refine c_region ?_ | refine l_do ?_ | refine l_doG st rfl rfl ?_ | ((first | refine l_skipU st rfl rfl rfl ?_ | refine l_skip st rfl rfl rfl rfl ?_); clear st; intro _ st) | refine l_nil ?_ | refine x_then ?_ | refine x_thenR ?_ | refine x_thenE ?_ | refine wp_ret ?_ | ((first | refine o_move st rfl rfl ?_ | refine o_assign st rfl rfl ?_ | refine o_pickT st rfl rfl rfl ?_ | refine o_pickF st rfl rfl rfl ?_); clear st; intro _ st) | ((first | refine o_leq st rfl rfl rfl ?_ ?_ | refine o_geq st rfl rfl rfl ?_ ?_) <;> clear st <;> intro _ _ st <;> (try (exfalso; omega)))))
  refine post1 st Tryz.results25 (rd_t st rfl) ?_
  exact ⟨rfl, st.ex0⟩
theorem FromBits_ok (n : Nat) (h1 : n < 2 ^ 32) (w : World) : CV Tryz.prog 6 [.int .i64 (n : Int)] w (.tuple #[vF n, .bool true]) := by
  have ew : IntKind.u32.wrap (n : Int) = n := wrap_u32 (by omega) (by omega)
  refine enter Tryz.func6 rfl rfl rfl rfl ?_
  intro y st
  (repeat' (first | (refine o_callV st rfl (within_ok _ (by omega) (by omega) _) rfl ?_; clear st; intro _ _ st) | (refine o_intInt st rfl ew rfl ?_; clear st; intro _ st) | (refine o_extV st rfl (ext_from32 _ _) rfl ?_; clear st; intro _ st) | refine c_seq ?_ | refine c_region ?_ | refine l_do ?_ | refine l_nil ?_ | refine x_then ?_ | refine x_thenR ?_ | refine x_thenE ?_ | refine wp_ret ?_ | refine wp_skip ?_ | refine c_condT st rfl ?_ | refine c_condF st rfl ?_ | ((first | refine o_move st rfl rfl ?_ | refine o_assign st rfl rfl ?_ | refine o_notT st rfl rfl ?_ | refine o_notF st rfl rfl ?_ | refine o_fcv0 st rfl rfl ?_ | refine o_intFloat st rfl rfl ?_); clear st; intro _ st)))
  refine post2 st Tryz.results6 (rd_t st rfl) (rd_t st rfl) ?_
  exact ⟨rfl, st.ex0⟩
theorem Same_ok (a b : Nat) (ha : a < 2 ^ 32) (hb : b < 2 ^ 32) (w : World) : CV Tryz.prog 14 [vF a, vF b] w (.bool (decide (nb a = nb b))) := by
  have c1 := fun w => Bits_ok a ha w
  have c2 := fun w => Bits_ok b hb w
  have c3 : ∀ w, CV Tryz.prog 34 [vF a, vF b] w (.bool (decide (nb a = nb b))) := by
    intro w
    refine enter Tryz.func34 rfl rfl rfl rfl ?_
    intro y st
    (repeat' (first | (refine o_callV st rfl (c1 _) rfl ?_; clear st; intro _ _ st) | (refine o_callV st rfl (c2 _) rfl ?_; clear st; intro _ _ st) | refine c_seq ?_ | refine c_region ?_ | refine l_do ?_ | refine l_nil ?_ | refine x_then ?_ | refine x_thenR ?_ | refine x_thenE ?_ | refine wp_ret ?_ | ((first | refine o_move st rfl rfl ?_ | refine o_assign st rfl rfl ?_); clear st; intro _ st) | (refine o_eqlI st rfl rfl rfl ?_ ?_ <;> clear st <;> intro _ _ st <;> (try (exfalso; omega)))))
    · refine post1 st Tryz.results34 (rd_t st rfl) ?_
      exact ⟨by rw [decide_eq_true (by omega)], st.ex0⟩
    · refine post1 st Tryz.results34 (rd_t st rfl) ?_
      exact ⟨by rw [decide_eq_false (by omega)], st.ex0⟩
  refine enter Tryz.func14 rfl rfl rfl rfl ?_
  intro y st
  (repeat' (first | (refine o_callV st rfl (c3 _) rfl ?_; clear st; intro _ _ st) | refine c_seq ?_ | refine c_region ?_ | refine l_do ?_ | refine l_nil ?_ | refine x_then ?_ | refine x_thenR ?_ | refine x_thenE ?_ | refine wp_ret ?_ | ((first | refine o_move st rfl rfl ?_ | refine o_assign st rfl rfl ?_); clear st; intro _ st)))
  refine post1 st Tryz.results14 (rd_t st rfl) ?_
  exact ⟨rfl, st.ex0⟩
end Go.Proofs.YtclgplbikjmopaaGreatDoor
