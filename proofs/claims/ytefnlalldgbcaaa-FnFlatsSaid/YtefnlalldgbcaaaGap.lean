/-
  How far floats and spots are apart, at most.
-/
import Derived.Test.YtefnlalldgbcaaaAp
import Derived.Test.YtefnlalldgbcaaaJ
namespace Go.Proofs.Ytefnlalldgbcaaa
open Go.RowKit

theorem fin_word {k : FloatKind} {i : Nat} {c : Option Nat} (h : Is k i c) (hf : Fin k c) : c = some i := by
  cases c with
  | none => exact hf.elim
  | some b =>
    obtain ⟨rfl, _⟩ := cl_some h.2
    rfl
theorem is_of_fin {k : FloatKind} {b : Nat} (hf : Fin k (some b)) (hlt : b < 2 ^ k.format.width) : Is k b (some b) := by
  refine ⟨hlt, ?_⟩
  obtain ⟨s, m, p, hr⟩ := fin_read hf
  unfold cl
  have : k.decode b = .number s m p := hr
  rw [this]
  rfl
/-- A float32 of a bounded size, widened. -/
theorem widen_word {i : Nat} {c : Option Nat} (h : Is .f32 i c) (hf : Fin .f32 c) (hb : Ab (cv .f32 c) (p2 126)) : ∃ r, floatToFloatBits .f32 i .f64 = some r ∧ Is .f64 r (some r) ∧ Fin .f64 (some r) ∧ rv .f64 r = cv .f32 c := by
  have hc := fin_word h hf
  subst hc
  obtain ⟨h1, h2⟩ := widen_val hf hb
  have hex : ∃ r, fcv .f32 .f64 (some i) = some r := by
    cases hr : fcv .f32 .f64 (some i) with
    | none => rw [hr] at h1; exact h1.elim
    | some r => exact ⟨r, rfl⟩
  obtain ⟨r, hr⟩ := hex
  rw [hr] at h1 h2
  refine ⟨r, hr, is_of_fin h1 ?_, h1, h2⟩
  have hr : floatToFloatBits .f32 i .f64 = some r := hr
  unfold floatToFloatBits at hr
  rw [if_neg (by decide)] at hr
  split at hr
  · cases hr
  · cases hr; exact FloatKind.f64.format.write_lt _
  · split at hr
    · cases hr
    · cases hr; exact FloatKind.f64.format.write_lt _

section
variable {P : Program} {w0 w : World} {N : Nat} {a : Act} {E : List (Nat × Value)} {L Lh : List Ent} {K : Act → World → Prop} {Q : Exit → Act → World → Prop}
variable {d : Nat} {ty : TypeId} {pos : String} {aft : Array Edge} {g : Option (Nat × Bool)}

/-- Widening, at a known word. -/
theorem v_fcvK {x : Operand} {src dst : TypeId} {i r : Nat} [hs : FloatT P src .f32] [hk : FloatT P dst .f64] (st : St w0 N a w E L) (hx : evE E x = some (.float .f32 i)) (hr : floatToFloatBits .f32 i .f64 = some r) : Vl P a Lh (.convert src dst x) (.float .f64 r) := by
  intro d ty pos aft g w' _
  simp only [execOp, evE_eval st hx, Sem.run_bind, Sem.run_pure, Result.andThen_ok, run_convert_float_float w' src dst .f32 .f64 i r (by simp [hs.u]) hk.u hr]

/-- The greater one of two words. -/
structure Mx (k : FloatKind) (i j r : Nat) : Prop where
  one : r = i ∨ r = j
  li : rv k i ≤ rv k r
  lj : rv k j ≤ rv k r
theorem run_max2 {k : FloatKind} {i j : Nat} (hi : Fin k (some i)) (hj : Fin k (some j)) : ∃ r, (∀ w : World, (Builtin.max2 (.float k i) (.float k j)).run P w = .ok (.float k r) w) ∧ Mx k i j r := by
  have ho := ford_fin hi hj
  have h1 := rv_lt hi hj
  have h2 := rv_lt hj hi
  have ho' : k.format.order i j = some (compare (Go.Proofs.Ytefnlalldgbcaaa.val k.format i) (Go.Proofs.Ytefnlalldgbcaaa.val k.format j)) := ho
  rcases Int.lt_trichotomy (Go.Proofs.Ytefnlalldgbcaaa.val k.format i) (Go.Proofs.Ytefnlalldgbcaaa.val k.format j) with h | h | h
  · rw [Int.compare_eq_lt.2 h] at ho'
    exact ⟨j, fun w => by simp [Builtin.max2, ho'], .inr rfl, Rat.le_of_lt (h1.2 h), Rat.le_refl⟩
  · have e : compare (Go.Proofs.Ytefnlalldgbcaaa.val k.format i) (Go.Proofs.Ytefnlalldgbcaaa.val k.format j) = .eq := by rw [h]; simp
    rw [e] at ho'
    have l1 : rv k j ≤ rv k i := Rat.not_lt.1 fun hh => by have := h1.1 hh; omega
    have l2 : rv k i ≤ rv k j := Rat.not_lt.1 fun hh => by have := h2.1 hh; omega
    by_cases hn : (k.decode i).neg = true
    · exact ⟨j, fun w => by simp [Builtin.max2, ho', hn], .inr rfl, l2, Rat.le_refl⟩
    · exact ⟨i, fun w => by simp [Builtin.max2, ho', hn], .inl rfl, Rat.le_refl, l1⟩
  · rw [Int.compare_eq_gt.2 h] at ho'
    exact ⟨i, fun w => by simp [Builtin.max2, ho'], .inl rfl, Rat.le_refl, Rat.le_of_lt (h2.2 h)⟩
theorem o_maxF2 {x y : Operand} {k : FloatKind} {i j : Nat} {tys : Array TypeId} (st : St w0 N a w E L) (hx : evE E x = some (.float k i)) (hy : evE E y = some (.float k j)) (hi : Fin k (some i)) (hj : Fin k (some j)) (hd : Nat.blt d N = true)
    (h : ∀ r a', Mx k i j r → St w0 N a' w ((d, .float k r) :: E) L → K a' w) : Oper.wp P ⟨some d, .call { callee := .builtin .max, args := #[x, y], argTypes := tys }, ty, pos, aft, g⟩ a w K Q := by
  obtain ⟨r, hr, hm⟩ := run_max2 (P := P) hi hj
  refine o_val (v := .float k r) (w' := w) ?_ (h _ _ hm (st.put d hd _))
  simp [execOp, resolve, invoke, builtin, evE_eval st hx, evE_eval st hy, Builtin.max_, hr]
theorem o_maxF3 {x y z : Operand} {k : FloatKind} {i j l : Nat} {tys : Array TypeId} (st : St w0 N a w E L) (hx : evE E x = some (.float k i)) (hy : evE E y = some (.float k j)) (hz : evE E z = some (.float k l)) (hi : Fin k (some i)) (hj : Fin k (some j)) (hl : Fin k (some l)) (hd : Nat.blt d N = true)
    (h : ∀ r r' a', Mx k i j r → Mx k r l r' → St w0 N a' w ((d, .float k r') :: E) L → K a' w) : Oper.wp P ⟨some d, .call { callee := .builtin .max, args := #[x, y, z], argTypes := tys }, ty, pos, aft, g⟩ a w K Q := by
  obtain ⟨r, hr, hm⟩ := run_max2 (P := P) hi hj
  have hfr : Fin k (some r) := by rcases hm.one with e | e <;> rw [e] <;> assumption
  obtain ⟨r', hr', hm'⟩ := run_max2 (P := P) hfr hl
  refine o_val (v := .float k r') (w' := w) ?_ (h _ _ _ hm hm' (st.put d hd _))
  simp [execOp, resolve, invoke, builtin, evE_eval st hx, evE_eval st hy, evE_eval st hz, Builtin.max_, hr, hr']
end

attribute [local irreducible] Code.wp wpList Oper.wp Calls bodyPost Exit.then Exit.inBlock

/-- What is told of a gap: no more than twice the bound. -/
def GapR (B : Rat) (v : Value) : Prop := ∃ r : Nat, v = .float .f64 r ∧ Is .f64 r (some r) ∧ Fin .f64 (some r) ∧ rv .f64 r ≤ 2 * B
theorem sub_bound {x y : Nat} {B : Rat} (fx : Fin .f64 (some x)) (fy : Fin .f64 (some y)) (hB : Ab (rv .f64 x - rv .f64 y) B) (h0 : p2 (-126) ≤ B) (h1 : B < p2 127) {r : Nat} {c : Option Nat} (hr : Is .f64 r c) (hc : c = fop .sub .f64 (some x) (some y)) : c = some r ∧ Fin .f64 (some r) ∧ rv .f64 r ≤ 2 * B := by
  obtain ⟨q1, q2, q3⟩ := sub_near fx fy hB h0 h1
  rw [← hc] at q1 q2 q3
  have hw := fin_word hr q1
  rw [hw] at q1 q2 q3
  refine ⟨hw, q1, ?_⟩
  have hu : uk .f64 ≤ 1 := by
    have e : p2 0 = 1 := by decide +kernel
    have : p2 (-53) ≤ p2 0 := p2_mono (by decide)
    rw [e] at this
    exact this
  have hBn : 0 ≤ B := by have := p2_pos (-126); grind
  have hm := Rat.mul_le_mul_of_nonneg_left hu hBn
  rw [Rat.mul_one] at hm
  obtain ⟨b1, b2⟩ := hB
  have q2 : rv .f64 r ≤ rv .f64 x - rv .f64 y + B * uk .f64 := q2
  grind
theorem r8Gap_ok (x y : Nat) (hx : Is .f64 x (some x)) (hy : Is .f64 y (some y)) (fx : Fin .f64 (some x)) (fy : Fin .f64 (some y)) (B : Rat) (hB : Ab (rv .f64 x - rv .f64 y) B) (h0 : p2 (-126) ≤ B) (h1 : B < p2 127) (w : World) :
    CR Try.prog 98 [.float .f64 x, .float .f64 y] w (GapR B) := by
  refine enter Try.func98 rfl rfl rfl rfl ?_
  intro a st
  have hB2 : Ab (rv .f64 y - rv .f64 x) B := by obtain ⟨b1, b2⟩ := hB; exact ⟨by grind, by grind⟩
  (repeat' (first | (refine o_fop (ci := some x) (cj := some y) rfl st rfl rfl hx hy rfl ?_; clear st; intro r1 _ _ hr1 st)  | (refine o_fop (ci := some y) (cj := some x) rfl st rfl rfl hy hx rfl ?_; clear st; intro r2 _ _ hr2 st)  | (refine o_maxF2 st rfl rfl (sub_bound fx fy hB h0 h1 hr1 rfl).2.1 (sub_bound fy fx hB2 h0 h1 hr2 rfl).2.1 rfl ?_; clear st; intro r _ hm st)  | refine c_seq ?_  | refine c_region ?_  | refine l_do ?_  | refine l_nil ?_  | refine x_then ?_  | refine wp_ret ?_  | ((first | refine o_move st rfl rfl ?_  | refine o_assign st rfl rfl ?_); clear st; intro _ st)  | (refine o_fop rfl st rfl rfl (by first | assumption | exact Is_ofInt _ _ | exact Is_lit (by decide +kernel)) (by first | assumption | exact Is_ofInt _ _ | exact Is_lit (by decide +kernel)) rfl ?_; clear st; intro _ _ _ _ st)))
  refine post1 st Try.results98 (rd_t st rfl) ?_
  obtain ⟨a1, a2, a3⟩ := sub_bound fx fy hB h0 h1 hr1 rfl
  obtain ⟨b1, b2, b3⟩ := sub_bound fy fx hB2 h0 h1 hr2 rfl
  rw [a1] at hr1
  rw [b1] at hr2
  refine ⟨_, rfl, ⟨r, rfl, ?_⟩, st.ex0⟩
  rcases hm.one with e | e
  · rw [e]; exact ⟨hr1, a2, a3⟩
  · rw [e]; exact ⟨hr2, b2, b3⟩

/-- A spot of finite parts. -/
structure FinS (s : S3) (V : Rat) : Prop where
  x : Fin .f32 s.1
  y : Fin .f32 s.2.1
  z : Fin .f32 s.2.2
  bx : Ab (cv .f32 s.1) V
  by_ : Ab (cv .f32 s.2.1) V
  bz : Ab (cv .f32 s.2.2) V
/-- Two spots are near. -/
structure NearS (s t : S3) (B : Rat) : Prop where
  x : Ab (cv .f32 s.1 - cv .f32 t.1) B
  y : Ab (cv .f32 s.2.1 - cv .f32 t.2.1) B
  z : Ab (cv .f32 s.2.2 - cv .f32 t.2.2) B

set_option maxHeartbeats 16000000 in
theorem r8Apart_ok (b b' : B3) (s s' : S3) (h : IsS b s) (h' : IsS b' s') (f : FinS s (p2 126)) (f' : FinS s' (p2 126)) (B : Rat) (hB : NearS s s' B) (h0 : p2 (-126) ≤ B) (h1 : B < p2 127) (w : World) :
    CR Try.prog 60 [vS b, vS b'] w (GapR B) := by
  refine enter Try.func60 rfl rfl rfl rfl ?_
  intro a st
  obtain ⟨x1, ex1, ix1, fx1, vx1⟩ := widen_word h.x f.x f.bx
  obtain ⟨x2, ex2, ix2, fx2, vx2⟩ := widen_word h'.x f'.x f'.bx
  obtain ⟨y1, ey1, iy1, fy1, vy1⟩ := widen_word h.y f.y f.by_
  obtain ⟨y2, ey2, iy2, fy2, vy2⟩ := widen_word h'.y f'.y f'.by_
  obtain ⟨z1, ez1, iz1, fz1, vz1⟩ := widen_word h.z f.z f.bz
  obtain ⟨z2, ez2, iz2, fz2, vz2⟩ := widen_word h'.z f'.z f'.bz
  have gx := fun w => r8Gap_ok x1 x2 ix1 ix2 fx1 fx2 B (by rw [vx1, vx2]; exact hB.x) h0 h1 w
  have gy := fun w => r8Gap_ok y1 y2 iy1 iy2 fy1 fy2 B (by rw [vy1, vy2]; exact hB.y) h0 h1 w
  have gz := fun w => r8Gap_ok z1 z2 iz1 iz2 fz1 fz2 B (by rw [vz1, vz2]; exact hB.z) h0 h1 w
  (repeat' (first | refine c_seq ?_  | refine c_region ?_  | refine l_do ?_  | refine l_nil ?_  | refine x_then ?_  | refine wp_ret ?_  | (refine o_assign st rfl rfl ?_; clear st; intro _ st)  | ((first | refine o_boxA st rfl rfl ?_ ); clear st; intro _ _ _ st) ))
  refine c_drawA (last := 22) hm_ (by decide +kernel) (by decide +kernel) st ?_; clear st; intro _ st
  refine d_v 0 st (by repeat constructor) rfl (by decide +kernel) rfl (v_fieldAddr st rfl) ?_; clear st; intro _ st
  refine d_v 1 st (by repeat constructor) rfl (by decide +kernel) rfl (by first | exact v_load3 st rfl (by repeat constructor) | exact v_loadS st rfl (by repeat constructor) rfl) ?_; clear st; intro _ st
  refine d_v 2 st (by repeat constructor) rfl (by decide +kernel) rfl (v_fcvK st rfl ex1) ?_; clear st; intro _ st
  refine d_v 3 st (by repeat constructor) rfl (by decide +kernel) rfl (v_fieldAddr st rfl) ?_; clear st; intro _ st
  refine d_v 4 st (by repeat constructor) rfl (by decide +kernel) rfl (by first | exact v_load3 st rfl (by repeat constructor) | exact v_loadS st rfl (by repeat constructor) rfl) ?_; clear st; intro _ st
  refine d_v 5 st (by repeat constructor) rfl (by decide +kernel) rfl (v_fcvK st rfl ex2) ?_; clear st; intro _ st
  refine d_v 7 st (by repeat constructor) rfl (by decide +kernel) rfl (v_fieldAddr st rfl) ?_; clear st; intro _ st
  refine d_v 8 st (by repeat constructor) rfl (by decide +kernel) rfl (by first | exact v_load3 st rfl (by repeat constructor) | exact v_loadS st rfl (by repeat constructor) rfl) ?_; clear st; intro _ st
  refine d_v 9 st (by repeat constructor) rfl (by decide +kernel) rfl (v_fcvK st rfl ey1) ?_; clear st; intro _ st
  refine d_v 10 st (by repeat constructor) rfl (by decide +kernel) rfl (v_fieldAddr st rfl) ?_; clear st; intro _ st
  refine d_v 11 st (by repeat constructor) rfl (by decide +kernel) rfl (by first | exact v_load3 st rfl (by repeat constructor) | exact v_loadS st rfl (by repeat constructor) rfl) ?_; clear st; intro _ st
  refine d_v 12 st (by repeat constructor) rfl (by decide +kernel) rfl (v_fcvK st rfl ey2) ?_; clear st; intro _ st
  refine d_v 14 st (by repeat constructor) rfl (by decide +kernel) rfl (v_fieldAddr st rfl) ?_; clear st; intro _ st
  refine d_v 15 st (by repeat constructor) rfl (by decide +kernel) rfl (by first | exact v_load3 st rfl (by repeat constructor) | exact v_loadS st rfl (by repeat constructor) rfl) ?_; clear st; intro _ st
  refine d_v 16 st (by repeat constructor) rfl (by decide +kernel) rfl (v_fcvK st rfl ez1) ?_; clear st; intro _ st
  refine d_v 17 st (by repeat constructor) rfl (by decide +kernel) rfl (v_fieldAddr st rfl) ?_; clear st; intro _ st
  refine d_v 18 st (by repeat constructor) rfl (by decide +kernel) rfl (by first | exact v_load3 st rfl (by repeat constructor) | exact v_loadS st rfl (by repeat constructor) rfl) ?_; clear st; intro _ st
  refine d_v 19 st (by repeat constructor) rfl (by decide +kernel) rfl (v_fcvK st rfl ez2) ?_; clear st; intro _ st
  refine d_one 6 (by decide +kernel) rfl ?_
  refine o_callR st rfl (gx _) rfl ?_; clear st; rintro _ ⟨r1, rfl, i1, f1, u1⟩ _ _ st
  refine kh st (by repeat constructor) ?_
  refine d_one 13 (by decide +kernel) rfl ?_
  refine o_callR st rfl (gy _) rfl ?_; clear st; rintro _ ⟨r2, rfl, i2, f2, u2⟩ _ _ st
  refine kh st (by repeat constructor) ?_
  refine d_one 20 (by decide +kernel) rfl ?_
  refine o_callR st rfl (gz _) rfl ?_; clear st; rintro _ ⟨r3, rfl, i3, f3, u3⟩ _ _ st
  refine kh st (by repeat constructor) ?_
  refine d_one 21 (by decide +kernel) rfl ?_
  refine o_maxF3 st rfl rfl rfl f1 f2 f3 rfl ?_; clear st; intro r r' _ m1 m2 st
  refine kh st (by repeat constructor) ?_
  refine d_one 22 (by decide +kernel) rfl ?_
  (first | (refine o_assign st rfl rfl ?_; clear st; intro _ st))
  refine k_last ?_
  refine d_done (by decide +kernel) ?_
  (repeat' (first | refine c_seq ?_  | refine c_region ?_  | refine l_do ?_  | refine l_nil ?_  | refine x_then ?_  | refine wp_ret ?_  | (refine o_assign st rfl rfl ?_; clear st; intro _ st)  | ((first | refine o_boxA st rfl rfl ?_ ); clear st; intro _ _ _ st) ))
  refine post1 st Try.results60 (rd_t st rfl) ?_
  refine ⟨_, rfl, ⟨r', rfl, ?_⟩, st.ex0⟩
  rcases m2.one with e | e <;> rw [e]
  · rcases m1.one with e | e <;> rw [e]
    · exact ⟨i1, f1, u1⟩
    · exact ⟨i2, f2, u2⟩
  · exact ⟨i3, f3, u3⟩
end Go.Proofs.Ytefnlalldgbcaaa
