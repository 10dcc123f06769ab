/-
  FnCircles: gaps, nearness (walks).
-/
import Derived.Test.YtlllekaiickkoaaCd
namespace Go.Proofs.Ytlllekaiickkoaa
open Go.RowKit
attribute [local irreducible] Code.wp wpList Oper.wp Calls bodyPost Exit.then Exit.inBlock

theorem o_fleqW {P : Program} {w0 w : World} {N : Nat} {a : Act} {E : List (Nat × Value)} {L : List Ent} {K : Act → World → Prop} {Q : Exit → Act → World → Prop} {d : Nat} {ty : TypeId} {pos : String} {aft : Array Edge} {g : Option (Nat × Bool)}
    {x y : Operand} {t ys : TypeId} {k : FloatKind} {i j : Nat} {r : Bool} (st : St w0 N a w E L) (hx : evE E x = some (.float k i)) (hy : evE E y = some (.float k j)) (hi : Is k i (some i)) (hj : Is k j (some j)) (hr : fleB k (some i) (some j) = r) (hd : Nat.blt d N = true)
    (h : ∀ a', St w0 N a' w ((d, .bool r) :: E) L → K a' w) : Oper.wp P ⟨some d, .binOp .leq t x y ys, ty, pos, aft, g⟩ a w K Q := by
  cases r
  · exact o_fleq st hx hy hi hj hd (fun ht => by rw [hr] at ht; cases ht) fun _ => h
  · exact o_fleq st hx hy hi hj hd (fun _ => h) fun ht => by rw [hr] at ht; cases ht
def gapW (a b : Nat) : Wd := if ltW a b then subW b a else subW a b
theorem gap_is {a b r : Nat} (h : gapW a b = some r) : Is .f64 r (some r) := by
  unfold gapW at h
  cases hl : ltW a b <;> rw [hl] at h <;> simp only [Bool.false_eq_true, if_false, if_true] at h <;> exact fop_is (subF_some h)
theorem b10Gap_ok (a b r : Nat) (ia : Is .f64 a (some a)) (ib : Is .f64 b (some b)) (h : gapW a b = some r) (w : World) : CV Try.prog 8 [.float .f64 a, .float .f64 b] w (.float .f64 r) := by
  refine enter Try.func8 rfl rfl rfl rfl ?_
  intro z st
  unfold gapW at h
  cases hl : ltW a b
  all_goals
    rw [hl] at h
    simp only [Bool.false_eq_true, if_false, if_true] at h
    have h := subF_some h
    (repeat' (first | (refine o_flssW st rfl rfl ia ib hl rfl ?_; clear st; intro _ st) | (refine o_fopK st rfl rfl h rfl ?_; clear st; intro _ st) | refine c_seq ?_ | refine c_region ?_ | refine l_do ?_ | refine l_nil ?_ | refine x_then ?_ | refine x_thenR ?_ | refine x_thenE ?_ | refine wp_ret ?_ | refine wp_skip ?_ | refine c_condT st rfl ?_ | refine c_condF st rfl ?_ | ((first | refine o_move st rfl rfl ?_ | refine o_assign st rfl rfl ?_); clear st; intro _ st) | (refine o_fop rfl st rfl rfl (by first | assumption | exact Is_ofInt _ _ | exact Is_lit (by decide +kernel)) (by first | assumption | exact Is_ofInt _ _ | exact Is_lit (by decide +kernel)) rfl ?_; clear st; intro _ _ _ _ st) | (refine o_flss st rfl rfl (by first | assumption | exact Is_ofInt _ _ | exact Is_lit (by decide +kernel)) (by first | assumption | exact Is_ofInt _ _ | exact Is_lit (by decide +kernel)) rfl ?_ ?_ <;> clear st <;> intro _ _ st <;> (try simp_all))))
    refine post1 st Try.results8 (rd_t st rfl) ?_
    exact ⟨rfl, st.ex0⟩
theorem conv_is {s d : FloatKind} {x r : Nat} (hne : s ≠ d) (hx : Is s x (some x)) (hr : floatToFloatBits s x d = some r) : Is d r (some r) := by
  refine ⟨?_, floatToFloatBits_not_nan hr (cl_some hx.2).2⟩
  unfold floatToFloatBits at hr
  rw [if_neg hne] at hr
  split at hr
  · cases hr
  · cases hr; exact d.format.write_lt _
  · split at hr
    · cases hr
    · cases hr; exact d.format.write_lt _
theorem wid_is {x r : Nat} (hx : Is .f32 x (some x)) (h : wid x = some r) : Is .f64 r (some r) := conv_is (by decide) hx h
theorem nar_is {x r : Nat} (hx : Is .f64 x (some x)) (h : nar x = some r) : Is .f32 r (some r) := conv_is (by decide) hx h
/-- Both parts are near. -/
def nearW (x y : Nat × Nat) (most : Nat) : Option Bool :=
  bw (wid x.1) fun a =>
  bw (wid y.1) fun b =>
  bw (gapW a b) fun p =>
  bw (wid x.2) fun c =>
  bw (wid y.2) fun d =>
  bw (gapW c d) fun q =>
  some (fleB .f64 (some p) (some most) && fleB .f64 (some q) (some most))
theorem b10Near_ok (x y : Nat × Nat) (most : Nat) (i1 : Is .f32 x.1 (some x.1)) (i2 : Is .f32 x.2 (some x.2)) (j1 : Is .f32 y.1 (some y.1)) (j2 : Is .f32 y.2 (some y.2)) (im : Is .f64 most (some most)) (h : nearW x y most = some true) (w : World) : CV Try.prog 10 [.complex .f32 x.1 x.2, .complex .f32 y.1 y.2, .float .f64 most] w (.bool true) := by
  unfold nearW at h
  obtain ⟨a, ha, h⟩ := bw_some h
  obtain ⟨b, hb, h⟩ := bw_some h
  obtain ⟨p, hp, h⟩ := bw_some h
  obtain ⟨c, hc, h⟩ := bw_some h
  obtain ⟨d, hd, h⟩ := bw_some h
  obtain ⟨q, hq, hl⟩ := bw_some h
  have hl : (fleB .f64 (some p) (some most) && fleB .f64 (some q) (some most)) = true := Option.some.inj hl
  rw [Bool.and_eq_true] at hl
  obtain ⟨l1, l2⟩ := hl
  have ka := wid_is i1 ha
  have kb := wid_is j1 hb
  have kc := wid_is i2 hc
  have kd := wid_is j2 hd
  have ha : floatToFloatBits .f32 x.1 .f64 = some a := ha
  have hb : floatToFloatBits .f32 y.1 .f64 = some b := hb
  have hc : floatToFloatBits .f32 x.2 .f64 = some c := hc
  have hd : floatToFloatBits .f32 y.2 .f64 = some d := hd
  have g1 := fun w => b10Gap_ok a b p ka kb hp w
  have g2 := fun w => b10Gap_ok c d q kc kd hq w
  refine enter Try.func10 rfl rfl rfl rfl ?_
  intro z st
  (repeat' (first | (refine o_real st rfl rfl ?_; clear st; intro _ st) | (refine o_imag st rfl rfl ?_; clear st; intro _ st) | (refine o_fcvW st rfl ha rfl ?_; clear st; intro _ st) | (refine o_fcvW st rfl hb rfl ?_; clear st; intro _ st) | (refine o_fcvW st rfl hc rfl ?_; clear st; intro _ st) | (refine o_fcvW st rfl hd rfl ?_; clear st; intro _ st) | (refine o_callV st rfl (g1 _) rfl ?_; clear st; intro _ _ st) | (refine o_callV st rfl (g2 _) rfl ?_; clear st; intro _ _ st) | (refine o_fleqW st rfl rfl (gap_is hp) im l1 rfl ?_; clear st; intro _ st) | (refine o_fleqW st rfl rfl (gap_is hq) im l2 rfl ?_; clear st; intro _ st) | refine c_seq ?_ | refine c_region ?_ | refine l_do ?_ | refine l_doG st rfl rfl ?_ | ((first | refine l_skipU st rfl rfl rfl ?_ | refine l_skip st rfl rfl rfl rfl ?_); clear st; intro _ st) | refine l_nil ?_ | refine x_then ?_ | refine x_thenR ?_ | refine x_thenE ?_ | refine wp_ret ?_ | ((first | refine o_move st rfl rfl ?_ | refine o_assign st rfl rfl ?_ | refine o_pickT st rfl rfl rfl ?_ | refine o_pickF st rfl rfl rfl ?_ | refine o_fcv0 st rfl rfl ?_ | refine o_intFloat st rfl rfl ?_); clear st; intro _ st) | (refine o_fleq st rfl rfl (by first | assumption | exact Is_ofInt _ _ | exact Is_lit (by decide +kernel)) (by first | assumption | exact Is_ofInt _ _ | exact Is_lit (by decide +kernel)) rfl ?_ ?_ <;> clear st <;> intro _ _ st <;> (try simp_all))))
  refine post1 st Try.results10 (rd_t st rfl) ?_
  exact ⟨rfl, st.ex0⟩
end Go.Proofs.Ytlllekaiickkoaa
