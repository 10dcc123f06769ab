/-
  FnCircles: products of complex numbers, powers (walks).
-/
import Derived.Test.YtlllekaiickkoaaCc
namespace Go.Proofs.Ytlllekaiickkoaa
open Go.RowKit
attribute [local irreducible] Code.wp wpList Oper.wp Calls bodyPost Exit.then Exit.inBlock

theorem parts_ok (i j a b : Nat) (ha : wid i = some a) (hb : wid j = some b) (w : World) : CV Try.prog 21 [.complex .f32 i j] w (.tuple #[.float .f64 a, .float .f64 b]) := by
  have ha : floatToFloatBits .f32 i .f64 = some a := ha
  have hb : floatToFloatBits .f32 j .f64 = some b := hb
  refine enter Try.func21 rfl rfl rfl rfl ?_
  intro x st
  (repeat' (first | (refine o_real st rfl rfl ?_; clear st; intro _ st) | (refine o_imag st rfl rfl ?_; clear st; intro _ st) | (refine o_fcvW st rfl ha rfl ?_; clear st; intro _ st) | (refine o_fcvW st rfl hb rfl ?_; clear st; intro _ st) | refine c_seq ?_ | refine c_region ?_ | refine l_do ?_ | refine l_nil ?_ | refine x_then ?_ | refine x_thenR ?_ | refine x_thenE ?_ | refine wp_ret ?_ | ((first | refine o_move st rfl rfl ?_ | refine o_assign st rfl rfl ?_ | refine o_fcv0 st rfl rfl ?_ | refine o_intFloat st rfl rfl ?_); clear st; intro _ st)))
  refine post2 st Try.results21 (rd_t st rfl) (rd_t st rfl) ?_
  exact ⟨rfl, st.ex0⟩
theorem times_ok (a b c d p q u r s v : Nat) (hp : fop .mul .f64 (some a) (some c) = some p) (hq : fop .mul .f64 (some b) (some d) = some q) (hu : fop .sub .f64 (some p) (some q) = some u) (hr : fop .mul .f64 (some a) (some d) = some r) (hs : fop .mul .f64 (some b) (some c) = some s) (hv : fop .add .f64 (some r) (some s) = some v) (w : World) :
    CV Try.prog 22 [.float .f64 a, .float .f64 b, .float .f64 c, .float .f64 d] w (.tuple #[.float .f64 u, .float .f64 v]) := by
  refine enter Try.func22 rfl rfl rfl rfl ?_
  intro x st
  (repeat' (first | (refine o_fopK st rfl rfl hp rfl ?_; clear st; intro _ st) | (refine o_fopK st rfl rfl hq rfl ?_; clear st; intro _ st) | (refine o_fopK st rfl rfl hu rfl ?_; clear st; intro _ st) | (refine o_fopK st rfl rfl hr rfl ?_; clear st; intro _ st) | (refine o_fopK st rfl rfl hs rfl ?_; clear st; intro _ st) | (refine o_fopK st rfl rfl hv rfl ?_; clear st; intro _ st) | refine c_seq ?_ | refine c_region ?_ | refine l_do ?_ | refine l_nil ?_ | refine x_then ?_ | refine x_thenR ?_ | refine x_thenE ?_ | refine wp_ret ?_ | ((first | refine o_move st rfl rfl ?_ | refine o_assign st rfl rfl ?_); clear st; intro _ st) | (refine o_fop rfl st rfl rfl (by first | assumption | exact Is_ofInt _ _ | exact Is_lit (by decide +kernel)) (by first | assumption | exact Is_ofInt _ _ | exact Is_lit (by decide +kernel)) rfl ?_; clear st; intro _ _ _ _ st)))
  refine post2 st Try.results22 (rd_t st rfl) (rd_t st rfl) ?_
  exact ⟨rfl, st.ex0⟩
theorem MulComplex_ok (x y r : Nat × Nat) (h : mulC x y = some r) (w : World) : CV Try.prog 11 [.complex .f32 x.1 x.2, .complex .f32 y.1 y.2] w (.complex .f32 r.1 r.2) := by
  unfold mulC at h
  obtain ⟨a, ha, h⟩ := bw_some h
  obtain ⟨b, hb, h⟩ := bw_some h
  obtain ⟨c, hc, h⟩ := bw_some h
  obtain ⟨d, hd, h⟩ := bw_some h
  obtain ⟨p, hp, h⟩ := bw_some h
  obtain ⟨q, hq, h⟩ := bw_some h
  obtain ⟨u, hu, h⟩ := bw_some h
  obtain ⟨r1, hr, h⟩ := bw_some h
  obtain ⟨s, hs, h⟩ := bw_some h
  obtain ⟨v, hv, h⟩ := bw_some h
  obtain ⟨u', hu', h⟩ := bw_some h
  obtain ⟨v', hv', h⟩ := bw_some h
  have hu' : floatToFloatBits .f64 u .f32 = some u' := hu'
  have hv' : floatToFloatBits .f64 v .f32 = some v' := hv'
  have h : (u', v') = r := Option.some.inj h
  subst h
  have c1 := fun w => parts_ok x.1 x.2 a b ha hb w
  have c2 := fun w => parts_ok y.1 y.2 c d hc hd w
  have c3 := fun w => times_ok a b c d p q u r1 s v (mulF_some hp) (mulF_some hq) (subF_some hu) (mulF_some hr) (mulF_some hs) (addF_some hv) w
  refine enter Try.func11 rfl rfl rfl rfl ?_
  intro z st
  (repeat' (first | (refine o_callV st rfl (c1 _) rfl ?_; clear st; intro _ _ st) | (refine o_callV st rfl (c2 _) rfl ?_; clear st; intro _ _ st) | (refine o_callV st rfl (c3 _) rfl ?_; clear st; intro _ _ st) | (refine o_fcvW st rfl hu' rfl ?_; clear st; intro _ st) | (refine o_fcvW st rfl hv' rfl ?_; clear st; intro _ st) | (refine o_complex st rfl rfl rfl ?_; clear st; intro _ st) | refine c_seq ?_ | refine c_region ?_ | refine l_do ?_ | refine l_nil ?_ | refine x_then ?_ | refine x_thenR ?_ | refine x_thenE ?_ | refine wp_ret ?_ | ((first | refine o_move st rfl rfl ?_ | refine o_assign st rfl rfl ?_ | refine o_extract st rfl rfl rfl ?_ | refine o_fcv0 st rfl rfl ?_ | refine o_intFloat st rfl rfl ?_); clear st; intro _ st)))
  refine post1 st Try.results11 (rd_t st rfl) ?_
  exact ⟨rfl, st.ex0⟩
/-- The power of a complex number. -/
def powerW (x : Nat × Nat) : Wd :=
  bw (wid x.1) fun a =>
  bw (wid x.2) fun b =>
  bw (mulW a a) fun p =>
  bw (mulW b b) fun q =>
  bw (addW p q) fun s =>
  nar s
theorem PowerOf_ok (x : Nat × Nat) (r : Nat) (h : powerW x = some r) (w : World) : CV Try.prog 9 [.complex .f32 x.1 x.2] w (.float .f32 r) := by
  unfold powerW at h
  obtain ⟨a, ha, h⟩ := bw_some h
  obtain ⟨b, hb, h⟩ := bw_some h
  obtain ⟨p, hp, h⟩ := bw_some h
  obtain ⟨q, hq, h⟩ := bw_some h
  obtain ⟨s, hs, hn⟩ := bw_some h
  have hn : floatToFloatBits .f64 s .f32 = some r := hn
  have hp := mulF_some hp
  have hq := mulF_some hq
  have hs := addF_some hs
  have c1 := fun w => parts_ok x.1 x.2 a b ha hb w
  have c2 : ∀ w, CV Try.prog 20 [.complex .f32 x.1 x.2] w (.float .f64 s) := fun w => by
    refine enter Try.func20 rfl rfl rfl rfl ?_
    intro z st
    (repeat' (first | (refine o_callV st rfl (c1 _) rfl ?_; clear st; intro _ _ st) | (refine o_fopK st rfl rfl hp rfl ?_; clear st; intro _ st) | (refine o_fopK st rfl rfl hq rfl ?_; clear st; intro _ st) | (refine o_fopK st rfl rfl hs rfl ?_; clear st; intro _ st) | refine c_seq ?_ | refine c_region ?_ | refine l_do ?_ | refine l_nil ?_ | refine x_then ?_ | refine x_thenR ?_ | refine x_thenE ?_ | refine wp_ret ?_ | ((first | refine o_move st rfl rfl ?_ | refine o_assign st rfl rfl ?_ | refine o_extract st rfl rfl rfl ?_); clear st; intro _ st) | (refine o_fop rfl st rfl rfl (by first | assumption | exact Is_ofInt _ _ | exact Is_lit (by decide +kernel)) (by first | assumption | exact Is_ofInt _ _ | exact Is_lit (by decide +kernel)) rfl ?_; clear st; intro _ _ _ _ st)))
    refine post1 st Try.results20 (rd_t st rfl) ?_
    exact ⟨rfl, st.ex0⟩
  refine enter Try.func9 rfl rfl rfl rfl ?_
  intro z st
  (repeat' (first | (refine o_callV st rfl (c2 _) rfl ?_; clear st; intro _ _ st) | (refine o_fcvW st rfl hn rfl ?_; clear st; intro _ st) | refine c_seq ?_ | refine c_region ?_ | refine l_do ?_ | refine l_nil ?_ | refine x_then ?_ | refine x_thenR ?_ | refine x_thenE ?_ | refine wp_ret ?_ | ((first | refine o_move st rfl rfl ?_ | refine o_assign st rfl rfl ?_ | refine o_fcv0 st rfl rfl ?_ | refine o_intFloat st rfl rfl ?_); clear st; intro _ st)))
  refine post1 st Try.results9 (rd_t st rfl) ?_
  exact ⟨rfl, st.ex0⟩
end Go.Proofs.Ytlllekaiickkoaa
