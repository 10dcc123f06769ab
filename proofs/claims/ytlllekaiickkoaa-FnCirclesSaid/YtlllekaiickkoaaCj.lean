/-
  FnCircles: phasors (walk).
-/
import Derived.Test.YtlllekaiickkoaaCi
namespace Go.Proofs.Ytlllekaiickkoaa
open Go.RowKit
attribute [local irreducible] Code.wp wpList Oper.wp Calls bodyPost Exit.then Exit.inBlock

set_option maxHeartbeats 8000000 in
theorem PhasorOf_ok (x : Nat) (r : Nat × Nat) (hf : finW x = some true) (hb : geW (absW x) 4841369599423283200 = false) (ha : Is .f64 (absW x) (some (absW x))) (h : phasorW x = some r) (w : World) : CV Try.prog 6 [.float .f64 x] w (.complex .f32 r.1 r.2) := by
  unfold phasorW at h
  obtain ⟨f, h0, h⟩ := bw_some h
  obtain ⟨gg, q, hq, h⟩ := bw2_some h
  obtain ⟨hh, h1, h⟩ := bw_some h
  obtain ⟨c, h2, h⟩ := bw_some h
  obtain ⟨s, h3, h⟩ := bw_some h
  obtain ⟨nc, h4, h⟩ := bw_some h
  obtain ⟨ns, h5, h⟩ := bw_some h
  obtain ⟨a', h6, h⟩ := bw_some h
  obtain ⟨b', h7, h⟩ := bw_some h
  have h : (a', b') = r := Option.some.inj h
  subst h
  have h1 := subF_some h1
  have h4 := subF_some h4
  have h5 := subF_some h5
  have k1 := fun w => isFinite64_ok x true hf w
  have k2 := fun w => Abs_ok x w
  have k3 := fun w => fraction_ok x f h0 w
  have k4 := fun w => sine_ok hh c h2 w
  have k5 := fun w => sine_ok gg s h3 w
  have i025 : Is .f64 w025 (some w025) := Is_lit (by decide +kernel)
  have if0 : Is .f64 f (some f) := by
    unfold fracW at h0
    obtain ⟨n, hn, h0⟩ := bi_some h0
    obtain ⟨f', hf', h0⟩ := bw_some h0
    cases hl : ltW f' 0
    · have : f' = f := by rw [hl] at h0; simpa using h0
      subst this
      exact fop_is (subF_some hf')
    · have : addW f' w1 = some f := by rw [hl] at h0; simpa using h0
      exact fop_is (addF_some this)
  refine enter Try.func6 rfl rfl rfl rfl ?_
  intro a st
  (repeat' (first | (refine o_callV st rfl (k1 _) rfl ?_; clear st; intro _ _ st) | (refine o_callV st rfl (k2 _) rfl ?_; clear st; intro _ _ st) | (refine o_callV st rfl (k3 _) rfl ?_; clear st; intro _ _ st) | (refine o_fgeqW st rfl rfl ha (Is_lit (by decide +kernel)) hb rfl ?_; clear st; intro _ st) | refine c_seq ?_ | refine c_region ?_ | refine l_do ?_ | refine l_nil ?_ | refine x_then ?_ | refine x_thenR ?_ | refine x_thenE ?_ | refine x_blkN ?_ | refine x_blkR ?_ | refine x_blkE ?_ | refine x_blkO rfl ?_ | refine wp_ret ?_ | refine wp_skip ?_ | refine wp_block ?_ | refine wp_exit ?_ | refine c_condT st rfl ?_ | refine c_condF st rfl ?_ | ((first | refine o_move st rfl rfl ?_ | refine o_assign st rfl rfl ?_ | refine o_add64 st rfl rfl rfl (by omega) (by omega) ?_ | refine o_notT st rfl rfl ?_ | refine o_notF st rfl rfl ?_); clear st; intro _ st) | (refine o_fop rfl st rfl rfl (by first | assumption | exact Is_ofInt _ _ | exact Is_lit (by decide +kernel)) (by first | assumption | exact Is_ofInt _ _ | exact Is_lit (by decide +kernel)) rfl ?_; clear st; intro _ _ _ _ st) | ((first | refine o_fcv0 st rfl rfl ?_ | refine o_intFloat st rfl rfl ?_); clear st; intro _ st) | (refine o_eqlI st rfl rfl rfl ?_ ?_ <;> clear st <;> intro _ _ st <;> (try (exfalso; omega))) | (refine o_fgeq st rfl rfl (by first | assumption | exact Is_ofInt _ _ | exact Is_lit (by decide +kernel)) (by first | assumption | exact Is_ofInt _ _ | exact Is_lit (by decide +kernel)) rfl ?_ ?_ <;> clear st <;> intro _ _ st <;> (try simp_all))))
  replace st := St.fit (E' := [(4, .float .f64 f), (5, .int .i64 ((0 : Nat) : Int))]) st (by repeat (first | exact trivial | refine And.intro rfl ?_))
  refine wp_loop_ghost (fun n a w' => ∃ (f' j : Nat), quarters n f' j = some (gg, q) ∧ j + n = 5 ∧ Is .f64 f' (some f') ∧ St w Try.f6.ntmps a w' [(4, .float .f64 f'), (5, .int .i64 (j : Int))] []) 5 ⟨f, 0, hq, rfl, if0, st.subL (by repeat (first | exact List.Sublist.refl _ | apply List.Sublist.cons_cons | apply List.Sublist.cons | exact List.nil_sublist _))⟩ ?_
  clear st
  rintro n a w' ⟨f', j, hs, hj, ik, st⟩
  cases n with
  | zero => cases hs
  | succ n =>
    rw [quarters] at hs
    cases hge : geW f' w025
    · rw [hge] at hs
      simp only [Bool.false_eq_true, if_false, Option.some.injEq, Prod.mk.injEq] at hs
      obtain ⟨rfl, rfl⟩ := hs
      have hcase : j = 0 ∨ j = 1 ∨ j = 2 ∨ j = 3 ∨ j = 4 := by omega
      rcases hcase with rfl | rfl | rfl | rfl | rfl
      all_goals
        have h6 : floatToFloatBits .f64 _ .f32 = some a' := h6
        have h7 : floatToFloatBits .f64 _ .f32 = some b' := h7
        (repeat' (first | (refine o_fgeqW st rfl rfl ik i025 hge rfl ?_; clear st; intro _ st) | (refine o_callV st rfl (k4 _) rfl ?_; clear st; intro _ _ st) | (refine o_callV st rfl (k5 _) rfl ?_; clear st; intro _ _ st) | (refine o_fopK st rfl rfl h1 rfl ?_; clear st; intro _ st) | (refine o_fopK st rfl rfl h4 rfl ?_; clear st; intro _ st) | (refine o_fopK st rfl rfl h5 rfl ?_; clear st; intro _ st) | (refine o_fcvW st rfl h6 rfl ?_; clear st; intro _ st) | (refine o_fcvW st rfl h7 rfl ?_; clear st; intro _ st) | (refine o_complex st rfl rfl rfl ?_; clear st; intro _ st) | refine c_seq ?_ | refine c_region ?_ | refine l_do ?_ | refine l_nil ?_ | refine x_then ?_ | refine x_thenR ?_ | refine x_thenE ?_ | refine x_blkN ?_ | refine x_blkR ?_ | refine x_blkE ?_ | refine x_blkO rfl ?_ | refine wp_ret ?_ | refine wp_skip ?_ | refine wp_block ?_ | refine wp_exit ?_ | refine c_condT st rfl ?_ | refine c_condF st rfl ?_ | ((first | refine o_move st rfl rfl ?_ | refine o_assign st rfl rfl ?_ | refine o_add64 st rfl rfl rfl (by omega) (by omega) ?_ | refine o_notT st rfl rfl ?_ | refine o_notF st rfl rfl ?_); clear st; intro _ st) | (refine o_fop rfl st rfl rfl (by first | assumption | exact Is_ofInt _ _ | exact Is_lit (by decide +kernel)) (by first | assumption | exact Is_ofInt _ _ | exact Is_lit (by decide +kernel)) rfl ?_; clear st; intro _ _ _ _ st) | ((first | refine o_fcv0 st rfl rfl ?_ | refine o_intFloat st rfl rfl ?_); clear st; intro _ st) | (refine o_eqlI st rfl rfl rfl ?_ ?_ <;> clear st <;> intro _ _ st <;> (try (exfalso; omega))) | (refine o_fgeq st rfl rfl (by first | assumption | exact Is_ofInt _ _ | exact Is_lit (by decide +kernel)) (by first | assumption | exact Is_ofInt _ _ | exact Is_lit (by decide +kernel)) rfl ?_ ?_ <;> clear st <;> intro _ _ st <;> (try simp_all))))
        refine post1 st Try.results6 (rd_t st rfl) ?_
        exact ⟨rfl, st.ex0⟩
    · rw [hge] at hs
      simp only [if_true] at hs
      obtain ⟨f2, hf2, hs⟩ := bw_some hs
      have hf2 := subF_some hf2
      (repeat' (first | (refine o_fgeqW st rfl rfl ik i025 hge rfl ?_; clear st; intro _ st) | (refine o_fopK st rfl rfl hf2 rfl ?_; clear st; intro _ st) | refine c_seq ?_ | refine c_region ?_ | refine l_do ?_ | refine l_nil ?_ | refine x_then ?_ | refine x_thenR ?_ | refine x_thenE ?_ | refine x_blkN ?_ | refine x_blkR ?_ | refine x_blkE ?_ | refine x_blkO rfl ?_ | refine wp_ret ?_ | refine wp_skip ?_ | refine wp_block ?_ | refine wp_exit ?_ | refine c_condT st rfl ?_ | refine c_condF st rfl ?_ | ((first | refine o_move st rfl rfl ?_ | refine o_assign st rfl rfl ?_ | refine o_add64 st rfl rfl rfl (by omega) (by omega) ?_ | refine o_notT st rfl rfl ?_ | refine o_notF st rfl rfl ?_); clear st; intro _ st) | (refine o_fop rfl st rfl rfl (by first | assumption | exact Is_ofInt _ _ | exact Is_lit (by decide +kernel)) (by first | assumption | exact Is_ofInt _ _ | exact Is_lit (by decide +kernel)) rfl ?_; clear st; intro _ _ _ _ st) | ((first | refine o_fcv0 st rfl rfl ?_ | refine o_intFloat st rfl rfl ?_); clear st; intro _ st) | (refine o_eqlI st rfl rfl rfl ?_ ?_ <;> clear st <;> intro _ _ st <;> (try (exfalso; omega))) | (refine o_fgeq st rfl rfl (by first | assumption | exact Is_ofInt _ _ | exact Is_lit (by decide +kernel)) (by first | assumption | exact Is_ofInt _ _ | exact Is_lit (by decide +kernel)) rfl ?_ ?_ <;> clear st <;> intro _ _ st <;> (try simp_all))))
      exact ⟨n, by omega, f2, j + 1, hs, by omega, fop_is hf2, (st.fit (by repeat (first | exact trivial | refine And.intro rfl ?_))).subL (by repeat (first | exact List.Sublist.refl _ | apply List.Sublist.cons_cons | apply List.Sublist.cons | exact List.nil_sublist _))⟩
end Go.Proofs.Ytlllekaiickkoaa
