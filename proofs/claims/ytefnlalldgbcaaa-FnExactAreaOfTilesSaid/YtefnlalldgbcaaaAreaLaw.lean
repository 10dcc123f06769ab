/-
  The statement FnExactAreaOfTiles: for every list of spots (no more than the law asks) and every two numbers the program's AreaOfTiles and the reference's give the same number (up to a NaN's bits) and leave the list as it was, so the law returns true.
  Conditions: none.
-/
import Derived.Test.YtefnlalldgbcaaaRows
import Derived.Test.YtefnlalldgbcaaaArg3
import Derived.Test.YtefnlalldgbcaaaAreaI
import Derived.Test.YtefnlalldgbcaaaU
import Derived.Test.YtefnlalldgbcaaaClosed
namespace Go.Proofs.Ytefnlalldgbcaaa
open Go.ChangeShapes Go.WideShapes Go.ChangeAt Go.RowKit

section
attribute [local irreducible] Code.wp wpList Oper.wp Calls bodyPost Exit.then Exit.inBlock

set_option maxHeartbeats 16000000 in
theorem area_walk (bs : List B3) (ba : Option Addr) (cap : Nat) (i : Int) (_ : -9223372036854775808 ≤ i) (_ : i ≤ 9223372036854775807) (j : Int) (_ : -9223372036854775808 ≤ j) (_ : j ≤ 9223372036854775807) (w : World) (hr : RdS w ba bs) (hok : ∀ b ∈ bs, ok32 b) (hl : bs.length ≤ 9223372036854775807) :
    Calls Try.prog 26 [Value.slice ba bs.length cap, Value.int .i64 i, Value.int .i64 j].toArray w fun e w' => e = .returned (.bool true) ∧ Below w.heap.size w w' := by
  have hI := IsSL_of hok
  generalize bs.map clS = ss at hI
  have hz := fun w => szSpotS_ok bs.length cap ba 1048576 w (by omega) (by omega) hl
  refine enter Try.func26 rfl rfl rfl rfl ?_
  intro a st
  by_cases hbig : (1048576 : Int) - bs.length < 0
  · rw [if_pos hbig] at hz
    (repeat' (first | (refine o_callV st rfl (hz _) rfl ?_; clear st; intro _ _ st) | (refine c_seq ?_) | (refine c_region ?_) | (refine l_do ?_) | (refine l_doG st rfl rfl ?_) | (refine l_skipU st rfl rfl rfl ?_; clear st; intro _ st) | (refine l_skip st rfl rfl rfl rfl ?_; clear st; intro _ st) | (refine l_nil ?_) | (refine x_then ?_) | (refine x_thenR ?_) | (refine x_thenE ?_) | (refine wp_ret ?_) | (refine wp_skip ?_) | (refine c_condT st rfl ?_) | (refine c_condF st rfl ?_) | (refine o_move st rfl rfl ?_; clear st; intro _ st) | (refine o_assign st rfl rfl ?_; clear st; intro _ st) | (refine o_pickT st rfl rfl rfl ?_; clear st; intro _ st) | (refine o_pickF st rfl rfl rfl ?_; clear st; intro _ st) | (refine o_extract st rfl rfl rfl ?_; clear st; intro _ st) | (refine o_neqB st rfl rfl rfl rfl ?_; clear st; intro _ st) | (refine o_notT st rfl rfl ?_; clear st; intro _ st) | (refine o_notF st rfl rfl ?_; clear st; intro _ st) | (refine o_fcv0 st rfl rfl ?_; clear st; intro _ st) | (refine o_intFloat st rfl rfl ?_; clear st; intro _ st) | (refine o_lss st rfl rfl rfl ?_ ?_ <;> clear st <;> intro _ _ st <;> (try (exfalso; omega)))))
    refine post1 st Try.results26 (rd_t st rfl) ?_
    exact ⟨rfl, st.below⟩
  rw [if_neg hbig] at hz
  have hlen : bs.length < 1000000000 := by omega
  have hbl := hI.len
  have c1 := fun (w : World) base hr => specArea_ok bs ss hI base bs.length i j w hr hlen
  have c2 := fun (w : World) base hr => implArea_ok bs ss hI base bs.length i j w hr hlen
  generalize areaC ss i j = r at c1 c2
  generalize areaOk ss i j = q at c1 c2
  cases q
  · skip
    (repeat' (first | (refine o_callV st rfl (hz _) rfl ?_; clear st; intro _ _ st) | (refine o_callToSpots st rfl hr hlen rfl ?_; clear st; intro _ _ _ st) | (refine o_callFlB st rfl (c1 _ _ (RdS.of (st.heap (by repeat (first | exact At.here | apply At.there))) (spotsIn0p _ _))) rfl ?_; clear st; intro _ _ _ _ st) | (refine o_callFlB st rfl (c2 _ _ (RdS.of (st.heap (by repeat (first | exact At.here | apply At.there))) (spotsIn0p _ _))) rfl ?_; clear st; intro _ _ _ _ st) | (refine o_fcv (by decide) st rfl (by first | assumption | exact Is_ofInt _ _ | exact Is_lit (by decide +kernel)) (fits_widen (by first | assumption | exact Is_ofInt _ _ | exact Is_lit (by decide +kernel))) rfl ?_; clear st; intro _ _ _ _ st) | (refine o_callV st rfl (sameFloat_ok _ _ _ (by assumption) (by assumption) _) rfl ?_; clear st; intro _ _ st) | (refine o_callV st rfl (eqSheet_ok _ _ _ _ _ (by assumption) (by assumption) _ _ _ _ _ (RdS.of (st.heap (by repeat (first | exact At.here | apply At.there))) (spotsIn0p _ _)) (RdS.of (st.heap (by repeat (first | exact At.here | apply At.there))) (spotsIn0p _ _)) (by omega)) rfl ?_; clear st; intro _ _ st) | (refine o_callV st rfl (eqSpotS_ok _ _ _ (by assumption) (by assumption) _ _ _ _ _ (RdS.of (st.heap (by repeat (first | exact At.here | apply At.there))) (spotsIn0p _ _)) (RdS.of (st.heap (by repeat (first | exact At.here | apply At.there))) (spotsIn0p _ _)) (by omega)) rfl ?_; clear st; intro _ _ st) | (refine c_seq ?_) | (refine c_region ?_) | (refine l_do ?_) | (refine l_doG st rfl rfl ?_) | (refine l_skipU st rfl rfl rfl ?_; clear st; intro _ st) | (refine l_skip st rfl rfl rfl rfl ?_; clear st; intro _ st) | (refine l_nil ?_) | (refine x_then ?_) | (refine x_thenR ?_) | (refine x_thenE ?_) | (refine wp_ret ?_) | (refine wp_skip ?_) | (refine c_condT st rfl ?_) | (refine c_condF st rfl ?_) | (refine o_move st rfl rfl ?_; clear st; intro _ st) | (refine o_assign st rfl rfl ?_; clear st; intro _ st) | (refine o_pickT st rfl rfl rfl ?_; clear st; intro _ st) | (refine o_pickF st rfl rfl rfl ?_; clear st; intro _ st) | (refine o_extract st rfl rfl rfl ?_; clear st; intro _ st) | (refine o_neqB st rfl rfl rfl rfl ?_; clear st; intro _ st) | (refine o_notT st rfl rfl ?_; clear st; intro _ st) | (refine o_notF st rfl rfl ?_; clear st; intro _ st) | (refine o_fcv0 st rfl rfl ?_; clear st; intro _ st) | (refine o_intFloat st rfl rfl ?_; clear st; intro _ st) | (refine o_lss st rfl rfl rfl ?_ ?_ <;> clear st <;> intro _ _ st <;> (try (exfalso; omega)))))
    refine post1 st Try.results26 (rd_t st rfl) ?_
    exact ⟨rfl, st.below⟩
  · skip
    (repeat' (first | (refine o_callV st rfl (hz _) rfl ?_; clear st; intro _ _ st) | (refine o_callToSpots st rfl hr hlen rfl ?_; clear st; intro _ _ _ st) | (refine o_callFlB st rfl (c1 _ _ (RdS.of (st.heap (by repeat (first | exact At.here | apply At.there))) (spotsIn0p _ _))) rfl ?_; clear st; intro _ _ _ _ st) | (refine o_callFlB st rfl (c2 _ _ (RdS.of (st.heap (by repeat (first | exact At.here | apply At.there))) (spotsIn0p _ _))) rfl ?_; clear st; intro _ _ _ _ st) | (refine o_fcv (by decide) st rfl (by first | assumption | exact Is_ofInt _ _ | exact Is_lit (by decide +kernel)) (fits_widen (by first | assumption | exact Is_ofInt _ _ | exact Is_lit (by decide +kernel))) rfl ?_; clear st; intro _ _ _ _ st) | (refine o_callV st rfl (sameFloat_ok _ _ _ (by assumption) (by assumption) _) rfl ?_; clear st; intro _ _ st) | (refine o_callV st rfl (eqSheet_ok _ _ _ _ _ (by assumption) (by assumption) _ _ _ _ _ (RdS.of (st.heap (by repeat (first | exact At.here | apply At.there))) (spotsIn0p _ _)) (RdS.of (st.heap (by repeat (first | exact At.here | apply At.there))) (spotsIn0p _ _)) (by omega)) rfl ?_; clear st; intro _ _ st) | (refine o_callV st rfl (eqSpotS_ok _ _ _ (by assumption) (by assumption) _ _ _ _ _ (RdS.of (st.heap (by repeat (first | exact At.here | apply At.there))) (spotsIn0p _ _)) (RdS.of (st.heap (by repeat (first | exact At.here | apply At.there))) (spotsIn0p _ _)) (by omega)) rfl ?_; clear st; intro _ _ st) | (refine c_seq ?_) | (refine c_region ?_) | (refine l_do ?_) | (refine l_doG st rfl rfl ?_) | (refine l_skipU st rfl rfl rfl ?_; clear st; intro _ st) | (refine l_skip st rfl rfl rfl rfl ?_; clear st; intro _ st) | (refine l_nil ?_) | (refine x_then ?_) | (refine x_thenR ?_) | (refine x_thenE ?_) | (refine wp_ret ?_) | (refine wp_skip ?_) | (refine c_condT st rfl ?_) | (refine c_condF st rfl ?_) | (refine o_move st rfl rfl ?_; clear st; intro _ st) | (refine o_assign st rfl rfl ?_; clear st; intro _ st) | (refine o_pickT st rfl rfl rfl ?_; clear st; intro _ st) | (refine o_pickF st rfl rfl rfl ?_; clear st; intro _ st) | (refine o_extract st rfl rfl rfl ?_; clear st; intro _ st) | (refine o_neqB st rfl rfl rfl rfl ?_; clear st; intro _ st) | (refine o_notT st rfl rfl ?_; clear st; intro _ st) | (refine o_notF st rfl rfl ?_; clear st; intro _ st) | (refine o_fcv0 st rfl rfl ?_; clear st; intro _ st) | (refine o_intFloat st rfl rfl ?_; clear st; intro _ st) | (refine o_lss st rfl rfl rfl ?_ ?_ <;> clear st <;> intro _ _ st <;> (try (exfalso; omega)))))
    refine post1 st Try.results26 (rd_t st rfl) ?_
    exact ⟨rfl, st.below⟩
end

set_option maxRecDepth 100000 in
theorem FnExactAreaOfTiles_lifted (os : Os) (started : os.Started) (H : Type) (enc : TypeId × Value → H) :
    ReturnsInHanded {} Try.checked os 26 .any (Rows.fnExactAreaOfTilesSpec.pre6 enc Try.prog Try.f26 Rows.fnExactAreaOfTilesRow.domain false) (Rows.fnExactAreaOfTilesSpec.post enc Try.prog Try.f26 false true false false) := by
  refine returnsInHanded_of_change (C := Try.checked) own_ started (by kernel_rfl) Try.func26
    (ChangeSpec.witness6 (enc := enc) (C := Try.checked) false ⟨#[], #[.slice none 0 0, .int .i64 0, .int .i64 0], []⟩ 8 (by kernel_rfl) (by kernel_rfl) (by kernel_rfl) (by kernel_rfl)) ?_
  intro W base args ds gs before hval0 hW hcnd _
  have hval : ∀ (j : Nat) t v, Try.f26.params[j]? = some t → args[j]? = some v → Value.okWide Try.prog W .any base t v := hval0
  have hW' := hW
  obtain ⟨p, q, hA0, hV, rfl, hfz, hnd⟩ := hW
  have hA : DataW.TrodAll enc Try.prog W 0 (fun _ => true) true Try.f26.params.toList args.toList ds p := hA0
  rw [Try.params26] at hA hval
  obtain ⟨v0, vs0, d0, ds0, p0, q0, hargs, rfl, rfl, h0, r0⟩ := trodAll_cons hA
  obtain ⟨v1, vs1, d1, ds1, p1, q1, rfl, rfl, rfl, h1, r1⟩ := trodAll_cons r0
  obtain ⟨v2, vs2, d2, ds2, p2, q2, rfl, rfl, rfl, h2, r2⟩ := trodAll_cons r1
  obtain ⟨rfl, rfl, rfl⟩ := trodAll_nil r2
  obtain rfl : args = #[v0, v1, v2] := by cases args; simp_all
  obtain ⟨rfl, rfl⟩ := trodVars_none hV
  have k0 := h0
  have lt0 : ∀ x ∈ p0, x.block < W.heap.size := by obtain ⟨m, hm⟩ := k0; exact DataW.trod_lt m _ _ _ hm
  obtain ⟨bs0, ba0, cap0, rfl, rd0, ok0, len0⟩ := spots_of_trod (hval 0 39 v0 rfl rfl) h0
  have k1 := h1
  have lt1 : ∀ x ∈ p1, x.block < W.heap.size := by obtain ⟨m, hm⟩ := k1; exact DataW.trod_lt m _ _ _ hm
  obtain ⟨n1, rfl, l1x, l1y⟩ := i64_of_trod (hval 1 2 v1 rfl rfl) h1
  have k2 := h2
  have lt2 : ∀ x ∈ p2, x.block < W.heap.size := by obtain ⟨m, hm⟩ := k2; exact DataW.trod_lt m _ _ _ hm
  obtain ⟨n2, rfl, l2x, l2y⟩ := i64_of_trod (hval 2 2 v2 rfl rfl) h2
  clear hA0 hval0
  refine (area_walk bs0 ba0 cap0 n1 l1x l1y n2 l2x l2y W rd0 ok0 len0).mono fun e W' ⟨he, bel⟩ => ?_
  subst he
  exact ⟨_, rfl, _, _, _, [], _, [], hW', trodAll_mk1 (shut_bool Try.underlying4 _), (trodAll_cons_mk (Below.trod laidOut_ (by kernel_rfl) (of_decide_eq_true (by kernel_rfl)) k0 bel lt0) (trodAll_cons_mk (Below.trod laidOut_ (by kernel_rfl) (of_decide_eq_true (by kernel_rfl)) k1 bel lt1) (trodAll_cons_mk (Below.trod laidOut_ (by kernel_rfl) (of_decide_eq_true (by kernel_rfl)) k2 bel lt2) trodAll_mk0))), rfl, bel.frame _, fun h => by cases h⟩

/-- For every input the law returns true, and each argument reads behind the call as it read before. -/
theorem FnExactAreaOfTiles_holds : Rows.FnExactAreaOfTilesSaid :=
  OpenClaim.holds_of_wide 26 Try.f26 rfl rfl rfl rfl rfl rfl rfl ⟨rfl, rfl, rfl, rfl, rfl⟩ rfl rfl rfl rfl rfl (by as_aux_lemma => kernel_rfl) Try.func26 (closed_of 26 Try.f26 Rows.fnExactAreaOfTilesSpec Rows.fnExactAreaOfTilesRow rfl rfl (by as_aux_lemma => kernel_rfl) (by as_aux_lemma => kernel_rfl) (by as_aux_lemma => kernel_rfl) (by as_aux_lemma => kernel_rfl) (by as_aux_lemma => kernel_rfl))
    (of_decide_eq_true (by kernel_rfl)) (by unfold Func.isWrapper; first | (rw [if_pos (by decide +kernel)]; kernel_rfl) | (rw [if_neg (by decide +kernel)]; exact ⟨rfl, rfl⟩))
    (fun os started H enc _ => FnExactAreaOfTiles_lifted os started H enc)

end Go.Proofs.Ytefnlalldgbcaaa
