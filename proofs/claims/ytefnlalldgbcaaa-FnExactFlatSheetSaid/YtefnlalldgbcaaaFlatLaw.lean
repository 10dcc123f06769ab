/-
  The statement FnExactFlatSheet: for every four numbers the program's FlatSheet and the reference's give the same sheet, in memory of its own, so the law returns true.
  Conditions: none.
-/
import Derived.Test.YtefnlalldgbcaaaRows
import Derived.Test.YtefnlalldgbcaaaArg3
import Derived.Test.YtefnlalldgbcaaaFlat
import Derived.Test.YtefnlalldgbcaaaU
import Derived.Test.YtefnlalldgbcaaaClosed
namespace Go.Proofs.Ytefnlalldgbcaaa
open Go.ChangeShapes Go.WideShapes Go.ChangeAt Go.RowKit

section
attribute [local irreducible] Code.wp wpList Oper.wp Calls bodyPost Exit.then Exit.inBlock

set_option maxHeartbeats 16000000 in
theorem flat_walk (m : Int) (_ : -9223372036854775808 ≤ m) (_ : m ≤ 9223372036854775807) (n : Int) (_ : -9223372036854775808 ≤ n) (_ : n ≤ 9223372036854775807) (x : Nat) (x_ : x < 2 ^ 32) (y : Nat) (y_ : y < 2 ^ 32) (w : World)  :
    Calls Try.prog 14 [Value.int .i64 m, Value.int .i64 n, Value.float .f32 x, Value.float .f32 y].toArray w fun e w' => e = .returned (.bool true) ∧ Below w.heap.size w w' := by
  have xI : Is .f32 x (cl .f32 x) := ⟨x_, rfl⟩
  generalize cl .f32 x = xc at xI
  have yI : Is .f32 y (cl .f32 y) := ⟨y_, rfl⟩
  generalize cl .f32 y = yc at yI
  refine enter Try.func14 rfl rfl rfl rfl ?_
  intro a st
  skip
  cases hq : flatOk m n xc yc
  · skip
    (repeat' (first | (refine o_callV st rfl (specFlat_no _ _ _ _ _ _ xI yI hq _) rfl ?_; clear st; intro _ _ st) | (refine o_callV st rfl (implFlat_no _ _ _ _ _ _ xI yI hq _) rfl ?_; clear st; intro _ _ st) | (refine o_callV st rfl (eqSheet_zero _) rfl ?_; clear st; intro _ _ st) | (refine o_callV st rfl (eqSpotS_zero _) rfl ?_; clear st; intro _ _ st) | (refine o_callV st rfl (markSheet_zero _ _) rfl ?_; clear st; intro _ _ st) | (refine o_callV st rfl (heldSheet_zero _ (by omega) _) rfl ?_; clear st; intro _ _ st) | (refine c_seq ?_) | (refine c_region ?_) | (refine l_do ?_) | (refine l_doG st rfl rfl ?_) | (refine l_skipU st rfl rfl rfl ?_; clear st; intro _ st) | (refine l_skip st rfl rfl rfl rfl ?_; clear st; intro _ st) | (refine l_nil ?_) | (refine x_then ?_) | (refine x_thenR ?_) | (refine x_thenE ?_) | (refine wp_ret ?_) | (refine wp_skip ?_) | (refine c_condT st rfl ?_) | (refine c_condF st rfl ?_) | (refine o_move st rfl rfl ?_; clear st; intro _ st) | (refine o_assign st rfl rfl ?_; clear st; intro _ st) | (refine o_pickT st rfl rfl rfl ?_; clear st; intro _ st) | (refine o_pickF st rfl rfl rfl ?_; clear st; intro _ st) | (refine o_alloc st rfl ?_; clear st; intro _ _ _ st) | (refine o_loadS st rfl (by repeat (first | exact At.here | apply At.there)) rfl rfl ?_; clear st; intro _ st) | (refine o_load3 st rfl (by repeat (first | exact At.here | apply At.there)) rfl ?_; clear st; intro _ st) | (refine o_load2 st rfl (by repeat (first | exact At.here | apply At.there)) rfl ?_; clear st; intro _ st) | (refine o_load4 st rfl (by repeat (first | exact At.here | apply At.there)) rfl ?_; clear st; intro _ st) | (refine o_storeS st rfl rfl rfl (by repeat (first | exact Upd.here | apply Upd.there)) rfl (by dsimp only [List.set]) ?_; clear st; intro _ _ st) | (refine o_storeW st rfl rfl (by repeat (first | exact Upd.here | apply Upd.there)) rfl rfl rfl ?_; clear st; intro _ _ st) | (refine o_extract st rfl rfl rfl ?_; clear st; intro _ st) | (refine o_neqB st rfl rfl rfl rfl ?_; clear st; intro _ st) | (refine o_notT st rfl rfl ?_; clear st; intro _ st) | (refine o_notF st rfl rfl ?_; clear st; intro _ st) | (refine o_lss st rfl rfl rfl ?_ ?_ <;> clear st <;> intro _ _ st <;> (try (exfalso; omega))) | (refine o_neqI st rfl rfl rfl ?_ ?_ <;> clear st <;> intro _ _ st <;> (try (exfalso; omega)))))
    refine post1 st Try.results14 (rd_t st rfl) ?_
    exact ⟨rfl, st.below⟩
  · have hss := flatL_length hq
    (repeat' (first | (refine o_callShY st rfl (specFlat_yes _ _ _ _ _ _ xI yI hq _) rfl ?_; clear st; intro _ _ _ _ _ _ _ _ st) | (refine o_callShY st rfl (implFlat_yes _ _ _ _ _ _ xI yI hq _) rfl ?_; clear st; intro _ _ _ _ _ _ _ _ st) | (refine o_callV st rfl (eqSheet_ok _ _ _ _ _ (by assumption) (by assumption) _ _ _ _ _ (RdS.of (st.heap (by repeat (first | exact At.here | apply At.there))) (spotsIn0p _ _)) (RdS.of (st.heap (by repeat (first | exact At.here | apply At.there))) (spotsIn0p _ _)) (by omega)) rfl ?_; clear st; intro _ _ st) | (refine o_callU st rfl (markSheet_ok _ _ _ _ _ _ _ _ (st.heap (by repeat (first | exact At.here | apply At.there))) (by omega) (by omega) (by omega)) (by repeat (first | exact Upd.here | apply Upd.there)) rfl ?_; clear st; intro _ _ st) | (refine o_callV st rfl (heldSheet_ok _ _ _ _ _ _ _ _ (st.heap (by repeat (first | exact At.here | apply At.there))) (by omega) (by omega) (by omega)) rfl ?_; clear st; intro _ _ st) | (refine c_seq ?_) | (refine c_region ?_) | (refine l_do ?_) | (refine l_doG st rfl rfl ?_) | (refine l_skipU st rfl rfl rfl ?_; clear st; intro _ st) | (refine l_skip st rfl rfl rfl rfl ?_; clear st; intro _ st) | (refine l_nil ?_) | (refine x_then ?_) | (refine x_thenR ?_) | (refine x_thenE ?_) | (refine wp_ret ?_) | (refine wp_skip ?_) | (refine c_condT st rfl ?_) | (refine c_condF st rfl ?_) | (refine o_move st rfl rfl ?_; clear st; intro _ st) | (refine o_assign st rfl rfl ?_; clear st; intro _ st) | (refine o_pickT st rfl rfl rfl ?_; clear st; intro _ st) | (refine o_pickF st rfl rfl rfl ?_; clear st; intro _ st) | (refine o_alloc st rfl ?_; clear st; intro _ _ _ st) | (refine o_loadS st rfl (by repeat (first | exact At.here | apply At.there)) rfl rfl ?_; clear st; intro _ st) | (refine o_load3 st rfl (by repeat (first | exact At.here | apply At.there)) rfl ?_; clear st; intro _ st) | (refine o_load2 st rfl (by repeat (first | exact At.here | apply At.there)) rfl ?_; clear st; intro _ st) | (refine o_load4 st rfl (by repeat (first | exact At.here | apply At.there)) rfl ?_; clear st; intro _ st) | (refine o_storeS st rfl rfl rfl (by repeat (first | exact Upd.here | apply Upd.there)) rfl (by dsimp only [List.set]) ?_; clear st; intro _ _ st) | (refine o_storeW st rfl rfl (by repeat (first | exact Upd.here | apply Upd.there)) rfl rfl rfl ?_; clear st; intro _ _ st) | (refine o_extract st rfl rfl rfl ?_; clear st; intro _ st) | (refine o_neqB st rfl rfl rfl rfl ?_; clear st; intro _ st) | (refine o_notT st rfl rfl ?_; clear st; intro _ st) | (refine o_notF st rfl rfl ?_; clear st; intro _ st) | (refine o_lss st rfl rfl rfl ?_ ?_ <;> clear st <;> intro _ _ st <;> (try (exfalso; omega))) | (refine o_neqI st rfl rfl rfl ?_ ?_ <;> clear st <;> intro _ _ st <;> (try (exfalso; omega)))))
    refine post1 st Try.results14 (rd_t st rfl) ?_
    exact ⟨rfl, st.below⟩
end

set_option maxRecDepth 100000 in
theorem FnExactFlatSheet_lifted (os : Os) (started : os.Started) (H : Type) (enc : TypeId × Value → H) :
    ReturnsInHanded {} Try.checked os 14 .any (Rows.fnExactFlatSheetSpec.pre6 enc Try.prog Try.f14 Rows.fnExactFlatSheetRow.domain false) (Rows.fnExactFlatSheetSpec.post enc Try.prog Try.f14 false true false false) := by
  refine returnsInHanded_of_change (C := Try.checked) own_ started (by kernel_rfl) Try.func14
    (ChangeSpec.witness6 (enc := enc) (C := Try.checked) false ⟨#[], #[.int .i64 0, .int .i64 0, .float .f32 0, .float .f32 0], []⟩ 8 (by kernel_rfl) (by kernel_rfl) (by kernel_rfl) (by kernel_rfl)) ?_
  intro W base args ds gs before hval0 hW hcnd _
  have hval : ∀ (j : Nat) t v, Try.f14.params[j]? = some t → args[j]? = some v → Value.okWide Try.prog W .any base t v := hval0
  have hW' := hW
  obtain ⟨p, q, hA0, hV, rfl, hfz, hnd⟩ := hW
  have hA : DataW.TrodAll enc Try.prog W 0 (fun _ => true) true Try.f14.params.toList args.toList ds p := hA0
  rw [Try.params14] at hA hval
  obtain ⟨v0, vs0, d0, ds0, p0, q0, hargs, rfl, rfl, h0, r0⟩ := trodAll_cons hA
  obtain ⟨v1, vs1, d1, ds1, p1, q1, rfl, rfl, rfl, h1, r1⟩ := trodAll_cons r0
  obtain ⟨v2, vs2, d2, ds2, p2, q2, rfl, rfl, rfl, h2, r2⟩ := trodAll_cons r1
  obtain ⟨v3, vs3, d3, ds3, p3, q3, rfl, rfl, rfl, h3, r3⟩ := trodAll_cons r2
  obtain ⟨rfl, rfl, rfl⟩ := trodAll_nil r3
  obtain rfl : args = #[v0, v1, v2, v3] := by cases args; simp_all
  obtain ⟨rfl, rfl⟩ := trodVars_none hV
  have k0 := h0
  have lt0 : ∀ x ∈ p0, x.block < W.heap.size := by obtain ⟨m, hm⟩ := k0; exact DataW.trod_lt m _ _ _ hm
  obtain ⟨n0, rfl, l0x, l0y⟩ := i64_of_trod (hval 0 2 v0 rfl rfl) h0
  have k1 := h1
  have lt1 : ∀ x ∈ p1, x.block < W.heap.size := by obtain ⟨m, hm⟩ := k1; exact DataW.trod_lt m _ _ _ hm
  obtain ⟨n1, rfl, l1x, l1y⟩ := i64_of_trod (hval 1 2 v1 rfl rfl) h1
  have k2 := h2
  have lt2 : ∀ x ∈ p2, x.block < W.heap.size := by obtain ⟨m, hm⟩ := k2; exact DataW.trod_lt m _ _ _ hm
  obtain ⟨b2, rfl, l2x⟩ := f32_of_trod (hval 2 22 v2 rfl rfl) h2
  have k3 := h3
  have lt3 : ∀ x ∈ p3, x.block < W.heap.size := by obtain ⟨m, hm⟩ := k3; exact DataW.trod_lt m _ _ _ hm
  obtain ⟨b3, rfl, l3x⟩ := f32_of_trod (hval 3 22 v3 rfl rfl) h3
  clear hA0 hval0
  refine (flat_walk n0 l0x l0y n1 l1x l1y b2 l2x b3 l3x W ).mono fun e W' ⟨he, bel⟩ => ?_
  subst he
  exact ⟨_, rfl, _, _, _, [], _, [], hW', trodAll_mk1 (shut_bool Try.underlying4 _), (trodAll_cons_mk (Below.trod laidOut_ (by kernel_rfl) (of_decide_eq_true (by kernel_rfl)) k0 bel lt0) (trodAll_cons_mk (Below.trod laidOut_ (by kernel_rfl) (of_decide_eq_true (by kernel_rfl)) k1 bel lt1) (trodAll_cons_mk (Below.trod laidOut_ (by kernel_rfl) (of_decide_eq_true (by kernel_rfl)) k2 bel lt2) (trodAll_cons_mk (Below.trod laidOut_ (by kernel_rfl) (of_decide_eq_true (by kernel_rfl)) k3 bel lt3) trodAll_mk0)))), rfl, bel.frame _, fun h => by cases h⟩

/-- For every input the law returns true, and each argument reads behind the call as it read before. -/
theorem FnExactFlatSheet_holds : Rows.FnExactFlatSheetSaid :=
  OpenClaim.holds_of_wide 14 Try.f14 rfl rfl rfl rfl rfl rfl rfl ⟨rfl, rfl, rfl, rfl, rfl⟩ rfl rfl rfl rfl rfl (by as_aux_lemma => kernel_rfl) Try.func14 (closed_of 14 Try.f14 Rows.fnExactFlatSheetSpec Rows.fnExactFlatSheetRow rfl rfl (by as_aux_lemma => kernel_rfl) (by as_aux_lemma => kernel_rfl) (by as_aux_lemma => kernel_rfl) (by as_aux_lemma => kernel_rfl) (by as_aux_lemma => kernel_rfl))
    (of_decide_eq_true (by kernel_rfl)) (by unfold Func.isWrapper; first | (rw [if_pos (by decide +kernel)]; kernel_rfl) | (rw [if_neg (by decide +kernel)]; exact ⟨rfl, rfl⟩))
    (fun os started H enc _ => FnExactFlatSheet_lifted os started H enc)

end Go.Proofs.Ytefnlalldgbcaaa
