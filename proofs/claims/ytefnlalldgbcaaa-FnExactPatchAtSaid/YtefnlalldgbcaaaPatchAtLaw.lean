/-
  The statement FnExactPatchAt: for every list of spots (of no more spots than the law asks), every number and every two floats the program's PatchAt and the reference's give the same spot (up to a NaN's bits) and leave the list as it was, so the law returns true.
  Conditions: none.
-/
import Derived.Test.YtefnlalldgbcaaaRows
import Derived.Test.YtefnlalldgbcaaaArg3
import Derived.Test.YtefnlalldgbcaaaPau
import Derived.Test.YtefnlalldgbcaaaU
import Derived.Test.YtefnlalldgbcaaaClosed
namespace Go.Proofs.Ytefnlalldgbcaaa
open Go.ChangeShapes Go.WideShapes Go.ChangeAt Go.RowKit

section
attribute [local irreducible] Code.wp wpList Oper.wp Calls bodyPost Exit.then Exit.inBlock

set_option maxHeartbeats 16000000 in
theorem patchAt_walk (bs : List B3) (ba : Option Addr) (cap : Nat) (i : Int) (_ : -9223372036854775808 ≤ i) (_ : i ≤ 9223372036854775807) (x : Nat) (x_ : x < 2 ^ 32) (y : Nat) (y_ : y < 2 ^ 32) (w : World) (hr : RdS w ba bs) (hok : ∀ b ∈ bs, ok32 b) (hl : bs.length ≤ 9223372036854775807) :
    Calls Try.prog 13 [Value.slice ba bs.length cap, Value.int .i64 i, Value.float .f32 x, Value.float .f32 y].toArray w fun e w' => e = .returned (.bool true) ∧ Below w.heap.size w w' := by
  have xI : Is .f32 x (cl .f32 x) := ⟨x_, rfl⟩
  generalize cl .f32 x = xc at xI
  have yI : Is .f32 y (cl .f32 y) := ⟨y_, rfl⟩
  generalize cl .f32 y = yc at yI
  have hI := IsSL_of hok
  generalize bs.map clS = ss at hI
  have hz := fun w => szSpotS_ok bs.length cap ba 1048576 w (by omega) (by omega) hl
  refine enter Try.func13 rfl rfl rfl rfl ?_
  intro a st
  by_cases hbig : (1048576 : Int) - bs.length < 0
  · rw [if_pos hbig] at hz
    (repeat' (first | (refine o_callV st rfl (hz _) rfl ?_; clear st; intro _ _ st) | (refine c_seq ?_) | (refine c_region ?_) | (refine l_do ?_) | (refine l_doG st rfl rfl ?_) | (refine l_skipU st rfl rfl rfl ?_; clear st; intro _ st) | (refine l_skip st rfl rfl rfl rfl ?_; clear st; intro _ st) | (refine l_nil ?_) | (refine x_then ?_) | (refine x_thenR ?_) | (refine x_thenE ?_) | (refine wp_ret ?_) | (refine wp_skip ?_) | (refine c_condT st rfl ?_) | (refine c_condF st rfl ?_) | (refine o_move st rfl rfl ?_; clear st; intro _ st) | (refine o_assign st rfl rfl ?_; clear st; intro _ st) | (refine o_pickT st rfl rfl rfl ?_; clear st; intro _ st) | (refine o_pickF st rfl rfl rfl ?_; clear st; intro _ st) | (refine o_alloc st rfl ?_; clear st; intro _ _ _ st) | (refine o_loadS st rfl (by repeat (first | exact At.here | apply At.there)) rfl rfl ?_; clear st; intro _ st) | (refine o_load3 st rfl (by repeat (first | exact At.here | apply At.there)) rfl ?_; clear st; intro _ st) | (refine o_load2 st rfl (by repeat (first | exact At.here | apply At.there)) rfl ?_; clear st; intro _ st) | (refine o_load4 st rfl (by repeat (first | exact At.here | apply At.there)) rfl ?_; clear st; intro _ st) | (refine o_storeS st rfl rfl rfl (by repeat (first | exact Upd.here | apply Upd.there)) rfl (by dsimp only [List.set]) ?_; clear st; intro _ _ st) | (refine o_storeW st rfl rfl (by repeat (first | exact Upd.here | apply Upd.there)) rfl rfl rfl ?_; clear st; intro _ _ st) | (refine o_extract st rfl rfl rfl ?_; clear st; intro _ st) | (refine o_neqB st rfl rfl rfl rfl ?_; clear st; intro _ st) | (refine o_notT st rfl rfl ?_; clear st; intro _ st) | (refine o_notF st rfl rfl ?_; clear st; intro _ st) | (refine o_lss st rfl rfl rfl ?_ ?_ <;> clear st <;> intro _ _ st <;> (try (exfalso; omega)))))
    refine post1 st Try.results13 (rd_t st rfl) ?_
    exact ⟨rfl, st.below⟩
  rw [if_neg hbig] at hz
  have hlen : bs.length < 1000000000 := by omega
  have hbl := hI.len
  have c1 := fun (w : World) base hr => specPat_ok bs ss hI base bs.length i x y xc yc xI yI w hr hlen
  have c2 := fun (w : World) base hr => implPat_ok bs ss hI base bs.length (Nat.le_refl _) i x y xc yc xI yI w hr hlen
  generalize patC ss i xc yc = r at c1 c2
  generalize patOk ss i xc yc = q at c1 c2
  cases q
  · skip
    (repeat' (first | (refine o_callV st rfl (hz _) rfl ?_; clear st; intro _ _ st) | (refine o_callToSpots st rfl hr hlen rfl ?_; clear st; intro _ _ _ st) | (refine o_callSBb st rfl (c1 _ _ (RdS.of (st.heap (by repeat (first | exact At.here | apply At.there))) (spotsIn0p _ _))) rfl ?_; clear st; intro _ _ _ _ st) | (refine o_callSBb st rfl (c2 _ _ (RdS.of (st.heap (by repeat (first | exact At.here | apply At.there))) (spotsIn0p _ _))) rfl ?_; clear st; intro _ _ _ _ st) | (refine o_callV st rfl (eqSpot_ok _ _ _ (by assumption) (by assumption) _) rfl ?_; clear st; intro _ _ st) | (refine o_callV st rfl (eqSheet_ok _ _ _ _ _ (by assumption) (by assumption) _ _ _ _ _ (RdS.of (st.heap (by repeat (first | exact At.here | apply At.there))) (spotsIn0p _ _)) (RdS.of (st.heap (by repeat (first | exact At.here | apply At.there))) (spotsIn0p _ _)) (by omega)) rfl ?_; clear st; intro _ _ st) | (refine o_callV st rfl (eqSpotS_ok _ _ _ (by assumption) (by assumption) _ _ _ _ _ (RdS.of (st.heap (by repeat (first | exact At.here | apply At.there))) (spotsIn0p _ _)) (RdS.of (st.heap (by repeat (first | exact At.here | apply At.there))) (spotsIn0p _ _)) (by omega)) rfl ?_; clear st; intro _ _ st) | (refine c_seq ?_) | (refine c_region ?_) | (refine l_do ?_) | (refine l_doG st rfl rfl ?_) | (refine l_skipU st rfl rfl rfl ?_; clear st; intro _ st) | (refine l_skip st rfl rfl rfl rfl ?_; clear st; intro _ st) | (refine l_nil ?_) | (refine x_then ?_) | (refine x_thenR ?_) | (refine x_thenE ?_) | (refine wp_ret ?_) | (refine wp_skip ?_) | (refine c_condT st rfl ?_) | (refine c_condF st rfl ?_) | (refine o_move st rfl rfl ?_; clear st; intro _ st) | (refine o_assign st rfl rfl ?_; clear st; intro _ st) | (refine o_pickT st rfl rfl rfl ?_; clear st; intro _ st) | (refine o_pickF st rfl rfl rfl ?_; clear st; intro _ st) | (refine o_alloc st rfl ?_; clear st; intro _ _ _ st) | (refine o_loadS st rfl (by repeat (first | exact At.here | apply At.there)) rfl rfl ?_; clear st; intro _ st) | (refine o_load3 st rfl (by repeat (first | exact At.here | apply At.there)) rfl ?_; clear st; intro _ st) | (refine o_load2 st rfl (by repeat (first | exact At.here | apply At.there)) rfl ?_; clear st; intro _ st) | (refine o_load4 st rfl (by repeat (first | exact At.here | apply At.there)) rfl ?_; clear st; intro _ st) | (refine o_storeS st rfl rfl rfl (by repeat (first | exact Upd.here | apply Upd.there)) rfl (by dsimp only [List.set]) ?_; clear st; intro _ _ st) | (refine o_storeW st rfl rfl (by repeat (first | exact Upd.here | apply Upd.there)) rfl rfl rfl ?_; clear st; intro _ _ st) | (refine o_extract st rfl rfl rfl ?_; clear st; intro _ st) | (refine o_neqB st rfl rfl rfl rfl ?_; clear st; intro _ st) | (refine o_notT st rfl rfl ?_; clear st; intro _ st) | (refine o_notF st rfl rfl ?_; clear st; intro _ st) | (refine o_lss st rfl rfl rfl ?_ ?_ <;> clear st <;> intro _ _ st <;> (try (exfalso; omega)))))
    refine post1 st Try.results13 (rd_t st rfl) ?_
    exact ⟨rfl, st.below⟩
  · skip
    (repeat' (first | (refine o_callV st rfl (hz _) rfl ?_; clear st; intro _ _ st) | (refine o_callToSpots st rfl hr hlen rfl ?_; clear st; intro _ _ _ st) | (refine o_callSBb st rfl (c1 _ _ (RdS.of (st.heap (by repeat (first | exact At.here | apply At.there))) (spotsIn0p _ _))) rfl ?_; clear st; intro _ _ _ _ st) | (refine o_callSBb st rfl (c2 _ _ (RdS.of (st.heap (by repeat (first | exact At.here | apply At.there))) (spotsIn0p _ _))) rfl ?_; clear st; intro _ _ _ _ st) | (refine o_callV st rfl (eqSpot_ok _ _ _ (by assumption) (by assumption) _) rfl ?_; clear st; intro _ _ st) | (refine o_callV st rfl (eqSheet_ok _ _ _ _ _ (by assumption) (by assumption) _ _ _ _ _ (RdS.of (st.heap (by repeat (first | exact At.here | apply At.there))) (spotsIn0p _ _)) (RdS.of (st.heap (by repeat (first | exact At.here | apply At.there))) (spotsIn0p _ _)) (by omega)) rfl ?_; clear st; intro _ _ st) | (refine o_callV st rfl (eqSpotS_ok _ _ _ (by assumption) (by assumption) _ _ _ _ _ (RdS.of (st.heap (by repeat (first | exact At.here | apply At.there))) (spotsIn0p _ _)) (RdS.of (st.heap (by repeat (first | exact At.here | apply At.there))) (spotsIn0p _ _)) (by omega)) rfl ?_; clear st; intro _ _ st) | (refine c_seq ?_) | (refine c_region ?_) | (refine l_do ?_) | (refine l_doG st rfl rfl ?_) | (refine l_skipU st rfl rfl rfl ?_; clear st; intro _ st) | (refine l_skip st rfl rfl rfl rfl ?_; clear st; intro _ st) | (refine l_nil ?_) | (refine x_then ?_) | (refine x_thenR ?_) | (refine x_thenE ?_) | (refine wp_ret ?_) | (refine wp_skip ?_) | (refine c_condT st rfl ?_) | (refine c_condF st rfl ?_) | (refine o_move st rfl rfl ?_; clear st; intro _ st) | (refine o_assign st rfl rfl ?_; clear st; intro _ st) | (refine o_pickT st rfl rfl rfl ?_; clear st; intro _ st) | (refine o_pickF st rfl rfl rfl ?_; clear st; intro _ st) | (refine o_alloc st rfl ?_; clear st; intro _ _ _ st) | (refine o_loadS st rfl (by repeat (first | exact At.here | apply At.there)) rfl rfl ?_; clear st; intro _ st) | (refine o_load3 st rfl (by repeat (first | exact At.here | apply At.there)) rfl ?_; clear st; intro _ st) | (refine o_load2 st rfl (by repeat (first | exact At.here | apply At.there)) rfl ?_; clear st; intro _ st) | (refine o_load4 st rfl (by repeat (first | exact At.here | apply At.there)) rfl ?_; clear st; intro _ st) | (refine o_storeS st rfl rfl rfl (by repeat (first | exact Upd.here | apply Upd.there)) rfl (by dsimp only [List.set]) ?_; clear st; intro _ _ st) | (refine o_storeW st rfl rfl (by repeat (first | exact Upd.here | apply Upd.there)) rfl rfl rfl ?_; clear st; intro _ _ st) | (refine o_extract st rfl rfl rfl ?_; clear st; intro _ st) | (refine o_neqB st rfl rfl rfl rfl ?_; clear st; intro _ st) | (refine o_notT st rfl rfl ?_; clear st; intro _ st) | (refine o_notF st rfl rfl ?_; clear st; intro _ st) | (refine o_lss st rfl rfl rfl ?_ ?_ <;> clear st <;> intro _ _ st <;> (try (exfalso; omega)))))
    refine post1 st Try.results13 (rd_t st rfl) ?_
    exact ⟨rfl, st.below⟩
end

set_option maxRecDepth 100000 in
theorem FnExactPatchAt_lifted (os : Os) (started : os.Started) (H : Type) (enc : TypeId × Value → H) :
    ReturnsInHanded {} Try.checked os 13 .any (Rows.fnExactPatchAtSpec.pre6 enc Try.prog Try.f13 Rows.fnExactPatchAtRow.domain false) (Rows.fnExactPatchAtSpec.post enc Try.prog Try.f13 false true false false) := by
  refine returnsInHanded_of_change (C := Try.checked) own_ started (by kernel_rfl) Try.func13
    (ChangeSpec.witness6 (enc := enc) (C := Try.checked) false ⟨#[], #[.slice none 0 0, .int .i64 0, .float .f32 0, .float .f32 0], []⟩ 8 (by kernel_rfl) (by kernel_rfl) (by kernel_rfl) (by kernel_rfl)) ?_
  intro W base args ds gs before hval0 hW hcnd _
  have hval : ∀ (j : Nat) t v, Try.f13.params[j]? = some t → args[j]? = some v → Value.okWide Try.prog W .any base t v := hval0
  have hW' := hW
  obtain ⟨p, q, hA0, hV, rfl, hfz, hnd⟩ := hW
  have hA : DataW.TrodAll enc Try.prog W 0 (fun _ => true) true Try.f13.params.toList args.toList ds p := hA0
  rw [Try.params13] at hA hval
  obtain ⟨v0, vs0, d0, ds0, p0, q0, hargs, rfl, rfl, h0, r0⟩ := trodAll_cons hA
  obtain ⟨v1, vs1, d1, ds1, p1, q1, rfl, rfl, rfl, h1, r1⟩ := trodAll_cons r0
  obtain ⟨v2, vs2, d2, ds2, p2, q2, rfl, rfl, rfl, h2, r2⟩ := trodAll_cons r1
  obtain ⟨v3, vs3, d3, ds3, p3, q3, rfl, rfl, rfl, h3, r3⟩ := trodAll_cons r2
  obtain ⟨rfl, rfl, rfl⟩ := trodAll_nil r3
  obtain rfl : args = #[v0, v1, v2, v3] := by cases args; simp_all
  obtain ⟨rfl, rfl⟩ := trodVars_none hV
  have k0 := h0
  have lt0 : ∀ x ∈ p0, x.block < W.heap.size := by obtain ⟨m, hm⟩ := k0; exact DataW.trod_lt m _ _ _ hm
  obtain ⟨bs0, ba0, cap0, rfl, rd0, ok0, len0⟩ := spots_of_trod (hval 0 39 v0 rfl rfl) h0
  have k1 := h1
  have lt1 : ∀ x ∈ p1, x.block < W.heap.size := by obtain ⟨m, hm⟩ := k1; exact DataW.trod_lt m _ _ _ hm
  obtain ⟨n1, rfl, l1x, l1y⟩ := i64_of_trod (hval 1 2 v1 rfl rfl) h1
  have k2 := h2
  have lt2 : ∀ x ∈ p2, x.block < W.heap.size := by obtain ⟨m, hm⟩ := k2; exact DataW.trod_lt m _ _ _ hm
  obtain ⟨b2, rfl, l2x⟩ := f32_of_trod (hval 2 22 v2 rfl rfl) h2
  have k3 := h3
  have lt3 : ∀ x ∈ p3, x.block < W.heap.size := by obtain ⟨m, hm⟩ := k3; exact DataW.trod_lt m _ _ _ hm
  obtain ⟨b3, rfl, l3x⟩ := f32_of_trod (hval 3 22 v3 rfl rfl) h3
  clear hA0 hval0
  refine (patchAt_walk bs0 ba0 cap0 n1 l1x l1y b2 l2x b3 l3x W rd0 ok0 len0).mono fun e W' ⟨he, bel⟩ => ?_
  subst he
  exact ⟨_, rfl, _, _, _, [], _, [], hW', trodAll_mk1 (shut_bool Try.underlying4 _), (trodAll_cons_mk (Below.trod laidOut_ (by kernel_rfl) (of_decide_eq_true (by kernel_rfl)) k0 bel lt0) (trodAll_cons_mk (Below.trod laidOut_ (by kernel_rfl) (of_decide_eq_true (by kernel_rfl)) k1 bel lt1) (trodAll_cons_mk (Below.trod laidOut_ (by kernel_rfl) (of_decide_eq_true (by kernel_rfl)) k2 bel lt2) (trodAll_cons_mk (Below.trod laidOut_ (by kernel_rfl) (of_decide_eq_true (by kernel_rfl)) k3 bel lt3) trodAll_mk0)))), rfl, bel.frame _, fun h => by cases h⟩

/-- For every input the law returns true, and each argument reads behind the call as it read before. -/
theorem FnExactPatchAt_holds : Rows.FnExactPatchAtSaid :=
  OpenClaim.holds_of_wide 13 Try.f13 rfl rfl rfl rfl rfl rfl rfl ⟨rfl, rfl, rfl, rfl, rfl⟩ rfl rfl rfl rfl rfl (by as_aux_lemma => kernel_rfl) Try.func13 (closed_of 13 Try.f13 Rows.fnExactPatchAtSpec Rows.fnExactPatchAtRow rfl rfl (by as_aux_lemma => kernel_rfl) (by as_aux_lemma => kernel_rfl) (by as_aux_lemma => kernel_rfl) (by as_aux_lemma => kernel_rfl) (by as_aux_lemma => kernel_rfl))
    (of_decide_eq_true (by kernel_rfl)) (by unfold Func.isWrapper; first | (rw [if_pos (by decide +kernel)]; kernel_rfl) | (rw [if_neg (by decide +kernel)]; exact ⟨rfl, rfl⟩))
    (fun os started H enc _ => FnExactPatchAt_lifted os started H enc)

end Go.Proofs.Ytefnlalldgbcaaa
