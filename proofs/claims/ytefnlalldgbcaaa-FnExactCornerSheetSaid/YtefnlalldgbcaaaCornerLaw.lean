/-
  The statement FnExactCornerSheet: for every four spots the program's CornerSheet and the reference's give the same sheet (up to a NaN's bits), in memory of its own, so the law returns true.
  Conditions: none.
-/
import Derived.Test.YtefnlalldgbcaaaRows
import Derived.Test.YtefnlalldgbcaaaArg3
import Derived.Test.YtefnlalldgbcaaaR
import Derived.Test.YtefnlalldgbcaaaU
import Derived.Test.YtefnlalldgbcaaaClosed
namespace Go.Proofs.Ytefnlalldgbcaaa
open Go.ChangeShapes Go.WideShapes Go.ChangeAt Go.RowKit

section
attribute [local irreducible] Code.wp wpList Oper.wp Calls bodyPost Exit.then Exit.inBlock


theorem ex_drop {w w' : World} {e : Ent} (h : Ex w w' [e]) : Ex w w' [] := ⟨h.below, by simp, by simp⟩
theorem specCorner_no (b1 b2 b3 b4 : B3) (s1 s2 s3 s4 : S3) (h1 : IsS b1 s1) (h2 : IsS b2 s2) (h3 : IsS b3 s3) (h4 : IsS b4 s4) (hq : validC 2 2 (crn s1 s2 s3 s4) = false) (w : World) : CV Try.prog 64 [vS b1, vS b2, vS b3, vS b4] w (.tuple #[vSh0, .bool false]) :=
  Calls.mono (specCorner_ok b1 b2 b3 b4 s1 s2 s3 s4 h1 h2 h3 h4 w) fun e w' ⟨v, b, o, he, ⟨hv, ho⟩, hx⟩ => ⟨by rw [he, hv, hq]; rfl, ex_drop hx⟩
theorem implCorner_no (b1 b2 b3 b4 : B3) (s1 s2 s3 s4 : S3) (h1 : IsS b1 s1) (h2 : IsS b2 s2) (h3 : IsS b3 s3) (h4 : IsS b4 s4) (hq : validC 2 2 (crn s1 s2 s3 s4) = false) (w : World) : CV Try.prog 65 [vS b1, vS b2, vS b3, vS b4] w (.tuple #[vSh0, .bool false]) :=
  Calls.mono (implCorner_ok b1 b2 b3 b4 s1 s2 s3 s4 h1 h2 h3 h4 w) fun e w' ⟨v, b, o, he, ⟨hv, ho⟩, hx⟩ => ⟨by rw [he, hv, hq]; rfl, ex_drop hx⟩
theorem specCorner_yes (b1 b2 b3 b4 : B3) (s1 s2 s3 s4 : S3) (h1 : IsS b1 s1) (h2 : IsS b2 s2) (h3 : IsS b3 s3) (h4 : IsS b4 s4) (hq : validC 2 2 (crn s1 s2 s3 s4) = true) (w : World) : CShY Try.prog 64 [vS b1, vS b2, vS b3, vS b4] w 2 2 (crn s1 s2 s3 s4) :=
  Calls.mono (specCorner_ok b1 b2 b3 b4 s1 s2 s3 s4 h1 h2 h3 h4 w) fun e w' ⟨v, b, o, he, ⟨hv, ho⟩, hx⟩ => ⟨v, b, o, he, ⟨[b1, b2, b3, b4], 4, [], by rw [hv, hq]; rfl, ho, IsSL4 h1 h2 h3 h4⟩, hx⟩
theorem implCorner_yes (b1 b2 b3 b4 : B3) (s1 s2 s3 s4 : S3) (h1 : IsS b1 s1) (h2 : IsS b2 s2) (h3 : IsS b3 s3) (h4 : IsS b4 s4) (hq : validC 2 2 (crn s1 s2 s3 s4) = true) (w : World) : CShY Try.prog 65 [vS b1, vS b2, vS b3, vS b4] w 2 2 (crn s1 s2 s3 s4) :=
  Calls.mono (implCorner_ok b1 b2 b3 b4 s1 s2 s3 s4 h1 h2 h3 h4 w) fun e w' ⟨v, b, o, he, ⟨hv, ho⟩, hx⟩ => ⟨v, b, o, he, ⟨[b1, b2, b3, b4], 4, [], by rw [hv, hq]; rfl, ho, IsSL4 h1 h2 h3 h4⟩, hx⟩

set_option maxHeartbeats 16000000 in
theorem corner_walk (b1 : B3) (b1x : b1.1 < 2 ^ 32) (b1y : b1.2.1 < 2 ^ 32) (b1z : b1.2.2 < 2 ^ 32) (b2 : B3) (b2x : b2.1 < 2 ^ 32) (b2y : b2.2.1 < 2 ^ 32) (b2z : b2.2.2 < 2 ^ 32) (b3 : B3) (b3x : b3.1 < 2 ^ 32) (b3y : b3.2.1 < 2 ^ 32) (b3z : b3.2.2 < 2 ^ 32) (b4 : B3) (b4x : b4.1 < 2 ^ 32) (b4y : b4.2.1 < 2 ^ 32) (b4z : b4.2.2 < 2 ^ 32) (w : World)  :
    Calls Try.prog 12 [vS b1, vS b2, vS b3, vS b4].toArray w fun e w' => e = .returned (.bool true) ∧ Below w.heap.size w w' := by
  have b1I : IsS b1 (clS b1) := ⟨⟨b1x, rfl⟩, ⟨b1y, rfl⟩, ⟨b1z, rfl⟩⟩
  generalize clS b1 = b1s at b1I
  have b2I : IsS b2 (clS b2) := ⟨⟨b2x, rfl⟩, ⟨b2y, rfl⟩, ⟨b2z, rfl⟩⟩
  generalize clS b2 = b2s at b2I
  have b3I : IsS b3 (clS b3) := ⟨⟨b3x, rfl⟩, ⟨b3y, rfl⟩, ⟨b3z, rfl⟩⟩
  generalize clS b3 = b3s at b3I
  have b4I : IsS b4 (clS b4) := ⟨⟨b4x, rfl⟩, ⟨b4y, rfl⟩, ⟨b4z, rfl⟩⟩
  generalize clS b4 = b4s at b4I
  refine enter Try.func12 rfl rfl rfl rfl ?_
  intro a st
  have hss : (crn b1s b2s b3s b4s).length = 4 := rfl
  cases hq : validC 2 2 (crn b1s b2s b3s b4s)
  · skip
    (repeat' (first | (refine o_callV st rfl (toSpot_v _ _) rfl ?_; clear st; intro _ _ st) | (refine o_callV st rfl (specCorner_no _ _ _ _ _ _ _ _ b1I b2I b3I b4I hq _) rfl ?_; clear st; intro _ _ st) | (refine o_callV st rfl (implCorner_no _ _ _ _ _ _ _ _ b1I b2I b3I b4I hq _) rfl ?_; clear st; intro _ _ st) | (refine o_callV st rfl (eqSheet_zero _) rfl ?_; clear st; intro _ _ st) | (refine o_callV st rfl (eqSpotS_zero _) rfl ?_; clear st; intro _ _ st) | (refine o_callV st rfl (markSheet_zero _ _) rfl ?_; clear st; intro _ _ st) | (refine o_callV st rfl (heldSheet_zero _ (by omega) _) rfl ?_; clear st; intro _ _ st) | (refine c_seq ?_) | (refine c_region ?_) | (refine l_do ?_) | (refine l_doG st rfl rfl ?_) | (refine l_skipU st rfl rfl rfl ?_; clear st; intro _ st) | (refine l_skip st rfl rfl rfl rfl ?_; clear st; intro _ st) | (refine l_nil ?_) | (refine x_then ?_) | (refine x_thenR ?_) | (refine x_thenE ?_) | (refine wp_ret ?_) | (refine wp_skip ?_) | (refine c_condT st rfl ?_) | (refine c_condF st rfl ?_) | (refine o_move st rfl rfl ?_; clear st; intro _ st) | (refine o_assign st rfl rfl ?_; clear st; intro _ st) | (refine o_pickT st rfl rfl rfl ?_; clear st; intro _ st) | (refine o_pickF st rfl rfl rfl ?_; clear st; intro _ st) | (refine o_alloc st rfl ?_; clear st; intro _ _ _ st) | (refine o_boxA st rfl rfl ?_; clear st; intro _ _ _ st) | (refine o_boxS st rfl rfl rfl ?_; clear st; intro _ _ _ st) | (refine o_loadS st rfl (by repeat (first | exact At.here | apply At.there)) rfl rfl ?_; clear st; intro _ st) | (refine o_load3 st rfl (by repeat (first | exact At.here | apply At.there)) rfl ?_; clear st; intro _ st) | (refine o_load2 st rfl (by repeat (first | exact At.here | apply At.there)) rfl ?_; clear st; intro _ st) | (refine o_load4 st rfl (by repeat (first | exact At.here | apply At.there)) rfl ?_; clear st; intro _ st) | (refine o_storeS st rfl rfl rfl (by repeat (first | exact Upd.here | apply Upd.there)) rfl (by dsimp only [List.set]) ?_; clear st; intro _ _ st) | (refine o_storeW st rfl rfl (by repeat (first | exact Upd.here | apply Upd.there)) rfl rfl rfl ?_; clear st; intro _ _ st) | (refine o_extract st rfl rfl rfl ?_; clear st; intro _ st) | (refine o_neqB st rfl rfl rfl rfl ?_; clear st; intro _ st) | (refine o_notT st rfl rfl ?_; clear st; intro _ st) | (refine o_notF st rfl rfl ?_; clear st; intro _ st) | (refine o_lss st rfl rfl rfl ?_ ?_ <;> clear st <;> intro _ _ st <;> (try (exfalso; omega))) | (refine o_neqI st rfl rfl rfl ?_ ?_ <;> clear st <;> intro _ _ st <;> (try (exfalso; omega)))))
    replace st := St.fit (E' := [(4, _), (5, _), (6, _), (7, _)]) st (by repeat (first | exact trivial | refine And.intro rfl ?_))
    refine c_drawCA (F := (fun E L a' w' => ∃ (p0 : Nat), St w Try.f12.ntmps a' w' ((9, .pointer (some ⟨p0, 0, none⟩)) :: (10, .bool false) :: E) (⟨p0, true, .cells [.int .i64 (0), .int .i64 (0), .slice none 0 0].toArray 46 (0, 0)⟩ :: L))) (last := 14) hm_ (by decide +kernel) (by decide +kernel) st ?_ ?_
    · clear st; intro _ st
      refine h_val (i := 0) st (by repeat (first | exact List.Sublist.refl _ | apply List.Sublist.cons_cons | apply List.Sublist.cons | exact List.nil_sublist _)) (by decide +kernel) (by decide +kernel) rfl (by decide +kernel) rfl (by first | exact v_load3 st rfl (by repeat (first | exact At.here | apply At.there)) | exact v_loadS st rfl (by repeat (first | exact At.here | apply At.there)) rfl) ?_; clear st; intro _ st
      refine h_val (i := 2) st (by repeat (first | exact List.Sublist.refl _ | apply List.Sublist.cons_cons | apply List.Sublist.cons | exact List.nil_sublist _)) (by decide +kernel) (by decide +kernel) rfl (by decide +kernel) rfl (by first | exact v_load3 st rfl (by repeat (first | exact At.here | apply At.there)) | exact v_loadS st rfl (by repeat (first | exact At.here | apply At.there)) rfl) ?_; clear st; intro _ st
      refine h_val (i := 4) st (by repeat (first | exact List.Sublist.refl _ | apply List.Sublist.cons_cons | apply List.Sublist.cons | exact List.nil_sublist _)) (by decide +kernel) (by decide +kernel) rfl (by decide +kernel) rfl (by first | exact v_load3 st rfl (by repeat (first | exact At.here | apply At.there)) | exact v_loadS st rfl (by repeat (first | exact At.here | apply At.there)) rfl) ?_; clear st; intro _ st
      refine h_val (i := 6) st (by repeat (first | exact List.Sublist.refl _ | apply List.Sublist.cons_cons | apply List.Sublist.cons | exact List.nil_sublist _)) (by decide +kernel) (by decide +kernel) rfl (by decide +kernel) rfl (by first | exact v_load3 st rfl (by repeat (first | exact At.here | apply At.there)) | exact v_loadS st rfl (by repeat (first | exact At.here | apply At.there)) rfl) ?_; clear st; intro _ st
      refine h_two (i := 1) (i' := 12) (by decide +kernel) rfl rfl ?_ ?_
      · skip
        refine o_callV st rfl (toSpot_v _ _) rfl ?_; clear st; intro _ _ st
        refine k_held st (by repeat (first | exact List.Sublist.refl _ | apply List.Sublist.cons_cons | apply List.Sublist.cons | exact List.nil_sublist _)) ?_
        refine h_two (i := 3) (i' := 12) (by decide +kernel) rfl rfl ?_ ?_
        · skip
          refine o_callV st rfl (toSpot_v _ _) rfl ?_; clear st; intro _ _ st
          refine k_held st (by repeat (first | exact List.Sublist.refl _ | apply List.Sublist.cons_cons | apply List.Sublist.cons | exact List.nil_sublist _)) ?_
          refine h_two (i := 5) (i' := 12) (by decide +kernel) rfl rfl ?_ ?_
          · skip
            refine o_callV st rfl (toSpot_v _ _) rfl ?_; clear st; intro _ _ st
            refine k_held st (by repeat (first | exact List.Sublist.refl _ | apply List.Sublist.cons_cons | apply List.Sublist.cons | exact List.nil_sublist _)) ?_
            refine h_two (i := 7) (i' := 12) (by decide +kernel) rfl rfl ?_ ?_
            · skip
              refine o_callV st rfl (toSpot_v _ _) rfl ?_; clear st; intro _ _ st
              refine k_held st (by repeat (first | exact List.Sublist.refl _ | apply List.Sublist.cons_cons | apply List.Sublist.cons | exact List.nil_sublist _)) ?_
              refine h_two (i := 8) (i' := 12) (by decide +kernel) rfl rfl ?_ ?_
              · skip
                refine o_callV st rfl (specCorner_no _ _ _ _ _ _ _ _ b1I b2I b3I b4I hq _) rfl ?_; clear st; intro _ _ st
                refine k_held st (by repeat (first | exact List.Sublist.refl _ | apply List.Sublist.cons_cons | apply List.Sublist.cons | exact List.nil_sublist _)) ?_
                refine h_val (i := 9) st (by repeat (first | exact List.Sublist.refl _ | apply List.Sublist.cons_cons | apply List.Sublist.cons | exact List.nil_sublist _)) (by decide +kernel) (by decide +kernel) rfl (by decide +kernel) rfl (v_move st rfl) ?_; clear st; intro _ st
                refine h_val (i := 10) st (by repeat (first | exact List.Sublist.refl _ | apply List.Sublist.cons_cons | apply List.Sublist.cons | exact List.nil_sublist _)) (by decide +kernel) (by decide +kernel) rfl (by decide +kernel) rfl (v_extract st rfl rfl) ?_; clear st; intro _ st
                refine h_val (i := 11) st (by repeat (first | exact List.Sublist.refl _ | apply List.Sublist.cons_cons | apply List.Sublist.cons | exact List.nil_sublist _)) (by decide +kernel) (by decide +kernel) rfl (by decide +kernel) rfl (v_extract st rfl rfl) ?_; clear st; intro _ st
                refine h_one (i := 12) (by decide +kernel) rfl ?_
                refine o_alloc st rfl ?_; clear st; intro _ _ _ st
                refine k_held st (by repeat (first | exact List.Sublist.refl _ | apply List.Sublist.cons_cons | apply List.Sublist.cons | exact List.nil_sublist _)) ?_
                refine h_one (i := 13) (by decide +kernel) rfl ?_
                (first | (refine o_storeS st rfl rfl rfl (by repeat (first | exact Upd.here | apply Upd.there)) rfl (by dsimp only [List.set]) ?_; clear st; intro _ _ st) | (refine o_storeW st rfl rfl (by repeat (first | exact Upd.here | apply Upd.there)) rfl rfl rfl ?_; clear st; intro _ _ st))
                refine k_held st (by repeat (first | exact List.Sublist.refl _ | apply List.Sublist.cons_cons | apply List.Sublist.cons | exact List.nil_sublist _)) ?_
                refine h_one (i := 14) (by decide +kernel) rfl ?_
                (first | (refine o_assign st rfl rfl ?_; clear st; intro _ st))
                refine k_last ?_
                refine h_done (by decide +kernel) ?_
                refine ⟨rfl, ?_⟩
                have st := St.fore 9 st rfl (by repeat (first | exact Rem.here | apply Rem.there))
                exact ⟨_, (st.fit (by repeat (first | exact trivial | refine And.intro rfl ?_))).subL (by repeat (first | exact List.Sublist.refl _ | apply List.Sublist.cons_cons | apply List.Sublist.cons | exact List.nil_sublist _))⟩
              · skip
                refine o_alloc st rfl ?_; clear st; intro _ _ _ st
                refine k_held st (by repeat (first | exact List.Sublist.refl _ | apply List.Sublist.cons_cons | apply List.Sublist.cons | exact List.nil_sublist _)) ?_
                refine h_one (i := 8) (by decide +kernel) rfl ?_
                refine o_callV st rfl (specCorner_no _ _ _ _ _ _ _ _ b1I b2I b3I b4I hq _) rfl ?_; clear st; intro _ _ st
                refine k_held st (by repeat (first | exact List.Sublist.refl _ | apply List.Sublist.cons_cons | apply List.Sublist.cons | exact List.nil_sublist _)) ?_
                refine h_val (i := 9) st (by repeat (first | exact List.Sublist.refl _ | apply List.Sublist.cons_cons | apply List.Sublist.cons | exact List.nil_sublist _)) (by decide +kernel) (by decide +kernel) rfl (by decide +kernel) rfl (v_move st rfl) ?_; clear st; intro _ st
                refine h_val (i := 10) st (by repeat (first | exact List.Sublist.refl _ | apply List.Sublist.cons_cons | apply List.Sublist.cons | exact List.nil_sublist _)) (by decide +kernel) (by decide +kernel) rfl (by decide +kernel) rfl (v_extract st rfl rfl) ?_; clear st; intro _ st
                refine h_val (i := 11) st (by repeat (first | exact List.Sublist.refl _ | apply List.Sublist.cons_cons | apply List.Sublist.cons | exact List.nil_sublist _)) (by decide +kernel) (by decide +kernel) rfl (by decide +kernel) rfl (v_extract st rfl rfl) ?_; clear st; intro _ st
                refine h_one (i := 13) (by decide +kernel) rfl ?_
                (first | (refine o_storeS st rfl rfl rfl (by repeat (first | exact Upd.here | apply Upd.there)) rfl (by dsimp only [List.set]) ?_; clear st; intro _ _ st) | (refine o_storeW st rfl rfl (by repeat (first | exact Upd.here | apply Upd.there)) rfl rfl rfl ?_; clear st; intro _ _ st))
                refine k_held st (by repeat (first | exact List.Sublist.refl _ | apply List.Sublist.cons_cons | apply List.Sublist.cons | exact List.nil_sublist _)) ?_
                refine h_one (i := 14) (by decide +kernel) rfl ?_
                (first | (refine o_assign st rfl rfl ?_; clear st; intro _ st))
                refine k_last ?_
                refine h_done (by decide +kernel) ?_
                refine ⟨rfl, ?_⟩
                have st := St.fore 9 st rfl (by repeat (first | exact Rem.here | apply Rem.there))
                exact ⟨_, (st.fit (by repeat (first | exact trivial | refine And.intro rfl ?_))).subL (by repeat (first | exact List.Sublist.refl _ | apply List.Sublist.cons_cons | apply List.Sublist.cons | exact List.nil_sublist _))⟩
            · skip
              refine o_alloc st rfl ?_; clear st; intro _ _ _ st
              refine k_held st (by repeat (first | exact List.Sublist.refl _ | apply List.Sublist.cons_cons | apply List.Sublist.cons | exact List.nil_sublist _)) ?_
              refine h_one (i := 7) (by decide +kernel) rfl ?_
              refine o_callV st rfl (toSpot_v _ _) rfl ?_; clear st; intro _ _ st
              refine k_held st (by repeat (first | exact List.Sublist.refl _ | apply List.Sublist.cons_cons | apply List.Sublist.cons | exact List.nil_sublist _)) ?_
              refine h_one (i := 8) (by decide +kernel) rfl ?_
              refine o_callV st rfl (specCorner_no _ _ _ _ _ _ _ _ b1I b2I b3I b4I hq _) rfl ?_; clear st; intro _ _ st
              refine k_held st (by repeat (first | exact List.Sublist.refl _ | apply List.Sublist.cons_cons | apply List.Sublist.cons | exact List.nil_sublist _)) ?_
              refine h_val (i := 9) st (by repeat (first | exact List.Sublist.refl _ | apply List.Sublist.cons_cons | apply List.Sublist.cons | exact List.nil_sublist _)) (by decide +kernel) (by decide +kernel) rfl (by decide +kernel) rfl (v_move st rfl) ?_; clear st; intro _ st
              refine h_val (i := 10) st (by repeat (first | exact List.Sublist.refl _ | apply List.Sublist.cons_cons | apply List.Sublist.cons | exact List.nil_sublist _)) (by decide +kernel) (by decide +kernel) rfl (by decide +kernel) rfl (v_extract st rfl rfl) ?_; clear st; intro _ st
              refine h_val (i := 11) st (by repeat (first | exact List.Sublist.refl _ | apply List.Sublist.cons_cons | apply List.Sublist.cons | exact List.nil_sublist _)) (by decide +kernel) (by decide +kernel) rfl (by decide +kernel) rfl (v_extract st rfl rfl) ?_; clear st; intro _ st
              refine h_one (i := 13) (by decide +kernel) rfl ?_
              (first | (refine o_storeS st rfl rfl rfl (by repeat (first | exact Upd.here | apply Upd.there)) rfl (by dsimp only [List.set]) ?_; clear st; intro _ _ st) | (refine o_storeW st rfl rfl (by repeat (first | exact Upd.here | apply Upd.there)) rfl rfl rfl ?_; clear st; intro _ _ st))
              refine k_held st (by repeat (first | exact List.Sublist.refl _ | apply List.Sublist.cons_cons | apply List.Sublist.cons | exact List.nil_sublist _)) ?_
              refine h_one (i := 14) (by decide +kernel) rfl ?_
              (first | (refine o_assign st rfl rfl ?_; clear st; intro _ st))
              refine k_last ?_
              refine h_done (by decide +kernel) ?_
              refine ⟨rfl, ?_⟩
              have st := St.fore 9 st rfl (by repeat (first | exact Rem.here | apply Rem.there))
              exact ⟨_, (st.fit (by repeat (first | exact trivial | refine And.intro rfl ?_))).subL (by repeat (first | exact List.Sublist.refl _ | apply List.Sublist.cons_cons | apply List.Sublist.cons | exact List.nil_sublist _))⟩
          · skip
            refine o_alloc st rfl ?_; clear st; intro _ _ _ st
            refine k_held st (by repeat (first | exact List.Sublist.refl _ | apply List.Sublist.cons_cons | apply List.Sublist.cons | exact List.nil_sublist _)) ?_
            refine h_one (i := 5) (by decide +kernel) rfl ?_
            refine o_callV st rfl (toSpot_v _ _) rfl ?_; clear st; intro _ _ st
            refine k_held st (by repeat (first | exact List.Sublist.refl _ | apply List.Sublist.cons_cons | apply List.Sublist.cons | exact List.nil_sublist _)) ?_
            refine h_one (i := 7) (by decide +kernel) rfl ?_
            refine o_callV st rfl (toSpot_v _ _) rfl ?_; clear st; intro _ _ st
            refine k_held st (by repeat (first | exact List.Sublist.refl _ | apply List.Sublist.cons_cons | apply List.Sublist.cons | exact List.nil_sublist _)) ?_
            refine h_one (i := 8) (by decide +kernel) rfl ?_
            refine o_callV st rfl (specCorner_no _ _ _ _ _ _ _ _ b1I b2I b3I b4I hq _) rfl ?_; clear st; intro _ _ st
            refine k_held st (by repeat (first | exact List.Sublist.refl _ | apply List.Sublist.cons_cons | apply List.Sublist.cons | exact List.nil_sublist _)) ?_
            refine h_val (i := 9) st (by repeat (first | exact List.Sublist.refl _ | apply List.Sublist.cons_cons | apply List.Sublist.cons | exact List.nil_sublist _)) (by decide +kernel) (by decide +kernel) rfl (by decide +kernel) rfl (v_move st rfl) ?_; clear st; intro _ st
            refine h_val (i := 10) st (by repeat (first | exact List.Sublist.refl _ | apply List.Sublist.cons_cons | apply List.Sublist.cons | exact List.nil_sublist _)) (by decide +kernel) (by decide +kernel) rfl (by decide +kernel) rfl (v_extract st rfl rfl) ?_; clear st; intro _ st
            refine h_val (i := 11) st (by repeat (first | exact List.Sublist.refl _ | apply List.Sublist.cons_cons | apply List.Sublist.cons | exact List.nil_sublist _)) (by decide +kernel) (by decide +kernel) rfl (by decide +kernel) rfl (v_extract st rfl rfl) ?_; clear st; intro _ st
            refine h_one (i := 13) (by decide +kernel) rfl ?_
            (first | (refine o_storeS st rfl rfl rfl (by repeat (first | exact Upd.here | apply Upd.there)) rfl (by dsimp only [List.set]) ?_; clear st; intro _ _ st) | (refine o_storeW st rfl rfl (by repeat (first | exact Upd.here | apply Upd.there)) rfl rfl rfl ?_; clear st; intro _ _ st))
            refine k_held st (by repeat (first | exact List.Sublist.refl _ | apply List.Sublist.cons_cons | apply List.Sublist.cons | exact List.nil_sublist _)) ?_
            refine h_one (i := 14) (by decide +kernel) rfl ?_
            (first | (refine o_assign st rfl rfl ?_; clear st; intro _ st))
            refine k_last ?_
            refine h_done (by decide +kernel) ?_
            refine ⟨rfl, ?_⟩
            have st := St.fore 9 st rfl (by repeat (first | exact Rem.here | apply Rem.there))
            exact ⟨_, (st.fit (by repeat (first | exact trivial | refine And.intro rfl ?_))).subL (by repeat (first | exact List.Sublist.refl _ | apply List.Sublist.cons_cons | apply List.Sublist.cons | exact List.nil_sublist _))⟩
        · skip
          refine o_alloc st rfl ?_; clear st; intro _ _ _ st
          refine k_held st (by repeat (first | exact List.Sublist.refl _ | apply List.Sublist.cons_cons | apply List.Sublist.cons | exact List.nil_sublist _)) ?_
          refine h_one (i := 3) (by decide +kernel) rfl ?_
          refine o_callV st rfl (toSpot_v _ _) rfl ?_; clear st; intro _ _ st
          refine k_held st (by repeat (first | exact List.Sublist.refl _ | apply List.Sublist.cons_cons | apply List.Sublist.cons | exact List.nil_sublist _)) ?_
          refine h_one (i := 5) (by decide +kernel) rfl ?_
          refine o_callV st rfl (toSpot_v _ _) rfl ?_; clear st; intro _ _ st
          refine k_held st (by repeat (first | exact List.Sublist.refl _ | apply List.Sublist.cons_cons | apply List.Sublist.cons | exact List.nil_sublist _)) ?_
          refine h_one (i := 7) (by decide +kernel) rfl ?_
          refine o_callV st rfl (toSpot_v _ _) rfl ?_; clear st; intro _ _ st
          refine k_held st (by repeat (first | exact List.Sublist.refl _ | apply List.Sublist.cons_cons | apply List.Sublist.cons | exact List.nil_sublist _)) ?_
          refine h_one (i := 8) (by decide +kernel) rfl ?_
          refine o_callV st rfl (specCorner_no _ _ _ _ _ _ _ _ b1I b2I b3I b4I hq _) rfl ?_; clear st; intro _ _ st
          refine k_held st (by repeat (first | exact List.Sublist.refl _ | apply List.Sublist.cons_cons | apply List.Sublist.cons | exact List.nil_sublist _)) ?_
          refine h_val (i := 9) st (by repeat (first | exact List.Sublist.refl _ | apply List.Sublist.cons_cons | apply List.Sublist.cons | exact List.nil_sublist _)) (by decide +kernel) (by decide +kernel) rfl (by decide +kernel) rfl (v_move st rfl) ?_; clear st; intro _ st
          refine h_val (i := 10) st (by repeat (first | exact List.Sublist.refl _ | apply List.Sublist.cons_cons | apply List.Sublist.cons | exact List.nil_sublist _)) (by decide +kernel) (by decide +kernel) rfl (by decide +kernel) rfl (v_extract st rfl rfl) ?_; clear st; intro _ st
          refine h_val (i := 11) st (by repeat (first | exact List.Sublist.refl _ | apply List.Sublist.cons_cons | apply List.Sublist.cons | exact List.nil_sublist _)) (by decide +kernel) (by decide +kernel) rfl (by decide +kernel) rfl (v_extract st rfl rfl) ?_; clear st; intro _ st
          refine h_one (i := 13) (by decide +kernel) rfl ?_
          (first | (refine o_storeS st rfl rfl rfl (by repeat (first | exact Upd.here | apply Upd.there)) rfl (by dsimp only [List.set]) ?_; clear st; intro _ _ st) | (refine o_storeW st rfl rfl (by repeat (first | exact Upd.here | apply Upd.there)) rfl rfl rfl ?_; clear st; intro _ _ st))
          refine k_held st (by repeat (first | exact List.Sublist.refl _ | apply List.Sublist.cons_cons | apply List.Sublist.cons | exact List.nil_sublist _)) ?_
          refine h_one (i := 14) (by decide +kernel) rfl ?_
          (first | (refine o_assign st rfl rfl ?_; clear st; intro _ st))
          refine k_last ?_
          refine h_done (by decide +kernel) ?_
          refine ⟨rfl, ?_⟩
          have st := St.fore 9 st rfl (by repeat (first | exact Rem.here | apply Rem.there))
          exact ⟨_, (st.fit (by repeat (first | exact trivial | refine And.intro rfl ?_))).subL (by repeat (first | exact List.Sublist.refl _ | apply List.Sublist.cons_cons | apply List.Sublist.cons | exact List.nil_sublist _))⟩
      · skip
        refine o_alloc st rfl ?_; clear st; intro _ _ _ st
        refine k_held st (by repeat (first | exact List.Sublist.refl _ | apply List.Sublist.cons_cons | apply List.Sublist.cons | exact List.nil_sublist _)) ?_
        refine h_one (i := 1) (by decide +kernel) rfl ?_
        refine o_callV st rfl (toSpot_v _ _) rfl ?_; clear st; intro _ _ st
        refine k_held st (by repeat (first | exact List.Sublist.refl _ | apply List.Sublist.cons_cons | apply List.Sublist.cons | exact List.nil_sublist _)) ?_
        refine h_one (i := 3) (by decide +kernel) rfl ?_
        refine o_callV st rfl (toSpot_v _ _) rfl ?_; clear st; intro _ _ st
        refine k_held st (by repeat (first | exact List.Sublist.refl _ | apply List.Sublist.cons_cons | apply List.Sublist.cons | exact List.nil_sublist _)) ?_
        refine h_one (i := 5) (by decide +kernel) rfl ?_
        refine o_callV st rfl (toSpot_v _ _) rfl ?_; clear st; intro _ _ st
        refine k_held st (by repeat (first | exact List.Sublist.refl _ | apply List.Sublist.cons_cons | apply List.Sublist.cons | exact List.nil_sublist _)) ?_
        refine h_one (i := 7) (by decide +kernel) rfl ?_
        refine o_callV st rfl (toSpot_v _ _) rfl ?_; clear st; intro _ _ st
        refine k_held st (by repeat (first | exact List.Sublist.refl _ | apply List.Sublist.cons_cons | apply List.Sublist.cons | exact List.nil_sublist _)) ?_
        refine h_one (i := 8) (by decide +kernel) rfl ?_
        refine o_callV st rfl (specCorner_no _ _ _ _ _ _ _ _ b1I b2I b3I b4I hq _) rfl ?_; clear st; intro _ _ st
        refine k_held st (by repeat (first | exact List.Sublist.refl _ | apply List.Sublist.cons_cons | apply List.Sublist.cons | exact List.nil_sublist _)) ?_
        refine h_val (i := 9) st (by repeat (first | exact List.Sublist.refl _ | apply List.Sublist.cons_cons | apply List.Sublist.cons | exact List.nil_sublist _)) (by decide +kernel) (by decide +kernel) rfl (by decide +kernel) rfl (v_move st rfl) ?_; clear st; intro _ st
        refine h_val (i := 10) st (by repeat (first | exact List.Sublist.refl _ | apply List.Sublist.cons_cons | apply List.Sublist.cons | exact List.nil_sublist _)) (by decide +kernel) (by decide +kernel) rfl (by decide +kernel) rfl (v_extract st rfl rfl) ?_; clear st; intro _ st
        refine h_val (i := 11) st (by repeat (first | exact List.Sublist.refl _ | apply List.Sublist.cons_cons | apply List.Sublist.cons | exact List.nil_sublist _)) (by decide +kernel) (by decide +kernel) rfl (by decide +kernel) rfl (v_extract st rfl rfl) ?_; clear st; intro _ st
        refine h_one (i := 13) (by decide +kernel) rfl ?_
        (first | (refine o_storeS st rfl rfl rfl (by repeat (first | exact Upd.here | apply Upd.there)) rfl (by dsimp only [List.set]) ?_; clear st; intro _ _ st) | (refine o_storeW st rfl rfl (by repeat (first | exact Upd.here | apply Upd.there)) rfl rfl rfl ?_; clear st; intro _ _ st))
        refine k_held st (by repeat (first | exact List.Sublist.refl _ | apply List.Sublist.cons_cons | apply List.Sublist.cons | exact List.nil_sublist _)) ?_
        refine h_one (i := 14) (by decide +kernel) rfl ?_
        (first | (refine o_assign st rfl rfl ?_; clear st; intro _ st))
        refine k_last ?_
        refine h_done (by decide +kernel) ?_
        refine ⟨rfl, ?_⟩
        have st := St.fore 9 st rfl (by repeat (first | exact Rem.here | apply Rem.there))
        exact ⟨_, (st.fit (by repeat (first | exact trivial | refine And.intro rfl ?_))).subL (by repeat (first | exact List.Sublist.refl _ | apply List.Sublist.cons_cons | apply List.Sublist.cons | exact List.nil_sublist _))⟩
    clear st
    rintro _ _ ⟨_, st⟩
    (repeat' (first | (refine o_callV st rfl (toSpot_v _ _) rfl ?_; clear st; intro _ _ st) | (refine o_callV st rfl (specCorner_no _ _ _ _ _ _ _ _ b1I b2I b3I b4I hq _) rfl ?_; clear st; intro _ _ st) | (refine o_callV st rfl (implCorner_no _ _ _ _ _ _ _ _ b1I b2I b3I b4I hq _) rfl ?_; clear st; intro _ _ st) | (refine o_callV st rfl (eqSheet_zero _) rfl ?_; clear st; intro _ _ st) | (refine o_callV st rfl (eqSpotS_zero _) rfl ?_; clear st; intro _ _ st) | (refine o_callV st rfl (markSheet_zero _ _) rfl ?_; clear st; intro _ _ st) | (refine o_callV st rfl (heldSheet_zero _ (by omega) _) rfl ?_; clear st; intro _ _ st) | (refine c_seq ?_) | (refine c_region ?_) | (refine l_do ?_) | (refine l_doG st rfl rfl ?_) | (refine l_skipU st rfl rfl rfl ?_; clear st; intro _ st) | (refine l_skip st rfl rfl rfl rfl ?_; clear st; intro _ st) | (refine l_nil ?_) | (refine x_then ?_) | (refine x_thenR ?_) | (refine x_thenE ?_) | (refine wp_ret ?_) | (refine wp_skip ?_) | (refine c_condT st rfl ?_) | (refine c_condF st rfl ?_) | (refine o_move st rfl rfl ?_; clear st; intro _ st) | (refine o_assign st rfl rfl ?_; clear st; intro _ st) | (refine o_pickT st rfl rfl rfl ?_; clear st; intro _ st) | (refine o_pickF st rfl rfl rfl ?_; clear st; intro _ st) | (refine o_alloc st rfl ?_; clear st; intro _ _ _ st) | (refine o_boxA st rfl rfl ?_; clear st; intro _ _ _ st) | (refine o_boxS st rfl rfl rfl ?_; clear st; intro _ _ _ st) | (refine o_loadS st rfl (by repeat (first | exact At.here | apply At.there)) rfl rfl ?_; clear st; intro _ st) | (refine o_load3 st rfl (by repeat (first | exact At.here | apply At.there)) rfl ?_; clear st; intro _ st) | (refine o_load2 st rfl (by repeat (first | exact At.here | apply At.there)) rfl ?_; clear st; intro _ st) | (refine o_load4 st rfl (by repeat (first | exact At.here | apply At.there)) rfl ?_; clear st; intro _ st) | (refine o_storeS st rfl rfl rfl (by repeat (first | exact Upd.here | apply Upd.there)) rfl (by dsimp only [List.set]) ?_; clear st; intro _ _ st) | (refine o_storeW st rfl rfl (by repeat (first | exact Upd.here | apply Upd.there)) rfl rfl rfl ?_; clear st; intro _ _ st) | (refine o_extract st rfl rfl rfl ?_; clear st; intro _ st) | (refine o_neqB st rfl rfl rfl rfl ?_; clear st; intro _ st) | (refine o_notT st rfl rfl ?_; clear st; intro _ st) | (refine o_notF st rfl rfl ?_; clear st; intro _ st) | (refine o_lss st rfl rfl rfl ?_ ?_ <;> clear st <;> intro _ _ st <;> (try (exfalso; omega))) | (refine o_neqI st rfl rfl rfl ?_ ?_ <;> clear st <;> intro _ _ st <;> (try (exfalso; omega)))))
    replace st := St.fit (E' := [(4, _), (5, _), (6, _), (7, _), (9, _), (10, _)]) st (by repeat (first | exact trivial | refine And.intro rfl ?_))
    refine c_drawCA (F := (fun E L a' w' => ∃ (p0 : Nat), St w Try.f12.ntmps a' w' ((11, .pointer (some ⟨p0, 0, none⟩)) :: (12, .bool false) :: E) (⟨p0, true, .cells [.int .i64 (0), .int .i64 (0), .slice none 0 0].toArray 46 (0, 0)⟩ :: L))) (last := 14) hm_ (by decide +kernel) (by decide +kernel) st ?_ ?_
    · clear st; intro _ st
      refine h_val (i := 0) st (by repeat (first | exact List.Sublist.refl _ | apply List.Sublist.cons_cons | apply List.Sublist.cons | exact List.nil_sublist _)) (by decide +kernel) (by decide +kernel) rfl (by decide +kernel) rfl (by first | exact v_load3 st rfl (by repeat (first | exact At.here | apply At.there)) | exact v_loadS st rfl (by repeat (first | exact At.here | apply At.there)) rfl) ?_; clear st; intro _ st
      refine h_val (i := 2) st (by repeat (first | exact List.Sublist.refl _ | apply List.Sublist.cons_cons | apply List.Sublist.cons | exact List.nil_sublist _)) (by decide +kernel) (by decide +kernel) rfl (by decide +kernel) rfl (by first | exact v_load3 st rfl (by repeat (first | exact At.here | apply At.there)) | exact v_loadS st rfl (by repeat (first | exact At.here | apply At.there)) rfl) ?_; clear st; intro _ st
      refine h_val (i := 4) st (by repeat (first | exact List.Sublist.refl _ | apply List.Sublist.cons_cons | apply List.Sublist.cons | exact List.nil_sublist _)) (by decide +kernel) (by decide +kernel) rfl (by decide +kernel) rfl (by first | exact v_load3 st rfl (by repeat (first | exact At.here | apply At.there)) | exact v_loadS st rfl (by repeat (first | exact At.here | apply At.there)) rfl) ?_; clear st; intro _ st
      refine h_val (i := 6) st (by repeat (first | exact List.Sublist.refl _ | apply List.Sublist.cons_cons | apply List.Sublist.cons | exact List.nil_sublist _)) (by decide +kernel) (by decide +kernel) rfl (by decide +kernel) rfl (by first | exact v_load3 st rfl (by repeat (first | exact At.here | apply At.there)) | exact v_loadS st rfl (by repeat (first | exact At.here | apply At.there)) rfl) ?_; clear st; intro _ st
      refine h_two (i := 1) (i' := 12) (by decide +kernel) rfl rfl ?_ ?_
      · skip
        refine o_callV st rfl (toSpot_v _ _) rfl ?_; clear st; intro _ _ st
        refine k_held st (by repeat (first | exact List.Sublist.refl _ | apply List.Sublist.cons_cons | apply List.Sublist.cons | exact List.nil_sublist _)) ?_
        refine h_two (i := 3) (i' := 12) (by decide +kernel) rfl rfl ?_ ?_
        · skip
          refine o_callV st rfl (toSpot_v _ _) rfl ?_; clear st; intro _ _ st
          refine k_held st (by repeat (first | exact List.Sublist.refl _ | apply List.Sublist.cons_cons | apply List.Sublist.cons | exact List.nil_sublist _)) ?_
          refine h_two (i := 5) (i' := 12) (by decide +kernel) rfl rfl ?_ ?_
          · skip
            refine o_callV st rfl (toSpot_v _ _) rfl ?_; clear st; intro _ _ st
            refine k_held st (by repeat (first | exact List.Sublist.refl _ | apply List.Sublist.cons_cons | apply List.Sublist.cons | exact List.nil_sublist _)) ?_
            refine h_two (i := 7) (i' := 12) (by decide +kernel) rfl rfl ?_ ?_
            · skip
              refine o_callV st rfl (toSpot_v _ _) rfl ?_; clear st; intro _ _ st
              refine k_held st (by repeat (first | exact List.Sublist.refl _ | apply List.Sublist.cons_cons | apply List.Sublist.cons | exact List.nil_sublist _)) ?_
              refine h_two (i := 8) (i' := 12) (by decide +kernel) rfl rfl ?_ ?_
              · skip
                refine o_callV st rfl (implCorner_no _ _ _ _ _ _ _ _ b1I b2I b3I b4I hq _) rfl ?_; clear st; intro _ _ st
                refine k_held st (by repeat (first | exact List.Sublist.refl _ | apply List.Sublist.cons_cons | apply List.Sublist.cons | exact List.nil_sublist _)) ?_
                refine h_val (i := 9) st (by repeat (first | exact List.Sublist.refl _ | apply List.Sublist.cons_cons | apply List.Sublist.cons | exact List.nil_sublist _)) (by decide +kernel) (by decide +kernel) rfl (by decide +kernel) rfl (v_move st rfl) ?_; clear st; intro _ st
                refine h_val (i := 10) st (by repeat (first | exact List.Sublist.refl _ | apply List.Sublist.cons_cons | apply List.Sublist.cons | exact List.nil_sublist _)) (by decide +kernel) (by decide +kernel) rfl (by decide +kernel) rfl (v_extract st rfl rfl) ?_; clear st; intro _ st
                refine h_val (i := 11) st (by repeat (first | exact List.Sublist.refl _ | apply List.Sublist.cons_cons | apply List.Sublist.cons | exact List.nil_sublist _)) (by decide +kernel) (by decide +kernel) rfl (by decide +kernel) rfl (v_extract st rfl rfl) ?_; clear st; intro _ st
                refine h_one (i := 12) (by decide +kernel) rfl ?_
                refine o_alloc st rfl ?_; clear st; intro _ _ _ st
                refine k_held st (by repeat (first | exact List.Sublist.refl _ | apply List.Sublist.cons_cons | apply List.Sublist.cons | exact List.nil_sublist _)) ?_
                refine h_one (i := 13) (by decide +kernel) rfl ?_
                (first | (refine o_storeS st rfl rfl rfl (by repeat (first | exact Upd.here | apply Upd.there)) rfl (by dsimp only [List.set]) ?_; clear st; intro _ _ st) | (refine o_storeW st rfl rfl (by repeat (first | exact Upd.here | apply Upd.there)) rfl rfl rfl ?_; clear st; intro _ _ st))
                refine k_held st (by repeat (first | exact List.Sublist.refl _ | apply List.Sublist.cons_cons | apply List.Sublist.cons | exact List.nil_sublist _)) ?_
                refine h_one (i := 14) (by decide +kernel) rfl ?_
                (first | (refine o_assign st rfl rfl ?_; clear st; intro _ st))
                refine k_last ?_
                refine h_done (by decide +kernel) ?_
                refine ⟨rfl, ?_⟩
                have st := St.fore 11 st rfl (by repeat (first | exact Rem.here | apply Rem.there))
                exact ⟨_, (st.fit (by repeat (first | exact trivial | refine And.intro rfl ?_))).subL (by repeat (first | exact List.Sublist.refl _ | apply List.Sublist.cons_cons | apply List.Sublist.cons | exact List.nil_sublist _))⟩
              · skip
                refine o_alloc st rfl ?_; clear st; intro _ _ _ st
                refine k_held st (by repeat (first | exact List.Sublist.refl _ | apply List.Sublist.cons_cons | apply List.Sublist.cons | exact List.nil_sublist _)) ?_
                refine h_one (i := 8) (by decide +kernel) rfl ?_
                refine o_callV st rfl (implCorner_no _ _ _ _ _ _ _ _ b1I b2I b3I b4I hq _) rfl ?_; clear st; intro _ _ st
                refine k_held st (by repeat (first | exact List.Sublist.refl _ | apply List.Sublist.cons_cons | apply List.Sublist.cons | exact List.nil_sublist _)) ?_
                refine h_val (i := 9) st (by repeat (first | exact List.Sublist.refl _ | apply List.Sublist.cons_cons | apply List.Sublist.cons | exact List.nil_sublist _)) (by decide +kernel) (by decide +kernel) rfl (by decide +kernel) rfl (v_move st rfl) ?_; clear st; intro _ st
                refine h_val (i := 10) st (by repeat (first | exact List.Sublist.refl _ | apply List.Sublist.cons_cons | apply List.Sublist.cons | exact List.nil_sublist _)) (by decide +kernel) (by decide +kernel) rfl (by decide +kernel) rfl (v_extract st rfl rfl) ?_; clear st; intro _ st
                refine h_val (i := 11) st (by repeat (first | exact List.Sublist.refl _ | apply List.Sublist.cons_cons | apply List.Sublist.cons | exact List.nil_sublist _)) (by decide +kernel) (by decide +kernel) rfl (by decide +kernel) rfl (v_extract st rfl rfl) ?_; clear st; intro _ st
                refine h_one (i := 13) (by decide +kernel) rfl ?_
                (first | (refine o_storeS st rfl rfl rfl (by repeat (first | exact Upd.here | apply Upd.there)) rfl (by dsimp only [List.set]) ?_; clear st; intro _ _ st) | (refine o_storeW st rfl rfl (by repeat (first | exact Upd.here | apply Upd.there)) rfl rfl rfl ?_; clear st; intro _ _ st))
                refine k_held st (by repeat (first | exact List.Sublist.refl _ | apply List.Sublist.cons_cons | apply List.Sublist.cons | exact List.nil_sublist _)) ?_
                refine h_one (i := 14) (by decide +kernel) rfl ?_
                (first | (refine o_assign st rfl rfl ?_; clear st; intro _ st))
                refine k_last ?_
                refine h_done (by decide +kernel) ?_
                refine ⟨rfl, ?_⟩
                have st := St.fore 11 st rfl (by repeat (first | exact Rem.here | apply Rem.there))
                exact ⟨_, (st.fit (by repeat (first | exact trivial | refine And.intro rfl ?_))).subL (by repeat (first | exact List.Sublist.refl _ | apply List.Sublist.cons_cons | apply List.Sublist.cons | exact List.nil_sublist _))⟩
            · skip
              refine o_alloc st rfl ?_; clear st; intro _ _ _ st
              refine k_held st (by repeat (first | exact List.Sublist.refl _ | apply List.Sublist.cons_cons | apply List.Sublist.cons | exact List.nil_sublist _)) ?_
              refine h_one (i := 7) (by decide +kernel) rfl ?_
              refine o_callV st rfl (toSpot_v _ _) rfl ?_; clear st; intro _ _ st
              refine k_held st (by repeat (first | exact List.Sublist.refl _ | apply List.Sublist.cons_cons | apply List.Sublist.cons | exact List.nil_sublist _)) ?_
              refine h_one (i := 8) (by decide +kernel) rfl ?_
              refine o_callV st rfl (implCorner_no _ _ _ _ _ _ _ _ b1I b2I b3I b4I hq _) rfl ?_; clear st; intro _ _ st
              refine k_held st (by repeat (first | exact List.Sublist.refl _ | apply List.Sublist.cons_cons | apply List.Sublist.cons | exact List.nil_sublist _)) ?_
              refine h_val (i := 9) st (by repeat (first | exact List.Sublist.refl _ | apply List.Sublist.cons_cons | apply List.Sublist.cons | exact List.nil_sublist _)) (by decide +kernel) (by decide +kernel) rfl (by decide +kernel) rfl (v_move st rfl) ?_; clear st; intro _ st
              refine h_val (i := 10) st (by repeat (first | exact List.Sublist.refl _ | apply List.Sublist.cons_cons | apply List.Sublist.cons | exact List.nil_sublist _)) (by decide +kernel) (by decide +kernel) rfl (by decide +kernel) rfl (v_extract st rfl rfl) ?_; clear st; intro _ st
              refine h_val (i := 11) st (by repeat (first | exact List.Sublist.refl _ | apply List.Sublist.cons_cons | apply List.Sublist.cons | exact List.nil_sublist _)) (by decide +kernel) (by decide +kernel) rfl (by decide +kernel) rfl (v_extract st rfl rfl) ?_; clear st; intro _ st
              refine h_one (i := 13) (by decide +kernel) rfl ?_
              (first | (refine o_storeS st rfl rfl rfl (by repeat (first | exact Upd.here | apply Upd.there)) rfl (by dsimp only [List.set]) ?_; clear st; intro _ _ st) | (refine o_storeW st rfl rfl (by repeat (first | exact Upd.here | apply Upd.there)) rfl rfl rfl ?_; clear st; intro _ _ st))
              refine k_held st (by repeat (first | exact List.Sublist.refl _ | apply List.Sublist.cons_cons | apply List.Sublist.cons | exact List.nil_sublist _)) ?_
              refine h_one (i := 14) (by decide +kernel) rfl ?_
              (first | (refine o_assign st rfl rfl ?_; clear st; intro _ st))
              refine k_last ?_
              refine h_done (by decide +kernel) ?_
              refine ⟨rfl, ?_⟩
              have st := St.fore 11 st rfl (by repeat (first | exact Rem.here | apply Rem.there))
              exact ⟨_, (st.fit (by repeat (first | exact trivial | refine And.intro rfl ?_))).subL (by repeat (first | exact List.Sublist.refl _ | apply List.Sublist.cons_cons | apply List.Sublist.cons | exact List.nil_sublist _))⟩
          · skip
            refine o_alloc st rfl ?_; clear st; intro _ _ _ st
            refine k_held st (by repeat (first | exact List.Sublist.refl _ | apply List.Sublist.cons_cons | apply List.Sublist.cons | exact List.nil_sublist _)) ?_
            refine h_one (i := 5) (by decide +kernel) rfl ?_
            refine o_callV st rfl (toSpot_v _ _) rfl ?_; clear st; intro _ _ st
            refine k_held st (by repeat (first | exact List.Sublist.refl _ | apply List.Sublist.cons_cons | apply List.Sublist.cons | exact List.nil_sublist _)) ?_
            refine h_one (i := 7) (by decide +kernel) rfl ?_
            refine o_callV st rfl (toSpot_v _ _) rfl ?_; clear st; intro _ _ st
            refine k_held st (by repeat (first | exact List.Sublist.refl _ | apply List.Sublist.cons_cons | apply List.Sublist.cons | exact List.nil_sublist _)) ?_
            refine h_one (i := 8) (by decide +kernel) rfl ?_
            refine o_callV st rfl (implCorner_no _ _ _ _ _ _ _ _ b1I b2I b3I b4I hq _) rfl ?_; clear st; intro _ _ st
            refine k_held st (by repeat (first | exact List.Sublist.refl _ | apply List.Sublist.cons_cons | apply List.Sublist.cons | exact List.nil_sublist _)) ?_
            refine h_val (i := 9) st (by repeat (first | exact List.Sublist.refl _ | apply List.Sublist.cons_cons | apply List.Sublist.cons | exact List.nil_sublist _)) (by decide +kernel) (by decide +kernel) rfl (by decide +kernel) rfl (v_move st rfl) ?_; clear st; intro _ st
            refine h_val (i := 10) st (by repeat (first | exact List.Sublist.refl _ | apply List.Sublist.cons_cons | apply List.Sublist.cons | exact List.nil_sublist _)) (by decide +kernel) (by decide +kernel) rfl (by decide +kernel) rfl (v_extract st rfl rfl) ?_; clear st; intro _ st
            refine h_val (i := 11) st (by repeat (first | exact List.Sublist.refl _ | apply List.Sublist.cons_cons | apply List.Sublist.cons | exact List.nil_sublist _)) (by decide +kernel) (by decide +kernel) rfl (by decide +kernel) rfl (v_extract st rfl rfl) ?_; clear st; intro _ st
            refine h_one (i := 13) (by decide +kernel) rfl ?_
            (first | (refine o_storeS st rfl rfl rfl (by repeat (first | exact Upd.here | apply Upd.there)) rfl (by dsimp only [List.set]) ?_; clear st; intro _ _ st) | (refine o_storeW st rfl rfl (by repeat (first | exact Upd.here | apply Upd.there)) rfl rfl rfl ?_; clear st; intro _ _ st))
            refine k_held st (by repeat (first | exact List.Sublist.refl _ | apply List.Sublist.cons_cons | apply List.Sublist.cons | exact List.nil_sublist _)) ?_
            refine h_one (i := 14) (by decide +kernel) rfl ?_
            (first | (refine o_assign st rfl rfl ?_; clear st; intro _ st))
            refine k_last ?_
            refine h_done (by decide +kernel) ?_
            refine ⟨rfl, ?_⟩
            have st := St.fore 11 st rfl (by repeat (first | exact Rem.here | apply Rem.there))
            exact ⟨_, (st.fit (by repeat (first | exact trivial | refine And.intro rfl ?_))).subL (by repeat (first | exact List.Sublist.refl _ | apply List.Sublist.cons_cons | apply List.Sublist.cons | exact List.nil_sublist _))⟩
        · skip
          refine o_alloc st rfl ?_; clear st; intro _ _ _ st
          refine k_held st (by repeat (first | exact List.Sublist.refl _ | apply List.Sublist.cons_cons | apply List.Sublist.cons | exact List.nil_sublist _)) ?_
          refine h_one (i := 3) (by decide +kernel) rfl ?_
          refine o_callV st rfl (toSpot_v _ _) rfl ?_; clear st; intro _ _ st
          refine k_held st (by repeat (first | exact List.Sublist.refl _ | apply List.Sublist.cons_cons | apply List.Sublist.cons | exact List.nil_sublist _)) ?_
          refine h_one (i := 5) (by decide +kernel) rfl ?_
          refine o_callV st rfl (toSpot_v _ _) rfl ?_; clear st; intro _ _ st
          refine k_held st (by repeat (first | exact List.Sublist.refl _ | apply List.Sublist.cons_cons | apply List.Sublist.cons | exact List.nil_sublist _)) ?_
          refine h_one (i := 7) (by decide +kernel) rfl ?_
          refine o_callV st rfl (toSpot_v _ _) rfl ?_; clear st; intro _ _ st
          refine k_held st (by repeat (first | exact List.Sublist.refl _ | apply List.Sublist.cons_cons | apply List.Sublist.cons | exact List.nil_sublist _)) ?_
          refine h_one (i := 8) (by decide +kernel) rfl ?_
          refine o_callV st rfl (implCorner_no _ _ _ _ _ _ _ _ b1I b2I b3I b4I hq _) rfl ?_; clear st; intro _ _ st
          refine k_held st (by repeat (first | exact List.Sublist.refl _ | apply List.Sublist.cons_cons | apply List.Sublist.cons | exact List.nil_sublist _)) ?_
          refine h_val (i := 9) st (by repeat (first | exact List.Sublist.refl _ | apply List.Sublist.cons_cons | apply List.Sublist.cons | exact List.nil_sublist _)) (by decide +kernel) (by decide +kernel) rfl (by decide +kernel) rfl (v_move st rfl) ?_; clear st; intro _ st
          refine h_val (i := 10) st (by repeat (first | exact List.Sublist.refl _ | apply List.Sublist.cons_cons | apply List.Sublist.cons | exact List.nil_sublist _)) (by decide +kernel) (by decide +kernel) rfl (by decide +kernel) rfl (v_extract st rfl rfl) ?_; clear st; intro _ st
          refine h_val (i := 11) st (by repeat (first | exact List.Sublist.refl _ | apply List.Sublist.cons_cons | apply List.Sublist.cons | exact List.nil_sublist _)) (by decide +kernel) (by decide +kernel) rfl (by decide +kernel) rfl (v_extract st rfl rfl) ?_; clear st; intro _ st
          refine h_one (i := 13) (by decide +kernel) rfl ?_
          (first | (refine o_storeS st rfl rfl rfl (by repeat (first | exact Upd.here | apply Upd.there)) rfl (by dsimp only [List.set]) ?_; clear st; intro _ _ st) | (refine o_storeW st rfl rfl (by repeat (first | exact Upd.here | apply Upd.there)) rfl rfl rfl ?_; clear st; intro _ _ st))
          refine k_held st (by repeat (first | exact List.Sublist.refl _ | apply List.Sublist.cons_cons | apply List.Sublist.cons | exact List.nil_sublist _)) ?_
          refine h_one (i := 14) (by decide +kernel) rfl ?_
          (first | (refine o_assign st rfl rfl ?_; clear st; intro _ st))
          refine k_last ?_
          refine h_done (by decide +kernel) ?_
          refine ⟨rfl, ?_⟩
          have st := St.fore 11 st rfl (by repeat (first | exact Rem.here | apply Rem.there))
          exact ⟨_, (st.fit (by repeat (first | exact trivial | refine And.intro rfl ?_))).subL (by repeat (first | exact List.Sublist.refl _ | apply List.Sublist.cons_cons | apply List.Sublist.cons | exact List.nil_sublist _))⟩
      · skip
        refine o_alloc st rfl ?_; clear st; intro _ _ _ st
        refine k_held st (by repeat (first | exact List.Sublist.refl _ | apply List.Sublist.cons_cons | apply List.Sublist.cons | exact List.nil_sublist _)) ?_
        refine h_one (i := 1) (by decide +kernel) rfl ?_
        refine o_callV st rfl (toSpot_v _ _) rfl ?_; clear st; intro _ _ st
        refine k_held st (by repeat (first | exact List.Sublist.refl _ | apply List.Sublist.cons_cons | apply List.Sublist.cons | exact List.nil_sublist _)) ?_
        refine h_one (i := 3) (by decide +kernel) rfl ?_
        refine o_callV st rfl (toSpot_v _ _) rfl ?_; clear st; intro _ _ st
        refine k_held st (by repeat (first | exact List.Sublist.refl _ | apply List.Sublist.cons_cons | apply List.Sublist.cons | exact List.nil_sublist _)) ?_
        refine h_one (i := 5) (by decide +kernel) rfl ?_
        refine o_callV st rfl (toSpot_v _ _) rfl ?_; clear st; intro _ _ st
        refine k_held st (by repeat (first | exact List.Sublist.refl _ | apply List.Sublist.cons_cons | apply List.Sublist.cons | exact List.nil_sublist _)) ?_
        refine h_one (i := 7) (by decide +kernel) rfl ?_
        refine o_callV st rfl (toSpot_v _ _) rfl ?_; clear st; intro _ _ st
        refine k_held st (by repeat (first | exact List.Sublist.refl _ | apply List.Sublist.cons_cons | apply List.Sublist.cons | exact List.nil_sublist _)) ?_
        refine h_one (i := 8) (by decide +kernel) rfl ?_
        refine o_callV st rfl (implCorner_no _ _ _ _ _ _ _ _ b1I b2I b3I b4I hq _) rfl ?_; clear st; intro _ _ st
        refine k_held st (by repeat (first | exact List.Sublist.refl _ | apply List.Sublist.cons_cons | apply List.Sublist.cons | exact List.nil_sublist _)) ?_
        refine h_val (i := 9) st (by repeat (first | exact List.Sublist.refl _ | apply List.Sublist.cons_cons | apply List.Sublist.cons | exact List.nil_sublist _)) (by decide +kernel) (by decide +kernel) rfl (by decide +kernel) rfl (v_move st rfl) ?_; clear st; intro _ st
        refine h_val (i := 10) st (by repeat (first | exact List.Sublist.refl _ | apply List.Sublist.cons_cons | apply List.Sublist.cons | exact List.nil_sublist _)) (by decide +kernel) (by decide +kernel) rfl (by decide +kernel) rfl (v_extract st rfl rfl) ?_; clear st; intro _ st
        refine h_val (i := 11) st (by repeat (first | exact List.Sublist.refl _ | apply List.Sublist.cons_cons | apply List.Sublist.cons | exact List.nil_sublist _)) (by decide +kernel) (by decide +kernel) rfl (by decide +kernel) rfl (v_extract st rfl rfl) ?_; clear st; intro _ st
        refine h_one (i := 13) (by decide +kernel) rfl ?_
        (first | (refine o_storeS st rfl rfl rfl (by repeat (first | exact Upd.here | apply Upd.there)) rfl (by dsimp only [List.set]) ?_; clear st; intro _ _ st) | (refine o_storeW st rfl rfl (by repeat (first | exact Upd.here | apply Upd.there)) rfl rfl rfl ?_; clear st; intro _ _ st))
        refine k_held st (by repeat (first | exact List.Sublist.refl _ | apply List.Sublist.cons_cons | apply List.Sublist.cons | exact List.nil_sublist _)) ?_
        refine h_one (i := 14) (by decide +kernel) rfl ?_
        (first | (refine o_assign st rfl rfl ?_; clear st; intro _ st))
        refine k_last ?_
        refine h_done (by decide +kernel) ?_
        refine ⟨rfl, ?_⟩
        have st := St.fore 11 st rfl (by repeat (first | exact Rem.here | apply Rem.there))
        exact ⟨_, (st.fit (by repeat (first | exact trivial | refine And.intro rfl ?_))).subL (by repeat (first | exact List.Sublist.refl _ | apply List.Sublist.cons_cons | apply List.Sublist.cons | exact List.nil_sublist _))⟩
    clear st
    rintro _ _ ⟨_, st⟩
    (repeat' (first | (refine o_callV st rfl (toSpot_v _ _) rfl ?_; clear st; intro _ _ st) | (refine o_callV st rfl (specCorner_no _ _ _ _ _ _ _ _ b1I b2I b3I b4I hq _) rfl ?_; clear st; intro _ _ st) | (refine o_callV st rfl (implCorner_no _ _ _ _ _ _ _ _ b1I b2I b3I b4I hq _) rfl ?_; clear st; intro _ _ st) | (refine o_callV st rfl (eqSheet_zero _) rfl ?_; clear st; intro _ _ st) | (refine o_callV st rfl (eqSpotS_zero _) rfl ?_; clear st; intro _ _ st) | (refine o_callV st rfl (markSheet_zero _ _) rfl ?_; clear st; intro _ _ st) | (refine o_callV st rfl (heldSheet_zero _ (by omega) _) rfl ?_; clear st; intro _ _ st) | (refine c_seq ?_) | (refine c_region ?_) | (refine l_do ?_) | (refine l_doG st rfl rfl ?_) | (refine l_skipU st rfl rfl rfl ?_; clear st; intro _ st) | (refine l_skip st rfl rfl rfl rfl ?_; clear st; intro _ st) | (refine l_nil ?_) | (refine x_then ?_) | (refine x_thenR ?_) | (refine x_thenE ?_) | (refine wp_ret ?_) | (refine wp_skip ?_) | (refine c_condT st rfl ?_) | (refine c_condF st rfl ?_) | (refine o_move st rfl rfl ?_; clear st; intro _ st) | (refine o_assign st rfl rfl ?_; clear st; intro _ st) | (refine o_pickT st rfl rfl rfl ?_; clear st; intro _ st) | (refine o_pickF st rfl rfl rfl ?_; clear st; intro _ st) | (refine o_alloc st rfl ?_; clear st; intro _ _ _ st) | (refine o_boxA st rfl rfl ?_; clear st; intro _ _ _ st) | (refine o_boxS st rfl rfl rfl ?_; clear st; intro _ _ _ st) | (refine o_loadS st rfl (by repeat (first | exact At.here | apply At.there)) rfl rfl ?_; clear st; intro _ st) | (refine o_load3 st rfl (by repeat (first | exact At.here | apply At.there)) rfl ?_; clear st; intro _ st) | (refine o_load2 st rfl (by repeat (first | exact At.here | apply At.there)) rfl ?_; clear st; intro _ st) | (refine o_load4 st rfl (by repeat (first | exact At.here | apply At.there)) rfl ?_; clear st; intro _ st) | (refine o_storeS st rfl rfl rfl (by repeat (first | exact Upd.here | apply Upd.there)) rfl (by dsimp only [List.set]) ?_; clear st; intro _ _ st) | (refine o_storeW st rfl rfl (by repeat (first | exact Upd.here | apply Upd.there)) rfl rfl rfl ?_; clear st; intro _ _ st) | (refine o_extract st rfl rfl rfl ?_; clear st; intro _ st) | (refine o_neqB st rfl rfl rfl rfl ?_; clear st; intro _ st) | (refine o_notT st rfl rfl ?_; clear st; intro _ st) | (refine o_notF st rfl rfl ?_; clear st; intro _ st) | (refine o_lss st rfl rfl rfl ?_ ?_ <;> clear st <;> intro _ _ st <;> (try (exfalso; omega))) | (refine o_neqI st rfl rfl rfl ?_ ?_ <;> clear st <;> intro _ _ st <;> (try (exfalso; omega)))))
    replace st := St.fit (E' := [(4, _), (5, _), (6, _), (7, _), (9, _), (10, _), (11, _), (13, _), (14, _)]) st (by repeat (first | exact trivial | refine And.intro rfl ?_))
    refine c_drawCA (F := (fun E L a' w' => ∃ (p0 : Nat), St w Try.f12.ntmps a' w' ((15, .pointer (some ⟨p0, 0, none⟩)) :: (16, .bool false) :: E) (⟨p0, true, .cells [.int .i64 (0), .int .i64 (0), .slice none 0 0].toArray 46 (0, 0)⟩ :: L))) (last := 14) hm_ (by decide +kernel) (by decide +kernel) st ?_ ?_
    · clear st; intro _ st
      refine h_val (i := 0) st (by repeat (first | exact List.Sublist.refl _ | apply List.Sublist.cons_cons | apply List.Sublist.cons | exact List.nil_sublist _)) (by decide +kernel) (by decide +kernel) rfl (by decide +kernel) rfl (by first | exact v_load3 st rfl (by repeat (first | exact At.here | apply At.there)) | exact v_loadS st rfl (by repeat (first | exact At.here | apply At.there)) rfl) ?_; clear st; intro _ st
      refine h_val (i := 2) st (by repeat (first | exact List.Sublist.refl _ | apply List.Sublist.cons_cons | apply List.Sublist.cons | exact List.nil_sublist _)) (by decide +kernel) (by decide +kernel) rfl (by decide +kernel) rfl (by first | exact v_load3 st rfl (by repeat (first | exact At.here | apply At.there)) | exact v_loadS st rfl (by repeat (first | exact At.here | apply At.there)) rfl) ?_; clear st; intro _ st
      refine h_val (i := 4) st (by repeat (first | exact List.Sublist.refl _ | apply List.Sublist.cons_cons | apply List.Sublist.cons | exact List.nil_sublist _)) (by decide +kernel) (by decide +kernel) rfl (by decide +kernel) rfl (by first | exact v_load3 st rfl (by repeat (first | exact At.here | apply At.there)) | exact v_loadS st rfl (by repeat (first | exact At.here | apply At.there)) rfl) ?_; clear st; intro _ st
      refine h_val (i := 6) st (by repeat (first | exact List.Sublist.refl _ | apply List.Sublist.cons_cons | apply List.Sublist.cons | exact List.nil_sublist _)) (by decide +kernel) (by decide +kernel) rfl (by decide +kernel) rfl (by first | exact v_load3 st rfl (by repeat (first | exact At.here | apply At.there)) | exact v_loadS st rfl (by repeat (first | exact At.here | apply At.there)) rfl) ?_; clear st; intro _ st
      refine h_two (i := 1) (i' := 12) (by decide +kernel) rfl rfl ?_ ?_
      · skip
        refine o_callV st rfl (toSpot_v _ _) rfl ?_; clear st; intro _ _ st
        refine k_held st (by repeat (first | exact List.Sublist.refl _ | apply List.Sublist.cons_cons | apply List.Sublist.cons | exact List.nil_sublist _)) ?_
        refine h_two (i := 3) (i' := 12) (by decide +kernel) rfl rfl ?_ ?_
        · skip
          refine o_callV st rfl (toSpot_v _ _) rfl ?_; clear st; intro _ _ st
          refine k_held st (by repeat (first | exact List.Sublist.refl _ | apply List.Sublist.cons_cons | apply List.Sublist.cons | exact List.nil_sublist _)) ?_
          refine h_two (i := 5) (i' := 12) (by decide +kernel) rfl rfl ?_ ?_
          · skip
            refine o_callV st rfl (toSpot_v _ _) rfl ?_; clear st; intro _ _ st
            refine k_held st (by repeat (first | exact List.Sublist.refl _ | apply List.Sublist.cons_cons | apply List.Sublist.cons | exact List.nil_sublist _)) ?_
            refine h_two (i := 7) (i' := 12) (by decide +kernel) rfl rfl ?_ ?_
            · skip
              refine o_callV st rfl (toSpot_v _ _) rfl ?_; clear st; intro _ _ st
              refine k_held st (by repeat (first | exact List.Sublist.refl _ | apply List.Sublist.cons_cons | apply List.Sublist.cons | exact List.nil_sublist _)) ?_
              refine h_two (i := 8) (i' := 12) (by decide +kernel) rfl rfl ?_ ?_
              · skip
                refine o_callV st rfl (implCorner_no _ _ _ _ _ _ _ _ b1I b2I b3I b4I hq _) rfl ?_; clear st; intro _ _ st
                refine k_held st (by repeat (first | exact List.Sublist.refl _ | apply List.Sublist.cons_cons | apply List.Sublist.cons | exact List.nil_sublist _)) ?_
                refine h_val (i := 9) st (by repeat (first | exact List.Sublist.refl _ | apply List.Sublist.cons_cons | apply List.Sublist.cons | exact List.nil_sublist _)) (by decide +kernel) (by decide +kernel) rfl (by decide +kernel) rfl (v_move st rfl) ?_; clear st; intro _ st
                refine h_val (i := 10) st (by repeat (first | exact List.Sublist.refl _ | apply List.Sublist.cons_cons | apply List.Sublist.cons | exact List.nil_sublist _)) (by decide +kernel) (by decide +kernel) rfl (by decide +kernel) rfl (v_extract st rfl rfl) ?_; clear st; intro _ st
                refine h_val (i := 11) st (by repeat (first | exact List.Sublist.refl _ | apply List.Sublist.cons_cons | apply List.Sublist.cons | exact List.nil_sublist _)) (by decide +kernel) (by decide +kernel) rfl (by decide +kernel) rfl (v_extract st rfl rfl) ?_; clear st; intro _ st
                refine h_one (i := 12) (by decide +kernel) rfl ?_
                refine o_alloc st rfl ?_; clear st; intro _ _ _ st
                refine k_held st (by repeat (first | exact List.Sublist.refl _ | apply List.Sublist.cons_cons | apply List.Sublist.cons | exact List.nil_sublist _)) ?_
                refine h_one (i := 13) (by decide +kernel) rfl ?_
                (first | (refine o_storeS st rfl rfl rfl (by repeat (first | exact Upd.here | apply Upd.there)) rfl (by dsimp only [List.set]) ?_; clear st; intro _ _ st) | (refine o_storeW st rfl rfl (by repeat (first | exact Upd.here | apply Upd.there)) rfl rfl rfl ?_; clear st; intro _ _ st))
                refine k_held st (by repeat (first | exact List.Sublist.refl _ | apply List.Sublist.cons_cons | apply List.Sublist.cons | exact List.nil_sublist _)) ?_
                refine h_one (i := 14) (by decide +kernel) rfl ?_
                (first | (refine o_assign st rfl rfl ?_; clear st; intro _ st))
                refine k_last ?_
                refine h_done (by decide +kernel) ?_
                refine ⟨rfl, ?_⟩
                have st := St.fore 15 st rfl (by repeat (first | exact Rem.here | apply Rem.there))
                exact ⟨_, (st.fit (by repeat (first | exact trivial | refine And.intro rfl ?_))).subL (by repeat (first | exact List.Sublist.refl _ | apply List.Sublist.cons_cons | apply List.Sublist.cons | exact List.nil_sublist _))⟩
              · skip
                refine o_alloc st rfl ?_; clear st; intro _ _ _ st
                refine k_held st (by repeat (first | exact List.Sublist.refl _ | apply List.Sublist.cons_cons | apply List.Sublist.cons | exact List.nil_sublist _)) ?_
                refine h_one (i := 8) (by decide +kernel) rfl ?_
                refine o_callV st rfl (implCorner_no _ _ _ _ _ _ _ _ b1I b2I b3I b4I hq _) rfl ?_; clear st; intro _ _ st
                refine k_held st (by repeat (first | exact List.Sublist.refl _ | apply List.Sublist.cons_cons | apply List.Sublist.cons | exact List.nil_sublist _)) ?_
                refine h_val (i := 9) st (by repeat (first | exact List.Sublist.refl _ | apply List.Sublist.cons_cons | apply List.Sublist.cons | exact List.nil_sublist _)) (by decide +kernel) (by decide +kernel) rfl (by decide +kernel) rfl (v_move st rfl) ?_; clear st; intro _ st
                refine h_val (i := 10) st (by repeat (first | exact List.Sublist.refl _ | apply List.Sublist.cons_cons | apply List.Sublist.cons | exact List.nil_sublist _)) (by decide +kernel) (by decide +kernel) rfl (by decide +kernel) rfl (v_extract st rfl rfl) ?_; clear st; intro _ st
                refine h_val (i := 11) st (by repeat (first | exact List.Sublist.refl _ | apply List.Sublist.cons_cons | apply List.Sublist.cons | exact List.nil_sublist _)) (by decide +kernel) (by decide +kernel) rfl (by decide +kernel) rfl (v_extract st rfl rfl) ?_; clear st; intro _ st
                refine h_one (i := 13) (by decide +kernel) rfl ?_
                (first | (refine o_storeS st rfl rfl rfl (by repeat (first | exact Upd.here | apply Upd.there)) rfl (by dsimp only [List.set]) ?_; clear st; intro _ _ st) | (refine o_storeW st rfl rfl (by repeat (first | exact Upd.here | apply Upd.there)) rfl rfl rfl ?_; clear st; intro _ _ st))
                refine k_held st (by repeat (first | exact List.Sublist.refl _ | apply List.Sublist.cons_cons | apply List.Sublist.cons | exact List.nil_sublist _)) ?_
                refine h_one (i := 14) (by decide +kernel) rfl ?_
                (first | (refine o_assign st rfl rfl ?_; clear st; intro _ st))
                refine k_last ?_
                refine h_done (by decide +kernel) ?_
                refine ⟨rfl, ?_⟩
                have st := St.fore 15 st rfl (by repeat (first | exact Rem.here | apply Rem.there))
                exact ⟨_, (st.fit (by repeat (first | exact trivial | refine And.intro rfl ?_))).subL (by repeat (first | exact List.Sublist.refl _ | apply List.Sublist.cons_cons | apply List.Sublist.cons | exact List.nil_sublist _))⟩
            · skip
              refine o_alloc st rfl ?_; clear st; intro _ _ _ st
              refine k_held st (by repeat (first | exact List.Sublist.refl _ | apply List.Sublist.cons_cons | apply List.Sublist.cons | exact List.nil_sublist _)) ?_
              refine h_one (i := 7) (by decide +kernel) rfl ?_
              refine o_callV st rfl (toSpot_v _ _) rfl ?_; clear st; intro _ _ st
              refine k_held st (by repeat (first | exact List.Sublist.refl _ | apply List.Sublist.cons_cons | apply List.Sublist.cons | exact List.nil_sublist _)) ?_
              refine h_one (i := 8) (by decide +kernel) rfl ?_
              refine o_callV st rfl (implCorner_no _ _ _ _ _ _ _ _ b1I b2I b3I b4I hq _) rfl ?_; clear st; intro _ _ st
              refine k_held st (by repeat (first | exact List.Sublist.refl _ | apply List.Sublist.cons_cons | apply List.Sublist.cons | exact List.nil_sublist _)) ?_
              refine h_val (i := 9) st (by repeat (first | exact List.Sublist.refl _ | apply List.Sublist.cons_cons | apply List.Sublist.cons | exact List.nil_sublist _)) (by decide +kernel) (by decide +kernel) rfl (by decide +kernel) rfl (v_move st rfl) ?_; clear st; intro _ st
              refine h_val (i := 10) st (by repeat (first | exact List.Sublist.refl _ | apply List.Sublist.cons_cons | apply List.Sublist.cons | exact List.nil_sublist _)) (by decide +kernel) (by decide +kernel) rfl (by decide +kernel) rfl (v_extract st rfl rfl) ?_; clear st; intro _ st
              refine h_val (i := 11) st (by repeat (first | exact List.Sublist.refl _ | apply List.Sublist.cons_cons | apply List.Sublist.cons | exact List.nil_sublist _)) (by decide +kernel) (by decide +kernel) rfl (by decide +kernel) rfl (v_extract st rfl rfl) ?_; clear st; intro _ st
              refine h_one (i := 13) (by decide +kernel) rfl ?_
              (first | (refine o_storeS st rfl rfl rfl (by repeat (first | exact Upd.here | apply Upd.there)) rfl (by dsimp only [List.set]) ?_; clear st; intro _ _ st) | (refine o_storeW st rfl rfl (by repeat (first | exact Upd.here | apply Upd.there)) rfl rfl rfl ?_; clear st; intro _ _ st))
              refine k_held st (by repeat (first | exact List.Sublist.refl _ | apply List.Sublist.cons_cons | apply List.Sublist.cons | exact List.nil_sublist _)) ?_
              refine h_one (i := 14) (by decide +kernel) rfl ?_
              (first | (refine o_assign st rfl rfl ?_; clear st; intro _ st))
              refine k_last ?_
              refine h_done (by decide +kernel) ?_
              refine ⟨rfl, ?_⟩
              have st := St.fore 15 st rfl (by repeat (first | exact Rem.here | apply Rem.there))
              exact ⟨_, (st.fit (by repeat (first | exact trivial | refine And.intro rfl ?_))).subL (by repeat (first | exact List.Sublist.refl _ | apply List.Sublist.cons_cons | apply List.Sublist.cons | exact List.nil_sublist _))⟩
          · skip
            refine o_alloc st rfl ?_; clear st; intro _ _ _ st
            refine k_held st (by repeat (first | exact List.Sublist.refl _ | apply List.Sublist.cons_cons | apply List.Sublist.cons | exact List.nil_sublist _)) ?_
            refine h_one (i := 5) (by decide +kernel) rfl ?_
            refine o_callV st rfl (toSpot_v _ _) rfl ?_; clear st; intro _ _ st
            refine k_held st (by repeat (first | exact List.Sublist.refl _ | apply List.Sublist.cons_cons | apply List.Sublist.cons | exact List.nil_sublist _)) ?_
            refine h_one (i := 7) (by decide +kernel) rfl ?_
            refine o_callV st rfl (toSpot_v _ _) rfl ?_; clear st; intro _ _ st
            refine k_held st (by repeat (first | exact List.Sublist.refl _ | apply List.Sublist.cons_cons | apply List.Sublist.cons | exact List.nil_sublist _)) ?_
            refine h_one (i := 8) (by decide +kernel) rfl ?_
            refine o_callV st rfl (implCorner_no _ _ _ _ _ _ _ _ b1I b2I b3I b4I hq _) rfl ?_; clear st; intro _ _ st
            refine k_held st (by repeat (first | exact List.Sublist.refl _ | apply List.Sublist.cons_cons | apply List.Sublist.cons | exact List.nil_sublist _)) ?_
            refine h_val (i := 9) st (by repeat (first | exact List.Sublist.refl _ | apply List.Sublist.cons_cons | apply List.Sublist.cons | exact List.nil_sublist _)) (by decide +kernel) (by decide +kernel) rfl (by decide +kernel) rfl (v_move st rfl) ?_; clear st; intro _ st
            refine h_val (i := 10) st (by repeat (first | exact List.Sublist.refl _ | apply List.Sublist.cons_cons | apply List.Sublist.cons | exact List.nil_sublist _)) (by decide +kernel) (by decide +kernel) rfl (by decide +kernel) rfl (v_extract st rfl rfl) ?_; clear st; intro _ st
            refine h_val (i := 11) st (by repeat (first | exact List.Sublist.refl _ | apply List.Sublist.cons_cons | apply List.Sublist.cons | exact List.nil_sublist _)) (by decide +kernel) (by decide +kernel) rfl (by decide +kernel) rfl (v_extract st rfl rfl) ?_; clear st; intro _ st
            refine h_one (i := 13) (by decide +kernel) rfl ?_
            (first | (refine o_storeS st rfl rfl rfl (by repeat (first | exact Upd.here | apply Upd.there)) rfl (by dsimp only [List.set]) ?_; clear st; intro _ _ st) | (refine o_storeW st rfl rfl (by repeat (first | exact Upd.here | apply Upd.there)) rfl rfl rfl ?_; clear st; intro _ _ st))
            refine k_held st (by repeat (first | exact List.Sublist.refl _ | apply List.Sublist.cons_cons | apply List.Sublist.cons | exact List.nil_sublist _)) ?_
            refine h_one (i := 14) (by decide +kernel) rfl ?_
            (first | (refine o_assign st rfl rfl ?_; clear st; intro _ st))
            refine k_last ?_
            refine h_done (by decide +kernel) ?_
            refine ⟨rfl, ?_⟩
            have st := St.fore 15 st rfl (by repeat (first | exact Rem.here | apply Rem.there))
            exact ⟨_, (st.fit (by repeat (first | exact trivial | refine And.intro rfl ?_))).subL (by repeat (first | exact List.Sublist.refl _ | apply List.Sublist.cons_cons | apply List.Sublist.cons | exact List.nil_sublist _))⟩
        · skip
          refine o_alloc st rfl ?_; clear st; intro _ _ _ st
          refine k_held st (by repeat (first | exact List.Sublist.refl _ | apply List.Sublist.cons_cons | apply List.Sublist.cons | exact List.nil_sublist _)) ?_
          refine h_one (i := 3) (by decide +kernel) rfl ?_
          refine o_callV st rfl (toSpot_v _ _) rfl ?_; clear st; intro _ _ st
          refine k_held st (by repeat (first | exact List.Sublist.refl _ | apply List.Sublist.cons_cons | apply List.Sublist.cons | exact List.nil_sublist _)) ?_
          refine h_one (i := 5) (by decide +kernel) rfl ?_
          refine o_callV st rfl (toSpot_v _ _) rfl ?_; clear st; intro _ _ st
          refine k_held st (by repeat (first | exact List.Sublist.refl _ | apply List.Sublist.cons_cons | apply List.Sublist.cons | exact List.nil_sublist _)) ?_
          refine h_one (i := 7) (by decide +kernel) rfl ?_
          refine o_callV st rfl (toSpot_v _ _) rfl ?_; clear st; intro _ _ st
          refine k_held st (by repeat (first | exact List.Sublist.refl _ | apply List.Sublist.cons_cons | apply List.Sublist.cons | exact List.nil_sublist _)) ?_
          refine h_one (i := 8) (by decide +kernel) rfl ?_
          refine o_callV st rfl (implCorner_no _ _ _ _ _ _ _ _ b1I b2I b3I b4I hq _) rfl ?_; clear st; intro _ _ st
          refine k_held st (by repeat (first | exact List.Sublist.refl _ | apply List.Sublist.cons_cons | apply List.Sublist.cons | exact List.nil_sublist _)) ?_
          refine h_val (i := 9) st (by repeat (first | exact List.Sublist.refl _ | apply List.Sublist.cons_cons | apply List.Sublist.cons | exact List.nil_sublist _)) (by decide +kernel) (by decide +kernel) rfl (by decide +kernel) rfl (v_move st rfl) ?_; clear st; intro _ st
          refine h_val (i := 10) st (by repeat (first | exact List.Sublist.refl _ | apply List.Sublist.cons_cons | apply List.Sublist.cons | exact List.nil_sublist _)) (by decide +kernel) (by decide +kernel) rfl (by decide +kernel) rfl (v_extract st rfl rfl) ?_; clear st; intro _ st
          refine h_val (i := 11) st (by repeat (first | exact List.Sublist.refl _ | apply List.Sublist.cons_cons | apply List.Sublist.cons | exact List.nil_sublist _)) (by decide +kernel) (by decide +kernel) rfl (by decide +kernel) rfl (v_extract st rfl rfl) ?_; clear st; intro _ st
          refine h_one (i := 13) (by decide +kernel) rfl ?_
          (first | (refine o_storeS st rfl rfl rfl (by repeat (first | exact Upd.here | apply Upd.there)) rfl (by dsimp only [List.set]) ?_; clear st; intro _ _ st) | (refine o_storeW st rfl rfl (by repeat (first | exact Upd.here | apply Upd.there)) rfl rfl rfl ?_; clear st; intro _ _ st))
          refine k_held st (by repeat (first | exact List.Sublist.refl _ | apply List.Sublist.cons_cons | apply List.Sublist.cons | exact List.nil_sublist _)) ?_
          refine h_one (i := 14) (by decide +kernel) rfl ?_
          (first | (refine o_assign st rfl rfl ?_; clear st; intro _ st))
          refine k_last ?_
          refine h_done (by decide +kernel) ?_
          refine ⟨rfl, ?_⟩
          have st := St.fore 15 st rfl (by repeat (first | exact Rem.here | apply Rem.there))
          exact ⟨_, (st.fit (by repeat (first | exact trivial | refine And.intro rfl ?_))).subL (by repeat (first | exact List.Sublist.refl _ | apply List.Sublist.cons_cons | apply List.Sublist.cons | exact List.nil_sublist _))⟩
      · skip
        refine o_alloc st rfl ?_; clear st; intro _ _ _ st
        refine k_held st (by repeat (first | exact List.Sublist.refl _ | apply List.Sublist.cons_cons | apply List.Sublist.cons | exact List.nil_sublist _)) ?_
        refine h_one (i := 1) (by decide +kernel) rfl ?_
        refine o_callV st rfl (toSpot_v _ _) rfl ?_; clear st; intro _ _ st
        refine k_held st (by repeat (first | exact List.Sublist.refl _ | apply List.Sublist.cons_cons | apply List.Sublist.cons | exact List.nil_sublist _)) ?_
        refine h_one (i := 3) (by decide +kernel) rfl ?_
        refine o_callV st rfl (toSpot_v _ _) rfl ?_; clear st; intro _ _ st
        refine k_held st (by repeat (first | exact List.Sublist.refl _ | apply List.Sublist.cons_cons | apply List.Sublist.cons | exact List.nil_sublist _)) ?_
        refine h_one (i := 5) (by decide +kernel) rfl ?_
        refine o_callV st rfl (toSpot_v _ _) rfl ?_; clear st; intro _ _ st
        refine k_held st (by repeat (first | exact List.Sublist.refl _ | apply List.Sublist.cons_cons | apply List.Sublist.cons | exact List.nil_sublist _)) ?_
        refine h_one (i := 7) (by decide +kernel) rfl ?_
        refine o_callV st rfl (toSpot_v _ _) rfl ?_; clear st; intro _ _ st
        refine k_held st (by repeat (first | exact List.Sublist.refl _ | apply List.Sublist.cons_cons | apply List.Sublist.cons | exact List.nil_sublist _)) ?_
        refine h_one (i := 8) (by decide +kernel) rfl ?_
        refine o_callV st rfl (implCorner_no _ _ _ _ _ _ _ _ b1I b2I b3I b4I hq _) rfl ?_; clear st; intro _ _ st
        refine k_held st (by repeat (first | exact List.Sublist.refl _ | apply List.Sublist.cons_cons | apply List.Sublist.cons | exact List.nil_sublist _)) ?_
        refine h_val (i := 9) st (by repeat (first | exact List.Sublist.refl _ | apply List.Sublist.cons_cons | apply List.Sublist.cons | exact List.nil_sublist _)) (by decide +kernel) (by decide +kernel) rfl (by decide +kernel) rfl (v_move st rfl) ?_; clear st; intro _ st
        refine h_val (i := 10) st (by repeat (first | exact List.Sublist.refl _ | apply List.Sublist.cons_cons | apply List.Sublist.cons | exact List.nil_sublist _)) (by decide +kernel) (by decide +kernel) rfl (by decide +kernel) rfl (v_extract st rfl rfl) ?_; clear st; intro _ st
        refine h_val (i := 11) st (by repeat (first | exact List.Sublist.refl _ | apply List.Sublist.cons_cons | apply List.Sublist.cons | exact List.nil_sublist _)) (by decide +kernel) (by decide +kernel) rfl (by decide +kernel) rfl (v_extract st rfl rfl) ?_; clear st; intro _ st
        refine h_one (i := 13) (by decide +kernel) rfl ?_
        (first | (refine o_storeS st rfl rfl rfl (by repeat (first | exact Upd.here | apply Upd.there)) rfl (by dsimp only [List.set]) ?_; clear st; intro _ _ st) | (refine o_storeW st rfl rfl (by repeat (first | exact Upd.here | apply Upd.there)) rfl rfl rfl ?_; clear st; intro _ _ st))
        refine k_held st (by repeat (first | exact List.Sublist.refl _ | apply List.Sublist.cons_cons | apply List.Sublist.cons | exact List.nil_sublist _)) ?_
        refine h_one (i := 14) (by decide +kernel) rfl ?_
        (first | (refine o_assign st rfl rfl ?_; clear st; intro _ st))
        refine k_last ?_
        refine h_done (by decide +kernel) ?_
        refine ⟨rfl, ?_⟩
        have st := St.fore 15 st rfl (by repeat (first | exact Rem.here | apply Rem.there))
        exact ⟨_, (st.fit (by repeat (first | exact trivial | refine And.intro rfl ?_))).subL (by repeat (first | exact List.Sublist.refl _ | apply List.Sublist.cons_cons | apply List.Sublist.cons | exact List.nil_sublist _))⟩
    clear st
    rintro _ _ ⟨_, st⟩
    (repeat' (first | (refine o_callV st rfl (toSpot_v _ _) rfl ?_; clear st; intro _ _ st) | (refine o_callV st rfl (specCorner_no _ _ _ _ _ _ _ _ b1I b2I b3I b4I hq _) rfl ?_; clear st; intro _ _ st) | (refine o_callV st rfl (implCorner_no _ _ _ _ _ _ _ _ b1I b2I b3I b4I hq _) rfl ?_; clear st; intro _ _ st) | (refine o_callV st rfl (eqSheet_zero _) rfl ?_; clear st; intro _ _ st) | (refine o_callV st rfl (eqSpotS_zero _) rfl ?_; clear st; intro _ _ st) | (refine o_callV st rfl (markSheet_zero _ _) rfl ?_; clear st; intro _ _ st) | (refine o_callV st rfl (heldSheet_zero _ (by omega) _) rfl ?_; clear st; intro _ _ st) | (refine c_seq ?_) | (refine c_region ?_) | (refine l_do ?_) | (refine l_doG st rfl rfl ?_) | (refine l_skipU st rfl rfl rfl ?_; clear st; intro _ st) | (refine l_skip st rfl rfl rfl rfl ?_; clear st; intro _ st) | (refine l_nil ?_) | (refine x_then ?_) | (refine x_thenR ?_) | (refine x_thenE ?_) | (refine wp_ret ?_) | (refine wp_skip ?_) | (refine c_condT st rfl ?_) | (refine c_condF st rfl ?_) | (refine o_move st rfl rfl ?_; clear st; intro _ st) | (refine o_assign st rfl rfl ?_; clear st; intro _ st) | (refine o_pickT st rfl rfl rfl ?_; clear st; intro _ st) | (refine o_pickF st rfl rfl rfl ?_; clear st; intro _ st) | (refine o_alloc st rfl ?_; clear st; intro _ _ _ st) | (refine o_boxA st rfl rfl ?_; clear st; intro _ _ _ st) | (refine o_boxS st rfl rfl rfl ?_; clear st; intro _ _ _ st) | (refine o_loadS st rfl (by repeat (first | exact At.here | apply At.there)) rfl rfl ?_; clear st; intro _ st) | (refine o_load3 st rfl (by repeat (first | exact At.here | apply At.there)) rfl ?_; clear st; intro _ st) | (refine o_load2 st rfl (by repeat (first | exact At.here | apply At.there)) rfl ?_; clear st; intro _ st) | (refine o_load4 st rfl (by repeat (first | exact At.here | apply At.there)) rfl ?_; clear st; intro _ st) | (refine o_storeS st rfl rfl rfl (by repeat (first | exact Upd.here | apply Upd.there)) rfl (by dsimp only [List.set]) ?_; clear st; intro _ _ st) | (refine o_storeW st rfl rfl (by repeat (first | exact Upd.here | apply Upd.there)) rfl rfl rfl ?_; clear st; intro _ _ st) | (refine o_extract st rfl rfl rfl ?_; clear st; intro _ st) | (refine o_neqB st rfl rfl rfl rfl ?_; clear st; intro _ st) | (refine o_notT st rfl rfl ?_; clear st; intro _ st) | (refine o_notF st rfl rfl ?_; clear st; intro _ st) | (refine o_lss st rfl rfl rfl ?_ ?_ <;> clear st <;> intro _ _ st <;> (try (exfalso; omega))) | (refine o_neqI st rfl rfl rfl ?_ ?_ <;> clear st <;> intro _ _ st <;> (try (exfalso; omega)))))
    refine post1 st Try.results12 (rd_t st rfl) ?_
    exact ⟨rfl, st.below⟩
  · skip
    (repeat' (first | (refine o_callV st rfl (toSpot_v _ _) rfl ?_; clear st; intro _ _ st) | (refine o_callShY st rfl (specCorner_yes _ _ _ _ _ _ _ _ b1I b2I b3I b4I hq _) rfl ?_; clear st; intro _ _ _ _ _ _ _ _ st) | (refine o_callShY st rfl (implCorner_yes _ _ _ _ _ _ _ _ b1I b2I b3I b4I hq _) rfl ?_; clear st; intro _ _ _ _ _ _ _ _ st) | (refine o_callV st rfl (eqSheet_ok _ _ _ _ _ (by assumption) (by assumption) _ _ _ _ _ (RdS.of (st.heap (by repeat (first | exact At.here | apply At.there))) (spotsIn0p _ _)) (RdS.of (st.heap (by repeat (first | exact At.here | apply At.there))) (spotsIn0p _ _)) (by omega)) rfl ?_; clear st; intro _ _ st) | (refine o_callU st rfl (markSheet_ok _ _ _ _ _ _ _ _ (st.heap (by repeat (first | exact At.here | apply At.there))) (by omega) (by omega) (by omega)) (by repeat (first | exact Upd.here | apply Upd.there)) rfl ?_; clear st; intro _ _ st) | (refine o_callV st rfl (heldSheet_ok _ _ _ _ _ _ _ _ (st.heap (by repeat (first | exact At.here | apply At.there))) (by omega) (by omega) (by omega)) rfl ?_; clear st; intro _ _ st) | (refine c_seq ?_) | (refine c_region ?_) | (refine l_do ?_) | (refine l_doG st rfl rfl ?_) | (refine l_skipU st rfl rfl rfl ?_; clear st; intro _ st) | (refine l_skip st rfl rfl rfl rfl ?_; clear st; intro _ st) | (refine l_nil ?_) | (refine x_then ?_) | (refine x_thenR ?_) | (refine x_thenE ?_) | (refine wp_ret ?_) | (refine wp_skip ?_) | (refine c_condT st rfl ?_) | (refine c_condF st rfl ?_) | (refine o_move st rfl rfl ?_; clear st; intro _ st) | (refine o_assign st rfl rfl ?_; clear st; intro _ st) | (refine o_pickT st rfl rfl rfl ?_; clear st; intro _ st) | (refine o_pickF st rfl rfl rfl ?_; clear st; intro _ st) | (refine o_alloc st rfl ?_; clear st; intro _ _ _ st) | (refine o_boxA st rfl rfl ?_; clear st; intro _ _ _ st) | (refine o_boxS st rfl rfl rfl ?_; clear st; intro _ _ _ st) | (refine o_loadS st rfl (by repeat (first | exact At.here | apply At.there)) rfl rfl ?_; clear st; intro _ st) | (refine o_load3 st rfl (by repeat (first | exact At.here | apply At.there)) rfl ?_; clear st; intro _ st) | (refine o_load2 st rfl (by repeat (first | exact At.here | apply At.there)) rfl ?_; clear st; intro _ st) | (refine o_load4 st rfl (by repeat (first | exact At.here | apply At.there)) rfl ?_; clear st; intro _ st) | (refine o_storeS st rfl rfl rfl (by repeat (first | exact Upd.here | apply Upd.there)) rfl (by dsimp only [List.set]) ?_; clear st; intro _ _ st) | (refine o_storeW st rfl rfl (by repeat (first | exact Upd.here | apply Upd.there)) rfl rfl rfl ?_; clear st; intro _ _ st) | (refine o_extract st rfl rfl rfl ?_; clear st; intro _ st) | (refine o_neqB st rfl rfl rfl rfl ?_; clear st; intro _ st) | (refine o_notT st rfl rfl ?_; clear st; intro _ st) | (refine o_notF st rfl rfl ?_; clear st; intro _ st) | (refine o_lss st rfl rfl rfl ?_ ?_ <;> clear st <;> intro _ _ st <;> (try (exfalso; omega))) | (refine o_neqI st rfl rfl rfl ?_ ?_ <;> clear st <;> intro _ _ st <;> (try (exfalso; omega)))))
    replace st := St.fit (E' := [(4, _), (5, _), (6, _), (7, _)]) st (by repeat (first | exact trivial | refine And.intro rfl ?_))
    refine c_drawCA (F := (fun E L a' w' => ∃ (p0 c0 cap0 : Nat) (bs0 : List B3) (pad0 : List Value), IsSL bs0 (crn b1s b2s b3s b4s) ∧ bs0.length = (crn b1s b2s b3s b4s).length ∧ St w Try.f12.ntmps a' w' ((9, .pointer (some ⟨p0, 0, none⟩)) :: (10, .bool true) :: E) (⟨p0, true, .cells [.int .i64 (2), .int .i64 (2), .slice (some ⟨c0, 0, none⟩) bs0.length cap0].toArray 46 (0, 0)⟩ :: ⟨c0, true, oS bs0 pad0⟩ :: L))) (last := 14) hm_ (by decide +kernel) (by decide +kernel) st ?_ ?_
    · clear st; intro _ st
      refine h_val (i := 0) st (by repeat (first | exact List.Sublist.refl _ | apply List.Sublist.cons_cons | apply List.Sublist.cons | exact List.nil_sublist _)) (by decide +kernel) (by decide +kernel) rfl (by decide +kernel) rfl (by first | exact v_load3 st rfl (by repeat (first | exact At.here | apply At.there)) | exact v_loadS st rfl (by repeat (first | exact At.here | apply At.there)) rfl) ?_; clear st; intro _ st
      refine h_val (i := 2) st (by repeat (first | exact List.Sublist.refl _ | apply List.Sublist.cons_cons | apply List.Sublist.cons | exact List.nil_sublist _)) (by decide +kernel) (by decide +kernel) rfl (by decide +kernel) rfl (by first | exact v_load3 st rfl (by repeat (first | exact At.here | apply At.there)) | exact v_loadS st rfl (by repeat (first | exact At.here | apply At.there)) rfl) ?_; clear st; intro _ st
      refine h_val (i := 4) st (by repeat (first | exact List.Sublist.refl _ | apply List.Sublist.cons_cons | apply List.Sublist.cons | exact List.nil_sublist _)) (by decide +kernel) (by decide +kernel) rfl (by decide +kernel) rfl (by first | exact v_load3 st rfl (by repeat (first | exact At.here | apply At.there)) | exact v_loadS st rfl (by repeat (first | exact At.here | apply At.there)) rfl) ?_; clear st; intro _ st
      refine h_val (i := 6) st (by repeat (first | exact List.Sublist.refl _ | apply List.Sublist.cons_cons | apply List.Sublist.cons | exact List.nil_sublist _)) (by decide +kernel) (by decide +kernel) rfl (by decide +kernel) rfl (by first | exact v_load3 st rfl (by repeat (first | exact At.here | apply At.there)) | exact v_loadS st rfl (by repeat (first | exact At.here | apply At.there)) rfl) ?_; clear st; intro _ st
      refine h_two (i := 1) (i' := 12) (by decide +kernel) rfl rfl ?_ ?_
      · skip
        refine o_callV st rfl (toSpot_v _ _) rfl ?_; clear st; intro _ _ st
        refine k_held st (by repeat (first | exact List.Sublist.refl _ | apply List.Sublist.cons_cons | apply List.Sublist.cons | exact List.nil_sublist _)) ?_
        refine h_two (i := 3) (i' := 12) (by decide +kernel) rfl rfl ?_ ?_
        · skip
          refine o_callV st rfl (toSpot_v _ _) rfl ?_; clear st; intro _ _ st
          refine k_held st (by repeat (first | exact List.Sublist.refl _ | apply List.Sublist.cons_cons | apply List.Sublist.cons | exact List.nil_sublist _)) ?_
          refine h_two (i := 5) (i' := 12) (by decide +kernel) rfl rfl ?_ ?_
          · skip
            refine o_callV st rfl (toSpot_v _ _) rfl ?_; clear st; intro _ _ st
            refine k_held st (by repeat (first | exact List.Sublist.refl _ | apply List.Sublist.cons_cons | apply List.Sublist.cons | exact List.nil_sublist _)) ?_
            refine h_two (i := 7) (i' := 12) (by decide +kernel) rfl rfl ?_ ?_
            · skip
              refine o_callV st rfl (toSpot_v _ _) rfl ?_; clear st; intro _ _ st
              refine k_held st (by repeat (first | exact List.Sublist.refl _ | apply List.Sublist.cons_cons | apply List.Sublist.cons | exact List.nil_sublist _)) ?_
              refine h_two (i := 8) (i' := 12) (by decide +kernel) rfl rfl ?_ ?_
              · skip
                refine o_callShY st rfl (specCorner_yes _ _ _ _ _ _ _ _ b1I b2I b3I b4I hq _) rfl ?_; clear st; intro _ _ _ _ _ _ _ _ st
                refine k_held st (by repeat (first | exact List.Sublist.refl _ | apply List.Sublist.cons_cons | apply List.Sublist.cons | exact List.nil_sublist _)) ?_
                refine h_val (i := 9) st (by repeat (first | exact List.Sublist.refl _ | apply List.Sublist.cons_cons | apply List.Sublist.cons | exact List.nil_sublist _)) (by decide +kernel) (by decide +kernel) rfl (by decide +kernel) rfl (v_move st rfl) ?_; clear st; intro _ st
                refine h_val (i := 10) st (by repeat (first | exact List.Sublist.refl _ | apply List.Sublist.cons_cons | apply List.Sublist.cons | exact List.nil_sublist _)) (by decide +kernel) (by decide +kernel) rfl (by decide +kernel) rfl (v_extract st rfl rfl) ?_; clear st; intro _ st
                refine h_val (i := 11) st (by repeat (first | exact List.Sublist.refl _ | apply List.Sublist.cons_cons | apply List.Sublist.cons | exact List.nil_sublist _)) (by decide +kernel) (by decide +kernel) rfl (by decide +kernel) rfl (v_extract st rfl rfl) ?_; clear st; intro _ st
                refine h_one (i := 12) (by decide +kernel) rfl ?_
                refine o_alloc st rfl ?_; clear st; intro _ _ _ st
                refine k_held st (by repeat (first | exact List.Sublist.refl _ | apply List.Sublist.cons_cons | apply List.Sublist.cons | exact List.nil_sublist _)) ?_
                refine h_one (i := 13) (by decide +kernel) rfl ?_
                (first | (refine o_storeS st rfl rfl rfl (by repeat (first | exact Upd.here | apply Upd.there)) rfl (by dsimp only [List.set]) ?_; clear st; intro _ _ st) | (refine o_storeW st rfl rfl (by repeat (first | exact Upd.here | apply Upd.there)) rfl rfl rfl ?_; clear st; intro _ _ st))
                refine k_held st (by repeat (first | exact List.Sublist.refl _ | apply List.Sublist.cons_cons | apply List.Sublist.cons | exact List.nil_sublist _)) ?_
                refine h_one (i := 14) (by decide +kernel) rfl ?_
                (first | (refine o_assign st rfl rfl ?_; clear st; intro _ st))
                refine k_last ?_
                refine h_done (by decide +kernel) ?_
                refine ⟨rfl, ?_⟩
                have st := St.fore 9 st rfl (by repeat (first | exact Rem.here | apply Rem.there))
                exact ⟨_, _, _, _, _, by assumption, by assumption, (st.fit (by repeat (first | exact trivial | refine And.intro rfl ?_))).subL (by repeat (first | exact List.Sublist.refl _ | apply List.Sublist.cons_cons | apply List.Sublist.cons | exact List.nil_sublist _))⟩
              · skip
                refine o_alloc st rfl ?_; clear st; intro _ _ _ st
                refine k_held st (by repeat (first | exact List.Sublist.refl _ | apply List.Sublist.cons_cons | apply List.Sublist.cons | exact List.nil_sublist _)) ?_
                refine h_one (i := 8) (by decide +kernel) rfl ?_
                refine o_callShY st rfl (specCorner_yes _ _ _ _ _ _ _ _ b1I b2I b3I b4I hq _) rfl ?_; clear st; intro _ _ _ _ _ _ _ _ st
                refine k_held st (by repeat (first | exact List.Sublist.refl _ | apply List.Sublist.cons_cons | apply List.Sublist.cons | exact List.nil_sublist _)) ?_
                refine h_val (i := 9) st (by repeat (first | exact List.Sublist.refl _ | apply List.Sublist.cons_cons | apply List.Sublist.cons | exact List.nil_sublist _)) (by decide +kernel) (by decide +kernel) rfl (by decide +kernel) rfl (v_move st rfl) ?_; clear st; intro _ st
                refine h_val (i := 10) st (by repeat (first | exact List.Sublist.refl _ | apply List.Sublist.cons_cons | apply List.Sublist.cons | exact List.nil_sublist _)) (by decide +kernel) (by decide +kernel) rfl (by decide +kernel) rfl (v_extract st rfl rfl) ?_; clear st; intro _ st
                refine h_val (i := 11) st (by repeat (first | exact List.Sublist.refl _ | apply List.Sublist.cons_cons | apply List.Sublist.cons | exact List.nil_sublist _)) (by decide +kernel) (by decide +kernel) rfl (by decide +kernel) rfl (v_extract st rfl rfl) ?_; clear st; intro _ st
                refine h_one (i := 13) (by decide +kernel) rfl ?_
                (first | (refine o_storeS st rfl rfl rfl (by repeat (first | exact Upd.here | apply Upd.there)) rfl (by dsimp only [List.set]) ?_; clear st; intro _ _ st) | (refine o_storeW st rfl rfl (by repeat (first | exact Upd.here | apply Upd.there)) rfl rfl rfl ?_; clear st; intro _ _ st))
                refine k_held st (by repeat (first | exact List.Sublist.refl _ | apply List.Sublist.cons_cons | apply List.Sublist.cons | exact List.nil_sublist _)) ?_
                refine h_one (i := 14) (by decide +kernel) rfl ?_
                (first | (refine o_assign st rfl rfl ?_; clear st; intro _ st))
                refine k_last ?_
                refine h_done (by decide +kernel) ?_
                refine ⟨rfl, ?_⟩
                have st := St.fore 9 st rfl (by repeat (first | exact Rem.here | apply Rem.there))
                exact ⟨_, _, _, _, _, by assumption, by assumption, (st.fit (by repeat (first | exact trivial | refine And.intro rfl ?_))).subL (by repeat (first | exact List.Sublist.refl _ | apply List.Sublist.cons_cons | apply List.Sublist.cons | exact List.nil_sublist _))⟩
            · skip
              refine o_alloc st rfl ?_; clear st; intro _ _ _ st
              refine k_held st (by repeat (first | exact List.Sublist.refl _ | apply List.Sublist.cons_cons | apply List.Sublist.cons | exact List.nil_sublist _)) ?_
              refine h_one (i := 7) (by decide +kernel) rfl ?_
              refine o_callV st rfl (toSpot_v _ _) rfl ?_; clear st; intro _ _ st
              refine k_held st (by repeat (first | exact List.Sublist.refl _ | apply List.Sublist.cons_cons | apply List.Sublist.cons | exact List.nil_sublist _)) ?_
              refine h_one (i := 8) (by decide +kernel) rfl ?_
              refine o_callShY st rfl (specCorner_yes _ _ _ _ _ _ _ _ b1I b2I b3I b4I hq _) rfl ?_; clear st; intro _ _ _ _ _ _ _ _ st
              refine k_held st (by repeat (first | exact List.Sublist.refl _ | apply List.Sublist.cons_cons | apply List.Sublist.cons | exact List.nil_sublist _)) ?_
              refine h_val (i := 9) st (by repeat (first | exact List.Sublist.refl _ | apply List.Sublist.cons_cons | apply List.Sublist.cons | exact List.nil_sublist _)) (by decide +kernel) (by decide +kernel) rfl (by decide +kernel) rfl (v_move st rfl) ?_; clear st; intro _ st
              refine h_val (i := 10) st (by repeat (first | exact List.Sublist.refl _ | apply List.Sublist.cons_cons | apply List.Sublist.cons | exact List.nil_sublist _)) (by decide +kernel) (by decide +kernel) rfl (by decide +kernel) rfl (v_extract st rfl rfl) ?_; clear st; intro _ st
              refine h_val (i := 11) st (by repeat (first | exact List.Sublist.refl _ | apply List.Sublist.cons_cons | apply List.Sublist.cons | exact List.nil_sublist _)) (by decide +kernel) (by decide +kernel) rfl (by decide +kernel) rfl (v_extract st rfl rfl) ?_; clear st; intro _ st
              refine h_one (i := 13) (by decide +kernel) rfl ?_
              (first | (refine o_storeS st rfl rfl rfl (by repeat (first | exact Upd.here | apply Upd.there)) rfl (by dsimp only [List.set]) ?_; clear st; intro _ _ st) | (refine o_storeW st rfl rfl (by repeat (first | exact Upd.here | apply Upd.there)) rfl rfl rfl ?_; clear st; intro _ _ st))
              refine k_held st (by repeat (first | exact List.Sublist.refl _ | apply List.Sublist.cons_cons | apply List.Sublist.cons | exact List.nil_sublist _)) ?_
              refine h_one (i := 14) (by decide +kernel) rfl ?_
              (first | (refine o_assign st rfl rfl ?_; clear st; intro _ st))
              refine k_last ?_
              refine h_done (by decide +kernel) ?_
              refine ⟨rfl, ?_⟩
              have st := St.fore 9 st rfl (by repeat (first | exact Rem.here | apply Rem.there))
              exact ⟨_, _, _, _, _, by assumption, by assumption, (st.fit (by repeat (first | exact trivial | refine And.intro rfl ?_))).subL (by repeat (first | exact List.Sublist.refl _ | apply List.Sublist.cons_cons | apply List.Sublist.cons | exact List.nil_sublist _))⟩
          · skip
            refine o_alloc st rfl ?_; clear st; intro _ _ _ st
            refine k_held st (by repeat (first | exact List.Sublist.refl _ | apply List.Sublist.cons_cons | apply List.Sublist.cons | exact List.nil_sublist _)) ?_
            refine h_one (i := 5) (by decide +kernel) rfl ?_
            refine o_callV st rfl (toSpot_v _ _) rfl ?_; clear st; intro _ _ st
            refine k_held st (by repeat (first | exact List.Sublist.refl _ | apply List.Sublist.cons_cons | apply List.Sublist.cons | exact List.nil_sublist _)) ?_
            refine h_one (i := 7) (by decide +kernel) rfl ?_
            refine o_callV st rfl (toSpot_v _ _) rfl ?_; clear st; intro _ _ st
            refine k_held st (by repeat (first | exact List.Sublist.refl _ | apply List.Sublist.cons_cons | apply List.Sublist.cons | exact List.nil_sublist _)) ?_
            refine h_one (i := 8) (by decide +kernel) rfl ?_
            refine o_callShY st rfl (specCorner_yes _ _ _ _ _ _ _ _ b1I b2I b3I b4I hq _) rfl ?_; clear st; intro _ _ _ _ _ _ _ _ st
            refine k_held st (by repeat (first | exact List.Sublist.refl _ | apply List.Sublist.cons_cons | apply List.Sublist.cons | exact List.nil_sublist _)) ?_
            refine h_val (i := 9) st (by repeat (first | exact List.Sublist.refl _ | apply List.Sublist.cons_cons | apply List.Sublist.cons | exact List.nil_sublist _)) (by decide +kernel) (by decide +kernel) rfl (by decide +kernel) rfl (v_move st rfl) ?_; clear st; intro _ st
            refine h_val (i := 10) st (by repeat (first | exact List.Sublist.refl _ | apply List.Sublist.cons_cons | apply List.Sublist.cons | exact List.nil_sublist _)) (by decide +kernel) (by decide +kernel) rfl (by decide +kernel) rfl (v_extract st rfl rfl) ?_; clear st; intro _ st
            refine h_val (i := 11) st (by repeat (first | exact List.Sublist.refl _ | apply List.Sublist.cons_cons | apply List.Sublist.cons | exact List.nil_sublist _)) (by decide +kernel) (by decide +kernel) rfl (by decide +kernel) rfl (v_extract st rfl rfl) ?_; clear st; intro _ st
            refine h_one (i := 13) (by decide +kernel) rfl ?_
            (first | (refine o_storeS st rfl rfl rfl (by repeat (first | exact Upd.here | apply Upd.there)) rfl (by dsimp only [List.set]) ?_; clear st; intro _ _ st) | (refine o_storeW st rfl rfl (by repeat (first | exact Upd.here | apply Upd.there)) rfl rfl rfl ?_; clear st; intro _ _ st))
            refine k_held st (by repeat (first | exact List.Sublist.refl _ | apply List.Sublist.cons_cons | apply List.Sublist.cons | exact List.nil_sublist _)) ?_
            refine h_one (i := 14) (by decide +kernel) rfl ?_
            (first | (refine o_assign st rfl rfl ?_; clear st; intro _ st))
            refine k_last ?_
            refine h_done (by decide +kernel) ?_
            refine ⟨rfl, ?_⟩
            have st := St.fore 9 st rfl (by repeat (first | exact Rem.here | apply Rem.there))
            exact ⟨_, _, _, _, _, by assumption, by assumption, (st.fit (by repeat (first | exact trivial | refine And.intro rfl ?_))).subL (by repeat (first | exact List.Sublist.refl _ | apply List.Sublist.cons_cons | apply List.Sublist.cons | exact List.nil_sublist _))⟩
        · skip
          refine o_alloc st rfl ?_; clear st; intro _ _ _ st
          refine k_held st (by repeat (first | exact List.Sublist.refl _ | apply List.Sublist.cons_cons | apply List.Sublist.cons | exact List.nil_sublist _)) ?_
          refine h_one (i := 3) (by decide +kernel) rfl ?_
          refine o_callV st rfl (toSpot_v _ _) rfl ?_; clear st; intro _ _ st
          refine k_held st (by repeat (first | exact List.Sublist.refl _ | apply List.Sublist.cons_cons | apply List.Sublist.cons | exact List.nil_sublist _)) ?_
          refine h_one (i := 5) (by decide +kernel) rfl ?_
          refine o_callV st rfl (toSpot_v _ _) rfl ?_; clear st; intro _ _ st
          refine k_held st (by repeat (first | exact List.Sublist.refl _ | apply List.Sublist.cons_cons | apply List.Sublist.cons | exact List.nil_sublist _)) ?_
          refine h_one (i := 7) (by decide +kernel) rfl ?_
          refine o_callV st rfl (toSpot_v _ _) rfl ?_; clear st; intro _ _ st
          refine k_held st (by repeat (first | exact List.Sublist.refl _ | apply List.Sublist.cons_cons | apply List.Sublist.cons | exact List.nil_sublist _)) ?_
          refine h_one (i := 8) (by decide +kernel) rfl ?_
          refine o_callShY st rfl (specCorner_yes _ _ _ _ _ _ _ _ b1I b2I b3I b4I hq _) rfl ?_; clear st; intro _ _ _ _ _ _ _ _ st
          refine k_held st (by repeat (first | exact List.Sublist.refl _ | apply List.Sublist.cons_cons | apply List.Sublist.cons | exact List.nil_sublist _)) ?_
          refine h_val (i := 9) st (by repeat (first | exact List.Sublist.refl _ | apply List.Sublist.cons_cons | apply List.Sublist.cons | exact List.nil_sublist _)) (by decide +kernel) (by decide +kernel) rfl (by decide +kernel) rfl (v_move st rfl) ?_; clear st; intro _ st
          refine h_val (i := 10) st (by repeat (first | exact List.Sublist.refl _ | apply List.Sublist.cons_cons | apply List.Sublist.cons | exact List.nil_sublist _)) (by decide +kernel) (by decide +kernel) rfl (by decide +kernel) rfl (v_extract st rfl rfl) ?_; clear st; intro _ st
          refine h_val (i := 11) st (by repeat (first | exact List.Sublist.refl _ | apply List.Sublist.cons_cons | apply List.Sublist.cons | exact List.nil_sublist _)) (by decide +kernel) (by decide +kernel) rfl (by decide +kernel) rfl (v_extract st rfl rfl) ?_; clear st; intro _ st
          refine h_one (i := 13) (by decide +kernel) rfl ?_
          (first | (refine o_storeS st rfl rfl rfl (by repeat (first | exact Upd.here | apply Upd.there)) rfl (by dsimp only [List.set]) ?_; clear st; intro _ _ st) | (refine o_storeW st rfl rfl (by repeat (first | exact Upd.here | apply Upd.there)) rfl rfl rfl ?_; clear st; intro _ _ st))
          refine k_held st (by repeat (first | exact List.Sublist.refl _ | apply List.Sublist.cons_cons | apply List.Sublist.cons | exact List.nil_sublist _)) ?_
          refine h_one (i := 14) (by decide +kernel) rfl ?_
          (first | (refine o_assign st rfl rfl ?_; clear st; intro _ st))
          refine k_last ?_
          refine h_done (by decide +kernel) ?_
          refine ⟨rfl, ?_⟩
          have st := St.fore 9 st rfl (by repeat (first | exact Rem.here | apply Rem.there))
          exact ⟨_, _, _, _, _, by assumption, by assumption, (st.fit (by repeat (first | exact trivial | refine And.intro rfl ?_))).subL (by repeat (first | exact List.Sublist.refl _ | apply List.Sublist.cons_cons | apply List.Sublist.cons | exact List.nil_sublist _))⟩
      · skip
        refine o_alloc st rfl ?_; clear st; intro _ _ _ st
        refine k_held st (by repeat (first | exact List.Sublist.refl _ | apply List.Sublist.cons_cons | apply List.Sublist.cons | exact List.nil_sublist _)) ?_
        refine h_one (i := 1) (by decide +kernel) rfl ?_
        refine o_callV st rfl (toSpot_v _ _) rfl ?_; clear st; intro _ _ st
        refine k_held st (by repeat (first | exact List.Sublist.refl _ | apply List.Sublist.cons_cons | apply List.Sublist.cons | exact List.nil_sublist _)) ?_
        refine h_one (i := 3) (by decide +kernel) rfl ?_
        refine o_callV st rfl (toSpot_v _ _) rfl ?_; clear st; intro _ _ st
        refine k_held st (by repeat (first | exact List.Sublist.refl _ | apply List.Sublist.cons_cons | apply List.Sublist.cons | exact List.nil_sublist _)) ?_
        refine h_one (i := 5) (by decide +kernel) rfl ?_
        refine o_callV st rfl (toSpot_v _ _) rfl ?_; clear st; intro _ _ st
        refine k_held st (by repeat (first | exact List.Sublist.refl _ | apply List.Sublist.cons_cons | apply List.Sublist.cons | exact List.nil_sublist _)) ?_
        refine h_one (i := 7) (by decide +kernel) rfl ?_
        refine o_callV st rfl (toSpot_v _ _) rfl ?_; clear st; intro _ _ st
        refine k_held st (by repeat (first | exact List.Sublist.refl _ | apply List.Sublist.cons_cons | apply List.Sublist.cons | exact List.nil_sublist _)) ?_
        refine h_one (i := 8) (by decide +kernel) rfl ?_
        refine o_callShY st rfl (specCorner_yes _ _ _ _ _ _ _ _ b1I b2I b3I b4I hq _) rfl ?_; clear st; intro _ _ _ _ _ _ _ _ st
        refine k_held st (by repeat (first | exact List.Sublist.refl _ | apply List.Sublist.cons_cons | apply List.Sublist.cons | exact List.nil_sublist _)) ?_
        refine h_val (i := 9) st (by repeat (first | exact List.Sublist.refl _ | apply List.Sublist.cons_cons | apply List.Sublist.cons | exact List.nil_sublist _)) (by decide +kernel) (by decide +kernel) rfl (by decide +kernel) rfl (v_move st rfl) ?_; clear st; intro _ st
        refine h_val (i := 10) st (by repeat (first | exact List.Sublist.refl _ | apply List.Sublist.cons_cons | apply List.Sublist.cons | exact List.nil_sublist _)) (by decide +kernel) (by decide +kernel) rfl (by decide +kernel) rfl (v_extract st rfl rfl) ?_; clear st; intro _ st
        refine h_val (i := 11) st (by repeat (first | exact List.Sublist.refl _ | apply List.Sublist.cons_cons | apply List.Sublist.cons | exact List.nil_sublist _)) (by decide +kernel) (by decide +kernel) rfl (by decide +kernel) rfl (v_extract st rfl rfl) ?_; clear st; intro _ st
        refine h_one (i := 13) (by decide +kernel) rfl ?_
        (first | (refine o_storeS st rfl rfl rfl (by repeat (first | exact Upd.here | apply Upd.there)) rfl (by dsimp only [List.set]) ?_; clear st; intro _ _ st) | (refine o_storeW st rfl rfl (by repeat (first | exact Upd.here | apply Upd.there)) rfl rfl rfl ?_; clear st; intro _ _ st))
        refine k_held st (by repeat (first | exact List.Sublist.refl _ | apply List.Sublist.cons_cons | apply List.Sublist.cons | exact List.nil_sublist _)) ?_
        refine h_one (i := 14) (by decide +kernel) rfl ?_
        (first | (refine o_assign st rfl rfl ?_; clear st; intro _ st))
        refine k_last ?_
        refine h_done (by decide +kernel) ?_
        refine ⟨rfl, ?_⟩
        have st := St.fore 9 st rfl (by repeat (first | exact Rem.here | apply Rem.there))
        exact ⟨_, _, _, _, _, by assumption, by assumption, (st.fit (by repeat (first | exact trivial | refine And.intro rfl ?_))).subL (by repeat (first | exact List.Sublist.refl _ | apply List.Sublist.cons_cons | apply List.Sublist.cons | exact List.nil_sublist _))⟩
    clear st
    rintro _ _ ⟨_, _, _, _, _, _, _, st⟩
    (repeat' (first | (refine o_callV st rfl (toSpot_v _ _) rfl ?_; clear st; intro _ _ st) | (refine o_callShY st rfl (specCorner_yes _ _ _ _ _ _ _ _ b1I b2I b3I b4I hq _) rfl ?_; clear st; intro _ _ _ _ _ _ _ _ st) | (refine o_callShY st rfl (implCorner_yes _ _ _ _ _ _ _ _ b1I b2I b3I b4I hq _) rfl ?_; clear st; intro _ _ _ _ _ _ _ _ st) | (refine o_callV st rfl (eqSheet_ok _ _ _ _ _ (by assumption) (by assumption) _ _ _ _ _ (RdS.of (st.heap (by repeat (first | exact At.here | apply At.there))) (spotsIn0p _ _)) (RdS.of (st.heap (by repeat (first | exact At.here | apply At.there))) (spotsIn0p _ _)) (by omega)) rfl ?_; clear st; intro _ _ st) | (refine o_callU st rfl (markSheet_ok _ _ _ _ _ _ _ _ (st.heap (by repeat (first | exact At.here | apply At.there))) (by omega) (by omega) (by omega)) (by repeat (first | exact Upd.here | apply Upd.there)) rfl ?_; clear st; intro _ _ st) | (refine o_callV st rfl (heldSheet_ok _ _ _ _ _ _ _ _ (st.heap (by repeat (first | exact At.here | apply At.there))) (by omega) (by omega) (by omega)) rfl ?_; clear st; intro _ _ st) | (refine c_seq ?_) | (refine c_region ?_) | (refine l_do ?_) | (refine l_doG st rfl rfl ?_) | (refine l_skipU st rfl rfl rfl ?_; clear st; intro _ st) | (refine l_skip st rfl rfl rfl rfl ?_; clear st; intro _ st) | (refine l_nil ?_) | (refine x_then ?_) | (refine x_thenR ?_) | (refine x_thenE ?_) | (refine wp_ret ?_) | (refine wp_skip ?_) | (refine c_condT st rfl ?_) | (refine c_condF st rfl ?_) | (refine o_move st rfl rfl ?_; clear st; intro _ st) | (refine o_assign st rfl rfl ?_; clear st; intro _ st) | (refine o_pickT st rfl rfl rfl ?_; clear st; intro _ st) | (refine o_pickF st rfl rfl rfl ?_; clear st; intro _ st) | (refine o_alloc st rfl ?_; clear st; intro _ _ _ st) | (refine o_boxA st rfl rfl ?_; clear st; intro _ _ _ st) | (refine o_boxS st rfl rfl rfl ?_; clear st; intro _ _ _ st) | (refine o_loadS st rfl (by repeat (first | exact At.here | apply At.there)) rfl rfl ?_; clear st; intro _ st) | (refine o_load3 st rfl (by repeat (first | exact At.here | apply At.there)) rfl ?_; clear st; intro _ st) | (refine o_load2 st rfl (by repeat (first | exact At.here | apply At.there)) rfl ?_; clear st; intro _ st) | (refine o_load4 st rfl (by repeat (first | exact At.here | apply At.there)) rfl ?_; clear st; intro _ st) | (refine o_storeS st rfl rfl rfl (by repeat (first | exact Upd.here | apply Upd.there)) rfl (by dsimp only [List.set]) ?_; clear st; intro _ _ st) | (refine o_storeW st rfl rfl (by repeat (first | exact Upd.here | apply Upd.there)) rfl rfl rfl ?_; clear st; intro _ _ st) | (refine o_extract st rfl rfl rfl ?_; clear st; intro _ st) | (refine o_neqB st rfl rfl rfl rfl ?_; clear st; intro _ st) | (refine o_notT st rfl rfl ?_; clear st; intro _ st) | (refine o_notF st rfl rfl ?_; clear st; intro _ st) | (refine o_lss st rfl rfl rfl ?_ ?_ <;> clear st <;> intro _ _ st <;> (try (exfalso; omega))) | (refine o_neqI st rfl rfl rfl ?_ ?_ <;> clear st <;> intro _ _ st <;> (try (exfalso; omega)))))
    replace st := St.fit (E' := [(4, _), (5, _), (6, _), (7, _), (9, _), (10, _)]) st (by repeat (first | exact trivial | refine And.intro rfl ?_))
    refine c_drawCA (F := (fun E L a' w' => ∃ (p0 c0 cap0 : Nat) (bs0 : List B3) (pad0 : List Value), IsSL bs0 (crn b1s b2s b3s b4s) ∧ bs0.length = (crn b1s b2s b3s b4s).length ∧ St w Try.f12.ntmps a' w' ((11, .pointer (some ⟨p0, 0, none⟩)) :: (12, .bool true) :: E) (⟨p0, true, .cells [.int .i64 (2), .int .i64 (2), .slice (some ⟨c0, 0, none⟩) bs0.length cap0].toArray 46 (0, 0)⟩ :: ⟨c0, true, oS bs0 pad0⟩ :: L))) (last := 14) hm_ (by decide +kernel) (by decide +kernel) st ?_ ?_
    · clear st; intro _ st
      refine h_val (i := 0) st (by repeat (first | exact List.Sublist.refl _ | apply List.Sublist.cons_cons | apply List.Sublist.cons | exact List.nil_sublist _)) (by decide +kernel) (by decide +kernel) rfl (by decide +kernel) rfl (by first | exact v_load3 st rfl (by repeat (first | exact At.here | apply At.there)) | exact v_loadS st rfl (by repeat (first | exact At.here | apply At.there)) rfl) ?_; clear st; intro _ st
      refine h_val (i := 2) st (by repeat (first | exact List.Sublist.refl _ | apply List.Sublist.cons_cons | apply List.Sublist.cons | exact List.nil_sublist _)) (by decide +kernel) (by decide +kernel) rfl (by decide +kernel) rfl (by first | exact v_load3 st rfl (by repeat (first | exact At.here | apply At.there)) | exact v_loadS st rfl (by repeat (first | exact At.here | apply At.there)) rfl) ?_; clear st; intro _ st
      refine h_val (i := 4) st (by repeat (first | exact List.Sublist.refl _ | apply List.Sublist.cons_cons | apply List.Sublist.cons | exact List.nil_sublist _)) (by decide +kernel) (by decide +kernel) rfl (by decide +kernel) rfl (by first | exact v_load3 st rfl (by repeat (first | exact At.here | apply At.there)) | exact v_loadS st rfl (by repeat (first | exact At.here | apply At.there)) rfl) ?_; clear st; intro _ st
      refine h_val (i := 6) st (by repeat (first | exact List.Sublist.refl _ | apply List.Sublist.cons_cons | apply List.Sublist.cons | exact List.nil_sublist _)) (by decide +kernel) (by decide +kernel) rfl (by decide +kernel) rfl (by first | exact v_load3 st rfl (by repeat (first | exact At.here | apply At.there)) | exact v_loadS st rfl (by repeat (first | exact At.here | apply At.there)) rfl) ?_; clear st; intro _ st
      refine h_two (i := 1) (i' := 12) (by decide +kernel) rfl rfl ?_ ?_
      · skip
        refine o_callV st rfl (toSpot_v _ _) rfl ?_; clear st; intro _ _ st
        refine k_held st (by repeat (first | exact List.Sublist.refl _ | apply List.Sublist.cons_cons | apply List.Sublist.cons | exact List.nil_sublist _)) ?_
        refine h_two (i := 3) (i' := 12) (by decide +kernel) rfl rfl ?_ ?_
        · skip
          refine o_callV st rfl (toSpot_v _ _) rfl ?_; clear st; intro _ _ st
          refine k_held st (by repeat (first | exact List.Sublist.refl _ | apply List.Sublist.cons_cons | apply List.Sublist.cons | exact List.nil_sublist _)) ?_
          refine h_two (i := 5) (i' := 12) (by decide +kernel) rfl rfl ?_ ?_
          · skip
            refine o_callV st rfl (toSpot_v _ _) rfl ?_; clear st; intro _ _ st
            refine k_held st (by repeat (first | exact List.Sublist.refl _ | apply List.Sublist.cons_cons | apply List.Sublist.cons | exact List.nil_sublist _)) ?_
            refine h_two (i := 7) (i' := 12) (by decide +kernel) rfl rfl ?_ ?_
            · skip
              refine o_callV st rfl (toSpot_v _ _) rfl ?_; clear st; intro _ _ st
              refine k_held st (by repeat (first | exact List.Sublist.refl _ | apply List.Sublist.cons_cons | apply List.Sublist.cons | exact List.nil_sublist _)) ?_
              refine h_two (i := 8) (i' := 12) (by decide +kernel) rfl rfl ?_ ?_
              · skip
                refine o_callShY st rfl (implCorner_yes _ _ _ _ _ _ _ _ b1I b2I b3I b4I hq _) rfl ?_; clear st; intro _ _ _ _ _ _ _ _ st
                refine k_held st (by repeat (first | exact List.Sublist.refl _ | apply List.Sublist.cons_cons | apply List.Sublist.cons | exact List.nil_sublist _)) ?_
                refine h_val (i := 9) st (by repeat (first | exact List.Sublist.refl _ | apply List.Sublist.cons_cons | apply List.Sublist.cons | exact List.nil_sublist _)) (by decide +kernel) (by decide +kernel) rfl (by decide +kernel) rfl (v_move st rfl) ?_; clear st; intro _ st
                refine h_val (i := 10) st (by repeat (first | exact List.Sublist.refl _ | apply List.Sublist.cons_cons | apply List.Sublist.cons | exact List.nil_sublist _)) (by decide +kernel) (by decide +kernel) rfl (by decide +kernel) rfl (v_extract st rfl rfl) ?_; clear st; intro _ st
                refine h_val (i := 11) st (by repeat (first | exact List.Sublist.refl _ | apply List.Sublist.cons_cons | apply List.Sublist.cons | exact List.nil_sublist _)) (by decide +kernel) (by decide +kernel) rfl (by decide +kernel) rfl (v_extract st rfl rfl) ?_; clear st; intro _ st
                refine h_one (i := 12) (by decide +kernel) rfl ?_
                refine o_alloc st rfl ?_; clear st; intro _ _ _ st
                refine k_held st (by repeat (first | exact List.Sublist.refl _ | apply List.Sublist.cons_cons | apply List.Sublist.cons | exact List.nil_sublist _)) ?_
                refine h_one (i := 13) (by decide +kernel) rfl ?_
                (first | (refine o_storeS st rfl rfl rfl (by repeat (first | exact Upd.here | apply Upd.there)) rfl (by dsimp only [List.set]) ?_; clear st; intro _ _ st) | (refine o_storeW st rfl rfl (by repeat (first | exact Upd.here | apply Upd.there)) rfl rfl rfl ?_; clear st; intro _ _ st))
                refine k_held st (by repeat (first | exact List.Sublist.refl _ | apply List.Sublist.cons_cons | apply List.Sublist.cons | exact List.nil_sublist _)) ?_
                refine h_one (i := 14) (by decide +kernel) rfl ?_
                (first | (refine o_assign st rfl rfl ?_; clear st; intro _ st))
                refine k_last ?_
                refine h_done (by decide +kernel) ?_
                refine ⟨rfl, ?_⟩
                have st := St.fore 11 st rfl (by repeat (first | exact Rem.here | apply Rem.there))
                exact ⟨_, _, _, _, _, by assumption, by assumption, (st.fit (by repeat (first | exact trivial | refine And.intro rfl ?_))).subL (by repeat (first | exact List.Sublist.refl _ | apply List.Sublist.cons_cons | apply List.Sublist.cons | exact List.nil_sublist _))⟩
              · skip
                refine o_alloc st rfl ?_; clear st; intro _ _ _ st
                refine k_held st (by repeat (first | exact List.Sublist.refl _ | apply List.Sublist.cons_cons | apply List.Sublist.cons | exact List.nil_sublist _)) ?_
                refine h_one (i := 8) (by decide +kernel) rfl ?_
                refine o_callShY st rfl (implCorner_yes _ _ _ _ _ _ _ _ b1I b2I b3I b4I hq _) rfl ?_; clear st; intro _ _ _ _ _ _ _ _ st
                refine k_held st (by repeat (first | exact List.Sublist.refl _ | apply List.Sublist.cons_cons | apply List.Sublist.cons | exact List.nil_sublist _)) ?_
                refine h_val (i := 9) st (by repeat (first | exact List.Sublist.refl _ | apply List.Sublist.cons_cons | apply List.Sublist.cons | exact List.nil_sublist _)) (by decide +kernel) (by decide +kernel) rfl (by decide +kernel) rfl (v_move st rfl) ?_; clear st; intro _ st
                refine h_val (i := 10) st (by repeat (first | exact List.Sublist.refl _ | apply List.Sublist.cons_cons | apply List.Sublist.cons | exact List.nil_sublist _)) (by decide +kernel) (by decide +kernel) rfl (by decide +kernel) rfl (v_extract st rfl rfl) ?_; clear st; intro _ st
                refine h_val (i := 11) st (by repeat (first | exact List.Sublist.refl _ | apply List.Sublist.cons_cons | apply List.Sublist.cons | exact List.nil_sublist _)) (by decide +kernel) (by decide +kernel) rfl (by decide +kernel) rfl (v_extract st rfl rfl) ?_; clear st; intro _ st
                refine h_one (i := 13) (by decide +kernel) rfl ?_
                (first | (refine o_storeS st rfl rfl rfl (by repeat (first | exact Upd.here | apply Upd.there)) rfl (by dsimp only [List.set]) ?_; clear st; intro _ _ st) | (refine o_storeW st rfl rfl (by repeat (first | exact Upd.here | apply Upd.there)) rfl rfl rfl ?_; clear st; intro _ _ st))
                refine k_held st (by repeat (first | exact List.Sublist.refl _ | apply List.Sublist.cons_cons | apply List.Sublist.cons | exact List.nil_sublist _)) ?_
                refine h_one (i := 14) (by decide +kernel) rfl ?_
                (first | (refine o_assign st rfl rfl ?_; clear st; intro _ st))
                refine k_last ?_
                refine h_done (by decide +kernel) ?_
                refine ⟨rfl, ?_⟩
                have st := St.fore 11 st rfl (by repeat (first | exact Rem.here | apply Rem.there))
                exact ⟨_, _, _, _, _, by assumption, by assumption, (st.fit (by repeat (first | exact trivial | refine And.intro rfl ?_))).subL (by repeat (first | exact List.Sublist.refl _ | apply List.Sublist.cons_cons | apply List.Sublist.cons | exact List.nil_sublist _))⟩
            · skip
              refine o_alloc st rfl ?_; clear st; intro _ _ _ st
              refine k_held st (by repeat (first | exact List.Sublist.refl _ | apply List.Sublist.cons_cons | apply List.Sublist.cons | exact List.nil_sublist _)) ?_
              refine h_one (i := 7) (by decide +kernel) rfl ?_
              refine o_callV st rfl (toSpot_v _ _) rfl ?_; clear st; intro _ _ st
              refine k_held st (by repeat (first | exact List.Sublist.refl _ | apply List.Sublist.cons_cons | apply List.Sublist.cons | exact List.nil_sublist _)) ?_
              refine h_one (i := 8) (by decide +kernel) rfl ?_
              refine o_callShY st rfl (implCorner_yes _ _ _ _ _ _ _ _ b1I b2I b3I b4I hq _) rfl ?_; clear st; intro _ _ _ _ _ _ _ _ st
              refine k_held st (by repeat (first | exact List.Sublist.refl _ | apply List.Sublist.cons_cons | apply List.Sublist.cons | exact List.nil_sublist _)) ?_
              refine h_val (i := 9) st (by repeat (first | exact List.Sublist.refl _ | apply List.Sublist.cons_cons | apply List.Sublist.cons | exact List.nil_sublist _)) (by decide +kernel) (by decide +kernel) rfl (by decide +kernel) rfl (v_move st rfl) ?_; clear st; intro _ st
              refine h_val (i := 10) st (by repeat (first | exact List.Sublist.refl _ | apply List.Sublist.cons_cons | apply List.Sublist.cons | exact List.nil_sublist _)) (by decide +kernel) (by decide +kernel) rfl (by decide +kernel) rfl (v_extract st rfl rfl) ?_; clear st; intro _ st
              refine h_val (i := 11) st (by repeat (first | exact List.Sublist.refl _ | apply List.Sublist.cons_cons | apply List.Sublist.cons | exact List.nil_sublist _)) (by decide +kernel) (by decide +kernel) rfl (by decide +kernel) rfl (v_extract st rfl rfl) ?_; clear st; intro _ st
              refine h_one (i := 13) (by decide +kernel) rfl ?_
              (first | (refine o_storeS st rfl rfl rfl (by repeat (first | exact Upd.here | apply Upd.there)) rfl (by dsimp only [List.set]) ?_; clear st; intro _ _ st) | (refine o_storeW st rfl rfl (by repeat (first | exact Upd.here | apply Upd.there)) rfl rfl rfl ?_; clear st; intro _ _ st))
              refine k_held st (by repeat (first | exact List.Sublist.refl _ | apply List.Sublist.cons_cons | apply List.Sublist.cons | exact List.nil_sublist _)) ?_
              refine h_one (i := 14) (by decide +kernel) rfl ?_
              (first | (refine o_assign st rfl rfl ?_; clear st; intro _ st))
              refine k_last ?_
              refine h_done (by decide +kernel) ?_
              refine ⟨rfl, ?_⟩
              have st := St.fore 11 st rfl (by repeat (first | exact Rem.here | apply Rem.there))
              exact ⟨_, _, _, _, _, by assumption, by assumption, (st.fit (by repeat (first | exact trivial | refine And.intro rfl ?_))).subL (by repeat (first | exact List.Sublist.refl _ | apply List.Sublist.cons_cons | apply List.Sublist.cons | exact List.nil_sublist _))⟩
          · skip
            refine o_alloc st rfl ?_; clear st; intro _ _ _ st
            refine k_held st (by repeat (first | exact List.Sublist.refl _ | apply List.Sublist.cons_cons | apply List.Sublist.cons | exact List.nil_sublist _)) ?_
            refine h_one (i := 5) (by decide +kernel) rfl ?_
            refine o_callV st rfl (toSpot_v _ _) rfl ?_; clear st; intro _ _ st
            refine k_held st (by repeat (first | exact List.Sublist.refl _ | apply List.Sublist.cons_cons | apply List.Sublist.cons | exact List.nil_sublist _)) ?_
            refine h_one (i := 7) (by decide +kernel) rfl ?_
            refine o_callV st rfl (toSpot_v _ _) rfl ?_; clear st; intro _ _ st
            refine k_held st (by repeat (first | exact List.Sublist.refl _ | apply List.Sublist.cons_cons | apply List.Sublist.cons | exact List.nil_sublist _)) ?_
            refine h_one (i := 8) (by decide +kernel) rfl ?_
            refine o_callShY st rfl (implCorner_yes _ _ _ _ _ _ _ _ b1I b2I b3I b4I hq _) rfl ?_; clear st; intro _ _ _ _ _ _ _ _ st
            refine k_held st (by repeat (first | exact List.Sublist.refl _ | apply List.Sublist.cons_cons | apply List.Sublist.cons | exact List.nil_sublist _)) ?_
            refine h_val (i := 9) st (by repeat (first | exact List.Sublist.refl _ | apply List.Sublist.cons_cons | apply List.Sublist.cons | exact List.nil_sublist _)) (by decide +kernel) (by decide +kernel) rfl (by decide +kernel) rfl (v_move st rfl) ?_; clear st; intro _ st
            refine h_val (i := 10) st (by repeat (first | exact List.Sublist.refl _ | apply List.Sublist.cons_cons | apply List.Sublist.cons | exact List.nil_sublist _)) (by decide +kernel) (by decide +kernel) rfl (by decide +kernel) rfl (v_extract st rfl rfl) ?_; clear st; intro _ st
            refine h_val (i := 11) st (by repeat (first | exact List.Sublist.refl _ | apply List.Sublist.cons_cons | apply List.Sublist.cons | exact List.nil_sublist _)) (by decide +kernel) (by decide +kernel) rfl (by decide +kernel) rfl (v_extract st rfl rfl) ?_; clear st; intro _ st
            refine h_one (i := 13) (by decide +kernel) rfl ?_
            (first | (refine o_storeS st rfl rfl rfl (by repeat (first | exact Upd.here | apply Upd.there)) rfl (by dsimp only [List.set]) ?_; clear st; intro _ _ st) | (refine o_storeW st rfl rfl (by repeat (first | exact Upd.here | apply Upd.there)) rfl rfl rfl ?_; clear st; intro _ _ st))
            refine k_held st (by repeat (first | exact List.Sublist.refl _ | apply List.Sublist.cons_cons | apply List.Sublist.cons | exact List.nil_sublist _)) ?_
            refine h_one (i := 14) (by decide +kernel) rfl ?_
            (first | (refine o_assign st rfl rfl ?_; clear st; intro _ st))
            refine k_last ?_
            refine h_done (by decide +kernel) ?_
            refine ⟨rfl, ?_⟩
            have st := St.fore 11 st rfl (by repeat (first | exact Rem.here | apply Rem.there))
            exact ⟨_, _, _, _, _, by assumption, by assumption, (st.fit (by repeat (first | exact trivial | refine And.intro rfl ?_))).subL (by repeat (first | exact List.Sublist.refl _ | apply List.Sublist.cons_cons | apply List.Sublist.cons | exact List.nil_sublist _))⟩
        · skip
          refine o_alloc st rfl ?_; clear st; intro _ _ _ st
          refine k_held st (by repeat (first | exact List.Sublist.refl _ | apply List.Sublist.cons_cons | apply List.Sublist.cons | exact List.nil_sublist _)) ?_
          refine h_one (i := 3) (by decide +kernel) rfl ?_
          refine o_callV st rfl (toSpot_v _ _) rfl ?_; clear st; intro _ _ st
          refine k_held st (by repeat (first | exact List.Sublist.refl _ | apply List.Sublist.cons_cons | apply List.Sublist.cons | exact List.nil_sublist _)) ?_
          refine h_one (i := 5) (by decide +kernel) rfl ?_
          refine o_callV st rfl (toSpot_v _ _) rfl ?_; clear st; intro _ _ st
          refine k_held st (by repeat (first | exact List.Sublist.refl _ | apply List.Sublist.cons_cons | apply List.Sublist.cons | exact List.nil_sublist _)) ?_
          refine h_one (i := 7) (by decide +kernel) rfl ?_
          refine o_callV st rfl (toSpot_v _ _) rfl ?_; clear st; intro _ _ st
          refine k_held st (by repeat (first | exact List.Sublist.refl _ | apply List.Sublist.cons_cons | apply List.Sublist.cons | exact List.nil_sublist _)) ?_
          refine h_one (i := 8) (by decide +kernel) rfl ?_
          refine o_callShY st rfl (implCorner_yes _ _ _ _ _ _ _ _ b1I b2I b3I b4I hq _) rfl ?_; clear st; intro _ _ _ _ _ _ _ _ st
          refine k_held st (by repeat (first | exact List.Sublist.refl _ | apply List.Sublist.cons_cons | apply List.Sublist.cons | exact List.nil_sublist _)) ?_
          refine h_val (i := 9) st (by repeat (first | exact List.Sublist.refl _ | apply List.Sublist.cons_cons | apply List.Sublist.cons | exact List.nil_sublist _)) (by decide +kernel) (by decide +kernel) rfl (by decide +kernel) rfl (v_move st rfl) ?_; clear st; intro _ st
          refine h_val (i := 10) st (by repeat (first | exact List.Sublist.refl _ | apply List.Sublist.cons_cons | apply List.Sublist.cons | exact List.nil_sublist _)) (by decide +kernel) (by decide +kernel) rfl (by decide +kernel) rfl (v_extract st rfl rfl) ?_; clear st; intro _ st
          refine h_val (i := 11) st (by repeat (first | exact List.Sublist.refl _ | apply List.Sublist.cons_cons | apply List.Sublist.cons | exact List.nil_sublist _)) (by decide +kernel) (by decide +kernel) rfl (by decide +kernel) rfl (v_extract st rfl rfl) ?_; clear st; intro _ st
          refine h_one (i := 13) (by decide +kernel) rfl ?_
          (first | (refine o_storeS st rfl rfl rfl (by repeat (first | exact Upd.here | apply Upd.there)) rfl (by dsimp only [List.set]) ?_; clear st; intro _ _ st) | (refine o_storeW st rfl rfl (by repeat (first | exact Upd.here | apply Upd.there)) rfl rfl rfl ?_; clear st; intro _ _ st))
          refine k_held st (by repeat (first | exact List.Sublist.refl _ | apply List.Sublist.cons_cons | apply List.Sublist.cons | exact List.nil_sublist _)) ?_
          refine h_one (i := 14) (by decide +kernel) rfl ?_
          (first | (refine o_assign st rfl rfl ?_; clear st; intro _ st))
          refine k_last ?_
          refine h_done (by decide +kernel) ?_
          refine ⟨rfl, ?_⟩
          have st := St.fore 11 st rfl (by repeat (first | exact Rem.here | apply Rem.there))
          exact ⟨_, _, _, _, _, by assumption, by assumption, (st.fit (by repeat (first | exact trivial | refine And.intro rfl ?_))).subL (by repeat (first | exact List.Sublist.refl _ | apply List.Sublist.cons_cons | apply List.Sublist.cons | exact List.nil_sublist _))⟩
      · skip
        refine o_alloc st rfl ?_; clear st; intro _ _ _ st
        refine k_held st (by repeat (first | exact List.Sublist.refl _ | apply List.Sublist.cons_cons | apply List.Sublist.cons | exact List.nil_sublist _)) ?_
        refine h_one (i := 1) (by decide +kernel) rfl ?_
        refine o_callV st rfl (toSpot_v _ _) rfl ?_; clear st; intro _ _ st
        refine k_held st (by repeat (first | exact List.Sublist.refl _ | apply List.Sublist.cons_cons | apply List.Sublist.cons | exact List.nil_sublist _)) ?_
        refine h_one (i := 3) (by decide +kernel) rfl ?_
        refine o_callV st rfl (toSpot_v _ _) rfl ?_; clear st; intro _ _ st
        refine k_held st (by repeat (first | exact List.Sublist.refl _ | apply List.Sublist.cons_cons | apply List.Sublist.cons | exact List.nil_sublist _)) ?_
        refine h_one (i := 5) (by decide +kernel) rfl ?_
        refine o_callV st rfl (toSpot_v _ _) rfl ?_; clear st; intro _ _ st
        refine k_held st (by repeat (first | exact List.Sublist.refl _ | apply List.Sublist.cons_cons | apply List.Sublist.cons | exact List.nil_sublist _)) ?_
        refine h_one (i := 7) (by decide +kernel) rfl ?_
        refine o_callV st rfl (toSpot_v _ _) rfl ?_; clear st; intro _ _ st
        refine k_held st (by repeat (first | exact List.Sublist.refl _ | apply List.Sublist.cons_cons | apply List.Sublist.cons | exact List.nil_sublist _)) ?_
        refine h_one (i := 8) (by decide +kernel) rfl ?_
        refine o_callShY st rfl (implCorner_yes _ _ _ _ _ _ _ _ b1I b2I b3I b4I hq _) rfl ?_; clear st; intro _ _ _ _ _ _ _ _ st
        refine k_held st (by repeat (first | exact List.Sublist.refl _ | apply List.Sublist.cons_cons | apply List.Sublist.cons | exact List.nil_sublist _)) ?_
        refine h_val (i := 9) st (by repeat (first | exact List.Sublist.refl _ | apply List.Sublist.cons_cons | apply List.Sublist.cons | exact List.nil_sublist _)) (by decide +kernel) (by decide +kernel) rfl (by decide +kernel) rfl (v_move st rfl) ?_; clear st; intro _ st
        refine h_val (i := 10) st (by repeat (first | exact List.Sublist.refl _ | apply List.Sublist.cons_cons | apply List.Sublist.cons | exact List.nil_sublist _)) (by decide +kernel) (by decide +kernel) rfl (by decide +kernel) rfl (v_extract st rfl rfl) ?_; clear st; intro _ st
        refine h_val (i := 11) st (by repeat (first | exact List.Sublist.refl _ | apply List.Sublist.cons_cons | apply List.Sublist.cons | exact List.nil_sublist _)) (by decide +kernel) (by decide +kernel) rfl (by decide +kernel) rfl (v_extract st rfl rfl) ?_; clear st; intro _ st
        refine h_one (i := 13) (by decide +kernel) rfl ?_
        (first | (refine o_storeS st rfl rfl rfl (by repeat (first | exact Upd.here | apply Upd.there)) rfl (by dsimp only [List.set]) ?_; clear st; intro _ _ st) | (refine o_storeW st rfl rfl (by repeat (first | exact Upd.here | apply Upd.there)) rfl rfl rfl ?_; clear st; intro _ _ st))
        refine k_held st (by repeat (first | exact List.Sublist.refl _ | apply List.Sublist.cons_cons | apply List.Sublist.cons | exact List.nil_sublist _)) ?_
        refine h_one (i := 14) (by decide +kernel) rfl ?_
        (first | (refine o_assign st rfl rfl ?_; clear st; intro _ st))
        refine k_last ?_
        refine h_done (by decide +kernel) ?_
        refine ⟨rfl, ?_⟩
        have st := St.fore 11 st rfl (by repeat (first | exact Rem.here | apply Rem.there))
        exact ⟨_, _, _, _, _, by assumption, by assumption, (st.fit (by repeat (first | exact trivial | refine And.intro rfl ?_))).subL (by repeat (first | exact List.Sublist.refl _ | apply List.Sublist.cons_cons | apply List.Sublist.cons | exact List.nil_sublist _))⟩
    clear st
    rintro _ _ ⟨_, _, _, _, _, _, _, st⟩
    (repeat' (first | (refine o_callV st rfl (toSpot_v _ _) rfl ?_; clear st; intro _ _ st) | (refine o_callShY st rfl (specCorner_yes _ _ _ _ _ _ _ _ b1I b2I b3I b4I hq _) rfl ?_; clear st; intro _ _ _ _ _ _ _ _ st) | (refine o_callShY st rfl (implCorner_yes _ _ _ _ _ _ _ _ b1I b2I b3I b4I hq _) rfl ?_; clear st; intro _ _ _ _ _ _ _ _ st) | (refine o_callV st rfl (eqSheet_ok _ _ _ _ _ (by assumption) (by assumption) _ _ _ _ _ (RdS.of (st.heap (by repeat (first | exact At.here | apply At.there))) (spotsIn0p _ _)) (RdS.of (st.heap (by repeat (first | exact At.here | apply At.there))) (spotsIn0p _ _)) (by omega)) rfl ?_; clear st; intro _ _ st) | (refine o_callU st rfl (markSheet_ok _ _ _ _ _ _ _ _ (st.heap (by repeat (first | exact At.here | apply At.there))) (by omega) (by omega) (by omega)) (by repeat (first | exact Upd.here | apply Upd.there)) rfl ?_; clear st; intro _ _ st) | (refine o_callV st rfl (heldSheet_ok _ _ _ _ _ _ _ _ (st.heap (by repeat (first | exact At.here | apply At.there))) (by omega) (by omega) (by omega)) rfl ?_; clear st; intro _ _ st) | (refine c_seq ?_) | (refine c_region ?_) | (refine l_do ?_) | (refine l_doG st rfl rfl ?_) | (refine l_skipU st rfl rfl rfl ?_; clear st; intro _ st) | (refine l_skip st rfl rfl rfl rfl ?_; clear st; intro _ st) | (refine l_nil ?_) | (refine x_then ?_) | (refine x_thenR ?_) | (refine x_thenE ?_) | (refine wp_ret ?_) | (refine wp_skip ?_) | (refine c_condT st rfl ?_) | (refine c_condF st rfl ?_) | (refine o_move st rfl rfl ?_; clear st; intro _ st) | (refine o_assign st rfl rfl ?_; clear st; intro _ st) | (refine o_pickT st rfl rfl rfl ?_; clear st; intro _ st) | (refine o_pickF st rfl rfl rfl ?_; clear st; intro _ st) | (refine o_alloc st rfl ?_; clear st; intro _ _ _ st) | (refine o_boxA st rfl rfl ?_; clear st; intro _ _ _ st) | (refine o_boxS st rfl rfl rfl ?_; clear st; intro _ _ _ st) | (refine o_loadS st rfl (by repeat (first | exact At.here | apply At.there)) rfl rfl ?_; clear st; intro _ st) | (refine o_load3 st rfl (by repeat (first | exact At.here | apply At.there)) rfl ?_; clear st; intro _ st) | (refine o_load2 st rfl (by repeat (first | exact At.here | apply At.there)) rfl ?_; clear st; intro _ st) | (refine o_load4 st rfl (by repeat (first | exact At.here | apply At.there)) rfl ?_; clear st; intro _ st) | (refine o_storeS st rfl rfl rfl (by repeat (first | exact Upd.here | apply Upd.there)) rfl (by dsimp only [List.set]) ?_; clear st; intro _ _ st) | (refine o_storeW st rfl rfl (by repeat (first | exact Upd.here | apply Upd.there)) rfl rfl rfl ?_; clear st; intro _ _ st) | (refine o_extract st rfl rfl rfl ?_; clear st; intro _ st) | (refine o_neqB st rfl rfl rfl rfl ?_; clear st; intro _ st) | (refine o_notT st rfl rfl ?_; clear st; intro _ st) | (refine o_notF st rfl rfl ?_; clear st; intro _ st) | (refine o_lss st rfl rfl rfl ?_ ?_ <;> clear st <;> intro _ _ st <;> (try (exfalso; omega))) | (refine o_neqI st rfl rfl rfl ?_ ?_ <;> clear st <;> intro _ _ st <;> (try (exfalso; omega)))))
    replace st := St.fit (E' := [(4, _), (5, _), (6, _), (7, _), (9, _), (10, _), (11, _), (13, _), (14, _)]) st (by repeat (first | exact trivial | refine And.intro rfl ?_))
    refine c_drawCA (F := (fun E L a' w' => ∃ (p0 c0 cap0 : Nat) (bs0 : List B3) (pad0 : List Value), IsSL bs0 (crn b1s b2s b3s b4s) ∧ bs0.length = (crn b1s b2s b3s b4s).length ∧ St w Try.f12.ntmps a' w' ((15, .pointer (some ⟨p0, 0, none⟩)) :: (16, .bool true) :: E) (⟨p0, true, .cells [.int .i64 (2), .int .i64 (2), .slice (some ⟨c0, 0, none⟩) bs0.length cap0].toArray 46 (0, 0)⟩ :: ⟨c0, true, oS bs0 pad0⟩ :: L))) (last := 14) hm_ (by decide +kernel) (by decide +kernel) st ?_ ?_
    · clear st; intro _ st
      refine h_val (i := 0) st (by repeat (first | exact List.Sublist.refl _ | apply List.Sublist.cons_cons | apply List.Sublist.cons | exact List.nil_sublist _)) (by decide +kernel) (by decide +kernel) rfl (by decide +kernel) rfl (by first | exact v_load3 st rfl (by repeat (first | exact At.here | apply At.there)) | exact v_loadS st rfl (by repeat (first | exact At.here | apply At.there)) rfl) ?_; clear st; intro _ st
      refine h_val (i := 2) st (by repeat (first | exact List.Sublist.refl _ | apply List.Sublist.cons_cons | apply List.Sublist.cons | exact List.nil_sublist _)) (by decide +kernel) (by decide +kernel) rfl (by decide +kernel) rfl (by first | exact v_load3 st rfl (by repeat (first | exact At.here | apply At.there)) | exact v_loadS st rfl (by repeat (first | exact At.here | apply At.there)) rfl) ?_; clear st; intro _ st
      refine h_val (i := 4) st (by repeat (first | exact List.Sublist.refl _ | apply List.Sublist.cons_cons | apply List.Sublist.cons | exact List.nil_sublist _)) (by decide +kernel) (by decide +kernel) rfl (by decide +kernel) rfl (by first | exact v_load3 st rfl (by repeat (first | exact At.here | apply At.there)) | exact v_loadS st rfl (by repeat (first | exact At.here | apply At.there)) rfl) ?_; clear st; intro _ st
      refine h_val (i := 6) st (by repeat (first | exact List.Sublist.refl _ | apply List.Sublist.cons_cons | apply List.Sublist.cons | exact List.nil_sublist _)) (by decide +kernel) (by decide +kernel) rfl (by decide +kernel) rfl (by first | exact v_load3 st rfl (by repeat (first | exact At.here | apply At.there)) | exact v_loadS st rfl (by repeat (first | exact At.here | apply At.there)) rfl) ?_; clear st; intro _ st
      refine h_two (i := 1) (i' := 12) (by decide +kernel) rfl rfl ?_ ?_
      · skip
        refine o_callV st rfl (toSpot_v _ _) rfl ?_; clear st; intro _ _ st
        refine k_held st (by repeat (first | exact List.Sublist.refl _ | apply List.Sublist.cons_cons | apply List.Sublist.cons | exact List.nil_sublist _)) ?_
        refine h_two (i := 3) (i' := 12) (by decide +kernel) rfl rfl ?_ ?_
        · skip
          refine o_callV st rfl (toSpot_v _ _) rfl ?_; clear st; intro _ _ st
          refine k_held st (by repeat (first | exact List.Sublist.refl _ | apply List.Sublist.cons_cons | apply List.Sublist.cons | exact List.nil_sublist _)) ?_
          refine h_two (i := 5) (i' := 12) (by decide +kernel) rfl rfl ?_ ?_
          · skip
            refine o_callV st rfl (toSpot_v _ _) rfl ?_; clear st; intro _ _ st
            refine k_held st (by repeat (first | exact List.Sublist.refl _ | apply List.Sublist.cons_cons | apply List.Sublist.cons | exact List.nil_sublist _)) ?_
            refine h_two (i := 7) (i' := 12) (by decide +kernel) rfl rfl ?_ ?_
            · skip
              refine o_callV st rfl (toSpot_v _ _) rfl ?_; clear st; intro _ _ st
              refine k_held st (by repeat (first | exact List.Sublist.refl _ | apply List.Sublist.cons_cons | apply List.Sublist.cons | exact List.nil_sublist _)) ?_
              refine h_two (i := 8) (i' := 12) (by decide +kernel) rfl rfl ?_ ?_
              · skip
                refine o_callShY st rfl (implCorner_yes _ _ _ _ _ _ _ _ b1I b2I b3I b4I hq _) rfl ?_; clear st; intro _ _ _ _ _ _ _ _ st
                refine k_held st (by repeat (first | exact List.Sublist.refl _ | apply List.Sublist.cons_cons | apply List.Sublist.cons | exact List.nil_sublist _)) ?_
                refine h_val (i := 9) st (by repeat (first | exact List.Sublist.refl _ | apply List.Sublist.cons_cons | apply List.Sublist.cons | exact List.nil_sublist _)) (by decide +kernel) (by decide +kernel) rfl (by decide +kernel) rfl (v_move st rfl) ?_; clear st; intro _ st
                refine h_val (i := 10) st (by repeat (first | exact List.Sublist.refl _ | apply List.Sublist.cons_cons | apply List.Sublist.cons | exact List.nil_sublist _)) (by decide +kernel) (by decide +kernel) rfl (by decide +kernel) rfl (v_extract st rfl rfl) ?_; clear st; intro _ st
                refine h_val (i := 11) st (by repeat (first | exact List.Sublist.refl _ | apply List.Sublist.cons_cons | apply List.Sublist.cons | exact List.nil_sublist _)) (by decide +kernel) (by decide +kernel) rfl (by decide +kernel) rfl (v_extract st rfl rfl) ?_; clear st; intro _ st
                refine h_one (i := 12) (by decide +kernel) rfl ?_
                refine o_alloc st rfl ?_; clear st; intro _ _ _ st
                refine k_held st (by repeat (first | exact List.Sublist.refl _ | apply List.Sublist.cons_cons | apply List.Sublist.cons | exact List.nil_sublist _)) ?_
                refine h_one (i := 13) (by decide +kernel) rfl ?_
                (first | (refine o_storeS st rfl rfl rfl (by repeat (first | exact Upd.here | apply Upd.there)) rfl (by dsimp only [List.set]) ?_; clear st; intro _ _ st) | (refine o_storeW st rfl rfl (by repeat (first | exact Upd.here | apply Upd.there)) rfl rfl rfl ?_; clear st; intro _ _ st))
                refine k_held st (by repeat (first | exact List.Sublist.refl _ | apply List.Sublist.cons_cons | apply List.Sublist.cons | exact List.nil_sublist _)) ?_
                refine h_one (i := 14) (by decide +kernel) rfl ?_
                (first | (refine o_assign st rfl rfl ?_; clear st; intro _ st))
                refine k_last ?_
                refine h_done (by decide +kernel) ?_
                refine ⟨rfl, ?_⟩
                have st := St.fore 15 st rfl (by repeat (first | exact Rem.here | apply Rem.there))
                exact ⟨_, _, _, _, _, by assumption, by assumption, (st.fit (by repeat (first | exact trivial | refine And.intro rfl ?_))).subL (by repeat (first | exact List.Sublist.refl _ | apply List.Sublist.cons_cons | apply List.Sublist.cons | exact List.nil_sublist _))⟩
              · skip
                refine o_alloc st rfl ?_; clear st; intro _ _ _ st
                refine k_held st (by repeat (first | exact List.Sublist.refl _ | apply List.Sublist.cons_cons | apply List.Sublist.cons | exact List.nil_sublist _)) ?_
                refine h_one (i := 8) (by decide +kernel) rfl ?_
                refine o_callShY st rfl (implCorner_yes _ _ _ _ _ _ _ _ b1I b2I b3I b4I hq _) rfl ?_; clear st; intro _ _ _ _ _ _ _ _ st
                refine k_held st (by repeat (first | exact List.Sublist.refl _ | apply List.Sublist.cons_cons | apply List.Sublist.cons | exact List.nil_sublist _)) ?_
                refine h_val (i := 9) st (by repeat (first | exact List.Sublist.refl _ | apply List.Sublist.cons_cons | apply List.Sublist.cons | exact List.nil_sublist _)) (by decide +kernel) (by decide +kernel) rfl (by decide +kernel) rfl (v_move st rfl) ?_; clear st; intro _ st
                refine h_val (i := 10) st (by repeat (first | exact List.Sublist.refl _ | apply List.Sublist.cons_cons | apply List.Sublist.cons | exact List.nil_sublist _)) (by decide +kernel) (by decide +kernel) rfl (by decide +kernel) rfl (v_extract st rfl rfl) ?_; clear st; intro _ st
                refine h_val (i := 11) st (by repeat (first | exact List.Sublist.refl _ | apply List.Sublist.cons_cons | apply List.Sublist.cons | exact List.nil_sublist _)) (by decide +kernel) (by decide +kernel) rfl (by decide +kernel) rfl (v_extract st rfl rfl) ?_; clear st; intro _ st
                refine h_one (i := 13) (by decide +kernel) rfl ?_
                (first | (refine o_storeS st rfl rfl rfl (by repeat (first | exact Upd.here | apply Upd.there)) rfl (by dsimp only [List.set]) ?_; clear st; intro _ _ st) | (refine o_storeW st rfl rfl (by repeat (first | exact Upd.here | apply Upd.there)) rfl rfl rfl ?_; clear st; intro _ _ st))
                refine k_held st (by repeat (first | exact List.Sublist.refl _ | apply List.Sublist.cons_cons | apply List.Sublist.cons | exact List.nil_sublist _)) ?_
                refine h_one (i := 14) (by decide +kernel) rfl ?_
                (first | (refine o_assign st rfl rfl ?_; clear st; intro _ st))
                refine k_last ?_
                refine h_done (by decide +kernel) ?_
                refine ⟨rfl, ?_⟩
                have st := St.fore 15 st rfl (by repeat (first | exact Rem.here | apply Rem.there))
                exact ⟨_, _, _, _, _, by assumption, by assumption, (st.fit (by repeat (first | exact trivial | refine And.intro rfl ?_))).subL (by repeat (first | exact List.Sublist.refl _ | apply List.Sublist.cons_cons | apply List.Sublist.cons | exact List.nil_sublist _))⟩
            · skip
              refine o_alloc st rfl ?_; clear st; intro _ _ _ st
              refine k_held st (by repeat (first | exact List.Sublist.refl _ | apply List.Sublist.cons_cons | apply List.Sublist.cons | exact List.nil_sublist _)) ?_
              refine h_one (i := 7) (by decide +kernel) rfl ?_
              refine o_callV st rfl (toSpot_v _ _) rfl ?_; clear st; intro _ _ st
              refine k_held st (by repeat (first | exact List.Sublist.refl _ | apply List.Sublist.cons_cons | apply List.Sublist.cons | exact List.nil_sublist _)) ?_
              refine h_one (i := 8) (by decide +kernel) rfl ?_
              refine o_callShY st rfl (implCorner_yes _ _ _ _ _ _ _ _ b1I b2I b3I b4I hq _) rfl ?_; clear st; intro _ _ _ _ _ _ _ _ st
              refine k_held st (by repeat (first | exact List.Sublist.refl _ | apply List.Sublist.cons_cons | apply List.Sublist.cons | exact List.nil_sublist _)) ?_
              refine h_val (i := 9) st (by repeat (first | exact List.Sublist.refl _ | apply List.Sublist.cons_cons | apply List.Sublist.cons | exact List.nil_sublist _)) (by decide +kernel) (by decide +kernel) rfl (by decide +kernel) rfl (v_move st rfl) ?_; clear st; intro _ st
              refine h_val (i := 10) st (by repeat (first | exact List.Sublist.refl _ | apply List.Sublist.cons_cons | apply List.Sublist.cons | exact List.nil_sublist _)) (by decide +kernel) (by decide +kernel) rfl (by decide +kernel) rfl (v_extract st rfl rfl) ?_; clear st; intro _ st
              refine h_val (i := 11) st (by repeat (first | exact List.Sublist.refl _ | apply List.Sublist.cons_cons | apply List.Sublist.cons | exact List.nil_sublist _)) (by decide +kernel) (by decide +kernel) rfl (by decide +kernel) rfl (v_extract st rfl rfl) ?_; clear st; intro _ st
              refine h_one (i := 13) (by decide +kernel) rfl ?_
              (first | (refine o_storeS st rfl rfl rfl (by repeat (first | exact Upd.here | apply Upd.there)) rfl (by dsimp only [List.set]) ?_; clear st; intro _ _ st) | (refine o_storeW st rfl rfl (by repeat (first | exact Upd.here | apply Upd.there)) rfl rfl rfl ?_; clear st; intro _ _ st))
              refine k_held st (by repeat (first | exact List.Sublist.refl _ | apply List.Sublist.cons_cons | apply List.Sublist.cons | exact List.nil_sublist _)) ?_
              refine h_one (i := 14) (by decide +kernel) rfl ?_
              (first | (refine o_assign st rfl rfl ?_; clear st; intro _ st))
              refine k_last ?_
              refine h_done (by decide +kernel) ?_
              refine ⟨rfl, ?_⟩
              have st := St.fore 15 st rfl (by repeat (first | exact Rem.here | apply Rem.there))
              exact ⟨_, _, _, _, _, by assumption, by assumption, (st.fit (by repeat (first | exact trivial | refine And.intro rfl ?_))).subL (by repeat (first | exact List.Sublist.refl _ | apply List.Sublist.cons_cons | apply List.Sublist.cons | exact List.nil_sublist _))⟩
          · skip
            refine o_alloc st rfl ?_; clear st; intro _ _ _ st
            refine k_held st (by repeat (first | exact List.Sublist.refl _ | apply List.Sublist.cons_cons | apply List.Sublist.cons | exact List.nil_sublist _)) ?_
            refine h_one (i := 5) (by decide +kernel) rfl ?_
            refine o_callV st rfl (toSpot_v _ _) rfl ?_; clear st; intro _ _ st
            refine k_held st (by repeat (first | exact List.Sublist.refl _ | apply List.Sublist.cons_cons | apply List.Sublist.cons | exact List.nil_sublist _)) ?_
            refine h_one (i := 7) (by decide +kernel) rfl ?_
            refine o_callV st rfl (toSpot_v _ _) rfl ?_; clear st; intro _ _ st
            refine k_held st (by repeat (first | exact List.Sublist.refl _ | apply List.Sublist.cons_cons | apply List.Sublist.cons | exact List.nil_sublist _)) ?_
            refine h_one (i := 8) (by decide +kernel) rfl ?_
            refine o_callShY st rfl (implCorner_yes _ _ _ _ _ _ _ _ b1I b2I b3I b4I hq _) rfl ?_; clear st; intro _ _ _ _ _ _ _ _ st
            refine k_held st (by repeat (first | exact List.Sublist.refl _ | apply List.Sublist.cons_cons | apply List.Sublist.cons | exact List.nil_sublist _)) ?_
            refine h_val (i := 9) st (by repeat (first | exact List.Sublist.refl _ | apply List.Sublist.cons_cons | apply List.Sublist.cons | exact List.nil_sublist _)) (by decide +kernel) (by decide +kernel) rfl (by decide +kernel) rfl (v_move st rfl) ?_; clear st; intro _ st
            refine h_val (i := 10) st (by repeat (first | exact List.Sublist.refl _ | apply List.Sublist.cons_cons | apply List.Sublist.cons | exact List.nil_sublist _)) (by decide +kernel) (by decide +kernel) rfl (by decide +kernel) rfl (v_extract st rfl rfl) ?_; clear st; intro _ st
            refine h_val (i := 11) st (by repeat (first | exact List.Sublist.refl _ | apply List.Sublist.cons_cons | apply List.Sublist.cons | exact List.nil_sublist _)) (by decide +kernel) (by decide +kernel) rfl (by decide +kernel) rfl (v_extract st rfl rfl) ?_; clear st; intro _ st
            refine h_one (i := 13) (by decide +kernel) rfl ?_
            (first | (refine o_storeS st rfl rfl rfl (by repeat (first | exact Upd.here | apply Upd.there)) rfl (by dsimp only [List.set]) ?_; clear st; intro _ _ st) | (refine o_storeW st rfl rfl (by repeat (first | exact Upd.here | apply Upd.there)) rfl rfl rfl ?_; clear st; intro _ _ st))
            refine k_held st (by repeat (first | exact List.Sublist.refl _ | apply List.Sublist.cons_cons | apply List.Sublist.cons | exact List.nil_sublist _)) ?_
            refine h_one (i := 14) (by decide +kernel) rfl ?_
            (first | (refine o_assign st rfl rfl ?_; clear st; intro _ st))
            refine k_last ?_
            refine h_done (by decide +kernel) ?_
            refine ⟨rfl, ?_⟩
            have st := St.fore 15 st rfl (by repeat (first | exact Rem.here | apply Rem.there))
            exact ⟨_, _, _, _, _, by assumption, by assumption, (st.fit (by repeat (first | exact trivial | refine And.intro rfl ?_))).subL (by repeat (first | exact List.Sublist.refl _ | apply List.Sublist.cons_cons | apply List.Sublist.cons | exact List.nil_sublist _))⟩
        · skip
          refine o_alloc st rfl ?_; clear st; intro _ _ _ st
          refine k_held st (by repeat (first | exact List.Sublist.refl _ | apply List.Sublist.cons_cons | apply List.Sublist.cons | exact List.nil_sublist _)) ?_
          refine h_one (i := 3) (by decide +kernel) rfl ?_
          refine o_callV st rfl (toSpot_v _ _) rfl ?_; clear st; intro _ _ st
          refine k_held st (by repeat (first | exact List.Sublist.refl _ | apply List.Sublist.cons_cons | apply List.Sublist.cons | exact List.nil_sublist _)) ?_
          refine h_one (i := 5) (by decide +kernel) rfl ?_
          refine o_callV st rfl (toSpot_v _ _) rfl ?_; clear st; intro _ _ st
          refine k_held st (by repeat (first | exact List.Sublist.refl _ | apply List.Sublist.cons_cons | apply List.Sublist.cons | exact List.nil_sublist _)) ?_
          refine h_one (i := 7) (by decide +kernel) rfl ?_
          refine o_callV st rfl (toSpot_v _ _) rfl ?_; clear st; intro _ _ st
          refine k_held st (by repeat (first | exact List.Sublist.refl _ | apply List.Sublist.cons_cons | apply List.Sublist.cons | exact List.nil_sublist _)) ?_
          refine h_one (i := 8) (by decide +kernel) rfl ?_
          refine o_callShY st rfl (implCorner_yes _ _ _ _ _ _ _ _ b1I b2I b3I b4I hq _) rfl ?_; clear st; intro _ _ _ _ _ _ _ _ st
          refine k_held st (by repeat (first | exact List.Sublist.refl _ | apply List.Sublist.cons_cons | apply List.Sublist.cons | exact List.nil_sublist _)) ?_
          refine h_val (i := 9) st (by repeat (first | exact List.Sublist.refl _ | apply List.Sublist.cons_cons | apply List.Sublist.cons | exact List.nil_sublist _)) (by decide +kernel) (by decide +kernel) rfl (by decide +kernel) rfl (v_move st rfl) ?_; clear st; intro _ st
          refine h_val (i := 10) st (by repeat (first | exact List.Sublist.refl _ | apply List.Sublist.cons_cons | apply List.Sublist.cons | exact List.nil_sublist _)) (by decide +kernel) (by decide +kernel) rfl (by decide +kernel) rfl (v_extract st rfl rfl) ?_; clear st; intro _ st
          refine h_val (i := 11) st (by repeat (first | exact List.Sublist.refl _ | apply List.Sublist.cons_cons | apply List.Sublist.cons | exact List.nil_sublist _)) (by decide +kernel) (by decide +kernel) rfl (by decide +kernel) rfl (v_extract st rfl rfl) ?_; clear st; intro _ st
          refine h_one (i := 13) (by decide +kernel) rfl ?_
          (first | (refine o_storeS st rfl rfl rfl (by repeat (first | exact Upd.here | apply Upd.there)) rfl (by dsimp only [List.set]) ?_; clear st; intro _ _ st) | (refine o_storeW st rfl rfl (by repeat (first | exact Upd.here | apply Upd.there)) rfl rfl rfl ?_; clear st; intro _ _ st))
          refine k_held st (by repeat (first | exact List.Sublist.refl _ | apply List.Sublist.cons_cons | apply List.Sublist.cons | exact List.nil_sublist _)) ?_
          refine h_one (i := 14) (by decide +kernel) rfl ?_
          (first | (refine o_assign st rfl rfl ?_; clear st; intro _ st))
          refine k_last ?_
          refine h_done (by decide +kernel) ?_
          refine ⟨rfl, ?_⟩
          have st := St.fore 15 st rfl (by repeat (first | exact Rem.here | apply Rem.there))
          exact ⟨_, _, _, _, _, by assumption, by assumption, (st.fit (by repeat (first | exact trivial | refine And.intro rfl ?_))).subL (by repeat (first | exact List.Sublist.refl _ | apply List.Sublist.cons_cons | apply List.Sublist.cons | exact List.nil_sublist _))⟩
      · skip
        refine o_alloc st rfl ?_; clear st; intro _ _ _ st
        refine k_held st (by repeat (first | exact List.Sublist.refl _ | apply List.Sublist.cons_cons | apply List.Sublist.cons | exact List.nil_sublist _)) ?_
        refine h_one (i := 1) (by decide +kernel) rfl ?_
        refine o_callV st rfl (toSpot_v _ _) rfl ?_; clear st; intro _ _ st
        refine k_held st (by repeat (first | exact List.Sublist.refl _ | apply List.Sublist.cons_cons | apply List.Sublist.cons | exact List.nil_sublist _)) ?_
        refine h_one (i := 3) (by decide +kernel) rfl ?_
        refine o_callV st rfl (toSpot_v _ _) rfl ?_; clear st; intro _ _ st
        refine k_held st (by repeat (first | exact List.Sublist.refl _ | apply List.Sublist.cons_cons | apply List.Sublist.cons | exact List.nil_sublist _)) ?_
        refine h_one (i := 5) (by decide +kernel) rfl ?_
        refine o_callV st rfl (toSpot_v _ _) rfl ?_; clear st; intro _ _ st
        refine k_held st (by repeat (first | exact List.Sublist.refl _ | apply List.Sublist.cons_cons | apply List.Sublist.cons | exact List.nil_sublist _)) ?_
        refine h_one (i := 7) (by decide +kernel) rfl ?_
        refine o_callV st rfl (toSpot_v _ _) rfl ?_; clear st; intro _ _ st
        refine k_held st (by repeat (first | exact List.Sublist.refl _ | apply List.Sublist.cons_cons | apply List.Sublist.cons | exact List.nil_sublist _)) ?_
        refine h_one (i := 8) (by decide +kernel) rfl ?_
        refine o_callShY st rfl (implCorner_yes _ _ _ _ _ _ _ _ b1I b2I b3I b4I hq _) rfl ?_; clear st; intro _ _ _ _ _ _ _ _ st
        refine k_held st (by repeat (first | exact List.Sublist.refl _ | apply List.Sublist.cons_cons | apply List.Sublist.cons | exact List.nil_sublist _)) ?_
        refine h_val (i := 9) st (by repeat (first | exact List.Sublist.refl _ | apply List.Sublist.cons_cons | apply List.Sublist.cons | exact List.nil_sublist _)) (by decide +kernel) (by decide +kernel) rfl (by decide +kernel) rfl (v_move st rfl) ?_; clear st; intro _ st
        refine h_val (i := 10) st (by repeat (first | exact List.Sublist.refl _ | apply List.Sublist.cons_cons | apply List.Sublist.cons | exact List.nil_sublist _)) (by decide +kernel) (by decide +kernel) rfl (by decide +kernel) rfl (v_extract st rfl rfl) ?_; clear st; intro _ st
        refine h_val (i := 11) st (by repeat (first | exact List.Sublist.refl _ | apply List.Sublist.cons_cons | apply List.Sublist.cons | exact List.nil_sublist _)) (by decide +kernel) (by decide +kernel) rfl (by decide +kernel) rfl (v_extract st rfl rfl) ?_; clear st; intro _ st
        refine h_one (i := 13) (by decide +kernel) rfl ?_
        (first | (refine o_storeS st rfl rfl rfl (by repeat (first | exact Upd.here | apply Upd.there)) rfl (by dsimp only [List.set]) ?_; clear st; intro _ _ st) | (refine o_storeW st rfl rfl (by repeat (first | exact Upd.here | apply Upd.there)) rfl rfl rfl ?_; clear st; intro _ _ st))
        refine k_held st (by repeat (first | exact List.Sublist.refl _ | apply List.Sublist.cons_cons | apply List.Sublist.cons | exact List.nil_sublist _)) ?_
        refine h_one (i := 14) (by decide +kernel) rfl ?_
        (first | (refine o_assign st rfl rfl ?_; clear st; intro _ st))
        refine k_last ?_
        refine h_done (by decide +kernel) ?_
        refine ⟨rfl, ?_⟩
        have st := St.fore 15 st rfl (by repeat (first | exact Rem.here | apply Rem.there))
        exact ⟨_, _, _, _, _, by assumption, by assumption, (st.fit (by repeat (first | exact trivial | refine And.intro rfl ?_))).subL (by repeat (first | exact List.Sublist.refl _ | apply List.Sublist.cons_cons | apply List.Sublist.cons | exact List.nil_sublist _))⟩
    clear st
    rintro _ _ ⟨_, _, _, _, _, _, _, st⟩
    (repeat' (first | (refine o_callV st rfl (toSpot_v _ _) rfl ?_; clear st; intro _ _ st) | (refine o_callShY st rfl (specCorner_yes _ _ _ _ _ _ _ _ b1I b2I b3I b4I hq _) rfl ?_; clear st; intro _ _ _ _ _ _ _ _ st) | (refine o_callShY st rfl (implCorner_yes _ _ _ _ _ _ _ _ b1I b2I b3I b4I hq _) rfl ?_; clear st; intro _ _ _ _ _ _ _ _ st) | (refine o_callV st rfl (eqSheet_ok _ _ _ _ _ (by assumption) (by assumption) _ _ _ _ _ (RdS.of (st.heap (by repeat (first | exact At.here | apply At.there))) (spotsIn0p _ _)) (RdS.of (st.heap (by repeat (first | exact At.here | apply At.there))) (spotsIn0p _ _)) (by omega)) rfl ?_; clear st; intro _ _ st) | (refine o_callU st rfl (markSheet_ok _ _ _ _ _ _ _ _ (st.heap (by repeat (first | exact At.here | apply At.there))) (by omega) (by omega) (by omega)) (by repeat (first | exact Upd.here | apply Upd.there)) rfl ?_; clear st; intro _ _ st) | (refine o_callV st rfl (heldSheet_ok _ _ _ _ _ _ _ _ (st.heap (by repeat (first | exact At.here | apply At.there))) (by omega) (by omega) (by omega)) rfl ?_; clear st; intro _ _ st) | (refine c_seq ?_) | (refine c_region ?_) | (refine l_do ?_) | (refine l_doG st rfl rfl ?_) | (refine l_skipU st rfl rfl rfl ?_; clear st; intro _ st) | (refine l_skip st rfl rfl rfl rfl ?_; clear st; intro _ st) | (refine l_nil ?_) | (refine x_then ?_) | (refine x_thenR ?_) | (refine x_thenE ?_) | (refine wp_ret ?_) | (refine wp_skip ?_) | (refine c_condT st rfl ?_) | (refine c_condF st rfl ?_) | (refine o_move st rfl rfl ?_; clear st; intro _ st) | (refine o_assign st rfl rfl ?_; clear st; intro _ st) | (refine o_pickT st rfl rfl rfl ?_; clear st; intro _ st) | (refine o_pickF st rfl rfl rfl ?_; clear st; intro _ st) | (refine o_alloc st rfl ?_; clear st; intro _ _ _ st) | (refine o_boxA st rfl rfl ?_; clear st; intro _ _ _ st) | (refine o_boxS st rfl rfl rfl ?_; clear st; intro _ _ _ st) | (refine o_loadS st rfl (by repeat (first | exact At.here | apply At.there)) rfl rfl ?_; clear st; intro _ st) | (refine o_load3 st rfl (by repeat (first | exact At.here | apply At.there)) rfl ?_; clear st; intro _ st) | (refine o_load2 st rfl (by repeat (first | exact At.here | apply At.there)) rfl ?_; clear st; intro _ st) | (refine o_load4 st rfl (by repeat (first | exact At.here | apply At.there)) rfl ?_; clear st; intro _ st) | (refine o_storeS st rfl rfl rfl (by repeat (first | exact Upd.here | apply Upd.there)) rfl (by dsimp only [List.set]) ?_; clear st; intro _ _ st) | (refine o_storeW st rfl rfl (by repeat (first | exact Upd.here | apply Upd.there)) rfl rfl rfl ?_; clear st; intro _ _ st) | (refine o_extract st rfl rfl rfl ?_; clear st; intro _ st) | (refine o_neqB st rfl rfl rfl rfl ?_; clear st; intro _ st) | (refine o_notT st rfl rfl ?_; clear st; intro _ st) | (refine o_notF st rfl rfl ?_; clear st; intro _ st) | (refine o_lss st rfl rfl rfl ?_ ?_ <;> clear st <;> intro _ _ st <;> (try (exfalso; omega))) | (refine o_neqI st rfl rfl rfl ?_ ?_ <;> clear st <;> intro _ _ st <;> (try (exfalso; omega)))))
    refine post1 st Try.results12 (rd_t st rfl) ?_
    exact ⟨rfl, st.below⟩
end

set_option maxRecDepth 100000 in
theorem FnExactCornerSheet_lifted (os : Os) (started : os.Started) (H : Type) (enc : TypeId × Value → H) :
    ReturnsInHanded {} Try.checked os 12 .any (Rows.fnExactCornerSheetSpec.pre6 enc Try.prog Try.f12 Rows.fnExactCornerSheetRow.domain false) (Rows.fnExactCornerSheetSpec.post enc Try.prog Try.f12 false true false false) := by
  refine returnsInHanded_of_change (C := Try.checked) own_ started (by kernel_rfl) Try.func12
    (ChangeSpec.witness6 (enc := enc) (C := Try.checked) false ⟨#[], #[.agg #[.float .f32 0, .float .f32 0, .float .f32 0], .agg #[.float .f32 0, .float .f32 0, .float .f32 0], .agg #[.float .f32 0, .float .f32 0, .float .f32 0], .agg #[.float .f32 0, .float .f32 0, .float .f32 0]], []⟩ 8 (by kernel_rfl) (by kernel_rfl) (by kernel_rfl) (by kernel_rfl)) ?_
  intro W base args ds gs before hval0 hW hcnd _
  have hval : ∀ (j : Nat) t v, Try.f12.params[j]? = some t → args[j]? = some v → Value.okWide Try.prog W .any base t v := hval0
  have hW' := hW
  obtain ⟨p, q, hA0, hV, rfl, hfz, hnd⟩ := hW
  have hA : DataW.TrodAll enc Try.prog W 0 (fun _ => true) true Try.f12.params.toList args.toList ds p := hA0
  rw [Try.params12] at hA hval
  obtain ⟨v0, vs0, d0, ds0, p0, q0, hargs, rfl, rfl, h0, r0⟩ := trodAll_cons hA
  obtain ⟨v1, vs1, d1, ds1, p1, q1, rfl, rfl, rfl, h1, r1⟩ := trodAll_cons r0
  obtain ⟨v2, vs2, d2, ds2, p2, q2, rfl, rfl, rfl, h2, r2⟩ := trodAll_cons r1
  obtain ⟨v3, vs3, d3, ds3, p3, q3, rfl, rfl, rfl, h3, r3⟩ := trodAll_cons r2
  obtain ⟨rfl, rfl, rfl⟩ := trodAll_nil r3
  obtain rfl : args = #[v0, v1, v2, v3] := by cases args; simp_all
  obtain ⟨rfl, rfl⟩ := trodVars_none hV
  have k0 := h0
  have lt0 : ∀ x ∈ p0, x.block < W.heap.size := by obtain ⟨m, hm⟩ := k0; exact DataW.trod_lt m _ _ _ hm
  obtain ⟨b0, rfl, l0x, l0y, l0z⟩ := spot_of_trod (hval 0 24 v0 rfl rfl) h0
  have k1 := h1
  have lt1 : ∀ x ∈ p1, x.block < W.heap.size := by obtain ⟨m, hm⟩ := k1; exact DataW.trod_lt m _ _ _ hm
  obtain ⟨b1, rfl, l1x, l1y, l1z⟩ := spot_of_trod (hval 1 24 v1 rfl rfl) h1
  have k2 := h2
  have lt2 : ∀ x ∈ p2, x.block < W.heap.size := by obtain ⟨m, hm⟩ := k2; exact DataW.trod_lt m _ _ _ hm
  obtain ⟨b2, rfl, l2x, l2y, l2z⟩ := spot_of_trod (hval 2 24 v2 rfl rfl) h2
  have k3 := h3
  have lt3 : ∀ x ∈ p3, x.block < W.heap.size := by obtain ⟨m, hm⟩ := k3; exact DataW.trod_lt m _ _ _ hm
  obtain ⟨b3, rfl, l3x, l3y, l3z⟩ := spot_of_trod (hval 3 24 v3 rfl rfl) h3
  clear hA0 hval0
  refine (corner_walk b0 l0x l0y l0z b1 l1x l1y l1z b2 l2x l2y l2z b3 l3x l3y l3z W ).mono fun e W' ⟨he, bel⟩ => ?_
  subst he
  exact ⟨_, rfl, _, _, _, [], _, [], hW', trodAll_mk1 (shut_bool Try.underlying4 _), (trodAll_cons_mk (Below.trod laidOut_ (by kernel_rfl) (of_decide_eq_true (by kernel_rfl)) k0 bel lt0) (trodAll_cons_mk (Below.trod laidOut_ (by kernel_rfl) (of_decide_eq_true (by kernel_rfl)) k1 bel lt1) (trodAll_cons_mk (Below.trod laidOut_ (by kernel_rfl) (of_decide_eq_true (by kernel_rfl)) k2 bel lt2) (trodAll_cons_mk (Below.trod laidOut_ (by kernel_rfl) (of_decide_eq_true (by kernel_rfl)) k3 bel lt3) trodAll_mk0)))), rfl, bel.frame _, fun h => by cases h⟩

/-- For every input the law returns true, and each argument reads behind the call as it read before. -/
theorem FnExactCornerSheet_holds : Rows.FnExactCornerSheetSaid :=
  OpenClaim.holds_of_wide 12 Try.f12 rfl rfl rfl rfl rfl rfl rfl ⟨rfl, rfl, rfl, rfl, rfl⟩ rfl rfl rfl rfl rfl (by as_aux_lemma => kernel_rfl) Try.func12 (closed_of 12 Try.f12 Rows.fnExactCornerSheetSpec Rows.fnExactCornerSheetRow rfl rfl (by as_aux_lemma => kernel_rfl) (by as_aux_lemma => kernel_rfl) (by as_aux_lemma => kernel_rfl) (by as_aux_lemma => kernel_rfl) (by as_aux_lemma => kernel_rfl))
    (of_decide_eq_true (by kernel_rfl)) (by unfold Func.isWrapper; first | (rw [if_pos (by decide +kernel)]; kernel_rfl) | (rw [if_neg (by decide +kernel)]; exact ⟨rfl, rfl⟩))
    (fun os started H enc _ => FnExactCornerSheet_lifted os started H enc)

end Go.Proofs.Ytefnlalldgbcaaa
