/-
  The statement FnExactMoveSpot: for every sheet (of no more spots than the law asks), number and spot the program's MoveSpot and the reference's give the same sheet, in memory of its own, and leave the sheet as it was, so the law returns true.
  Conditions: none.
-/
import Derived.Test.YtefnlalldgbcaaaRows
import Derived.Test.YtefnlalldgbcaaaArg3
import Derived.Test.YtefnlalldgbcaaaV
import Derived.Test.YtefnlalldgbcaaaU
import Derived.Test.YtefnlalldgbcaaaClosed
namespace Go.Proofs.Ytefnlalldgbcaaa
open Go.ChangeShapes Go.WideShapes Go.ChangeAt Go.RowKit

section
attribute [local irreducible] Code.wp wpList Oper.wp Calls bodyPost Exit.then Exit.inBlock

set_option maxHeartbeats 16000000 in
theorem move_walk (m n : Int) (bs : List B3) (ba : Option Addr) (cap : Nat) (i : Int) (_ : -9223372036854775808 ≤ i) (_ : i ≤ 9223372036854775807) (b1 : B3) (b1x : b1.1 < 2 ^ 32) (b1y : b1.2.1 < 2 ^ 32) (b1z : b1.2.2 < 2 ^ 32) (w : World) (hr : RdS w ba bs) (hok : ∀ b ∈ bs, ok32 b) (hl : bs.length ≤ 9223372036854775807) :
    Calls Try.prog 15 [vSh m n ba bs.length cap, Value.int .i64 i, vS b1].toArray w fun e w' => e = .returned (.bool true) ∧ Below w.heap.size w w' := by
  have b1I : IsS b1 (clS b1) := ⟨⟨b1x, rfl⟩, ⟨b1y, rfl⟩, ⟨b1z, rfl⟩⟩
  generalize clS b1 = b1s at b1I
  have hI := IsSL_of hok
  generalize bs.map clS = ss at hI
  have hz := fun w => szSheet_ok m n bs.length cap ba 1048576 w (by omega) (by omega) hl
  refine enter Try.func15 rfl rfl rfl rfl ?_
  intro a st
  by_cases hbig : (1048576 : Int) - bs.length < 0
  · rw [if_pos hbig] at hz
    (repeat' (first | (refine o_callV st rfl (hz _) rfl ?_; clear st; intro _ _ st) | (refine c_seq ?_) | (refine c_region ?_) | (refine l_do ?_) | (refine l_doG st rfl rfl ?_) | (refine l_skipU st rfl rfl rfl ?_; clear st; intro _ st) | (refine l_skip st rfl rfl rfl rfl ?_; clear st; intro _ st) | (refine l_nil ?_) | (refine x_then ?_) | (refine x_thenR ?_) | (refine x_thenE ?_) | (refine wp_ret ?_) | (refine wp_skip ?_) | (refine c_condT st rfl ?_) | (refine c_condF st rfl ?_) | (refine o_move st rfl rfl ?_; clear st; intro _ st) | (refine o_assign st rfl rfl ?_; clear st; intro _ st) | (refine o_pickT st rfl rfl rfl ?_; clear st; intro _ st) | (refine o_pickF st rfl rfl rfl ?_; clear st; intro _ st) | (refine o_alloc st rfl ?_; clear st; intro _ _ _ st) | (refine o_boxA st rfl rfl ?_; clear st; intro _ _ _ st) | (refine o_boxS st rfl rfl rfl ?_; clear st; intro _ _ _ st) | (refine o_loadS st rfl (by repeat (first | exact At.here | apply At.there)) rfl rfl ?_; clear st; intro _ st) | (refine o_load3 st rfl (by repeat (first | exact At.here | apply At.there)) rfl ?_; clear st; intro _ st) | (refine o_load2 st rfl (by repeat (first | exact At.here | apply At.there)) rfl ?_; clear st; intro _ st) | (refine o_load4 st rfl (by repeat (first | exact At.here | apply At.there)) rfl ?_; clear st; intro _ st) | (refine o_storeS st rfl rfl rfl (by repeat (first | exact Upd.here | apply Upd.there)) rfl (by dsimp only [List.set]) ?_; clear st; intro _ _ st) | (refine o_storeW st rfl rfl (by repeat (first | exact Upd.here | apply Upd.there)) rfl rfl rfl ?_; clear st; intro _ _ st) | (refine o_extract st rfl rfl rfl ?_; clear st; intro _ st) | (refine o_neqB st rfl rfl rfl rfl ?_; clear st; intro _ st) | (refine o_notT st rfl rfl ?_; clear st; intro _ st) | (refine o_notF st rfl rfl ?_; clear st; intro _ st) | (refine o_lss st rfl rfl rfl ?_ ?_ <;> clear st <;> intro _ _ st <;> (try (exfalso; omega))) | (refine o_neqI st rfl rfl rfl ?_ ?_ <;> clear st <;> intro _ _ st <;> (try (exfalso; omega)))))
    refine post1 st Try.results15 (rd_t st rfl) ?_
    exact ⟨rfl, st.below⟩
  rw [if_neg hbig] at hz
  have hlen : bs.length < 1000000000 := by omega
  have hbl := hI.len
  have hss : (ss.set i.toNat b1s).length = ss.length := List.length_set
  cases hq : mvOk m n ss i b1s
  · skip
    (repeat' (first | (refine o_callV st rfl (hz _) rfl ?_; clear st; intro _ _ st) | (refine o_callV st rfl (toSpot_v _ _) rfl ?_; clear st; intro _ _ st) | (refine o_callToSheet st rfl hr hlen rfl ?_; clear st; intro _ _ _ st) | (refine o_callV st rfl (specMove_no _ _ _ _ hI _ _ _ _ _ b1I hq _ (RdS.of (st.heap (by repeat (first | exact At.here | apply At.there))) (spotsIn0p _ _)) hlen) rfl ?_; clear st; intro _ _ st) | (refine o_callV st rfl (implMove_no _ _ _ _ hI _ _ _ _ _ b1I hq _ (RdS.of (st.heap (by repeat (first | exact At.here | apply At.there))) (spotsIn0p _ _)) hlen) rfl ?_; clear st; intro _ _ st) | (refine o_callV st rfl (eqSheet_zero _) rfl ?_; clear st; intro _ _ st) | (refine o_callV st rfl (eqSpotS_zero _) rfl ?_; clear st; intro _ _ st) | (refine o_callV st rfl (markSheet_zero _ _) rfl ?_; clear st; intro _ _ st) | (refine o_callV st rfl (heldSheet_zero _ (by omega) _) rfl ?_; clear st; intro _ _ st) | (refine o_callV st rfl (eqSheet_ok _ _ _ _ _ (by assumption) (by assumption) _ _ _ _ _ (RdS.of (st.heap (by repeat (first | exact At.here | apply At.there))) (spotsIn0p _ _)) (RdS.of (st.heap (by repeat (first | exact At.here | apply At.there))) (spotsIn0p _ _)) (by omega)) rfl ?_; clear st; intro _ _ st) | (refine o_callU st rfl (markSheet_ok _ _ _ _ _ _ _ _ (st.heap (by repeat (first | exact At.here | apply At.there))) (by omega) (by omega) (by omega)) (by repeat (first | exact Upd.here | apply Upd.there)) rfl ?_; clear st; intro _ _ st) | (refine c_seq ?_) | (refine c_region ?_) | (refine l_do ?_) | (refine l_doG st rfl rfl ?_) | (refine l_skipU st rfl rfl rfl ?_; clear st; intro _ st) | (refine l_skip st rfl rfl rfl rfl ?_; clear st; intro _ st) | (refine l_nil ?_) | (refine x_then ?_) | (refine x_thenR ?_) | (refine x_thenE ?_) | (refine wp_ret ?_) | (refine wp_skip ?_) | (refine c_condT st rfl ?_) | (refine c_condF st rfl ?_) | (refine o_move st rfl rfl ?_; clear st; intro _ st) | (refine o_assign st rfl rfl ?_; clear st; intro _ st) | (refine o_pickT st rfl rfl rfl ?_; clear st; intro _ st) | (refine o_pickF st rfl rfl rfl ?_; clear st; intro _ st) | (refine o_alloc st rfl ?_; clear st; intro _ _ _ st) | (refine o_boxA st rfl rfl ?_; clear st; intro _ _ _ st) | (refine o_boxS st rfl rfl rfl ?_; clear st; intro _ _ _ st) | (refine o_loadS st rfl (by repeat (first | exact At.here | apply At.there)) rfl rfl ?_; clear st; intro _ st) | (refine o_load3 st rfl (by repeat (first | exact At.here | apply At.there)) rfl ?_; clear st; intro _ st) | (refine o_load2 st rfl (by repeat (first | exact At.here | apply At.there)) rfl ?_; clear st; intro _ st) | (refine o_load4 st rfl (by repeat (first | exact At.here | apply At.there)) rfl ?_; clear st; intro _ st) | (refine o_storeS st rfl rfl rfl (by repeat (first | exact Upd.here | apply Upd.there)) rfl (by dsimp only [List.set]) ?_; clear st; intro _ _ st) | (refine o_storeW st rfl rfl (by repeat (first | exact Upd.here | apply Upd.there)) rfl rfl rfl ?_; clear st; intro _ _ st) | (refine o_extract st rfl rfl rfl ?_; clear st; intro _ st) | (refine o_neqB st rfl rfl rfl rfl ?_; clear st; intro _ st) | (refine o_notT st rfl rfl ?_; clear st; intro _ st) | (refine o_notF st rfl rfl ?_; clear st; intro _ st) | (refine o_lss st rfl rfl rfl ?_ ?_ <;> clear st <;> intro _ _ st <;> (try (exfalso; omega))) | (refine o_neqI st rfl rfl rfl ?_ ?_ <;> clear st <;> intro _ _ st <;> (try (exfalso; omega)))))
    replace st := St.fit (E' := [(1, _), (3, _), (5, _)]) st (by repeat (first | exact trivial | refine And.intro rfl ?_))
    refine c_drawCA (F := (fun E L a' w' => ∃ (p0 : Nat), St w Try.f15.ntmps a' w' ((8, .pointer (some ⟨p0, 0, none⟩)) :: (9, .bool false) :: E) (⟨p0, true, .cells [.int .i64 (0), .int .i64 (0), .slice none 0 0].toArray 46 (0, 0)⟩ :: L))) (last := 11) hm_ (by decide +kernel) (by decide +kernel) st ?_ ?_
    · clear st; intro _ st
      refine h_val (i := 0) st (by repeat (first | exact List.Sublist.refl _ | apply List.Sublist.cons_cons | apply List.Sublist.cons | exact List.nil_sublist _)) (by decide +kernel) (by decide +kernel) rfl (by decide +kernel) rfl (by first | exact v_load3 st rfl (by repeat (first | exact At.here | apply At.there)) | exact v_loadS st rfl (by repeat (first | exact At.here | apply At.there)) rfl) ?_; clear st; intro _ st
      refine h_val (i := 2) st (by repeat (first | exact List.Sublist.refl _ | apply List.Sublist.cons_cons | apply List.Sublist.cons | exact List.nil_sublist _)) (by decide +kernel) (by decide +kernel) rfl (by decide +kernel) rfl (v_move st rfl) ?_; clear st; intro _ st
      refine h_val (i := 3) st (by repeat (first | exact List.Sublist.refl _ | apply List.Sublist.cons_cons | apply List.Sublist.cons | exact List.nil_sublist _)) (by decide +kernel) (by decide +kernel) rfl (by decide +kernel) rfl (by first | exact v_load3 st rfl (by repeat (first | exact At.here | apply At.there)) | exact v_loadS st rfl (by repeat (first | exact At.here | apply At.there)) rfl) ?_; clear st; intro _ st
      refine h_two (i := 1) (i' := 9) (by decide +kernel) rfl rfl ?_ ?_
      · skip
        refine o_callToSheet st rfl hr hlen rfl ?_; clear st; intro _ _ _ st
        refine k_held st (by repeat (first | exact List.Sublist.refl _ | apply List.Sublist.cons_cons | apply List.Sublist.cons | exact List.nil_sublist _)) ?_
        refine h_two (i := 4) (i' := 9) (by decide +kernel) rfl rfl ?_ ?_
        · skip
          refine o_callV st rfl (toSpot_v _ _) rfl ?_; clear st; intro _ _ st
          refine k_held st (by repeat (first | exact List.Sublist.refl _ | apply List.Sublist.cons_cons | apply List.Sublist.cons | exact List.nil_sublist _)) ?_
          refine h_two (i := 5) (i' := 9) (by decide +kernel) rfl rfl ?_ ?_
          · skip
            refine o_callV st rfl (specMove_no _ _ _ _ hI _ _ _ _ _ b1I hq _ (RdS.of (st.heap (by repeat (first | exact At.here | apply At.there))) (spotsIn0p _ _)) hlen) rfl ?_; clear st; intro _ _ st
            refine k_held st (by repeat (first | exact List.Sublist.refl _ | apply List.Sublist.cons_cons | apply List.Sublist.cons | exact List.nil_sublist _)) ?_
            refine h_val (i := 6) st (by repeat (first | exact List.Sublist.refl _ | apply List.Sublist.cons_cons | apply List.Sublist.cons | exact List.nil_sublist _)) (by decide +kernel) (by decide +kernel) rfl (by decide +kernel) rfl (v_move st rfl) ?_; clear st; intro _ st
            refine h_val (i := 7) st (by repeat (first | exact List.Sublist.refl _ | apply List.Sublist.cons_cons | apply List.Sublist.cons | exact List.nil_sublist _)) (by decide +kernel) (by decide +kernel) rfl (by decide +kernel) rfl (v_extract st rfl rfl) ?_; clear st; intro _ st
            refine h_val (i := 8) st (by repeat (first | exact List.Sublist.refl _ | apply List.Sublist.cons_cons | apply List.Sublist.cons | exact List.nil_sublist _)) (by decide +kernel) (by decide +kernel) rfl (by decide +kernel) rfl (v_extract st rfl rfl) ?_; clear st; intro _ st
            refine h_one (i := 9) (by decide +kernel) rfl ?_
            refine o_alloc st rfl ?_; clear st; intro _ _ _ st
            refine k_held st (by repeat (first | exact List.Sublist.refl _ | apply List.Sublist.cons_cons | apply List.Sublist.cons | exact List.nil_sublist _)) ?_
            refine h_one (i := 10) (by decide +kernel) rfl ?_
            (first | (refine o_storeS st rfl rfl rfl (by repeat (first | exact Upd.here | apply Upd.there)) rfl (by dsimp only [List.set]) ?_; clear st; intro _ _ st) | (refine o_storeW st rfl rfl (by repeat (first | exact Upd.here | apply Upd.there)) rfl rfl rfl ?_; clear st; intro _ _ st))
            refine k_held st (by repeat (first | exact List.Sublist.refl _ | apply List.Sublist.cons_cons | apply List.Sublist.cons | exact List.nil_sublist _)) ?_
            refine h_one (i := 11) (by decide +kernel) rfl ?_
            (first | (refine o_assign st rfl rfl ?_; clear st; intro _ st))
            refine k_last ?_
            refine h_done (by decide +kernel) ?_
            refine ⟨rfl, ?_⟩
            have st := St.fore 8 st rfl (by repeat (first | exact Rem.here | apply Rem.there))
            exact ⟨_, (st.fit (by repeat (first | exact trivial | refine And.intro rfl ?_))).subL (by repeat (first | exact List.Sublist.refl _ | apply List.Sublist.cons_cons | apply List.Sublist.cons | exact List.nil_sublist _))⟩
          · skip
            refine o_alloc st rfl ?_; clear st; intro _ _ _ st
            refine k_held st (by repeat (first | exact List.Sublist.refl _ | apply List.Sublist.cons_cons | apply List.Sublist.cons | exact List.nil_sublist _)) ?_
            refine h_one (i := 5) (by decide +kernel) rfl ?_
            refine o_callV st rfl (specMove_no _ _ _ _ hI _ _ _ _ _ b1I hq _ (RdS.of (st.heap (by repeat (first | exact At.here | apply At.there))) (spotsIn0p _ _)) hlen) rfl ?_; clear st; intro _ _ st
            refine k_held st (by repeat (first | exact List.Sublist.refl _ | apply List.Sublist.cons_cons | apply List.Sublist.cons | exact List.nil_sublist _)) ?_
            refine h_val (i := 6) st (by repeat (first | exact List.Sublist.refl _ | apply List.Sublist.cons_cons | apply List.Sublist.cons | exact List.nil_sublist _)) (by decide +kernel) (by decide +kernel) rfl (by decide +kernel) rfl (v_move st rfl) ?_; clear st; intro _ st
            refine h_val (i := 7) st (by repeat (first | exact List.Sublist.refl _ | apply List.Sublist.cons_cons | apply List.Sublist.cons | exact List.nil_sublist _)) (by decide +kernel) (by decide +kernel) rfl (by decide +kernel) rfl (v_extract st rfl rfl) ?_; clear st; intro _ st
            refine h_val (i := 8) st (by repeat (first | exact List.Sublist.refl _ | apply List.Sublist.cons_cons | apply List.Sublist.cons | exact List.nil_sublist _)) (by decide +kernel) (by decide +kernel) rfl (by decide +kernel) rfl (v_extract st rfl rfl) ?_; clear st; intro _ st
            refine h_one (i := 10) (by decide +kernel) rfl ?_
            (first | (refine o_storeS st rfl rfl rfl (by repeat (first | exact Upd.here | apply Upd.there)) rfl (by dsimp only [List.set]) ?_; clear st; intro _ _ st) | (refine o_storeW st rfl rfl (by repeat (first | exact Upd.here | apply Upd.there)) rfl rfl rfl ?_; clear st; intro _ _ st))
            refine k_held st (by repeat (first | exact List.Sublist.refl _ | apply List.Sublist.cons_cons | apply List.Sublist.cons | exact List.nil_sublist _)) ?_
            refine h_one (i := 11) (by decide +kernel) rfl ?_
            (first | (refine o_assign st rfl rfl ?_; clear st; intro _ st))
            refine k_last ?_
            refine h_done (by decide +kernel) ?_
            refine ⟨rfl, ?_⟩
            have st := St.fore 8 st rfl (by repeat (first | exact Rem.here | apply Rem.there))
            exact ⟨_, (st.fit (by repeat (first | exact trivial | refine And.intro rfl ?_))).subL (by repeat (first | exact List.Sublist.refl _ | apply List.Sublist.cons_cons | apply List.Sublist.cons | exact List.nil_sublist _))⟩
        · skip
          refine o_alloc st rfl ?_; clear st; intro _ _ _ st
          refine k_held st (by repeat (first | exact List.Sublist.refl _ | apply List.Sublist.cons_cons | apply List.Sublist.cons | exact List.nil_sublist _)) ?_
          refine h_one (i := 4) (by decide +kernel) rfl ?_
          refine o_callV st rfl (toSpot_v _ _) rfl ?_; clear st; intro _ _ st
          refine k_held st (by repeat (first | exact List.Sublist.refl _ | apply List.Sublist.cons_cons | apply List.Sublist.cons | exact List.nil_sublist _)) ?_
          refine h_one (i := 5) (by decide +kernel) rfl ?_
          refine o_callV st rfl (specMove_no _ _ _ _ hI _ _ _ _ _ b1I hq _ (RdS.of (st.heap (by repeat (first | exact At.here | apply At.there))) (spotsIn0p _ _)) hlen) rfl ?_; clear st; intro _ _ st
          refine k_held st (by repeat (first | exact List.Sublist.refl _ | apply List.Sublist.cons_cons | apply List.Sublist.cons | exact List.nil_sublist _)) ?_
          refine h_val (i := 6) st (by repeat (first | exact List.Sublist.refl _ | apply List.Sublist.cons_cons | apply List.Sublist.cons | exact List.nil_sublist _)) (by decide +kernel) (by decide +kernel) rfl (by decide +kernel) rfl (v_move st rfl) ?_; clear st; intro _ st
          refine h_val (i := 7) st (by repeat (first | exact List.Sublist.refl _ | apply List.Sublist.cons_cons | apply List.Sublist.cons | exact List.nil_sublist _)) (by decide +kernel) (by decide +kernel) rfl (by decide +kernel) rfl (v_extract st rfl rfl) ?_; clear st; intro _ st
          refine h_val (i := 8) st (by repeat (first | exact List.Sublist.refl _ | apply List.Sublist.cons_cons | apply List.Sublist.cons | exact List.nil_sublist _)) (by decide +kernel) (by decide +kernel) rfl (by decide +kernel) rfl (v_extract st rfl rfl) ?_; clear st; intro _ st
          refine h_one (i := 10) (by decide +kernel) rfl ?_
          (first | (refine o_storeS st rfl rfl rfl (by repeat (first | exact Upd.here | apply Upd.there)) rfl (by dsimp only [List.set]) ?_; clear st; intro _ _ st) | (refine o_storeW st rfl rfl (by repeat (first | exact Upd.here | apply Upd.there)) rfl rfl rfl ?_; clear st; intro _ _ st))
          refine k_held st (by repeat (first | exact List.Sublist.refl _ | apply List.Sublist.cons_cons | apply List.Sublist.cons | exact List.nil_sublist _)) ?_
          refine h_one (i := 11) (by decide +kernel) rfl ?_
          (first | (refine o_assign st rfl rfl ?_; clear st; intro _ st))
          refine k_last ?_
          refine h_done (by decide +kernel) ?_
          refine ⟨rfl, ?_⟩
          have st := St.fore 8 st rfl (by repeat (first | exact Rem.here | apply Rem.there))
          exact ⟨_, (st.fit (by repeat (first | exact trivial | refine And.intro rfl ?_))).subL (by repeat (first | exact List.Sublist.refl _ | apply List.Sublist.cons_cons | apply List.Sublist.cons | exact List.nil_sublist _))⟩
      · skip
        refine o_alloc st rfl ?_; clear st; intro _ _ _ st
        refine k_held st (by repeat (first | exact List.Sublist.refl _ | apply List.Sublist.cons_cons | apply List.Sublist.cons | exact List.nil_sublist _)) ?_
        refine h_one (i := 1) (by decide +kernel) rfl ?_
        refine o_callToSheet st rfl hr hlen rfl ?_; clear st; intro _ _ _ st
        refine k_held st (by repeat (first | exact List.Sublist.refl _ | apply List.Sublist.cons_cons | apply List.Sublist.cons | exact List.nil_sublist _)) ?_
        refine h_one (i := 4) (by decide +kernel) rfl ?_
        refine o_callV st rfl (toSpot_v _ _) rfl ?_; clear st; intro _ _ st
        refine k_held st (by repeat (first | exact List.Sublist.refl _ | apply List.Sublist.cons_cons | apply List.Sublist.cons | exact List.nil_sublist _)) ?_
        refine h_one (i := 5) (by decide +kernel) rfl ?_
        refine o_callV st rfl (specMove_no _ _ _ _ hI _ _ _ _ _ b1I hq _ (RdS.of (st.heap (by repeat (first | exact At.here | apply At.there))) (spotsIn0p _ _)) hlen) rfl ?_; clear st; intro _ _ st
        refine k_held st (by repeat (first | exact List.Sublist.refl _ | apply List.Sublist.cons_cons | apply List.Sublist.cons | exact List.nil_sublist _)) ?_
        refine h_val (i := 6) st (by repeat (first | exact List.Sublist.refl _ | apply List.Sublist.cons_cons | apply List.Sublist.cons | exact List.nil_sublist _)) (by decide +kernel) (by decide +kernel) rfl (by decide +kernel) rfl (v_move st rfl) ?_; clear st; intro _ st
        refine h_val (i := 7) st (by repeat (first | exact List.Sublist.refl _ | apply List.Sublist.cons_cons | apply List.Sublist.cons | exact List.nil_sublist _)) (by decide +kernel) (by decide +kernel) rfl (by decide +kernel) rfl (v_extract st rfl rfl) ?_; clear st; intro _ st
        refine h_val (i := 8) st (by repeat (first | exact List.Sublist.refl _ | apply List.Sublist.cons_cons | apply List.Sublist.cons | exact List.nil_sublist _)) (by decide +kernel) (by decide +kernel) rfl (by decide +kernel) rfl (v_extract st rfl rfl) ?_; clear st; intro _ st
        refine h_one (i := 10) (by decide +kernel) rfl ?_
        (first | (refine o_storeS st rfl rfl rfl (by repeat (first | exact Upd.here | apply Upd.there)) rfl (by dsimp only [List.set]) ?_; clear st; intro _ _ st) | (refine o_storeW st rfl rfl (by repeat (first | exact Upd.here | apply Upd.there)) rfl rfl rfl ?_; clear st; intro _ _ st))
        refine k_held st (by repeat (first | exact List.Sublist.refl _ | apply List.Sublist.cons_cons | apply List.Sublist.cons | exact List.nil_sublist _)) ?_
        refine h_one (i := 11) (by decide +kernel) rfl ?_
        (first | (refine o_assign st rfl rfl ?_; clear st; intro _ st))
        refine k_last ?_
        refine h_done (by decide +kernel) ?_
        refine ⟨rfl, ?_⟩
        have st := St.fore 8 st rfl (by repeat (first | exact Rem.here | apply Rem.there))
        exact ⟨_, (st.fit (by repeat (first | exact trivial | refine And.intro rfl ?_))).subL (by repeat (first | exact List.Sublist.refl _ | apply List.Sublist.cons_cons | apply List.Sublist.cons | exact List.nil_sublist _))⟩
    clear st
    rintro _ _ ⟨_, st⟩
    (repeat' (first | (refine o_callV st rfl (hz _) rfl ?_; clear st; intro _ _ st) | (refine o_callV st rfl (toSpot_v _ _) rfl ?_; clear st; intro _ _ st) | (refine o_callToSheet st rfl hr hlen rfl ?_; clear st; intro _ _ _ st) | (refine o_callV st rfl (specMove_no _ _ _ _ hI _ _ _ _ _ b1I hq _ (RdS.of (st.heap (by repeat (first | exact At.here | apply At.there))) (spotsIn0p _ _)) hlen) rfl ?_; clear st; intro _ _ st) | (refine o_callV st rfl (implMove_no _ _ _ _ hI _ _ _ _ _ b1I hq _ (RdS.of (st.heap (by repeat (first | exact At.here | apply At.there))) (spotsIn0p _ _)) hlen) rfl ?_; clear st; intro _ _ st) | (refine o_callV st rfl (eqSheet_zero _) rfl ?_; clear st; intro _ _ st) | (refine o_callV st rfl (eqSpotS_zero _) rfl ?_; clear st; intro _ _ st) | (refine o_callV st rfl (markSheet_zero _ _) rfl ?_; clear st; intro _ _ st) | (refine o_callV st rfl (heldSheet_zero _ (by omega) _) rfl ?_; clear st; intro _ _ st) | (refine o_callV st rfl (eqSheet_ok _ _ _ _ _ (by assumption) (by assumption) _ _ _ _ _ (RdS.of (st.heap (by repeat (first | exact At.here | apply At.there))) (spotsIn0p _ _)) (RdS.of (st.heap (by repeat (first | exact At.here | apply At.there))) (spotsIn0p _ _)) (by omega)) rfl ?_; clear st; intro _ _ st) | (refine o_callU st rfl (markSheet_ok _ _ _ _ _ _ _ _ (st.heap (by repeat (first | exact At.here | apply At.there))) (by omega) (by omega) (by omega)) (by repeat (first | exact Upd.here | apply Upd.there)) rfl ?_; clear st; intro _ _ st) | (refine c_seq ?_) | (refine c_region ?_) | (refine l_do ?_) | (refine l_doG st rfl rfl ?_) | (refine l_skipU st rfl rfl rfl ?_; clear st; intro _ st) | (refine l_skip st rfl rfl rfl rfl ?_; clear st; intro _ st) | (refine l_nil ?_) | (refine x_then ?_) | (refine x_thenR ?_) | (refine x_thenE ?_) | (refine wp_ret ?_) | (refine wp_skip ?_) | (refine c_condT st rfl ?_) | (refine c_condF st rfl ?_) | (refine o_move st rfl rfl ?_; clear st; intro _ st) | (refine o_assign st rfl rfl ?_; clear st; intro _ st) | (refine o_pickT st rfl rfl rfl ?_; clear st; intro _ st) | (refine o_pickF st rfl rfl rfl ?_; clear st; intro _ st) | (refine o_alloc st rfl ?_; clear st; intro _ _ _ st) | (refine o_boxA st rfl rfl ?_; clear st; intro _ _ _ st) | (refine o_boxS st rfl rfl rfl ?_; clear st; intro _ _ _ st) | (refine o_loadS st rfl (by repeat (first | exact At.here | apply At.there)) rfl rfl ?_; clear st; intro _ st) | (refine o_load3 st rfl (by repeat (first | exact At.here | apply At.there)) rfl ?_; clear st; intro _ st) | (refine o_load2 st rfl (by repeat (first | exact At.here | apply At.there)) rfl ?_; clear st; intro _ st) | (refine o_load4 st rfl (by repeat (first | exact At.here | apply At.there)) rfl ?_; clear st; intro _ st) | (refine o_storeS st rfl rfl rfl (by repeat (first | exact Upd.here | apply Upd.there)) rfl (by dsimp only [List.set]) ?_; clear st; intro _ _ st) | (refine o_storeW st rfl rfl (by repeat (first | exact Upd.here | apply Upd.there)) rfl rfl rfl ?_; clear st; intro _ _ st) | (refine o_extract st rfl rfl rfl ?_; clear st; intro _ st) | (refine o_neqB st rfl rfl rfl rfl ?_; clear st; intro _ st) | (refine o_notT st rfl rfl ?_; clear st; intro _ st) | (refine o_notF st rfl rfl ?_; clear st; intro _ st) | (refine o_lss st rfl rfl rfl ?_ ?_ <;> clear st <;> intro _ _ st <;> (try (exfalso; omega))) | (refine o_neqI st rfl rfl rfl ?_ ?_ <;> clear st <;> intro _ _ st <;> (try (exfalso; omega)))))
    replace st := St.fit (E' := [(1, _), (3, _), (5, _), (8, _), (9, _), (10, _)]) st (by repeat (first | exact trivial | refine And.intro rfl ?_))
    refine c_drawCA (F := (fun E L a' w' => ∃ (p0 : Nat), St w Try.f15.ntmps a' w' ((11, .pointer (some ⟨p0, 0, none⟩)) :: (12, .bool false) :: E) (⟨p0, true, .cells [.int .i64 (0), .int .i64 (0), .slice none 0 0].toArray 46 (0, 0)⟩ :: L))) (last := 10) hm_ (by decide +kernel) (by decide +kernel) st ?_ ?_
    · clear st; intro _ st
      refine h_val (i := 0) st (by repeat (first | exact List.Sublist.refl _ | apply List.Sublist.cons_cons | apply List.Sublist.cons | exact List.nil_sublist _)) (by decide +kernel) (by decide +kernel) rfl (by decide +kernel) rfl (by first | exact v_load3 st rfl (by repeat (first | exact At.here | apply At.there)) | exact v_loadS st rfl (by repeat (first | exact At.here | apply At.there)) rfl) ?_; clear st; intro _ st
      refine h_val (i := 1) st (by repeat (first | exact List.Sublist.refl _ | apply List.Sublist.cons_cons | apply List.Sublist.cons | exact List.nil_sublist _)) (by decide +kernel) (by decide +kernel) rfl (by decide +kernel) rfl (v_move st rfl) ?_; clear st; intro _ st
      refine h_val (i := 2) st (by repeat (first | exact List.Sublist.refl _ | apply List.Sublist.cons_cons | apply List.Sublist.cons | exact List.nil_sublist _)) (by decide +kernel) (by decide +kernel) rfl (by decide +kernel) rfl (by first | exact v_load3 st rfl (by repeat (first | exact At.here | apply At.there)) | exact v_loadS st rfl (by repeat (first | exact At.here | apply At.there)) rfl) ?_; clear st; intro _ st
      refine h_two (i := 3) (i' := 8) (by decide +kernel) rfl rfl ?_ ?_
      · skip
        refine o_callV st rfl (toSpot_v _ _) rfl ?_; clear st; intro _ _ st
        refine k_held st (by repeat (first | exact List.Sublist.refl _ | apply List.Sublist.cons_cons | apply List.Sublist.cons | exact List.nil_sublist _)) ?_
        refine h_two (i := 4) (i' := 8) (by decide +kernel) rfl rfl ?_ ?_
        · skip
          refine o_callV st rfl (implMove_no _ _ _ _ hI _ _ _ _ _ b1I hq _ (RdS.of (st.heap (by repeat (first | exact At.here | apply At.there))) (spotsIn0p _ _)) hlen) rfl ?_; clear st; intro _ _ st
          refine k_held st (by repeat (first | exact List.Sublist.refl _ | apply List.Sublist.cons_cons | apply List.Sublist.cons | exact List.nil_sublist _)) ?_
          refine h_val (i := 5) st (by repeat (first | exact List.Sublist.refl _ | apply List.Sublist.cons_cons | apply List.Sublist.cons | exact List.nil_sublist _)) (by decide +kernel) (by decide +kernel) rfl (by decide +kernel) rfl (v_move st rfl) ?_; clear st; intro _ st
          refine h_val (i := 6) st (by repeat (first | exact List.Sublist.refl _ | apply List.Sublist.cons_cons | apply List.Sublist.cons | exact List.nil_sublist _)) (by decide +kernel) (by decide +kernel) rfl (by decide +kernel) rfl (v_extract st rfl rfl) ?_; clear st; intro _ st
          refine h_val (i := 7) st (by repeat (first | exact List.Sublist.refl _ | apply List.Sublist.cons_cons | apply List.Sublist.cons | exact List.nil_sublist _)) (by decide +kernel) (by decide +kernel) rfl (by decide +kernel) rfl (v_extract st rfl rfl) ?_; clear st; intro _ st
          refine h_one (i := 8) (by decide +kernel) rfl ?_
          refine o_alloc st rfl ?_; clear st; intro _ _ _ st
          refine k_held st (by repeat (first | exact List.Sublist.refl _ | apply List.Sublist.cons_cons | apply List.Sublist.cons | exact List.nil_sublist _)) ?_
          refine h_one (i := 9) (by decide +kernel) rfl ?_
          (first | (refine o_storeS st rfl rfl rfl (by repeat (first | exact Upd.here | apply Upd.there)) rfl (by dsimp only [List.set]) ?_; clear st; intro _ _ st) | (refine o_storeW st rfl rfl (by repeat (first | exact Upd.here | apply Upd.there)) rfl rfl rfl ?_; clear st; intro _ _ st))
          refine k_held st (by repeat (first | exact List.Sublist.refl _ | apply List.Sublist.cons_cons | apply List.Sublist.cons | exact List.nil_sublist _)) ?_
          refine h_one (i := 10) (by decide +kernel) rfl ?_
          (first | (refine o_assign st rfl rfl ?_; clear st; intro _ st))
          refine k_last ?_
          refine h_done (by decide +kernel) ?_
          refine ⟨rfl, ?_⟩
          have st := St.fore 11 st rfl (by repeat (first | exact Rem.here | apply Rem.there))
          exact ⟨_, (st.fit (by repeat (first | exact trivial | refine And.intro rfl ?_))).subL (by repeat (first | exact List.Sublist.refl _ | apply List.Sublist.cons_cons | apply List.Sublist.cons | exact List.nil_sublist _))⟩
        · skip
          refine o_alloc st rfl ?_; clear st; intro _ _ _ st
          refine k_held st (by repeat (first | exact List.Sublist.refl _ | apply List.Sublist.cons_cons | apply List.Sublist.cons | exact List.nil_sublist _)) ?_
          refine h_one (i := 4) (by decide +kernel) rfl ?_
          refine o_callV st rfl (implMove_no _ _ _ _ hI _ _ _ _ _ b1I hq _ (RdS.of (st.heap (by repeat (first | exact At.here | apply At.there))) (spotsIn0p _ _)) hlen) rfl ?_; clear st; intro _ _ st
          refine k_held st (by repeat (first | exact List.Sublist.refl _ | apply List.Sublist.cons_cons | apply List.Sublist.cons | exact List.nil_sublist _)) ?_
          refine h_val (i := 5) st (by repeat (first | exact List.Sublist.refl _ | apply List.Sublist.cons_cons | apply List.Sublist.cons | exact List.nil_sublist _)) (by decide +kernel) (by decide +kernel) rfl (by decide +kernel) rfl (v_move st rfl) ?_; clear st; intro _ st
          refine h_val (i := 6) st (by repeat (first | exact List.Sublist.refl _ | apply List.Sublist.cons_cons | apply List.Sublist.cons | exact List.nil_sublist _)) (by decide +kernel) (by decide +kernel) rfl (by decide +kernel) rfl (v_extract st rfl rfl) ?_; clear st; intro _ st
          refine h_val (i := 7) st (by repeat (first | exact List.Sublist.refl _ | apply List.Sublist.cons_cons | apply List.Sublist.cons | exact List.nil_sublist _)) (by decide +kernel) (by decide +kernel) rfl (by decide +kernel) rfl (v_extract st rfl rfl) ?_; clear st; intro _ st
          refine h_one (i := 9) (by decide +kernel) rfl ?_
          (first | (refine o_storeS st rfl rfl rfl (by repeat (first | exact Upd.here | apply Upd.there)) rfl (by dsimp only [List.set]) ?_; clear st; intro _ _ st) | (refine o_storeW st rfl rfl (by repeat (first | exact Upd.here | apply Upd.there)) rfl rfl rfl ?_; clear st; intro _ _ st))
          refine k_held st (by repeat (first | exact List.Sublist.refl _ | apply List.Sublist.cons_cons | apply List.Sublist.cons | exact List.nil_sublist _)) ?_
          refine h_one (i := 10) (by decide +kernel) rfl ?_
          (first | (refine o_assign st rfl rfl ?_; clear st; intro _ st))
          refine k_last ?_
          refine h_done (by decide +kernel) ?_
          refine ⟨rfl, ?_⟩
          have st := St.fore 11 st rfl (by repeat (first | exact Rem.here | apply Rem.there))
          exact ⟨_, (st.fit (by repeat (first | exact trivial | refine And.intro rfl ?_))).subL (by repeat (first | exact List.Sublist.refl _ | apply List.Sublist.cons_cons | apply List.Sublist.cons | exact List.nil_sublist _))⟩
      · skip
        refine o_alloc st rfl ?_; clear st; intro _ _ _ st
        refine k_held st (by repeat (first | exact List.Sublist.refl _ | apply List.Sublist.cons_cons | apply List.Sublist.cons | exact List.nil_sublist _)) ?_
        refine h_one (i := 3) (by decide +kernel) rfl ?_
        refine o_callV st rfl (toSpot_v _ _) rfl ?_; clear st; intro _ _ st
        refine k_held st (by repeat (first | exact List.Sublist.refl _ | apply List.Sublist.cons_cons | apply List.Sublist.cons | exact List.nil_sublist _)) ?_
        refine h_one (i := 4) (by decide +kernel) rfl ?_
        refine o_callV st rfl (implMove_no _ _ _ _ hI _ _ _ _ _ b1I hq _ (RdS.of (st.heap (by repeat (first | exact At.here | apply At.there))) (spotsIn0p _ _)) hlen) rfl ?_; clear st; intro _ _ st
        refine k_held st (by repeat (first | exact List.Sublist.refl _ | apply List.Sublist.cons_cons | apply List.Sublist.cons | exact List.nil_sublist _)) ?_
        refine h_val (i := 5) st (by repeat (first | exact List.Sublist.refl _ | apply List.Sublist.cons_cons | apply List.Sublist.cons | exact List.nil_sublist _)) (by decide +kernel) (by decide +kernel) rfl (by decide +kernel) rfl (v_move st rfl) ?_; clear st; intro _ st
        refine h_val (i := 6) st (by repeat (first | exact List.Sublist.refl _ | apply List.Sublist.cons_cons | apply List.Sublist.cons | exact List.nil_sublist _)) (by decide +kernel) (by decide +kernel) rfl (by decide +kernel) rfl (v_extract st rfl rfl) ?_; clear st; intro _ st
        refine h_val (i := 7) st (by repeat (first | exact List.Sublist.refl _ | apply List.Sublist.cons_cons | apply List.Sublist.cons | exact List.nil_sublist _)) (by decide +kernel) (by decide +kernel) rfl (by decide +kernel) rfl (v_extract st rfl rfl) ?_; clear st; intro _ st
        refine h_one (i := 9) (by decide +kernel) rfl ?_
        (first | (refine o_storeS st rfl rfl rfl (by repeat (first | exact Upd.here | apply Upd.there)) rfl (by dsimp only [List.set]) ?_; clear st; intro _ _ st) | (refine o_storeW st rfl rfl (by repeat (first | exact Upd.here | apply Upd.there)) rfl rfl rfl ?_; clear st; intro _ _ st))
        refine k_held st (by repeat (first | exact List.Sublist.refl _ | apply List.Sublist.cons_cons | apply List.Sublist.cons | exact List.nil_sublist _)) ?_
        refine h_one (i := 10) (by decide +kernel) rfl ?_
        (first | (refine o_assign st rfl rfl ?_; clear st; intro _ st))
        refine k_last ?_
        refine h_done (by decide +kernel) ?_
        refine ⟨rfl, ?_⟩
        have st := St.fore 11 st rfl (by repeat (first | exact Rem.here | apply Rem.there))
        exact ⟨_, (st.fit (by repeat (first | exact trivial | refine And.intro rfl ?_))).subL (by repeat (first | exact List.Sublist.refl _ | apply List.Sublist.cons_cons | apply List.Sublist.cons | exact List.nil_sublist _))⟩
    clear st
    rintro _ _ ⟨_, st⟩
    (repeat' (first | (refine o_callV st rfl (hz _) rfl ?_; clear st; intro _ _ st) | (refine o_callV st rfl (toSpot_v _ _) rfl ?_; clear st; intro _ _ st) | (refine o_callToSheet st rfl hr hlen rfl ?_; clear st; intro _ _ _ st) | (refine o_callV st rfl (specMove_no _ _ _ _ hI _ _ _ _ _ b1I hq _ (RdS.of (st.heap (by repeat (first | exact At.here | apply At.there))) (spotsIn0p _ _)) hlen) rfl ?_; clear st; intro _ _ st) | (refine o_callV st rfl (implMove_no _ _ _ _ hI _ _ _ _ _ b1I hq _ (RdS.of (st.heap (by repeat (first | exact At.here | apply At.there))) (spotsIn0p _ _)) hlen) rfl ?_; clear st; intro _ _ st) | (refine o_callV st rfl (eqSheet_zero _) rfl ?_; clear st; intro _ _ st) | (refine o_callV st rfl (eqSpotS_zero _) rfl ?_; clear st; intro _ _ st) | (refine o_callV st rfl (markSheet_zero _ _) rfl ?_; clear st; intro _ _ st) | (refine o_callV st rfl (heldSheet_zero _ (by omega) _) rfl ?_; clear st; intro _ _ st) | (refine o_callV st rfl (eqSheet_ok _ _ _ _ _ (by assumption) (by assumption) _ _ _ _ _ (RdS.of (st.heap (by repeat (first | exact At.here | apply At.there))) (spotsIn0p _ _)) (RdS.of (st.heap (by repeat (first | exact At.here | apply At.there))) (spotsIn0p _ _)) (by omega)) rfl ?_; clear st; intro _ _ st) | (refine o_callU st rfl (markSheet_ok _ _ _ _ _ _ _ _ (st.heap (by repeat (first | exact At.here | apply At.there))) (by omega) (by omega) (by omega)) (by repeat (first | exact Upd.here | apply Upd.there)) rfl ?_; clear st; intro _ _ st) | (refine c_seq ?_) | (refine c_region ?_) | (refine l_do ?_) | (refine l_doG st rfl rfl ?_) | (refine l_skipU st rfl rfl rfl ?_; clear st; intro _ st) | (refine l_skip st rfl rfl rfl rfl ?_; clear st; intro _ st) | (refine l_nil ?_) | (refine x_then ?_) | (refine x_thenR ?_) | (refine x_thenE ?_) | (refine wp_ret ?_) | (refine wp_skip ?_) | (refine c_condT st rfl ?_) | (refine c_condF st rfl ?_) | (refine o_move st rfl rfl ?_; clear st; intro _ st) | (refine o_assign st rfl rfl ?_; clear st; intro _ st) | (refine o_pickT st rfl rfl rfl ?_; clear st; intro _ st) | (refine o_pickF st rfl rfl rfl ?_; clear st; intro _ st) | (refine o_alloc st rfl ?_; clear st; intro _ _ _ st) | (refine o_boxA st rfl rfl ?_; clear st; intro _ _ _ st) | (refine o_boxS st rfl rfl rfl ?_; clear st; intro _ _ _ st) | (refine o_loadS st rfl (by repeat (first | exact At.here | apply At.there)) rfl rfl ?_; clear st; intro _ st) | (refine o_load3 st rfl (by repeat (first | exact At.here | apply At.there)) rfl ?_; clear st; intro _ st) | (refine o_load2 st rfl (by repeat (first | exact At.here | apply At.there)) rfl ?_; clear st; intro _ st) | (refine o_load4 st rfl (by repeat (first | exact At.here | apply At.there)) rfl ?_; clear st; intro _ st) | (refine o_storeS st rfl rfl rfl (by repeat (first | exact Upd.here | apply Upd.there)) rfl (by dsimp only [List.set]) ?_; clear st; intro _ _ st) | (refine o_storeW st rfl rfl (by repeat (first | exact Upd.here | apply Upd.there)) rfl rfl rfl ?_; clear st; intro _ _ st) | (refine o_extract st rfl rfl rfl ?_; clear st; intro _ st) | (refine o_neqB st rfl rfl rfl rfl ?_; clear st; intro _ st) | (refine o_notT st rfl rfl ?_; clear st; intro _ st) | (refine o_notF st rfl rfl ?_; clear st; intro _ st) | (refine o_lss st rfl rfl rfl ?_ ?_ <;> clear st <;> intro _ _ st <;> (try (exfalso; omega))) | (refine o_neqI st rfl rfl rfl ?_ ?_ <;> clear st <;> intro _ _ st <;> (try (exfalso; omega)))))
    replace st := St.fit (E' := [(1, _), (3, _), (5, _), (8, _), (9, _), (10, _), (11, _), (12, _)]) st (by repeat (first | exact trivial | refine And.intro rfl ?_))
    refine c_drawA (last := 5) hm_ (by decide +kernel) (by decide +kernel) st ?_; clear st; intro _ st
    refine h_val (i := 0) st (by repeat (first | exact List.Sublist.refl _ | apply List.Sublist.cons_cons | apply List.Sublist.cons | exact List.nil_sublist _)) (by decide +kernel) (by decide +kernel) rfl (by decide +kernel) rfl (by first | exact v_load3 st rfl (by repeat (first | exact At.here | apply At.there)) | exact v_loadS st rfl (by repeat (first | exact At.here | apply At.there)) rfl) ?_; clear st; intro _ st
    refine h_val (i := 1) st (by repeat (first | exact List.Sublist.refl _ | apply List.Sublist.cons_cons | apply List.Sublist.cons | exact List.nil_sublist _)) (by decide +kernel) (by decide +kernel) rfl (by decide +kernel) rfl (by first | exact v_load3 st rfl (by repeat (first | exact At.here | apply At.there)) | exact v_loadS st rfl (by repeat (first | exact At.here | apply At.there)) rfl) ?_; clear st; intro _ st
    refine h_one (i := 2) (by decide +kernel) rfl ?_
    refine o_callToSheet st rfl hr hlen rfl ?_; clear st; intro _ _ _ st
    refine k_held st (by repeat (first | exact List.Sublist.refl _ | apply List.Sublist.cons_cons | apply List.Sublist.cons | exact List.nil_sublist _)) ?_
    refine h_one (i := 3) (by decide +kernel) rfl ?_
    first | (refine o_callV st rfl (eqSheet_ok _ _ _ _ _ (by assumption) (by assumption) _ _ _ _ _ (RdS.of (st.heap (by repeat (first | exact At.here | apply At.there))) (spotsIn0p _ _)) (RdS.of (st.heap (by repeat (first | exact At.here | apply At.there))) (spotsIn0p _ _)) (by omega)) rfl ?_; clear st; intro _ _ st) | (refine o_callV st rfl (eqSheet_zero _) rfl ?_; clear st; intro _ _ st)
    refine k_held st (by repeat (first | exact List.Sublist.refl _ | apply List.Sublist.cons_cons | apply List.Sublist.cons | exact List.nil_sublist _)) ?_
    refine h_val (i := 4) st (by repeat (first | exact List.Sublist.refl _ | apply List.Sublist.cons_cons | apply List.Sublist.cons | exact List.nil_sublist _)) (by decide +kernel) (by decide +kernel) rfl (by decide +kernel) rfl (v_not st rfl) ?_; clear st; intro _ st
    refine h_done (by decide +kernel) ?_
    (repeat' (first | (refine o_callV st rfl (hz _) rfl ?_; clear st; intro _ _ st) | (refine o_callV st rfl (toSpot_v _ _) rfl ?_; clear st; intro _ _ st) | (refine o_callToSheet st rfl hr hlen rfl ?_; clear st; intro _ _ _ st) | (refine o_callV st rfl (specMove_no _ _ _ _ hI _ _ _ _ _ b1I hq _ (RdS.of (st.heap (by repeat (first | exact At.here | apply At.there))) (spotsIn0p _ _)) hlen) rfl ?_; clear st; intro _ _ st) | (refine o_callV st rfl (implMove_no _ _ _ _ hI _ _ _ _ _ b1I hq _ (RdS.of (st.heap (by repeat (first | exact At.here | apply At.there))) (spotsIn0p _ _)) hlen) rfl ?_; clear st; intro _ _ st) | (refine o_callV st rfl (eqSheet_zero _) rfl ?_; clear st; intro _ _ st) | (refine o_callV st rfl (eqSpotS_zero _) rfl ?_; clear st; intro _ _ st) | (refine o_callV st rfl (markSheet_zero _ _) rfl ?_; clear st; intro _ _ st) | (refine o_callV st rfl (heldSheet_zero _ (by omega) _) rfl ?_; clear st; intro _ _ st) | (refine o_callV st rfl (eqSheet_ok _ _ _ _ _ (by assumption) (by assumption) _ _ _ _ _ (RdS.of (st.heap (by repeat (first | exact At.here | apply At.there))) (spotsIn0p _ _)) (RdS.of (st.heap (by repeat (first | exact At.here | apply At.there))) (spotsIn0p _ _)) (by omega)) rfl ?_; clear st; intro _ _ st) | (refine o_callU st rfl (markSheet_ok _ _ _ _ _ _ _ _ (st.heap (by repeat (first | exact At.here | apply At.there))) (by omega) (by omega) (by omega)) (by repeat (first | exact Upd.here | apply Upd.there)) rfl ?_; clear st; intro _ _ st) | (refine c_seq ?_) | (refine c_region ?_) | (refine l_do ?_) | (refine l_doG st rfl rfl ?_) | (refine l_skipU st rfl rfl rfl ?_; clear st; intro _ st) | (refine l_skip st rfl rfl rfl rfl ?_; clear st; intro _ st) | (refine l_nil ?_) | (refine x_then ?_) | (refine x_thenR ?_) | (refine x_thenE ?_) | (refine wp_ret ?_) | (refine wp_skip ?_) | (refine c_condT st rfl ?_) | (refine c_condF st rfl ?_) | (refine o_move st rfl rfl ?_; clear st; intro _ st) | (refine o_assign st rfl rfl ?_; clear st; intro _ st) | (refine o_pickT st rfl rfl rfl ?_; clear st; intro _ st) | (refine o_pickF st rfl rfl rfl ?_; clear st; intro _ st) | (refine o_alloc st rfl ?_; clear st; intro _ _ _ st) | (refine o_boxA st rfl rfl ?_; clear st; intro _ _ _ st) | (refine o_boxS st rfl rfl rfl ?_; clear st; intro _ _ _ st) | (refine o_loadS st rfl (by repeat (first | exact At.here | apply At.there)) rfl rfl ?_; clear st; intro _ st) | (refine o_load3 st rfl (by repeat (first | exact At.here | apply At.there)) rfl ?_; clear st; intro _ st) | (refine o_load2 st rfl (by repeat (first | exact At.here | apply At.there)) rfl ?_; clear st; intro _ st) | (refine o_load4 st rfl (by repeat (first | exact At.here | apply At.there)) rfl ?_; clear st; intro _ st) | (refine o_storeS st rfl rfl rfl (by repeat (first | exact Upd.here | apply Upd.there)) rfl (by dsimp only [List.set]) ?_; clear st; intro _ _ st) | (refine o_storeW st rfl rfl (by repeat (first | exact Upd.here | apply Upd.there)) rfl rfl rfl ?_; clear st; intro _ _ st) | (refine o_extract st rfl rfl rfl ?_; clear st; intro _ st) | (refine o_neqB st rfl rfl rfl rfl ?_; clear st; intro _ st) | (refine o_notT st rfl rfl ?_; clear st; intro _ st) | (refine o_notF st rfl rfl ?_; clear st; intro _ st) | (refine o_lss st rfl rfl rfl ?_ ?_ <;> clear st <;> intro _ _ st <;> (try (exfalso; omega))) | (refine o_neqI st rfl rfl rfl ?_ ?_ <;> clear st <;> intro _ _ st <;> (try (exfalso; omega)))))
    replace st := St.fit (E' := [(1, _), (3, _), (5, _), (8, _), (9, _), (11, _), (14, _), (15, _)]) st (by repeat (first | exact trivial | refine And.intro rfl ?_))
    refine c_drawCA (F := (fun E L a' w' => ∃ (p0 : Nat), St w Try.f15.ntmps a' w' ((16, .pointer (some ⟨p0, 0, none⟩)) :: (17, .bool false) :: E) (⟨p0, true, .cells [.int .i64 (0), .int .i64 (0), .slice none 0 0].toArray 46 (0, 0)⟩ :: L))) (last := 11) hm_ (by decide +kernel) (by decide +kernel) st ?_ ?_
    · clear st; intro _ st
      refine h_val (i := 0) st (by repeat (first | exact List.Sublist.refl _ | apply List.Sublist.cons_cons | apply List.Sublist.cons | exact List.nil_sublist _)) (by decide +kernel) (by decide +kernel) rfl (by decide +kernel) rfl (by first | exact v_load3 st rfl (by repeat (first | exact At.here | apply At.there)) | exact v_loadS st rfl (by repeat (first | exact At.here | apply At.there)) rfl) ?_; clear st; intro _ st
      refine h_val (i := 2) st (by repeat (first | exact List.Sublist.refl _ | apply List.Sublist.cons_cons | apply List.Sublist.cons | exact List.nil_sublist _)) (by decide +kernel) (by decide +kernel) rfl (by decide +kernel) rfl (v_move st rfl) ?_; clear st; intro _ st
      refine h_val (i := 3) st (by repeat (first | exact List.Sublist.refl _ | apply List.Sublist.cons_cons | apply List.Sublist.cons | exact List.nil_sublist _)) (by decide +kernel) (by decide +kernel) rfl (by decide +kernel) rfl (by first | exact v_load3 st rfl (by repeat (first | exact At.here | apply At.there)) | exact v_loadS st rfl (by repeat (first | exact At.here | apply At.there)) rfl) ?_; clear st; intro _ st
      refine h_two (i := 1) (i' := 9) (by decide +kernel) rfl rfl ?_ ?_
      · skip
        refine o_callToSheet st rfl hr hlen rfl ?_; clear st; intro _ _ _ st
        refine k_held st (by repeat (first | exact List.Sublist.refl _ | apply List.Sublist.cons_cons | apply List.Sublist.cons | exact List.nil_sublist _)) ?_
        refine h_two (i := 4) (i' := 9) (by decide +kernel) rfl rfl ?_ ?_
        · skip
          refine o_callV st rfl (toSpot_v _ _) rfl ?_; clear st; intro _ _ st
          refine k_held st (by repeat (first | exact List.Sublist.refl _ | apply List.Sublist.cons_cons | apply List.Sublist.cons | exact List.nil_sublist _)) ?_
          refine h_two (i := 5) (i' := 9) (by decide +kernel) rfl rfl ?_ ?_
          · skip
            refine o_callV st rfl (implMove_no _ _ _ _ hI _ _ _ _ _ b1I hq _ (RdS.of (st.heap (by repeat (first | exact At.here | apply At.there))) (spotsIn0p _ _)) hlen) rfl ?_; clear st; intro _ _ st
            refine k_held st (by repeat (first | exact List.Sublist.refl _ | apply List.Sublist.cons_cons | apply List.Sublist.cons | exact List.nil_sublist _)) ?_
            refine h_val (i := 6) st (by repeat (first | exact List.Sublist.refl _ | apply List.Sublist.cons_cons | apply List.Sublist.cons | exact List.nil_sublist _)) (by decide +kernel) (by decide +kernel) rfl (by decide +kernel) rfl (v_move st rfl) ?_; clear st; intro _ st
            refine h_val (i := 7) st (by repeat (first | exact List.Sublist.refl _ | apply List.Sublist.cons_cons | apply List.Sublist.cons | exact List.nil_sublist _)) (by decide +kernel) (by decide +kernel) rfl (by decide +kernel) rfl (v_extract st rfl rfl) ?_; clear st; intro _ st
            refine h_val (i := 8) st (by repeat (first | exact List.Sublist.refl _ | apply List.Sublist.cons_cons | apply List.Sublist.cons | exact List.nil_sublist _)) (by decide +kernel) (by decide +kernel) rfl (by decide +kernel) rfl (v_extract st rfl rfl) ?_; clear st; intro _ st
            refine h_one (i := 9) (by decide +kernel) rfl ?_
            refine o_alloc st rfl ?_; clear st; intro _ _ _ st
            refine k_held st (by repeat (first | exact List.Sublist.refl _ | apply List.Sublist.cons_cons | apply List.Sublist.cons | exact List.nil_sublist _)) ?_
            refine h_one (i := 10) (by decide +kernel) rfl ?_
            (first | (refine o_storeS st rfl rfl rfl (by repeat (first | exact Upd.here | apply Upd.there)) rfl (by dsimp only [List.set]) ?_; clear st; intro _ _ st) | (refine o_storeW st rfl rfl (by repeat (first | exact Upd.here | apply Upd.there)) rfl rfl rfl ?_; clear st; intro _ _ st))
            refine k_held st (by repeat (first | exact List.Sublist.refl _ | apply List.Sublist.cons_cons | apply List.Sublist.cons | exact List.nil_sublist _)) ?_
            refine h_one (i := 11) (by decide +kernel) rfl ?_
            (first | (refine o_assign st rfl rfl ?_; clear st; intro _ st))
            refine k_last ?_
            refine h_done (by decide +kernel) ?_
            refine ⟨rfl, ?_⟩
            have st := St.fore 16 st rfl (by repeat (first | exact Rem.here | apply Rem.there))
            exact ⟨_, (st.fit (by repeat (first | exact trivial | refine And.intro rfl ?_))).subL (by repeat (first | exact List.Sublist.refl _ | apply List.Sublist.cons_cons | apply List.Sublist.cons | exact List.nil_sublist _))⟩
          · skip
            refine o_alloc st rfl ?_; clear st; intro _ _ _ st
            refine k_held st (by repeat (first | exact List.Sublist.refl _ | apply List.Sublist.cons_cons | apply List.Sublist.cons | exact List.nil_sublist _)) ?_
            refine h_one (i := 5) (by decide +kernel) rfl ?_
            refine o_callV st rfl (implMove_no _ _ _ _ hI _ _ _ _ _ b1I hq _ (RdS.of (st.heap (by repeat (first | exact At.here | apply At.there))) (spotsIn0p _ _)) hlen) rfl ?_; clear st; intro _ _ st
            refine k_held st (by repeat (first | exact List.Sublist.refl _ | apply List.Sublist.cons_cons | apply List.Sublist.cons | exact List.nil_sublist _)) ?_
            refine h_val (i := 6) st (by repeat (first | exact List.Sublist.refl _ | apply List.Sublist.cons_cons | apply List.Sublist.cons | exact List.nil_sublist _)) (by decide +kernel) (by decide +kernel) rfl (by decide +kernel) rfl (v_move st rfl) ?_; clear st; intro _ st
            refine h_val (i := 7) st (by repeat (first | exact List.Sublist.refl _ | apply List.Sublist.cons_cons | apply List.Sublist.cons | exact List.nil_sublist _)) (by decide +kernel) (by decide +kernel) rfl (by decide +kernel) rfl (v_extract st rfl rfl) ?_; clear st; intro _ st
            refine h_val (i := 8) st (by repeat (first | exact List.Sublist.refl _ | apply List.Sublist.cons_cons | apply List.Sublist.cons | exact List.nil_sublist _)) (by decide +kernel) (by decide +kernel) rfl (by decide +kernel) rfl (v_extract st rfl rfl) ?_; clear st; intro _ st
            refine h_one (i := 10) (by decide +kernel) rfl ?_
            (first | (refine o_storeS st rfl rfl rfl (by repeat (first | exact Upd.here | apply Upd.there)) rfl (by dsimp only [List.set]) ?_; clear st; intro _ _ st) | (refine o_storeW st rfl rfl (by repeat (first | exact Upd.here | apply Upd.there)) rfl rfl rfl ?_; clear st; intro _ _ st))
            refine k_held st (by repeat (first | exact List.Sublist.refl _ | apply List.Sublist.cons_cons | apply List.Sublist.cons | exact List.nil_sublist _)) ?_
            refine h_one (i := 11) (by decide +kernel) rfl ?_
            (first | (refine o_assign st rfl rfl ?_; clear st; intro _ st))
            refine k_last ?_
            refine h_done (by decide +kernel) ?_
            refine ⟨rfl, ?_⟩
            have st := St.fore 16 st rfl (by repeat (first | exact Rem.here | apply Rem.there))
            exact ⟨_, (st.fit (by repeat (first | exact trivial | refine And.intro rfl ?_))).subL (by repeat (first | exact List.Sublist.refl _ | apply List.Sublist.cons_cons | apply List.Sublist.cons | exact List.nil_sublist _))⟩
        · skip
          refine o_alloc st rfl ?_; clear st; intro _ _ _ st
          refine k_held st (by repeat (first | exact List.Sublist.refl _ | apply List.Sublist.cons_cons | apply List.Sublist.cons | exact List.nil_sublist _)) ?_
          refine h_one (i := 4) (by decide +kernel) rfl ?_
          refine o_callV st rfl (toSpot_v _ _) rfl ?_; clear st; intro _ _ st
          refine k_held st (by repeat (first | exact List.Sublist.refl _ | apply List.Sublist.cons_cons | apply List.Sublist.cons | exact List.nil_sublist _)) ?_
          refine h_one (i := 5) (by decide +kernel) rfl ?_
          refine o_callV st rfl (implMove_no _ _ _ _ hI _ _ _ _ _ b1I hq _ (RdS.of (st.heap (by repeat (first | exact At.here | apply At.there))) (spotsIn0p _ _)) hlen) rfl ?_; clear st; intro _ _ st
          refine k_held st (by repeat (first | exact List.Sublist.refl _ | apply List.Sublist.cons_cons | apply List.Sublist.cons | exact List.nil_sublist _)) ?_
          refine h_val (i := 6) st (by repeat (first | exact List.Sublist.refl _ | apply List.Sublist.cons_cons | apply List.Sublist.cons | exact List.nil_sublist _)) (by decide +kernel) (by decide +kernel) rfl (by decide +kernel) rfl (v_move st rfl) ?_; clear st; intro _ st
          refine h_val (i := 7) st (by repeat (first | exact List.Sublist.refl _ | apply List.Sublist.cons_cons | apply List.Sublist.cons | exact List.nil_sublist _)) (by decide +kernel) (by decide +kernel) rfl (by decide +kernel) rfl (v_extract st rfl rfl) ?_; clear st; intro _ st
          refine h_val (i := 8) st (by repeat (first | exact List.Sublist.refl _ | apply List.Sublist.cons_cons | apply List.Sublist.cons | exact List.nil_sublist _)) (by decide +kernel) (by decide +kernel) rfl (by decide +kernel) rfl (v_extract st rfl rfl) ?_; clear st; intro _ st
          refine h_one (i := 10) (by decide +kernel) rfl ?_
          (first | (refine o_storeS st rfl rfl rfl (by repeat (first | exact Upd.here | apply Upd.there)) rfl (by dsimp only [List.set]) ?_; clear st; intro _ _ st) | (refine o_storeW st rfl rfl (by repeat (first | exact Upd.here | apply Upd.there)) rfl rfl rfl ?_; clear st; intro _ _ st))
          refine k_held st (by repeat (first | exact List.Sublist.refl _ | apply List.Sublist.cons_cons | apply List.Sublist.cons | exact List.nil_sublist _)) ?_
          refine h_one (i := 11) (by decide +kernel) rfl ?_
          (first | (refine o_assign st rfl rfl ?_; clear st; intro _ st))
          refine k_last ?_
          refine h_done (by decide +kernel) ?_
          refine ⟨rfl, ?_⟩
          have st := St.fore 16 st rfl (by repeat (first | exact Rem.here | apply Rem.there))
          exact ⟨_, (st.fit (by repeat (first | exact trivial | refine And.intro rfl ?_))).subL (by repeat (first | exact List.Sublist.refl _ | apply List.Sublist.cons_cons | apply List.Sublist.cons | exact List.nil_sublist _))⟩
      · skip
        refine o_alloc st rfl ?_; clear st; intro _ _ _ st
        refine k_held st (by repeat (first | exact List.Sublist.refl _ | apply List.Sublist.cons_cons | apply List.Sublist.cons | exact List.nil_sublist _)) ?_
        refine h_one (i := 1) (by decide +kernel) rfl ?_
        refine o_callToSheet st rfl hr hlen rfl ?_; clear st; intro _ _ _ st
        refine k_held st (by repeat (first | exact List.Sublist.refl _ | apply List.Sublist.cons_cons | apply List.Sublist.cons | exact List.nil_sublist _)) ?_
        refine h_one (i := 4) (by decide +kernel) rfl ?_
        refine o_callV st rfl (toSpot_v _ _) rfl ?_; clear st; intro _ _ st
        refine k_held st (by repeat (first | exact List.Sublist.refl _ | apply List.Sublist.cons_cons | apply List.Sublist.cons | exact List.nil_sublist _)) ?_
        refine h_one (i := 5) (by decide +kernel) rfl ?_
        refine o_callV st rfl (implMove_no _ _ _ _ hI _ _ _ _ _ b1I hq _ (RdS.of (st.heap (by repeat (first | exact At.here | apply At.there))) (spotsIn0p _ _)) hlen) rfl ?_; clear st; intro _ _ st
        refine k_held st (by repeat (first | exact List.Sublist.refl _ | apply List.Sublist.cons_cons | apply List.Sublist.cons | exact List.nil_sublist _)) ?_
        refine h_val (i := 6) st (by repeat (first | exact List.Sublist.refl _ | apply List.Sublist.cons_cons | apply List.Sublist.cons | exact List.nil_sublist _)) (by decide +kernel) (by decide +kernel) rfl (by decide +kernel) rfl (v_move st rfl) ?_; clear st; intro _ st
        refine h_val (i := 7) st (by repeat (first | exact List.Sublist.refl _ | apply List.Sublist.cons_cons | apply List.Sublist.cons | exact List.nil_sublist _)) (by decide +kernel) (by decide +kernel) rfl (by decide +kernel) rfl (v_extract st rfl rfl) ?_; clear st; intro _ st
        refine h_val (i := 8) st (by repeat (first | exact List.Sublist.refl _ | apply List.Sublist.cons_cons | apply List.Sublist.cons | exact List.nil_sublist _)) (by decide +kernel) (by decide +kernel) rfl (by decide +kernel) rfl (v_extract st rfl rfl) ?_; clear st; intro _ st
        refine h_one (i := 10) (by decide +kernel) rfl ?_
        (first | (refine o_storeS st rfl rfl rfl (by repeat (first | exact Upd.here | apply Upd.there)) rfl (by dsimp only [List.set]) ?_; clear st; intro _ _ st) | (refine o_storeW st rfl rfl (by repeat (first | exact Upd.here | apply Upd.there)) rfl rfl rfl ?_; clear st; intro _ _ st))
        refine k_held st (by repeat (first | exact List.Sublist.refl _ | apply List.Sublist.cons_cons | apply List.Sublist.cons | exact List.nil_sublist _)) ?_
        refine h_one (i := 11) (by decide +kernel) rfl ?_
        (first | (refine o_assign st rfl rfl ?_; clear st; intro _ st))
        refine k_last ?_
        refine h_done (by decide +kernel) ?_
        refine ⟨rfl, ?_⟩
        have st := St.fore 16 st rfl (by repeat (first | exact Rem.here | apply Rem.there))
        exact ⟨_, (st.fit (by repeat (first | exact trivial | refine And.intro rfl ?_))).subL (by repeat (first | exact List.Sublist.refl _ | apply List.Sublist.cons_cons | apply List.Sublist.cons | exact List.nil_sublist _))⟩
    clear st
    rintro _ _ ⟨_, st⟩
    (repeat' (first | (refine o_callV st rfl (hz _) rfl ?_; clear st; intro _ _ st) | (refine o_callV st rfl (toSpot_v _ _) rfl ?_; clear st; intro _ _ st) | (refine o_callToSheet st rfl hr hlen rfl ?_; clear st; intro _ _ _ st) | (refine o_callV st rfl (specMove_no _ _ _ _ hI _ _ _ _ _ b1I hq _ (RdS.of (st.heap (by repeat (first | exact At.here | apply At.there))) (spotsIn0p _ _)) hlen) rfl ?_; clear st; intro _ _ st) | (refine o_callV st rfl (implMove_no _ _ _ _ hI _ _ _ _ _ b1I hq _ (RdS.of (st.heap (by repeat (first | exact At.here | apply At.there))) (spotsIn0p _ _)) hlen) rfl ?_; clear st; intro _ _ st) | (refine o_callV st rfl (eqSheet_zero _) rfl ?_; clear st; intro _ _ st) | (refine o_callV st rfl (eqSpotS_zero _) rfl ?_; clear st; intro _ _ st) | (refine o_callV st rfl (markSheet_zero _ _) rfl ?_; clear st; intro _ _ st) | (refine o_callV st rfl (heldSheet_zero _ (by omega) _) rfl ?_; clear st; intro _ _ st) | (refine o_callV st rfl (eqSheet_ok _ _ _ _ _ (by assumption) (by assumption) _ _ _ _ _ (RdS.of (st.heap (by repeat (first | exact At.here | apply At.there))) (spotsIn0p _ _)) (RdS.of (st.heap (by repeat (first | exact At.here | apply At.there))) (spotsIn0p _ _)) (by omega)) rfl ?_; clear st; intro _ _ st) | (refine o_callU st rfl (markSheet_ok _ _ _ _ _ _ _ _ (st.heap (by repeat (first | exact At.here | apply At.there))) (by omega) (by omega) (by omega)) (by repeat (first | exact Upd.here | apply Upd.there)) rfl ?_; clear st; intro _ _ st) | (refine c_seq ?_) | (refine c_region ?_) | (refine l_do ?_) | (refine l_doG st rfl rfl ?_) | (refine l_skipU st rfl rfl rfl ?_; clear st; intro _ st) | (refine l_skip st rfl rfl rfl rfl ?_; clear st; intro _ st) | (refine l_nil ?_) | (refine x_then ?_) | (refine x_thenR ?_) | (refine x_thenE ?_) | (refine wp_ret ?_) | (refine wp_skip ?_) | (refine c_condT st rfl ?_) | (refine c_condF st rfl ?_) | (refine o_move st rfl rfl ?_; clear st; intro _ st) | (refine o_assign st rfl rfl ?_; clear st; intro _ st) | (refine o_pickT st rfl rfl rfl ?_; clear st; intro _ st) | (refine o_pickF st rfl rfl rfl ?_; clear st; intro _ st) | (refine o_alloc st rfl ?_; clear st; intro _ _ _ st) | (refine o_boxA st rfl rfl ?_; clear st; intro _ _ _ st) | (refine o_boxS st rfl rfl rfl ?_; clear st; intro _ _ _ st) | (refine o_loadS st rfl (by repeat (first | exact At.here | apply At.there)) rfl rfl ?_; clear st; intro _ st) | (refine o_load3 st rfl (by repeat (first | exact At.here | apply At.there)) rfl ?_; clear st; intro _ st) | (refine o_load2 st rfl (by repeat (first | exact At.here | apply At.there)) rfl ?_; clear st; intro _ st) | (refine o_load4 st rfl (by repeat (first | exact At.here | apply At.there)) rfl ?_; clear st; intro _ st) | (refine o_storeS st rfl rfl rfl (by repeat (first | exact Upd.here | apply Upd.there)) rfl (by dsimp only [List.set]) ?_; clear st; intro _ _ st) | (refine o_storeW st rfl rfl (by repeat (first | exact Upd.here | apply Upd.there)) rfl rfl rfl ?_; clear st; intro _ _ st) | (refine o_extract st rfl rfl rfl ?_; clear st; intro _ st) | (refine o_neqB st rfl rfl rfl rfl ?_; clear st; intro _ st) | (refine o_notT st rfl rfl ?_; clear st; intro _ st) | (refine o_notF st rfl rfl ?_; clear st; intro _ st) | (refine o_lss st rfl rfl rfl ?_ ?_ <;> clear st <;> intro _ _ st <;> (try (exfalso; omega))) | (refine o_neqI st rfl rfl rfl ?_ ?_ <;> clear st <;> intro _ _ st <;> (try (exfalso; omega)))))
    refine post1 st Try.results15 (rd_t st rfl) ?_
    exact ⟨rfl, st.below⟩
  · skip
    (repeat' (first | (refine o_callV st rfl (hz _) rfl ?_; clear st; intro _ _ st) | (refine o_callV st rfl (toSpot_v _ _) rfl ?_; clear st; intro _ _ st) | (refine o_callToSheet st rfl hr hlen rfl ?_; clear st; intro _ _ _ st) | (refine o_callShY st rfl (specMove_yes _ _ _ _ hI _ _ _ _ _ b1I hq _ (RdS.of (st.heap (by repeat (first | exact At.here | apply At.there))) (spotsIn0p _ _)) hlen) rfl ?_; clear st; intro _ _ _ _ _ _ _ _ st) | (refine o_callShY st rfl (implMove_yes _ _ _ _ hI _ _ _ _ _ b1I hq _ (RdS.of (st.heap (by repeat (first | exact At.here | apply At.there))) (spotsIn0p _ _)) hlen) rfl ?_; clear st; intro _ _ _ _ _ _ _ _ st) | (refine o_callV st rfl (eqSheet_ok _ _ _ _ _ (by assumption) (by assumption) _ _ _ _ _ (RdS.of (st.heap (by repeat (first | exact At.here | apply At.there))) (spotsIn0p _ _)) (RdS.of (st.heap (by repeat (first | exact At.here | apply At.there))) (spotsIn0p _ _)) (by omega)) rfl ?_; clear st; intro _ _ st) | (refine o_callU st rfl (markSheet_ok _ _ _ _ _ _ _ _ (st.heap (by repeat (first | exact At.here | apply At.there))) (by omega) (by omega) (by omega)) (by repeat (first | exact Upd.here | apply Upd.there)) rfl ?_; clear st; intro _ _ st) | (refine o_callV st rfl (heldSheet_ok _ _ _ _ _ _ _ _ (st.heap (by repeat (first | exact At.here | apply At.there))) (by omega) (by omega) (by omega)) rfl ?_; clear st; intro _ _ st) | (refine c_seq ?_) | (refine c_region ?_) | (refine l_do ?_) | (refine l_doG st rfl rfl ?_) | (refine l_skipU st rfl rfl rfl ?_; clear st; intro _ st) | (refine l_skip st rfl rfl rfl rfl ?_; clear st; intro _ st) | (refine l_nil ?_) | (refine x_then ?_) | (refine x_thenR ?_) | (refine x_thenE ?_) | (refine wp_ret ?_) | (refine wp_skip ?_) | (refine c_condT st rfl ?_) | (refine c_condF st rfl ?_) | (refine o_move st rfl rfl ?_; clear st; intro _ st) | (refine o_assign st rfl rfl ?_; clear st; intro _ st) | (refine o_pickT st rfl rfl rfl ?_; clear st; intro _ st) | (refine o_pickF st rfl rfl rfl ?_; clear st; intro _ st) | (refine o_alloc st rfl ?_; clear st; intro _ _ _ st) | (refine o_boxA st rfl rfl ?_; clear st; intro _ _ _ st) | (refine o_boxS st rfl rfl rfl ?_; clear st; intro _ _ _ st) | (refine o_loadS st rfl (by repeat (first | exact At.here | apply At.there)) rfl rfl ?_; clear st; intro _ st) | (refine o_load3 st rfl (by repeat (first | exact At.here | apply At.there)) rfl ?_; clear st; intro _ st) | (refine o_load2 st rfl (by repeat (first | exact At.here | apply At.there)) rfl ?_; clear st; intro _ st) | (refine o_load4 st rfl (by repeat (first | exact At.here | apply At.there)) rfl ?_; clear st; intro _ st) | (refine o_storeS st rfl rfl rfl (by repeat (first | exact Upd.here | apply Upd.there)) rfl (by dsimp only [List.set]) ?_; clear st; intro _ _ st) | (refine o_storeW st rfl rfl (by repeat (first | exact Upd.here | apply Upd.there)) rfl rfl rfl ?_; clear st; intro _ _ st) | (refine o_extract st rfl rfl rfl ?_; clear st; intro _ st) | (refine o_neqB st rfl rfl rfl rfl ?_; clear st; intro _ st) | (refine o_notT st rfl rfl ?_; clear st; intro _ st) | (refine o_notF st rfl rfl ?_; clear st; intro _ st) | (refine o_lss st rfl rfl rfl ?_ ?_ <;> clear st <;> intro _ _ st <;> (try (exfalso; omega))) | (refine o_neqI st rfl rfl rfl ?_ ?_ <;> clear st <;> intro _ _ st <;> (try (exfalso; omega)))))
    replace st := St.fit (E' := [(1, _), (3, _), (5, _)]) st (by repeat (first | exact trivial | refine And.intro rfl ?_))
    refine c_drawCA (F := (fun E L a' w' => ∃ (p0 c0 cap0 : Nat) (bs0 : List B3) (pad0 : List Value), IsSL bs0 (ss.set i.toNat b1s) ∧ bs0.length = (ss.set i.toNat b1s).length ∧ St w Try.f15.ntmps a' w' ((8, .pointer (some ⟨p0, 0, none⟩)) :: (9, .bool true) :: E) (⟨p0, true, .cells [.int .i64 (m), .int .i64 (n), .slice (some ⟨c0, 0, none⟩) bs0.length cap0].toArray 46 (0, 0)⟩ :: ⟨c0, true, oS bs0 pad0⟩ :: L))) (last := 11) hm_ (by decide +kernel) (by decide +kernel) st ?_ ?_
    · clear st; intro _ st
      refine h_val (i := 0) st (by repeat (first | exact List.Sublist.refl _ | apply List.Sublist.cons_cons | apply List.Sublist.cons | exact List.nil_sublist _)) (by decide +kernel) (by decide +kernel) rfl (by decide +kernel) rfl (by first | exact v_load3 st rfl (by repeat (first | exact At.here | apply At.there)) | exact v_loadS st rfl (by repeat (first | exact At.here | apply At.there)) rfl) ?_; clear st; intro _ st
      refine h_val (i := 2) st (by repeat (first | exact List.Sublist.refl _ | apply List.Sublist.cons_cons | apply List.Sublist.cons | exact List.nil_sublist _)) (by decide +kernel) (by decide +kernel) rfl (by decide +kernel) rfl (v_move st rfl) ?_; clear st; intro _ st
      refine h_val (i := 3) st (by repeat (first | exact List.Sublist.refl _ | apply List.Sublist.cons_cons | apply List.Sublist.cons | exact List.nil_sublist _)) (by decide +kernel) (by decide +kernel) rfl (by decide +kernel) rfl (by first | exact v_load3 st rfl (by repeat (first | exact At.here | apply At.there)) | exact v_loadS st rfl (by repeat (first | exact At.here | apply At.there)) rfl) ?_; clear st; intro _ st
      refine h_two (i := 1) (i' := 9) (by decide +kernel) rfl rfl ?_ ?_
      · skip
        refine o_callToSheet st rfl hr hlen rfl ?_; clear st; intro _ _ _ st
        refine k_held st (by repeat (first | exact List.Sublist.refl _ | apply List.Sublist.cons_cons | apply List.Sublist.cons | exact List.nil_sublist _)) ?_
        refine h_two (i := 4) (i' := 9) (by decide +kernel) rfl rfl ?_ ?_
        · skip
          refine o_callV st rfl (toSpot_v _ _) rfl ?_; clear st; intro _ _ st
          refine k_held st (by repeat (first | exact List.Sublist.refl _ | apply List.Sublist.cons_cons | apply List.Sublist.cons | exact List.nil_sublist _)) ?_
          refine h_two (i := 5) (i' := 9) (by decide +kernel) rfl rfl ?_ ?_
          · skip
            refine o_callShY st rfl (specMove_yes _ _ _ _ hI _ _ _ _ _ b1I hq _ (RdS.of (st.heap (by repeat (first | exact At.here | apply At.there))) (spotsIn0p _ _)) hlen) rfl ?_; clear st; intro _ _ _ _ _ _ _ _ st
            refine k_held st (by repeat (first | exact List.Sublist.refl _ | apply List.Sublist.cons_cons | apply List.Sublist.cons | exact List.nil_sublist _)) ?_
            refine h_val (i := 6) st (by repeat (first | exact List.Sublist.refl _ | apply List.Sublist.cons_cons | apply List.Sublist.cons | exact List.nil_sublist _)) (by decide +kernel) (by decide +kernel) rfl (by decide +kernel) rfl (v_move st rfl) ?_; clear st; intro _ st
            refine h_val (i := 7) st (by repeat (first | exact List.Sublist.refl _ | apply List.Sublist.cons_cons | apply List.Sublist.cons | exact List.nil_sublist _)) (by decide +kernel) (by decide +kernel) rfl (by decide +kernel) rfl (v_extract st rfl rfl) ?_; clear st; intro _ st
            refine h_val (i := 8) st (by repeat (first | exact List.Sublist.refl _ | apply List.Sublist.cons_cons | apply List.Sublist.cons | exact List.nil_sublist _)) (by decide +kernel) (by decide +kernel) rfl (by decide +kernel) rfl (v_extract st rfl rfl) ?_; clear st; intro _ st
            refine h_one (i := 9) (by decide +kernel) rfl ?_
            refine o_alloc st rfl ?_; clear st; intro _ _ _ st
            refine k_held st (by repeat (first | exact List.Sublist.refl _ | apply List.Sublist.cons_cons | apply List.Sublist.cons | exact List.nil_sublist _)) ?_
            refine h_one (i := 10) (by decide +kernel) rfl ?_
            (first | (refine o_storeS st rfl rfl rfl (by repeat (first | exact Upd.here | apply Upd.there)) rfl (by dsimp only [List.set]) ?_; clear st; intro _ _ st) | (refine o_storeW st rfl rfl (by repeat (first | exact Upd.here | apply Upd.there)) rfl rfl rfl ?_; clear st; intro _ _ st))
            refine k_held st (by repeat (first | exact List.Sublist.refl _ | apply List.Sublist.cons_cons | apply List.Sublist.cons | exact List.nil_sublist _)) ?_
            refine h_one (i := 11) (by decide +kernel) rfl ?_
            (first | (refine o_assign st rfl rfl ?_; clear st; intro _ st))
            refine k_last ?_
            refine h_done (by decide +kernel) ?_
            refine ⟨rfl, ?_⟩
            have st := St.fore 8 st rfl (by repeat (first | exact Rem.here | apply Rem.there))
            exact ⟨_, _, _, _, _, by assumption, by assumption, (st.fit (by repeat (first | exact trivial | refine And.intro rfl ?_))).subL (by repeat (first | exact List.Sublist.refl _ | apply List.Sublist.cons_cons | apply List.Sublist.cons | exact List.nil_sublist _))⟩
          · skip
            refine o_alloc st rfl ?_; clear st; intro _ _ _ st
            refine k_held st (by repeat (first | exact List.Sublist.refl _ | apply List.Sublist.cons_cons | apply List.Sublist.cons | exact List.nil_sublist _)) ?_
            refine h_one (i := 5) (by decide +kernel) rfl ?_
            refine o_callShY st rfl (specMove_yes _ _ _ _ hI _ _ _ _ _ b1I hq _ (RdS.of (st.heap (by repeat (first | exact At.here | apply At.there))) (spotsIn0p _ _)) hlen) rfl ?_; clear st; intro _ _ _ _ _ _ _ _ st
            refine k_held st (by repeat (first | exact List.Sublist.refl _ | apply List.Sublist.cons_cons | apply List.Sublist.cons | exact List.nil_sublist _)) ?_
            refine h_val (i := 6) st (by repeat (first | exact List.Sublist.refl _ | apply List.Sublist.cons_cons | apply List.Sublist.cons | exact List.nil_sublist _)) (by decide +kernel) (by decide +kernel) rfl (by decide +kernel) rfl (v_move st rfl) ?_; clear st; intro _ st
            refine h_val (i := 7) st (by repeat (first | exact List.Sublist.refl _ | apply List.Sublist.cons_cons | apply List.Sublist.cons | exact List.nil_sublist _)) (by decide +kernel) (by decide +kernel) rfl (by decide +kernel) rfl (v_extract st rfl rfl) ?_; clear st; intro _ st
            refine h_val (i := 8) st (by repeat (first | exact List.Sublist.refl _ | apply List.Sublist.cons_cons | apply List.Sublist.cons | exact List.nil_sublist _)) (by decide +kernel) (by decide +kernel) rfl (by decide +kernel) rfl (v_extract st rfl rfl) ?_; clear st; intro _ st
            refine h_one (i := 10) (by decide +kernel) rfl ?_
            (first | (refine o_storeS st rfl rfl rfl (by repeat (first | exact Upd.here | apply Upd.there)) rfl (by dsimp only [List.set]) ?_; clear st; intro _ _ st) | (refine o_storeW st rfl rfl (by repeat (first | exact Upd.here | apply Upd.there)) rfl rfl rfl ?_; clear st; intro _ _ st))
            refine k_held st (by repeat (first | exact List.Sublist.refl _ | apply List.Sublist.cons_cons | apply List.Sublist.cons | exact List.nil_sublist _)) ?_
            refine h_one (i := 11) (by decide +kernel) rfl ?_
            (first | (refine o_assign st rfl rfl ?_; clear st; intro _ st))
            refine k_last ?_
            refine h_done (by decide +kernel) ?_
            refine ⟨rfl, ?_⟩
            have st := St.fore 8 st rfl (by repeat (first | exact Rem.here | apply Rem.there))
            exact ⟨_, _, _, _, _, by assumption, by assumption, (st.fit (by repeat (first | exact trivial | refine And.intro rfl ?_))).subL (by repeat (first | exact List.Sublist.refl _ | apply List.Sublist.cons_cons | apply List.Sublist.cons | exact List.nil_sublist _))⟩
        · skip
          refine o_alloc st rfl ?_; clear st; intro _ _ _ st
          refine k_held st (by repeat (first | exact List.Sublist.refl _ | apply List.Sublist.cons_cons | apply List.Sublist.cons | exact List.nil_sublist _)) ?_
          refine h_one (i := 4) (by decide +kernel) rfl ?_
          refine o_callV st rfl (toSpot_v _ _) rfl ?_; clear st; intro _ _ st
          refine k_held st (by repeat (first | exact List.Sublist.refl _ | apply List.Sublist.cons_cons | apply List.Sublist.cons | exact List.nil_sublist _)) ?_
          refine h_one (i := 5) (by decide +kernel) rfl ?_
          refine o_callShY st rfl (specMove_yes _ _ _ _ hI _ _ _ _ _ b1I hq _ (RdS.of (st.heap (by repeat (first | exact At.here | apply At.there))) (spotsIn0p _ _)) hlen) rfl ?_; clear st; intro _ _ _ _ _ _ _ _ st
          refine k_held st (by repeat (first | exact List.Sublist.refl _ | apply List.Sublist.cons_cons | apply List.Sublist.cons | exact List.nil_sublist _)) ?_
          refine h_val (i := 6) st (by repeat (first | exact List.Sublist.refl _ | apply List.Sublist.cons_cons | apply List.Sublist.cons | exact List.nil_sublist _)) (by decide +kernel) (by decide +kernel) rfl (by decide +kernel) rfl (v_move st rfl) ?_; clear st; intro _ st
          refine h_val (i := 7) st (by repeat (first | exact List.Sublist.refl _ | apply List.Sublist.cons_cons | apply List.Sublist.cons | exact List.nil_sublist _)) (by decide +kernel) (by decide +kernel) rfl (by decide +kernel) rfl (v_extract st rfl rfl) ?_; clear st; intro _ st
          refine h_val (i := 8) st (by repeat (first | exact List.Sublist.refl _ | apply List.Sublist.cons_cons | apply List.Sublist.cons | exact List.nil_sublist _)) (by decide +kernel) (by decide +kernel) rfl (by decide +kernel) rfl (v_extract st rfl rfl) ?_; clear st; intro _ st
          refine h_one (i := 10) (by decide +kernel) rfl ?_
          (first | (refine o_storeS st rfl rfl rfl (by repeat (first | exact Upd.here | apply Upd.there)) rfl (by dsimp only [List.set]) ?_; clear st; intro _ _ st) | (refine o_storeW st rfl rfl (by repeat (first | exact Upd.here | apply Upd.there)) rfl rfl rfl ?_; clear st; intro _ _ st))
          refine k_held st (by repeat (first | exact List.Sublist.refl _ | apply List.Sublist.cons_cons | apply List.Sublist.cons | exact List.nil_sublist _)) ?_
          refine h_one (i := 11) (by decide +kernel) rfl ?_
          (first | (refine o_assign st rfl rfl ?_; clear st; intro _ st))
          refine k_last ?_
          refine h_done (by decide +kernel) ?_
          refine ⟨rfl, ?_⟩
          have st := St.fore 8 st rfl (by repeat (first | exact Rem.here | apply Rem.there))
          exact ⟨_, _, _, _, _, by assumption, by assumption, (st.fit (by repeat (first | exact trivial | refine And.intro rfl ?_))).subL (by repeat (first | exact List.Sublist.refl _ | apply List.Sublist.cons_cons | apply List.Sublist.cons | exact List.nil_sublist _))⟩
      · skip
        refine o_alloc st rfl ?_; clear st; intro _ _ _ st
        refine k_held st (by repeat (first | exact List.Sublist.refl _ | apply List.Sublist.cons_cons | apply List.Sublist.cons | exact List.nil_sublist _)) ?_
        refine h_one (i := 1) (by decide +kernel) rfl ?_
        refine o_callToSheet st rfl hr hlen rfl ?_; clear st; intro _ _ _ st
        refine k_held st (by repeat (first | exact List.Sublist.refl _ | apply List.Sublist.cons_cons | apply List.Sublist.cons | exact List.nil_sublist _)) ?_
        refine h_one (i := 4) (by decide +kernel) rfl ?_
        refine o_callV st rfl (toSpot_v _ _) rfl ?_; clear st; intro _ _ st
        refine k_held st (by repeat (first | exact List.Sublist.refl _ | apply List.Sublist.cons_cons | apply List.Sublist.cons | exact List.nil_sublist _)) ?_
        refine h_one (i := 5) (by decide +kernel) rfl ?_
        refine o_callShY st rfl (specMove_yes _ _ _ _ hI _ _ _ _ _ b1I hq _ (RdS.of (st.heap (by repeat (first | exact At.here | apply At.there))) (spotsIn0p _ _)) hlen) rfl ?_; clear st; intro _ _ _ _ _ _ _ _ st
        refine k_held st (by repeat (first | exact List.Sublist.refl _ | apply List.Sublist.cons_cons | apply List.Sublist.cons | exact List.nil_sublist _)) ?_
        refine h_val (i := 6) st (by repeat (first | exact List.Sublist.refl _ | apply List.Sublist.cons_cons | apply List.Sublist.cons | exact List.nil_sublist _)) (by decide +kernel) (by decide +kernel) rfl (by decide +kernel) rfl (v_move st rfl) ?_; clear st; intro _ st
        refine h_val (i := 7) st (by repeat (first | exact List.Sublist.refl _ | apply List.Sublist.cons_cons | apply List.Sublist.cons | exact List.nil_sublist _)) (by decide +kernel) (by decide +kernel) rfl (by decide +kernel) rfl (v_extract st rfl rfl) ?_; clear st; intro _ st
        refine h_val (i := 8) st (by repeat (first | exact List.Sublist.refl _ | apply List.Sublist.cons_cons | apply List.Sublist.cons | exact List.nil_sublist _)) (by decide +kernel) (by decide +kernel) rfl (by decide +kernel) rfl (v_extract st rfl rfl) ?_; clear st; intro _ st
        refine h_one (i := 10) (by decide +kernel) rfl ?_
        (first | (refine o_storeS st rfl rfl rfl (by repeat (first | exact Upd.here | apply Upd.there)) rfl (by dsimp only [List.set]) ?_; clear st; intro _ _ st) | (refine o_storeW st rfl rfl (by repeat (first | exact Upd.here | apply Upd.there)) rfl rfl rfl ?_; clear st; intro _ _ st))
        refine k_held st (by repeat (first | exact List.Sublist.refl _ | apply List.Sublist.cons_cons | apply List.Sublist.cons | exact List.nil_sublist _)) ?_
        refine h_one (i := 11) (by decide +kernel) rfl ?_
        (first | (refine o_assign st rfl rfl ?_; clear st; intro _ st))
        refine k_last ?_
        refine h_done (by decide +kernel) ?_
        refine ⟨rfl, ?_⟩
        have st := St.fore 8 st rfl (by repeat (first | exact Rem.here | apply Rem.there))
        exact ⟨_, _, _, _, _, by assumption, by assumption, (st.fit (by repeat (first | exact trivial | refine And.intro rfl ?_))).subL (by repeat (first | exact List.Sublist.refl _ | apply List.Sublist.cons_cons | apply List.Sublist.cons | exact List.nil_sublist _))⟩
    clear st
    rintro _ _ ⟨_, _, _, _, _, _, _, st⟩
    (repeat' (first | (refine o_callV st rfl (hz _) rfl ?_; clear st; intro _ _ st) | (refine o_callV st rfl (toSpot_v _ _) rfl ?_; clear st; intro _ _ st) | (refine o_callToSheet st rfl hr hlen rfl ?_; clear st; intro _ _ _ st) | (refine o_callShY st rfl (specMove_yes _ _ _ _ hI _ _ _ _ _ b1I hq _ (RdS.of (st.heap (by repeat (first | exact At.here | apply At.there))) (spotsIn0p _ _)) hlen) rfl ?_; clear st; intro _ _ _ _ _ _ _ _ st) | (refine o_callShY st rfl (implMove_yes _ _ _ _ hI _ _ _ _ _ b1I hq _ (RdS.of (st.heap (by repeat (first | exact At.here | apply At.there))) (spotsIn0p _ _)) hlen) rfl ?_; clear st; intro _ _ _ _ _ _ _ _ st) | (refine o_callV st rfl (eqSheet_ok _ _ _ _ _ (by assumption) (by assumption) _ _ _ _ _ (RdS.of (st.heap (by repeat (first | exact At.here | apply At.there))) (spotsIn0p _ _)) (RdS.of (st.heap (by repeat (first | exact At.here | apply At.there))) (spotsIn0p _ _)) (by omega)) rfl ?_; clear st; intro _ _ st) | (refine o_callU st rfl (markSheet_ok _ _ _ _ _ _ _ _ (st.heap (by repeat (first | exact At.here | apply At.there))) (by omega) (by omega) (by omega)) (by repeat (first | exact Upd.here | apply Upd.there)) rfl ?_; clear st; intro _ _ st) | (refine o_callV st rfl (heldSheet_ok _ _ _ _ _ _ _ _ (st.heap (by repeat (first | exact At.here | apply At.there))) (by omega) (by omega) (by omega)) rfl ?_; clear st; intro _ _ st) | (refine c_seq ?_) | (refine c_region ?_) | (refine l_do ?_) | (refine l_doG st rfl rfl ?_) | (refine l_skipU st rfl rfl rfl ?_; clear st; intro _ st) | (refine l_skip st rfl rfl rfl rfl ?_; clear st; intro _ st) | (refine l_nil ?_) | (refine x_then ?_) | (refine x_thenR ?_) | (refine x_thenE ?_) | (refine wp_ret ?_) | (refine wp_skip ?_) | (refine c_condT st rfl ?_) | (refine c_condF st rfl ?_) | (refine o_move st rfl rfl ?_; clear st; intro _ st) | (refine o_assign st rfl rfl ?_; clear st; intro _ st) | (refine o_pickT st rfl rfl rfl ?_; clear st; intro _ st) | (refine o_pickF st rfl rfl rfl ?_; clear st; intro _ st) | (refine o_alloc st rfl ?_; clear st; intro _ _ _ st) | (refine o_boxA st rfl rfl ?_; clear st; intro _ _ _ st) | (refine o_boxS st rfl rfl rfl ?_; clear st; intro _ _ _ st) | (refine o_loadS st rfl (by repeat (first | exact At.here | apply At.there)) rfl rfl ?_; clear st; intro _ st) | (refine o_load3 st rfl (by repeat (first | exact At.here | apply At.there)) rfl ?_; clear st; intro _ st) | (refine o_load2 st rfl (by repeat (first | exact At.here | apply At.there)) rfl ?_; clear st; intro _ st) | (refine o_load4 st rfl (by repeat (first | exact At.here | apply At.there)) rfl ?_; clear st; intro _ st) | (refine o_storeS st rfl rfl rfl (by repeat (first | exact Upd.here | apply Upd.there)) rfl (by dsimp only [List.set]) ?_; clear st; intro _ _ st) | (refine o_storeW st rfl rfl (by repeat (first | exact Upd.here | apply Upd.there)) rfl rfl rfl ?_; clear st; intro _ _ st) | (refine o_extract st rfl rfl rfl ?_; clear st; intro _ st) | (refine o_neqB st rfl rfl rfl rfl ?_; clear st; intro _ st) | (refine o_notT st rfl rfl ?_; clear st; intro _ st) | (refine o_notF st rfl rfl ?_; clear st; intro _ st) | (refine o_lss st rfl rfl rfl ?_ ?_ <;> clear st <;> intro _ _ st <;> (try (exfalso; omega))) | (refine o_neqI st rfl rfl rfl ?_ ?_ <;> clear st <;> intro _ _ st <;> (try (exfalso; omega)))))
    replace st := St.fit (E' := [(1, _), (3, _), (5, _), (8, _), (9, _), (10, _)]) st (by repeat (first | exact trivial | refine And.intro rfl ?_))
    refine c_drawCA (F := (fun E L a' w' => ∃ (p0 c0 cap0 : Nat) (bs0 : List B3) (pad0 : List Value), IsSL bs0 (ss.set i.toNat b1s) ∧ bs0.length = (ss.set i.toNat b1s).length ∧ St w Try.f15.ntmps a' w' ((11, .pointer (some ⟨p0, 0, none⟩)) :: (12, .bool true) :: E) (⟨p0, true, .cells [.int .i64 (m), .int .i64 (n), .slice (some ⟨c0, 0, none⟩) bs0.length cap0].toArray 46 (0, 0)⟩ :: ⟨c0, true, oS bs0 pad0⟩ :: L))) (last := 10) hm_ (by decide +kernel) (by decide +kernel) st ?_ ?_
    · clear st; intro _ st
      refine h_val (i := 0) st (by repeat (first | exact List.Sublist.refl _ | apply List.Sublist.cons_cons | apply List.Sublist.cons | exact List.nil_sublist _)) (by decide +kernel) (by decide +kernel) rfl (by decide +kernel) rfl (by first | exact v_load3 st rfl (by repeat (first | exact At.here | apply At.there)) | exact v_loadS st rfl (by repeat (first | exact At.here | apply At.there)) rfl) ?_; clear st; intro _ st
      refine h_val (i := 1) st (by repeat (first | exact List.Sublist.refl _ | apply List.Sublist.cons_cons | apply List.Sublist.cons | exact List.nil_sublist _)) (by decide +kernel) (by decide +kernel) rfl (by decide +kernel) rfl (v_move st rfl) ?_; clear st; intro _ st
      refine h_val (i := 2) st (by repeat (first | exact List.Sublist.refl _ | apply List.Sublist.cons_cons | apply List.Sublist.cons | exact List.nil_sublist _)) (by decide +kernel) (by decide +kernel) rfl (by decide +kernel) rfl (by first | exact v_load3 st rfl (by repeat (first | exact At.here | apply At.there)) | exact v_loadS st rfl (by repeat (first | exact At.here | apply At.there)) rfl) ?_; clear st; intro _ st
      refine h_two (i := 3) (i' := 8) (by decide +kernel) rfl rfl ?_ ?_
      · skip
        refine o_callV st rfl (toSpot_v _ _) rfl ?_; clear st; intro _ _ st
        refine k_held st (by repeat (first | exact List.Sublist.refl _ | apply List.Sublist.cons_cons | apply List.Sublist.cons | exact List.nil_sublist _)) ?_
        refine h_two (i := 4) (i' := 8) (by decide +kernel) rfl rfl ?_ ?_
        · skip
          refine o_callShY st rfl (implMove_yes _ _ _ _ hI _ _ _ _ _ b1I hq _ (RdS.of (st.heap (by repeat (first | exact At.here | apply At.there))) (spotsIn0p _ _)) hlen) rfl ?_; clear st; intro _ _ _ _ _ _ _ _ st
          refine k_held st (by repeat (first | exact List.Sublist.refl _ | apply List.Sublist.cons_cons | apply List.Sublist.cons | exact List.nil_sublist _)) ?_
          refine h_val (i := 5) st (by repeat (first | exact List.Sublist.refl _ | apply List.Sublist.cons_cons | apply List.Sublist.cons | exact List.nil_sublist _)) (by decide +kernel) (by decide +kernel) rfl (by decide +kernel) rfl (v_move st rfl) ?_; clear st; intro _ st
          refine h_val (i := 6) st (by repeat (first | exact List.Sublist.refl _ | apply List.Sublist.cons_cons | apply List.Sublist.cons | exact List.nil_sublist _)) (by decide +kernel) (by decide +kernel) rfl (by decide +kernel) rfl (v_extract st rfl rfl) ?_; clear st; intro _ st
          refine h_val (i := 7) st (by repeat (first | exact List.Sublist.refl _ | apply List.Sublist.cons_cons | apply List.Sublist.cons | exact List.nil_sublist _)) (by decide +kernel) (by decide +kernel) rfl (by decide +kernel) rfl (v_extract st rfl rfl) ?_; clear st; intro _ st
          refine h_one (i := 8) (by decide +kernel) rfl ?_
          refine o_alloc st rfl ?_; clear st; intro _ _ _ st
          refine k_held st (by repeat (first | exact List.Sublist.refl _ | apply List.Sublist.cons_cons | apply List.Sublist.cons | exact List.nil_sublist _)) ?_
          refine h_one (i := 9) (by decide +kernel) rfl ?_
          (first | (refine o_storeS st rfl rfl rfl (by repeat (first | exact Upd.here | apply Upd.there)) rfl (by dsimp only [List.set]) ?_; clear st; intro _ _ st) | (refine o_storeW st rfl rfl (by repeat (first | exact Upd.here | apply Upd.there)) rfl rfl rfl ?_; clear st; intro _ _ st))
          refine k_held st (by repeat (first | exact List.Sublist.refl _ | apply List.Sublist.cons_cons | apply List.Sublist.cons | exact List.nil_sublist _)) ?_
          refine h_one (i := 10) (by decide +kernel) rfl ?_
          (first | (refine o_assign st rfl rfl ?_; clear st; intro _ st))
          refine k_last ?_
          refine h_done (by decide +kernel) ?_
          refine ⟨rfl, ?_⟩
          have st := St.fore 11 st rfl (by repeat (first | exact Rem.here | apply Rem.there))
          exact ⟨_, _, _, _, _, by assumption, by assumption, (st.fit (by repeat (first | exact trivial | refine And.intro rfl ?_))).subL (by repeat (first | exact List.Sublist.refl _ | apply List.Sublist.cons_cons | apply List.Sublist.cons | exact List.nil_sublist _))⟩
        · skip
          refine o_alloc st rfl ?_; clear st; intro _ _ _ st
          refine k_held st (by repeat (first | exact List.Sublist.refl _ | apply List.Sublist.cons_cons | apply List.Sublist.cons | exact List.nil_sublist _)) ?_
          refine h_one (i := 4) (by decide +kernel) rfl ?_
          refine o_callShY st rfl (implMove_yes _ _ _ _ hI _ _ _ _ _ b1I hq _ (RdS.of (st.heap (by repeat (first | exact At.here | apply At.there))) (spotsIn0p _ _)) hlen) rfl ?_; clear st; intro _ _ _ _ _ _ _ _ st
          refine k_held st (by repeat (first | exact List.Sublist.refl _ | apply List.Sublist.cons_cons | apply List.Sublist.cons | exact List.nil_sublist _)) ?_
          refine h_val (i := 5) st (by repeat (first | exact List.Sublist.refl _ | apply List.Sublist.cons_cons | apply List.Sublist.cons | exact List.nil_sublist _)) (by decide +kernel) (by decide +kernel) rfl (by decide +kernel) rfl (v_move st rfl) ?_; clear st; intro _ st
          refine h_val (i := 6) st (by repeat (first | exact List.Sublist.refl _ | apply List.Sublist.cons_cons | apply List.Sublist.cons | exact List.nil_sublist _)) (by decide +kernel) (by decide +kernel) rfl (by decide +kernel) rfl (v_extract st rfl rfl) ?_; clear st; intro _ st
          refine h_val (i := 7) st (by repeat (first | exact List.Sublist.refl _ | apply List.Sublist.cons_cons | apply List.Sublist.cons | exact List.nil_sublist _)) (by decide +kernel) (by decide +kernel) rfl (by decide +kernel) rfl (v_extract st rfl rfl) ?_; clear st; intro _ st
          refine h_one (i := 9) (by decide +kernel) rfl ?_
          (first | (refine o_storeS st rfl rfl rfl (by repeat (first | exact Upd.here | apply Upd.there)) rfl (by dsimp only [List.set]) ?_; clear st; intro _ _ st) | (refine o_storeW st rfl rfl (by repeat (first | exact Upd.here | apply Upd.there)) rfl rfl rfl ?_; clear st; intro _ _ st))
          refine k_held st (by repeat (first | exact List.Sublist.refl _ | apply List.Sublist.cons_cons | apply List.Sublist.cons | exact List.nil_sublist _)) ?_
          refine h_one (i := 10) (by decide +kernel) rfl ?_
          (first | (refine o_assign st rfl rfl ?_; clear st; intro _ st))
          refine k_last ?_
          refine h_done (by decide +kernel) ?_
          refine ⟨rfl, ?_⟩
          have st := St.fore 11 st rfl (by repeat (first | exact Rem.here | apply Rem.there))
          exact ⟨_, _, _, _, _, by assumption, by assumption, (st.fit (by repeat (first | exact trivial | refine And.intro rfl ?_))).subL (by repeat (first | exact List.Sublist.refl _ | apply List.Sublist.cons_cons | apply List.Sublist.cons | exact List.nil_sublist _))⟩
      · skip
        refine o_alloc st rfl ?_; clear st; intro _ _ _ st
        refine k_held st (by repeat (first | exact List.Sublist.refl _ | apply List.Sublist.cons_cons | apply List.Sublist.cons | exact List.nil_sublist _)) ?_
        refine h_one (i := 3) (by decide +kernel) rfl ?_
        refine o_callV st rfl (toSpot_v _ _) rfl ?_; clear st; intro _ _ st
        refine k_held st (by repeat (first | exact List.Sublist.refl _ | apply List.Sublist.cons_cons | apply List.Sublist.cons | exact List.nil_sublist _)) ?_
        refine h_one (i := 4) (by decide +kernel) rfl ?_
        refine o_callShY st rfl (implMove_yes _ _ _ _ hI _ _ _ _ _ b1I hq _ (RdS.of (st.heap (by repeat (first | exact At.here | apply At.there))) (spotsIn0p _ _)) hlen) rfl ?_; clear st; intro _ _ _ _ _ _ _ _ st
        refine k_held st (by repeat (first | exact List.Sublist.refl _ | apply List.Sublist.cons_cons | apply List.Sublist.cons | exact List.nil_sublist _)) ?_
        refine h_val (i := 5) st (by repeat (first | exact List.Sublist.refl _ | apply List.Sublist.cons_cons | apply List.Sublist.cons | exact List.nil_sublist _)) (by decide +kernel) (by decide +kernel) rfl (by decide +kernel) rfl (v_move st rfl) ?_; clear st; intro _ st
        refine h_val (i := 6) st (by repeat (first | exact List.Sublist.refl _ | apply List.Sublist.cons_cons | apply List.Sublist.cons | exact List.nil_sublist _)) (by decide +kernel) (by decide +kernel) rfl (by decide +kernel) rfl (v_extract st rfl rfl) ?_; clear st; intro _ st
        refine h_val (i := 7) st (by repeat (first | exact List.Sublist.refl _ | apply List.Sublist.cons_cons | apply List.Sublist.cons | exact List.nil_sublist _)) (by decide +kernel) (by decide +kernel) rfl (by decide +kernel) rfl (v_extract st rfl rfl) ?_; clear st; intro _ st
        refine h_one (i := 9) (by decide +kernel) rfl ?_
        (first | (refine o_storeS st rfl rfl rfl (by repeat (first | exact Upd.here | apply Upd.there)) rfl (by dsimp only [List.set]) ?_; clear st; intro _ _ st) | (refine o_storeW st rfl rfl (by repeat (first | exact Upd.here | apply Upd.there)) rfl rfl rfl ?_; clear st; intro _ _ st))
        refine k_held st (by repeat (first | exact List.Sublist.refl _ | apply List.Sublist.cons_cons | apply List.Sublist.cons | exact List.nil_sublist _)) ?_
        refine h_one (i := 10) (by decide +kernel) rfl ?_
        (first | (refine o_assign st rfl rfl ?_; clear st; intro _ st))
        refine k_last ?_
        refine h_done (by decide +kernel) ?_
        refine ⟨rfl, ?_⟩
        have st := St.fore 11 st rfl (by repeat (first | exact Rem.here | apply Rem.there))
        exact ⟨_, _, _, _, _, by assumption, by assumption, (st.fit (by repeat (first | exact trivial | refine And.intro rfl ?_))).subL (by repeat (first | exact List.Sublist.refl _ | apply List.Sublist.cons_cons | apply List.Sublist.cons | exact List.nil_sublist _))⟩
    clear st
    rintro _ _ ⟨_, _, _, _, _, _, _, st⟩
    (repeat' (first | (refine o_callV st rfl (hz _) rfl ?_; clear st; intro _ _ st) | (refine o_callV st rfl (toSpot_v _ _) rfl ?_; clear st; intro _ _ st) | (refine o_callToSheet st rfl hr hlen rfl ?_; clear st; intro _ _ _ st) | (refine o_callShY st rfl (specMove_yes _ _ _ _ hI _ _ _ _ _ b1I hq _ (RdS.of (st.heap (by repeat (first | exact At.here | apply At.there))) (spotsIn0p _ _)) hlen) rfl ?_; clear st; intro _ _ _ _ _ _ _ _ st) | (refine o_callShY st rfl (implMove_yes _ _ _ _ hI _ _ _ _ _ b1I hq _ (RdS.of (st.heap (by repeat (first | exact At.here | apply At.there))) (spotsIn0p _ _)) hlen) rfl ?_; clear st; intro _ _ _ _ _ _ _ _ st) | (refine o_callV st rfl (eqSheet_ok _ _ _ _ _ (by assumption) (by assumption) _ _ _ _ _ (RdS.of (st.heap (by repeat (first | exact At.here | apply At.there))) (spotsIn0p _ _)) (RdS.of (st.heap (by repeat (first | exact At.here | apply At.there))) (spotsIn0p _ _)) (by omega)) rfl ?_; clear st; intro _ _ st) | (refine o_callU st rfl (markSheet_ok _ _ _ _ _ _ _ _ (st.heap (by repeat (first | exact At.here | apply At.there))) (by omega) (by omega) (by omega)) (by repeat (first | exact Upd.here | apply Upd.there)) rfl ?_; clear st; intro _ _ st) | (refine o_callV st rfl (heldSheet_ok _ _ _ _ _ _ _ _ (st.heap (by repeat (first | exact At.here | apply At.there))) (by omega) (by omega) (by omega)) rfl ?_; clear st; intro _ _ st) | (refine c_seq ?_) | (refine c_region ?_) | (refine l_do ?_) | (refine l_doG st rfl rfl ?_) | (refine l_skipU st rfl rfl rfl ?_; clear st; intro _ st) | (refine l_skip st rfl rfl rfl rfl ?_; clear st; intro _ st) | (refine l_nil ?_) | (refine x_then ?_) | (refine x_thenR ?_) | (refine x_thenE ?_) | (refine wp_ret ?_) | (refine wp_skip ?_) | (refine c_condT st rfl ?_) | (refine c_condF st rfl ?_) | (refine o_move st rfl rfl ?_; clear st; intro _ st) | (refine o_assign st rfl rfl ?_; clear st; intro _ st) | (refine o_pickT st rfl rfl rfl ?_; clear st; intro _ st) | (refine o_pickF st rfl rfl rfl ?_; clear st; intro _ st) | (refine o_alloc st rfl ?_; clear st; intro _ _ _ st) | (refine o_boxA st rfl rfl ?_; clear st; intro _ _ _ st) | (refine o_boxS st rfl rfl rfl ?_; clear st; intro _ _ _ st) | (refine o_loadS st rfl (by repeat (first | exact At.here | apply At.there)) rfl rfl ?_; clear st; intro _ st) | (refine o_load3 st rfl (by repeat (first | exact At.here | apply At.there)) rfl ?_; clear st; intro _ st) | (refine o_load2 st rfl (by repeat (first | exact At.here | apply At.there)) rfl ?_; clear st; intro _ st) | (refine o_load4 st rfl (by repeat (first | exact At.here | apply At.there)) rfl ?_; clear st; intro _ st) | (refine o_storeS st rfl rfl rfl (by repeat (first | exact Upd.here | apply Upd.there)) rfl (by dsimp only [List.set]) ?_; clear st; intro _ _ st) | (refine o_storeW st rfl rfl (by repeat (first | exact Upd.here | apply Upd.there)) rfl rfl rfl ?_; clear st; intro _ _ st) | (refine o_extract st rfl rfl rfl ?_; clear st; intro _ st) | (refine o_neqB st rfl rfl rfl rfl ?_; clear st; intro _ st) | (refine o_notT st rfl rfl ?_; clear st; intro _ st) | (refine o_notF st rfl rfl ?_; clear st; intro _ st) | (refine o_lss st rfl rfl rfl ?_ ?_ <;> clear st <;> intro _ _ st <;> (try (exfalso; omega))) | (refine o_neqI st rfl rfl rfl ?_ ?_ <;> clear st <;> intro _ _ st <;> (try (exfalso; omega)))))
    replace st := St.fit (E' := [(1, _), (3, _), (5, _), (8, _), (9, _), (10, _), (11, _), (12, _)]) st (by repeat (first | exact trivial | refine And.intro rfl ?_))
    refine c_drawA (last := 5) hm_ (by decide +kernel) (by decide +kernel) st ?_; clear st; intro _ st
    refine h_val (i := 0) st (by repeat (first | exact List.Sublist.refl _ | apply List.Sublist.cons_cons | apply List.Sublist.cons | exact List.nil_sublist _)) (by decide +kernel) (by decide +kernel) rfl (by decide +kernel) rfl (by first | exact v_load3 st rfl (by repeat (first | exact At.here | apply At.there)) | exact v_loadS st rfl (by repeat (first | exact At.here | apply At.there)) rfl) ?_; clear st; intro _ st
    refine h_val (i := 1) st (by repeat (first | exact List.Sublist.refl _ | apply List.Sublist.cons_cons | apply List.Sublist.cons | exact List.nil_sublist _)) (by decide +kernel) (by decide +kernel) rfl (by decide +kernel) rfl (by first | exact v_load3 st rfl (by repeat (first | exact At.here | apply At.there)) | exact v_loadS st rfl (by repeat (first | exact At.here | apply At.there)) rfl) ?_; clear st; intro _ st
    refine h_one (i := 2) (by decide +kernel) rfl ?_
    refine o_callToSheet st rfl hr hlen rfl ?_; clear st; intro _ _ _ st
    refine k_held st (by repeat (first | exact List.Sublist.refl _ | apply List.Sublist.cons_cons | apply List.Sublist.cons | exact List.nil_sublist _)) ?_
    refine h_one (i := 3) (by decide +kernel) rfl ?_
    first | (refine o_callV st rfl (eqSheet_ok _ _ _ _ _ (by assumption) (by assumption) _ _ _ _ _ (RdS.of (st.heap (by repeat (first | exact At.here | apply At.there))) (spotsIn0p _ _)) (RdS.of (st.heap (by repeat (first | exact At.here | apply At.there))) (spotsIn0p _ _)) (by omega)) rfl ?_; clear st; intro _ _ st) | (refine o_callV st rfl (eqSheet_zero _) rfl ?_; clear st; intro _ _ st)
    refine k_held st (by repeat (first | exact List.Sublist.refl _ | apply List.Sublist.cons_cons | apply List.Sublist.cons | exact List.nil_sublist _)) ?_
    refine h_val (i := 4) st (by repeat (first | exact List.Sublist.refl _ | apply List.Sublist.cons_cons | apply List.Sublist.cons | exact List.nil_sublist _)) (by decide +kernel) (by decide +kernel) rfl (by decide +kernel) rfl (v_not st rfl) ?_; clear st; intro _ st
    refine h_done (by decide +kernel) ?_
    (repeat' (first | (refine o_callV st rfl (hz _) rfl ?_; clear st; intro _ _ st) | (refine o_callV st rfl (toSpot_v _ _) rfl ?_; clear st; intro _ _ st) | (refine o_callToSheet st rfl hr hlen rfl ?_; clear st; intro _ _ _ st) | (refine o_callShY st rfl (specMove_yes _ _ _ _ hI _ _ _ _ _ b1I hq _ (RdS.of (st.heap (by repeat (first | exact At.here | apply At.there))) (spotsIn0p _ _)) hlen) rfl ?_; clear st; intro _ _ _ _ _ _ _ _ st) | (refine o_callShY st rfl (implMove_yes _ _ _ _ hI _ _ _ _ _ b1I hq _ (RdS.of (st.heap (by repeat (first | exact At.here | apply At.there))) (spotsIn0p _ _)) hlen) rfl ?_; clear st; intro _ _ _ _ _ _ _ _ st) | (refine o_callV st rfl (eqSheet_ok _ _ _ _ _ (by assumption) (by assumption) _ _ _ _ _ (RdS.of (st.heap (by repeat (first | exact At.here | apply At.there))) (spotsIn0p _ _)) (RdS.of (st.heap (by repeat (first | exact At.here | apply At.there))) (spotsIn0p _ _)) (by omega)) rfl ?_; clear st; intro _ _ st) | (refine o_callU st rfl (markSheet_ok _ _ _ _ _ _ _ _ (st.heap (by repeat (first | exact At.here | apply At.there))) (by omega) (by omega) (by omega)) (by repeat (first | exact Upd.here | apply Upd.there)) rfl ?_; clear st; intro _ _ st) | (refine o_callV st rfl (heldSheet_ok _ _ _ _ _ _ _ _ (st.heap (by repeat (first | exact At.here | apply At.there))) (by omega) (by omega) (by omega)) rfl ?_; clear st; intro _ _ st) | (refine c_seq ?_) | (refine c_region ?_) | (refine l_do ?_) | (refine l_doG st rfl rfl ?_) | (refine l_skipU st rfl rfl rfl ?_; clear st; intro _ st) | (refine l_skip st rfl rfl rfl rfl ?_; clear st; intro _ st) | (refine l_nil ?_) | (refine x_then ?_) | (refine x_thenR ?_) | (refine x_thenE ?_) | (refine wp_ret ?_) | (refine wp_skip ?_) | (refine c_condT st rfl ?_) | (refine c_condF st rfl ?_) | (refine o_move st rfl rfl ?_; clear st; intro _ st) | (refine o_assign st rfl rfl ?_; clear st; intro _ st) | (refine o_pickT st rfl rfl rfl ?_; clear st; intro _ st) | (refine o_pickF st rfl rfl rfl ?_; clear st; intro _ st) | (refine o_alloc st rfl ?_; clear st; intro _ _ _ st) | (refine o_boxA st rfl rfl ?_; clear st; intro _ _ _ st) | (refine o_boxS st rfl rfl rfl ?_; clear st; intro _ _ _ st) | (refine o_loadS st rfl (by repeat (first | exact At.here | apply At.there)) rfl rfl ?_; clear st; intro _ st) | (refine o_load3 st rfl (by repeat (first | exact At.here | apply At.there)) rfl ?_; clear st; intro _ st) | (refine o_load2 st rfl (by repeat (first | exact At.here | apply At.there)) rfl ?_; clear st; intro _ st) | (refine o_load4 st rfl (by repeat (first | exact At.here | apply At.there)) rfl ?_; clear st; intro _ st) | (refine o_storeS st rfl rfl rfl (by repeat (first | exact Upd.here | apply Upd.there)) rfl (by dsimp only [List.set]) ?_; clear st; intro _ _ st) | (refine o_storeW st rfl rfl (by repeat (first | exact Upd.here | apply Upd.there)) rfl rfl rfl ?_; clear st; intro _ _ st) | (refine o_extract st rfl rfl rfl ?_; clear st; intro _ st) | (refine o_neqB st rfl rfl rfl rfl ?_; clear st; intro _ st) | (refine o_notT st rfl rfl ?_; clear st; intro _ st) | (refine o_notF st rfl rfl ?_; clear st; intro _ st) | (refine o_lss st rfl rfl rfl ?_ ?_ <;> clear st <;> intro _ _ st <;> (try (exfalso; omega))) | (refine o_neqI st rfl rfl rfl ?_ ?_ <;> clear st <;> intro _ _ st <;> (try (exfalso; omega)))))
    replace st := St.fit (E' := [(1, _), (3, _), (5, _), (8, _), (9, _), (11, _), (14, _), (15, _)]) st (by repeat (first | exact trivial | refine And.intro rfl ?_))
    refine c_drawCA (F := (fun E L a' w' => ∃ (p0 c0 cap0 : Nat) (bs0 : List B3) (pad0 : List Value), IsSL bs0 (ss.set i.toNat b1s) ∧ bs0.length = (ss.set i.toNat b1s).length ∧ St w Try.f15.ntmps a' w' ((16, .pointer (some ⟨p0, 0, none⟩)) :: (17, .bool true) :: E) (⟨p0, true, .cells [.int .i64 (m), .int .i64 (n), .slice (some ⟨c0, 0, none⟩) bs0.length cap0].toArray 46 (0, 0)⟩ :: ⟨c0, true, oS bs0 pad0⟩ :: L))) (last := 11) hm_ (by decide +kernel) (by decide +kernel) st ?_ ?_
    · clear st; intro _ st
      refine h_val (i := 0) st (by repeat (first | exact List.Sublist.refl _ | apply List.Sublist.cons_cons | apply List.Sublist.cons | exact List.nil_sublist _)) (by decide +kernel) (by decide +kernel) rfl (by decide +kernel) rfl (by first | exact v_load3 st rfl (by repeat (first | exact At.here | apply At.there)) | exact v_loadS st rfl (by repeat (first | exact At.here | apply At.there)) rfl) ?_; clear st; intro _ st
      refine h_val (i := 2) st (by repeat (first | exact List.Sublist.refl _ | apply List.Sublist.cons_cons | apply List.Sublist.cons | exact List.nil_sublist _)) (by decide +kernel) (by decide +kernel) rfl (by decide +kernel) rfl (v_move st rfl) ?_; clear st; intro _ st
      refine h_val (i := 3) st (by repeat (first | exact List.Sublist.refl _ | apply List.Sublist.cons_cons | apply List.Sublist.cons | exact List.nil_sublist _)) (by decide +kernel) (by decide +kernel) rfl (by decide +kernel) rfl (by first | exact v_load3 st rfl (by repeat (first | exact At.here | apply At.there)) | exact v_loadS st rfl (by repeat (first | exact At.here | apply At.there)) rfl) ?_; clear st; intro _ st
      refine h_two (i := 1) (i' := 9) (by decide +kernel) rfl rfl ?_ ?_
      · skip
        refine o_callToSheet st rfl hr hlen rfl ?_; clear st; intro _ _ _ st
        refine k_held st (by repeat (first | exact List.Sublist.refl _ | apply List.Sublist.cons_cons | apply List.Sublist.cons | exact List.nil_sublist _)) ?_
        refine h_two (i := 4) (i' := 9) (by decide +kernel) rfl rfl ?_ ?_
        · skip
          refine o_callV st rfl (toSpot_v _ _) rfl ?_; clear st; intro _ _ st
          refine k_held st (by repeat (first | exact List.Sublist.refl _ | apply List.Sublist.cons_cons | apply List.Sublist.cons | exact List.nil_sublist _)) ?_
          refine h_two (i := 5) (i' := 9) (by decide +kernel) rfl rfl ?_ ?_
          · skip
            refine o_callShY st rfl (implMove_yes _ _ _ _ hI _ _ _ _ _ b1I hq _ (RdS.of (st.heap (by repeat (first | exact At.here | apply At.there))) (spotsIn0p _ _)) hlen) rfl ?_; clear st; intro _ _ _ _ _ _ _ _ st
            refine k_held st (by repeat (first | exact List.Sublist.refl _ | apply List.Sublist.cons_cons | apply List.Sublist.cons | exact List.nil_sublist _)) ?_
            refine h_val (i := 6) st (by repeat (first | exact List.Sublist.refl _ | apply List.Sublist.cons_cons | apply List.Sublist.cons | exact List.nil_sublist _)) (by decide +kernel) (by decide +kernel) rfl (by decide +kernel) rfl (v_move st rfl) ?_; clear st; intro _ st
            refine h_val (i := 7) st (by repeat (first | exact List.Sublist.refl _ | apply List.Sublist.cons_cons | apply List.Sublist.cons | exact List.nil_sublist _)) (by decide +kernel) (by decide +kernel) rfl (by decide +kernel) rfl (v_extract st rfl rfl) ?_; clear st; intro _ st
            refine h_val (i := 8) st (by repeat (first | exact List.Sublist.refl _ | apply List.Sublist.cons_cons | apply List.Sublist.cons | exact List.nil_sublist _)) (by decide +kernel) (by decide +kernel) rfl (by decide +kernel) rfl (v_extract st rfl rfl) ?_; clear st; intro _ st
            refine h_one (i := 9) (by decide +kernel) rfl ?_
            refine o_alloc st rfl ?_; clear st; intro _ _ _ st
            refine k_held st (by repeat (first | exact List.Sublist.refl _ | apply List.Sublist.cons_cons | apply List.Sublist.cons | exact List.nil_sublist _)) ?_
            refine h_one (i := 10) (by decide +kernel) rfl ?_
            (first | (refine o_storeS st rfl rfl rfl (by repeat (first | exact Upd.here | apply Upd.there)) rfl (by dsimp only [List.set]) ?_; clear st; intro _ _ st) | (refine o_storeW st rfl rfl (by repeat (first | exact Upd.here | apply Upd.there)) rfl rfl rfl ?_; clear st; intro _ _ st))
            refine k_held st (by repeat (first | exact List.Sublist.refl _ | apply List.Sublist.cons_cons | apply List.Sublist.cons | exact List.nil_sublist _)) ?_
            refine h_one (i := 11) (by decide +kernel) rfl ?_
            (first | (refine o_assign st rfl rfl ?_; clear st; intro _ st))
            refine k_last ?_
            refine h_done (by decide +kernel) ?_
            refine ⟨rfl, ?_⟩
            have st := St.fore 16 st rfl (by repeat (first | exact Rem.here | apply Rem.there))
            exact ⟨_, _, _, _, _, by assumption, by assumption, (st.fit (by repeat (first | exact trivial | refine And.intro rfl ?_))).subL (by repeat (first | exact List.Sublist.refl _ | apply List.Sublist.cons_cons | apply List.Sublist.cons | exact List.nil_sublist _))⟩
          · skip
            refine o_alloc st rfl ?_; clear st; intro _ _ _ st
            refine k_held st (by repeat (first | exact List.Sublist.refl _ | apply List.Sublist.cons_cons | apply List.Sublist.cons | exact List.nil_sublist _)) ?_
            refine h_one (i := 5) (by decide +kernel) rfl ?_
            refine o_callShY st rfl (implMove_yes _ _ _ _ hI _ _ _ _ _ b1I hq _ (RdS.of (st.heap (by repeat (first | exact At.here | apply At.there))) (spotsIn0p _ _)) hlen) rfl ?_; clear st; intro _ _ _ _ _ _ _ _ st
            refine k_held st (by repeat (first | exact List.Sublist.refl _ | apply List.Sublist.cons_cons | apply List.Sublist.cons | exact List.nil_sublist _)) ?_
            refine h_val (i := 6) st (by repeat (first | exact List.Sublist.refl _ | apply List.Sublist.cons_cons | apply List.Sublist.cons | exact List.nil_sublist _)) (by decide +kernel) (by decide +kernel) rfl (by decide +kernel) rfl (v_move st rfl) ?_; clear st; intro _ st
            refine h_val (i := 7) st (by repeat (first | exact List.Sublist.refl _ | apply List.Sublist.cons_cons | apply List.Sublist.cons | exact List.nil_sublist _)) (by decide +kernel) (by decide +kernel) rfl (by decide +kernel) rfl (v_extract st rfl rfl) ?_; clear st; intro _ st
            refine h_val (i := 8) st (by repeat (first | exact List.Sublist.refl _ | apply List.Sublist.cons_cons | apply List.Sublist.cons | exact List.nil_sublist _)) (by decide +kernel) (by decide +kernel) rfl (by decide +kernel) rfl (v_extract st rfl rfl) ?_; clear st; intro _ st
            refine h_one (i := 10) (by decide +kernel) rfl ?_
            (first | (refine o_storeS st rfl rfl rfl (by repeat (first | exact Upd.here | apply Upd.there)) rfl (by dsimp only [List.set]) ?_; clear st; intro _ _ st) | (refine o_storeW st rfl rfl (by repeat (first | exact Upd.here | apply Upd.there)) rfl rfl rfl ?_; clear st; intro _ _ st))
            refine k_held st (by repeat (first | exact List.Sublist.refl _ | apply List.Sublist.cons_cons | apply List.Sublist.cons | exact List.nil_sublist _)) ?_
            refine h_one (i := 11) (by decide +kernel) rfl ?_
            (first | (refine o_assign st rfl rfl ?_; clear st; intro _ st))
            refine k_last ?_
            refine h_done (by decide +kernel) ?_
            refine ⟨rfl, ?_⟩
            have st := St.fore 16 st rfl (by repeat (first | exact Rem.here | apply Rem.there))
            exact ⟨_, _, _, _, _, by assumption, by assumption, (st.fit (by repeat (first | exact trivial | refine And.intro rfl ?_))).subL (by repeat (first | exact List.Sublist.refl _ | apply List.Sublist.cons_cons | apply List.Sublist.cons | exact List.nil_sublist _))⟩
        · skip
          refine o_alloc st rfl ?_; clear st; intro _ _ _ st
          refine k_held st (by repeat (first | exact List.Sublist.refl _ | apply List.Sublist.cons_cons | apply List.Sublist.cons | exact List.nil_sublist _)) ?_
          refine h_one (i := 4) (by decide +kernel) rfl ?_
          refine o_callV st rfl (toSpot_v _ _) rfl ?_; clear st; intro _ _ st
          refine k_held st (by repeat (first | exact List.Sublist.refl _ | apply List.Sublist.cons_cons | apply List.Sublist.cons | exact List.nil_sublist _)) ?_
          refine h_one (i := 5) (by decide +kernel) rfl ?_
          refine o_callShY st rfl (implMove_yes _ _ _ _ hI _ _ _ _ _ b1I hq _ (RdS.of (st.heap (by repeat (first | exact At.here | apply At.there))) (spotsIn0p _ _)) hlen) rfl ?_; clear st; intro _ _ _ _ _ _ _ _ st
          refine k_held st (by repeat (first | exact List.Sublist.refl _ | apply List.Sublist.cons_cons | apply List.Sublist.cons | exact List.nil_sublist _)) ?_
          refine h_val (i := 6) st (by repeat (first | exact List.Sublist.refl _ | apply List.Sublist.cons_cons | apply List.Sublist.cons | exact List.nil_sublist _)) (by decide +kernel) (by decide +kernel) rfl (by decide +kernel) rfl (v_move st rfl) ?_; clear st; intro _ st
          refine h_val (i := 7) st (by repeat (first | exact List.Sublist.refl _ | apply List.Sublist.cons_cons | apply List.Sublist.cons | exact List.nil_sublist _)) (by decide +kernel) (by decide +kernel) rfl (by decide +kernel) rfl (v_extract st rfl rfl) ?_; clear st; intro _ st
          refine h_val (i := 8) st (by repeat (first | exact List.Sublist.refl _ | apply List.Sublist.cons_cons | apply List.Sublist.cons | exact List.nil_sublist _)) (by decide +kernel) (by decide +kernel) rfl (by decide +kernel) rfl (v_extract st rfl rfl) ?_; clear st; intro _ st
          refine h_one (i := 10) (by decide +kernel) rfl ?_
          (first | (refine o_storeS st rfl rfl rfl (by repeat (first | exact Upd.here | apply Upd.there)) rfl (by dsimp only [List.set]) ?_; clear st; intro _ _ st) | (refine o_storeW st rfl rfl (by repeat (first | exact Upd.here | apply Upd.there)) rfl rfl rfl ?_; clear st; intro _ _ st))
          refine k_held st (by repeat (first | exact List.Sublist.refl _ | apply List.Sublist.cons_cons | apply List.Sublist.cons | exact List.nil_sublist _)) ?_
          refine h_one (i := 11) (by decide +kernel) rfl ?_
          (first | (refine o_assign st rfl rfl ?_; clear st; intro _ st))
          refine k_last ?_
          refine h_done (by decide +kernel) ?_
          refine ⟨rfl, ?_⟩
          have st := St.fore 16 st rfl (by repeat (first | exact Rem.here | apply Rem.there))
          exact ⟨_, _, _, _, _, by assumption, by assumption, (st.fit (by repeat (first | exact trivial | refine And.intro rfl ?_))).subL (by repeat (first | exact List.Sublist.refl _ | apply List.Sublist.cons_cons | apply List.Sublist.cons | exact List.nil_sublist _))⟩
      · skip
        refine o_alloc st rfl ?_; clear st; intro _ _ _ st
        refine k_held st (by repeat (first | exact List.Sublist.refl _ | apply List.Sublist.cons_cons | apply List.Sublist.cons | exact List.nil_sublist _)) ?_
        refine h_one (i := 1) (by decide +kernel) rfl ?_
        refine o_callToSheet st rfl hr hlen rfl ?_; clear st; intro _ _ _ st
        refine k_held st (by repeat (first | exact List.Sublist.refl _ | apply List.Sublist.cons_cons | apply List.Sublist.cons | exact List.nil_sublist _)) ?_
        refine h_one (i := 4) (by decide +kernel) rfl ?_
        refine o_callV st rfl (toSpot_v _ _) rfl ?_; clear st; intro _ _ st
        refine k_held st (by repeat (first | exact List.Sublist.refl _ | apply List.Sublist.cons_cons | apply List.Sublist.cons | exact List.nil_sublist _)) ?_
        refine h_one (i := 5) (by decide +kernel) rfl ?_
        refine o_callShY st rfl (implMove_yes _ _ _ _ hI _ _ _ _ _ b1I hq _ (RdS.of (st.heap (by repeat (first | exact At.here | apply At.there))) (spotsIn0p _ _)) hlen) rfl ?_; clear st; intro _ _ _ _ _ _ _ _ st
        refine k_held st (by repeat (first | exact List.Sublist.refl _ | apply List.Sublist.cons_cons | apply List.Sublist.cons | exact List.nil_sublist _)) ?_
        refine h_val (i := 6) st (by repeat (first | exact List.Sublist.refl _ | apply List.Sublist.cons_cons | apply List.Sublist.cons | exact List.nil_sublist _)) (by decide +kernel) (by decide +kernel) rfl (by decide +kernel) rfl (v_move st rfl) ?_; clear st; intro _ st
        refine h_val (i := 7) st (by repeat (first | exact List.Sublist.refl _ | apply List.Sublist.cons_cons | apply List.Sublist.cons | exact List.nil_sublist _)) (by decide +kernel) (by decide +kernel) rfl (by decide +kernel) rfl (v_extract st rfl rfl) ?_; clear st; intro _ st
        refine h_val (i := 8) st (by repeat (first | exact List.Sublist.refl _ | apply List.Sublist.cons_cons | apply List.Sublist.cons | exact List.nil_sublist _)) (by decide +kernel) (by decide +kernel) rfl (by decide +kernel) rfl (v_extract st rfl rfl) ?_; clear st; intro _ st
        refine h_one (i := 10) (by decide +kernel) rfl ?_
        (first | (refine o_storeS st rfl rfl rfl (by repeat (first | exact Upd.here | apply Upd.there)) rfl (by dsimp only [List.set]) ?_; clear st; intro _ _ st) | (refine o_storeW st rfl rfl (by repeat (first | exact Upd.here | apply Upd.there)) rfl rfl rfl ?_; clear st; intro _ _ st))
        refine k_held st (by repeat (first | exact List.Sublist.refl _ | apply List.Sublist.cons_cons | apply List.Sublist.cons | exact List.nil_sublist _)) ?_
        refine h_one (i := 11) (by decide +kernel) rfl ?_
        (first | (refine o_assign st rfl rfl ?_; clear st; intro _ st))
        refine k_last ?_
        refine h_done (by decide +kernel) ?_
        refine ⟨rfl, ?_⟩
        have st := St.fore 16 st rfl (by repeat (first | exact Rem.here | apply Rem.there))
        exact ⟨_, _, _, _, _, by assumption, by assumption, (st.fit (by repeat (first | exact trivial | refine And.intro rfl ?_))).subL (by repeat (first | exact List.Sublist.refl _ | apply List.Sublist.cons_cons | apply List.Sublist.cons | exact List.nil_sublist _))⟩
    clear st
    rintro _ _ ⟨_, _, _, _, _, _, _, st⟩
    (repeat' (first | (refine o_callV st rfl (hz _) rfl ?_; clear st; intro _ _ st) | (refine o_callV st rfl (toSpot_v _ _) rfl ?_; clear st; intro _ _ st) | (refine o_callToSheet st rfl hr hlen rfl ?_; clear st; intro _ _ _ st) | (refine o_callShY st rfl (specMove_yes _ _ _ _ hI _ _ _ _ _ b1I hq _ (RdS.of (st.heap (by repeat (first | exact At.here | apply At.there))) (spotsIn0p _ _)) hlen) rfl ?_; clear st; intro _ _ _ _ _ _ _ _ st) | (refine o_callShY st rfl (implMove_yes _ _ _ _ hI _ _ _ _ _ b1I hq _ (RdS.of (st.heap (by repeat (first | exact At.here | apply At.there))) (spotsIn0p _ _)) hlen) rfl ?_; clear st; intro _ _ _ _ _ _ _ _ st) | (refine o_callV st rfl (eqSheet_ok _ _ _ _ _ (by assumption) (by assumption) _ _ _ _ _ (RdS.of (st.heap (by repeat (first | exact At.here | apply At.there))) (spotsIn0p _ _)) (RdS.of (st.heap (by repeat (first | exact At.here | apply At.there))) (spotsIn0p _ _)) (by omega)) rfl ?_; clear st; intro _ _ st) | (refine o_callU st rfl (markSheet_ok _ _ _ _ _ _ _ _ (st.heap (by repeat (first | exact At.here | apply At.there))) (by omega) (by omega) (by omega)) (by repeat (first | exact Upd.here | apply Upd.there)) rfl ?_; clear st; intro _ _ st) | (refine o_callV st rfl (heldSheet_ok _ _ _ _ _ _ _ _ (st.heap (by repeat (first | exact At.here | apply At.there))) (by omega) (by omega) (by omega)) rfl ?_; clear st; intro _ _ st) | (refine c_seq ?_) | (refine c_region ?_) | (refine l_do ?_) | (refine l_doG st rfl rfl ?_) | (refine l_skipU st rfl rfl rfl ?_; clear st; intro _ st) | (refine l_skip st rfl rfl rfl rfl ?_; clear st; intro _ st) | (refine l_nil ?_) | (refine x_then ?_) | (refine x_thenR ?_) | (refine x_thenE ?_) | (refine wp_ret ?_) | (refine wp_skip ?_) | (refine c_condT st rfl ?_) | (refine c_condF st rfl ?_) | (refine o_move st rfl rfl ?_; clear st; intro _ st) | (refine o_assign st rfl rfl ?_; clear st; intro _ st) | (refine o_pickT st rfl rfl rfl ?_; clear st; intro _ st) | (refine o_pickF st rfl rfl rfl ?_; clear st; intro _ st) | (refine o_alloc st rfl ?_; clear st; intro _ _ _ st) | (refine o_boxA st rfl rfl ?_; clear st; intro _ _ _ st) | (refine o_boxS st rfl rfl rfl ?_; clear st; intro _ _ _ st) | (refine o_loadS st rfl (by repeat (first | exact At.here | apply At.there)) rfl rfl ?_; clear st; intro _ st) | (refine o_load3 st rfl (by repeat (first | exact At.here | apply At.there)) rfl ?_; clear st; intro _ st) | (refine o_load2 st rfl (by repeat (first | exact At.here | apply At.there)) rfl ?_; clear st; intro _ st) | (refine o_load4 st rfl (by repeat (first | exact At.here | apply At.there)) rfl ?_; clear st; intro _ st) | (refine o_storeS st rfl rfl rfl (by repeat (first | exact Upd.here | apply Upd.there)) rfl (by dsimp only [List.set]) ?_; clear st; intro _ _ st) | (refine o_storeW st rfl rfl (by repeat (first | exact Upd.here | apply Upd.there)) rfl rfl rfl ?_; clear st; intro _ _ st) | (refine o_extract st rfl rfl rfl ?_; clear st; intro _ st) | (refine o_neqB st rfl rfl rfl rfl ?_; clear st; intro _ st) | (refine o_notT st rfl rfl ?_; clear st; intro _ st) | (refine o_notF st rfl rfl ?_; clear st; intro _ st) | (refine o_lss st rfl rfl rfl ?_ ?_ <;> clear st <;> intro _ _ st <;> (try (exfalso; omega))) | (refine o_neqI st rfl rfl rfl ?_ ?_ <;> clear st <;> intro _ _ st <;> (try (exfalso; omega)))))
    refine post1 st Try.results15 (rd_t st rfl) ?_
    exact ⟨rfl, st.below⟩
end

set_option maxRecDepth 100000 in
theorem FnExactMoveSpot_lifted (os : Os) (started : os.Started) (H : Type) (enc : TypeId × Value → H) :
    ReturnsInHanded {} Try.checked os 15 .any (Rows.fnExactMoveSpotSpec.pre6 enc Try.prog Try.f15 Rows.fnExactMoveSpotRow.domain false) (Rows.fnExactMoveSpotSpec.post enc Try.prog Try.f15 false true false false) := by
  refine returnsInHanded_of_change (C := Try.checked) own_ started (by kernel_rfl) Try.func15
    (ChangeSpec.witness6 (enc := enc) (C := Try.checked) false ⟨#[], #[.agg #[.int .i64 0, .int .i64 0, .slice none 0 0], .int .i64 0, .agg #[.float .f32 0, .float .f32 0, .float .f32 0]], []⟩ 8 (by kernel_rfl) (by kernel_rfl) (by kernel_rfl) (by kernel_rfl)) ?_
  intro W base args ds gs before hval0 hW hcnd _
  have hval : ∀ (j : Nat) t v, Try.f15.params[j]? = some t → args[j]? = some v → Value.okWide Try.prog W .any base t v := hval0
  have hW' := hW
  obtain ⟨p, q, hA0, hV, rfl, hfz, hnd⟩ := hW
  have hA : DataW.TrodAll enc Try.prog W 0 (fun _ => true) true Try.f15.params.toList args.toList ds p := hA0
  rw [Try.params15] at hA hval
  obtain ⟨v0, vs0, d0, ds0, p0, q0, hargs, rfl, rfl, h0, r0⟩ := trodAll_cons hA
  obtain ⟨v1, vs1, d1, ds1, p1, q1, rfl, rfl, rfl, h1, r1⟩ := trodAll_cons r0
  obtain ⟨v2, vs2, d2, ds2, p2, q2, rfl, rfl, rfl, h2, r2⟩ := trodAll_cons r1
  obtain ⟨rfl, rfl, rfl⟩ := trodAll_nil r2
  obtain rfl : args = #[v0, v1, v2] := by cases args; simp_all
  obtain ⟨rfl, rfl⟩ := trodVars_none hV
  have k0 := h0
  have lt0 : ∀ x ∈ p0, x.block < W.heap.size := by obtain ⟨m, hm⟩ := k0; exact DataW.trod_lt m _ _ _ hm
  obtain ⟨mm0, nn0, bs0, ba0, cap0, rfl, rd0, ok0, len0⟩ := sheet_of_trod (hval 0 41 v0 rfl rfl) h0
  have k1 := h1
  have lt1 : ∀ x ∈ p1, x.block < W.heap.size := by obtain ⟨m, hm⟩ := k1; exact DataW.trod_lt m _ _ _ hm
  obtain ⟨n1, rfl, l1x, l1y⟩ := i64_of_trod (hval 1 2 v1 rfl rfl) h1
  have k2 := h2
  have lt2 : ∀ x ∈ p2, x.block < W.heap.size := by obtain ⟨m, hm⟩ := k2; exact DataW.trod_lt m _ _ _ hm
  obtain ⟨b2, rfl, l2x, l2y, l2z⟩ := spot_of_trod (hval 2 24 v2 rfl rfl) h2
  clear hA0 hval0
  refine (move_walk mm0 nn0 bs0 ba0 cap0 n1 l1x l1y b2 l2x l2y l2z W rd0 ok0 len0).mono fun e W' ⟨he, bel⟩ => ?_
  subst he
  exact ⟨_, rfl, _, _, _, [], _, [], hW', trodAll_mk1 (shut_bool Try.underlying4 _), (trodAll_cons_mk (Below.trod laidOut_ (by kernel_rfl) (of_decide_eq_true (by kernel_rfl)) k0 bel lt0) (trodAll_cons_mk (Below.trod laidOut_ (by kernel_rfl) (of_decide_eq_true (by kernel_rfl)) k1 bel lt1) (trodAll_cons_mk (Below.trod laidOut_ (by kernel_rfl) (of_decide_eq_true (by kernel_rfl)) k2 bel lt2) trodAll_mk0))), rfl, bel.frame _, fun h => by cases h⟩

/-- For every input the law returns true, and each argument reads behind the call as it read before. -/
theorem FnExactMoveSpot_holds : Rows.FnExactMoveSpotSaid :=
  OpenClaim.holds_of_wide 15 Try.f15 rfl rfl rfl rfl rfl rfl rfl ⟨rfl, rfl, rfl, rfl, rfl⟩ rfl rfl rfl rfl rfl (by as_aux_lemma => kernel_rfl) Try.func15 (closed_of 15 Try.f15 Rows.fnExactMoveSpotSpec Rows.fnExactMoveSpotRow rfl rfl (by as_aux_lemma => kernel_rfl) (by as_aux_lemma => kernel_rfl) (by as_aux_lemma => kernel_rfl) (by as_aux_lemma => kernel_rfl) (by as_aux_lemma => kernel_rfl))
    (of_decide_eq_true (by kernel_rfl)) (by unfold Func.isWrapper; first | (rw [if_pos (by decide +kernel)]; kernel_rfl) | (rw [if_neg (by decide +kernel)]; exact ⟨rfl, rfl⟩))
    (fun os started H enc _ => FnExactMoveSpot_lifted os started H enc)

end Go.Proofs.Ytefnlalldgbcaaa
