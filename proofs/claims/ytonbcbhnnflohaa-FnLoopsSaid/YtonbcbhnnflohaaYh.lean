/-
  FnCurves: curves the other way, the next row, the point at a time.
-/
import Derived.Test.YtonbcbhnnflohaaYe
namespace Go.Proofs.Ytonbcbhnnflohaa
open Go.RowKit
attribute [local irreducible] Code.wp wpList Oper.wp Calls bodyPost Exit.then Exit.inBlock

theorem take_map_one {c' : List Kn} {i : Nat} {f : Kn → Value} (h : i < c'.length) : (c'.take i).map f ++ [f c'[i]] = (c'.take (i + 1)).map f := by
  rw [List.take_succ_eq_append_getElem h, List.map_append]; rfl
theorem next_ok (c : List Kn) (t : Nat) (c' : List Kn) (h : nextC c t = some c') (h2 : 2 ≤ c.length) (hl : c.length ≤ 1000) (v : Value) (w : World) (hv : CrV w c v) : CM2 Try.prog 98 [v, .float .f32 t] w (OwnC c') := by
  obtain ⟨hlen, hg⟩ := nextC_get t c c' h
  have hv0 := hv
  obtain ⟨x, rfl, hx, h3, h4⟩ := hv.get (by omega)
  have c1 := fun v w hv => degree_ok c v hl w hv
  refine enter Try.func98 rfl rfl rfl rfl ?_
  intro a st
  have st := (st.addOld h3).addOld h4
  (repeat' (first | (refine o_callV st rfl (c1 _ _ (hv0.mono st.below)) rfl ?_; clear st; intro _ _ st)  | refine c_seq ?_  | refine c_region ?_  | refine l_do ?_  | refine l_nil ?_  | refine x_then ?_  | refine x_thenE ?_  | refine x_blkN ?_  | refine x_blkE ?_  | refine wp_ret ?_  | refine wp_skip ?_  | refine wp_block ?_  | refine wp_exit ?_  | refine c_condT st rfl ?_  | refine c_condF st rfl ?_  | ((first | refine o_move st rfl rfl ?_  | refine o_assign st rfl rfl ?_); clear st; intro _ st)  | ((first | refine o_alloc st rfl ?_  | refine o_boxA st rfl rfl ?_ ); clear st; intro _ _ _ st)  | ((first | refine o_fieldAddr st rfl rfl ?_  | refine o_load2 st rfl (by repeat constructor) rfl ?_ ); clear st; intro _ st)  | ((first | refine o_storeS st rfl rfl rfl (by repeat constructor) rfl (by dsimp only [List.set]) ?_  | refine o_storeW st rfl rfl (by repeat constructor) rfl rfl rfl ?_); clear st; intro _ _ st)  | ((first | refine o_build3 st rfl rfl rfl rfl rfl rfl rfl ?_  | refine o_build0 st rfl ?_  | refine o_add64 st rfl rfl rfl (by omega) (by omega) ?_); clear st; intro _ st)  | (refine o_lss st rfl rfl rfl ?_ ?_ <;> clear st <;> intro _ _ st <;> (try (exfalso; omega)))))
  refine wp_loop_ghost (fun n a w' => ∃ (i p2 p4 p5 : Nat) (vp vw : Value) (Lp Lw : List Ent), i ≤ c'.length ∧ n = c'.length - i ∧ GV 31 vp ((c'.take i).map vPt) Lp ∧ GV 29 vw ((c'.take i).map vWt) Lw ∧ St w Try.f98.ntmps a w' [(1, .float .f32 t), (2, .pointer (some ⟨p2, 0, none⟩)), (4, .pointer (some ⟨p4, 0, none⟩)), (5, .pointer (some ⟨p5, 0, none⟩)), (11, .int .i64 ((c.length : Int) - 1)), (12, .int .i64 (i : Nat))]
    (⟨p5, true, .cells [vp, vw].toArray 27 (0, 0)⟩ :: ⟨p4, true, .cells [.slice none 0 0, .slice none 0 0].toArray 27 (0, 0)⟩ :: ⟨p2, true, .cells [.slice (some ⟨x.b1, x.o1, none⟩) c.length x.cp, .slice (some ⟨x.b2, x.o2, none⟩) c.length x.cw].toArray 27 (0, 0)⟩ :: ⟨x.b2, false, .cells x.a2 x.t2 x.f2⟩ :: ⟨x.b1, false, .cells x.a1 x.t1 x.f1⟩ :: (Lw ++ Lp))) c'.length ⟨0, _, _, _, _, _, [], [], by omega, by omega, GV.nil, GV.nil, (st.fit (by repeat (first | exact trivial  | refine And.intro rfl ?_))).subL (by repeat (first | exact List.Sublist.refl _  | apply List.Sublist.cons_cons  | apply List.Sublist.cons  | exact List.nil_sublist _))⟩ ?_
  clear st
  rintro n a w' ⟨i, p2, p4, p5, vp, vw, Lp, Lw, hi, rfl, hGp, hGw, st⟩
  by_cases hlt : i < c'.length
  · have hi1 : i + 1 < c.length := by omega
    have hb := hg i hi1 hlt
    have g1 := hx.at1 (k := i) (j := (i : Nat)) (by omega) rfl
    have g2 := hx.at2 (k := i) (j := (i : Nat)) (by omega) rfl
    have g3 := hx.at1 (k := i + 1) (j := ((i : Nat) : Int) + 1) hi1 (by omega)
    have g4 := hx.at2 (k := i + 1) (j := ((i : Nat) : Int) + 1) hi1 (by omega)
    have c2 := fun w => blend_ok _ _ t _ hb w
    (repeat' (first | refine c_seq ?_  | refine c_region ?_  | refine l_do ?_  | refine l_nil ?_  | refine x_then ?_  | refine x_thenE ?_  | refine x_blkN ?_  | refine x_blkE ?_  | refine wp_ret ?_  | refine wp_skip ?_  | refine wp_block ?_  | refine wp_exit ?_  | refine c_condT st rfl ?_  | refine c_condF st rfl ?_  | ((first | refine o_move st rfl rfl ?_  | refine o_assign st rfl rfl ?_); clear st; intro _ st)  | ((first | refine o_alloc st rfl ?_  | refine o_boxA st rfl rfl ?_ ); clear st; intro _ _ _ st)  | ((first | refine o_fieldAddr st rfl rfl ?_  | refine o_load2 st rfl (by repeat constructor) rfl ?_ ); clear st; intro _ st)  | ((first | refine o_storeS st rfl rfl rfl (by repeat constructor) rfl (by dsimp only [List.set]) ?_  | refine o_storeW st rfl rfl (by repeat constructor) rfl rfl rfl ?_); clear st; intro _ _ st)  | ((first | refine o_build3 st rfl rfl rfl rfl rfl rfl rfl ?_  | refine o_build0 st rfl ?_  | refine o_add64 st rfl rfl rfl (by omega) (by omega) ?_); clear st; intro _ st)  | (refine o_lss st rfl rfl rfl ?_ ?_ <;> clear st <;> intro _ _ st <;> (try (exfalso; omega)))))
    refine c_drawA (last := 28) hm_ (by decide +kernel) (by decide +kernel) st ?_; clear st; intro _ st
    refine d_v 0 st (by repeat constructor) rfl (by decide +kernel) rfl (v_fieldAddr st rfl) ?_; clear st; intro _ st
    refine d_v 1 st (by repeat constructor) rfl (by decide +kernel) rfl (by first | exact v_load3 st rfl (by repeat constructor) | exact v_loadS st rfl (by repeat constructor) rfl) ?_; clear st; intro _ st
    refine d_v 2 st (by repeat constructor) rfl (by decide +kernel) rfl (v_move st rfl) ?_; clear st; intro _ st
    refine d_v 3 st (by repeat constructor) rfl (by decide +kernel) rfl (v_indexAddr st rfl rfl (by omega) (by omega)) ?_; clear st; intro _ st
    refine d_v 4 st (by repeat constructor) rfl (by decide +kernel) rfl (v_loadS st rfl (by repeat constructor) g1) ?_; clear st; intro _ st
    refine d_v 5 st (by repeat constructor) rfl (by decide +kernel) rfl (v_fieldAddr st rfl) ?_; clear st; intro _ st
    refine d_v 6 st (by repeat constructor) rfl (by decide +kernel) rfl (by first | exact v_load3 st rfl (by repeat constructor) | exact v_loadS st rfl (by repeat constructor) rfl) ?_; clear st; intro _ st
    refine d_v 7 st (by repeat constructor) rfl (by decide +kernel) rfl (v_move st rfl) ?_; clear st; intro _ st
    refine d_v 8 st (by repeat constructor) rfl (by decide +kernel) rfl (v_indexAddr st rfl rfl (by omega) (by omega)) ?_; clear st; intro _ st
    refine d_v 9 st (by repeat constructor) rfl (by decide +kernel) rfl (v_loadS st rfl (by repeat constructor) g2) ?_; clear st; intro _ st
    refine d_v 10 st (by repeat constructor) rfl (by decide +kernel) rfl (v_fieldAddr st rfl) ?_; clear st; intro _ st
    refine d_v 11 st (by repeat constructor) rfl (by decide +kernel) rfl (by first | exact v_load3 st rfl (by repeat constructor) | exact v_loadS st rfl (by repeat constructor) rfl) ?_; clear st; intro _ st
    refine d_v 12 st (by repeat constructor) rfl (by decide +kernel) rfl (v_move st rfl) ?_; clear st; intro _ st
    refine d_v 13 st (by repeat constructor) rfl (by decide +kernel) rfl (v_add64 st rfl rfl (by omega) (by omega)) ?_; clear st; intro _ st
    refine d_v 14 st (by repeat constructor) rfl (by decide +kernel) rfl (v_indexAddr st rfl rfl (by omega) (by omega)) ?_; clear st; intro _ st
    refine d_v 15 st (by repeat constructor) rfl (by decide +kernel) rfl (v_loadS st rfl (by repeat constructor) g3) ?_; clear st; intro _ st
    refine d_v 16 st (by repeat constructor) rfl (by decide +kernel) rfl (v_fieldAddr st rfl) ?_; clear st; intro _ st
    refine d_v 17 st (by repeat constructor) rfl (by decide +kernel) rfl (by first | exact v_load3 st rfl (by repeat constructor) | exact v_loadS st rfl (by repeat constructor) rfl) ?_; clear st; intro _ st
    refine d_v 18 st (by repeat constructor) rfl (by decide +kernel) rfl (v_move st rfl) ?_; clear st; intro _ st
    refine d_v 19 st (by repeat constructor) rfl (by decide +kernel) rfl (v_add64 st rfl rfl (by omega) (by omega)) ?_; clear st; intro _ st
    refine d_v 20 st (by repeat constructor) rfl (by decide +kernel) rfl (v_indexAddr st rfl rfl (by omega) (by omega)) ?_; clear st; intro _ st
    refine d_v 21 st (by repeat constructor) rfl (by decide +kernel) rfl (v_loadS st rfl (by repeat constructor) g4) ?_; clear st; intro _ st
    refine d_v 22 st (by repeat constructor) rfl (by decide +kernel) rfl (v_move st rfl) ?_; clear st; intro _ st
    refine d_one 23 (by decide +kernel) rfl ?_
    refine o_callV st rfl (c2 _) rfl ?_; clear st; intro _ _ st
    refine kh st (by repeat constructor) ?_
    refine d_v 24 st (by repeat constructor) rfl (by decide +kernel) rfl (v_move st rfl) ?_; clear st; intro _ st
    refine d_v 25 st (by repeat constructor) rfl (by decide +kernel) rfl (v_extract st rfl rfl) ?_; clear st; intro _ st
    refine d_v 26 st (by repeat constructor) rfl (by decide +kernel) rfl (v_extract st rfl rfl) ?_; clear st; intro _ st
    refine d_v 27 st (by repeat constructor) rfl (by decide +kernel) rfl (v_assign st rfl) ?_; clear st; intro _ st
    refine d_one 28 (by decide +kernel) rfl ?_
    (first | (refine o_assign st rfl rfl ?_; clear st; intro _ st))
    refine k_last ?_
    refine d_done (by decide +kernel) ?_
    (repeat' (first | refine c_seq ?_  | refine c_region ?_  | refine l_do ?_  | refine l_nil ?_  | refine x_then ?_  | refine x_thenE ?_  | refine x_blkN ?_  | refine x_blkE ?_  | refine wp_ret ?_  | refine wp_skip ?_  | refine wp_block ?_  | refine wp_exit ?_  | refine c_condT st rfl ?_  | refine c_condF st rfl ?_  | ((first | refine o_move st rfl rfl ?_  | refine o_assign st rfl rfl ?_); clear st; intro _ st)  | ((first | refine o_alloc st rfl ?_  | refine o_boxA st rfl rfl ?_ ); clear st; intro _ _ _ st)  | ((first | refine o_fieldAddr st rfl rfl ?_  | refine o_load2 st rfl (by repeat constructor) rfl ?_ ); clear st; intro _ st)  | ((first | refine o_storeS st rfl rfl rfl (by repeat constructor) rfl (by dsimp only [List.set]) ?_  | refine o_storeW st rfl rfl (by repeat constructor) rfl rfl rfl ?_); clear st; intro _ _ st)  | ((first | refine o_build3 st rfl rfl rfl rfl rfl rfl rfl ?_  | refine o_build0 st rfl ?_  | refine o_add64 st rfl rfl rfl (by omega) (by omega) ?_); clear st; intro _ st)  | (refine o_lss st rfl rfl rfl ?_ ?_ <;> clear st <;> intro _ _ st <;> (try (exfalso; omega)))))
    refine c_drawC (F := (fun _ _ a w' => ∃ (vp vw : Value) (Lp Lw : List Ent), GV 31 vp ((c'.take (i + 1)).map vPt) Lp ∧ GV 29 vw ((c'.take (i + 1)).map vWt) Lw ∧ St w Try.f98.ntmps a w' [(1, .float .f32 t), (2, .pointer (some ⟨p2, 0, none⟩)), (4, .pointer (some ⟨p4, 0, none⟩)), (5, .pointer (some ⟨p5, 0, none⟩)), (11, .int .i64 ((c.length : Int) - 1)), (12, .int .i64 (i : Nat))] (⟨p5, true, .cells [vp, vw].toArray 27 (0, 0)⟩ :: ⟨p4, true, .cells [.slice none 0 0, .slice none 0 0].toArray 27 (0, 0)⟩ :: ⟨p2, true, .cells [.slice (some ⟨x.b1, x.o1, none⟩) c.length x.cp, .slice (some ⟨x.b2, x.o2, none⟩) c.length x.cw].toArray 27 (0, 0)⟩ :: ⟨x.b2, false, .cells x.a2 x.t2 x.f2⟩ :: ⟨x.b1, false, .cells x.a1 x.t1 x.f1⟩ :: (Lw ++ Lp)))) (Lh := [⟨p5, true, .cells [vp, vw].toArray 27 (0, 0)⟩]) (last := 11) hm_ (by decide +kernel) (by decide +kernel) st ?_ ?_
    · clear st; intro _ st
      refine d_v 0 st (by repeat constructor) rfl (by decide +kernel) rfl (v_fieldAddr st rfl) ?_; clear st; intro _ st
      refine d_v 1 st (by repeat constructor) rfl (by decide +kernel) rfl (by first | exact v_load3 st rfl (by repeat constructor) | exact v_loadS st rfl (by repeat constructor) rfl) ?_; clear st; intro _ st
      refine d_v 2 st (by repeat constructor) rfl (by decide +kernel) rfl (v_move st rfl) ?_; clear st; intro _ st
      refine d_v 5 st (by repeat constructor) rfl (by decide +kernel) rfl (v_fieldAddr st rfl) ?_; clear st; intro _ st
      refine d_v 6 st (by repeat constructor) rfl (by decide +kernel) rfl (by first | exact v_load3 st rfl (by repeat constructor) | exact v_loadS st rfl (by repeat constructor) rfl) ?_; clear st; intro _ st
      refine d_v 7 st (by repeat constructor) rfl (by decide +kernel) rfl (v_move st rfl) ?_; clear st; intro _ st
      refine d_two 3 8 (by decide +kernel) rfl rfl ?_ ?_
      · skip
        refine o_buildSlice st rfl rfl rfl rfl rfl rfl ?_; clear st; intro _ _ _ st
        refine kh st (by repeat constructor) ?_
        refine d_two 4 8 (by decide +kernel) rfl rfl ?_ ?_
        · skip
          refine o_appendGV rfl st hGp rfl rfl (by repeat constructor) rfl (by rw [List.length_map, List.length_take]; omega) (by repeat (first | exact RemS.hereR  | apply RemS.there)) rfl ?_; clear st; intro b1 cap1 pad1 _ _ hp1 st
          refine kh st (by repeat constructor) ?_
          refine d_v 10 st (by repeat constructor) rfl (by decide +kernel) rfl (v_fieldAddr st rfl) ?_; clear st; intro _ st
          refine d_one 8 (by decide +kernel) rfl ?_
          refine o_buildSlice st rfl rfl rfl rfl rfl rfl ?_; clear st; intro _ _ _ st
          refine kh st (by repeat constructor) ?_
          refine d_one 9 (by decide +kernel) rfl ?_
          refine o_appendGV rfl st hGw rfl rfl (by repeat constructor) rfl (by rw [List.length_map, List.length_take]; omega) (by repeat (first | exact RemS.hereEnd  | apply RemS.there)) rfl ?_; clear st; intro b2 cap2 pad2 _ _ hp2 st
          refine kh st (by repeat constructor) ?_
          refine d_one 11 (by decide +kernel) rfl ?_
          (first | ((first | refine o_storeS st rfl rfl rfl (by repeat constructor) rfl (by dsimp only [List.set]) ?_  | refine o_storeW st rfl rfl (by repeat constructor) rfl rfl rfl ?_); clear st; intro _ _ st))
          refine k_last ?_
          refine d_one 12 (by decide +kernel) rfl ?_
          (first | (refine o_fieldAddr st rfl rfl ?_; clear st; intro _ st))
          refine k_last ?_
          refine d_one 13 (by decide +kernel) rfl ?_
          (first | ((first | refine o_storeS st rfl rfl rfl (by repeat constructor) rfl (by dsimp only [List.set]) ?_  | refine o_storeW st rfl rfl (by repeat constructor) rfl rfl rfl ?_); clear st; intro _ _ st))
          refine k_last ?_
          refine d_done (by decide +kernel) ?_
          refine ⟨rfl, ?_⟩
          rw [← take_map_one (f := vPt) hlt, ← take_map_one (f := vWt) hlt]
          exact ⟨_, _, _, _, GV.grown hp1, GV.grown hp2, (St.back2 (L := [_, _, _, _, _]) (st.subL (by repeat (first | exact List.Sublist.refl _  | apply List.Sublist.cons_cons  | apply List.Sublist.cons  | exact List.nil_sublist _)))).fit (by repeat (first | exact trivial  | refine And.intro rfl ?_))⟩
        · skip
          refine o_buildSlice st rfl rfl rfl rfl rfl rfl ?_; clear st; intro _ _ _ st
          refine kh st (by repeat constructor) ?_
          refine d_one 4 (by decide +kernel) rfl ?_
          refine o_appendGV rfl st hGp rfl rfl (by repeat constructor) rfl (by rw [List.length_map, List.length_take]; omega) (by repeat (first | exact RemS.hereR  | apply RemS.there)) rfl ?_; clear st; intro b1 cap1 pad1 _ _ hp1 st
          refine kh st (by repeat constructor) ?_
          refine d_v 10 st (by repeat constructor) rfl (by decide +kernel) rfl (v_fieldAddr st rfl) ?_; clear st; intro _ st
          refine d_one 9 (by decide +kernel) rfl ?_
          refine o_appendGV rfl st hGw rfl rfl (by repeat constructor) rfl (by rw [List.length_map, List.length_take]; omega) (by repeat (first | exact RemS.hereEnd  | apply RemS.there)) rfl ?_; clear st; intro b2 cap2 pad2 _ _ hp2 st
          refine kh st (by repeat constructor) ?_
          refine d_one 11 (by decide +kernel) rfl ?_
          (first | ((first | refine o_storeS st rfl rfl rfl (by repeat constructor) rfl (by dsimp only [List.set]) ?_  | refine o_storeW st rfl rfl (by repeat constructor) rfl rfl rfl ?_); clear st; intro _ _ st))
          refine k_last ?_
          refine d_one 12 (by decide +kernel) rfl ?_
          (first | (refine o_fieldAddr st rfl rfl ?_; clear st; intro _ st))
          refine k_last ?_
          refine d_one 13 (by decide +kernel) rfl ?_
          (first | ((first | refine o_storeS st rfl rfl rfl (by repeat constructor) rfl (by dsimp only [List.set]) ?_  | refine o_storeW st rfl rfl (by repeat constructor) rfl rfl rfl ?_); clear st; intro _ _ st))
          refine k_last ?_
          refine d_done (by decide +kernel) ?_
          refine ⟨rfl, ?_⟩
          rw [← take_map_one (f := vPt) hlt, ← take_map_one (f := vWt) hlt]
          exact ⟨_, _, _, _, GV.grown hp1, GV.grown hp2, (St.back2 (L := [_, _, _, _, _]) (st.subL (by repeat (first | exact List.Sublist.refl _  | apply List.Sublist.cons_cons  | apply List.Sublist.cons  | exact List.nil_sublist _)))).fit (by repeat (first | exact trivial  | refine And.intro rfl ?_))⟩
      · skip
        refine o_buildSlice st rfl rfl rfl rfl rfl rfl ?_; clear st; intro _ _ _ st
        refine kh st (by repeat constructor) ?_
        refine d_one 3 (by decide +kernel) rfl ?_
        refine o_buildSlice st rfl rfl rfl rfl rfl rfl ?_; clear st; intro _ _ _ st
        refine kh st (by repeat constructor) ?_
        refine d_one 4 (by decide +kernel) rfl ?_
        refine o_appendGV rfl st hGp rfl rfl (by repeat constructor) rfl (by rw [List.length_map, List.length_take]; omega) (by repeat (first | exact RemS.hereR  | apply RemS.there)) rfl ?_; clear st; intro b1 cap1 pad1 _ _ hp1 st
        refine kh st (by repeat constructor) ?_
        refine d_v 10 st (by repeat constructor) rfl (by decide +kernel) rfl (v_fieldAddr st rfl) ?_; clear st; intro _ st
        refine d_one 9 (by decide +kernel) rfl ?_
        refine o_appendGV rfl st hGw rfl rfl (by repeat constructor) rfl (by rw [List.length_map, List.length_take]; omega) (by repeat (first | exact RemS.hereEnd  | apply RemS.there)) rfl ?_; clear st; intro b2 cap2 pad2 _ _ hp2 st
        refine kh st (by repeat constructor) ?_
        refine d_one 11 (by decide +kernel) rfl ?_
        (first | ((first | refine o_storeS st rfl rfl rfl (by repeat constructor) rfl (by dsimp only [List.set]) ?_  | refine o_storeW st rfl rfl (by repeat constructor) rfl rfl rfl ?_); clear st; intro _ _ st))
        refine k_last ?_
        refine d_one 12 (by decide +kernel) rfl ?_
        (first | (refine o_fieldAddr st rfl rfl ?_; clear st; intro _ st))
        refine k_last ?_
        refine d_one 13 (by decide +kernel) rfl ?_
        (first | ((first | refine o_storeS st rfl rfl rfl (by repeat constructor) rfl (by dsimp only [List.set]) ?_  | refine o_storeW st rfl rfl (by repeat constructor) rfl rfl rfl ?_); clear st; intro _ _ st))
        refine k_last ?_
        refine d_done (by decide +kernel) ?_
        refine ⟨rfl, ?_⟩
        rw [← take_map_one (f := vPt) hlt, ← take_map_one (f := vWt) hlt]
        exact ⟨_, _, _, _, GV.grown hp1, GV.grown hp2, (St.back2 (L := [_, _, _, _, _]) (st.subL (by repeat (first | exact List.Sublist.refl _  | apply List.Sublist.cons_cons  | apply List.Sublist.cons  | exact List.nil_sublist _)))).fit (by repeat (first | exact trivial  | refine And.intro rfl ?_))⟩
    clear st
    rintro _ _ ⟨vp, vw, Lp, Lw, hGp, hGw, st⟩
    (repeat' (first | refine c_seq ?_  | refine c_region ?_  | refine l_do ?_  | refine l_nil ?_  | refine x_then ?_  | refine x_thenE ?_  | refine x_blkN ?_  | refine x_blkE ?_  | refine wp_ret ?_  | refine wp_skip ?_  | refine wp_block ?_  | refine wp_exit ?_  | refine c_condT st rfl ?_  | refine c_condF st rfl ?_  | ((first | refine o_move st rfl rfl ?_  | refine o_assign st rfl rfl ?_); clear st; intro _ st)  | ((first | refine o_alloc st rfl ?_  | refine o_boxA st rfl rfl ?_ ); clear st; intro _ _ _ st)  | ((first | refine o_fieldAddr st rfl rfl ?_  | refine o_load2 st rfl (by repeat constructor) rfl ?_ ); clear st; intro _ st)  | ((first | refine o_storeS st rfl rfl rfl (by repeat constructor) rfl (by dsimp only [List.set]) ?_  | refine o_storeW st rfl rfl (by repeat constructor) rfl rfl rfl ?_); clear st; intro _ _ st)  | ((first | refine o_build3 st rfl rfl rfl rfl rfl rfl rfl ?_  | refine o_build0 st rfl ?_  | refine o_add64 st rfl rfl rfl (by omega) (by omega) ?_); clear st; intro _ st)  | (refine o_lss st rfl rfl rfl ?_ ?_ <;> clear st <;> intro _ _ st <;> (try (exfalso; omega)))))
    refine ⟨c'.length - (i + 1), by omega, i + 1, p2, p4, p5, vp, vw, Lp, Lw, by omega, rfl, hGp, hGw, st.fit (by repeat (first | exact trivial  | refine And.intro rfl ?_))⟩
  · obtain rfl : i = c'.length := by omega
    rw [List.take_length] at hGp hGw
    rcases hGp with ⟨_, hn, _⟩ | ⟨b1, cap1, pad1, _, rfl, rfl, hp1⟩
    · have := congrArg List.length hn
      rw [List.length_map] at this
      simp at this
      rw [this] at hlen
      simp at hlen
      omega
    rcases hGw with ⟨_, hn, _⟩ | ⟨b2, cap2, pad2, _, rfl, rfl, hp2⟩
    · have := congrArg List.length hn
      rw [List.length_map] at this
      simp at this
      rw [this] at hlen
      simp at hlen
      omega
    simp only [List.cons_append, List.nil_append] at st
    (repeat' (first | refine c_seq ?_  | refine c_region ?_  | refine l_do ?_  | refine l_nil ?_  | refine x_then ?_  | refine x_thenE ?_  | refine x_blkN ?_  | refine x_blkE ?_  | refine wp_ret ?_  | refine wp_skip ?_  | refine wp_block ?_  | refine wp_exit ?_  | refine c_condT st rfl ?_  | refine c_condF st rfl ?_  | ((first | refine o_move st rfl rfl ?_  | refine o_assign st rfl rfl ?_); clear st; intro _ st)  | ((first | refine o_alloc st rfl ?_  | refine o_boxA st rfl rfl ?_ ); clear st; intro _ _ _ st)  | ((first | refine o_fieldAddr st rfl rfl ?_  | refine o_load2 st rfl (by repeat constructor) rfl ?_ ); clear st; intro _ st)  | ((first | refine o_storeS st rfl rfl rfl (by repeat constructor) rfl (by dsimp only [List.set]) ?_  | refine o_storeW st rfl rfl (by repeat constructor) rfl rfl rfl ?_); clear st; intro _ _ st)  | ((first | refine o_build3 st rfl rfl rfl rfl rfl rfl rfl ?_  | refine o_build0 st rfl ?_  | refine o_add64 st rfl rfl rfl (by omega) (by omega) ?_); clear st; intro _ st)  | (refine o_lss st rfl rfl rfl ?_ ?_ <;> clear st <;> intro _ _ st <;> (try (exfalso; omega)))))
    refine post1 st Try.results98 (rd_c st rfl (by repeat constructor) rfl) ?_
    have hne := st.ne_of (e1 := ⟨b2, true, oV 29 (c'.map vWt) pad2⟩) (e2 := ⟨b1, true, oV 31 (c'.map vPt) pad1⟩) rfl (by repeat (first | exact List.Sublist.refl _  | apply List.Sublist.cons_cons  | apply List.Sublist.cons  | exact List.nil_sublist _))
    exact ⟨_, b1, _, b2, _, rfl, ⟨cap1, cap2, pad1, pad2, by rw [List.length_map, List.length_map], rfl, rfl⟩, st.ex2 (by repeat constructor) (by repeat constructor) hne.symm⟩
end Go.Proofs.Ytonbcbhnnflohaa

namespace Go.Proofs.Ytonbcbhnnflohaa
open Go.RowKit

section
variable {w0 w : World} {N : Nat} {a : Act} {E : List (Nat × Value)} {L : List Ent}
theorem St.keep2 {b1 b2 : Nat} {w1 w2 : Bool} {o1 o2 : Obj} (st : St w0 N a w E (⟨b1, w1, o1⟩ :: ⟨b2, w2, o2⟩ :: L)) : St w0 N a w E (L ++ [⟨b2, false, o2⟩, ⟨b1, false, o1⟩]) :=
  (st.disown.swap2.disown).perm (List.perm_append_comm (l₁ := [_, _]) (l₂ := L))
end
/-- The point at a time, with its weight. -/
def atK : Nat → List Kn → Nat → Option Kn
  | 0, c, _ => c.head?
  | n + 1, c, t => (nextC c t).bind fun d => atK n d t
attribute [local irreducible] Code.wp wpList Oper.wp Calls bodyPost Exit.then Exit.inBlock

theorem at_ok (c : List Kn) (t : Nat) (k : Kn) (h : atK (c.length - 1) c t = some k) (h1 : 1 ≤ c.length) (hl : c.length ≤ 1000) (v : Value) (w : World) (hv : CrV w c v) : CV Try.prog 47 [v, .float .f32 t] w (.complex .f32 k.1 k.2.1) := by
  obtain ⟨x, rfl, hx, h3, h4⟩ := hv.get (by omega)
  refine enter Try.func47 rfl rfl rfl rfl ?_
  intro a st
  have st := (st.addOld h3).addOld h4
  (repeat' (first | refine c_seq ?_  | refine c_region ?_  | refine l_do ?_  | refine l_nil ?_  | refine x_then ?_  | refine x_thenE ?_  | refine x_blkN ?_  | refine x_blkE ?_  | refine wp_ret ?_  | refine wp_skip ?_  | refine wp_block ?_  | refine wp_exit ?_  | refine c_condT st rfl ?_  | refine c_condF st rfl ?_  | ((first | refine o_move st rfl rfl ?_  | refine o_assign st rfl rfl ?_); clear st; intro _ st)  | ((first | refine o_boxA st rfl rfl ?_ ); clear st; intro _ _ _ st)  | ((first | refine o_fieldAddr st rfl rfl ?_  | refine o_loadS st rfl (by repeat constructor) rfl rfl ?_  | refine o_load2 st rfl (by repeat constructor) rfl ?_ ); clear st; intro _ st)  | ((first | refine o_storeW st rfl rfl (by repeat constructor) rfl rfl rfl ?_); clear st; intro _ _ st)  | (refine o_gtr st rfl rfl rfl ?_ ?_ <;> clear st <;> intro _ _ st <;> (try (exfalso; omega)))))
  refine wp_loop_ghost (fun n a w' => ∃ (d : List Kn) (x : CC) (p2 : Nat), d.length = n + 1 ∧ d.length ≤ 1000 ∧ atK n d t = some k ∧ x.has d ∧ St w Try.f47.ntmps a w' [(1, .float .f32 t), (2, .pointer (some ⟨p2, 0, none⟩))]
    (⟨p2, true, .cells [.slice (some ⟨x.b1, x.o1, none⟩) d.length x.cp, .slice (some ⟨x.b2, x.o2, none⟩) d.length x.cw].toArray 27 (0, 0)⟩ :: ⟨x.b2, false, .cells x.a2 x.t2 x.f2⟩ :: ⟨x.b1, false, .cells x.a1 x.t1 x.f1⟩ :: [])) (c.length - 1) ⟨c, x, _, by omega, hl, h, hx, (st.fit (by repeat (first | exact trivial  | refine And.intro rfl ?_))).subL (by repeat (first | exact List.Sublist.refl _  | apply List.Sublist.cons_cons  | apply List.Sublist.cons  | exact List.nil_sublist _))⟩ ?_
  clear st
  rintro n a w' ⟨d, x, p2, hn, hl, h, hx, st⟩
  have c1 := fun w hv => degree_ok d (.agg [.slice (some ⟨x.b1, x.o1, none⟩) d.length x.cp, .slice (some ⟨x.b2, x.o2, none⟩) d.length x.cw].toArray) hl w hv
  cases n with
  | zero =>
    have g1 := hx.at1 (k := 0) (j := 0) (by omega) rfl
    have e : d[0] = k := by
      have : d.head? = some k := h
      rw [List.head?_eq_getElem?, List.getElem?_eq_getElem (by omega)] at this
      exact Option.some.inj this
    rw [e] at g1
    (repeat' (first | (refine o_callV st rfl (c1 _ (x.crv hx (st.heap (by repeat constructor)) (st.heap (by repeat constructor)))) rfl ?_; clear st; intro _ _ st)  | (refine o_indexAddr st rfl rfl (by omega) (by omega) rfl ?_; clear st; intro _ st)  | (refine o_loadS st rfl (by repeat constructor) g1 rfl ?_; clear st; intro _ st)  | refine c_seq ?_  | refine c_region ?_  | refine l_do ?_  | refine l_nil ?_  | refine x_then ?_  | refine x_thenE ?_  | refine x_blkN ?_  | refine x_blkE ?_  | refine wp_ret ?_  | refine wp_skip ?_  | refine wp_block ?_  | refine wp_exit ?_  | refine c_condT st rfl ?_  | refine c_condF st rfl ?_  | ((first | refine o_move st rfl rfl ?_  | refine o_assign st rfl rfl ?_); clear st; intro _ st)  | ((first | refine o_boxA st rfl rfl ?_ ); clear st; intro _ _ _ st)  | ((first | refine o_fieldAddr st rfl rfl ?_  | refine o_loadS st rfl (by repeat constructor) rfl rfl ?_  | refine o_load2 st rfl (by repeat constructor) rfl ?_ ); clear st; intro _ st)  | ((first | refine o_storeW st rfl rfl (by repeat constructor) rfl rfl rfl ?_); clear st; intro _ _ st)  | (refine o_gtr st rfl rfl rfl ?_ ?_ <;> clear st <;> intro _ _ st <;> (try (exfalso; omega)))))
    refine post1 st Try.results47 (rd_t st rfl) ?_
    exact ⟨rfl, st.ex0⟩
  | succ n =>
    obtain ⟨d', hd, h⟩ := ob h
    obtain ⟨hlen, _⟩ := nextC_get t d d' hd
    have c2 := fun w hv => next_ok d t d' hd (by omega) hl (.agg [.slice (some ⟨x.b1, x.o1, none⟩) d.length x.cp, .slice (some ⟨x.b2, x.o2, none⟩) d.length x.cw].toArray) w hv
    (repeat' (first | (refine o_callV st rfl (c1 _ (x.crv hx (st.heap (by repeat constructor)) (st.heap (by repeat constructor)))) rfl ?_; clear st; intro _ _ st)  | (refine o_callM2 st rfl (c2 _ (x.crv hx (st.heap (by repeat constructor)) (st.heap (by repeat constructor)))) rfl ?_; clear st; rintro _ b1 _ b2 _ ⟨cap1, cap2, pad1, pad2, rfl, rfl, rfl⟩ _ _ st)  | refine c_seq ?_  | refine c_region ?_  | refine l_do ?_  | refine l_nil ?_  | refine x_then ?_  | refine x_thenE ?_  | refine x_blkN ?_  | refine x_blkE ?_  | refine wp_ret ?_  | refine wp_skip ?_  | refine wp_block ?_  | refine wp_exit ?_  | refine c_condT st rfl ?_  | refine c_condF st rfl ?_  | ((first | refine o_move st rfl rfl ?_  | refine o_assign st rfl rfl ?_); clear st; intro _ st)  | ((first | refine o_boxA st rfl rfl ?_ ); clear st; intro _ _ _ st)  | ((first | refine o_fieldAddr st rfl rfl ?_  | refine o_loadS st rfl (by repeat constructor) rfl rfl ?_  | refine o_load2 st rfl (by repeat constructor) rfl ?_ ); clear st; intro _ st)  | ((first | refine o_storeW st rfl rfl (by repeat constructor) rfl rfl rfl ?_); clear st; intro _ _ st)  | (refine o_gtr st rfl rfl rfl ?_ ?_ <;> clear st <;> intro _ _ st <;> (try (exfalso; omega)))))
    exact ⟨n, by omega, d', ccOf d' b1 cap1 b2 cap2 pad1 pad2, p2, by omega, by omega, h, ccOf_has _ _ _ _ _ _ _, (St.keep2 (L := [_]) (st.subL (by repeat (first | exact List.Sublist.refl _  | apply List.Sublist.cons_cons  | apply List.Sublist.cons  | exact List.nil_sublist _)))).fit (by repeat (first | exact trivial  | refine And.intro rfl ?_))⟩
end Go.Proofs.Ytonbcbhnnflohaa

namespace Go.Proofs.Ytonbcbhnnflohaa
open Go.RowKit

/-- A curve's block, or one that will hold one. -/
abbrev eP (p : Nat) (v1 v2 : Value) : Ent := ⟨p, true, .cells [v1, v2].toArray 27 (0, 0)⟩
section
variable {P : Program} {w0 w : World} {N : Nat} {a : Act} {E : List (Nat × Value)} {L Lh : List Ent} {K : Act → World → Prop} {Q : Exit → Act → World → Prop}
variable {d : Nat} {ty : TypeId} {pos : String} {aft : Array Edge} {g : Option (Nat × Bool)}
end
theorem map_one (A : List Kn) (k : Kn) (f : Kn → Value) : A.map f ++ [f k] = (A ++ [k]).map f := by simp
attribute [local irreducible] Code.wp wpList Oper.wp Calls bodyPost Exit.then Exit.inBlock

end Go.Proofs.Ytonbcbhnnflohaa
