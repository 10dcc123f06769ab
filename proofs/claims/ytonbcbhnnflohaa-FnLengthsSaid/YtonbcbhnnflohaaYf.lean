/-
  FnCurves: curves the other way, the next row, the point at a time.
-/
import Derived.Test.YtonbcbhnnflohaaYe
namespace Go.Proofs.Ytonbcbhnnflohaa
open Go.RowKit
attribute [local irreducible] Code.wp wpList Oper.wp Calls bodyPost Exit.then Exit.inBlock

theorem back_ok (c : List Kn) (v : Value) (h0 : 0 < c.length) (hl : c.length ≤ 1000) (w : World) (hv : CrV w c v) : CM2 Try.prog 52 [v] w (OwnC c.reverse) := by
  have c1 := fun w hv => copyCurve_ok c v h0 hl w hv
  have c2 := fun b cap pad w hb => reverseP_ok (c.map vPt) (one_vPt c) b cap pad w hb (by simpa using h0) (by rw [List.length_map]; omega)
  have c3 := fun b cap pad w hb => reverseW_ok (c.map vWt) (one_vWt c) b cap pad w hb (by simpa using h0) (by rw [List.length_map]; omega)
  rw [List.length_map, ← List.map_reverse] at c2 c3
  have hv0 := hv
  obtain ⟨bp, cp, bw, cw, rfl, hp, hw⟩ := hv
  refine enter Try.func52 rfl rfl rfl rfl ?_
  intro a st
  (repeat' (first | (refine o_callM2 st rfl (c1 _ (hv0.mono st.below)) rfl ?_; clear st; rintro _ b1 _ b2 _ ⟨cap1, cap2, pad1, pad2, rfl, rfl, rfl⟩ _ _ st)  | (refine o_callU st rfl (c2 _ _ _ _ (st.heap (by repeat constructor))) (by repeat constructor) rfl ?_; clear st; intro _ _ st)  | (refine o_callU st rfl (c3 _ _ _ _ (st.heap (by repeat constructor))) (by repeat constructor) rfl ?_; clear st; intro _ _ st)  | refine c_seq ?_  | refine c_region ?_  | refine l_do ?_  | refine l_nil ?_  | refine x_then ?_  | refine wp_ret ?_  | ((first | refine o_alloc st rfl ?_  | refine o_boxA st rfl rfl ?_ ); clear st; intro _ _ _ st)  | ((first | refine o_fieldAddr st rfl rfl ?_  | refine o_loadS st rfl (by repeat constructor) rfl rfl ?_  | refine o_load2 st rfl (by repeat constructor) rfl ?_ ); clear st; intro _ st)  | ((first | refine o_storeW st rfl rfl (by repeat constructor) rfl rfl rfl ?_); clear st; intro _ _ st)))
  refine post1 st Try.results52 (rd_c st rfl (by repeat constructor) rfl) ?_
  have hne := st.ne_of (e1 := ⟨b1, true, oV 31 (c.reverse.map vPt) pad1⟩) (e2 := ⟨b2, true, oV 29 (c.reverse.map vWt) pad2⟩) rfl (by repeat (first | exact List.Sublist.refl _  | apply List.Sublist.cons_cons  | apply List.Sublist.cons  | exact List.nil_sublist _))
  exact ⟨_, b1, _, b2, _, rfl, ⟨cap1, cap2, pad1, pad2, by rw [List.length_reverse], rfl, rfl⟩, st.ex2 (by repeat constructor) (by repeat constructor) hne⟩
theorem take_map_one {c' : List Kn} {i : Nat} {f : Kn → Value} (h : i < c'.length) : (c'.take i).map f ++ [f c'[i]] = (c'.take (i + 1)).map f := by
  rw [List.take_succ_eq_append_getElem h, List.map_append]; rfl
theorem next_ok (c : List Kn) (t : Nat) (c' : List Kn) (h : nextC c t = some c') (h2 : 2 ≤ c.length) (hl : c.length ≤ 1000) (v : Value) (w : World) (hv : CrV w c v) : CM2 Try.prog 98 [v, .float .f32 t] w (OwnC c') := by
  obtain ⟨hlen, hg⟩ := nextC_get t c c' h
  have hv0 := hv
  obtain ⟨x, rfl, hx, h3, h4⟩ := hv.get (by omega)
  have c1 := fun v w hv => degree_ok c v hl w hv
  refine enter Try.func98 rfl rfl rfl rfl ?_
  intro a st
  have st := (st.addOld h3).addOld h4
  (repeat' (first | (refine o_callV st rfl (c1 _ _ (hv0.mono st.below)) rfl ?_; clear st; intro _ _ st)  | refine c_seq ?_  | refine c_region ?_  | refine l_do ?_  | refine l_nil ?_  | refine x_then ?_  | refine x_thenE ?_  | refine x_blkN ?_  | refine x_blkE ?_  | refine wp_ret ?_  | refine wp_skip ?_  | refine wp_block ?_  | refine wp_exit ?_  | refine c_condT st rfl ?_  | refine c_condF st rfl ?_  | ((first | refine o_move st rfl rfl ?_  | refine o_assign st rfl rfl ?_); clear st; intro _ st)  | ((first | refine o_alloc st rfl ?_  | refine o_boxA st rfl rfl ?_ ); clear st; intro _ _ _ st)  | ((first | refine o_fieldAddr st rfl rfl ?_  | refine o_load2 st rfl (by repeat constructor) rfl ?_ ); clear st; intro _ st)  | ((first | refine o_storeS st rfl rfl rfl (by repeat constructor) rfl (by dsimp only [List.set]) ?_  | refine o_storeW st rfl rfl (by repeat constructor) rfl rfl rfl ?_); clear st; intro _ _ st)  | ((first | refine o_build3 st rfl rfl rfl rfl rfl rfl rfl ?_  | refine o_build0 st rfl ?_  | refine o_add64 st rfl rfl rfl (by omega) (by omega) ?_); clear st; intro _ st)  | (refine o_lss st rfl rfl rfl ?_ ?_ <;> clear st <;> intro _ _ st <;> (try (exfalso; omega)))))
  refine wp_loop_ghost (fun n a w' => ∃ (i p2 p4 p5 : Nat) (vp vw : Value) (Lp Lw : List Ent), i ≤ c'.length ∧ n = c'.length - i ∧ GV 31 vp ((c'.take i).map vPt) Lp ∧ GV 29 vw ((c'.take i).map vWt) Lw ∧ St w Try.f98.ntmps a w' [(1, .float .f32 t), (2, .pointer (some ⟨p2, 0, none⟩)), (4, .pointer (some ⟨p4, 0, none⟩)), (5, .pointer (some ⟨p5, 0, none⟩)), (11, .int .i64 ((c.length : Int) - 1)), (12, .int .i64 (i : Nat))]
    (⟨p5, true, .cells [vp, vw].toArray 27 (0, 0)⟩ :: ⟨p4, true, .cells [.slice none 0 0, .slice none 0 0].toArray 27 (0, 0)⟩ :: ⟨p2, true, .cells [.slice (some ⟨x.b1, x.o1, none⟩) c.length x.cp, .slice (some ⟨x.b2, x.o2, none⟩) c.length x.cw].toArray 27 (0, 0)⟩ :: ⟨x.b2, false, .cells x.a2 x.t2 x.f2⟩ :: ⟨x.b1, false, .cells x.a1 x.t1 x.f1⟩ :: (Lw ++ Lp))) c'.length ⟨0, _, _, _, _, _, [], [], by omega, by omega, GV.nil, GV.nil, (st.fit (by repeat (first | exact trivial  | refine And.intro rfl ?_))).subL (by repeat (first | exact List.Sublist.refl _  | apply List.Sublist.cons_cons  | apply List.Sublist.cons  | exact List.nil_sublist _))⟩ ?_
  clear st
  rintro n a w' ⟨i, p2, p4, p5, vp, vw, Lp, Lw, hi, rfl, hGp, hGw, st⟩
  by_cases hlt : i < c'.length
  · have hi1 : i + 1 < c.length := by omega
    have hb := hg i hi1 hlt
    have g1 := hx.at1 (k := i) (j := (i : Nat)) (by omega) rfl
    have g2 := hx.at2 (k := i) (j := (i : Nat)) (by omega) rfl
    have g3 := hx.at1 (k := i + 1) (j := ((i : Nat) : Int) + 1) hi1 (by omega)
    have g4 := hx.at2 (k := i + 1) (j := ((i : Nat) : Int) + 1) hi1 (by omega)
    have c2 := fun w => blend_ok _ _ t _ hb w
    (repeat' (first | refine c_seq ?_  | refine c_region ?_  | refine l_do ?_  | refine l_nil ?_  | refine x_then ?_  | refine x_thenE ?_  | refine x_blkN ?_  | refine x_blkE ?_  | refine wp_ret ?_  | refine wp_skip ?_  | refine wp_block ?_  | refine wp_exit ?_  | refine c_condT st rfl ?_  | refine c_condF st rfl ?_  | ((first | refine o_move st rfl rfl ?_  | refine o_assign st rfl rfl ?_); clear st; intro _ st)  | ((first | refine o_alloc st rfl ?_  | refine o_boxA st rfl rfl ?_ ); clear st; intro _ _ _ st)  | ((first | refine o_fieldAddr st rfl rfl ?_  | refine o_load2 st rfl (by repeat constructor) rfl ?_ ); clear st; intro _ st)  | ((first | refine o_storeS st rfl rfl rfl (by repeat constructor) rfl (by dsimp only [List.set]) ?_  | refine o_storeW st rfl rfl (by repeat constructor) rfl rfl rfl ?_); clear st; intro _ _ st)  | ((first | refine o_build3 st rfl rfl rfl rfl rfl rfl rfl ?_  | refine o_build0 st rfl ?_  | refine o_add64 st rfl rfl rfl (by omega) (by omega) ?_); clear st; intro _ st)  | (refine o_lss st rfl rfl rfl ?_ ?_ <;> clear st <;> intro _ _ st <;> (try (exfalso; omega)))))
    refine c_drawA (last := 28) hm_ (by decide +kernel) (by decide +kernel) st ?_; clear st; intro _ st
    refine d_v 0 st (by repeat constructor) rfl (by decide +kernel) rfl (v_fieldAddr st rfl) ?_; clear st; intro _ st
    refine d_v 1 st (by repeat constructor) rfl (by decide +kernel) rfl (by first | exact v_load3 st rfl (by repeat constructor) | exact v_loadS st rfl (by repeat constructor) rfl) ?_; clear st; intro _ st
    refine d_v 2 st (by repeat constructor) rfl (by decide +kernel) rfl (v_move st rfl) ?_; clear st; intro _ st
    refine d_v 3 st (by repeat constructor) rfl (by decide +kernel) rfl (v_indexAddr st rfl rfl (by omega) (by omega)) ?_; clear st; intro _ st
    refine d_v 4 st (by repeat constructor) rfl (by decide +kernel) rfl (v_loadS st rfl (by repeat constructor) g1) ?_; clear st; intro _ st
    refine d_v 5 st (by repeat constructor) rfl (by decide +kernel) rfl (v_fieldAddr st rfl) ?_; clear st; intro _ st
    refine d_v 6 st (by repeat constructor) rfl (by decide +kernel) rfl (by first | exact v_load3 st rfl (by repeat constructor) | exact v_loadS st rfl (by repeat constructor) rfl) ?_; clear st; intro _ st
    refine d_v 7 st (by repeat constructor) rfl (by decide +kernel) rfl (v_move st rfl) ?_; clear st; intro _ st
    refine d_v 8 st (by repeat constructor) rfl (by decide +kernel) rfl (v_indexAddr st rfl rfl (by omega) (by omega)) ?_; clear st; intro _ st
    refine d_v 9 st (by repeat constructor) rfl (by decide +kernel) rfl (v_loadS st rfl (by repeat constructor) g2) ?_; clear st; intro _ st
    refine d_v 10 st (by repeat constructor) rfl (by decide +kernel) rfl (v_fieldAddr st rfl) ?_; clear st; intro _ st
    refine d_v 11 st (by repeat constructor) rfl (by decide +kernel) rfl (by first | exact v_load3 st rfl (by repeat constructor) | exact v_loadS st rfl (by repeat constructor) rfl) ?_; clear st; intro _ st
    refine d_v 12 st (by repeat constructor) rfl (by decide +kernel) rfl (v_move st rfl) ?_; clear st; intro _ st
    refine d_v 13 st (by repeat constructor) rfl (by decide +kernel) rfl (v_add64 st rfl rfl (by omega) (by omega)) ?_; clear st; intro _ st
    refine d_v 14 st (by repeat constructor) rfl (by decide +kernel) rfl (v_indexAddr st rfl rfl (by omega) (by omega)) ?_; clear st; intro _ st
    refine d_v 15 st (by repeat constructor) rfl (by decide +kernel) rfl (v_loadS st rfl (by repeat constructor) g3) ?_; clear st; intro _ st
    refine d_v 16 st (by repeat constructor) rfl (by decide +kernel) rfl (v_fieldAddr st rfl) ?_; clear st; intro _ st
    refine d_v 17 st (by repeat constructor) rfl (by decide +kernel) rfl (by first | exact v_load3 st rfl (by repeat constructor) | exact v_loadS st rfl (by repeat constructor) rfl) ?_; clear st; intro _ st
    refine d_v 18 st (by repeat constructor) rfl (by decide +kernel) rfl (v_move st rfl) ?_; clear st; intro _ st
    refine d_v 19 st (by repeat constructor) rfl (by decide +kernel) rfl (v_add64 st rfl rfl (by omega) (by omega)) ?_; clear st; intro _ st
    refine d_v 20 st (by repeat constructor) rfl (by decide +kernel) rfl (v_indexAddr st rfl rfl (by omega) (by omega)) ?_; clear st; intro _ st
    refine d_v 21 st (by repeat constructor) rfl (by decide +kernel) rfl (v_loadS st rfl (by repeat constructor) g4) ?_; clear st; intro _ st
    refine d_v 22 st (by repeat constructor) rfl (by decide +kernel) rfl (v_move st rfl) ?_; clear st; intro _ st
    refine d_one 23 (by decide +kernel) rfl ?_
    refine o_callV st rfl (c2 _) rfl ?_; clear st; intro _ _ st
    refine kh st (by repeat constructor) ?_
    refine d_v 24 st (by repeat constructor) rfl (by decide +kernel) rfl (v_move st rfl) ?_; clear st; intro _ st
    refine d_v 25 st (by repeat constructor) rfl (by decide +kernel) rfl (v_extract st rfl rfl) ?_; clear st; intro _ st
    refine d_v 26 st (by repeat constructor) rfl (by decide +kernel) rfl (v_extract st rfl rfl) ?_; clear st; intro _ st
    refine d_v 27 st (by repeat constructor) rfl (by decide +kernel) rfl (v_assign st rfl) ?_; clear st; intro _ st
    refine d_one 28 (by decide +kernel) rfl ?_
    (first | (refine o_assign st rfl rfl ?_; clear st; intro _ st))
    refine k_last ?_
    refine d_done (by decide +kernel) ?_
    (repeat' (first | refine c_seq ?_  | refine c_region ?_  | refine l_do ?_  | refine l_nil ?_  | refine x_then ?_  | refine x_thenE ?_  | refine x_blkN ?_  | refine x_blkE ?_  | refine wp_ret ?_  | refine wp_skip ?_  | refine wp_block ?_  | refine wp_exit ?_  | refine c_condT st rfl ?_  | refine c_condF st rfl ?_  | ((first | refine o_move st rfl rfl ?_  | refine o_assign st rfl rfl ?_); clear st; intro _ st)  | ((first | refine o_alloc st rfl ?_  | refine o_boxA st rfl rfl ?_ ); clear st; intro _ _ _ st)  | ((first | refine o_fieldAddr st rfl rfl ?_  | refine o_load2 st rfl (by repeat constructor) rfl ?_ ); clear st; intro _ st)  | ((first | refine o_storeS st rfl rfl rfl (by repeat constructor) rfl (by dsimp only [List.set]) ?_  | refine o_storeW st rfl rfl (by repeat constructor) rfl rfl rfl ?_); clear st; intro _ _ st)  | ((first | refine o_build3 st rfl rfl rfl rfl rfl rfl rfl ?_  | refine o_build0 st rfl ?_  | refine o_add64 st rfl rfl rfl (by omega) (by omega) ?_); clear st; intro _ st)  | (refine o_lss st rfl rfl rfl ?_ ?_ <;> clear st <;> intro _ _ st <;> (try (exfalso; omega)))))
    refine c_drawC (F := (fun _ _ a w' => ∃ (vp vw : Value) (Lp Lw : List Ent), GV 31 vp ((c'.take (i + 1)).map vPt) Lp ∧ GV 29 vw ((c'.take (i + 1)).map vWt) Lw ∧ St w Try.f98.ntmps a w' [(1, .float .f32 t), (2, .pointer (some ⟨p2, 0, none⟩)), (4, .pointer (some ⟨p4, 0, none⟩)), (5, .pointer (some ⟨p5, 0, none⟩)), (11, .int .i64 ((c.length : Int) - 1)), (12, .int .i64 (i : Nat))] (⟨p5, true, .cells [vp, vw].toArray 27 (0, 0)⟩ :: ⟨p4, true, .cells [.slice none 0 0, .slice none 0 0].toArray 27 (0, 0)⟩ :: ⟨p2, true, .cells [.slice (some ⟨x.b1, x.o1, none⟩) c.length x.cp, .slice (some ⟨x.b2, x.o2, none⟩) c.length x.cw].toArray 27 (0, 0)⟩ :: ⟨x.b2, false, .cells x.a2 x.t2 x.f2⟩ :: ⟨x.b1, false, .cells x.a1 x.t1 x.f1⟩ :: (Lw ++ Lp)))) (Lh := [⟨p5, true, .cells [vp, vw].toArray 27 (0, 0)⟩]) (last := 11) hm_ (by decide +kernel) (by decide +kernel) st ?_ ?_
    · clear st; intro _ st
      refine d_v 0 st (by repeat constructor) rfl (by decide +kernel) rfl (v_fieldAddr st rfl) ?_; clear st; intro _ st
      refine d_v 1 st (by repeat constructor) rfl (by decide +kernel) rfl (by first | exact v_load3 st rfl (by repeat constructor) | exact v_loadS st rfl (by repeat constructor) rfl) ?_; clear st; intro _ st
      refine d_v 2 st (by repeat constructor) rfl (by decide +kernel) rfl (v_move st rfl) ?_; clear st; intro _ st
      refine d_v 5 st (by repeat constructor) rfl (by decide +kernel) rfl (v_fieldAddr st rfl) ?_; clear st; intro _ st
      refine d_v 6 st (by repeat constructor) rfl (by decide +kernel) rfl (by first | exact v_load3 st rfl (by repeat constructor) | exact v_loadS st rfl (by repeat constructor) rfl) ?_; clear st; intro _ st
      refine d_v 7 st (by repeat constructor) rfl (by decide +kernel) rfl (v_move st rfl) ?_; clear st; intro _ st
      refine d_two 3 8 (by decide +kernel) rfl rfl ?_ ?_
      · skip
        refine o_buildSlice st rfl rfl rfl rfl rfl rfl ?_; clear st; intro _ _ _ st
        refine kh st (by repeat constructor) ?_
        refine d_two 4 8 (by decide +kernel) rfl rfl ?_ ?_
        · skip
          refine o_appendGV rfl st hGp rfl rfl (by repeat constructor) rfl (by rw [List.length_map, List.length_take]; omega) (by repeat (first | exact RemS.hereR  | apply RemS.there)) rfl ?_; clear st; intro b1 cap1 pad1 _ _ hp1 st
          refine kh st (by repeat constructor) ?_
          refine d_v 10 st (by repeat constructor) rfl (by decide +kernel) rfl (v_fieldAddr st rfl) ?_; clear st; intro _ st
          refine d_one 8 (by decide +kernel) rfl ?_
          refine o_buildSlice st rfl rfl rfl rfl rfl rfl ?_; clear st; intro _ _ _ st
          refine kh st (by repeat constructor) ?_
          refine d_one 9 (by decide +kernel) rfl ?_
          refine o_appendGV rfl st hGw rfl rfl (by repeat constructor) rfl (by rw [List.length_map, List.length_take]; omega) (by repeat (first | exact RemS.hereEnd  | apply RemS.there)) rfl ?_; clear st; intro b2 cap2 pad2 _ _ hp2 st
          refine kh st (by repeat constructor) ?_
          refine d_one 11 (by decide +kernel) rfl ?_
          (first | ((first | refine o_storeS st rfl rfl rfl (by repeat constructor) rfl (by dsimp only [List.set]) ?_  | refine o_storeW st rfl rfl (by repeat constructor) rfl rfl rfl ?_); clear st; intro _ _ st))
          refine k_last ?_
          refine d_one 12 (by decide +kernel) rfl ?_
          (first | (refine o_fieldAddr st rfl rfl ?_; clear st; intro _ st))
          refine k_last ?_
          refine d_one 13 (by decide +kernel) rfl ?_
          (first | ((first | refine o_storeS st rfl rfl rfl (by repeat constructor) rfl (by dsimp only [List.set]) ?_  | refine o_storeW st rfl rfl (by repeat constructor) rfl rfl rfl ?_); clear st; intro _ _ st))
          refine k_last ?_
          refine d_done (by decide +kernel) ?_
          refine ⟨rfl, ?_⟩
          rw [← take_map_one (f := vPt) hlt, ← take_map_one (f := vWt) hlt]
          exact ⟨_, _, _, _, GV.grown hp1, GV.grown hp2, (St.back2 (L := [_, _, _, _, _]) (st.subL (by repeat (first | exact List.Sublist.refl _  | apply List.Sublist.cons_cons  | apply List.Sublist.cons  | exact List.nil_sublist _)))).fit (by repeat (first | exact trivial  | refine And.intro rfl ?_))⟩
        · skip
          refine o_buildSlice st rfl rfl rfl rfl rfl rfl ?_; clear st; intro _ _ _ st
          refine kh st (by repeat constructor) ?_
          refine d_one 4 (by decide +kernel) rfl ?_
          refine o_appendGV rfl st hGp rfl rfl (by repeat constructor) rfl (by rw [List.length_map, List.length_take]; omega) (by repeat (first | exact RemS.hereR  | apply RemS.there)) rfl ?_; clear st; intro b1 cap1 pad1 _ _ hp1 st
          refine kh st (by repeat constructor) ?_
          refine d_v 10 st (by repeat constructor) rfl (by decide +kernel) rfl (v_fieldAddr st rfl) ?_; clear st; intro _ st
          refine d_one 9 (by decide +kernel) rfl ?_
          refine o_appendGV rfl st hGw rfl rfl (by repeat constructor) rfl (by rw [List.length_map, List.length_take]; omega) (by repeat (first | exact RemS.hereEnd  | apply RemS.there)) rfl ?_; clear st; intro b2 cap2 pad2 _ _ hp2 st
          refine kh st (by repeat constructor) ?_
          refine d_one 11 (by decide +kernel) rfl ?_
          (first | ((first | refine o_storeS st rfl rfl rfl (by repeat constructor) rfl (by dsimp only [List.set]) ?_  | refine o_storeW st rfl rfl (by repeat constructor) rfl rfl rfl ?_); clear st; intro _ _ st))
          refine k_last ?_
          refine d_one 12 (by decide +kernel) rfl ?_
          (first | (refine o_fieldAddr st rfl rfl ?_; clear st; intro _ st))
          refine k_last ?_
          refine d_one 13 (by decide +kernel) rfl ?_
          (first | ((first | refine o_storeS st rfl rfl rfl (by repeat constructor) rfl (by dsimp only [List.set]) ?_  | refine o_storeW st rfl rfl (by repeat constructor) rfl rfl rfl ?_); clear st; intro _ _ st))
          refine k_last ?_
          refine d_done (by decide +kernel) ?_
          refine ⟨rfl, ?_⟩
          rw [← take_map_one (f := vPt) hlt, ← take_map_one (f := vWt) hlt]
          exact ⟨_, _, _, _, GV.grown hp1, GV.grown hp2, (St.back2 (L := [_, _, _, _, _]) (st.subL (by repeat (first | exact List.Sublist.refl _  | apply List.Sublist.cons_cons  | apply List.Sublist.cons  | exact List.nil_sublist _)))).fit (by repeat (first | exact trivial  | refine And.intro rfl ?_))⟩
      · skip
        refine o_buildSlice st rfl rfl rfl rfl rfl rfl ?_; clear st; intro _ _ _ st
        refine kh st (by repeat constructor) ?_
        refine d_one 3 (by decide +kernel) rfl ?_
        refine o_buildSlice st rfl rfl rfl rfl rfl rfl ?_; clear st; intro _ _ _ st
        refine kh st (by repeat constructor) ?_
        refine d_one 4 (by decide +kernel) rfl ?_
        refine o_appendGV rfl st hGp rfl rfl (by repeat constructor) rfl (by rw [List.length_map, List.length_take]; omega) (by repeat (first | exact RemS.hereR  | apply RemS.there)) rfl ?_; clear st; intro b1 cap1 pad1 _ _ hp1 st
        refine kh st (by repeat constructor) ?_
        refine d_v 10 st (by repeat constructor) rfl (by decide +kernel) rfl (v_fieldAddr st rfl) ?_; clear st; intro _ st
        refine d_one 9 (by decide +kernel) rfl ?_
        refine o_appendGV rfl st hGw rfl rfl (by repeat constructor) rfl (by rw [List.length_map, List.length_take]; omega) (by repeat (first | exact RemS.hereEnd  | apply RemS.there)) rfl ?_; clear st; intro b2 cap2 pad2 _ _ hp2 st
        refine kh st (by repeat constructor) ?_
        refine d_one 11 (by decide +kernel) rfl ?_
        (first | ((first | refine o_storeS st rfl rfl rfl (by repeat constructor) rfl (by dsimp only [List.set]) ?_  | refine o_storeW st rfl rfl (by repeat constructor) rfl rfl rfl ?_); clear st; intro _ _ st))
        refine k_last ?_
        refine d_one 12 (by decide +kernel) rfl ?_
        (first | (refine o_fieldAddr st rfl rfl ?_; clear st; intro _ st))
        refine k_last ?_
        refine d_one 13 (by decide +kernel) rfl ?_
        (first | ((first | refine o_storeS st rfl rfl rfl (by repeat constructor) rfl (by dsimp only [List.set]) ?_  | refine o_storeW st rfl rfl (by repeat constructor) rfl rfl rfl ?_); clear st; intro _ _ st))
        refine k_last ?_
        refine d_done (by decide +kernel) ?_
        refine ⟨rfl, ?_⟩
        rw [← take_map_one (f := vPt) hlt, ← take_map_one (f := vWt) hlt]
        exact ⟨_, _, _, _, GV.grown hp1, GV.grown hp2, (St.back2 (L := [_, _, _, _, _]) (st.subL (by repeat (first | exact List.Sublist.refl _  | apply List.Sublist.cons_cons  | apply List.Sublist.cons  | exact List.nil_sublist _)))).fit (by repeat (first | exact trivial  | refine And.intro rfl ?_))⟩
    clear st
    rintro _ _ ⟨vp, vw, Lp, Lw, hGp, hGw, st⟩
    (repeat' (first | refine c_seq ?_  | refine c_region ?_  | refine l_do ?_  | refine l_nil ?_  | refine x_then ?_  | refine x_thenE ?_  | refine x_blkN ?_  | refine x_blkE ?_  | refine wp_ret ?_  | refine wp_skip ?_  | refine wp_block ?_  | refine wp_exit ?_  | refine c_condT st rfl ?_  | refine c_condF st rfl ?_  | ((first | refine o_move st rfl rfl ?_  | refine o_assign st rfl rfl ?_); clear st; intro _ st)  | ((first | refine o_alloc st rfl ?_  | refine o_boxA st rfl rfl ?_ ); clear st; intro _ _ _ st)  | ((first | refine o_fieldAddr st rfl rfl ?_  | refine o_load2 st rfl (by repeat constructor) rfl ?_ ); clear st; intro _ st)  | ((first | refine o_storeS st rfl rfl rfl (by repeat constructor) rfl (by dsimp only [List.set]) ?_  | refine o_storeW st rfl rfl (by repeat constructor) rfl rfl rfl ?_); clear st; intro _ _ st)  | ((first | refine o_build3 st rfl rfl rfl rfl rfl rfl rfl ?_  | refine o_build0 st rfl ?_  | refine o_add64 st rfl rfl rfl (by omega) (by omega) ?_); clear st; intro _ st)  | (refine o_lss st rfl rfl rfl ?_ ?_ <;> clear st <;> intro _ _ st <;> (try (exfalso; omega)))))
    refine ⟨c'.length - (i + 1), by omega, i + 1, p2, p4, p5, vp, vw, Lp, Lw, by omega, rfl, hGp, hGw, st.fit (by repeat (first | exact trivial  | refine And.intro rfl ?_))⟩
  · obtain rfl : i = c'.length := by omega
    rw [List.take_length] at hGp hGw
    rcases hGp with ⟨_, hn, _⟩ | ⟨b1, cap1, pad1, _, rfl, rfl, hp1⟩
    · have := congrArg List.length hn
      rw [List.length_map] at this
      simp at this
      rw [this] at hlen
      simp at hlen
      omega
    rcases hGw with ⟨_, hn, _⟩ | ⟨b2, cap2, pad2, _, rfl, rfl, hp2⟩
    · have := congrArg List.length hn
      rw [List.length_map] at this
      simp at this
      rw [this] at hlen
      simp at hlen
      omega
    simp only [List.cons_append, List.nil_append] at st
    (repeat' (first | refine c_seq ?_  | refine c_region ?_  | refine l_do ?_  | refine l_nil ?_  | refine x_then ?_  | refine x_thenE ?_  | refine x_blkN ?_  | refine x_blkE ?_  | refine wp_ret ?_  | refine wp_skip ?_  | refine wp_block ?_  | refine wp_exit ?_  | refine c_condT st rfl ?_  | refine c_condF st rfl ?_  | ((first | refine o_move st rfl rfl ?_  | refine o_assign st rfl rfl ?_); clear st; intro _ st)  | ((first | refine o_alloc st rfl ?_  | refine o_boxA st rfl rfl ?_ ); clear st; intro _ _ _ st)  | ((first | refine o_fieldAddr st rfl rfl ?_  | refine o_load2 st rfl (by repeat constructor) rfl ?_ ); clear st; intro _ st)  | ((first | refine o_storeS st rfl rfl rfl (by repeat constructor) rfl (by dsimp only [List.set]) ?_  | refine o_storeW st rfl rfl (by repeat constructor) rfl rfl rfl ?_); clear st; intro _ _ st)  | ((first | refine o_build3 st rfl rfl rfl rfl rfl rfl rfl ?_  | refine o_build0 st rfl ?_  | refine o_add64 st rfl rfl rfl (by omega) (by omega) ?_); clear st; intro _ st)  | (refine o_lss st rfl rfl rfl ?_ ?_ <;> clear st <;> intro _ _ st <;> (try (exfalso; omega)))))
    refine post1 st Try.results98 (rd_c st rfl (by repeat constructor) rfl) ?_
    have hne := st.ne_of (e1 := ⟨b2, true, oV 29 (c'.map vWt) pad2⟩) (e2 := ⟨b1, true, oV 31 (c'.map vPt) pad1⟩) rfl (by repeat (first | exact List.Sublist.refl _  | apply List.Sublist.cons_cons  | apply List.Sublist.cons  | exact List.nil_sublist _))
    exact ⟨_, b1, _, b2, _, rfl, ⟨cap1, cap2, pad1, pad2, by rw [List.length_map, List.length_map], rfl, rfl⟩, st.ex2 (by repeat constructor) (by repeat constructor) hne.symm⟩
end Go.Proofs.Ytonbcbhnnflohaa
