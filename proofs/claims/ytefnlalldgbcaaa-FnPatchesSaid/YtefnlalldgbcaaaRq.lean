/-
  Contracts: patches raised, the program's side.
-/
import Derived.Test.YtefnlalldgbcaaaRp
namespace Go.Proofs.Ytefnlalldgbcaaa
open Go.RowKit
/-- A call that makes a list of spots, with its room, and gives it if all are finite. -/
def CLsC (P : Program) (f : FuncId) (vs : List Value) (w : World) (ss : List S3) : Prop := CM1 P f vs w fun v b o => ∃ bs cap pad, bs.length ≤ cap ∧ v = (if finL ss then .tuple #[.slice (some ⟨b, 0, none⟩) bs.length cap, .bool true] else .tuple #[.slice none 0 0, .bool false]) ∧ o = oS bs pad ∧ IsSL bs ss
attribute [local irreducible] Code.wp wpList Oper.wp Calls bodyPost Exit.then Exit.inBlock

theorem spots_at {cs : Array Value} {off g i j : Nat} {bs : List B3} (hsp : SpotsIn cs off bs) (h : plc g i j < bs.length) : cs[off + plc g 0 j * 3 + i * 3]? = some (.float .f32 bs[plc g i j].1) ∧ cs[off + plc g 0 j * 3 + i * 3 + 1]? = some (.float .f32 bs[plc g i j].2.1) ∧ cs[off + plc g 0 j * 3 + i * 3 + 2]? = some (.float .f32 bs[plc g i j].2.2) := by
  have := hsp (plc g i j) _ (List.getElem?_eq_getElem h)
  have e : off + plc g 0 j * 3 + i * 3 = off + plc g i j * 3 := by rw [plc_add g i j]; omega
  rw [e]
  exact this
theorem spots_atI {cs : Array Value} {off g i j : Nat} {bs : List B3} {x : Int} (hsp : SpotsIn cs off bs) (h : plc g i j < bs.length) (hx : x = (i : Int)) : cs[off + plc g 0 j * 3 + x.toNat * 3]? = some (.float .f32 bs[plc g i j].1) ∧ cs[off + plc g 0 j * 3 + x.toNat * 3 + 1]? = some (.float .f32 bs[plc g i j].2.1) ∧ cs[off + plc g 0 j * 3 + x.toNat * 3 + 2]? = some (.float .f32 bs[plc g i j].2.2) := by
  subst hx
  exact spots_at hsp h
theorem rowV_at {blk off cap g k j : Nat} {pad : List Value} {x : Int} (hx : x = (j : Int)) (h : j < k) : (rowVs blk off cap g k ++ pad).toArray[0 + x.toNat * 1]? = some (.slice (some ⟨blk, off + plc g 0 j * 3, none⟩) (g + 1 - j) (cap - plc g 0 j)) := by
  subst hx
  have e : 0 + ((j : Nat) : Int).toNat * 1 = j := by simp
  rw [e]
  exact oR_get h

set_option maxRecDepth 100000 in
set_option maxHeartbeats 32000000 in
theorem implRaise_okC (bs : List B3) (ss : List S3) (h : IsSL bs ss) (base : Option Addr) (cap : Nat) (hcap : bs.length ≤ cap) (d : Int) (hq : patchC ss d 2 = true) (w : World) (hr : RdS w base bs) (hlen : bs.length < 1000000000) :
    CLsC Try.prog 59 [.slice base bs.length cap, .int .i64 d] w (raiseL ss d) := by
  refine enter Try.func59 rfl rfl rfl rfl ?_
  intro a st
  have hc := fun (w : World) hr => isPatch_ok bs ss h base cap d 2 (by omega) w hr hlen
  rw [hq] at hc
  obtain ⟨g, rfl, hg1, hg2, hg3, hsl, _⟩ := patch_nums (by omega) hq
  have hbl := h.len
  have htp : 0 < tot g := by have := plc_le (g := g) (k := 0) (by omega) (by omega); omega
  rcases id hr with rfl | ⟨ba, off, cs, ty, fr, rfl, hw, hsp⟩
  · simp at hbl; omega
  have hR : raiseL ss g = rAll ss g (g + 2) := rfl
  rw [hR]
  have hbt : bs.length = tot g := by omega
  have hro := fun (w : World) => rowsOf_ok g hg3 ba off cap (by omega) w
  rw [← hbt] at hro
  have st := st.addOld hw
  (repeat' (first | (refine o_callV st rfl (hc _ (hr.mono st.below)) rfl ?_; clear st; intro _ _ st)  | (refine o_callM1 st rfl (hro _) rfl ?_; clear st; rintro _ rb _ ⟨rc, rpad, rfl, rfl⟩ _ _ st)  | (refine o_buildSlice0S st rfl ?_; clear st; intro blk0 _ _ st)  | refine c_seq ?_  | refine c_region ?_  | refine l_do ?_  | refine l_nil ?_  | refine x_then ?_  | refine x_thenE ?_  | refine x_blkN ?_  | refine x_blkE ?_  | refine wp_ret ?_  | refine wp_skip ?_  | refine wp_block ?_  | refine wp_exit ?_  | refine c_condT st rfl ?_  | refine c_condF st rfl ?_  | ((first | refine o_move st rfl rfl ?_  | refine o_assign st rfl rfl ?_); clear st; intro _ st)  | (refine o_alloc st rfl ?_; clear st; intro _ _ _ st)  | ((first | refine o_load3 st rfl (by repeat constructor) rfl ?_ ); clear st; intro _ st)  | ((first | refine o_storeW st rfl rfl (by repeat constructor) rfl rfl rfl ?_); clear st; intro _ _ st)  | ((first | refine o_build0 st rfl ?_  | refine o_extract st rfl rfl rfl ?_  | refine o_add64 st rfl rfl rfl (by omega) (by omega) ?_  | refine o_sub64 st rfl rfl rfl (by omega) (by omega) ?_  | refine o_notT st rfl rfl ?_ ); clear st; intro _ st)  | (refine o_fop rfl st rfl rfl (by first | assumption | exact Is_ofInt _ _ | exact Is_lit (by decide +kernel)) (by first | assumption | exact Is_ofInt _ _ | exact Is_lit (by decide +kernel)) rfl ?_; clear st; intro _ _ _ _ st)  | ((first | refine o_lss st rfl rfl rfl ?_ ?_  | refine o_gtr st rfl rfl rfl ?_ ?_) <;> clear st <;> intro _ _ st <;> (try (exfalso; omega)))))
  refine wp_loop_ghost (fun z a w' => ∃ (j blk cp : Nat) (os : List B3) (pad : List Value), j ≤ g + 2 ∧ z = g + 2 - j ∧ IsSL os (rAll ss g j) ∧ (cS os ++ pad).length = cp * 3 ∧ St w Try.f59.ntmps a w' [(6, .slice (some ⟨rb, 0, none⟩) (g + 1) rc), (7, .int .i64 ((g : Int) + 1)), (8, .slice (some ⟨blk, 0, none⟩) os.length cp), (23, .int .i64 ((g : Int) + 1 + 1)), (24, .int .i64 (j : Int))] [⟨blk, true, oS os pad⟩, ⟨rb, true, oR (rowVs ba off cap g (g + 1)) rpad⟩, ⟨ba, false, .cells cs ty fr⟩]) (g + 2) ⟨0, blk0, 0, [], [], by omega, by omega, IsSL_nil, rfl, (st.fit (by repeat (first | exact trivial  | refine And.intro rfl ?_))).subL (by repeat (first | exact List.Sublist.refl _  | apply List.Sublist.cons_cons  | apply List.Sublist.cons  | exact List.nil_sublist _))⟩ ?_
  clear st
  rintro z a w' ⟨j, blk, cp, os, pad, hj, rfl, hI, hp, st⟩
  have hl1 := hI.len
  have hle := rAll_le ss g j
  have hjb : j * (g + 2) ≤ 4 * 4 := Nat.mul_le_mul (by omega) (by omega)
  by_cases hlt : j < g + 2
  · (repeat' (first | refine c_seq ?_  | refine c_region ?_  | refine l_do ?_  | refine l_nil ?_  | refine x_then ?_  | refine x_thenE ?_  | refine x_blkN ?_  | refine x_blkE ?_  | refine wp_ret ?_  | refine wp_skip ?_  | refine wp_block ?_  | refine wp_exit ?_  | refine c_condT st rfl ?_  | refine c_condF st rfl ?_  | ((first | refine o_move st rfl rfl ?_  | refine o_assign st rfl rfl ?_); clear st; intro _ st)  | (refine o_alloc st rfl ?_; clear st; intro _ _ _ st)  | ((first | refine o_load3 st rfl (by repeat constructor) rfl ?_ ); clear st; intro _ st)  | ((first | refine o_storeW st rfl rfl (by repeat constructor) rfl rfl rfl ?_); clear st; intro _ _ st)  | ((first | refine o_build0 st rfl ?_  | refine o_extract st rfl rfl rfl ?_  | refine o_add64 st rfl rfl rfl (by omega) (by omega) ?_  | refine o_sub64 st rfl rfl rfl (by omega) (by omega) ?_  | refine o_notT st rfl rfl ?_ ); clear st; intro _ st)  | (refine o_fop rfl st rfl rfl (by first | assumption | exact Is_ofInt _ _ | exact Is_lit (by decide +kernel)) (by first | assumption | exact Is_ofInt _ _ | exact Is_lit (by decide +kernel)) rfl ?_; clear st; intro _ _ _ _ st)  | ((first | refine o_lss st rfl rfl rfl ?_ ?_  | refine o_gtr st rfl rfl rfl ?_ ?_) <;> clear st <;> intro _ _ st <;> (try (exfalso; omega)))))
    refine wp_loop_ghost (fun z a w' => ∃ (i blk cp : Nat) (os : List B3) (pad : List Value), i + j ≤ g + 2 ∧ z = g + 2 - j - i ∧ IsSL os (rAll ss g j ++ rRow ss g j i) ∧ (cS os ++ pad).length = cp * 3 ∧ St w Try.f59.ntmps a w' [(6, .slice (some ⟨rb, 0, none⟩) (g + 1) rc), (7, .int .i64 ((g : Int) + 1)), (8, .slice (some ⟨blk, 0, none⟩) os.length cp), (9, .int .i64 (j : Int)), (23, .int .i64 ((g : Int) + 1 + 1)), (24, .int .i64 (j : Int)), (30, .int .i64 ((g : Int) + 1 + 1 - (j : Int))), (31, .int .i64 (i : Int))] [⟨blk, true, oS os pad⟩, ⟨rb, true, oR (rowVs ba off cap g (g + 1)) rpad⟩, ⟨ba, false, .cells cs ty fr⟩]) (g + 2 - j) ⟨0, blk, cp, os, pad, by omega, by omega, by simpa [rRow] using hI, hp, (st.fit (by repeat (first | exact trivial  | refine And.intro rfl ?_))).subL (by repeat (first | exact List.Sublist.refl _  | apply List.Sublist.cons_cons  | apply List.Sublist.cons  | exact List.nil_sublist _))⟩ ?_
    clear st hp hI hl1 blk cp os pad
    rintro z a w' ⟨i, blk, cp, os, pad, hi, rfl, hI, hp, st⟩
    have hl1 := hI.len
    rw [List.length_append, rRow_length] at hl1
    by_cases hlt' : i + j < g + 2
    · (repeat' (first | (refine c_meet (c1 := Code.seq (Code.region 13 _ _) _) (fun a w' => ∃ (sb : Nat) (b1 : B3), IsS b1 (raise1 ss g i j) ∧ St w Try.f59.ntmps a w' [(6, .slice (some ⟨rb, 0, none⟩) (g + 1) rc), (7, .int .i64 ((g : Int) + 1)), (8, .slice (some ⟨blk, 0, none⟩) os.length cp), (9, .int .i64 (j : Int)), (10, .int .i64 (i : Int)), (11, .pointer (some ⟨sb, 0, none⟩)), (23, .int .i64 ((g : Int) + 1 + 1)), (24, .int .i64 (j : Int)), (30, .int .i64 ((g : Int) + 1 + 1 - (j : Int))), (31, .int .i64 (i : Int))] [⟨sb, true, oB b1 26⟩, ⟨blk, true, oS os pad⟩, ⟨rb, true, oR (rowVs ba off cap g (g + 1)) rpad⟩, ⟨ba, false, .cells cs ty fr⟩]) ?_ ?_)  | refine c_seq ?_  | refine c_region ?_  | refine l_do ?_  | refine l_nil ?_  | refine x_then ?_  | refine x_thenE ?_  | refine x_blkN ?_  | refine x_blkE ?_  | refine wp_ret ?_  | refine wp_skip ?_  | refine wp_block ?_  | refine wp_exit ?_  | refine c_condT st rfl ?_  | refine c_condF st rfl ?_  | ((first | refine o_move st rfl rfl ?_  | refine o_assign st rfl rfl ?_); clear st; intro _ st)  | (refine o_alloc st rfl ?_; clear st; intro _ _ _ st)  | ((first | refine o_load3 st rfl (by repeat constructor) rfl ?_ ); clear st; intro _ st)  | ((first | refine o_storeW st rfl rfl (by repeat constructor) rfl rfl rfl ?_); clear st; intro _ _ st)  | ((first | refine o_build0 st rfl ?_  | refine o_extract st rfl rfl rfl ?_  | refine o_add64 st rfl rfl rfl (by omega) (by omega) ?_  | refine o_sub64 st rfl rfl rfl (by omega) (by omega) ?_  | refine o_notT st rfl rfl ?_ ); clear st; intro _ st)  | (refine o_fop rfl st rfl rfl (by first | assumption | exact Is_ofInt _ _ | exact Is_lit (by decide +kernel)) (by first | assumption | exact Is_ofInt _ _ | exact Is_lit (by decide +kernel)) rfl ?_; clear st; intro _ _ _ _ st)  | ((first | refine o_lss st rfl rfl rfl ?_ ?_  | refine o_gtr st rfl rfl rfl ?_ ?_) <;> clear st <;> intro _ _ st <;> (try (exfalso; omega)))))
      · have hij : i + j < g + 1 := by omega
        have hpl : plc g i j < bs.length := by have := plc_lt hg1 (by omega) (i := i) (j := j) (by omega); rw [hbl, hsl]; exact this
        have hI1 := h.getD hpl
        have hv := spots_at hsp hpl
        have hv4 := rowV_at (blk := ba) (off := off) (cap := cap) (g := g) (k := g + 1) (pad := rpad) (x := (j : Int)) rfl (by omega : j < g + 1)
        have hra : raise1 ss g i j = addS z3 (timesS (ss.getD (plc g i j) z3) (shP (((g : Int) + 1) - (i : Int) - (j : Int)) ((g : Int) + 1))) := by unfold raise1; rw [if_pos hij]
        rw [hra]
        refine c_drawA (last := 19) hm_ (by decide +kernel) (by decide +kernel) st ?_; clear st; intro _ st
        refine d_v 0 st (by repeat constructor) rfl (by decide +kernel) rfl (by first | exact v_load3 st rfl (by repeat constructor) | exact v_loadS st rfl (by repeat constructor) rfl) ?_; clear st; intro _ st
        refine d_v 1 st (by repeat constructor) rfl (by decide +kernel) rfl (v_move st rfl) ?_; clear st; intro _ st
        refine d_v 2 st (by repeat constructor) rfl (by decide +kernel) rfl (v_move st rfl) ?_; clear st; intro _ st
        refine d_v 3 st (by repeat constructor) rfl (by decide +kernel) rfl (v_indexAddr st rfl rfl (by omega) (by omega)) ?_; clear st; intro _ st
        refine d_v 4 st (by repeat constructor) rfl (by decide +kernel) rfl (v_loadS st rfl (by repeat constructor) hv4) ?_; clear st; intro _ st
        refine d_v 5 st (by repeat constructor) rfl (by decide +kernel) rfl (v_move st rfl) ?_; clear st; intro _ st
        refine d_v 6 st (by repeat constructor) rfl (by decide +kernel) rfl (v_indexAddr st rfl rfl (by omega) (by omega)) ?_; clear st; intro _ st
        refine d_v 7 st (by repeat constructor) rfl (by decide +kernel) rfl (v_loadSp st rfl (by repeat constructor) hv) ?_; clear st; intro _ st
        refine d_v 8 st (by repeat constructor) rfl (by decide +kernel) rfl (v_move st rfl) ?_; clear st; intro _ st
        refine d_v 9 st (by repeat constructor) rfl (by decide +kernel) rfl (v_move st rfl) ?_; clear st; intro _ st
        refine d_v 10 st (by repeat constructor) rfl (by decide +kernel) rfl (v_sub64 st rfl rfl (by omega) (by omega)) ?_; clear st; intro _ st
        refine d_v 11 st (by repeat constructor) rfl (by decide +kernel) rfl (v_move st rfl) ?_; clear st; intro _ st
        refine d_v 12 st (by repeat constructor) rfl (by decide +kernel) rfl (v_sub64 st rfl rfl (by omega) (by omega)) ?_; clear st; intro _ st
        refine d_v 13 st (by repeat constructor) rfl (by decide +kernel) rfl (v_intFloat st rfl) ?_; clear st; intro _ st
        refine d_v 14 st (by repeat constructor) rfl (by decide +kernel) rfl (v_move st rfl) ?_; clear st; intro _ st
        refine d_v 15 st (by repeat constructor) rfl (by decide +kernel) rfl (v_intFloat st rfl) ?_; clear st; intro _ st
        refine d_one 16 (by decide +kernel) rfl ?_
        (first | (refine o_fop rfl st rfl rfl (by first | assumption | exact Is_ofInt _ _ | exact Is_lit (by decide +kernel)) (by first | assumption | exact Is_ofInt _ _ | exact Is_lit (by decide +kernel)) rfl ?_; clear st; intro _ _ _ _ st))
        refine kh st (by repeat constructor) ?_
        refine d_one 17 (by decide +kernel) rfl ?_
        refine o_callSb st rfl (times_ok _ _ hI1 _ _ (by assumption) _) rfl ?_; clear st; intro b2 hb2 _ _ st
        refine kh st (by repeat constructor) ?_
        refine d_one 18 (by decide +kernel) rfl ?_
        refine o_callSb st rfl (add_ok (0, 0, 0) b2 _ _ IsS_z hb2 _) rfl ?_; clear st; intro b3 hb3 _ _ st
        refine kh st (by repeat constructor) ?_
        refine d_one 19 (by decide +kernel) rfl ?_
        (first | ((first | refine o_storeW st rfl rfl (by repeat constructor) rfl rfl rfl ?_); clear st; intro _ _ st))
        refine k_last ?_
        refine d_done (by decide +kernel) ?_
        exact ⟨rfl, _, b3, hb3, (st.fit (by repeat (first | exact trivial  | refine And.intro rfl ?_))).subL (by repeat (first | exact List.Sublist.refl _  | apply List.Sublist.cons_cons  | apply List.Sublist.cons  | exact List.nil_sublist _))⟩
      · exact ⟨rfl, _, (0, 0, 0), (by unfold raise1; rw [if_neg (by omega)]; exact IsS_z), (st.fit (by repeat (first | exact trivial  | refine And.intro rfl ?_))).subL (by repeat (first | exact List.Sublist.refl _  | apply List.Sublist.cons_cons  | apply List.Sublist.cons  | exact List.nil_sublist _))⟩
      · clear st
        rintro a w' ⟨sb, b1, hb1, st⟩
        refine c_meet (fun a w' => ∃ (b1 : B3), IsS b1 (raise2 ss g i j) ∧ St w Try.f59.ntmps a w' [(6, .slice (some ⟨rb, 0, none⟩) (g + 1) rc), (7, .int .i64 ((g : Int) + 1)), (8, .slice (some ⟨blk, 0, none⟩) os.length cp), (9, .int .i64 (j : Int)), (10, .int .i64 (i : Int)), (11, .pointer (some ⟨sb, 0, none⟩)), (23, .int .i64 ((g : Int) + 1 + 1)), (24, .int .i64 (j : Int)), (30, .int .i64 ((g : Int) + 1 + 1 - (j : Int))), (31, .int .i64 (i : Int))] [⟨sb, true, oB b1 26⟩, ⟨blk, true, oS os pad⟩, ⟨rb, true, oR (rowVs ba off cap g (g + 1)) rpad⟩, ⟨ba, false, .cells cs ty fr⟩]) ?_ ?_
        · by_cases hi0 : 0 < i
          · have hpl : plc g (i - 1) j < bs.length := by have := plc_lt hg1 (by omega) (i := i - 1) (j := j) (by omega); rw [hbl, hsl]; exact this
            have hI1 := h.getD hpl
            have hv := spots_atI (x := (i : Int) - 1) hsp hpl (by omega)
            have hv4 := rowV_at (blk := ba) (off := off) (cap := cap) (g := g) (k := g + 1) (pad := rpad) (x := (j : Int)) rfl (by omega : j < g + 1)
            have hra : raise2 ss g i j = addS (raise1 ss g i j) (timesS (ss.getD (plc g (i - 1) j) z3) (shP i ((g : Int) + 1))) := by unfold raise2; rw [if_pos hi0]
            rw [hra]
            (repeat' (first | refine c_seq ?_  | refine c_region ?_  | refine l_do ?_  | refine l_nil ?_  | refine x_then ?_  | refine x_thenE ?_  | refine x_blkN ?_  | refine x_blkE ?_  | refine wp_ret ?_  | refine wp_skip ?_  | refine wp_block ?_  | refine wp_exit ?_  | refine c_condT st rfl ?_  | refine c_condF st rfl ?_  | ((first | refine o_move st rfl rfl ?_  | refine o_assign st rfl rfl ?_); clear st; intro _ st)  | (refine o_alloc st rfl ?_; clear st; intro _ _ _ st)  | ((first | refine o_load3 st rfl (by repeat constructor) rfl ?_ ); clear st; intro _ st)  | ((first | refine o_storeW st rfl rfl (by repeat constructor) rfl rfl rfl ?_); clear st; intro _ _ st)  | ((first | refine o_build0 st rfl ?_  | refine o_extract st rfl rfl rfl ?_  | refine o_add64 st rfl rfl rfl (by omega) (by omega) ?_  | refine o_sub64 st rfl rfl rfl (by omega) (by omega) ?_  | refine o_notT st rfl rfl ?_ ); clear st; intro _ st)  | (refine o_fop rfl st rfl rfl (by first | assumption | exact Is_ofInt _ _ | exact Is_lit (by decide +kernel)) (by first | assumption | exact Is_ofInt _ _ | exact Is_lit (by decide +kernel)) rfl ?_; clear st; intro _ _ _ _ st)  | ((first | refine o_lss st rfl rfl rfl ?_ ?_  | refine o_gtr st rfl rfl rfl ?_ ?_) <;> clear st <;> intro _ _ st <;> (try (exfalso; omega)))))
            refine c_drawA (last := 16) hm_ (by decide +kernel) (by decide +kernel) st ?_; clear st; intro _ st
            refine d_v 0 st (by repeat constructor) rfl (by decide +kernel) rfl (by first | exact v_load3 st rfl (by repeat constructor) | exact v_loadS st rfl (by repeat constructor) rfl) ?_; clear st; intro _ st
            refine d_v 1 st (by repeat constructor) rfl (by decide +kernel) rfl (v_move st rfl) ?_; clear st; intro _ st
            refine d_v 2 st (by repeat constructor) rfl (by decide +kernel) rfl (v_move st rfl) ?_; clear st; intro _ st
            refine d_v 3 st (by repeat constructor) rfl (by decide +kernel) rfl (v_indexAddr st rfl rfl (by omega) (by omega)) ?_; clear st; intro _ st
            refine d_v 4 st (by repeat constructor) rfl (by decide +kernel) rfl (v_loadS st rfl (by repeat constructor) hv4) ?_; clear st; intro _ st
            refine d_v 5 st (by repeat constructor) rfl (by decide +kernel) rfl (v_move st rfl) ?_; clear st; intro _ st
            refine d_v 6 st (by repeat constructor) rfl (by decide +kernel) rfl (v_sub64 st rfl rfl (by omega) (by omega)) ?_; clear st; intro _ st
            refine d_v 7 st (by repeat constructor) rfl (by decide +kernel) rfl (v_indexAddr st rfl rfl (by omega) (by omega)) ?_; clear st; intro _ st
            refine d_v 8 st (by repeat constructor) rfl (by decide +kernel) rfl (v_loadSp st rfl (by repeat constructor) hv) ?_; clear st; intro _ st
            refine d_v 9 st (by repeat constructor) rfl (by decide +kernel) rfl (v_move st rfl) ?_; clear st; intro _ st
            refine d_v 10 st (by repeat constructor) rfl (by decide +kernel) rfl (v_intFloat st rfl) ?_; clear st; intro _ st
            refine d_v 11 st (by repeat constructor) rfl (by decide +kernel) rfl (v_move st rfl) ?_; clear st; intro _ st
            refine d_v 12 st (by repeat constructor) rfl (by decide +kernel) rfl (v_intFloat st rfl) ?_; clear st; intro _ st
            refine d_one 13 (by decide +kernel) rfl ?_
            (first | (refine o_fop rfl st rfl rfl (by first | assumption | exact Is_ofInt _ _ | exact Is_lit (by decide +kernel)) (by first | assumption | exact Is_ofInt _ _ | exact Is_lit (by decide +kernel)) rfl ?_; clear st; intro _ _ _ _ st))
            refine kh st (by repeat constructor) ?_
            refine d_one 14 (by decide +kernel) rfl ?_
            refine o_callSb st rfl (times_ok _ _ hI1 _ _ (by assumption) _) rfl ?_; clear st; intro b2 hb2 _ _ st
            refine kh st (by repeat constructor) ?_
            refine d_one 15 (by decide +kernel) rfl ?_
            refine o_callSb st rfl (add_ok b1 b2 _ _ hb1 hb2 _) rfl ?_; clear st; intro b3 hb3 _ _ st
            refine kh st (by repeat constructor) ?_
            refine d_one 16 (by decide +kernel) rfl ?_
            (first | ((first | refine o_storeW st rfl rfl (by repeat constructor) rfl rfl rfl ?_); clear st; intro _ _ st))
            refine k_last ?_
            refine d_done (by decide +kernel) ?_
            exact ⟨rfl, b3, hb3, (st.fit (by repeat (first | exact trivial  | refine And.intro rfl ?_))).subL (by repeat (first | exact List.Sublist.refl _  | apply List.Sublist.cons_cons  | apply List.Sublist.cons  | exact List.nil_sublist _))⟩
          · (repeat' (first | refine c_seq ?_  | refine c_region ?_  | refine l_do ?_  | refine l_nil ?_  | refine x_then ?_  | refine x_thenE ?_  | refine x_blkN ?_  | refine x_blkE ?_  | refine wp_ret ?_  | refine wp_skip ?_  | refine wp_block ?_  | refine wp_exit ?_  | refine c_condT st rfl ?_  | refine c_condF st rfl ?_  | ((first | refine o_move st rfl rfl ?_  | refine o_assign st rfl rfl ?_); clear st; intro _ st)  | (refine o_alloc st rfl ?_; clear st; intro _ _ _ st)  | ((first | refine o_load3 st rfl (by repeat constructor) rfl ?_ ); clear st; intro _ st)  | ((first | refine o_storeW st rfl rfl (by repeat constructor) rfl rfl rfl ?_); clear st; intro _ _ st)  | ((first | refine o_build0 st rfl ?_  | refine o_extract st rfl rfl rfl ?_  | refine o_add64 st rfl rfl rfl (by omega) (by omega) ?_  | refine o_sub64 st rfl rfl rfl (by omega) (by omega) ?_  | refine o_notT st rfl rfl ?_ ); clear st; intro _ st)  | (refine o_fop rfl st rfl rfl (by first | assumption | exact Is_ofInt _ _ | exact Is_lit (by decide +kernel)) (by first | assumption | exact Is_ofInt _ _ | exact Is_lit (by decide +kernel)) rfl ?_; clear st; intro _ _ _ _ st)  | ((first | refine o_lss st rfl rfl rfl ?_ ?_  | refine o_gtr st rfl rfl rfl ?_ ?_) <;> clear st <;> intro _ _ st <;> (try (exfalso; omega)))))
            exact ⟨rfl, b1, (by unfold raise2; rw [if_neg hi0]; exact hb1), (st.fit (by repeat (first | exact trivial  | refine And.intro rfl ?_))).subL (by repeat (first | exact List.Sublist.refl _  | apply List.Sublist.cons_cons  | apply List.Sublist.cons  | exact List.nil_sublist _))⟩
        · clear st hb1 b1
          rintro a w' ⟨b1, hb1, st⟩
          refine c_meet (fun a w' => ∃ (b1 : B3), IsS b1 (raise3 ss g i j) ∧ St w Try.f59.ntmps a w' [(6, .slice (some ⟨rb, 0, none⟩) (g + 1) rc), (7, .int .i64 ((g : Int) + 1)), (8, .slice (some ⟨blk, 0, none⟩) os.length cp), (9, .int .i64 (j : Int)), (10, .int .i64 (i : Int)), (11, .pointer (some ⟨sb, 0, none⟩)), (23, .int .i64 ((g : Int) + 1 + 1)), (24, .int .i64 (j : Int)), (30, .int .i64 ((g : Int) + 1 + 1 - (j : Int))), (31, .int .i64 (i : Int))] [⟨sb, true, oB b1 26⟩, ⟨blk, true, oS os pad⟩, ⟨rb, true, oR (rowVs ba off cap g (g + 1)) rpad⟩, ⟨ba, false, .cells cs ty fr⟩]) ?_ ?_
          · by_cases hj0 : 0 < j
            · have hpl : plc g i (j - 1) < bs.length := by have := plc_lt hg1 (by omega) (i := i) (j := j - 1) (by omega); rw [hbl, hsl]; exact this
              have hI1 := h.getD hpl
              have hv := spots_at hsp hpl
              have hv4 := rowV_at (blk := ba) (off := off) (cap := cap) (g := g) (k := g + 1) (pad := rpad) (x := (j : Int) - 1) (by omega) (by omega : j - 1 < g + 1)
              have hra : raise3 ss g i j = addS (raise2 ss g i j) (timesS (ss.getD (plc g i (j - 1)) z3) (shP j ((g : Int) + 1))) := by unfold raise3; rw [if_pos hj0]
              rw [hra]
              (repeat' (first | refine c_seq ?_  | refine c_region ?_  | refine l_do ?_  | refine l_nil ?_  | refine x_then ?_  | refine x_thenE ?_  | refine x_blkN ?_  | refine x_blkE ?_  | refine wp_ret ?_  | refine wp_skip ?_  | refine wp_block ?_  | refine wp_exit ?_  | refine c_condT st rfl ?_  | refine c_condF st rfl ?_  | ((first | refine o_move st rfl rfl ?_  | refine o_assign st rfl rfl ?_); clear st; intro _ st)  | (refine o_alloc st rfl ?_; clear st; intro _ _ _ st)  | ((first | refine o_load3 st rfl (by repeat constructor) rfl ?_ ); clear st; intro _ st)  | ((first | refine o_storeW st rfl rfl (by repeat constructor) rfl rfl rfl ?_); clear st; intro _ _ st)  | ((first | refine o_build0 st rfl ?_  | refine o_extract st rfl rfl rfl ?_  | refine o_add64 st rfl rfl rfl (by omega) (by omega) ?_  | refine o_sub64 st rfl rfl rfl (by omega) (by omega) ?_  | refine o_notT st rfl rfl ?_ ); clear st; intro _ st)  | (refine o_fop rfl st rfl rfl (by first | assumption | exact Is_ofInt _ _ | exact Is_lit (by decide +kernel)) (by first | assumption | exact Is_ofInt _ _ | exact Is_lit (by decide +kernel)) rfl ?_; clear st; intro _ _ _ _ st)  | ((first | refine o_lss st rfl rfl rfl ?_ ?_  | refine o_gtr st rfl rfl rfl ?_ ?_) <;> clear st <;> intro _ _ st <;> (try (exfalso; omega)))))
              refine c_drawA (last := 16) hm_ (by decide +kernel) (by decide +kernel) st ?_; clear st; intro _ st
              refine d_v 0 st (by repeat constructor) rfl (by decide +kernel) rfl (by first | exact v_load3 st rfl (by repeat constructor) | exact v_loadS st rfl (by repeat constructor) rfl) ?_; clear st; intro _ st
              refine d_v 1 st (by repeat constructor) rfl (by decide +kernel) rfl (v_move st rfl) ?_; clear st; intro _ st
              refine d_v 2 st (by repeat constructor) rfl (by decide +kernel) rfl (v_move st rfl) ?_; clear st; intro _ st
              refine d_v 3 st (by repeat constructor) rfl (by decide +kernel) rfl (v_sub64 st rfl rfl (by omega) (by omega)) ?_; clear st; intro _ st
              refine d_v 4 st (by repeat constructor) rfl (by decide +kernel) rfl (v_indexAddr st rfl rfl (by omega) (by omega)) ?_; clear st; intro _ st
              refine d_v 5 st (by repeat constructor) rfl (by decide +kernel) rfl (v_loadS st rfl (by repeat constructor) hv4) ?_; clear st; intro _ st
              refine d_v 6 st (by repeat constructor) rfl (by decide +kernel) rfl (v_move st rfl) ?_; clear st; intro _ st
              refine d_v 7 st (by repeat constructor) rfl (by decide +kernel) rfl (v_indexAddr st rfl rfl (by omega) (by omega)) ?_; clear st; intro _ st
              refine d_v 8 st (by repeat constructor) rfl (by decide +kernel) rfl (v_loadSp st rfl (by repeat constructor) hv) ?_; clear st; intro _ st
              refine d_v 9 st (by repeat constructor) rfl (by decide +kernel) rfl (v_move st rfl) ?_; clear st; intro _ st
              refine d_v 10 st (by repeat constructor) rfl (by decide +kernel) rfl (v_intFloat st rfl) ?_; clear st; intro _ st
              refine d_v 11 st (by repeat constructor) rfl (by decide +kernel) rfl (v_move st rfl) ?_; clear st; intro _ st
              refine d_v 12 st (by repeat constructor) rfl (by decide +kernel) rfl (v_intFloat st rfl) ?_; clear st; intro _ st
              refine d_one 13 (by decide +kernel) rfl ?_
              (first | (refine o_fop rfl st rfl rfl (by first | assumption | exact Is_ofInt _ _ | exact Is_lit (by decide +kernel)) (by first | assumption | exact Is_ofInt _ _ | exact Is_lit (by decide +kernel)) rfl ?_; clear st; intro _ _ _ _ st))
              refine kh st (by repeat constructor) ?_
              refine d_one 14 (by decide +kernel) rfl ?_
              refine o_callSb st rfl (times_ok _ _ hI1 _ _ (by assumption) _) rfl ?_; clear st; intro b2 hb2 _ _ st
              refine kh st (by repeat constructor) ?_
              refine d_one 15 (by decide +kernel) rfl ?_
              refine o_callSb st rfl (add_ok b1 b2 _ _ hb1 hb2 _) rfl ?_; clear st; intro b3 hb3 _ _ st
              refine kh st (by repeat constructor) ?_
              refine d_one 16 (by decide +kernel) rfl ?_
              (first | ((first | refine o_storeW st rfl rfl (by repeat constructor) rfl rfl rfl ?_); clear st; intro _ _ st))
              refine k_last ?_
              refine d_done (by decide +kernel) ?_
              exact ⟨rfl, b3, hb3, (st.fit (by repeat (first | exact trivial  | refine And.intro rfl ?_))).subL (by repeat (first | exact List.Sublist.refl _  | apply List.Sublist.cons_cons  | apply List.Sublist.cons  | exact List.nil_sublist _))⟩
            · (repeat' (first | refine c_seq ?_  | refine c_region ?_  | refine l_do ?_  | refine l_nil ?_  | refine x_then ?_  | refine x_thenE ?_  | refine x_blkN ?_  | refine x_blkE ?_  | refine wp_ret ?_  | refine wp_skip ?_  | refine wp_block ?_  | refine wp_exit ?_  | refine c_condT st rfl ?_  | refine c_condF st rfl ?_  | ((first | refine o_move st rfl rfl ?_  | refine o_assign st rfl rfl ?_); clear st; intro _ st)  | (refine o_alloc st rfl ?_; clear st; intro _ _ _ st)  | ((first | refine o_load3 st rfl (by repeat constructor) rfl ?_ ); clear st; intro _ st)  | ((first | refine o_storeW st rfl rfl (by repeat constructor) rfl rfl rfl ?_); clear st; intro _ _ st)  | ((first | refine o_build0 st rfl ?_  | refine o_extract st rfl rfl rfl ?_  | refine o_add64 st rfl rfl rfl (by omega) (by omega) ?_  | refine o_sub64 st rfl rfl rfl (by omega) (by omega) ?_  | refine o_notT st rfl rfl ?_ ); clear st; intro _ st)  | (refine o_fop rfl st rfl rfl (by first | assumption | exact Is_ofInt _ _ | exact Is_lit (by decide +kernel)) (by first | assumption | exact Is_ofInt _ _ | exact Is_lit (by decide +kernel)) rfl ?_; clear st; intro _ _ _ _ st)  | ((first | refine o_lss st rfl rfl rfl ?_ ?_  | refine o_gtr st rfl rfl rfl ?_ ?_) <;> clear st <;> intro _ _ st <;> (try (exfalso; omega)))))
              exact ⟨rfl, b1, (by unfold raise3; rw [if_neg hj0]; exact hb1), (st.fit (by repeat (first | exact trivial  | refine And.intro rfl ?_))).subL (by repeat (first | exact List.Sublist.refl _  | apply List.Sublist.cons_cons  | apply List.Sublist.cons  | exact List.nil_sublist _))⟩
          · clear st hb1 b1
            rintro a w' ⟨b1, hb1, st⟩
            (repeat' (first | (refine o_buildSliceS [_] st rfl rfl rfl rfl rfl ?_; clear st; intro _ _ _ st)  | (refine o_append1 rfl st rfl rfl (by repeat constructor) (by repeat constructor) hp (by omega) rfl ?_; clear st; intro blk1 cap1 pad1 _ _ hp1 st)  | refine c_seq ?_  | refine c_region ?_  | refine l_do ?_  | refine l_nil ?_  | refine x_then ?_  | refine x_thenE ?_  | refine x_blkN ?_  | refine x_blkE ?_  | refine wp_ret ?_  | refine wp_skip ?_  | refine wp_block ?_  | refine wp_exit ?_  | refine c_condT st rfl ?_  | refine c_condF st rfl ?_  | ((first | refine o_move st rfl rfl ?_  | refine o_assign st rfl rfl ?_); clear st; intro _ st)  | (refine o_alloc st rfl ?_; clear st; intro _ _ _ st)  | ((first | refine o_load3 st rfl (by repeat constructor) rfl ?_ ); clear st; intro _ st)  | ((first | refine o_storeW st rfl rfl (by repeat constructor) rfl rfl rfl ?_); clear st; intro _ _ st)  | ((first | refine o_build0 st rfl ?_  | refine o_extract st rfl rfl rfl ?_  | refine o_add64 st rfl rfl rfl (by omega) (by omega) ?_  | refine o_sub64 st rfl rfl rfl (by omega) (by omega) ?_  | refine o_notT st rfl rfl ?_ ); clear st; intro _ st)  | (refine o_fop rfl st rfl rfl (by first | assumption | exact Is_ofInt _ _ | exact Is_lit (by decide +kernel)) (by first | assumption | exact Is_ofInt _ _ | exact Is_lit (by decide +kernel)) rfl ?_; clear st; intro _ _ _ _ st)  | ((first | refine o_lss st rfl rfl rfl ?_ ?_  | refine o_gtr st rfl rfl rfl ?_ ?_) <;> clear st <;> intro _ _ st <;> (try (exfalso; omega)))))
            refine ⟨g + 2 - j - (i + 1), by omega, i + 1, blk1, cap1, os ++ [b1], pad1, by omega, rfl, ?_, hp1, (st.fit (by repeat (first | exact trivial  | refine And.intro rfl ?_))).subL (by repeat (first | exact List.Sublist.refl _  | apply List.Sublist.cons_cons  | apply List.Sublist.cons  | exact List.nil_sublist _))⟩
            rw [rRow_succ, ← List.append_assoc]
            exact hI.push hb1
    · have hi' : i = g + 2 - j := by omega
      subst hi'
      rw [← rAll_succ] at hI
      (repeat' (first | refine c_seq ?_  | refine c_region ?_  | refine l_do ?_  | refine l_nil ?_  | refine x_then ?_  | refine x_thenE ?_  | refine x_blkN ?_  | refine x_blkE ?_  | refine wp_ret ?_  | refine wp_skip ?_  | refine wp_block ?_  | refine wp_exit ?_  | refine c_condT st rfl ?_  | refine c_condF st rfl ?_  | ((first | refine o_move st rfl rfl ?_  | refine o_assign st rfl rfl ?_); clear st; intro _ st)  | (refine o_alloc st rfl ?_; clear st; intro _ _ _ st)  | ((first | refine o_load3 st rfl (by repeat constructor) rfl ?_ ); clear st; intro _ st)  | ((first | refine o_storeW st rfl rfl (by repeat constructor) rfl rfl rfl ?_); clear st; intro _ _ st)  | ((first | refine o_build0 st rfl ?_  | refine o_extract st rfl rfl rfl ?_  | refine o_add64 st rfl rfl rfl (by omega) (by omega) ?_  | refine o_sub64 st rfl rfl rfl (by omega) (by omega) ?_  | refine o_notT st rfl rfl ?_ ); clear st; intro _ st)  | (refine o_fop rfl st rfl rfl (by first | assumption | exact Is_ofInt _ _ | exact Is_lit (by decide +kernel)) (by first | assumption | exact Is_ofInt _ _ | exact Is_lit (by decide +kernel)) rfl ?_; clear st; intro _ _ _ _ st)  | ((first | refine o_lss st rfl rfl rfl ?_ ?_  | refine o_gtr st rfl rfl rfl ?_ ?_) <;> clear st <;> intro _ _ st <;> (try (exfalso; omega)))))
      exact ⟨g + 2 - (j + 1), by omega, j + 1, blk, cp, os, pad, by omega, rfl, hI, hp, (st.fit (by repeat (first | exact trivial  | refine And.intro rfl ?_))).subL (by repeat (first | exact List.Sublist.refl _  | apply List.Sublist.cons_cons  | apply List.Sublist.cons  | exact List.nil_sublist _))⟩
  · have hj' : j = g + 2 := by omega
    subst hj'
    have hf := fun (w : World) hr => ifSpots_ok os _ hI (some ⟨blk, 0, none⟩) cp w hr (by omega)
    generalize hgf : finL (rAll ss g (g + 2)) = q at hf
    cases q
    all_goals
      (repeat' (first | (refine o_callV st rfl (hf _ (RdS.of (st.heap (by repeat constructor)) (spotsIn0p _ _))) rfl ?_; clear st; intro _ _ st)  | refine c_seq ?_  | refine c_region ?_  | refine l_do ?_  | refine l_nil ?_  | refine x_then ?_  | refine x_thenE ?_  | refine x_blkN ?_  | refine x_blkE ?_  | refine wp_ret ?_  | refine wp_skip ?_  | refine wp_block ?_  | refine wp_exit ?_  | refine c_condT st rfl ?_  | refine c_condF st rfl ?_  | ((first | refine o_move st rfl rfl ?_  | refine o_assign st rfl rfl ?_); clear st; intro _ st)  | (refine o_alloc st rfl ?_; clear st; intro _ _ _ st)  | ((first | refine o_load3 st rfl (by repeat constructor) rfl ?_ ); clear st; intro _ st)  | ((first | refine o_storeW st rfl rfl (by repeat constructor) rfl rfl rfl ?_); clear st; intro _ _ st)  | ((first | refine o_build0 st rfl ?_  | refine o_extract st rfl rfl rfl ?_  | refine o_add64 st rfl rfl rfl (by omega) (by omega) ?_  | refine o_sub64 st rfl rfl rfl (by omega) (by omega) ?_  | refine o_notT st rfl rfl ?_ ); clear st; intro _ st)  | (refine o_fop rfl st rfl rfl (by first | assumption | exact Is_ofInt _ _ | exact Is_lit (by decide +kernel)) (by first | assumption | exact Is_ofInt _ _ | exact Is_lit (by decide +kernel)) rfl ?_; clear st; intro _ _ _ _ st)  | ((first | refine o_lss st rfl rfl rfl ?_ ?_  | refine o_gtr st rfl rfl rfl ?_ ?_) <;> clear st <;> intro _ _ st <;> (try (exfalso; omega)))))
      refine post2 st Try.results59 (rd_t st rfl) (rd_t st rfl) ?_
      exact ⟨_, blk, _, rfl, ⟨os, cp, pad, by rw [List.length_append, cS_length] at hp; omega, by first | rfl | (rw [hgf]; rfl), rfl, hI⟩, st.ex1 (by repeat constructor)⟩
end Go.Proofs.Ytefnlalldgbcaaa
