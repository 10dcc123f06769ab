/-
  FnNumbers: the law's walk.
-/
import Derived.Test.YtclgplbikjmopaaGreatDoorDx
namespace Go.Proofs.YtclgplbikjmopaaGreatDoor
open Go.RowKit
set_option maxRecDepth 100000
attribute [local irreducible] Code.wp wpList Oper.wp Calls bodyPost Exit.then Exit.inBlock

theorem SameT_ok (a b : Nat) (ha : a < 2 ^ 32) (hb : b < 2 ^ 32) (h : nb a = nb b) (w : World) : CV Tryz.prog 14 [vF a, vF b] w (.bool true) := by
  have := Same_ok a b ha hb w
  rwa [decide_eq_true h] at this
theorem sub_none : subC none = false := rfl
/-- A flushed number: what is asked of it. -/
theorem flush_facts {x z : Nat} (hx : x < 2 ^ 32) (h1 : subC (cl .f32 x) = true → z = 0 ∨ z = 2147483648) (h2 : subC (cl .f32 x) = false → z = x) : z < 2 ^ 32 ∧ subC (cl .f32 z) = false ∧ (decide (nb x = nb z)) = !subC (cl .f32 x) := by
  have c0 : cl .f32 0 = some 0 := by decide +kernel
  have c1 : cl .f32 2147483648 = some 2147483648 := by decide +kernel
  cases hs : subC (cl .f32 x)
  · obtain rfl := h2 hs
    exact ⟨hx, hs, by simp⟩
  · obtain ⟨hz, _⟩ := sub_true hs
    have hne : cl .f32 x ≠ none := by
      intro h
      rw [h, sub_none] at hs
      cases hs
    obtain ⟨b, hb⟩ := Option.ne_none_iff_exists'.1 hne
    obtain ⟨rfl, _⟩ := cl_some hb
    have hnx : nb b = b := by unfold nb; rw [hb]
    rw [hb] at hz
    rcases h1 hs with rfl | rfl
    · refine ⟨by decide, by rw [c0]; exact sub_zero.1, ?_⟩
      have hn0 : nb 0 = 0 := by unfold nb; rw [c0]
      rw [hnx, hn0]
      have : b ≠ 0 := by
        rintro rfl
        rw [show feqB .f32 (some 0) (some 0) = true by decide +kernel] at hz
        cases hz
      simp [this]
    · refine ⟨by decide, by rw [c1]; exact sub_zero.2, ?_⟩
      have hn0 : nb 2147483648 = 2147483648 := by unfold nb; rw [c1]
      rw [hnx, hn0]
      have : b ≠ 2147483648 := by
        rintro rfl
        rw [show feqB .f32 (some 2147483648) (some 0) = true by decide +kernel] at hz
        cases hz
      simp [this]
theorem FnNumbers_long (n m : Nat) (hn : n ≤ 9223372036854775807) (hm : m ≤ 9223372036854775807) (hl : (decide (1048576 < n) || decide (1048576 < m)) = true) (base base' : Option Addr) (cap cap' : Nat) (w : World) :
    CV Tryz.prog 3 [.slice base n cap, .slice base' m cap'] w (.bool true) := by
  have c1 := fun w => b10Long_ok n m cap cap' base base' hn hm w
  rw [hl] at c1
  refine enter Tryz.func3 rfl rfl rfl rfl ?_
  intro a st
  (repeat' (first | (refine o_callV st rfl (c1 _) rfl ?_; clear st; intro _ _ st) | refine c_seq ?_ | refine c_region ?_ | refine l_do ?_ | refine l_doG st rfl rfl ?_ | ((first | refine l_skipU st rfl rfl rfl ?_ | refine l_skip st rfl rfl rfl rfl ?_); clear st; intro _ st) | refine l_nil ?_ | refine x_then ?_ | refine x_thenR ?_ | refine x_thenE ?_ | refine x_blkN ?_ | refine x_blkR ?_ | refine x_blkE ?_ | refine x_blkO rfl ?_ | refine wp_ret ?_ | refine wp_skip ?_ | refine wp_block ?_ | refine wp_exit ?_ | refine c_condT st rfl ?_ | refine c_condF st rfl ?_ | ((first | refine o_move st rfl rfl ?_ | refine o_assign st rfl rfl ?_ | refine o_pickT st rfl rfl rfl ?_ | refine o_pickF st rfl rfl rfl ?_ | refine o_loadS st rfl (by repeat constructor) rfl rfl ?_ | refine o_load3 st rfl (by repeat constructor) rfl ?_ | refine o_load2 st rfl (by repeat constructor) rfl ?_ | refine o_load4 st rfl (by repeat constructor) rfl ?_ | refine o_extract st rfl rfl rfl ?_ | refine o_len st rfl rfl ?_ | refine o_add64 st rfl rfl rfl (by omega) (by omega) ?_ | refine o_eqlB st rfl rfl rfl rfl ?_ | refine o_notT st rfl rfl ?_ | refine o_notF st rfl rfl ?_); clear st; intro _ st) | (refine o_fop rfl st rfl rfl (by first | assumption | exact Is_ofInt _ _ | exact Is_lit (by decide +kernel)) (by first | assumption | exact Is_ofInt _ _ | exact Is_lit (by decide +kernel)) rfl ?_; clear st; intro _ _ _ _ st) | ((first | refine o_fcv0 st rfl rfl ?_ | refine o_intFloat st rfl rfl ?_); clear st; intro _ st) | ((first | refine o_lss st rfl rfl rfl ?_ ?_ | refine o_neqI st rfl rfl rfl ?_ ?_) <;> clear st <;> intro _ _ st <;> (try (exfalso; omega))) | (refine o_feql st rfl rfl (by first | assumption | exact Is_ofInt _ _ | exact Is_lit (by decide +kernel)) (by first | assumption | exact Is_ofInt _ _ | exact Is_lit (by decide +kernel)) rfl ?_ ?_ <;> clear st <;> intro _ _ st <;> (try simp_all))))
  refine post1 st Tryz.results3 (rd_t st rfl) ?_
  exact ⟨rfl, st.ex0⟩
set_option maxHeartbeats 32000000 in
theorem FnNumbers_ok (code more : List Int) (hok : okB code) (hok' : okB more) (hlc : code.length ≤ 9223372036854775807) (hlm : more.length ≤ 9223372036854775807) (hl : (decide (1048576 < code.length) || decide (1048576 < more.length)) = false) (base base' : Option Addr) (cap cap' : Nat) (w : World) (hr : RdB w base code) (hr' : RdB w base' more) (hT : Tab w) :
    CV Tryz.prog 3 [.slice base code.length cap, .slice base' more.length cap'] w (.bool true) := by
  have c1 := fun w => b10Long_ok code.length more.length cap cap' base base' hlc hlm w
  rw [hl] at c1
  rw [Bool.or_eq_false_iff, decide_eq_false_iff_not, decide_eq_false_iff_not] at hl
  refine enter Tryz.func3 rfl rfl rfl rfl ?_
  intro a st
  (repeat' (first | (refine o_callV st rfl (c1 _) rfl ?_; clear st; intro _ _ st) | (refine o_callR st rfl (B10Number_ok code hok (by omega) base cap _ (hr.mono st.below)) rfl ?_; clear st; rintro _ ⟨x, rfl, hx⟩ _ _ st) | (refine o_callR st rfl (B10Number_ok more hok' (by omega) base' cap' _ (hr'.mono st.below)) rfl ?_; clear st; rintro _ ⟨y, rfl, hy⟩ _ _ st) | (refine o_callV st rfl (BitsOf_ok _ hx _) rfl ?_; clear st; intro _ _ st) | (refine o_callV st rfl (FromBits_ok _ (nb_lt hx) _) rfl ?_; clear st; intro _ _ st) | (refine o_callR st rfl (Flush_ok x _ ⟨hx, rfl⟩ _) rfl ?_; clear st; rintro _ ⟨z, rfl, hz1, hz2⟩ _ _ st) | (refine o_callR st rfl (b10At_ok code hok (by omega) base cap 0 (by omega) 12 (by omega) _ (hr.mono st.below)) rfl ?_; clear st; rintro _ ⟨r, rfl, hr12⟩ _ _ st) | (refine o_callM1 st rfl (B10Numbers_ok r (by omega) more hok' (by omega) base' cap' _ (hr'.mono st.below)) rfl ?_; clear st; rintro _ lb _ ⟨cp, xs, pad, rfl, rfl, hxl, hxw, hpp⟩ _ _ st) | refine c_seq ?_ | refine c_region ?_ | refine l_do ?_ | refine l_doG st rfl rfl ?_ | ((first | refine l_skipU st rfl rfl rfl ?_ | refine l_skip st rfl rfl rfl rfl ?_); clear st; intro _ st) | refine l_nil ?_ | refine x_then ?_ | refine x_thenR ?_ | refine x_thenE ?_ | refine x_blkN ?_ | refine x_blkR ?_ | refine x_blkE ?_ | refine x_blkO rfl ?_ | refine wp_ret ?_ | refine wp_skip ?_ | refine wp_block ?_ | refine wp_exit ?_ | refine c_condT st rfl ?_ | refine c_condF st rfl ?_ | ((first | refine o_move st rfl rfl ?_ | refine o_assign st rfl rfl ?_ | refine o_pickT st rfl rfl rfl ?_ | refine o_pickF st rfl rfl rfl ?_ | refine o_loadS st rfl (by repeat constructor) rfl rfl ?_ | refine o_load3 st rfl (by repeat constructor) rfl ?_ | refine o_load2 st rfl (by repeat constructor) rfl ?_ | refine o_load4 st rfl (by repeat constructor) rfl ?_ | refine o_extract st rfl rfl rfl ?_ | refine o_len st rfl rfl ?_ | refine o_add64 st rfl rfl rfl (by omega) (by omega) ?_ | refine o_eqlB st rfl rfl rfl rfl ?_ | refine o_notT st rfl rfl ?_ | refine o_notF st rfl rfl ?_); clear st; intro _ st) | (refine o_fop rfl st rfl rfl (by first | assumption | exact Is_ofInt _ _ | exact Is_lit (by decide +kernel)) (by first | assumption | exact Is_ofInt _ _ | exact Is_lit (by decide +kernel)) rfl ?_; clear st; intro _ _ _ _ st) | ((first | refine o_fcv0 st rfl rfl ?_ | refine o_intFloat st rfl rfl ?_); clear st; intro _ st) | ((first | refine o_lss st rfl rfl rfl ?_ ?_ | refine o_neqI st rfl rfl rfl ?_ ?_) <;> clear st <;> intro _ _ st <;> (try (exfalso; omega))) | (refine o_feql st rfl rfl (by first | assumption | exact Is_ofInt _ _ | exact Is_lit (by decide +kernel)) (by first | assumption | exact Is_ofInt _ _ | exact Is_lit (by decide +kernel)) rfl ?_ ?_ <;> clear st <;> intro _ _ st <;> (try simp_all))))
  refine wp_loop_ghost (fun n a w' => ∃ (i s : Nat), i ≤ xs.length ∧ n = xs.length - i ∧ Is .f32 s (sumC (some 0) (xs.take i)) ∧ St w Tryz.f3.ntmps a w' [(5, vF x), (6, vF y), (7, vF (nb x)), (8, .bool true), (9, vF z), (10, .slice (some ⟨lb, 0, none⟩) xs.length cp), (11, vF s), (39, .slice (some ⟨lb, 0, none⟩) xs.length cp), (40, .int .i64 (xs.length : Nat)), (41, .int .i64 (i : Nat))] [⟨lb, true, oV 24 (xs.map vF) pad⟩]) xs.length ⟨0, 0, by omega, by omega, i32_0, (st.fit (by repeat (first | exact trivial | refine And.intro rfl ?_))).subL (by repeat (first | exact List.Sublist.refl _ | apply List.Sublist.cons_cons | apply List.Sublist.cons | exact List.nil_sublist _))⟩ ?_
  clear st
  rintro n a w' ⟨i, s, hi, rfl, hs, st⟩
  by_cases hlt : i < xs.length
  · have hg := getF xs pad i hlt
    have ix : Is .f32 xs[i] (cl .f32 xs[i]) := ⟨hxw _ (List.getElem_mem hlt), rfl⟩
    (repeat' (first | (refine o_indexAddr st rfl rfl (by omega) (by omega) rfl ?_; clear st; intro _ st) | (refine o_loadS st rfl (by repeat constructor) hg rfl ?_; clear st; intro _ st) | (refine o_fop rfl st rfl rfl hs ix rfl ?_; clear st; intro q _ _ hq st) | refine c_seq ?_ | refine c_region ?_ | refine l_do ?_ | refine l_doG st rfl rfl ?_ | ((first | refine l_skipU st rfl rfl rfl ?_ | refine l_skip st rfl rfl rfl rfl ?_); clear st; intro _ st) | refine l_nil ?_ | refine x_then ?_ | refine x_thenR ?_ | refine x_thenE ?_ | refine x_blkN ?_ | refine x_blkR ?_ | refine x_blkE ?_ | refine x_blkO rfl ?_ | refine wp_ret ?_ | refine wp_skip ?_ | refine wp_block ?_ | refine wp_exit ?_ | refine c_condT st rfl ?_ | refine c_condF st rfl ?_ | ((first | refine o_move st rfl rfl ?_ | refine o_assign st rfl rfl ?_ | refine o_pickT st rfl rfl rfl ?_ | refine o_pickF st rfl rfl rfl ?_ | refine o_loadS st rfl (by repeat constructor) rfl rfl ?_ | refine o_load3 st rfl (by repeat constructor) rfl ?_ | refine o_load2 st rfl (by repeat constructor) rfl ?_ | refine o_load4 st rfl (by repeat constructor) rfl ?_ | refine o_extract st rfl rfl rfl ?_ | refine o_len st rfl rfl ?_ | refine o_add64 st rfl rfl rfl (by omega) (by omega) ?_ | refine o_eqlB st rfl rfl rfl rfl ?_ | refine o_notT st rfl rfl ?_ | refine o_notF st rfl rfl ?_); clear st; intro _ st) | (refine o_fop rfl st rfl rfl (by first | assumption | exact Is_ofInt _ _ | exact Is_lit (by decide +kernel)) (by first | assumption | exact Is_ofInt _ _ | exact Is_lit (by decide +kernel)) rfl ?_; clear st; intro _ _ _ _ st) | ((first | refine o_fcv0 st rfl rfl ?_ | refine o_intFloat st rfl rfl ?_); clear st; intro _ st) | ((first | refine o_lss st rfl rfl rfl ?_ ?_ | refine o_neqI st rfl rfl rfl ?_ ?_) <;> clear st <;> intro _ _ st <;> (try (exfalso; omega))) | (refine o_feql st rfl rfl (by first | assumption | exact Is_ofInt _ _ | exact Is_lit (by decide +kernel)) (by first | assumption | exact Is_ofInt _ _ | exact Is_lit (by decide +kernel)) rfl ?_ ?_ <;> clear st <;> intro _ _ st <;> (try simp_all))))
    refine ⟨xs.length - (i + 1), by omega, i + 1, q, by omega, rfl, ?_, st.fit (by repeat (first | exact trivial | refine And.intro rfl ?_))⟩
    rw [List.take_succ_eq_append_getElem hlt, sumC_snoc]
    exact hq
  obtain rfl : i = xs.length := by omega
  rw [List.take_length] at hs
  have hsum := fun w hb => Sum_ok xs hxw (by omega) lb cp pad w hb
  have htext := fun w hb hT => NumbersText_ok xs hxw (by omega) lb cp pad w hb hT
  have hlm' : (xs.map nb).length = xs.length := List.length_map _
  have hread := fun w hT => ReadNumbers_ok (xs.map nb) (by rw [hlm']; omega) (by
    intro v hv
    obtain ⟨u, hu, rfl⟩ := List.mem_map.1 hv
    exact nb_lt (hxw u hu)) (by
    intro v hv
    obtain ⟨u, _, rfl⟩ := List.mem_map.1 hv
    exact nb_nb u) w hT
  unfold OutL at hread
  rw [hlm'] at hread
  obtain ⟨hzw, hzs, hxz⟩ := flush_facts hx hz1 hz2
  have k1 := fun w => SameT_ok (nb x) x (nb_lt hx) hx (nb_nb x) w
  have k2 := fun w => Sub_ok z _ ⟨hzw, rfl⟩ w
  rw [hzs] at k2
  have k3 := fun w => Sub_ok x _ ⟨hx, rfl⟩ w
  have k4 := fun w => Same_ok x z hx hzw w
  rw [hxz] at k4
  have kb : (subC (cl .f32 x) == !subC (cl .f32 x)) = false := by cases subC (cl .f32 x) <;> rfl
  generalize subC (cl .f32 x) = sb at *
  (repeat' (first | (refine o_callR st rfl (hsum _ (st.heap (by repeat constructor))) rfl ?_; clear st; rintro _ ⟨got, rfl, hgot⟩ _ _ st) | (refine o_callV st rfl (htext _ (st.heap (by repeat constructor)) (hT.mono st.below)) rfl ?_; clear st; intro _ _ st) | (refine o_callM1 st rfl (hread _ (hT.mono st.below)) rfl ?_; clear st; rintro _ rb _ ⟨cp2, pad2, rfl, rfl⟩ _ _ st) | (refine o_callV st rfl (k1 _) rfl ?_; clear st; intro _ _ st) | (refine o_callV st rfl (k2 _) rfl ?_; clear st; intro _ _ st) | (refine o_callV st rfl (k3 _) rfl ?_; clear st; intro _ _ st) | (refine o_callV st rfl (k4 _) rfl ?_; clear st; intro _ _ st) | (refine o_eqlB (r := false) st rfl rfl rfl kb ?_; clear st; intro _ st) | (refine o_callV st rfl (SameT_ok got s hgot.1 hs.1 (nb_is hgot hs) _) rfl ?_; clear st; intro _ _ st) | refine c_seq ?_ | refine c_region ?_ | refine l_do ?_ | refine l_doG st rfl rfl ?_ | ((first | refine l_skipU st rfl rfl rfl ?_ | refine l_skip st rfl rfl rfl rfl ?_); clear st; intro _ st) | refine l_nil ?_ | refine x_then ?_ | refine x_thenR ?_ | refine x_thenE ?_ | refine x_blkN ?_ | refine x_blkR ?_ | refine x_blkE ?_ | refine x_blkO rfl ?_ | refine wp_ret ?_ | refine wp_skip ?_ | refine wp_block ?_ | refine wp_exit ?_ | refine c_condT st rfl ?_ | refine c_condF st rfl ?_ | ((first | refine o_move st rfl rfl ?_ | refine o_assign st rfl rfl ?_ | refine o_pickT st rfl rfl rfl ?_ | refine o_pickF st rfl rfl rfl ?_ | refine o_loadS st rfl (by repeat constructor) rfl rfl ?_ | refine o_load3 st rfl (by repeat constructor) rfl ?_ | refine o_load2 st rfl (by repeat constructor) rfl ?_ | refine o_load4 st rfl (by repeat constructor) rfl ?_ | refine o_extract st rfl rfl rfl ?_ | refine o_len st rfl rfl ?_ | refine o_add64 st rfl rfl rfl (by omega) (by omega) ?_ | refine o_eqlB st rfl rfl rfl rfl ?_ | refine o_notT st rfl rfl ?_ | refine o_notF st rfl rfl ?_); clear st; intro _ st) | (refine o_fop rfl st rfl rfl (by first | assumption | exact Is_ofInt _ _ | exact Is_lit (by decide +kernel)) (by first | assumption | exact Is_ofInt _ _ | exact Is_lit (by decide +kernel)) rfl ?_; clear st; intro _ _ _ _ st) | ((first | refine o_fcv0 st rfl rfl ?_ | refine o_intFloat st rfl rfl ?_); clear st; intro _ st) | ((first | refine o_lss st rfl rfl rfl ?_ ?_ | refine o_neqI st rfl rfl rfl ?_ ?_) <;> clear st <;> intro _ _ st <;> (try (exfalso; omega))) | (refine o_feql st rfl rfl (by first | assumption | exact Is_ofInt _ _ | exact Is_lit (by decide +kernel)) (by first | assumption | exact Is_ofInt _ _ | exact Is_lit (by decide +kernel)) rfl ?_ ?_ <;> clear st <;> intro _ _ st <;> (try simp_all))))
  refine wp_loop_ghost (fun n a w' => ∃ (i : Nat), i ≤ xs.length ∧ n = xs.length - i ∧ St w Tryz.f3.ntmps a w' [(5, vF x), (6, vF y), (10, .slice (some ⟨lb, 0, none⟩) xs.length cp), (17, .slice (some ⟨rb, 0, none⟩) xs.length cp2), (111, .slice (some ⟨lb, 0, none⟩) xs.length cp), (112, .int .i64 (xs.length : Nat)), (113, .int .i64 (i : Nat))] [⟨rb, true, oV 24 ((xs.map nb).map vF) pad2⟩, ⟨lb, true, oV 24 (xs.map vF) pad⟩]) xs.length ⟨0, by omega, by omega, (st.fit (by repeat (first | exact trivial | refine And.intro rfl ?_))).subL (by repeat (first | exact List.Sublist.refl _ | apply List.Sublist.cons_cons | apply List.Sublist.cons | exact List.nil_sublist _))⟩ ?_
  clear st
  rintro n a w' ⟨i, hi, rfl, st⟩
  by_cases hlt : i < xs.length
  · have hg2 := getF xs pad i hlt
    have hg1 := getF (xs.map nb) pad2 i (by rw [hlm']; exact hlt)
    rw [List.getElem_map] at hg1
    have hv := hxw _ (List.getElem_mem hlt)
    have k := fun w => SameT_ok (nb xs[i]) xs[i] (nb_lt hv) hv (nb_nb _) w
    (repeat' (first | refine c_seq ?_ | refine c_region ?_ | refine l_do ?_ | refine l_doG st rfl rfl ?_ | ((first | refine l_skipU st rfl rfl rfl ?_ | refine l_skip st rfl rfl rfl rfl ?_); clear st; intro _ st) | refine l_nil ?_ | refine x_then ?_ | refine x_thenR ?_ | refine x_thenE ?_ | refine x_blkN ?_ | refine x_blkR ?_ | refine x_blkE ?_ | refine x_blkO rfl ?_ | refine wp_ret ?_ | refine wp_skip ?_ | refine wp_block ?_ | refine wp_exit ?_ | refine c_condT st rfl ?_ | refine c_condF st rfl ?_ | ((first | refine o_move st rfl rfl ?_ | refine o_assign st rfl rfl ?_ | refine o_pickT st rfl rfl rfl ?_ | refine o_pickF st rfl rfl rfl ?_ | refine o_loadS st rfl (by repeat constructor) rfl rfl ?_ | refine o_load3 st rfl (by repeat constructor) rfl ?_ | refine o_load2 st rfl (by repeat constructor) rfl ?_ | refine o_load4 st rfl (by repeat constructor) rfl ?_ | refine o_extract st rfl rfl rfl ?_ | refine o_len st rfl rfl ?_ | refine o_add64 st rfl rfl rfl (by omega) (by omega) ?_ | refine o_eqlB st rfl rfl rfl rfl ?_ | refine o_notT st rfl rfl ?_ | refine o_notF st rfl rfl ?_); clear st; intro _ st) | (refine o_fop rfl st rfl rfl (by first | assumption | exact Is_ofInt _ _ | exact Is_lit (by decide +kernel)) (by first | assumption | exact Is_ofInt _ _ | exact Is_lit (by decide +kernel)) rfl ?_; clear st; intro _ _ _ _ st) | ((first | refine o_fcv0 st rfl rfl ?_ | refine o_intFloat st rfl rfl ?_); clear st; intro _ st) | ((first | refine o_lss st rfl rfl rfl ?_ ?_ | refine o_neqI st rfl rfl rfl ?_ ?_) <;> clear st <;> intro _ _ st <;> (try (exfalso; omega))) | (refine o_feql st rfl rfl (by first | assumption | exact Is_ofInt _ _ | exact Is_lit (by decide +kernel)) (by first | assumption | exact Is_ofInt _ _ | exact Is_lit (by decide +kernel)) rfl ?_ ?_ <;> clear st <;> intro _ _ st <;> (try simp_all))))
    refine c_drawA (last := 10) hm_ (by decide +kernel) (by decide +kernel) st ?_; clear st; intro _ st
    refine d_v 0 st (by repeat constructor) rfl (by decide +kernel) rfl (v_move st rfl) ?_; clear st; intro _ st
    refine d_v 1 st (by repeat constructor) rfl (by decide +kernel) rfl (v_move st rfl) ?_; clear st; intro _ st
    refine d_v 2 st (by repeat constructor) rfl (by decide +kernel) rfl (v_indexAddr st rfl rfl (by omega) (by omega)) ?_; clear st; intro _ st
    refine d_v 3 st (by repeat constructor) rfl (by decide +kernel) rfl (v_loadS st rfl (by repeat constructor) hg1) ?_; clear st; intro _ st
    refine d_v 4 st (by repeat constructor) rfl (by decide +kernel) rfl (v_move st rfl) ?_; clear st; intro _ st
    refine d_v 5 st (by repeat constructor) rfl (by decide +kernel) rfl (v_move st rfl) ?_; clear st; intro _ st
    refine d_v 6 st (by repeat constructor) rfl (by decide +kernel) rfl (v_indexAddr st rfl rfl (by omega) (by omega)) ?_; clear st; intro _ st
    refine d_v 7 st (by repeat constructor) rfl (by decide +kernel) rfl (v_loadS st rfl (by repeat constructor) hg2) ?_; clear st; intro _ st
    refine d_one 8 (by decide +kernel) rfl ?_
    refine o_callV st rfl (k _) rfl ?_; clear st; intro _ _ st
    refine kh st (by repeat constructor) ?_
    refine d_v 9 st (by repeat constructor) rfl (by decide +kernel) rfl (v_not st rfl) ?_; clear st; intro _ st
    refine d_done (by decide +kernel) ?_
    (repeat' (first | refine c_seq ?_ | refine c_region ?_ | refine l_do ?_ | refine l_doG st rfl rfl ?_ | ((first | refine l_skipU st rfl rfl rfl ?_ | refine l_skip st rfl rfl rfl rfl ?_); clear st; intro _ st) | refine l_nil ?_ | refine x_then ?_ | refine x_thenR ?_ | refine x_thenE ?_ | refine x_blkN ?_ | refine x_blkR ?_ | refine x_blkE ?_ | refine x_blkO rfl ?_ | refine wp_ret ?_ | refine wp_skip ?_ | refine wp_block ?_ | refine wp_exit ?_ | refine c_condT st rfl ?_ | refine c_condF st rfl ?_ | ((first | refine o_move st rfl rfl ?_ | refine o_assign st rfl rfl ?_ | refine o_pickT st rfl rfl rfl ?_ | refine o_pickF st rfl rfl rfl ?_ | refine o_loadS st rfl (by repeat constructor) rfl rfl ?_ | refine o_load3 st rfl (by repeat constructor) rfl ?_ | refine o_load2 st rfl (by repeat constructor) rfl ?_ | refine o_load4 st rfl (by repeat constructor) rfl ?_ | refine o_extract st rfl rfl rfl ?_ | refine o_len st rfl rfl ?_ | refine o_add64 st rfl rfl rfl (by omega) (by omega) ?_ | refine o_eqlB st rfl rfl rfl rfl ?_ | refine o_notT st rfl rfl ?_ | refine o_notF st rfl rfl ?_); clear st; intro _ st) | (refine o_fop rfl st rfl rfl (by first | assumption | exact Is_ofInt _ _ | exact Is_lit (by decide +kernel)) (by first | assumption | exact Is_ofInt _ _ | exact Is_lit (by decide +kernel)) rfl ?_; clear st; intro _ _ _ _ st) | ((first | refine o_fcv0 st rfl rfl ?_ | refine o_intFloat st rfl rfl ?_); clear st; intro _ st) | ((first | refine o_lss st rfl rfl rfl ?_ ?_ | refine o_neqI st rfl rfl rfl ?_ ?_) <;> clear st <;> intro _ _ st <;> (try (exfalso; omega))) | (refine o_feql st rfl rfl (by first | assumption | exact Is_ofInt _ _ | exact Is_lit (by decide +kernel)) (by first | assumption | exact Is_ofInt _ _ | exact Is_lit (by decide +kernel)) rfl ?_ ?_ <;> clear st <;> intro _ _ st <;> (try simp_all))))
    exact ⟨xs.length - (i + 1), by omega, i + 1, by omega, rfl, st.fit (by repeat (first | exact trivial | refine And.intro rfl ?_))⟩
  obtain rfl : i = xs.length := by omega
  obtain ⟨ca, hA⟩ := AngleC_ok y x hy hx
  have hB := fun w => AngleOfC_ok x y ca hA w
  have ix : Is .f32 x (cl .f32 x) := ⟨hx, rfl⟩
  obtain ⟨hf, hback⟩ := back_c ix
  have hN := fun v (hv : Is .f64 v (fcv .f32 .f64 (cl .f32 x))) w => Narrow_ok v _ hv hf w
  rw [hback] at hN
  have hw1 := fits_widen ix
  have i1 : Is .f32 1065353216 (some 1065353216) := Is_lit (by decide +kernel)
  have e1 : feqB .f32 (some 1065353216) (some 1065353216) = true := by decide +kernel
  (repeat' (first | (refine o_callR st rfl (hA _) rfl ?_; clear st; rintro _ ⟨r1, rfl, h1⟩ _ _ st) | (refine o_complex st rfl rfl rfl ?_; clear st; intro _ st) | (refine o_callR st rfl (hB _) rfl ?_; clear st; rintro _ ⟨r2, rfl, h2⟩ _ _ st) | (refine o_callV st rfl (SameT_ok r1 r2 h1.1 h2.1 (nb_is h1 h2) _) rfl ?_; clear st; intro _ _ st) | (refine o_fcv (by decide) st rfl ix hw1 rfl ?_; clear st; intro v _ _ hv st) | (refine o_callR st rfl (hN v hv _) rfl ?_; clear st; rintro _ ⟨r3, rfl, h3⟩ _ _ st) | (refine o_callV st rfl (SameT_ok r3 x h3.1 hx (nb_is h3 ix) _) rfl ?_; clear st; intro _ _ st) | (refine o_callV st rfl (Sine_ok _) rfl ?_; clear st; intro _ _ st) | (refine o_feqlW st rfl rfl i1 i1 e1 rfl ?_; clear st; intro _ st) | refine c_seq ?_ | refine c_region ?_ | refine l_do ?_ | refine l_doG st rfl rfl ?_ | ((first | refine l_skipU st rfl rfl rfl ?_ | refine l_skip st rfl rfl rfl rfl ?_); clear st; intro _ st) | refine l_nil ?_ | refine x_then ?_ | refine x_thenR ?_ | refine x_thenE ?_ | refine x_blkN ?_ | refine x_blkR ?_ | refine x_blkE ?_ | refine x_blkO rfl ?_ | refine wp_ret ?_ | refine wp_skip ?_ | refine wp_block ?_ | refine wp_exit ?_ | refine c_condT st rfl ?_ | refine c_condF st rfl ?_ | ((first | refine o_move st rfl rfl ?_ | refine o_assign st rfl rfl ?_ | refine o_pickT st rfl rfl rfl ?_ | refine o_pickF st rfl rfl rfl ?_ | refine o_loadS st rfl (by repeat constructor) rfl rfl ?_ | refine o_load3 st rfl (by repeat constructor) rfl ?_ | refine o_load2 st rfl (by repeat constructor) rfl ?_ | refine o_load4 st rfl (by repeat constructor) rfl ?_ | refine o_extract st rfl rfl rfl ?_ | refine o_len st rfl rfl ?_ | refine o_add64 st rfl rfl rfl (by omega) (by omega) ?_ | refine o_eqlB st rfl rfl rfl rfl ?_ | refine o_notT st rfl rfl ?_ | refine o_notF st rfl rfl ?_); clear st; intro _ st) | (refine o_fop rfl st rfl rfl (by first | assumption | exact Is_ofInt _ _ | exact Is_lit (by decide +kernel)) (by first | assumption | exact Is_ofInt _ _ | exact Is_lit (by decide +kernel)) rfl ?_; clear st; intro _ _ _ _ st) | ((first | refine o_fcv0 st rfl rfl ?_ | refine o_intFloat st rfl rfl ?_); clear st; intro _ st) | ((first | refine o_lss st rfl rfl rfl ?_ ?_ | refine o_neqI st rfl rfl rfl ?_ ?_) <;> clear st <;> intro _ _ st <;> (try (exfalso; omega))) | (refine o_feql st rfl rfl (by first | assumption | exact Is_ofInt _ _ | exact Is_lit (by decide +kernel)) (by first | assumption | exact Is_ofInt _ _ | exact Is_lit (by decide +kernel)) rfl ?_ ?_ <;> clear st <;> intro _ _ st <;> (try simp_all))))
  refine post1 st Tryz.results3 (rd_t st rfl) ?_
  exact ⟨rfl, st.ex0⟩
end Go.Proofs.YtclgplbikjmopaaGreatDoor
