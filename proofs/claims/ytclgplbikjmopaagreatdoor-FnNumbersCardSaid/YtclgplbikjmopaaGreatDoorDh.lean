/-
  FnNumbers: sums from left to right (walk).
-/
import Derived.Test.YtclgplbikjmopaaGreatDoorDg
namespace Go.Proofs.YtclgplbikjmopaaGreatDoor
open Go.RowKit
set_option maxRecDepth 100000
attribute [local irreducible] Code.wp wpList Oper.wp Calls bodyPost Exit.then Exit.inBlock
theorem getF (xs : List Nat) (pad : List Value) (i : Nat) (h : i < xs.length) : (xs.map vF ++ pad).toArray[0 + ((i : Nat) : Int).toNat * 1]? = some (vF xs[i]) := by
  have h' : i < (xs.map vF).length := by rw [List.length_map]; exact h
  rw [oV_get h', List.getElem_map]
theorem Sum_ok (xs : List Nat) (hx : okW xs) (hl : xs.length ≤ 256) (b cap : Nat) (pad : List Value) (w : World) (hb : w.heap[b]? = some (oV 24 (xs.map vF) pad)) : CR Tryz.prog 11 [.slice (some ⟨b, 0, none⟩) xs.length cap] w fun v => ∃ r, v = .tuple #[vF r, .bool true] ∧ Is .f32 r (sumC (some 0) xs) := by
  refine enterL [⟨b, false, oV 24 (xs.map vF) pad⟩] (by intro e he; simp only [List.mem_singleton] at he; subst he; exact ⟨hb, rfl⟩) Tryz.func11 rfl rfl rfl rfl ?_
  intro a st
  (repeat' (first | refine c_seq ?_ | refine c_region ?_ | refine l_do ?_ | refine l_nil ?_ | refine x_then ?_ | refine x_thenR ?_ | refine x_thenE ?_ | refine x_blkN ?_ | refine x_blkR ?_ | refine x_blkE ?_ | refine x_blkO rfl ?_ | refine wp_ret ?_ | refine wp_skip ?_ | refine wp_block ?_ | refine wp_exit ?_ | refine c_condT st rfl ?_ | refine c_condF st rfl ?_ | ((first | refine o_move st rfl rfl ?_ | refine o_assign st rfl rfl ?_ | refine o_loadS st rfl (by repeat constructor) rfl rfl ?_ | refine o_load3 st rfl (by repeat constructor) rfl ?_ | refine o_load2 st rfl (by repeat constructor) rfl ?_ | refine o_load4 st rfl (by repeat constructor) rfl ?_ | refine o_len st rfl rfl ?_ | refine o_add64 st rfl rfl rfl (by omega) (by omega) ?_); clear st; intro _ st) | (refine o_fop rfl st rfl rfl (by first | assumption | exact Is_ofInt _ _ | exact Is_lit (by decide +kernel)) (by first | assumption | exact Is_ofInt _ _ | exact Is_lit (by decide +kernel)) rfl ?_; clear st; intro _ _ _ _ st) | ((first | refine o_lss st rfl rfl rfl ?_ ?_ | refine o_gtr st rfl rfl rfl ?_ ?_) <;> clear st <;> intro _ _ st <;> (try (exfalso; omega)))))
  refine wp_loop_ghost (fun n a w' => ∃ (i s : Nat), i ≤ xs.length ∧ n = xs.length - i ∧ Is .f32 s (sumC (some 0) (xs.take i)) ∧ St w Tryz.f11.ntmps a w' [(10, .slice (some ⟨b, 0, none⟩) xs.length cap), (11, .int .i64 (xs.length : Nat)), (12, .int .i64 (i : Nat)), (4, vF s)] [⟨b, false, oV 24 (xs.map vF) pad⟩]) xs.length ⟨0, 0, by omega, by omega, i32_0, st.fit (by repeat (first | exact trivial | refine And.intro rfl ?_))⟩ ?_
  clear st
  rintro n a w' ⟨i, s, hi, rfl, hs, st⟩
  by_cases hlt : i < xs.length
  · have hg := getF xs pad i hlt
    have ix : Is .f32 xs[i] (cl .f32 xs[i]) := ⟨hx _ (List.getElem_mem hlt), rfl⟩
    (repeat' (first | (refine o_indexAddr st rfl rfl (by omega) (by omega) rfl ?_; clear st; intro _ st) | (refine o_loadS st rfl (by repeat constructor) hg rfl ?_; clear st; intro _ st) | (refine o_fop rfl st rfl rfl hs ix rfl ?_; clear st; intro q _ _ hq st) | refine c_seq ?_ | refine c_region ?_ | refine l_do ?_ | refine l_nil ?_ | refine x_then ?_ | refine x_thenR ?_ | refine x_thenE ?_ | refine x_blkN ?_ | refine x_blkR ?_ | refine x_blkE ?_ | refine x_blkO rfl ?_ | refine wp_ret ?_ | refine wp_skip ?_ | refine wp_block ?_ | refine wp_exit ?_ | refine c_condT st rfl ?_ | refine c_condF st rfl ?_ | ((first | refine o_move st rfl rfl ?_ | refine o_assign st rfl rfl ?_ | refine o_loadS st rfl (by repeat constructor) rfl rfl ?_ | refine o_load3 st rfl (by repeat constructor) rfl ?_ | refine o_load2 st rfl (by repeat constructor) rfl ?_ | refine o_load4 st rfl (by repeat constructor) rfl ?_ | refine o_len st rfl rfl ?_ | refine o_add64 st rfl rfl rfl (by omega) (by omega) ?_); clear st; intro _ st) | (refine o_fop rfl st rfl rfl (by first | assumption | exact Is_ofInt _ _ | exact Is_lit (by decide +kernel)) (by first | assumption | exact Is_ofInt _ _ | exact Is_lit (by decide +kernel)) rfl ?_; clear st; intro _ _ _ _ st) | ((first | refine o_lss st rfl rfl rfl ?_ ?_ | refine o_gtr st rfl rfl rfl ?_ ?_) <;> clear st <;> intro _ _ st <;> (try (exfalso; omega)))))
    refine ⟨xs.length - (i + 1), by omega, i + 1, q, by omega, rfl, ?_, st.fit (by repeat (first | exact trivial | refine And.intro rfl ?_))⟩
    rw [List.take_succ_eq_append_getElem hlt, sumC_snoc]
    exact hq
  · obtain rfl : i = xs.length := by omega
    rw [List.take_length] at hs
    (repeat' (first | refine c_seq ?_ | refine c_region ?_ | refine l_do ?_ | refine l_nil ?_ | refine x_then ?_ | refine x_thenR ?_ | refine x_thenE ?_ | refine x_blkN ?_ | refine x_blkR ?_ | refine x_blkE ?_ | refine x_blkO rfl ?_ | refine wp_ret ?_ | refine wp_skip ?_ | refine wp_block ?_ | refine wp_exit ?_ | refine c_condT st rfl ?_ | refine c_condF st rfl ?_ | ((first | refine o_move st rfl rfl ?_ | refine o_assign st rfl rfl ?_ | refine o_loadS st rfl (by repeat constructor) rfl rfl ?_ | refine o_load3 st rfl (by repeat constructor) rfl ?_ | refine o_load2 st rfl (by repeat constructor) rfl ?_ | refine o_load4 st rfl (by repeat constructor) rfl ?_ | refine o_len st rfl rfl ?_ | refine o_add64 st rfl rfl rfl (by omega) (by omega) ?_); clear st; intro _ st) | (refine o_fop rfl st rfl rfl (by first | assumption | exact Is_ofInt _ _ | exact Is_lit (by decide +kernel)) (by first | assumption | exact Is_ofInt _ _ | exact Is_lit (by decide +kernel)) rfl ?_; clear st; intro _ _ _ _ st) | ((first | refine o_lss st rfl rfl rfl ?_ ?_ | refine o_gtr st rfl rfl rfl ?_ ?_) <;> clear st <;> intro _ _ st <;> (try (exfalso; omega)))))
    refine post2 st Tryz.results11 (rd_t st rfl) (rd_t st rfl) ?_
    exact ⟨_, rfl, ⟨s, rfl, hs⟩, st.ex0⟩
end Go.Proofs.YtclgplbikjmopaaGreatDoor
