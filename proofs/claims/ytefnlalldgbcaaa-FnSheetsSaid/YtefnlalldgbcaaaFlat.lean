/-
  Contracts: flat sheets.
-/
import Derived.Test.YtefnlalldgbcaaaW
namespace Go.Proofs.Ytefnlalldgbcaaa
open Go.RowKit
attribute [local irreducible] Code.wp wpList Oper.wp Calls bodyPost Exit.then Exit.inBlock

theorem IsSL.pushF {bs : List B3} {b : B3} {ss : List S3} {s : S3} (h : IsSL bs ss) (hb : IsS b s) : IsSL (bs ++ [b]) (ss ++ [s]) := by
  have hl := h.len
  refine ⟨by simp [hl], ?_⟩
  intro i b' s' hi hs
  rcases Nat.lt_or_ge i bs.length with hlt | hge
  · rw [List.getElem?_append_left hlt] at hi
    rw [List.getElem?_append_left (by omega)] at hs
    exact h.get i b' s' hi hs
  · rw [List.getElem?_append_right hge] at hi
    rw [List.getElem?_append_right (by omega)] at hs
    have h0 : i - bs.length = 0 := by
      have := (List.getElem?_eq_some_iff.1 hi).1
      simp at this
      omega
    rw [h0] at hi
    rw [show i - ss.length = 0 by omega] at hs
    simp at hi hs
    subst hi
    subst hs
    exact hb

/-- The spot in column i and row j of a flat sheet. -/
def flatS (M K : Nat) (wc lc : Option Nat) (i j : Nat) : S3 := (fop .mul .f32 wc (fop .quo .f32 (some (floatOfInt .f32 (i : Int))) (some (floatOfInt .f32 ((M : Int) - 1)))), fop .mul .f32 lc (fop .quo .f32 (some (floatOfInt .f32 (j : Int))) (some (floatOfInt .f32 ((K : Int) - 1)))), some 0)
/-- The first c spots of a flat sheet. -/
def flatC (M K : Nat) (wc lc : Option Nat) (c : Nat) : List S3 := (List.range c).map fun k => flatS M K wc lc (k % M) (k / M)
theorem flatC_succ (M K : Nat) (wc lc : Option Nat) (c : Nat) : flatC M K wc lc (c + 1) = flatC M K wc lc c ++ [flatS M K wc lc (c % M) (c / M)] := by simp [flatC, List.range_succ]
set_option maxRecDepth 100000 in
set_option maxHeartbeats 16000000 in
theorem l04Flat_ok (M K : Nat) (x y : Nat) (wc lc : Option Nat) (hx : Is .f32 x wc) (hy : Is .f32 y lc) (hM : 2 ≤ M) (hM6 : M ≤ 6) (hK : 2 ≤ K) (hK6 : K ≤ 6) (w : World) :
    CSh Try.prog 143 [.int .i64 M, .int .i64 K, .float .f32 x, .float .f32 y] w M K (flatC M K wc lc (M * K)) := by
  refine enter Try.func143 rfl rfl rfl rfl ?_
  intro a st
  have h36 : M * K ≤ 6 * 6 := Nat.mul_le_mul hM6 hK6
  have hpos : 0 < M * K := Nat.mul_pos (by omega) (by omega)
  have e0 : (M : Int) * (K : Int) = ((M * K : Nat) : Int) := (Int.natCast_mul _ _).symm
  have c0 : -9223372036854775808 ≤ (M : Int) * (K : Int) := by omega
  have c1 : (M : Int) * (K : Int) ≤ 9223372036854775807 := by omega
  (repeat' (first | refine c_seq ?_  | refine c_region ?_  | refine l_do ?_  | refine l_nil ?_  | refine x_then ?_  | refine x_thenE ?_  | refine x_blkN ?_  | refine x_blkE ?_  | refine wp_ret ?_  | refine wp_skip ?_  | refine wp_block ?_  | refine wp_exit ?_  | refine c_condT st rfl ?_  | refine c_condF st rfl ?_  | ((first | refine o_move st rfl rfl ?_  | refine o_assign st rfl rfl ?_); clear st; intro _ st)  | (refine o_alloc st rfl ?_; clear st; intro _ _ _ st)  | ((first | refine o_fieldAddr st rfl rfl ?_  | refine o_loadS st rfl (by repeat constructor) rfl rfl ?_  | refine o_load3 st rfl (by repeat constructor) rfl ?_ ); clear st; intro _ st)  | ((first | refine o_storeS st rfl rfl rfl (by repeat constructor) rfl (by dsimp only [List.set]) ?_  | refine o_storeW st rfl rfl (by repeat constructor) rfl rfl rfl ?_); clear st; intro _ _ st)  | ((first | refine o_build2 st rfl rfl rfl rfl rfl ?_  | refine o_add64 st rfl rfl rfl (by omega) (by omega) ?_  | refine o_sub64 st rfl rfl rfl (by omega) (by omega) ?_ ); clear st; intro _ st)  | (refine o_fop rfl st rfl rfl (by first | assumption | exact Is_ofInt _ _ | exact Is_lit (by decide +kernel)) (by first | assumption | exact Is_ofInt _ _ | exact Is_lit (by decide +kernel)) rfl ?_; clear st; intro _ _ _ _ st)  | ((first | refine o_intFloat st rfl rfl ?_); clear st; intro _ st)  | (refine o_lss st rfl rfl rfl ?_ ?_ <;> clear st <;> intro _ _ st <;> (try (exfalso; omega)))))
  refine wp_loop_ghost (fun n a w' => ∃ (k p8 p9 : Nat) (os : List B3) (v : Value) (Ls : List Ent), os.length = k ∧ k ≤ M * K ∧ n = M * K - k ∧ IsSL os (flatC M K wc lc k) ∧ ((v = .slice none 0 0 ∧ os = [] ∧ Ls = []) ∨ (∃ blk cp pad, 0 < k ∧ v = .slice (some ⟨blk, 0, none⟩) os.length cp ∧ Ls = [⟨blk, true, oS os pad⟩] ∧ (cS os ++ pad).length = cp * 3)) ∧ St w Try.f143.ntmps a w' [(0, .int .i64 M), (1, .int .i64 K), (2, .float .f32 x), (3, .float .f32 y), (8, .pointer (some ⟨p8, 0, none⟩)), (9, .pointer (some ⟨p9, 0, none⟩)), (10, .int .i64 (k : Int))] (Ls ++ [⟨p9, true, .cells [.int .i64 M, .int .i64 K, v].toArray 46 (0, 0)⟩, ⟨p8, true, .cells [.int .i64 0, .int .i64 0, .slice none 0 0].toArray 46 (0, 0)⟩])) (M * K) ⟨0, _, _, [], .slice none 0 0, [], rfl, by omega, by omega, ⟨rfl, by simp⟩, .inl ⟨rfl, rfl, rfl⟩, (st.fit (by repeat (first | exact trivial  | refine And.intro rfl ?_))).subL (by repeat (first | exact List.Sublist.refl _  | apply List.Sublist.cons_cons  | apply List.Sublist.cons  | exact List.nil_sublist _))⟩ ?_
  clear st
  rintro n a w' ⟨k, p8, p9, os, v, Ls, hos, hk, rfl, hI, hv, st⟩
  by_cases hlt : k < M * K
  · have hlt' : ((k : Nat) : Int) < (M : Int) * (K : Int) := by omega
    rcases hv with ⟨rfl, rfl, rfl⟩ | ⟨blk, cp, pad, hk0, rfl, rfl, hp1⟩
    · rw [List.nil_append] at st
      (repeat' (first | (refine o_mul64 st rfl rfl rfl c0 c1 ?_; clear st; intro _ st)  | (refine o_rem64 (j := M) st rfl rfl (by omega) rfl ?_; clear st; intro _ st)  | (refine o_quo64 (j := M) st rfl rfl (by omega) (by omega) rfl ?_; clear st; intro _ st)  | (refine o_buildSliceS [(_, _, _)] st rfl rfl rfl rfl rfl ?_; clear st; intro _ _ _ st)  | (refine o_append1F rfl st rfl rfl (by repeat constructor) rfl ?_; clear st; intro blk1 cap1 pad1 _ _ hp1 st)  | refine c_seq ?_  | refine c_region ?_  | refine l_do ?_  | refine l_nil ?_  | refine x_then ?_  | refine x_thenE ?_  | refine x_blkN ?_  | refine x_blkE ?_  | refine wp_ret ?_  | refine wp_skip ?_  | refine wp_block ?_  | refine wp_exit ?_  | refine c_condT st rfl ?_  | refine c_condF st rfl ?_  | ((first | refine o_move st rfl rfl ?_  | refine o_assign st rfl rfl ?_); clear st; intro _ st)  | (refine o_alloc st rfl ?_; clear st; intro _ _ _ st)  | ((first | refine o_fieldAddr st rfl rfl ?_  | refine o_loadS st rfl (by repeat constructor) rfl rfl ?_  | refine o_load3 st rfl (by repeat constructor) rfl ?_ ); clear st; intro _ st)  | ((first | refine o_storeS st rfl rfl rfl (by repeat constructor) rfl (by dsimp only [List.set]) ?_  | refine o_storeW st rfl rfl (by repeat constructor) rfl rfl rfl ?_); clear st; intro _ _ st)  | ((first | refine o_build2 st rfl rfl rfl rfl rfl ?_  | refine o_add64 st rfl rfl rfl (by omega) (by omega) ?_  | refine o_sub64 st rfl rfl rfl (by omega) (by omega) ?_ ); clear st; intro _ st)  | (refine o_fop rfl st rfl rfl (by first | assumption | exact Is_ofInt _ _ | exact Is_lit (by decide +kernel)) (by first | assumption | exact Is_ofInt _ _ | exact Is_lit (by decide +kernel)) rfl ?_; clear st; intro _ _ _ _ st)  | ((first | refine o_intFloat st rfl rfl ?_); clear st; intro _ st)  | (refine o_lss st rfl rfl rfl ?_ ?_ <;> clear st <;> intro _ _ st <;> (try (exfalso; omega)))))
      refine ⟨M * K - (k + 1), by omega, k + 1, p8, p9, [(_, _, _)], _, [⟨blk1, true, oS [(_, _, _)] pad1⟩], by simp at hos ⊢; omega, by omega, rfl, ?_, .inr ⟨blk1, cap1, pad1, by omega, rfl, rfl, hp1⟩, ?_⟩
      rotate_left
      · have st := St.front 9 st rfl (by repeat constructor)
        have st := St.swap2 st
        exact (st.fit (by repeat (first | exact trivial  | refine And.intro rfl ?_))).subL (by repeat (first | exact List.Sublist.refl _  | apply List.Sublist.cons_cons  | apply List.Sublist.cons  | exact List.nil_sublist _))
      · rw [flatC_succ]
        exact hI.pushF ⟨by assumption, by assumption, Is_z⟩
    · rw [List.cons_append, List.nil_append] at st
      (repeat' (first | (refine o_mul64 st rfl rfl rfl c0 c1 ?_; clear st; intro _ st)  | (refine o_rem64 (j := M) st rfl rfl (by omega) rfl ?_; clear st; intro _ st)  | (refine o_quo64 (j := M) st rfl rfl (by omega) (by omega) rfl ?_; clear st; intro _ st)  | (refine o_buildSliceS [(_, _, _)] st rfl rfl rfl rfl rfl ?_; clear st; intro _ _ _ st)  | (refine o_append1 rfl st rfl rfl (by repeat constructor) (by repeat constructor) hp1 (by omega) rfl ?_; clear st; intro blk1 cap1 pad1 _ _ hp1 st)  | refine c_seq ?_  | refine c_region ?_  | refine l_do ?_  | refine l_nil ?_  | refine x_then ?_  | refine x_thenE ?_  | refine x_blkN ?_  | refine x_blkE ?_  | refine wp_ret ?_  | refine wp_skip ?_  | refine wp_block ?_  | refine wp_exit ?_  | refine c_condT st rfl ?_  | refine c_condF st rfl ?_  | ((first | refine o_move st rfl rfl ?_  | refine o_assign st rfl rfl ?_); clear st; intro _ st)  | (refine o_alloc st rfl ?_; clear st; intro _ _ _ st)  | ((first | refine o_fieldAddr st rfl rfl ?_  | refine o_loadS st rfl (by repeat constructor) rfl rfl ?_  | refine o_load3 st rfl (by repeat constructor) rfl ?_ ); clear st; intro _ st)  | ((first | refine o_storeS st rfl rfl rfl (by repeat constructor) rfl (by dsimp only [List.set]) ?_  | refine o_storeW st rfl rfl (by repeat constructor) rfl rfl rfl ?_); clear st; intro _ _ st)  | ((first | refine o_build2 st rfl rfl rfl rfl rfl ?_  | refine o_add64 st rfl rfl rfl (by omega) (by omega) ?_  | refine o_sub64 st rfl rfl rfl (by omega) (by omega) ?_ ); clear st; intro _ st)  | (refine o_fop rfl st rfl rfl (by first | assumption | exact Is_ofInt _ _ | exact Is_lit (by decide +kernel)) (by first | assumption | exact Is_ofInt _ _ | exact Is_lit (by decide +kernel)) rfl ?_; clear st; intro _ _ _ _ st)  | ((first | refine o_intFloat st rfl rfl ?_); clear st; intro _ st)  | (refine o_lss st rfl rfl rfl ?_ ?_ <;> clear st <;> intro _ _ st <;> (try (exfalso; omega)))))
      refine ⟨M * K - (k + 1), by omega, k + 1, p8, p9, os ++ [(_, _, _)], _, [⟨blk1, true, oS (os ++ [(_, _, _)]) pad1⟩], by simp [hos], by omega, rfl, ?_, .inr ⟨blk1, cap1, pad1, by omega, rfl, rfl, hp1⟩, ?_⟩
      rotate_left
      · exact (st.fit (by repeat (first | exact trivial  | refine And.intro rfl ?_))).subL (by repeat (first | exact List.Sublist.refl _  | apply List.Sublist.cons_cons  | apply List.Sublist.cons  | exact List.nil_sublist _))
      · rw [flatC_succ]
        exact hI.pushF ⟨by assumption, by assumption, Is_z⟩
  · have hge : (M : Int) * (K : Int) ≤ (k : Int) := by omega
    have hkM : k = M * K := by omega
    rcases hv with ⟨_, rfl, _⟩ | ⟨blk, cp, pad, _, rfl, rfl, hp1⟩
    · simp at hos; omega
    (repeat' (first | (refine o_mul64 st rfl rfl rfl c0 c1 ?_; clear st; intro _ st)  | refine c_seq ?_  | refine c_region ?_  | refine l_do ?_  | refine l_nil ?_  | refine x_then ?_  | refine x_thenE ?_  | refine x_blkN ?_  | refine x_blkE ?_  | refine wp_ret ?_  | refine wp_skip ?_  | refine wp_block ?_  | refine wp_exit ?_  | refine c_condT st rfl ?_  | refine c_condF st rfl ?_  | ((first | refine o_move st rfl rfl ?_  | refine o_assign st rfl rfl ?_); clear st; intro _ st)  | (refine o_alloc st rfl ?_; clear st; intro _ _ _ st)  | ((first | refine o_fieldAddr st rfl rfl ?_  | refine o_loadS st rfl (by repeat constructor) rfl rfl ?_  | refine o_load3 st rfl (by repeat constructor) rfl ?_ ); clear st; intro _ st)  | ((first | refine o_storeS st rfl rfl rfl (by repeat constructor) rfl (by dsimp only [List.set]) ?_  | refine o_storeW st rfl rfl (by repeat constructor) rfl rfl rfl ?_); clear st; intro _ _ st)  | ((first | refine o_build2 st rfl rfl rfl rfl rfl ?_  | refine o_add64 st rfl rfl rfl (by omega) (by omega) ?_  | refine o_sub64 st rfl rfl rfl (by omega) (by omega) ?_ ); clear st; intro _ st)  | (refine o_fop rfl st rfl rfl (by first | assumption | exact Is_ofInt _ _ | exact Is_lit (by decide +kernel)) (by first | assumption | exact Is_ofInt _ _ | exact Is_lit (by decide +kernel)) rfl ?_; clear st; intro _ _ _ _ st)  | ((first | refine o_intFloat st rfl rfl ?_); clear st; intro _ st)  | (refine o_lss st rfl rfl rfl ?_ ?_ <;> clear st <;> intro _ _ st <;> (try (exfalso; omega)))))
    refine post1 st Try.results143 (rd_c st rfl (by repeat constructor) rfl) ?_
    exact ⟨_, blk, _, rfl, ⟨os, cp, pad, rfl, rfl, hkM ▸ hI, by simp [cS_length] at hp1; omega⟩, st.ex1 (by repeat constructor)⟩

end Go.Proofs.Ytefnlalldgbcaaa
