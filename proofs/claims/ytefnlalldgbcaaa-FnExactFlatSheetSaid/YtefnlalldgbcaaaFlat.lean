/-
  Contracts: flat sheets.
-/
import Derived.Test.YtefnlalldgbcaaaW
namespace Go.Proofs.Ytefnlalldgbcaaa
open Go.RowKit
attribute [local irreducible] Code.wp wpList Oper.wp Calls bodyPost Exit.then Exit.inBlock

theorem IsSL.pushF {bs : List B3} {b : B3} {ss : List S3} {s : S3} (h : IsSL bs ss) (hb : IsS b s) : IsSL (bs ++ [b]) (ss ++ [s]) := by
  have hl := h.len
  refine ⟨by simp [hl], ?_⟩
  intro i b' s' hi hs
  rcases Nat.lt_or_ge i bs.length with hlt | hge
  · rw [List.getElem?_append_left hlt] at hi
    rw [List.getElem?_append_left (by omega)] at hs
    exact h.get i b' s' hi hs
  · rw [List.getElem?_append_right hge] at hi
    rw [List.getElem?_append_right (by omega)] at hs
    have h0 : i - bs.length = 0 := by
      have := (List.getElem?_eq_some_iff.1 hi).1
      simp at this
      omega
    rw [h0] at hi
    rw [show i - ss.length = 0 by omega] at hs
    simp at hi hs
    subst hi
    subst hs
    exact hb

/-- The spot in column i and row j of a flat sheet. -/
def flatS (M K : Nat) (wc lc : Option Nat) (i j : Nat) : S3 := (fop .mul .f32 wc (fop .quo .f32 (some (floatOfInt .f32 (i : Int))) (some (floatOfInt .f32 ((M : Int) - 1)))), fop .mul .f32 lc (fop .quo .f32 (some (floatOfInt .f32 (j : Int))) (some (floatOfInt .f32 ((K : Int) - 1)))), some 0)
/-- The first c spots of a flat sheet. -/
def flatC (M K : Nat) (wc lc : Option Nat) (c : Nat) : List S3 := (List.range c).map fun k => flatS M K wc lc (k % M) (k / M)
theorem flatC_succ (M K : Nat) (wc lc : Option Nat) (c : Nat) : flatC M K wc lc (c + 1) = flatC M K wc lc c ++ [flatS M K wc lc (c % M) (c / M)] := by simp [flatC, List.range_succ]
theorem flatC_length (M K : Nat) (wc lc : Option Nat) (c : Nat) : (flatC M K wc lc c).length = c := by simp [flatC]
theorem flatC_step (M K : Nat) (wc lc : Option Nat) (i j : Nat) (hi : i < M) : flatC M K wc lc (j * M + i + 1) = flatC M K wc lc (j * M + i) ++ [flatS M K wc lc i j] := by
  rw [flatC_succ, Nat.mul_comm j M, Nat.mul_add_mod, Nat.mod_eq_of_lt hi, Nat.mul_add_div (by omega), Nat.div_eq_of_lt hi, Nat.add_zero]

set_option maxRecDepth 100000 in
set_option maxHeartbeats 16000000 in
theorem l04Flat_ok (M K : Nat) (x y : Nat) (wc lc : Option Nat) (hx : Is .f32 x wc) (hy : Is .f32 y lc) (hM : 2 ≤ M) (hM6 : M ≤ 6) (hK : 2 ≤ K) (hK6 : K ≤ 6) (w : World) :
    CSh Try.prog 143 [.int .i64 M, .int .i64 K, .float .f32 x, .float .f32 y] w M K (flatC M K wc lc (M * K)) := by
  refine enter Try.func143 rfl rfl rfl rfl ?_
  intro a st
  have h36 : M * K ≤ 6 * 6 := Nat.mul_le_mul hM6 hK6
  have hpos : 0 < M * K := Nat.mul_pos (by omega) (by omega)
  have e0 : (M : Int) * (K : Int) = ((M * K : Nat) : Int) := (Int.natCast_mul _ _).symm
  have c0 : -9223372036854775808 ≤ (M : Int) * (K : Int) := by omega
  have c1 : (M : Int) * (K : Int) ≤ 9223372036854775807 := by omega
  (repeat' (first | (refine c_seq ?_) | (refine c_region ?_) | (refine l_do ?_) | (refine l_nil ?_) | (refine x_then ?_) | (refine x_thenR ?_) | (refine x_thenE ?_) | (refine x_blkN ?_) | (refine x_blkR ?_) | (refine x_blkE ?_) | (refine x_blkO rfl ?_) | (refine wp_ret ?_) | (refine wp_skip ?_) | (refine wp_block ?_) | (refine wp_exit ?_) | (refine c_condT st rfl ?_) | (refine c_condF st rfl ?_) | (refine o_move st rfl rfl ?_; clear st; intro _ st) | (refine o_assign st rfl rfl ?_; clear st; intro _ st) | (refine o_alloc st rfl ?_; clear st; intro _ _ _ st) | (refine o_fieldAddr st rfl rfl ?_; clear st; intro _ st) | (refine o_loadS st rfl (by repeat (first | exact At.here | apply At.there)) rfl rfl ?_; clear st; intro _ st) | (refine o_load3 st rfl (by repeat (first | exact At.here | apply At.there)) rfl ?_; clear st; intro _ st) | (refine o_load2 st rfl (by repeat (first | exact At.here | apply At.there)) rfl ?_; clear st; intro _ st) | (refine o_load4 st rfl (by repeat (first | exact At.here | apply At.there)) rfl ?_; clear st; intro _ st) | (refine o_storeS st rfl rfl rfl (by repeat (first | exact Upd.here | apply Upd.there)) rfl (by dsimp only [List.set]) ?_; clear st; intro _ _ st) | (refine o_storeW st rfl rfl (by repeat (first | exact Upd.here | apply Upd.there)) rfl rfl rfl ?_; clear st; intro _ _ st) | (refine o_build3 st rfl rfl rfl rfl rfl rfl rfl ?_; clear st; intro _ st) | (refine o_build2 st rfl rfl rfl rfl rfl ?_; clear st; intro _ st) | (refine o_build0 st rfl ?_; clear st; intro _ st) | (refine o_add64 st rfl rfl rfl (by omega) (by omega) ?_; clear st; intro _ st) | (refine o_sub64 st rfl rfl rfl (by omega) (by omega) ?_; clear st; intro _ st) | (refine o_mulW st rfl rfl rfl ?_; clear st; intro _ st) | (refine o_fop rfl st rfl rfl (by first | assumption | exact Is_ofInt _ _ | exact Is_lit (by decide +kernel)) (by first | assumption | exact Is_ofInt _ _ | exact Is_lit (by decide +kernel)) rfl ?_; clear st; intro _ _ _ _ st) | (refine o_fcv0 st rfl rfl ?_; clear st; intro _ st) | (refine o_intFloat st rfl rfl ?_; clear st; intro _ st) | (refine o_lss st rfl rfl rfl ?_ ?_ <;> clear st <;> intro _ _ st <;> (try (exfalso; omega)))))
  refine wp_loop_ghost (fun n a w' => ∃ (k p8 p9 : Nat) (os : List B3) (v : Value) (Ls : List Ent), os.length = k ∧ k ≤ M * K ∧ n = M * K - k ∧ IsSL os (flatC M K wc lc k) ∧ ((v = .slice none 0 0 ∧ os = [] ∧ Ls = []) ∨ (∃ blk cp pad, 0 < k ∧ v = .slice (some ⟨blk, 0, none⟩) os.length cp ∧ Ls = [⟨blk, true, oS os pad⟩] ∧ (cS os ++ pad).length = cp * 3)) ∧ St w Try.f143.ntmps a w' [(0, .int .i64 M), (1, .int .i64 K), (2, .float .f32 x), (3, .float .f32 y), (8, .pointer (some ⟨p8, 0, none⟩)), (9, .pointer (some ⟨p9, 0, none⟩)), (10, .int .i64 (k : Int))] (Ls ++ [⟨p9, true, .cells [.int .i64 M, .int .i64 K, v].toArray 46 (0, 0)⟩, ⟨p8, true, .cells [.int .i64 0, .int .i64 0, .slice none 0 0].toArray 46 (0, 0)⟩])) (M * K) ⟨0, _, _, [], .slice none 0 0, [], rfl, by omega, by omega, ⟨rfl, by simp⟩, .inl ⟨rfl, rfl, rfl⟩, (st.fit (by repeat (first | exact trivial | refine And.intro rfl ?_))).subL (by repeat (first | exact List.Sublist.refl _ | apply List.Sublist.cons_cons | apply List.Sublist.cons | exact List.nil_sublist _))⟩ ?_
  clear st
  rintro n a w' ⟨k, p8, p9, os, v, Ls, hos, hk, rfl, hI, hv, st⟩
  by_cases hlt : k < M * K
  · have hlt' : ((k : Nat) : Int) < (M : Int) * (K : Int) := by omega
    rcases hv with ⟨rfl, rfl, rfl⟩ | ⟨blk, cp, pad, hk0, rfl, rfl, hp1⟩
    · rw [List.nil_append] at st
      (repeat' (first | (refine o_mul64 st rfl rfl rfl c0 c1 ?_; clear st; intro _ st) | (refine o_rem64 (j := M) st rfl rfl (by omega) rfl ?_; clear st; intro _ st) | (refine o_quo64 (j := M) st rfl rfl (by omega) (by omega) rfl ?_; clear st; intro _ st) | (refine o_buildSliceS [(_, _, _)] st rfl rfl rfl rfl rfl ?_; clear st; intro _ _ _ st) | (refine o_append1F rfl st rfl rfl (by repeat (first | exact At.here | apply At.there)) rfl ?_; clear st; intro blk1 cap1 pad1 _ _ hp1 st) | (refine c_seq ?_) | (refine c_region ?_) | (refine l_do ?_) | (refine l_nil ?_) | (refine x_then ?_) | (refine x_thenR ?_) | (refine x_thenE ?_) | (refine x_blkN ?_) | (refine x_blkR ?_) | (refine x_blkE ?_) | (refine x_blkO rfl ?_) | (refine wp_ret ?_) | (refine wp_skip ?_) | (refine wp_block ?_) | (refine wp_exit ?_) | (refine c_condT st rfl ?_) | (refine c_condF st rfl ?_) | (refine o_move st rfl rfl ?_; clear st; intro _ st) | (refine o_assign st rfl rfl ?_; clear st; intro _ st) | (refine o_alloc st rfl ?_; clear st; intro _ _ _ st) | (refine o_fieldAddr st rfl rfl ?_; clear st; intro _ st) | (refine o_loadS st rfl (by repeat (first | exact At.here | apply At.there)) rfl rfl ?_; clear st; intro _ st) | (refine o_load3 st rfl (by repeat (first | exact At.here | apply At.there)) rfl ?_; clear st; intro _ st) | (refine o_load2 st rfl (by repeat (first | exact At.here | apply At.there)) rfl ?_; clear st; intro _ st) | (refine o_load4 st rfl (by repeat (first | exact At.here | apply At.there)) rfl ?_; clear st; intro _ st) | (refine o_storeS st rfl rfl rfl (by repeat (first | exact Upd.here | apply Upd.there)) rfl (by dsimp only [List.set]) ?_; clear st; intro _ _ st) | (refine o_storeW st rfl rfl (by repeat (first | exact Upd.here | apply Upd.there)) rfl rfl rfl ?_; clear st; intro _ _ st) | (refine o_build3 st rfl rfl rfl rfl rfl rfl rfl ?_; clear st; intro _ st) | (refine o_build2 st rfl rfl rfl rfl rfl ?_; clear st; intro _ st) | (refine o_build0 st rfl ?_; clear st; intro _ st) | (refine o_add64 st rfl rfl rfl (by omega) (by omega) ?_; clear st; intro _ st) | (refine o_sub64 st rfl rfl rfl (by omega) (by omega) ?_; clear st; intro _ st) | (refine o_mulW st rfl rfl rfl ?_; clear st; intro _ st) | (refine o_fop rfl st rfl rfl (by first | assumption | exact Is_ofInt _ _ | exact Is_lit (by decide +kernel)) (by first | assumption | exact Is_ofInt _ _ | exact Is_lit (by decide +kernel)) rfl ?_; clear st; intro _ _ _ _ st) | (refine o_fcv0 st rfl rfl ?_; clear st; intro _ st) | (refine o_intFloat st rfl rfl ?_; clear st; intro _ st) | (refine o_lss st rfl rfl rfl ?_ ?_ <;> clear st <;> intro _ _ st <;> (try (exfalso; omega)))))
      refine ⟨M * K - (k + 1), by omega, k + 1, p8, p9, [(_, _, _)], _, [⟨blk1, true, oS [(_, _, _)] pad1⟩], by simp at hos ⊢; omega, by omega, rfl, ?_, .inr ⟨blk1, cap1, pad1, by omega, rfl, rfl, hp1⟩, ?_⟩
      rotate_left
      · have st := St.front 9 st rfl (by repeat (first | exact Rem.here | apply Rem.there))
        have st := St.swap2 st
        exact (st.fit (by repeat (first | exact trivial | refine And.intro rfl ?_))).subL (by repeat (first | exact List.Sublist.refl _ | apply List.Sublist.cons_cons | apply List.Sublist.cons | exact List.nil_sublist _))
      · rw [flatC_succ]
        exact hI.pushF ⟨by assumption, by assumption, Is_z⟩
    · rw [List.cons_append, List.nil_append] at st
      (repeat' (first | (refine o_mul64 st rfl rfl rfl c0 c1 ?_; clear st; intro _ st) | (refine o_rem64 (j := M) st rfl rfl (by omega) rfl ?_; clear st; intro _ st) | (refine o_quo64 (j := M) st rfl rfl (by omega) (by omega) rfl ?_; clear st; intro _ st) | (refine o_buildSliceS [(_, _, _)] st rfl rfl rfl rfl rfl ?_; clear st; intro _ _ _ st) | (refine o_append1 rfl st rfl rfl (by repeat (first | exact Rem.here | apply Rem.there)) (by repeat (first | exact At.here | apply At.there)) hp1 (by omega) rfl ?_; clear st; intro blk1 cap1 pad1 _ _ hp1 st) | (refine c_seq ?_) | (refine c_region ?_) | (refine l_do ?_) | (refine l_nil ?_) | (refine x_then ?_) | (refine x_thenR ?_) | (refine x_thenE ?_) | (refine x_blkN ?_) | (refine x_blkR ?_) | (refine x_blkE ?_) | (refine x_blkO rfl ?_) | (refine wp_ret ?_) | (refine wp_skip ?_) | (refine wp_block ?_) | (refine wp_exit ?_) | (refine c_condT st rfl ?_) | (refine c_condF st rfl ?_) | (refine o_move st rfl rfl ?_; clear st; intro _ st) | (refine o_assign st rfl rfl ?_; clear st; intro _ st) | (refine o_alloc st rfl ?_; clear st; intro _ _ _ st) | (refine o_fieldAddr st rfl rfl ?_; clear st; intro _ st) | (refine o_loadS st rfl (by repeat (first | exact At.here | apply At.there)) rfl rfl ?_; clear st; intro _ st) | (refine o_load3 st rfl (by repeat (first | exact At.here | apply At.there)) rfl ?_; clear st; intro _ st) | (refine o_load2 st rfl (by repeat (first | exact At.here | apply At.there)) rfl ?_; clear st; intro _ st) | (refine o_load4 st rfl (by repeat (first | exact At.here | apply At.there)) rfl ?_; clear st; intro _ st) | (refine o_storeS st rfl rfl rfl (by repeat (first | exact Upd.here | apply Upd.there)) rfl (by dsimp only [List.set]) ?_; clear st; intro _ _ st) | (refine o_storeW st rfl rfl (by repeat (first | exact Upd.here | apply Upd.there)) rfl rfl rfl ?_; clear st; intro _ _ st) | (refine o_build3 st rfl rfl rfl rfl rfl rfl rfl ?_; clear st; intro _ st) | (refine o_build2 st rfl rfl rfl rfl rfl ?_; clear st; intro _ st) | (refine o_build0 st rfl ?_; clear st; intro _ st) | (refine o_add64 st rfl rfl rfl (by omega) (by omega) ?_; clear st; intro _ st) | (refine o_sub64 st rfl rfl rfl (by omega) (by omega) ?_; clear st; intro _ st) | (refine o_mulW st rfl rfl rfl ?_; clear st; intro _ st) | (refine o_fop rfl st rfl rfl (by first | assumption | exact Is_ofInt _ _ | exact Is_lit (by decide +kernel)) (by first | assumption | exact Is_ofInt _ _ | exact Is_lit (by decide +kernel)) rfl ?_; clear st; intro _ _ _ _ st) | (refine o_fcv0 st rfl rfl ?_; clear st; intro _ st) | (refine o_intFloat st rfl rfl ?_; clear st; intro _ st) | (refine o_lss st rfl rfl rfl ?_ ?_ <;> clear st <;> intro _ _ st <;> (try (exfalso; omega)))))
      refine ⟨M * K - (k + 1), by omega, k + 1, p8, p9, os ++ [(_, _, _)], _, [⟨blk1, true, oS (os ++ [(_, _, _)]) pad1⟩], by simp [hos], by omega, rfl, ?_, .inr ⟨blk1, cap1, pad1, by omega, rfl, rfl, hp1⟩, ?_⟩
      rotate_left
      · exact (st.fit (by repeat (first | exact trivial | refine And.intro rfl ?_))).subL (by repeat (first | exact List.Sublist.refl _ | apply List.Sublist.cons_cons | apply List.Sublist.cons | exact List.nil_sublist _))
      · rw [flatC_succ]
        exact hI.pushF ⟨by assumption, by assumption, Is_z⟩
  · have hge : (M : Int) * (K : Int) ≤ (k : Int) := by omega
    have hkM : k = M * K := by omega
    rcases hv with ⟨_, rfl, _⟩ | ⟨blk, cp, pad, _, rfl, rfl, hp1⟩
    · simp at hos; omega
    (repeat' (first | (refine o_mul64 st rfl rfl rfl c0 c1 ?_; clear st; intro _ st) | (refine c_seq ?_) | (refine c_region ?_) | (refine l_do ?_) | (refine l_nil ?_) | (refine x_then ?_) | (refine x_thenR ?_) | (refine x_thenE ?_) | (refine x_blkN ?_) | (refine x_blkR ?_) | (refine x_blkE ?_) | (refine x_blkO rfl ?_) | (refine wp_ret ?_) | (refine wp_skip ?_) | (refine wp_block ?_) | (refine wp_exit ?_) | (refine c_condT st rfl ?_) | (refine c_condF st rfl ?_) | (refine o_move st rfl rfl ?_; clear st; intro _ st) | (refine o_assign st rfl rfl ?_; clear st; intro _ st) | (refine o_alloc st rfl ?_; clear st; intro _ _ _ st) | (refine o_fieldAddr st rfl rfl ?_; clear st; intro _ st) | (refine o_loadS st rfl (by repeat (first | exact At.here | apply At.there)) rfl rfl ?_; clear st; intro _ st) | (refine o_load3 st rfl (by repeat (first | exact At.here | apply At.there)) rfl ?_; clear st; intro _ st) | (refine o_load2 st rfl (by repeat (first | exact At.here | apply At.there)) rfl ?_; clear st; intro _ st) | (refine o_load4 st rfl (by repeat (first | exact At.here | apply At.there)) rfl ?_; clear st; intro _ st) | (refine o_storeS st rfl rfl rfl (by repeat (first | exact Upd.here | apply Upd.there)) rfl (by dsimp only [List.set]) ?_; clear st; intro _ _ st) | (refine o_storeW st rfl rfl (by repeat (first | exact Upd.here | apply Upd.there)) rfl rfl rfl ?_; clear st; intro _ _ st) | (refine o_build3 st rfl rfl rfl rfl rfl rfl rfl ?_; clear st; intro _ st) | (refine o_build2 st rfl rfl rfl rfl rfl ?_; clear st; intro _ st) | (refine o_build0 st rfl ?_; clear st; intro _ st) | (refine o_add64 st rfl rfl rfl (by omega) (by omega) ?_; clear st; intro _ st) | (refine o_sub64 st rfl rfl rfl (by omega) (by omega) ?_; clear st; intro _ st) | (refine o_mulW st rfl rfl rfl ?_; clear st; intro _ st) | (refine o_fop rfl st rfl rfl (by first | assumption | exact Is_ofInt _ _ | exact Is_lit (by decide +kernel)) (by first | assumption | exact Is_ofInt _ _ | exact Is_lit (by decide +kernel)) rfl ?_; clear st; intro _ _ _ _ st) | (refine o_fcv0 st rfl rfl ?_; clear st; intro _ st) | (refine o_intFloat st rfl rfl ?_; clear st; intro _ st) | (refine o_lss st rfl rfl rfl ?_ ?_ <;> clear st <;> intro _ _ st <;> (try (exfalso; omega)))))
    refine post1 st Try.results143 (rd_c st rfl (by repeat (first | exact At.here | apply At.there)) rfl) ?_
    exact ⟨_, blk, _, rfl, ⟨os, cp, pad, rfl, rfl, hkM ▸ hI, by simp [cS_length] at hp1; omega⟩, st.ex1 (by repeat (first | exact At.here | apply At.there))⟩

/-- A call that makes a sheet and gives it if it is valid. -/
def CShG (P : Program) (f : FuncId) (vs : List Value) (w : World) (m n : Int) (ss : List S3) : Prop := CM1 P f vs w fun v b o => ∃ bs cap pad, v = (if validC m n ss then .tuple #[vSh m n (some ⟨b, 0, none⟩) bs.length cap, .bool true] else .tuple #[vSh0, .bool false]) ∧ o = oS bs pad ∧ IsSL bs ss
theorem CShG.yes {P : Program} {f : FuncId} {vs : List Value} {w : World} {m n : Int} {ss : List S3} (h : CShG P f vs w m n ss) (hf : validC m n ss = true) : CShY P f vs w m n ss :=
  Calls.mono h fun _ _ ⟨v, b, o, he, ⟨bs, cap, pad, hv, ho, hI⟩, hx⟩ => ⟨v, b, o, he, ⟨bs, cap, pad, by rw [hv, hf]; rfl, ho, hI⟩, hx⟩
theorem CShG.no {P : Program} {f : FuncId} {vs : List Value} {w : World} {m n : Int} {ss : List S3} (h : CShG P f vs w m n ss) (hf : validC m n ss = false) : CV P f vs w (.tuple #[vSh0, .bool false]) :=
  Calls.mono h fun _ _ ⟨v, b, o, he, ⟨bs, cap, pad, hv, ho, hI⟩, hx⟩ => ⟨by rw [he, hv, hf]; rfl, ⟨hx.below, by simp, by simp⟩⟩

def flatCan (m n : Int) (wc lc : Option Nat) : Bool := (inB m 2 6 && inB n 2 6) && (finC wc && finC lc)
def flatL (m n : Int) (wc lc : Option Nat) : List S3 := flatC m.toNat n.toNat wc lc (m.toNat * n.toNat)
def flatOk (m n : Int) (wc lc : Option Nat) : Bool := flatCan m n wc lc && validC m n (flatL m n wc lc)
theorem flat_nums {m n : Int} {wc lc : Option Nat} (h : flatCan m n wc lc = true) : ∃ M K : Nat, m = M ∧ n = K ∧ 2 ≤ M ∧ M ≤ 6 ∧ 2 ≤ K ∧ K ≤ 6 ∧ (inB m 2 6 && inB n 2 6) = true ∧ inB m 2 6 = true ∧ inB n 2 6 = true ∧ finC wc = true ∧ finC lc = true := by
  unfold flatCan at h
  simp only [Bool.and_eq_true] at h
  obtain ⟨⟨h1, h2⟩, h3, h4⟩ := h
  have h1' := h1
  have h2' := h2
  simp only [inB, Bool.and_eq_true, decide_eq_true_eq] at h1 h2
  exact ⟨m.toNat, n.toNat, by omega, by omega, by omega, by omega, by omega, by omega, by rw [h1', h2']; rfl, h1', h2', h3, h4⟩

set_option maxHeartbeats 8000000 in
theorem specFlat_can (m n : Int) (x y : Nat) (wc lc : Option Nat) (hx : Is .f32 x wc) (hy : Is .f32 y lc) (hq : flatCan m n wc lc = false) (w : World) :
    CV Try.prog 69 [.int .i64 m, .int .i64 n, .float .f32 x, .float .f32 y] w (.tuple #[vSh0, .bool false]) := by
  refine enter Try.func69 rfl rfl rfl rfl ?_
  intro a st
  have hc := fun w => l04Counts_ok m n w
  have h1 := fun w => l01Finite_ok x wc hx w
  have h2 := fun w => l01Finite_ok y lc hy w
  unfold flatCan at hq
  generalize (inB m 2 6 && inB n 2 6) = q1 at hc hq
  generalize finC wc = q2 at h1 hq
  generalize finC lc = q3 at h2 hq
  have hcase : q1 = false ∨ (q1 = true ∧ q2 = false) ∨ (q1 = true ∧ q2 = true ∧ q3 = false) := by cases q1 <;> cases q2 <;> cases q3 <;> simp_all
  rcases hcase with rfl | ⟨rfl, rfl⟩ | ⟨rfl, rfl, rfl⟩
  all_goals
    (repeat' (first | (refine o_callV st rfl (hc _) rfl ?_; clear st; intro _ _ st) | (refine o_callV st rfl (h1 _) rfl ?_; clear st; intro _ _ st) | (refine o_callV st rfl (h2 _) rfl ?_; clear st; intro _ _ st) | (refine c_seq ?_) | (refine c_region ?_) | (refine l_do ?_) | (refine l_doG st rfl rfl ?_) | (refine l_skipU st rfl rfl rfl ?_; clear st; intro _ st) | (refine l_skip st rfl rfl rfl rfl ?_; clear st; intro _ st) | (refine l_nil ?_) | (refine x_then ?_) | (refine x_thenR ?_) | (refine x_thenE ?_) | (refine wp_ret ?_) | (refine wp_skip ?_) | (refine c_condT st rfl ?_) | (refine c_condF st rfl ?_) | (refine o_move st rfl rfl ?_; clear st; intro _ st) | (refine o_assign st rfl rfl ?_; clear st; intro _ st) | (refine o_pickT st rfl rfl rfl ?_; clear st; intro _ st) | (refine o_pickF st rfl rfl rfl ?_; clear st; intro _ st) | (refine o_alloc st rfl ?_; clear st; intro _ _ _ st) | (refine o_storeS st rfl rfl rfl (by repeat (first | exact Upd.here | apply Upd.there)) rfl (by dsimp only [List.set]) ?_; clear st; intro _ _ st) | (refine o_storeW st rfl rfl (by repeat (first | exact Upd.here | apply Upd.there)) rfl rfl rfl ?_; clear st; intro _ _ st) | (refine o_build3 st rfl rfl rfl rfl rfl rfl rfl ?_; clear st; intro _ st) | (refine o_build2 st rfl rfl rfl rfl rfl ?_; clear st; intro _ st) | (refine o_build0 st rfl ?_; clear st; intro _ st) | (refine o_extract st rfl rfl rfl ?_; clear st; intro _ st) | (refine o_notT st rfl rfl ?_; clear st; intro _ st) | (refine o_notF st rfl rfl ?_; clear st; intro _ st)))
    refine post2 st Try.results69 (rd_c st rfl (by repeat (first | exact At.here | apply At.there)) rfl) (rd_t st rfl) ?_
    exact ⟨rfl, st.ex0⟩
set_option maxHeartbeats 8000000 in
theorem implFlat_can (m n : Int) (x y : Nat) (wc lc : Option Nat) (hx : Is .f32 x wc) (hy : Is .f32 y lc) (hq : flatCan m n wc lc = false) (w : World) :
    CV Try.prog 70 [.int .i64 m, .int .i64 n, .float .f32 x, .float .f32 y] w (.tuple #[vSh0, .bool false]) := by
  refine enter Try.func70 rfl rfl rfl rfl ?_
  intro a st
  have hm := fun w => isAcross_ok m w
  have hn := fun w => isAcross_ok n w
  have hf := fun (w : World) b hb => areFinite_ok [x, y] [wc, lc] ⟨hx, hy, trivial⟩ b 2 w hb (by simp)
  have hff : [wc, lc].all finC = (finC wc && finC lc) := by simp
  rw [hff] at hf
  unfold flatCan at hq
  generalize inB m 2 6 = q1 at hm hq
  generalize inB n 2 6 = q2 at hn hq
  generalize (finC wc && finC lc) = q3 at hf hq
  have hcase : q1 = false ∨ (q1 = true ∧ q2 = false) ∨ (q1 = true ∧ q2 = true ∧ q3 = false) := by cases q1 <;> cases q2 <;> cases q3 <;> simp_all
  rcases hcase with rfl | ⟨rfl, rfl⟩ | ⟨rfl, rfl, rfl⟩
  all_goals
    (repeat' (first | (refine o_callV st rfl (hm _) rfl ?_; clear st; intro _ _ st) | (refine o_callV st rfl (hn _) rfl ?_; clear st; intro _ _ st) | (refine o_buildSlice st rfl rfl rfl rfl rfl rfl ?_; clear st; intro _ _ _ st) | (refine o_callV st rfl (hf _ _ (st.heap (by repeat (first | exact At.here | apply At.there)))) rfl ?_; clear st; intro _ _ st) | (refine c_seq ?_) | (refine c_region ?_) | (refine l_do ?_) | (refine l_doG st rfl rfl ?_) | (refine l_skipU st rfl rfl rfl ?_; clear st; intro _ st) | (refine l_skip st rfl rfl rfl rfl ?_; clear st; intro _ st) | (refine l_nil ?_) | (refine x_then ?_) | (refine x_thenR ?_) | (refine x_thenE ?_) | (refine x_blkN ?_) | (refine x_blkR ?_) | (refine x_blkE ?_) | (refine x_blkO rfl ?_) | (refine wp_ret ?_) | (refine wp_skip ?_) | (refine wp_block ?_) | (refine wp_exit ?_) | (refine c_condT st rfl ?_) | (refine c_condF st rfl ?_) | (refine o_move st rfl rfl ?_; clear st; intro _ st) | (refine o_assign st rfl rfl ?_; clear st; intro _ st) | (refine o_pickT st rfl rfl rfl ?_; clear st; intro _ st) | (refine o_pickF st rfl rfl rfl ?_; clear st; intro _ st) | (refine o_alloc st rfl ?_; clear st; intro _ _ _ st) | (refine o_fieldAddr st rfl rfl ?_; clear st; intro _ st) | (refine o_loadS st rfl (by repeat (first | exact At.here | apply At.there)) rfl rfl ?_; clear st; intro _ st) | (refine o_load3 st rfl (by repeat (first | exact At.here | apply At.there)) rfl ?_; clear st; intro _ st) | (refine o_load2 st rfl (by repeat (first | exact At.here | apply At.there)) rfl ?_; clear st; intro _ st) | (refine o_load4 st rfl (by repeat (first | exact At.here | apply At.there)) rfl ?_; clear st; intro _ st) | (refine o_storeS st rfl rfl rfl (by repeat (first | exact Upd.here | apply Upd.there)) rfl (by dsimp only [List.set]) ?_; clear st; intro _ _ st) | (refine o_storeW st rfl rfl (by repeat (first | exact Upd.here | apply Upd.there)) rfl rfl rfl ?_; clear st; intro _ _ st) | (refine o_build3 st rfl rfl rfl rfl rfl rfl rfl ?_; clear st; intro _ st) | (refine o_build2 st rfl rfl rfl rfl rfl ?_; clear st; intro _ st) | (refine o_build0 st rfl ?_; clear st; intro _ st) | (refine o_extract st rfl rfl rfl ?_; clear st; intro _ st) | (refine o_add64 st rfl rfl rfl (by omega) (by omega) ?_; clear st; intro _ st) | (refine o_sub64 st rfl rfl rfl (by omega) (by omega) ?_; clear st; intro _ st) | (refine o_notT st rfl rfl ?_; clear st; intro _ st) | (refine o_notF st rfl rfl ?_; clear st; intro _ st) | (refine o_fop rfl st rfl rfl (by first | assumption | exact Is_ofInt _ _ | exact Is_lit (by decide +kernel)) (by first | assumption | exact Is_ofInt _ _ | exact Is_lit (by decide +kernel)) rfl ?_; clear st; intro _ _ _ _ st) | (refine o_fcv0 st rfl rfl ?_; clear st; intro _ st) | (refine o_intFloat st rfl rfl ?_; clear st; intro _ st) | (refine o_lss st rfl rfl rfl ?_ ?_ <;> clear st <;> intro _ _ st <;> (try (exfalso; omega)))))
    refine post2 st Try.results70 (rd_c st rfl (by repeat (first | exact At.here | apply At.there)) rfl) (rd_t st rfl) ?_
    exact ⟨rfl, st.ex0⟩
set_option maxHeartbeats 8000000 in
theorem specFlat_ok (m n : Int) (x y : Nat) (wc lc : Option Nat) (hx : Is .f32 x wc) (hy : Is .f32 y lc) (hq : flatCan m n wc lc = true) (w : World) :
    CShG Try.prog 69 [.int .i64 m, .int .i64 n, .float .f32 x, .float .f32 y] w m n (flatL m n wc lc) := by
  refine enter Try.func69 rfl rfl rfl rfl ?_
  intro a st
  have hc := fun w => l04Counts_ok m n w
  have h1 := fun w => l01Finite_ok x wc hx w
  have h2 := fun w => l01Finite_ok y lc hy w
  obtain ⟨M, K, rfl, rfl, hm0, hm1, hn0, hn1, e0, _, _, e1, e2⟩ := flat_nums hq
  rw [e0] at hc
  rw [e1] at h1
  rw [e2] at h2
  have h36 : M * K ≤ 6 * 6 := Nat.mul_le_mul hm1 hn1
  have hF : flatL M K wc lc = flatC M K wc lc (M * K) := rfl
  have hFl := flatC_length M K wc lc (M * K)
  rw [hF]
  have hg := fun (w : World) bs base cap hI hr hl => l04Give_ok M K bs (flatC M K wc lc (M * K)) hI base cap w hr hl
  generalize hv : validC M K (flatC M K wc lc (M * K)) = v at hg
  cases v
  all_goals
    (repeat' (first | (refine o_callV st rfl (hc _) rfl ?_; clear st; intro _ _ st) | (refine o_callV st rfl (h1 _) rfl ?_; clear st; intro _ _ st) | (refine o_callV st rfl (h2 _) rfl ?_; clear st; intro _ _ st) | (refine o_callSh st rfl (l04Flat_ok M K x y wc lc hx hy hm0 hm1 hn0 hn1 _) rfl ?_; clear st; intro fb fs fcap fpad hF hFl2 hFc _ _ st) | (refine o_callV st rfl (hg _ fs _ _ hF (RdS.of (st.heap (by repeat (first | exact At.here | apply At.there))) (spotsIn0p fs fpad)) (by omega)) rfl ?_; clear st; intro _ _ st) | (refine c_seq ?_) | (refine c_region ?_) | (refine l_do ?_) | (refine l_doG st rfl rfl ?_) | (refine l_skipU st rfl rfl rfl ?_; clear st; intro _ st) | (refine l_skip st rfl rfl rfl rfl ?_; clear st; intro _ st) | (refine l_nil ?_) | (refine x_then ?_) | (refine x_thenR ?_) | (refine x_thenE ?_) | (refine wp_ret ?_) | (refine wp_skip ?_) | (refine c_condT st rfl ?_) | (refine c_condF st rfl ?_) | (refine o_move st rfl rfl ?_; clear st; intro _ st) | (refine o_assign st rfl rfl ?_; clear st; intro _ st) | (refine o_pickT st rfl rfl rfl ?_; clear st; intro _ st) | (refine o_pickF st rfl rfl rfl ?_; clear st; intro _ st) | (refine o_alloc st rfl ?_; clear st; intro _ _ _ st) | (refine o_storeS st rfl rfl rfl (by repeat (first | exact Upd.here | apply Upd.there)) rfl (by dsimp only [List.set]) ?_; clear st; intro _ _ st) | (refine o_storeW st rfl rfl (by repeat (first | exact Upd.here | apply Upd.there)) rfl rfl rfl ?_; clear st; intro _ _ st) | (refine o_build3 st rfl rfl rfl rfl rfl rfl rfl ?_; clear st; intro _ st) | (refine o_build2 st rfl rfl rfl rfl rfl ?_; clear st; intro _ st) | (refine o_build0 st rfl ?_; clear st; intro _ st) | (refine o_extract st rfl rfl rfl ?_; clear st; intro _ st) | (refine o_notT st rfl rfl ?_; clear st; intro _ st) | (refine o_notF st rfl rfl ?_; clear st; intro _ st)))
    refine post2 st Try.results69 (rd_c st rfl (by repeat (first | exact At.here | apply At.there)) rfl) (rd_t st rfl) ?_
    exact ⟨_, fb, _, rfl, ⟨fs, fcap, fpad, by first | rfl | (rw [hv]; rfl), rfl, hF⟩, st.ex1 (by repeat (first | exact At.here | apply At.there))⟩

set_option maxRecDepth 100000 in
set_option maxHeartbeats 16000000 in
theorem implFlat_ok (m n : Int) (x y : Nat) (wc lc : Option Nat) (hx : Is .f32 x wc) (hy : Is .f32 y lc) (hq : flatCan m n wc lc = true) (w : World) :
    CShG Try.prog 70 [.int .i64 m, .int .i64 n, .float .f32 x, .float .f32 y] w m n (flatL m n wc lc) := by
  refine enter Try.func70 rfl rfl rfl rfl ?_
  intro a st
  have hm := fun w => isAcross_ok m w
  have hn := fun w => isAcross_ok n w
  have hf := fun (w : World) b hb => areFinite_ok [x, y] [wc, lc] ⟨hx, hy, trivial⟩ b 2 w hb (by simp)
  have hff : [wc, lc].all finC = (finC wc && finC lc) := by simp
  rw [hff] at hf
  obtain ⟨M, K, rfl, rfl, hm0, hm1, hn0, hn1, _, e0, e3, e1, e2⟩ := flat_nums hq
  rw [e0] at hm
  rw [e3] at hn
  rw [e1, e2, Bool.and_self] at hf
  have h36 : M * K ≤ 6 * 6 := Nat.mul_le_mul hm1 hn1
  have hpos : 0 < M * K := Nat.mul_pos (by omega) (by omega)
  have hF : flatL M K wc lc = flatC M K wc lc (M * K) := rfl
  rw [hF]
  (repeat' (first | (refine o_callV st rfl (hm _) rfl ?_; clear st; intro _ _ st) | (refine o_callV st rfl (hn _) rfl ?_; clear st; intro _ _ st) | (refine o_buildSlice st rfl rfl rfl rfl rfl rfl ?_; clear st; intro _ _ _ st) | (refine o_callV st rfl (hf _ _ (st.heap (by repeat (first | exact At.here | apply At.there)))) rfl ?_; clear st; intro _ _ st) | (refine c_seq ?_) | (refine c_region ?_) | (refine l_do ?_) | (refine l_doG st rfl rfl ?_) | (refine l_skipU st rfl rfl rfl ?_; clear st; intro _ st) | (refine l_skip st rfl rfl rfl rfl ?_; clear st; intro _ st) | (refine l_nil ?_) | (refine x_then ?_) | (refine x_thenR ?_) | (refine x_thenE ?_) | (refine x_blkN ?_) | (refine x_blkR ?_) | (refine x_blkE ?_) | (refine x_blkO rfl ?_) | (refine wp_ret ?_) | (refine wp_skip ?_) | (refine wp_block ?_) | (refine wp_exit ?_) | (refine c_condT st rfl ?_) | (refine c_condF st rfl ?_) | (refine o_move st rfl rfl ?_; clear st; intro _ st) | (refine o_assign st rfl rfl ?_; clear st; intro _ st) | (refine o_pickT st rfl rfl rfl ?_; clear st; intro _ st) | (refine o_pickF st rfl rfl rfl ?_; clear st; intro _ st) | (refine o_alloc st rfl ?_; clear st; intro _ _ _ st) | (refine o_fieldAddr st rfl rfl ?_; clear st; intro _ st) | (refine o_loadS st rfl (by repeat (first | exact At.here | apply At.there)) rfl rfl ?_; clear st; intro _ st) | (refine o_load3 st rfl (by repeat (first | exact At.here | apply At.there)) rfl ?_; clear st; intro _ st) | (refine o_load2 st rfl (by repeat (first | exact At.here | apply At.there)) rfl ?_; clear st; intro _ st) | (refine o_load4 st rfl (by repeat (first | exact At.here | apply At.there)) rfl ?_; clear st; intro _ st) | (refine o_storeS st rfl rfl rfl (by repeat (first | exact Upd.here | apply Upd.there)) rfl (by dsimp only [List.set]) ?_; clear st; intro _ _ st) | (refine o_storeW st rfl rfl (by repeat (first | exact Upd.here | apply Upd.there)) rfl rfl rfl ?_; clear st; intro _ _ st) | (refine o_build3 st rfl rfl rfl rfl rfl rfl rfl ?_; clear st; intro _ st) | (refine o_build2 st rfl rfl rfl rfl rfl ?_; clear st; intro _ st) | (refine o_build0 st rfl ?_; clear st; intro _ st) | (refine o_extract st rfl rfl rfl ?_; clear st; intro _ st) | (refine o_add64 st rfl rfl rfl (by omega) (by omega) ?_; clear st; intro _ st) | (refine o_sub64 st rfl rfl rfl (by omega) (by omega) ?_; clear st; intro _ st) | (refine o_notT st rfl rfl ?_; clear st; intro _ st) | (refine o_notF st rfl rfl ?_; clear st; intro _ st) | (refine o_fop rfl st rfl rfl (by first | assumption | exact Is_ofInt _ _ | exact Is_lit (by decide +kernel)) (by first | assumption | exact Is_ofInt _ _ | exact Is_lit (by decide +kernel)) rfl ?_; clear st; intro _ _ _ _ st) | (refine o_fcv0 st rfl rfl ?_; clear st; intro _ st) | (refine o_intFloat st rfl rfl ?_; clear st; intro _ st) | (refine o_lss st rfl rfl rfl ?_ ?_ <;> clear st <;> intro _ _ st <;> (try (exfalso; omega)))))
  refine wp_loop_ghost (fun z a w' => ∃ (j p8 p10 : Nat) (os : List B3) (v : Value) (Ls : List Ent), os.length = j * M ∧ j ≤ K ∧ z = K - j ∧ IsSL os (flatC M K wc lc (j * M)) ∧ ((v = .slice none 0 0 ∧ os = [] ∧ Ls = []) ∨ (∃ blk cp pad, 0 < os.length ∧ v = .slice (some ⟨blk, 0, none⟩) os.length cp ∧ Ls = [⟨blk, true, oS os pad⟩] ∧ (cS os ++ pad).length = cp * 3)) ∧ St w Try.f70.ntmps a w' [(0, .int .i64 M), (1, .int .i64 K), (2, .float .f32 x), (3, .float .f32 y), (8, .pointer (some ⟨p8, 0, none⟩)), (10, .pointer (some ⟨p10, 0, none⟩)), (32, .int .i64 K), (33, .int .i64 (j : Int))] (Ls ++ [⟨p10, true, .cells [.int .i64 M, .int .i64 K, v].toArray 46 (0, 0)⟩, ⟨p8, true, .cells [.int .i64 0, .int .i64 0, .slice none 0 0].toArray 46 (0, 0)⟩])) K ⟨0, _, _, [], .slice none 0 0, [], by simp, by omega, by omega, by rw [Nat.zero_mul]; exact ⟨rfl, by simp⟩, .inl ⟨rfl, rfl, rfl⟩, (st.fit (by repeat (first | exact trivial | refine And.intro rfl ?_))).subL (by repeat (first | exact List.Sublist.refl _ | apply List.Sublist.cons_cons | apply List.Sublist.cons | exact List.nil_sublist _))⟩ ?_
  clear st
  rintro z a w' ⟨j, p8, p10, os, v, Ls, hos, hj, rfl, hI, hv, st⟩
  by_cases hlt : j < K
  · have hle : (j + 1) * M ≤ K * M := Nat.mul_le_mul_right _ hlt
    rw [Nat.add_mul, Nat.one_mul, Nat.mul_comm K M] at hle
    (repeat' (first | (refine c_seq ?_) | (refine c_region ?_) | (refine l_do ?_) | (refine l_doG st rfl rfl ?_) | (refine l_skipU st rfl rfl rfl ?_; clear st; intro _ st) | (refine l_skip st rfl rfl rfl rfl ?_; clear st; intro _ st) | (refine l_nil ?_) | (refine x_then ?_) | (refine x_thenR ?_) | (refine x_thenE ?_) | (refine x_blkN ?_) | (refine x_blkR ?_) | (refine x_blkE ?_) | (refine x_blkO rfl ?_) | (refine wp_ret ?_) | (refine wp_skip ?_) | (refine wp_block ?_) | (refine wp_exit ?_) | (refine c_condT st rfl ?_) | (refine c_condF st rfl ?_) | (refine o_move st rfl rfl ?_; clear st; intro _ st) | (refine o_assign st rfl rfl ?_; clear st; intro _ st) | (refine o_pickT st rfl rfl rfl ?_; clear st; intro _ st) | (refine o_pickF st rfl rfl rfl ?_; clear st; intro _ st) | (refine o_alloc st rfl ?_; clear st; intro _ _ _ st) | (refine o_fieldAddr st rfl rfl ?_; clear st; intro _ st) | (refine o_loadS st rfl (by repeat (first | exact At.here | apply At.there)) rfl rfl ?_; clear st; intro _ st) | (refine o_load3 st rfl (by repeat (first | exact At.here | apply At.there)) rfl ?_; clear st; intro _ st) | (refine o_load2 st rfl (by repeat (first | exact At.here | apply At.there)) rfl ?_; clear st; intro _ st) | (refine o_load4 st rfl (by repeat (first | exact At.here | apply At.there)) rfl ?_; clear st; intro _ st) | (refine o_storeS st rfl rfl rfl (by repeat (first | exact Upd.here | apply Upd.there)) rfl (by dsimp only [List.set]) ?_; clear st; intro _ _ st) | (refine o_storeW st rfl rfl (by repeat (first | exact Upd.here | apply Upd.there)) rfl rfl rfl ?_; clear st; intro _ _ st) | (refine o_build3 st rfl rfl rfl rfl rfl rfl rfl ?_; clear st; intro _ st) | (refine o_build2 st rfl rfl rfl rfl rfl ?_; clear st; intro _ st) | (refine o_build0 st rfl ?_; clear st; intro _ st) | (refine o_extract st rfl rfl rfl ?_; clear st; intro _ st) | (refine o_add64 st rfl rfl rfl (by omega) (by omega) ?_; clear st; intro _ st) | (refine o_sub64 st rfl rfl rfl (by omega) (by omega) ?_; clear st; intro _ st) | (refine o_notT st rfl rfl ?_; clear st; intro _ st) | (refine o_notF st rfl rfl ?_; clear st; intro _ st) | (refine o_fop rfl st rfl rfl (by first | assumption | exact Is_ofInt _ _ | exact Is_lit (by decide +kernel)) (by first | assumption | exact Is_ofInt _ _ | exact Is_lit (by decide +kernel)) rfl ?_; clear st; intro _ _ _ _ st) | (refine o_fcv0 st rfl rfl ?_; clear st; intro _ st) | (refine o_intFloat st rfl rfl ?_; clear st; intro _ st) | (refine o_lss st rfl rfl rfl ?_ ?_ <;> clear st <;> intro _ _ st <;> (try (exfalso; omega)))))
    refine wp_loop_ghost (fun z a w' => ∃ (i p8 p10 : Nat) (os : List B3) (v : Value) (Ls : List Ent), os.length = j * M + i ∧ i ≤ M ∧ z = M - i ∧ IsSL os (flatC M K wc lc (j * M + i)) ∧ ((v = .slice none 0 0 ∧ os = [] ∧ Ls = []) ∨ (∃ blk cp pad, 0 < os.length ∧ v = .slice (some ⟨blk, 0, none⟩) os.length cp ∧ Ls = [⟨blk, true, oS os pad⟩] ∧ (cS os ++ pad).length = cp * 3)) ∧ St w Try.f70.ntmps a w' [(0, .int .i64 M), (1, .int .i64 K), (2, .float .f32 x), (3, .float .f32 y), (8, .pointer (some ⟨p8, 0, none⟩)), (10, .pointer (some ⟨p10, 0, none⟩)), (11, .int .i64 (j : Int)), (32, .int .i64 K), (33, .int .i64 (j : Int)), (36, .int .i64 M), (37, .int .i64 (i : Int))] (Ls ++ [⟨p10, true, .cells [.int .i64 M, .int .i64 K, v].toArray 46 (0, 0)⟩, ⟨p8, true, .cells [.int .i64 0, .int .i64 0, .slice none 0 0].toArray 46 (0, 0)⟩])) M ⟨0, p8, p10, os, v, Ls, by omega, by omega, by omega, hI, hv, st.fit (by repeat (first | exact trivial | refine And.intro rfl ?_))⟩ ?_
    clear st hos hI hv p8 p10 os v Ls
    rintro z a w' ⟨i, p8, p10, os, v, Ls, hos, hi, rfl, hI, hv, st⟩
    by_cases hlt' : i < M
    · have hstep := flatC_step M K wc lc i j hlt'
      rcases hv with ⟨rfl, rfl, rfl⟩ | ⟨blk, cp, pad, hk0, rfl, rfl, hp1⟩
      · rw [List.nil_append] at st
        (repeat' (first | (refine o_buildSliceS [(_, _, _)] st rfl rfl rfl rfl rfl ?_; clear st; intro _ _ _ st) | (refine o_append1F rfl st rfl rfl (by repeat (first | exact At.here | apply At.there)) rfl ?_; clear st; intro blk1 cap1 pad1 _ _ hp1 st) | (refine c_seq ?_) | (refine c_region ?_) | (refine l_do ?_) | (refine l_doG st rfl rfl ?_) | (refine l_skipU st rfl rfl rfl ?_; clear st; intro _ st) | (refine l_skip st rfl rfl rfl rfl ?_; clear st; intro _ st) | (refine l_nil ?_) | (refine x_then ?_) | (refine x_thenR ?_) | (refine x_thenE ?_) | (refine x_blkN ?_) | (refine x_blkR ?_) | (refine x_blkE ?_) | (refine x_blkO rfl ?_) | (refine wp_ret ?_) | (refine wp_skip ?_) | (refine wp_block ?_) | (refine wp_exit ?_) | (refine c_condT st rfl ?_) | (refine c_condF st rfl ?_) | (refine o_move st rfl rfl ?_; clear st; intro _ st) | (refine o_assign st rfl rfl ?_; clear st; intro _ st) | (refine o_pickT st rfl rfl rfl ?_; clear st; intro _ st) | (refine o_pickF st rfl rfl rfl ?_; clear st; intro _ st) | (refine o_alloc st rfl ?_; clear st; intro _ _ _ st) | (refine o_fieldAddr st rfl rfl ?_; clear st; intro _ st) | (refine o_loadS st rfl (by repeat (first | exact At.here | apply At.there)) rfl rfl ?_; clear st; intro _ st) | (refine o_load3 st rfl (by repeat (first | exact At.here | apply At.there)) rfl ?_; clear st; intro _ st) | (refine o_load2 st rfl (by repeat (first | exact At.here | apply At.there)) rfl ?_; clear st; intro _ st) | (refine o_load4 st rfl (by repeat (first | exact At.here | apply At.there)) rfl ?_; clear st; intro _ st) | (refine o_storeS st rfl rfl rfl (by repeat (first | exact Upd.here | apply Upd.there)) rfl (by dsimp only [List.set]) ?_; clear st; intro _ _ st) | (refine o_storeW st rfl rfl (by repeat (first | exact Upd.here | apply Upd.there)) rfl rfl rfl ?_; clear st; intro _ _ st) | (refine o_build3 st rfl rfl rfl rfl rfl rfl rfl ?_; clear st; intro _ st) | (refine o_build2 st rfl rfl rfl rfl rfl ?_; clear st; intro _ st) | (refine o_build0 st rfl ?_; clear st; intro _ st) | (refine o_extract st rfl rfl rfl ?_; clear st; intro _ st) | (refine o_add64 st rfl rfl rfl (by omega) (by omega) ?_; clear st; intro _ st) | (refine o_sub64 st rfl rfl rfl (by omega) (by omega) ?_; clear st; intro _ st) | (refine o_notT st rfl rfl ?_; clear st; intro _ st) | (refine o_notF st rfl rfl ?_; clear st; intro _ st) | (refine o_fop rfl st rfl rfl (by first | assumption | exact Is_ofInt _ _ | exact Is_lit (by decide +kernel)) (by first | assumption | exact Is_ofInt _ _ | exact Is_lit (by decide +kernel)) rfl ?_; clear st; intro _ _ _ _ st) | (refine o_fcv0 st rfl rfl ?_; clear st; intro _ st) | (refine o_intFloat st rfl rfl ?_; clear st; intro _ st) | (refine o_lss st rfl rfl rfl ?_ ?_ <;> clear st <;> intro _ _ st <;> (try (exfalso; omega)))))
        refine ⟨M - (i + 1), by omega, i + 1, p8, p10, [(_, _, _)], _, [⟨blk1, true, oS [(_, _, _)] pad1⟩], by simp at hos ⊢; omega, by omega, rfl, ?_, .inr ⟨blk1, cap1, pad1, by simp, rfl, rfl, hp1⟩, ?_⟩
        rotate_left
        · have st := St.front 10 st rfl (by repeat (first | exact Rem.here | apply Rem.there))
          have st := St.swap2 st
          exact (st.fit (by repeat (first | exact trivial | refine And.intro rfl ?_))).subL (by repeat (first | exact List.Sublist.refl _ | apply List.Sublist.cons_cons | apply List.Sublist.cons | exact List.nil_sublist _))
        · rw [← Nat.add_assoc, hstep]
          exact hI.pushF ⟨by assumption, by assumption, Is_z⟩
      · rw [List.cons_append, List.nil_append] at st
        (repeat' (first | (refine o_buildSliceS [(_, _, _)] st rfl rfl rfl rfl rfl ?_; clear st; intro _ _ _ st) | (refine o_append1 rfl st rfl rfl (by repeat (first | exact Rem.here | apply Rem.there)) (by repeat (first | exact At.here | apply At.there)) hp1 (by omega) rfl ?_; clear st; intro blk1 cap1 pad1 _ _ hp1 st) | (refine c_seq ?_) | (refine c_region ?_) | (refine l_do ?_) | (refine l_doG st rfl rfl ?_) | (refine l_skipU st rfl rfl rfl ?_; clear st; intro _ st) | (refine l_skip st rfl rfl rfl rfl ?_; clear st; intro _ st) | (refine l_nil ?_) | (refine x_then ?_) | (refine x_thenR ?_) | (refine x_thenE ?_) | (refine x_blkN ?_) | (refine x_blkR ?_) | (refine x_blkE ?_) | (refine x_blkO rfl ?_) | (refine wp_ret ?_) | (refine wp_skip ?_) | (refine wp_block ?_) | (refine wp_exit ?_) | (refine c_condT st rfl ?_) | (refine c_condF st rfl ?_) | (refine o_move st rfl rfl ?_; clear st; intro _ st) | (refine o_assign st rfl rfl ?_; clear st; intro _ st) | (refine o_pickT st rfl rfl rfl ?_; clear st; intro _ st) | (refine o_pickF st rfl rfl rfl ?_; clear st; intro _ st) | (refine o_alloc st rfl ?_; clear st; intro _ _ _ st) | (refine o_fieldAddr st rfl rfl ?_; clear st; intro _ st) | (refine o_loadS st rfl (by repeat (first | exact At.here | apply At.there)) rfl rfl ?_; clear st; intro _ st) | (refine o_load3 st rfl (by repeat (first | exact At.here | apply At.there)) rfl ?_; clear st; intro _ st) | (refine o_load2 st rfl (by repeat (first | exact At.here | apply At.there)) rfl ?_; clear st; intro _ st) | (refine o_load4 st rfl (by repeat (first | exact At.here | apply At.there)) rfl ?_; clear st; intro _ st) | (refine o_storeS st rfl rfl rfl (by repeat (first | exact Upd.here | apply Upd.there)) rfl (by dsimp only [List.set]) ?_; clear st; intro _ _ st) | (refine o_storeW st rfl rfl (by repeat (first | exact Upd.here | apply Upd.there)) rfl rfl rfl ?_; clear st; intro _ _ st) | (refine o_build3 st rfl rfl rfl rfl rfl rfl rfl ?_; clear st; intro _ st) | (refine o_build2 st rfl rfl rfl rfl rfl ?_; clear st; intro _ st) | (refine o_build0 st rfl ?_; clear st; intro _ st) | (refine o_extract st rfl rfl rfl ?_; clear st; intro _ st) | (refine o_add64 st rfl rfl rfl (by omega) (by omega) ?_; clear st; intro _ st) | (refine o_sub64 st rfl rfl rfl (by omega) (by omega) ?_; clear st; intro _ st) | (refine o_notT st rfl rfl ?_; clear st; intro _ st) | (refine o_notF st rfl rfl ?_; clear st; intro _ st) | (refine o_fop rfl st rfl rfl (by first | assumption | exact Is_ofInt _ _ | exact Is_lit (by decide +kernel)) (by first | assumption | exact Is_ofInt _ _ | exact Is_lit (by decide +kernel)) rfl ?_; clear st; intro _ _ _ _ st) | (refine o_fcv0 st rfl rfl ?_; clear st; intro _ st) | (refine o_intFloat st rfl rfl ?_; clear st; intro _ st) | (refine o_lss st rfl rfl rfl ?_ ?_ <;> clear st <;> intro _ _ st <;> (try (exfalso; omega)))))
        refine ⟨M - (i + 1), by omega, i + 1, p8, p10, os ++ [(_, _, _)], _, [⟨blk1, true, oS (os ++ [(_, _, _)]) pad1⟩], by simp [hos]; omega, by omega, rfl, ?_, .inr ⟨blk1, cap1, pad1, by simp, rfl, rfl, hp1⟩, ?_⟩
        rotate_left
        · exact (st.fit (by repeat (first | exact trivial | refine And.intro rfl ?_))).subL (by repeat (first | exact List.Sublist.refl _ | apply List.Sublist.cons_cons | apply List.Sublist.cons | exact List.nil_sublist _))
        · rw [← Nat.add_assoc, hstep]
          exact hI.pushF ⟨by assumption, by assumption, Is_z⟩
    · have hi' : i = M := by omega
      subst hi'
      have hj1 : j * i + i = (j + 1) * i := by rw [Nat.add_mul, Nat.one_mul]
      rw [hj1] at hos hI
      (repeat' (first | (refine c_seq ?_) | (refine c_region ?_) | (refine l_do ?_) | (refine l_doG st rfl rfl ?_) | (refine l_skipU st rfl rfl rfl ?_; clear st; intro _ st) | (refine l_skip st rfl rfl rfl rfl ?_; clear st; intro _ st) | (refine l_nil ?_) | (refine x_then ?_) | (refine x_thenR ?_) | (refine x_thenE ?_) | (refine x_blkN ?_) | (refine x_blkR ?_) | (refine x_blkE ?_) | (refine x_blkO rfl ?_) | (refine wp_ret ?_) | (refine wp_skip ?_) | (refine wp_block ?_) | (refine wp_exit ?_) | (refine c_condT st rfl ?_) | (refine c_condF st rfl ?_) | (refine o_move st rfl rfl ?_; clear st; intro _ st) | (refine o_assign st rfl rfl ?_; clear st; intro _ st) | (refine o_pickT st rfl rfl rfl ?_; clear st; intro _ st) | (refine o_pickF st rfl rfl rfl ?_; clear st; intro _ st) | (refine o_alloc st rfl ?_; clear st; intro _ _ _ st) | (refine o_fieldAddr st rfl rfl ?_; clear st; intro _ st) | (refine o_loadS st rfl (by repeat (first | exact At.here | apply At.there)) rfl rfl ?_; clear st; intro _ st) | (refine o_load3 st rfl (by repeat (first | exact At.here | apply At.there)) rfl ?_; clear st; intro _ st) | (refine o_load2 st rfl (by repeat (first | exact At.here | apply At.there)) rfl ?_; clear st; intro _ st) | (refine o_load4 st rfl (by repeat (first | exact At.here | apply At.there)) rfl ?_; clear st; intro _ st) | (refine o_storeS st rfl rfl rfl (by repeat (first | exact Upd.here | apply Upd.there)) rfl (by dsimp only [List.set]) ?_; clear st; intro _ _ st) | (refine o_storeW st rfl rfl (by repeat (first | exact Upd.here | apply Upd.there)) rfl rfl rfl ?_; clear st; intro _ _ st) | (refine o_build3 st rfl rfl rfl rfl rfl rfl rfl ?_; clear st; intro _ st) | (refine o_build2 st rfl rfl rfl rfl rfl ?_; clear st; intro _ st) | (refine o_build0 st rfl ?_; clear st; intro _ st) | (refine o_extract st rfl rfl rfl ?_; clear st; intro _ st) | (refine o_add64 st rfl rfl rfl (by omega) (by omega) ?_; clear st; intro _ st) | (refine o_sub64 st rfl rfl rfl (by omega) (by omega) ?_; clear st; intro _ st) | (refine o_notT st rfl rfl ?_; clear st; intro _ st) | (refine o_notF st rfl rfl ?_; clear st; intro _ st) | (refine o_fop rfl st rfl rfl (by first | assumption | exact Is_ofInt _ _ | exact Is_lit (by decide +kernel)) (by first | assumption | exact Is_ofInt _ _ | exact Is_lit (by decide +kernel)) rfl ?_; clear st; intro _ _ _ _ st) | (refine o_fcv0 st rfl rfl ?_; clear st; intro _ st) | (refine o_intFloat st rfl rfl ?_; clear st; intro _ st) | (refine o_lss st rfl rfl rfl ?_ ?_ <;> clear st <;> intro _ _ st <;> (try (exfalso; omega)))))
      exact ⟨K - (j + 1), by omega, j + 1, p8, p10, os, v, Ls, hos, by omega, rfl, hI, hv, st.fit (by repeat (first | exact trivial | refine And.intro rfl ?_))⟩
  · have hjK : j = K := by omega
    subst hjK
    rw [Nat.mul_comm j M] at hos hI
    rcases hv with ⟨_, rfl, _⟩ | ⟨blk, cp, pad, _, rfl, rfl, hp1⟩
    · simp at hos; omega
    rw [List.cons_append, List.nil_append] at st
    have hg := fun (w : World) base cap hr => ifSheet_ok M j os (flatC M j wc lc (M * j)) hI base cap w hr (by omega)
    generalize hv : validC M j (flatC M j wc lc (M * j)) = v at hg
    cases v
    all_goals
      (repeat' (first | (refine o_callV st rfl (hg _ _ _ (RdS.of (st.heap (by repeat (first | exact At.here | apply At.there))) (spotsIn0p os pad))) rfl ?_; clear st; intro _ _ st) | (refine c_seq ?_) | (refine c_region ?_) | (refine l_do ?_) | (refine l_doG st rfl rfl ?_) | (refine l_skipU st rfl rfl rfl ?_; clear st; intro _ st) | (refine l_skip st rfl rfl rfl rfl ?_; clear st; intro _ st) | (refine l_nil ?_) | (refine x_then ?_) | (refine x_thenR ?_) | (refine x_thenE ?_) | (refine x_blkN ?_) | (refine x_blkR ?_) | (refine x_blkE ?_) | (refine x_blkO rfl ?_) | (refine wp_ret ?_) | (refine wp_skip ?_) | (refine wp_block ?_) | (refine wp_exit ?_) | (refine c_condT st rfl ?_) | (refine c_condF st rfl ?_) | (refine o_move st rfl rfl ?_; clear st; intro _ st) | (refine o_assign st rfl rfl ?_; clear st; intro _ st) | (refine o_pickT st rfl rfl rfl ?_; clear st; intro _ st) | (refine o_pickF st rfl rfl rfl ?_; clear st; intro _ st) | (refine o_alloc st rfl ?_; clear st; intro _ _ _ st) | (refine o_fieldAddr st rfl rfl ?_; clear st; intro _ st) | (refine o_loadS st rfl (by repeat (first | exact At.here | apply At.there)) rfl rfl ?_; clear st; intro _ st) | (refine o_load3 st rfl (by repeat (first | exact At.here | apply At.there)) rfl ?_; clear st; intro _ st) | (refine o_load2 st rfl (by repeat (first | exact At.here | apply At.there)) rfl ?_; clear st; intro _ st) | (refine o_load4 st rfl (by repeat (first | exact At.here | apply At.there)) rfl ?_; clear st; intro _ st) | (refine o_storeS st rfl rfl rfl (by repeat (first | exact Upd.here | apply Upd.there)) rfl (by dsimp only [List.set]) ?_; clear st; intro _ _ st) | (refine o_storeW st rfl rfl (by repeat (first | exact Upd.here | apply Upd.there)) rfl rfl rfl ?_; clear st; intro _ _ st) | (refine o_build3 st rfl rfl rfl rfl rfl rfl rfl ?_; clear st; intro _ st) | (refine o_build2 st rfl rfl rfl rfl rfl ?_; clear st; intro _ st) | (refine o_build0 st rfl ?_; clear st; intro _ st) | (refine o_extract st rfl rfl rfl ?_; clear st; intro _ st) | (refine o_add64 st rfl rfl rfl (by omega) (by omega) ?_; clear st; intro _ st) | (refine o_sub64 st rfl rfl rfl (by omega) (by omega) ?_; clear st; intro _ st) | (refine o_notT st rfl rfl ?_; clear st; intro _ st) | (refine o_notF st rfl rfl ?_; clear st; intro _ st) | (refine o_fop rfl st rfl rfl (by first | assumption | exact Is_ofInt _ _ | exact Is_lit (by decide +kernel)) (by first | assumption | exact Is_ofInt _ _ | exact Is_lit (by decide +kernel)) rfl ?_; clear st; intro _ _ _ _ st) | (refine o_fcv0 st rfl rfl ?_; clear st; intro _ st) | (refine o_intFloat st rfl rfl ?_; clear st; intro _ st) | (refine o_lss st rfl rfl rfl ?_ ?_ <;> clear st <;> intro _ _ st <;> (try (exfalso; omega)))))
      refine post2 st Try.results70 (rd_c st rfl (by repeat (first | exact At.here | apply At.there)) rfl) (rd_t st rfl) ?_
      exact ⟨_, blk, _, rfl, ⟨os, cp, pad, by first | rfl | (rw [hv]; rfl), rfl, hI⟩, st.ex1 (by repeat (first | exact At.here | apply At.there))⟩

theorem specFlat_no (m n : Int) (x y : Nat) (wc lc : Option Nat) (hx : Is .f32 x wc) (hy : Is .f32 y lc) (hq : flatOk m n wc lc = false) (w : World) : CV Try.prog 69 [.int .i64 m, .int .i64 n, .float .f32 x, .float .f32 y] w (.tuple #[vSh0, .bool false]) := by
  unfold flatOk at hq
  cases hc : flatCan m n wc lc
  · exact specFlat_can m n x y wc lc hx hy hc w
  · rw [hc] at hq
    exact (specFlat_ok m n x y wc lc hx hy hc w).no hq
theorem implFlat_no (m n : Int) (x y : Nat) (wc lc : Option Nat) (hx : Is .f32 x wc) (hy : Is .f32 y lc) (hq : flatOk m n wc lc = false) (w : World) : CV Try.prog 70 [.int .i64 m, .int .i64 n, .float .f32 x, .float .f32 y] w (.tuple #[vSh0, .bool false]) := by
  unfold flatOk at hq
  cases hc : flatCan m n wc lc
  · exact implFlat_can m n x y wc lc hx hy hc w
  · rw [hc] at hq
    exact (implFlat_ok m n x y wc lc hx hy hc w).no hq
theorem specFlat_yes (m n : Int) (x y : Nat) (wc lc : Option Nat) (hx : Is .f32 x wc) (hy : Is .f32 y lc) (hq : flatOk m n wc lc = true) (w : World) : CShY Try.prog 69 [.int .i64 m, .int .i64 n, .float .f32 x, .float .f32 y] w m n (flatL m n wc lc) := by
  unfold flatOk at hq
  rw [Bool.and_eq_true] at hq
  exact (specFlat_ok m n x y wc lc hx hy hq.1 w).yes hq.2
theorem implFlat_yes (m n : Int) (x y : Nat) (wc lc : Option Nat) (hx : Is .f32 x wc) (hy : Is .f32 y lc) (hq : flatOk m n wc lc = true) (w : World) : CShY Try.prog 70 [.int .i64 m, .int .i64 n, .float .f32 x, .float .f32 y] w m n (flatL m n wc lc) := by
  unfold flatOk at hq
  rw [Bool.and_eq_true] at hq
  exact (implFlat_ok m n x y wc lc hx hy hq.1 w).yes hq.2
theorem flatL_length {m n : Int} {wc lc : Option Nat} (hq : flatOk m n wc lc = true) : (flatL m n wc lc).length ≤ 36 := by
  unfold flatOk at hq
  rw [Bool.and_eq_true] at hq
  obtain ⟨M, K, rfl, rfl, _, h1, _, h2, _⟩ := flat_nums hq.1
  unfold flatL
  rw [flatC_length]
  exact Nat.mul_le_mul h1 h2
end Go.Proofs.Ytefnlalldgbcaaa
