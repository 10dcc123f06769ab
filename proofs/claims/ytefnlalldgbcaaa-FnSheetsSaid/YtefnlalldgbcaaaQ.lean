/-
  Contracts: lists of integers: compared, marked, held; the corners of triangles.
-/
import Derived.Test.YtefnlalldgbcaaaR
namespace Go.Proofs.Ytefnlalldgbcaaa
open Go.RowKit
attribute [local irreducible] Code.wp wpList Oper.wp Calls bodyPost Exit.then Exit.inBlock

abbrev vI (n : Int) : Value := .int .i64 n
/-- The block of a list of integers, with room. -/
abbrev oI (ns : List Int) (pad : List Value) : Obj := .cells (ns.map vI ++ pad).toArray 2 (0, 0)

/-! ## triangles -/
theorem areTiles_ok (m n : Int) (w : World) : CV Try.prog 106 [.int .i64 m, .int .i64 n] w (.bool (inB m 1 12 && inB n 1 12)) := by
  refine enter Try.func106 rfl rfl rfl rfl ?_
  intro a st
  (repeat' (first | (refine o_callB st rfl (within_ok _ _ _ _) rfl ?_ ?_ <;> clear st <;> intro _ _ _ st)  | refine c_seq ?_  | refine c_region ?_  | refine l_do ?_  | refine l_doG st rfl rfl ?_  | ((first | refine l_skip st rfl rfl rfl rfl ?_); clear st; intro _ st)  | refine l_nil ?_  | refine x_then ?_  | refine wp_ret ?_  | ((first | refine o_move st rfl rfl ?_  | refine o_assign st rfl rfl ?_  | refine o_pickT st rfl rfl rfl ?_  | refine o_pickF st rfl rfl rfl ?_); clear st; intro _ st)))
  all_goals
    refine post1 st Try.results106 (rd_t st rfl) ?_
    exact ⟨by simp_all, st.ex0⟩

/-- The corners of the two triangles of a tile. -/
def tri2 (m j i : Int) : List Int := [j * (m + 1) + i, j * (m + 1) + i + 1, j * (m + 1) + i + m + 1, j * (m + 1) + i + 1, j * (m + 1) + i + m + 1 + 1, j * (m + 1) + i + m + 1]
def triRow (m : Int) (j : Nat) (i : Nat) : List Int := (List.range i).flatMap fun (i : Nat) => tri2 m j i
def triM (m : Int) (k : Nat) (j : Nat) : List Int := (List.range j).flatMap fun (j : Nat) => triRow m j k
theorem triRow_succ (m : Int) (j i : Nat) : triRow m j (i + 1) = triRow m j i ++ tri2 m j i := by simp [triRow, List.range_succ]
theorem triM_succ (m : Int) (k j : Nat) : triM m k (j + 1) = triM m k j ++ triRow m j k := by simp [triM, List.range_succ]
theorem triRow_length (m : Int) (j i : Nat) : (triRow m j i).length = i * 6 := by
  induction i with
  | zero => rfl
  | succ i ih => rw [triRow_succ, List.length_append, ih]; simp [tri2]; omega
theorem triM_length (m : Int) (k j : Nat) : (triM m k j).length = j * (k * 6) := by
  induction j with
  | zero => simp [triM]
  | succ j ih => rw [triM_succ, List.length_append, ih, triRow_length, Nat.add_mul]; omega

/-- 'append' of six integers to an own list. -/
theorem o_appendI {P : Program} {w0 w : World} {N : Nat} {a : Act} {E : List (Nat × Value)} {L : List Ent} {K : Act → World → Prop} {Q : Exit → Act → World → Prop} {d : Nat} {ty : TypeId} {pos : String} {aft : Array Edge} {g : Option (Nat × Bool)}
    {t cap m c b ba bz : Nat} {ns ms : List Int} {zs pad pad0 : List Value} {x y : Operand} {Lr : List Ent} {ow : Bool} [hs : SliceT P t 2] [he : ElemT P 2 1 bz zs] (hbz : Nat.ble bz 1000 = true) (st : St w0 N a w E L)
    (hx : evE E x = some (.slice (some ⟨b, 0, none⟩) ns.length cap)) (hy : evE E y = some (.slice (some ⟨ba, 0, none⟩) m c)) (hm : m = ms.length) (hR : Rem L b (oI ns pad) Lr)
    (hA : At L ba ow (oI ms pad0)) (hp : (ns.map vI ++ pad).length = cap) (hlim : ns.length + ms.length ≤ 100000000000) (hd : Nat.blt d N = true)
    (h : ∀ b' cap' pad' a' w', ((ns ++ ms).map vI ++ pad').length = cap' → St w0 N a' w' ((d, .slice (some ⟨b', 0, none⟩) (ns ++ ms).length cap') :: E) (⟨b', true, oI (ns ++ ms) pad'⟩ :: Lr) → K a' w') :
    Oper.wp P ⟨some d, .call { callee := .builtin .append, args := #[x, y], argTypes := #[t, t] }, ty, pos, aft, g⟩ a w K Q := by
  subst hm
  have hbz' : bz ≤ 1000 := Nat.le_of_ble_eq_true hbz
  refine o_append (size := 1) (news := ms.map vI) (olds := ns.map vI) st hx hy hR ?_ (by simp) (by rw [hp]; omega) (by simp) (by simp [Value.oneCell']) (by omega) ?_ hd ?_
  · intro j u hj
    have hlt : j < ms.length := by
      have := (List.getElem?_eq_some_iff.1 hj).1
      simpa using this
    rw [cell_known st hA rfl]
    simp [List.getElem?_append, hlt] at hj ⊢
    exact hj
  · calc (ns.length + ms.length) * bz ≤ (ns.length + ms.length) * 1000 := Nat.mul_le_mul_left _ hbz'
      _ ≤ 140737488355328 := by omega
  · intro b' cap' pad' a' w' hl st'
    rw [← List.length_append, ← List.map_append] at st'
    rw [← List.map_append] at hl
    exact h b' cap' pad' a' w' (by omega) st'

set_option maxHeartbeats 8000000 in
theorem triangles_ok (m n : Nat) (hm : m ≤ 12) (hn : n ≤ 12) (w : World) :
    CM1 Try.prog 107 [.int .i64 m, .int .i64 n] w fun v b o => ∃ cap pad, v = .slice (some ⟨b, 0, none⟩) (triM m m n).length cap ∧ o = oI (triM m m n) pad := by
  refine enter Try.func107 rfl rfl rfl rfl ?_
  intro a st
  (repeat' (first | (refine o_buildSlice0 st rfl ?_; clear st; intro blk0 _ _ st)  | refine c_seq ?_  | refine c_region ?_  | refine l_do ?_  | refine l_nil ?_  | refine x_then ?_  | refine x_thenE ?_  | refine x_blkN ?_  | refine x_blkE ?_  | refine wp_ret ?_  | refine wp_skip ?_  | refine wp_block ?_  | refine wp_exit ?_  | refine c_condT st rfl ?_  | refine c_condF st rfl ?_  | ((first | refine o_move st rfl rfl ?_  | refine o_assign st rfl rfl ?_  | refine o_add64 st rfl rfl rfl (by omega) (by omega) ?_ ); clear st; intro _ st)  | (refine o_lss st rfl rfl rfl ?_ ?_ <;> clear st <;> intro _ _ st <;> (try (exfalso; omega)))))
  refine wp_loop_ghost (fun q a w' => ∃ (j blk cap : Nat) (pad : List Value), j ≤ n ∧ q = n - j ∧ ((triM m m j).map vI ++ pad).length = cap ∧ St w Try.f107.ntmps a w' [(0, .int .i64 m), (1, .int .i64 n), (5, .slice (some ⟨blk, 0, none⟩) (triM m m j).length cap), (11, .int .i64 n), (12, .int .i64 j)] [⟨blk, true, oI (triM m m j) pad⟩]) n ⟨0, blk0, 0, [], by omega, by omega, rfl, st.fit (by repeat (first | exact trivial  | refine And.intro rfl ?_))⟩ ?_
  clear st
  rintro q a w' ⟨j, blk, cap, pad, hj, rfl, hp, st⟩
  by_cases hlt : j < n
  · (repeat' (first | refine c_seq ?_  | refine c_region ?_  | refine l_do ?_  | refine l_nil ?_  | refine x_then ?_  | refine x_thenE ?_  | refine x_blkN ?_  | refine x_blkE ?_  | refine wp_ret ?_  | refine wp_skip ?_  | refine wp_block ?_  | refine wp_exit ?_  | refine c_condT st rfl ?_  | refine c_condF st rfl ?_  | ((first | refine o_move st rfl rfl ?_  | refine o_assign st rfl rfl ?_  | refine o_add64 st rfl rfl rfl (by omega) (by omega) ?_ ); clear st; intro _ st)  | (refine o_lss st rfl rfl rfl ?_ ?_ <;> clear st <;> intro _ _ st <;> (try (exfalso; omega)))))
    refine wp_loop_ghost (fun q a w' => ∃ (i blk cap : Nat) (pad : List Value), i ≤ m ∧ q = m - i ∧ ((triM m m j ++ triRow m j i).map vI ++ pad).length = cap ∧ St w Try.f107.ntmps a w' [(0, .int .i64 m), (1, .int .i64 n), (5, .slice (some ⟨blk, 0, none⟩) (triM m m j ++ triRow m j i).length cap), (6, .int .i64 j), (11, .int .i64 n), (12, .int .i64 j), (15, .int .i64 m), (16, .int .i64 i)] [⟨blk, true, oI (triM m m j ++ triRow m j i) pad⟩]) m ⟨0, blk, cap, pad, by omega, by omega, by simpa [triRow] using hp, by simpa [triRow] using st.fit (by repeat (first | exact trivial  | refine And.intro rfl ?_))⟩ ?_
    clear st hp blk cap pad
    rintro q a w' ⟨i, blk, cap, pad, hi, rfl, hp, st⟩
    have hb1 : (j : Int) * ((m : Int) + 1) ≤ 12 * 13 := Int.mul_le_mul (by omega) (by omega) (by omega) (by omega)
    have hb0 : 0 ≤ (j : Int) * ((m : Int) + 1) := Int.mul_nonneg (by omega) (by omega)
    by_cases hlt' : i < m
    · have hlim : (triM m m j ++ triRow m j i).length + (tri2 m j i).length ≤ 100000000000 := by
        have h1 : j * (m * 6) ≤ 12 * (12 * 6) := Nat.mul_le_mul (by omega) (by omega)
        simp only [List.length_append, triM_length, triRow_length, tri2, List.length_cons, List.length_nil]
        omega
      (repeat' (first | (refine o_mul64 st rfl rfl rfl (by omega) (by omega) ?_; clear st; intro _ st)  | (refine o_buildSlice st rfl rfl rfl rfl rfl rfl ?_; clear st; intro _ _ _ st)  | (refine o_appendI (ms := tri2 m j i) (pad0 := []) rfl st rfl rfl rfl (by repeat (first | exact Rem.here  | apply Rem.there)) (by repeat constructor) hp hlim rfl ?_; clear st; intro blk1 cap1 pad1 _ _ hp1 st)  | refine c_seq ?_  | refine c_region ?_  | refine l_do ?_  | refine l_nil ?_  | refine x_then ?_  | refine x_thenE ?_  | refine x_blkN ?_  | refine x_blkE ?_  | refine wp_ret ?_  | refine wp_skip ?_  | refine wp_block ?_  | refine wp_exit ?_  | refine c_condT st rfl ?_  | refine c_condF st rfl ?_  | ((first | refine o_move st rfl rfl ?_  | refine o_assign st rfl rfl ?_  | refine o_add64 st rfl rfl rfl (by omega) (by omega) ?_ ); clear st; intro _ st)  | (refine o_lss st rfl rfl rfl ?_ ?_ <;> clear st <;> intro _ _ st <;> (try (exfalso; omega)))))
      refine ⟨m - (i + 1), by omega, i + 1, blk1, cap1, pad1, by omega, rfl, by rw [triRow_succ, ← List.append_assoc]; exact hp1, ?_⟩
      rw [triRow_succ, ← List.append_assoc]
      exact (st.fit (by repeat (first | exact trivial  | refine And.intro rfl ?_))).subL (by repeat (first | exact List.Sublist.refl _  | apply List.Sublist.cons_cons  | apply List.Sublist.cons  | exact List.nil_sublist _))
    · have hi' : i = m := by omega
      subst hi'
      rw [← triM_succ] at st hp
      (repeat' (first | refine c_seq ?_  | refine c_region ?_  | refine l_do ?_  | refine l_nil ?_  | refine x_then ?_  | refine x_thenE ?_  | refine x_blkN ?_  | refine x_blkE ?_  | refine wp_ret ?_  | refine wp_skip ?_  | refine wp_block ?_  | refine wp_exit ?_  | refine c_condT st rfl ?_  | refine c_condF st rfl ?_  | ((first | refine o_move st rfl rfl ?_  | refine o_assign st rfl rfl ?_  | refine o_add64 st rfl rfl rfl (by omega) (by omega) ?_ ); clear st; intro _ st)  | (refine o_lss st rfl rfl rfl ?_ ?_ <;> clear st <;> intro _ _ st <;> (try (exfalso; omega)))))
      exact ⟨n - (j + 1), by omega, j + 1, blk, cap, pad, by omega, rfl, hp, st.fit (by repeat (first | exact trivial  | refine And.intro rfl ?_))⟩
  · have hj' : j = n := by omega
    subst hj'
    (repeat' (first | refine c_seq ?_  | refine c_region ?_  | refine l_do ?_  | refine l_nil ?_  | refine x_then ?_  | refine x_thenE ?_  | refine x_blkN ?_  | refine x_blkE ?_  | refine wp_ret ?_  | refine wp_skip ?_  | refine wp_block ?_  | refine wp_exit ?_  | refine c_condT st rfl ?_  | refine c_condF st rfl ?_  | ((first | refine o_move st rfl rfl ?_  | refine o_assign st rfl rfl ?_  | refine o_add64 st rfl rfl rfl (by omega) (by omega) ?_ ); clear st; intro _ st)  | (refine o_lss st rfl rfl rfl ?_ ?_ <;> clear st <;> intro _ _ st <;> (try (exfalso; omega)))))
    refine post1 st Try.results107 (rd_t st rfl) ?_
    exact ⟨_, blk, _, rfl, ⟨cap, pad, rfl, rfl⟩, st.ex1 (by repeat constructor)⟩

end Go.Proofs.Ytefnlalldgbcaaa
