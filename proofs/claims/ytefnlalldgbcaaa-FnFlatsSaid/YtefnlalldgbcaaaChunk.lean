/-
  Contracts: the area of tiles; the program's side: a range over chunks.
-/
import Derived.Test.YtefnlalldgbcaaaAreaS
import Derived.Test.YtefnlalldgbcaaaRound
import Derived.Test.YtefnlalldgbcaaaO
namespace Go.Proofs.Ytefnlalldgbcaaa
open Go.RowKit

section
variable {w0 w : World} {N : Nat} {a : Act} {E : List (Nat × Value)} {L : List Ent}
theorem St.onlyHead {b : Nat} {o : Obj} (st : St w0 N a w E (⟨b, true, o⟩ :: L)) : St w0 N a w E (⟨b, true, o⟩ :: asOld L) := by
  obtain ⟨h1, _⟩ := List.pairwise_cons.1 st.uniq
  refine ⟨st.env, st.size, st.defers, st.below, ?_, ?_⟩
  · intro e he
    rcases List.mem_cons.1 he with rfl | he
    · exact st.facts _ List.mem_cons_self
    · obtain ⟨ho, ow, hm⟩ := mem_asOld he
      exact ⟨(st.facts _ (List.mem_cons_of_mem _ hm)).1, fun h => by rw [ho] at h; cases h⟩
  · refine List.pairwise_cons.2 ⟨?_, ?_⟩
    · intro e he _
      obtain ⟨_, ow, hm⟩ := mem_asOld he
      have := h1 ⟨e.b, ow, e.o⟩ hm (.inl rfl)
      exact this
    · refine List.Pairwise.imp_of_mem (R := fun _ _ => True) ?_ (List.pairwise_of_forall (fun _ _ => trivial))
      intro x y hx hy _ ho
      rw [(mem_asOld hx).1, (mem_asOld hy).1] at ho
      rcases ho with ho | ho <;> cases ho
theorem St.withOthers {b : Nat} {o : Obj} (st : St w0 N a w E (⟨b, true, o⟩ :: L)) (hL : ∀ e ∈ L, e.own = false) : St w0 N a w E (⟨b, true, o⟩ :: (L ++ others w b)) := by
  obtain ⟨h1, _⟩ := List.pairwise_cons.1 st.uniq
  have hown : ∀ e ∈ L ++ others w b, e.own = false := fun e he => by
    rcases List.mem_append.1 he with he | he
    · exact hL e he
    · exact (mem_others he).1
  refine ⟨st.env, st.size, st.defers, st.below, ?_, ?_⟩
  · intro e he
    rcases List.mem_cons.1 he with rfl | he
    · exact st.facts _ List.mem_cons_self
    · refine ⟨?_, fun h => by rw [hown e he] at h; cases h⟩
      rcases List.mem_append.1 he with he | he
      · exact (st.facts _ (List.mem_cons_of_mem _ he)).1
      · exact (mem_others he).2.2
  · refine List.pairwise_cons.2 ⟨?_, ?_⟩
    · intro e he _
      rcases List.mem_append.1 he with he | he
      · exact h1 e he (.inl rfl)
      · exact (mem_others he).2.1.symm
    · refine List.Pairwise.imp_of_mem (R := fun _ _ => True) ?_ (List.pairwise_of_forall (fun _ _ => trivial))
      intro x y hx hy _ ho
      rw [hown x hx, hown y hy] at ho
      rcases ho with ho | ho <;> cases ho
theorem keeps_of_others {W : World} {b : Nat} {cs : Array Value} {t : TypeId} {fr : Nat × Nat} {o : Obj} (st : St w0 N a w E L) (hsub : List.Sublist (others W b) L) (hb : W.heap[b]? = some (.cells cs t fr)) (hb' : w.heap[b]? = some o) : KeepsOthers W w := by
  have hf : ∀ (k : Nat) (o : Obj), W.heap[k]? = some o → k ≠ b → w.heap[k]? = some o := by
    intro k o hk hne
    obtain ⟨hlt, he⟩ := Array.getElem?_eq_some_iff.1 hk
    have hm := hsub.mem (others_mem hlt hne)
    rw [he] at hm
    exact (st.facts _ hm).1
  refine ⟨?_, ?_⟩
  · rcases Nat.eq_zero_or_pos W.heap.size with h | h
    · omega
    · have hk : W.heap.size - 1 < W.heap.size := by omega
      by_cases e : W.heap.size - 1 = b
      · have := (Array.getElem?_eq_some_iff.1 hb').1
        omega
      · have := (Array.getElem?_eq_some_iff.1 (hf _ _ (Array.getElem?_eq_getElem hk) e)).1
        omega
  · intro k o' hk ho
    by_cases e : k = b
    · subst e
      rw [hb] at hk
      cases hk
      cases ho
    · exact hf k o' hk e
end

section
variable {P : Program} {w0 w : World} {N : Nat} {a : Act} {E : List (Nat × Value)} {L : List Ent}
theorem post0A {fn : Func} {R : Ending → World → Prop} (st : St w0 N a w E L) (hr : fn.results = #[]) (h : R (.returned (.tuple #[])) w) : bodyPost P fn R .ret a w := by
  refine ⟨st.defers, .tuple #[], ?_, h⟩
  rw [results_eq, hr]
  simp
theorem postN0A {fn : Func} {R : Ending → World → Prop} (st : St w0 N a w E L) (hr : fn.results = #[]) (h : R (.returned (.tuple #[])) w) : bodyPost P fn R .normal a w := post0A st hr h
end
attribute [local irreducible] Code.wp wpList Oper.wp Calls bodyPost Exit.then Exit.inBlock

set_option maxHeartbeats 8000000 in
theorem triangles_c (m n : Nat) (hm : m ≤ 12) (hn : n ≤ 12) (w : World) :
    CM1 Try.prog 107 [.int .i64 m, .int .i64 n] w fun v b o => ∃ cap pad, v = .slice (some ⟨b, 0, none⟩) (triM m m n).length cap ∧ o = oI (triM m m n) pad ∧ ((triM m m n).map vI ++ pad).length = cap := by
  refine enter Try.func107 rfl rfl rfl rfl ?_
  intro a st
  (repeat' (first | (refine o_buildSlice0 st rfl ?_; clear st; intro blk0 _ _ st)  | refine c_seq ?_  | refine c_region ?_  | refine l_do ?_  | refine l_nil ?_  | refine x_then ?_  | refine x_thenE ?_  | refine x_blkN ?_  | refine x_blkE ?_  | refine wp_ret ?_  | refine wp_skip ?_  | refine wp_block ?_  | refine wp_exit ?_  | refine c_condT st rfl ?_  | refine c_condF st rfl ?_  | ((first | refine o_move st rfl rfl ?_  | refine o_assign st rfl rfl ?_  | refine o_add64 st rfl rfl rfl (by omega) (by omega) ?_ ); clear st; intro _ st)  | (refine o_lss st rfl rfl rfl ?_ ?_ <;> clear st <;> intro _ _ st <;> (try (exfalso; omega)))))
  refine wp_loop_ghost (fun q a w' => ∃ (j blk cap : Nat) (pad : List Value), j ≤ n ∧ q = n - j ∧ ((triM m m j).map vI ++ pad).length = cap ∧ St w Try.f107.ntmps a w' [(0, .int .i64 m), (1, .int .i64 n), (5, .slice (some ⟨blk, 0, none⟩) (triM m m j).length cap), (11, .int .i64 n), (12, .int .i64 j)] [⟨blk, true, oI (triM m m j) pad⟩]) n ⟨0, blk0, 0, [], by omega, by omega, rfl, st.fit (by repeat (first | exact trivial  | refine And.intro rfl ?_))⟩ ?_
  clear st
  rintro q a w' ⟨j, blk, cap, pad, hj, rfl, hp, st⟩
  by_cases hlt : j < n
  · (repeat' (first | refine c_seq ?_  | refine c_region ?_  | refine l_do ?_  | refine l_nil ?_  | refine x_then ?_  | refine x_thenE ?_  | refine x_blkN ?_  | refine x_blkE ?_  | refine wp_ret ?_  | refine wp_skip ?_  | refine wp_block ?_  | refine wp_exit ?_  | refine c_condT st rfl ?_  | refine c_condF st rfl ?_  | ((first | refine o_move st rfl rfl ?_  | refine o_assign st rfl rfl ?_  | refine o_add64 st rfl rfl rfl (by omega) (by omega) ?_ ); clear st; intro _ st)  | (refine o_lss st rfl rfl rfl ?_ ?_ <;> clear st <;> intro _ _ st <;> (try (exfalso; omega)))))
    refine wp_loop_ghost (fun q a w' => ∃ (i blk cap : Nat) (pad : List Value), i ≤ m ∧ q = m - i ∧ ((triM m m j ++ triRow m j i).map vI ++ pad).length = cap ∧ St w Try.f107.ntmps a w' [(0, .int .i64 m), (1, .int .i64 n), (5, .slice (some ⟨blk, 0, none⟩) (triM m m j ++ triRow m j i).length cap), (6, .int .i64 j), (11, .int .i64 n), (12, .int .i64 j), (15, .int .i64 m), (16, .int .i64 i)] [⟨blk, true, oI (triM m m j ++ triRow m j i) pad⟩]) m ⟨0, blk, cap, pad, by omega, by omega, by simpa [triRow] using hp, by simpa [triRow] using st.fit (by repeat (first | exact trivial  | refine And.intro rfl ?_))⟩ ?_
    clear st hp blk cap pad
    rintro q a w' ⟨i, blk, cap, pad, hi, rfl, hp, st⟩
    have hb1 : (j : Int) * ((m : Int) + 1) ≤ 12 * 13 := Int.mul_le_mul (by omega) (by omega) (by omega) (by omega)
    have hb0 : 0 ≤ (j : Int) * ((m : Int) + 1) := Int.mul_nonneg (by omega) (by omega)
    by_cases hlt' : i < m
    · have hlim : (triM m m j ++ triRow m j i).length + (tri2 m j i).length ≤ 100000000000 := by
        have h1 : j * (m * 6) ≤ 12 * (12 * 6) := Nat.mul_le_mul (by omega) (by omega)
        simp only [List.length_append, triM_length, triRow_length, tri2, List.length_cons, List.length_nil]
        omega
      (repeat' (first | (refine o_mul64 st rfl rfl rfl (by omega) (by omega) ?_; clear st; intro _ st)  | (refine o_buildSlice st rfl rfl rfl rfl rfl rfl ?_; clear st; intro _ _ _ st)  | (refine o_appendI (ms := tri2 m j i) (pad0 := []) rfl st rfl rfl rfl (by repeat (first | exact Rem.here  | apply Rem.there)) (by repeat constructor) hp hlim rfl ?_; clear st; intro blk1 cap1 pad1 _ _ hp1 st)  | refine c_seq ?_  | refine c_region ?_  | refine l_do ?_  | refine l_nil ?_  | refine x_then ?_  | refine x_thenE ?_  | refine x_blkN ?_  | refine x_blkE ?_  | refine wp_ret ?_  | refine wp_skip ?_  | refine wp_block ?_  | refine wp_exit ?_  | refine c_condT st rfl ?_  | refine c_condF st rfl ?_  | ((first | refine o_move st rfl rfl ?_  | refine o_assign st rfl rfl ?_  | refine o_add64 st rfl rfl rfl (by omega) (by omega) ?_ ); clear st; intro _ st)  | (refine o_lss st rfl rfl rfl ?_ ?_ <;> clear st <;> intro _ _ st <;> (try (exfalso; omega)))))
      refine ⟨m - (i + 1), by omega, i + 1, blk1, cap1, pad1, by omega, rfl, by rw [triRow_succ, ← List.append_assoc]; exact hp1, ?_⟩
      rw [triRow_succ, ← List.append_assoc]
      exact (st.fit (by repeat (first | exact trivial  | refine And.intro rfl ?_))).subL (by repeat (first | exact List.Sublist.refl _  | apply List.Sublist.cons_cons  | apply List.Sublist.cons  | exact List.nil_sublist _))
    · have hi' : i = m := by omega
      subst hi'
      rw [← triM_succ] at st hp
      (repeat' (first | refine c_seq ?_  | refine c_region ?_  | refine l_do ?_  | refine l_nil ?_  | refine x_then ?_  | refine x_thenE ?_  | refine x_blkN ?_  | refine x_blkE ?_  | refine wp_ret ?_  | refine wp_skip ?_  | refine wp_block ?_  | refine wp_exit ?_  | refine c_condT st rfl ?_  | refine c_condF st rfl ?_  | ((first | refine o_move st rfl rfl ?_  | refine o_assign st rfl rfl ?_  | refine o_add64 st rfl rfl rfl (by omega) (by omega) ?_ ); clear st; intro _ st)  | (refine o_lss st rfl rfl rfl ?_ ?_ <;> clear st <;> intro _ _ st <;> (try (exfalso; omega)))))
      exact ⟨n - (j + 1), by omega, j + 1, blk, cap, pad, by omega, rfl, hp, st.fit (by repeat (first | exact trivial  | refine And.intro rfl ?_))⟩
  · have hj' : j = n := by omega
    subst hj'
    (repeat' (first | refine c_seq ?_  | refine c_region ?_  | refine l_do ?_  | refine l_nil ?_  | refine x_then ?_  | refine x_thenE ?_  | refine x_blkN ?_  | refine x_blkE ?_  | refine wp_ret ?_  | refine wp_skip ?_  | refine wp_block ?_  | refine wp_exit ?_  | refine c_condT st rfl ?_  | refine c_condF st rfl ?_  | ((first | refine o_move st rfl rfl ?_  | refine o_assign st rfl rfl ?_  | refine o_add64 st rfl rfl rfl (by omega) (by omega) ?_ ); clear st; intro _ st)  | (refine o_lss st rfl rfl rfl ?_ ?_ <;> clear st <;> intro _ _ st <;> (try (exfalso; omega)))))
    refine post1 st Try.results107 (rd_t st rfl) ?_
    exact ⟨_, blk, _, rfl, ⟨cap, pad, rfl, rfl, hp⟩, st.ex1 (by repeat constructor)⟩

/-! ## chunks -/
theorem chunk_ok (sv : Value) (hsv : sv.oneCell' = true) (w : World) :
    Calls Try.prog 162 [sv, .int .i64 3].toArray w fun e w' => ∃ bs bn, e = .returned (.func (.func 186) #[] #[.pointer (some ⟨bs, 0, none⟩), .pointer (some ⟨bn, 0, none⟩)]) ∧ Ex w w' [⟨bs, true, .cells [sv].toArray 31 (0, 0)⟩, ⟨bn, true, .cells [.int .i64 3].toArray 3 (0, 0)⟩] := by
  refine enter Try.func162 rfl rfl rfl rfl ?_
  intro a st
  (repeat' (first | (refine o_boxS st rfl hsv rfl ?_; clear st; intro _ _ _ st)  | (refine o_makeFunc st rfl rfl ?_; clear st; intro _ st)  | refine c_seq ?_  | refine c_region ?_  | refine l_do ?_  | refine l_nil ?_  | refine x_then ?_  | refine wp_ret ?_  | refine wp_skip ?_  | refine c_condF st rfl ?_  | (refine o_assign st rfl rfl ?_; clear st; intro _ st)  | ((first | refine o_boxS st rfl rfl rfl ?_); clear st; intro _ _ _ st)  | ((first | refine o_loadS st rfl (by repeat constructor) rfl rfl ?_ ); clear st; intro _ st)  | (refine o_lss st rfl rfl rfl ?_ ?_ <;> clear st <;> intro _ _ st <;> (try (exfalso; omega)))))
  refine post1 st Try.results162 (rd_t st rfl) ?_
  have hne := st.uniq
  simp only [List.pairwise_cons, List.mem_singleton, forall_eq] at hne
  exact ⟨_, _, rfl, st.ex2 (by repeat constructor) (by repeat constructor) (hne.1 (.inl trivial)).symm⟩

/-- The k-th chunk, as a value. -/
def chV (tb k : Nat) : Value := .slice (some ⟨tb, k * 3, none⟩) 3 3
/-- What a round must keep of the iterator's. -/
def KpB (cb cn : Nat) (A B : World) : Prop := B.heap[cb]? = A.heap[cb]? ∧ B.heap[cn]? = A.heap[cn]?
theorem take_fin {K k : Nat} (h : k < K) : (List.finRange K).take (k + 1) = (List.finRange K).take k ++ [⟨k, h⟩] := by
  rw [List.take_succ_eq_append_getElem (by simpa using h)]
  simp

set_option maxHeartbeats 16000000 in
theorem chunk1_seq (tb len cap K cb cn n : Nat) (hlen : len = 3 * K) (hK : K ≤ 1000) (hcap : len ≤ cap) (w : World) (h1 : w.heap[cb]? = some (.cells [.slice (some ⟨tb, 0, none⟩) len cap].toArray 31 (0, 0))) (h2 : w.heap[cn]? = some (.cells [.int .i64 3].toArray 3 (0, 0))) :
    SeqStopsK Fence.wide n Try.prog 186 #[.pointer (some ⟨cb, 0, none⟩), .pointer (some ⟨cn, 0, none⟩)] (fun k : _root_.Fin K => #[chV tb k.val]) (KpB cb cn) (fun xs => xs = List.finRange K) (fun _ => True) K w := by
  intro l J Jx W hW hJ hJx hY h0
  have hb1 := (hW.block cb (Array.getElem?_eq_some_iff.1 h1).1).trans h1
  have hb2 := (hW.block cn (Array.getElem?_eq_some_iff.1 h2).1).trans h2
  refine callsIn_wide.2 ?_
  show Calls Try.prog _ [.func (.yield l) #[] #[], .pointer (some ⟨cb, 0, none⟩), .pointer (some ⟨cn, 0, none⟩)].toArray W _
  refine enterL [⟨cb, false, .cells [.slice (some ⟨tb, 0, none⟩) len cap].toArray 31 (0, 0)⟩, ⟨cn, false, .cells [.int .i64 3].toArray 3 (0, 0)⟩] (by simp [hb1, hb2]) Try.func186 rfl rfl rfl rfl ?_
  intro a st
  (repeat' (first | refine c_seq ?_  | refine c_region ?_  | refine l_do ?_  | refine l_nil ?_  | refine x_then ?_  | refine x_thenR ?_  | refine x_thenE ?_  | refine x_blkN ?_  | refine x_blkR ?_  | refine x_blkE ?_  | refine wp_ret ?_  | refine wp_skip ?_  | refine wp_block ?_  | refine wp_exit ?_  | refine c_condT st rfl ?_  | refine c_condF st rfl ?_  | ((first | refine o_move st rfl rfl ?_  | refine o_assign st rfl rfl ?_  | refine o_loadS st rfl (by repeat constructor) rfl rfl ?_  | refine o_len st rfl rfl ?_  | refine o_add64 st rfl rfl rfl (by omega) (by omega) ?_  | refine o_notT st rfl rfl ?_  | refine o_notF st rfl rfl ?_); clear st; intro _ st)  | (refine o_lss st rfl rfl rfl ?_ ?_ <;> clear st <;> intro _ _ st <;> (try (exfalso; omega)))))
  refine wp_loop_ghost (fun z a w' => ∃ k : Nat, k ≤ K ∧ z = K - k ∧ J ((List.finRange K).take k) w' ∧ St w' Try.f186.ntmps a w' [(0, .func (.yield l) #[] #[]), (1, .pointer (some ⟨cb, 0, none⟩)), (2, .pointer (some ⟨cn, 0, none⟩)), (4, .int .i64 ((3 * k : Nat) : Int))] [⟨cb, false, .cells [.slice (some ⟨tb, 0, none⟩) len cap].toArray 31 (0, 0)⟩, ⟨cn, false, .cells [.int .i64 3].toArray 3 (0, 0)⟩]) K ⟨0, by omega, by omega, by simpa using h0, st.fit (by repeat (first | exact trivial  | refine And.intro rfl ?_))⟩ ?_
  clear st h0
  rintro z a w' ⟨k, hk, rfl, hJk, st⟩
  by_cases hlt : k < K
  · have e3 : ((3 * k : Nat) : Int).toNat = 3 * k := by omega
    (repeat' (first | refine c_seq ?_  | refine c_region ?_  | refine l_do ?_  | refine l_nil ?_  | refine x_then ?_  | refine x_thenR ?_  | refine x_thenE ?_  | refine x_blkN ?_  | refine x_blkR ?_  | refine x_blkE ?_  | refine wp_ret ?_  | refine wp_skip ?_  | refine wp_block ?_  | refine wp_exit ?_  | refine c_condT st rfl ?_  | refine c_condF st rfl ?_  | ((first | refine o_move st rfl rfl ?_  | refine o_assign st rfl rfl ?_  | refine o_loadS st rfl (by repeat constructor) rfl rfl ?_  | refine o_len st rfl rfl ?_  | refine o_add64 st rfl rfl rfl (by omega) (by omega) ?_  | refine o_notT st rfl rfl ?_  | refine o_notF st rfl rfl ?_); clear st; intro _ st)  | (refine o_lss st rfl rfl rfl ?_ ?_ <;> clear st <;> intro _ _ st <;> (try (exfalso; omega)))))
    refine c_drawA (last := 6) hm_ (by decide +kernel) (by decide +kernel) st ?_; clear st; intro _ st
    refine d_v 0 st (by repeat constructor) rfl (by decide +kernel) rfl (by first | exact v_load3 st rfl (by repeat constructor) | exact v_loadS st rfl (by repeat constructor) rfl) ?_; clear st; intro _ st
    refine d_v 1 st (by repeat constructor) rfl (by decide +kernel) rfl (by first | exact v_load3 st rfl (by repeat constructor) | exact v_loadS st rfl (by repeat constructor) rfl) ?_; clear st; intro _ st
    refine d_v 2 st (by repeat constructor) rfl (by decide +kernel) rfl (v_move st rfl) ?_; clear st; intro _ st
    refine d_one 3 (by decide +kernel) rfl ?_
    refine o_sliceL st rfl rfl (by omega) (by omega) rfl ?_; clear st; intro _ st
    refine kh st (by repeat constructor) ?_
    refine d_v 4 st (by repeat constructor) rfl (by decide +kernel) rfl (v_len st rfl) ?_; clear st; intro _ st
    refine d_one 5 (by decide +kernel) rfl ?_
    refine o_minI st rfl rfl rfl ?_; clear st; intro _ st; rw [if_neg (by omega)] at st
    refine kh st (by repeat constructor) ?_
    refine d_one 6 (by decide +kernel) rfl ?_
    (first | (refine o_assign st rfl rfl ?_; clear st; intro _ st))
    refine k_last ?_
    refine d_done (by decide +kernel) ?_
    refine x_then ?_
    refine c_seq ?_
    have hJ2 := hJ _ _ _ none hJk (grownBy_of_below st.below (Nat.le_refl _)) (fun r e => by cases e)
    have eV : Value.slice (if (((3 * k : Nat) : Int) + 3).toNat = ((3 * k : Nat) : Int).toNat then some (⟨tb, 0, none⟩ : Addr) else Option.map (fun x : Addr => x.add (((3 * k : Nat) : Int).toNat * 1)) (some (⟨tb, 0, none⟩ : Addr))) ((((3 * k : Nat) : Int) + 3).toNat - ((3 * k : Nat) : Int).toNat) ((((3 * k : Nat) : Int) + 3).toNat - ((3 * k : Nat) : Int).toNat) = chV tb k := by
      rw [if_neg (by omega)]
      have e4 : (((3 * k : Nat) : Int) + 3).toNat - ((3 * k : Nat) : Int).toNat = 3 := by omega
      rw [e4]
      simp only [Option.map_some, Addr.add_lit, e3]
      unfold chV
      congr 3
      omega
    refine y_region n ?_
    iterate 9 (refine y_do ?_; (first | refine c_seq ?_  | refine c_region ?_  | refine l_do ?_  | refine l_nil ?_  | refine x_then ?_  | refine x_thenR ?_  | refine x_thenE ?_  | refine x_blkN ?_  | refine x_blkR ?_  | refine x_blkE ?_  | refine wp_ret ?_  | refine wp_skip ?_  | refine wp_block ?_  | refine wp_exit ?_  | refine c_condT st rfl ?_  | refine c_condF st rfl ?_  | ((first | refine o_move st rfl rfl ?_  | refine o_assign st rfl rfl ?_  | refine o_loadS st rfl (by repeat constructor) rfl rfl ?_  | refine o_len st rfl rfl ?_  | refine o_add64 st rfl rfl rfl (by omega) (by omega) ?_  | refine o_notT st rfl rfl ?_  | refine o_notF st rfl rfl ?_); clear st; intro _ st)  | (refine o_lss st rfl rfl rfl ?_ ?_ <;> clear st <;> intro _ _ st <;> (try (exfalso; omega)))))
    refine y_do ?_
    refine o_sliceLHM st rfl rfl rfl rfl (by omega) (by omega) (by omega) (by omega) rfl ?_; clear st; intro _ st; rw [eV] at st
    refine y_yield st rfl rfl (hY ((List.finRange K).take k) ⟨k, hlt⟩ _ hJ2 (by simp; omega)) ?_
    rintro e W3 (⟨rfl, hJ3, hK3⟩ | ⟨rfl, hX3⟩)
    · refine ⟨_, rfl, ?_⟩
      have f1 := st.heap (b := cb) (by repeat constructor)
      have f2 := st.heap (b := cn) (by repeat constructor)
      have st := (st.put 29 rfl (.bool true)).anew (W := W3) [⟨cb, false, .cells [.slice (some ⟨tb, 0, none⟩) len cap].toArray 31 (0, 0)⟩, ⟨cn, false, .cells [.int .i64 3].toArray 3 (0, 0)⟩] (by simp [hK3.1, hK3.2, f1, f2])
      refine y_do ?_
      (first | refine c_seq ?_  | refine c_region ?_  | refine l_do ?_  | refine l_nil ?_  | refine x_then ?_  | refine x_thenR ?_  | refine x_thenE ?_  | refine x_blkN ?_  | refine x_blkR ?_  | refine x_blkE ?_  | refine wp_ret ?_  | refine wp_skip ?_  | refine wp_block ?_  | refine wp_exit ?_  | refine c_condT st rfl ?_  | refine c_condF st rfl ?_  | ((first | refine o_move st rfl rfl ?_  | refine o_assign st rfl rfl ?_  | refine o_loadS st rfl (by repeat constructor) rfl rfl ?_  | refine o_len st rfl rfl ?_  | refine o_add64 st rfl rfl rfl (by omega) (by omega) ?_  | refine o_notT st rfl rfl ?_  | refine o_notF st rfl rfl ?_); clear st; intro _ st)  | (refine o_lss st rfl rfl rfl ?_ ?_ <;> clear st <;> intro _ _ st <;> (try (exfalso; omega))))
      refine y_nil ?_
      (repeat' (first | refine c_seq ?_  | refine c_region ?_  | refine l_do ?_  | refine l_nil ?_  | refine x_then ?_  | refine x_thenR ?_  | refine x_thenE ?_  | refine x_blkN ?_  | refine x_blkR ?_  | refine x_blkE ?_  | refine wp_ret ?_  | refine wp_skip ?_  | refine wp_block ?_  | refine wp_exit ?_  | refine c_condT st rfl ?_  | refine c_condF st rfl ?_  | ((first | refine o_move st rfl rfl ?_  | refine o_assign st rfl rfl ?_  | refine o_loadS st rfl (by repeat constructor) rfl rfl ?_  | refine o_len st rfl rfl ?_  | refine o_add64 st rfl rfl rfl (by omega) (by omega) ?_  | refine o_notT st rfl rfl ?_  | refine o_notF st rfl rfl ?_); clear st; intro _ st)  | (refine o_lss st rfl rfl rfl ?_ ?_ <;> clear st <;> intro _ _ st <;> (try (exfalso; omega)))))
      have e5 : ((3 * k : Nat) : Int) + 3 = ((3 * (k + 1) : Nat) : Int) := by omega
      rw [e5] at st
      exact ⟨K - (k + 1), by omega, k + 1, by omega, rfl, by rw [take_fin hlt]; exact hJ3, st.fit (by repeat (first | exact trivial  | refine And.intro rfl ?_))⟩
    · refine ⟨_, rfl, ?_⟩
      have st := (st.put 29 rfl (.bool false)).anew (W := W3) [] (by simp)
      refine y_do ?_
      (first | refine c_seq ?_  | refine c_region ?_  | refine l_do ?_  | refine l_nil ?_  | refine x_then ?_  | refine x_thenR ?_  | refine x_thenE ?_  | refine x_blkN ?_  | refine x_blkR ?_  | refine x_blkE ?_  | refine wp_ret ?_  | refine wp_skip ?_  | refine wp_block ?_  | refine wp_exit ?_  | refine c_condT st rfl ?_  | refine c_condF st rfl ?_  | ((first | refine o_move st rfl rfl ?_  | refine o_assign st rfl rfl ?_  | refine o_loadS st rfl (by repeat constructor) rfl rfl ?_  | refine o_len st rfl rfl ?_  | refine o_add64 st rfl rfl rfl (by omega) (by omega) ?_  | refine o_notT st rfl rfl ?_  | refine o_notF st rfl rfl ?_); clear st; intro _ st)  | (refine o_lss st rfl rfl rfl ?_ ?_ <;> clear st <;> intro _ _ st <;> (try (exfalso; omega))))
      refine y_nil ?_
      (repeat' (first | refine c_seq ?_  | refine c_region ?_  | refine l_do ?_  | refine l_nil ?_  | refine x_then ?_  | refine x_thenR ?_  | refine x_thenE ?_  | refine x_blkN ?_  | refine x_blkR ?_  | refine x_blkE ?_  | refine wp_ret ?_  | refine wp_skip ?_  | refine wp_block ?_  | refine wp_exit ?_  | refine c_condT st rfl ?_  | refine c_condF st rfl ?_  | ((first | refine o_move st rfl rfl ?_  | refine o_assign st rfl rfl ?_  | refine o_loadS st rfl (by repeat constructor) rfl rfl ?_  | refine o_len st rfl rfl ?_  | refine o_add64 st rfl rfl rfl (by omega) (by omega) ?_  | refine o_notT st rfl rfl ?_  | refine o_notF st rfl rfl ?_); clear st; intro _ st)  | (refine o_lss st rfl rfl rfl ?_ ?_ <;> clear st <;> intro _ _ st <;> (try (exfalso; omega)))))
      refine post0A st Try.results186 ?_
      exact ⟨⟨_, rfl⟩, .inr ⟨_, trivial, hX3⟩⟩
  · have hkK : k = K := by omega
    subst hkK
    (repeat' (first | refine c_seq ?_  | refine c_region ?_  | refine l_do ?_  | refine l_nil ?_  | refine x_then ?_  | refine x_thenR ?_  | refine x_thenE ?_  | refine x_blkN ?_  | refine x_blkR ?_  | refine x_blkE ?_  | refine wp_ret ?_  | refine wp_skip ?_  | refine wp_block ?_  | refine wp_exit ?_  | refine c_condT st rfl ?_  | refine c_condF st rfl ?_  | ((first | refine o_move st rfl rfl ?_  | refine o_assign st rfl rfl ?_  | refine o_loadS st rfl (by repeat constructor) rfl rfl ?_  | refine o_len st rfl rfl ?_  | refine o_add64 st rfl rfl rfl (by omega) (by omega) ?_  | refine o_notT st rfl rfl ?_  | refine o_notF st rfl rfl ?_); clear st; intro _ st)  | (refine o_lss st rfl rfl rfl ?_ ?_ <;> clear st <;> intro _ _ st <;> (try (exfalso; omega)))))
    have hJa : J (List.finRange k) w' := by
      have : (List.finRange k).take k = List.finRange k := List.take_of_length_le (by simp)
      rw [this] at hJk
      exact hJk
    first
      | (refine post0A st Try.results186 ?_; exact ⟨⟨_, rfl⟩, .inl ⟨_, rfl, hJa⟩⟩)
      | (refine postN0A st Try.results186 ?_; exact ⟨⟨_, rfl⟩, .inl ⟨_, rfl, hJa⟩⟩)
end Go.Proofs.Ytefnlalldgbcaaa
