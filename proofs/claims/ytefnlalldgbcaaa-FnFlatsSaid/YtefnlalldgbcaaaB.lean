/-
  Contracts: lists of numbers, searched; is a spot finite, in the program.
-/
import Derived.Test.YtefnlalldgbcaaaArgs
namespace Go.Proofs.Ytefnlalldgbcaaa
open Go.RowKit
attribute [local irreducible] Code.wp wpList Oper.wp Calls bodyPost Exit.then Exit.inBlock

/-- The cells of a list of numbers, of classes cs. -/
def IsL : List Nat → List (Option Nat) → Prop
  | [], [] => True
  | b :: bs, c :: cs => Is .f32 b c ∧ IsL bs cs
  | _, _ => False

theorem IsL.length : ∀ {bs cs}, IsL bs cs → bs.length = cs.length
  | [], [], _ => rfl
  | b :: bs, c :: cs, h => by simp [IsL.length h.2]
  | [], _ :: _, h => h.elim
  | _ :: _, [], h => h.elim

theorem IsL.get : ∀ {bs cs}, IsL bs cs → ∀ (i : Nat) (b : Nat) (c : Option Nat), bs[i]? = some b → cs[i]? = some c → Is .f32 b c
  | [], [], _, i, b, c, hb, _ => by simp at hb
  | b :: bs, c :: cs, h, 0, b', c', hb, hc => by simp at hb hc; subst hb; subst hc; exact h.1
  | b :: bs, c :: cs, h, i + 1, b', c', hb, hc => IsL.get h.2 i b' c' (by simpa using hb) (by simpa using hc)
  | [], _ :: _, h, _, _, _, _, _ => h.elim
  | _ :: _, [], h, _, _, _, _, _ => h.elim

theorem indexFunc_ok (bs : List Nat) (cs : List (Option Nat)) (h : IsL bs cs) (b cap : Nat) (w : World) (hb : w.heap[b]? = some (.cells (bs.map (Value.float .f32)).toArray 22 (0, 0))) (hlen : bs.length < 1000000000) :
    CR Try.prog 188 [.slice (some ⟨b, 0, none⟩) bs.length cap, .func (.func 175) #[] #[]] w fun v => ∃ i : Int, v = .int .i64 i ∧ (0 ≤ i ↔ cs.all finC = false) := by
  refine enterL [⟨b, false, .cells (bs.map (Value.float .f32)).toArray 22 (0, 0)⟩] (by simp [hb]) Try.func188 rfl rfl rfl rfl ?_
  intro a st
  have hl := h.length
  (repeat' (first | refine c_seq ?_  | refine c_region ?_  | refine l_do ?_  | refine l_nil ?_  | refine x_then ?_  | refine x_thenR ?_  | refine x_thenE ?_  | refine x_blkN ?_  | refine x_blkR ?_  | refine x_blkE ?_  | refine wp_ret ?_  | refine wp_skip ?_  | refine wp_block ?_  | refine wp_exit ?_  | refine c_condT st rfl ?_  | refine c_condF st rfl ?_  | ((first | refine o_move st rfl rfl ?_  | refine o_assign st rfl rfl ?_  | refine o_loadS st rfl (by repeat constructor) rfl rfl ?_  | refine o_len st rfl rfl ?_  | refine o_add64 st rfl rfl rfl (by omega) (by omega) ?_); clear st; intro _ st)  | (refine o_lss st rfl rfl rfl ?_ ?_ <;> clear st <;> intro _ _ st <;> (try (exfalso; omega)))))
  refine wp_loop_ghost (fun n a w' => ∃ k : Nat, k ≤ bs.length ∧ n = bs.length - k ∧ (cs.take k).all finC = true ∧ St w Try.f188.ntmps a w' [(0, .slice (some ⟨b, 0, none⟩) bs.length cap), (1, .func (.func 175) #[] #[]), (7, .int .i64 bs.length), (8, .int .i64 k)] [⟨b, false, .cells (bs.map (Value.float .f32)).toArray 22 (0, 0)⟩]) bs.length ⟨0, by omega, by omega, by simp, st.fit (by repeat (first | exact trivial  | refine And.intro rfl ?_))⟩ ?_
  clear st
  rintro n a w' ⟨k, hk, rfl, hall, st⟩
  by_cases hlt : k < bs.length
  · have hkc : k < cs.length := by omega
    have hv : (bs.map (Value.float .f32)).toArray[0 + (k : Int).toNat * 1]? = some (.float .f32 bs[k]) := by simp [hlt]
    have hI : Is .f32 bs[k] cs[k] := h.get k _ _ (by simp [hlt]) (by simp [hkc])
    have htk : (cs.take (k + 1)).all finC = ((cs.take k).all finC && finC cs[k]) := by
      rw [List.take_succ_eq_append_getElem hkc, List.all_append]; simp only [List.all_cons, List.all_nil, Bool.and_true]
    (repeat' (first | (refine o_indexAddr st rfl rfl (by omega) (by omega) rfl ?_; clear st; intro _ st)  | (refine o_loadS st rfl (by repeat constructor) hv rfl ?_; clear st; intro _ st)  | (refine o_callFB st rfl rfl (areFinite1_ok _ _ hI _) rfl ?_ ?_ <;> clear st <;> intro _ _ _ st)  | refine c_seq ?_  | refine c_region ?_  | refine l_do ?_  | refine l_nil ?_  | refine x_then ?_  | refine x_thenR ?_  | refine x_thenE ?_  | refine x_blkN ?_  | refine x_blkR ?_  | refine x_blkE ?_  | refine wp_ret ?_  | refine wp_skip ?_  | refine wp_block ?_  | refine wp_exit ?_  | refine c_condT st rfl ?_  | refine c_condF st rfl ?_  | ((first | refine o_move st rfl rfl ?_  | refine o_assign st rfl rfl ?_  | refine o_loadS st rfl (by repeat constructor) rfl rfl ?_  | refine o_len st rfl rfl ?_  | refine o_add64 st rfl rfl rfl (by omega) (by omega) ?_); clear st; intro _ st)  | (refine o_lss st rfl rfl rfl ?_ ?_ <;> clear st <;> intro _ _ st <;> (try (exfalso; omega)))))
    · refine post1 st Try.results188 (rd_t st rfl) ?_
      refine ⟨_, rfl, ⟨_, rfl, ?_⟩, st.ex0⟩
      have hn : finC cs[k] = false := by simpa using ‹(!finC cs[k]) = true›
      refine ⟨fun _ => ?_, fun _ => by omega⟩
      rw [List.all_eq_false]
      exact ⟨cs[k], List.getElem_mem hkc, by simp [hn]⟩
    · have hn : finC cs[k] = true := by simpa using ‹(!finC cs[k]) = false›
      exact ⟨bs.length - (k + 1), by omega, k + 1, by omega, rfl, by rw [htk, hall, hn]; rfl, st.fit (by repeat (first | exact trivial  | refine And.intro rfl ?_))⟩
  · have hk' : k = bs.length := by omega
    (repeat' (first | refine c_seq ?_  | refine c_region ?_  | refine l_do ?_  | refine l_nil ?_  | refine x_then ?_  | refine x_thenR ?_  | refine x_thenE ?_  | refine x_blkN ?_  | refine x_blkR ?_  | refine x_blkE ?_  | refine wp_ret ?_  | refine wp_skip ?_  | refine wp_block ?_  | refine wp_exit ?_  | refine c_condT st rfl ?_  | refine c_condF st rfl ?_  | ((first | refine o_move st rfl rfl ?_  | refine o_assign st rfl rfl ?_  | refine o_loadS st rfl (by repeat constructor) rfl rfl ?_  | refine o_len st rfl rfl ?_  | refine o_add64 st rfl rfl rfl (by omega) (by omega) ?_); clear st; intro _ st)  | (refine o_lss st rfl rfl rfl ?_ ?_ <;> clear st <;> intro _ _ st <;> (try (exfalso; omega)))))
    refine post1 st Try.results188 (rd_t st rfl) ?_
    refine ⟨_, rfl, ⟨_, rfl, ?_⟩, st.ex0⟩
    have : cs.all finC = true := by rw [← hall, hk', hl, List.take_length]
    simp [this]

theorem containsFunc_ok (bs : List Nat) (cs : List (Option Nat)) (h : IsL bs cs) (b cap : Nat) (w : World) (hb : w.heap[b]? = some (.cells (bs.map (Value.float .f32)).toArray 22 (0, 0))) (hlen : bs.length < 1000000000) :
    CV Try.prog 174 [.slice (some ⟨b, 0, none⟩) bs.length cap, .func (.func 175) #[] #[]] w (.bool (!cs.all finC)) := by
  refine enterL [⟨b, false, .cells (bs.map (Value.float .f32)).toArray 22 (0, 0)⟩] (by simp [hb]) Try.func174 rfl rfl rfl rfl ?_
  intro a st
  (repeat' (first | (refine o_callR st rfl (indexFunc_ok bs cs h b cap _ (st.heap (by repeat constructor)) hlen) rfl ?_; clear st; rintro _ ⟨i, rfl, hi⟩ _ _ st)  | refine c_seq ?_  | refine c_region ?_  | refine l_do ?_  | refine l_nil ?_  | refine x_then ?_  | refine wp_ret ?_  | ((first | refine o_move st rfl rfl ?_  | refine o_assign st rfl rfl ?_); clear st; intro _ st)  | (refine o_geq st rfl rfl rfl ?_ ?_ <;> clear st <;> intro _ _ st <;> (try (exfalso; omega)))))
  all_goals
    refine post1 st Try.results174 (rd_t st rfl) ?_
    refine ⟨?_, st.ex0⟩
  · rw [hi.1 ‹_›]; rfl
  · have : ¬ 0 ≤ i := by omega
    rw [hi] at this
    have h2 : cs.all finC = true := by simpa using this
    rw [h2]; rfl

theorem areFinite_ok (bs : List Nat) (cs : List (Option Nat)) (h : IsL bs cs) (b cap : Nat) (w : World) (hb : w.heap[b]? = some (.cells (bs.map (Value.float .f32)).toArray 22 (0, 0))) (hlen : bs.length < 1000000000) :
    CV Try.prog 101 [.slice (some ⟨b, 0, none⟩) bs.length cap] w (.bool (cs.all finC)) := by
  refine enterL [⟨b, false, .cells (bs.map (Value.float .f32)).toArray 22 (0, 0)⟩] (by simp [hb]) Try.func101 rfl rfl rfl rfl ?_
  intro a st
  (repeat' (first | (refine o_callB st rfl (containsFunc_ok bs cs h b cap _ (st.heap (by repeat constructor)) hlen) rfl ?_ ?_ <;> clear st <;> intro _ _ _ st)  | refine c_seq ?_  | refine c_region ?_  | refine l_do ?_  | refine l_nil ?_  | refine x_then ?_  | refine wp_ret ?_  | ((first | refine o_move st rfl rfl ?_  | refine o_assign st rfl rfl ?_  | refine o_notT st rfl rfl ?_  | refine o_notF st rfl rfl ?_); clear st; intro _ st)))
  all_goals
    refine post1 st Try.results101 (rd_t st rfl) ?_
    exact ⟨by simp_all, st.ex0⟩

theorem implIsSpot_ok (b : B3) (s : S3) (h : IsS b s) (w : World) : CV Try.prog 32 [vS b] w (.bool (finS s)) := by
  obtain ⟨x, y, z⟩ := b
  obtain ⟨c1, c2, c3⟩ := s
  obtain ⟨h1, h2, h3⟩ := h
  refine enter Try.func32 rfl rfl rfl rfl ?_
  intro a st
  (repeat' (first | (refine o_buildSlice st rfl rfl rfl rfl rfl rfl ?_; clear st; intro _ _ _ st)  | (refine o_callB st rfl (areFinite_ok [x, y, z] [c1, c2, c3] ⟨h1, h2, h3, trivial⟩ _ 3 _ (st.heap (by repeat constructor)) (by simp)) rfl ?_ ?_ <;> clear st <;> intro _ _ _ st)  | refine c_seq ?_  | refine c_region ?_  | refine l_do ?_  | refine l_nil ?_  | refine x_then ?_  | refine wp_ret ?_  | (refine o_assign st rfl rfl ?_; clear st; intro _ st)  | ((first | refine o_boxA st rfl rfl ?_ ); clear st; intro _ _ _ st)  | ((first | refine o_fieldAddr st rfl rfl ?_  | refine o_loadS st rfl (by repeat constructor) rfl rfl ?_ ); clear st; intro _ st)))
  all_goals
    refine post1 st Try.results32 (rd_t st rfl) ?_
    exact ⟨by simp_all [finS], st.ex0⟩

end Go.Proofs.Ytefnlalldgbcaaa
