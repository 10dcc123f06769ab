/-
  FnNumbers: lists of numbers that are drawn; numbers that an input chooses.
-/
import Derived.Test.YtclgplbikjmopaaGreatDoorDb
namespace Go.Proofs.YtclgplbikjmopaaGreatDoor
open Go.RowKit
abbrev vF (x : Nat) : Value := .float .f32 x
theorem one_vF (xs : List Nat) : ∀ v ∈ xs.map vF, v.oneCell' = true := by
  intro v hv
  obtain ⟨x, _, rfl⟩ := List.mem_map.1 hv
  rfl
theorem map_oneF (xs : List Nat) (x : Nat) : xs.map vF ++ [vF x] = (xs ++ [x]).map vF := by rw [List.map_append]; rfl
/-- Words of four bytes. -/
def okW (xs : List Nat) : Prop := ∀ x ∈ xs, x < 4294967296
attribute [local irreducible] Code.wp wpList Oper.wp Calls bodyPost Exit.then Exit.inBlock

set_option maxRecDepth 100000 in
set_option maxHeartbeats 32000000 in
theorem drawFloats_ok (n : Nat) (hn : n ≤ 1000) (cs : List Int) (hok : okB cs) (hlen : cs.length ≤ 1000000000) (base : Option Addr) (cap at_ : Nat) (hat : at_ ≤ 1000000) (sd : Int) (b : Nat) (w : World) (hr : RdB w base cs) (hb : w.heap[b]? = some (oSrc base cs.length cap at_ sd)) :
    CUL Tryz.prog 29 [.pointer (some ⟨b, 0, none⟩), .int .i64 n] w b (fun v o' Ln => ∃ (nb cp at' : Nat) (xs : List Nat) (pad : List Value) (sd' : Int), v = .slice (some ⟨nb, 0, none⟩) xs.length cp ∧ Ln = [⟨nb, true, oV 24 (xs.map vF) pad⟩] ∧ xs.length = n ∧ okW xs ∧ (xs.map vF ++ pad).length = cp ∧ o' = oSrc base cs.length cap at' sd') := by
  obtain ⟨Lk, hLk, hcode⟩ := hr.code hb
  refine enterUL Lk hLk hb Tryz.func29 rfl rfl rfl rfl ?_
  intro a w0 Lf st
  have hrd : ∀ {a : Act} {w : World} {E : List (Nat × Value)} {L : List Ent}, St w0 Tryz.f29.ntmps a w E L → List.Sublist Lk L → RdB w base cs := fun s hs => hcode _ fun e he => (s.facts e (hs.mem he)).1
  have e0 : (n : Int) = (n : Int) - ((0 : Nat) : Int) := by omega
  have st := st.fit (E' := [(0, .pointer (some ⟨b, 0, none⟩)), (1, .int .i64 ((n : Int) - ((0 : Nat) : Int)))]) ⟨rfl, by rw [← e0]; exact rfl, trivial⟩
  (repeat' (first | (refine o_buildSlice0 st rfl ?_; clear st; intro blk0 _ _ st) | (refine o_callUX (L' := fun o' => ⟨blk0, true, oV 24 (([] : List Nat).map vF) []⟩ :: ⟨b, true, o'⟩ :: (Lk ++ Lf)) st rfl (one_ok 4 (by omega) cs hok hlen base cap at_ (by omega) sd b _ (hrd st (by repeat (first | exact List.sublist_append_left _ _ | apply List.Sublist.cons))) (st.heap (by repeat constructor))) (fun o' => Upd.there Upd.here) rfl ?_; clear st; rintro _ _ ⟨r, at0, sd0, rfl, hb1, hb2, rfl⟩ _ _ st) | refine c_seq ?_ | refine c_region ?_ | refine l_do ?_ | refine l_nil ?_ | refine x_then ?_ | refine x_thenR ?_ | refine x_thenE ?_ | refine x_blkN ?_ | refine x_blkR ?_ | refine x_blkE ?_ | refine x_blkO rfl ?_ | refine wp_ret ?_ | refine wp_skip ?_ | refine wp_block ?_ | refine wp_exit ?_ | refine c_condT st rfl ?_ | refine c_condF st rfl ?_ | ((first | refine o_move st rfl rfl ?_ | refine o_assign st rfl rfl ?_ | refine o_sub64 st rfl rfl rfl (by omega) (by omega) ?_); clear st; intro _ st) | (refine o_gtr st rfl rfl rfl ?_ ?_ <;> clear st <;> intro _ _ st <;> (try (exfalso; omega)))))
  refine wp_loop_ghost (fun z a w' => ∃ (k blk cp at' : Nat) (sd' : Int) (xs : List Nat) (pad : List Value), k ≤ n ∧ z = n - k ∧ xs.length = k ∧ okW xs ∧ (xs.map vF ++ pad).length = cp ∧ at' ≤ at_ + 2 + 14 * k ∧ St w0 Tryz.f29.ntmps a w' [(0, .pointer (some ⟨b, 0, none⟩)), (1, .int .i64 ((n : Int) - (k : Int))), (5, .slice (some ⟨blk, 0, none⟩) k cp), (6, .bool r)] (⟨blk, true, oV 24 (xs.map vF) pad⟩ :: ⟨b, true, oSrc base cs.length cap at' sd'⟩ :: (Lk ++ Lf))) n ⟨0, blk0, 0, at0, sd0, [], [], by omega, by omega, rfl, (by intro x hx; cases hx), rfl, by omega, st.fit (by repeat (first | exact trivial | refine And.intro rfl ?_))⟩ ?_
  clear st
  rintro z a w' ⟨k, blk, cp, at', sd', xs, pad, hk, rfl, hpl, hQ, hp, hat', st⟩
  by_cases hlt : k < n
  · have main : ∀ (a : Act) (w' : World) (x at2 : Nat) (sd2 : Int) (blk1 cap1 : Nat) (pad1 : List Value), x < 4294967296 → at2 ≤ at_ + 2 + 14 * (k + 1) → (xs.map vF ++ [vF x] ++ pad1).length = cap1 → St w0 Tryz.f29.ntmps a w' [(0, .pointer (some ⟨b, 0, none⟩)), (1, .int .i64 ((n : Int) - (k : Int) - 1)), (5, .slice (some ⟨blk1, 0, none⟩) (k + 1) cap1), (6, .bool r)] (⟨blk1, true, oV 24 (xs.map vF ++ [vF x]) pad1⟩ :: ⟨b, true, oSrc base cs.length cap at2 sd2⟩ :: (Lk ++ Lf)) → ∃ m, m < n - k ∧ ∃ (k blk cp at' : Nat) (sd' : Int) (xs : List Nat) (pad : List Value), k ≤ n ∧ m = n - k ∧ xs.length = k ∧ okW xs ∧ (xs.map vF ++ pad).length = cp ∧ at' ≤ at_ + 2 + 14 * k ∧ St w0 Tryz.f29.ntmps a w' [(0, .pointer (some ⟨b, 0, none⟩)), (1, .int .i64 ((n : Int) - (k : Int))), (5, .slice (some ⟨blk, 0, none⟩) k cp), (6, .bool r)] (⟨blk, true, oV 24 (xs.map vF) pad⟩ :: ⟨b, true, oSrc base cs.length cap at' sd'⟩ :: (Lk ++ Lf)) := by
      intro a w' x at2 sd2 blk1 cap1 pad1 hx h2 hp1 st
      have e1 : (n : Int) - (k : Int) - 1 = (n : Int) - ((k + 1 : Nat) : Int) := by omega
      rw [e1] at st
      rw [map_oneF] at hp1 st
      refine ⟨n - (k + 1), by omega, k + 1, blk1, cap1, at2, sd2, xs ++ [x], pad1, by omega, rfl, by simp [hpl], ?_, hp1, h2, st⟩
      intro q hq
      rcases List.mem_append.1 hq with hq | hq
      · exact hQ q hq
      · simp only [List.mem_singleton] at hq
        subst hq
        exact hx
    cases r
    · (repeat' (first | (refine o_callUX (L' := fun o' => ⟨blk, true, oV 24 (xs.map vF) pad⟩ :: ⟨b, true, o'⟩ :: (Lk ++ Lf)) st rfl (drawPlain_ok cs hok hlen base cap at' (by omega) sd' b _ (hrd st (by repeat (first | exact List.sublist_append_left _ _ | apply List.Sublist.cons))) (st.heap (by repeat constructor))) (fun o' => Upd.there Upd.here) rfl ?_; clear st; rintro _ _ ⟨x, at1, sd1, rfl, hx, hax, hax2, rfl⟩ _ _ st) | (refine o_buildSlice st rfl rfl rfl rfl rfl rfl ?_; clear st; intro _ _ _ st) | (refine o_append1V rfl st rfl rfl (by repeat constructor) (by repeat constructor) (by rw [List.length_map]; exact hpl) hp rfl (by omega) rfl ?_; clear st; intro blk1 cap1 pad1 _ _ hp1 st) | refine c_seq ?_ | refine c_region ?_ | refine l_do ?_ | refine l_nil ?_ | refine x_then ?_ | refine x_thenR ?_ | refine x_thenE ?_ | refine x_blkN ?_ | refine x_blkR ?_ | refine x_blkE ?_ | refine x_blkO rfl ?_ | refine wp_ret ?_ | refine wp_skip ?_ | refine wp_block ?_ | refine wp_exit ?_ | refine c_condT st rfl ?_ | refine c_condF st rfl ?_ | ((first | refine o_move st rfl rfl ?_ | refine o_assign st rfl rfl ?_ | refine o_sub64 st rfl rfl rfl (by omega) (by omega) ?_); clear st; intro _ st) | (refine o_gtr st rfl rfl rfl ?_ ?_ <;> clear st <;> intro _ _ st <;> (try (exfalso; omega)))))
      exact main _ _ x at1 sd1 blk1 cap1 pad1 hx (by omega) hp1 ((st.fit (by repeat (first | exact trivial | refine And.intro rfl ?_))).subL (by repeat (first | exact List.Sublist.refl _ | apply List.Sublist.cons_cons | apply List.Sublist.cons | exact List.nil_sublist _)))
    · (repeat' (first | (refine o_callUX (L' := fun o' => ⟨blk, true, oV 24 (xs.map vF) pad⟩ :: ⟨b, true, o'⟩ :: (Lk ++ Lf)) st rfl (drawFloat_ok cs hok hlen base cap at' (by omega) sd' b _ (hrd st (by repeat (first | exact List.sublist_append_left _ _ | apply List.Sublist.cons))) (st.heap (by repeat constructor))) (fun o' => Upd.there Upd.here) rfl ?_; clear st; rintro _ _ ⟨x, at1, sd1, rfl, hx, hax, hax2, rfl⟩ _ _ st) | (refine o_buildSlice st rfl rfl rfl rfl rfl rfl ?_; clear st; intro _ _ _ st) | (refine o_append1V rfl st rfl rfl (by repeat constructor) (by repeat constructor) (by rw [List.length_map]; exact hpl) hp rfl (by omega) rfl ?_; clear st; intro blk1 cap1 pad1 _ _ hp1 st) | refine c_seq ?_ | refine c_region ?_ | refine l_do ?_ | refine l_nil ?_ | refine x_then ?_ | refine x_thenR ?_ | refine x_thenE ?_ | refine x_blkN ?_ | refine x_blkR ?_ | refine x_blkE ?_ | refine x_blkO rfl ?_ | refine wp_ret ?_ | refine wp_skip ?_ | refine wp_block ?_ | refine wp_exit ?_ | refine c_condT st rfl ?_ | refine c_condF st rfl ?_ | ((first | refine o_move st rfl rfl ?_ | refine o_assign st rfl rfl ?_ | refine o_sub64 st rfl rfl rfl (by omega) (by omega) ?_); clear st; intro _ st) | (refine o_gtr st rfl rfl rfl ?_ ?_ <;> clear st <;> intro _ _ st <;> (try (exfalso; omega)))))
      exact main _ _ x at1 sd1 blk1 cap1 pad1 hx (by omega) hp1 ((st.fit (by repeat (first | exact trivial | refine And.intro rfl ?_))).subL (by repeat (first | exact List.Sublist.refl _ | apply List.Sublist.cons_cons | apply List.Sublist.cons | exact List.nil_sublist _)))
  · obtain rfl : k = n := by omega
    (repeat' (first | refine c_seq ?_ | refine c_region ?_ | refine l_do ?_ | refine l_nil ?_ | refine x_then ?_ | refine x_thenR ?_ | refine x_thenE ?_ | refine x_blkN ?_ | refine x_blkR ?_ | refine x_blkE ?_ | refine x_blkO rfl ?_ | refine wp_ret ?_ | refine wp_skip ?_ | refine wp_block ?_ | refine wp_exit ?_ | refine c_condT st rfl ?_ | refine c_condF st rfl ?_ | ((first | refine o_move st rfl rfl ?_ | refine o_assign st rfl rfl ?_ | refine o_sub64 st rfl rfl rfl (by omega) (by omega) ?_); clear st; intro _ st) | (refine o_gtr st rfl rfl rfl ?_ ?_ <;> clear st <;> intro _ _ st <;> (try (exfalso; omega)))))
    refine post1 st Tryz.results29 (rd_t st rfl) ?_
    exact ⟨_, _, [⟨blk, true, oV 24 (xs.map vF) pad⟩], rfl, ⟨blk, cp, at', xs, pad, sd', by rw [hpl], rfl, hpl, hQ, hp, rfl⟩, by simp, _, (st.fit (E' := []) trivial).subL (List.Sublist.cons_cons _ (List.Sublist.cons_cons _ (List.sublist_append_right _ _)))⟩

set_option maxHeartbeats 4000000 in
theorem B10Number_ok (cs : List Int) (hok : okB cs) (hlen : cs.length ≤ 1000000000) (base : Option Addr) (cap : Nat) (w : World) (hr : RdB w base cs) : CR Tryz.prog 5 [.slice base cs.length cap] w fun v => ∃ x : Nat, v = vF x ∧ x < 4294967296 := by
  refine enter Tryz.func5 rfl rfl rfl rfl ?_
  intro a st
  (repeat' (first | (refine o_callM1 st rfl (l00From_ok base cs.length cap _) rfl ?_; clear st; rintro _ sb _ ⟨rfl, rfl⟩ _ _ st) | (refine o_callUX st rfl (one_ok 2 (by omega) cs hok hlen base cap 0 (by omega) 0 sb _ (hr.mono st.below) (st.heap (by repeat constructor))) (fun o' => Upd.here) rfl ?_; clear st; rintro _ _ ⟨r, at1, sd1, rfl, hb1, hb2, rfl⟩ _ _ st; cases r) | refine c_seq ?_ | refine c_region ?_ | refine l_do ?_ | refine l_nil ?_ | refine x_then ?_ | refine x_thenR ?_ | refine x_thenE ?_ | refine wp_ret ?_ | refine wp_skip ?_ | refine c_condT st rfl ?_ | refine c_condF st rfl ?_ | ((first | refine o_move st rfl rfl ?_ | refine o_assign st rfl rfl ?_ | refine o_add64 st rfl rfl rfl (by omega) (by omega) ?_ | refine o_mulW st rfl rfl rfl ?_); clear st; intro _ st)))
  · (repeat' (first | (refine o_callUX st rfl (drawFloat_ok cs hok hlen base cap at1 (by omega) sd1 sb _ (hr.mono st.below) (st.heap (by repeat constructor))) (fun o' => Upd.here) rfl ?_; clear st; rintro _ _ ⟨x, at2, sd2, rfl, hx, hb3, hb4, rfl⟩ _ _ st) | refine c_seq ?_ | refine c_region ?_ | refine l_do ?_ | refine l_nil ?_ | refine x_then ?_ | refine x_thenR ?_ | refine x_thenE ?_ | refine wp_ret ?_ | refine wp_skip ?_ | refine c_condT st rfl ?_ | refine c_condF st rfl ?_ | ((first | refine o_move st rfl rfl ?_ | refine o_assign st rfl rfl ?_ | refine o_add64 st rfl rfl rfl (by omega) (by omega) ?_ | refine o_mulW st rfl rfl rfl ?_); clear st; intro _ st)))
    refine post1 st Tryz.results5 (rd_t st rfl) ?_
    exact ⟨_, rfl, ⟨x, rfl, hx⟩, st.ex0⟩
  · (repeat' (first | (refine o_callUX st rfl (pick_ok 65536 (by omega) cs hok hlen base cap at1 (by omega) sd1 sb _ (hr.mono st.below) (st.heap (by repeat constructor))) (fun o' => Upd.here) rfl ?_; clear st; rintro _ _ ⟨x, at2, sd2, rfl, hx, hb3, hb4, rfl⟩ _ _ st) | (refine o_callUX st rfl (pick_ok 65536 (by omega) cs hok hlen base cap at2 (by omega) sd2 sb _ (hr.mono st.below) (st.heap (by repeat constructor))) (fun o' => Upd.here) rfl ?_; clear st; rintro _ _ ⟨y, at3, sd3, rfl, hy, hb5, hb6, rfl⟩ _ _ st) | (refine o_mul64 st rfl rfl rfl (by omega) (by omega) ?_; clear st; intro _ st) | (refine o_add64 st rfl rfl rfl (by omega) (by omega) ?_; clear st; intro _ st) | (refine o_callV st rfl (From_ok _ (by omega) (by omega) _) rfl ?_; clear st; intro _ _ st) | refine c_seq ?_ | refine c_region ?_ | refine l_do ?_ | refine l_nil ?_ | refine x_then ?_ | refine x_thenR ?_ | refine x_thenE ?_ | refine wp_ret ?_ | refine wp_skip ?_ | refine c_condT st rfl ?_ | refine c_condF st rfl ?_ | ((first | refine o_move st rfl rfl ?_ | refine o_assign st rfl rfl ?_ | refine o_add64 st rfl rfl rfl (by omega) (by omega) ?_ | refine o_mulW st rfl rfl rfl ?_); clear st; intro _ st)))
    refine post1 st Tryz.results5 (rd_t st rfl) ?_
    exact ⟨_, rfl, ⟨_, rfl, by omega⟩, st.ex0⟩
theorem B10Numbers_ok (n : Nat) (hn : n ≤ 1000) (cs : List Int) (hok : okB cs) (hlen : cs.length ≤ 1000000000) (base : Option Addr) (cap : Nat) (w : World) (hr : RdB w base cs) : CM1 Tryz.prog 9 [.slice base cs.length cap, .int .i64 n] w fun v nb o => ∃ (cp : Nat) (xs : List Nat) (pad : List Value), v = .slice (some ⟨nb, 0, none⟩) xs.length cp ∧ o = oV 24 (xs.map vF) pad ∧ xs.length = n ∧ okW xs ∧ (xs.map vF ++ pad).length = cp := by
  refine enter Tryz.func9 rfl rfl rfl rfl ?_
  intro a st
  (repeat' (first | (refine o_callM1 st rfl (l00From_ok base cs.length cap _) rfl ?_; clear st; rintro _ sb _ ⟨rfl, rfl⟩ _ _ st) | (refine o_callUL st rfl (drawFloats_ok n hn cs hok hlen base cap 0 (by omega) 0 sb _ (hr.mono st.below) (st.heap (by repeat constructor))) (fun o' => Upd.here) rfl ?_; clear st; rintro _ _ _ ⟨nb, cp, at1, xs, pad, sd1, rfl, rfl, hxl, hx, hp, rfl⟩ _ _ st) | refine c_seq ?_ | refine c_region ?_ | refine l_do ?_ | refine l_nil ?_ | refine x_then ?_ | refine x_thenR ?_ | refine x_thenE ?_ | refine wp_ret ?_ | ((first | refine o_move st rfl rfl ?_ | refine o_assign st rfl rfl ?_); clear st; intro _ st)))
  refine post1 st Tryz.results9 (rd_t st rfl) ?_
  exact ⟨_, nb, _, rfl, ⟨cp, xs, pad, rfl, rfl, hxl, hx, hp⟩, st.ex1 (by repeat constructor)⟩
theorem b10Long_ok (n m cap cap' : Nat) (base base' : Option Addr) (hn : n ≤ 9223372036854775807) (hm : m ≤ 9223372036854775807) (w : World) : CV Tryz.prog 4 [.slice base n cap, .slice base' m cap'] w (.bool (decide (1048576 < n) || decide (1048576 < m))) := by
  refine enter Tryz.func4 rfl rfl rfl rfl ?_
  intro a st
  by_cases h1 : 1048576 < n
  · (repeat' (first | refine c_seq ?_ | refine c_region ?_ | refine l_do ?_ | refine l_doG st rfl rfl ?_ | ((first | refine l_skipU st rfl rfl rfl ?_ | refine l_skip st rfl rfl rfl rfl ?_); clear st; intro _ st) | refine l_nil ?_ | refine x_then ?_ | refine x_thenR ?_ | refine x_thenE ?_ | refine wp_ret ?_ | ((first | refine o_move st rfl rfl ?_ | refine o_assign st rfl rfl ?_ | refine o_pickT st rfl rfl rfl ?_ | refine o_pickF st rfl rfl rfl ?_ | refine o_len st rfl rfl ?_); clear st; intro _ st) | (refine o_gtr st rfl rfl rfl ?_ ?_ <;> clear st <;> intro _ _ st <;> (try (exfalso; omega)))))
    refine post1 st Tryz.results4 (rd_t st rfl) ?_
    exact ⟨by simp [h1], st.ex0⟩
  · by_cases h2 : 1048576 < m
    · (repeat' (first | refine c_seq ?_ | refine c_region ?_ | refine l_do ?_ | refine l_doG st rfl rfl ?_ | ((first | refine l_skipU st rfl rfl rfl ?_ | refine l_skip st rfl rfl rfl rfl ?_); clear st; intro _ st) | refine l_nil ?_ | refine x_then ?_ | refine x_thenR ?_ | refine x_thenE ?_ | refine wp_ret ?_ | ((first | refine o_move st rfl rfl ?_ | refine o_assign st rfl rfl ?_ | refine o_pickT st rfl rfl rfl ?_ | refine o_pickF st rfl rfl rfl ?_ | refine o_len st rfl rfl ?_); clear st; intro _ st) | (refine o_gtr st rfl rfl rfl ?_ ?_ <;> clear st <;> intro _ _ st <;> (try (exfalso; omega)))))
      refine post1 st Tryz.results4 (rd_t st rfl) ?_
      exact ⟨by simp [h2], st.ex0⟩
    · (repeat' (first | refine c_seq ?_ | refine c_region ?_ | refine l_do ?_ | refine l_doG st rfl rfl ?_ | ((first | refine l_skipU st rfl rfl rfl ?_ | refine l_skip st rfl rfl rfl rfl ?_); clear st; intro _ st) | refine l_nil ?_ | refine x_then ?_ | refine x_thenR ?_ | refine x_thenE ?_ | refine wp_ret ?_ | ((first | refine o_move st rfl rfl ?_ | refine o_assign st rfl rfl ?_ | refine o_pickT st rfl rfl rfl ?_ | refine o_pickF st rfl rfl rfl ?_ | refine o_len st rfl rfl ?_); clear st; intro _ st) | (refine o_gtr st rfl rfl rfl ?_ ?_ <;> clear st <;> intro _ _ st <;> (try (exfalso; omega)))))
      refine post1 st Tryz.results4 (rd_t st rfl) ?_
      exact ⟨by simp [h1, h2], st.ex0⟩
theorem b10At_ok (cs : List Int) (hok : okB cs) (hlen : cs.length ≤ 1000000000) (base : Option Addr) (cap k : Nat) (hk : k ≤ 1000) (n : Int) (h1 : 1 < n) (w : World) (hr : RdB w base cs) : CR Tryz.prog 10 [.slice base cs.length cap, .int .i64 k, .int .i64 n] w fun v => ∃ x : Nat, v = .int .i64 x ∧ (x : Int) < n := by
  refine enter Tryz.func10 rfl rfl rfl rfl ?_
  intro a st
  by_cases hlt : k < cs.length
  · rcases id hr with rfl | ⟨blk, off, arr, t, fr, rfl, hw, h3⟩
    · simp at hlt
    have st := st.addOld hw
    have hv := h3 k _ (List.getElem?_eq_getElem hlt)
    have hc := hok _ (List.getElem_mem hlt)
    obtain ⟨c, hcc⟩ : ∃ c : Nat, cs[k] = (c : Int) := ⟨cs[k].toNat, by omega⟩
    rw [hcc] at hv hc
    have e1 : off + k = off + ((k : Nat) : Int).toNat * 1 := by simp
    rw [e1] at hv
    have ew : IntKind.i64.wrap ((c : Nat) : Int) = (c : Int) := by rw [IntKind.wrap_i64]; omega
    (repeat' (first | (refine o_indexAddr st rfl rfl (by omega) (by omega) rfl ?_; clear st; intro _ st) | (refine o_loadS st rfl (by repeat constructor) hv rfl ?_; clear st; intro _ st) | (refine o_intInt st rfl ew rfl ?_; clear st; intro _ st) | (refine o_rem64I st rfl rfl (by omega) rfl ?_; clear st; intro r _ hr' st) | refine c_seq ?_ | refine c_region ?_ | refine l_do ?_ | refine l_nil ?_ | refine x_then ?_ | refine x_thenR ?_ | refine x_thenE ?_ | refine wp_ret ?_ | refine wp_skip ?_ | refine c_condT st rfl ?_ | refine c_condF st rfl ?_ | ((first | refine o_move st rfl rfl ?_ | refine o_assign st rfl rfl ?_ | refine o_loadS st rfl (by repeat constructor) rfl rfl ?_ | refine o_load3 st rfl (by repeat constructor) rfl ?_ | refine o_load2 st rfl (by repeat constructor) rfl ?_ | refine o_load4 st rfl (by repeat constructor) rfl ?_ | refine o_len st rfl rfl ?_ | refine o_add64 st rfl rfl rfl (by omega) (by omega) ?_ | refine o_mulW st rfl rfl rfl ?_ | refine o_fcv0 st rfl rfl ?_ | refine o_intFloat st rfl rfl ?_); clear st; intro _ st) | ((first | refine o_lss st rfl rfl rfl ?_ ?_ | refine o_leq st rfl rfl rfl ?_ ?_) <;> clear st <;> intro _ _ st <;> (try (exfalso; omega)))))
    refine post1 st Tryz.results10 (rd_t st rfl) ?_
    exact ⟨_, rfl, ⟨r, rfl, hr'⟩, st.ex0⟩
  · have e1 : ((k : Nat) : Int) * 37 + 11 = ((k * 37 + 11 : Nat) : Int) := by omega
    (repeat' (first | (refine o_mul64 st rfl rfl rfl (by omega) (by omega) ?_; clear st; intro _ st) | (refine o_add64 st rfl rfl rfl (by omega) (by omega) ?_; clear st; intro _ st; rw [e1] at st) | (refine o_rem64I st rfl rfl (by omega) rfl ?_; clear st; intro r _ hr' st) | refine c_seq ?_ | refine c_region ?_ | refine l_do ?_ | refine l_nil ?_ | refine x_then ?_ | refine x_thenR ?_ | refine x_thenE ?_ | refine wp_ret ?_ | refine wp_skip ?_ | refine c_condT st rfl ?_ | refine c_condF st rfl ?_ | ((first | refine o_move st rfl rfl ?_ | refine o_assign st rfl rfl ?_ | refine o_loadS st rfl (by repeat constructor) rfl rfl ?_ | refine o_load3 st rfl (by repeat constructor) rfl ?_ | refine o_load2 st rfl (by repeat constructor) rfl ?_ | refine o_load4 st rfl (by repeat constructor) rfl ?_ | refine o_len st rfl rfl ?_ | refine o_add64 st rfl rfl rfl (by omega) (by omega) ?_ | refine o_mulW st rfl rfl rfl ?_ | refine o_fcv0 st rfl rfl ?_ | refine o_intFloat st rfl rfl ?_); clear st; intro _ st) | ((first | refine o_lss st rfl rfl rfl ?_ ?_ | refine o_leq st rfl rfl rfl ?_ ?_) <;> clear st <;> intro _ _ st <;> (try (exfalso; omega)))))
    refine post1 st Tryz.results10 (rd_t st rfl) ?_
    exact ⟨_, rfl, ⟨r, rfl, hr'⟩, st.ex0⟩
end Go.Proofs.YtclgplbikjmopaaGreatDoor
