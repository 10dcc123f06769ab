/-
  FnNearest: the plain curve that an input chooses; times, points, lengths, gaps.
-/
import Derived.Test.YtonbcbhnnflohaaPa
import Derived.Laws.Small
namespace Go.Proofs.Ytonbcbhnnflohaa
open Go.RowKit

theorem qB_table : ∀ x : Nat, x < 64 → (qW ((x : Int) - 16)).isSome = true := by decide +kernel
theorem qB_ok {i : Int} (h1 : -16 ≤ i) (h2 : i ≤ 47) : qW i = some (qv i) := by
  have h := qB_table (i + 16).toNat (by omega)
  rw [show (((i + 16).toNat : Nat) : Int) - 16 = i by omega] at h
  obtain ⟨r, hr⟩ := Option.isSome_iff_exists.1 h
  rw [qv, hr]; rfl
def vF (x : Nat) : Value := .float .f32 x
def minusW (a b : Nat × Nat) : Option (Nat × Nat) := (fop .sub .f32 (some a.1) (some b.1)).bind fun u => (fop .sub .f32 (some a.2) (some b.2)).bind fun v => some (u, v)
def gapW (a b : Nat) : Option Nat := if fltB .f64 (some a) (some b) = true then fop .sub .f64 (some b) (some a) else fop .sub .f64 (some a) (some b)
attribute [local irreducible] Code.wp wpList Oper.wp Calls bodyPost Exit.then Exit.inBlock

theorem b10Long_ok (n m cap cap' : Nat) (base base' : Option Addr) (hn : n ≤ 9223372036854775807) (hm : m ≤ 9223372036854775807) (w : World) : CV Try.prog 17 [.slice base n cap, .slice base' m cap'] w (.bool (decide (1048576 < n) || decide (1048576 < m))) := by
  refine enter Try.func17 rfl rfl rfl rfl ?_
  intro a st
  by_cases h1 : 1048576 < n
  · (repeat' (first | refine c_seq ?_  | refine c_region ?_  | refine l_do ?_  | refine l_doG st rfl rfl ?_  | ((first | refine l_skip st rfl rfl rfl rfl ?_); clear st; intro _ st)  | refine l_nil ?_  | refine x_then ?_  | refine wp_ret ?_  | ((first | refine o_move st rfl rfl ?_  | refine o_assign st rfl rfl ?_  | refine o_pickT st rfl rfl rfl ?_  | refine o_pickF st rfl rfl rfl ?_  | refine o_len st rfl rfl ?_); clear st; intro _ st)  | (refine o_gtr st rfl rfl rfl ?_ ?_ <;> clear st <;> intro _ _ st <;> (try (exfalso; omega)))))
    refine post1 st Try.results17 (rd_t st rfl) ?_
    exact ⟨by simp [h1], st.ex0⟩
  · by_cases h2 : 1048576 < m
    · (repeat' (first | refine c_seq ?_  | refine c_region ?_  | refine l_do ?_  | refine l_doG st rfl rfl ?_  | ((first | refine l_skip st rfl rfl rfl rfl ?_); clear st; intro _ st)  | refine l_nil ?_  | refine x_then ?_  | refine wp_ret ?_  | ((first | refine o_move st rfl rfl ?_  | refine o_assign st rfl rfl ?_  | refine o_pickT st rfl rfl rfl ?_  | refine o_pickF st rfl rfl rfl ?_  | refine o_len st rfl rfl ?_); clear st; intro _ st)  | (refine o_gtr st rfl rfl rfl ?_ ?_ <;> clear st <;> intro _ _ st <;> (try (exfalso; omega)))))
      refine post1 st Try.results17 (rd_t st rfl) ?_
      exact ⟨by simp [h2], st.ex0⟩
    · (repeat' (first | refine c_seq ?_  | refine c_region ?_  | refine l_do ?_  | refine l_doG st rfl rfl ?_  | ((first | refine l_skip st rfl rfl rfl rfl ?_); clear st; intro _ st)  | refine l_nil ?_  | refine x_then ?_  | refine wp_ret ?_  | ((first | refine o_move st rfl rfl ?_  | refine o_assign st rfl rfl ?_  | refine o_pickT st rfl rfl rfl ?_  | refine o_pickF st rfl rfl rfl ?_  | refine o_len st rfl rfl ?_); clear st; intro _ st)  | (refine o_gtr st rfl rfl rfl ?_ ?_ <;> clear st <;> intro _ _ st <;> (try (exfalso; omega)))))
      refine post1 st Try.results17 (rd_t st rfl) ?_
      exact ⟨by simp [h1, h2], st.ex0⟩
theorem b10At_ok (cs : List Int) (hok : okB cs) (hlen : cs.length ≤ 1000000000) (base : Option Addr) (cap k : Nat) (hk : k ≤ 1000000000) (n : Int) (h1 : 1 < n) (w : World) (hr : RdB w base cs) : CR Try.prog 18 [.slice base cs.length cap, .int .i64 k, .int .i64 n] w fun v => ∃ x : Nat, v = .int .i64 x ∧ (x : Int) < n := by
  refine enter Try.func18 rfl rfl rfl rfl ?_
  intro a st
  by_cases hlt : k < cs.length
  · rcases id hr with rfl | ⟨blk, off, arr, t, fr, rfl, hw, h3⟩
    · simp at hlt
    have st := st.addOld hw
    have hv := h3 k _ (List.getElem?_eq_getElem hlt)
    have hc := hok _ (List.getElem_mem hlt)
    obtain ⟨c, hcc⟩ : ∃ c : Nat, cs[k] = (c : Int) := ⟨cs[k].toNat, by omega⟩
    rw [hcc] at hv hc
    have e1 : off + k = off + ((k : Nat) : Int).toNat * 1 := by simp
    rw [e1] at hv
    have ew : IntKind.i64.wrap ((c : Nat) : Int) = (c : Int) := by rw [IntKind.wrap_i64]; omega
    (repeat' (first | (refine o_indexAddr st rfl rfl (by omega) (by omega) rfl ?_; clear st; intro _ st)  | (refine o_loadS st rfl (by repeat constructor) hv rfl ?_; clear st; intro _ st)  | (refine o_intInt st rfl ew rfl ?_; clear st; intro _ st)  | (refine o_rem64I st rfl rfl (by omega) rfl ?_; clear st; intro r _ hr' st)  | refine c_seq ?_  | refine c_region ?_  | refine l_do ?_  | refine l_nil ?_  | refine x_then ?_  | refine x_thenR ?_  | refine wp_ret ?_  | refine wp_skip ?_  | refine c_condT st rfl ?_  | refine c_condF st rfl ?_  | ((first | refine o_move st rfl rfl ?_  | refine o_assign st rfl rfl ?_  | refine o_loadS st rfl (by repeat constructor) rfl rfl ?_  | refine o_len st rfl rfl ?_  | refine o_add64 st rfl rfl rfl (by omega) (by omega) ?_ ); clear st; intro _ st)  | ((first | refine o_lss st rfl rfl rfl ?_ ?_  | refine o_leq st rfl rfl rfl ?_ ?_) <;> clear st <;> intro _ _ st <;> (try (exfalso; omega)))))
    refine post1 st Try.results18 (rd_t st rfl) ?_
    exact ⟨_, rfl, ⟨r, rfl, hr'⟩, st.ex0⟩
  · (repeat' (first | (refine o_mul64 st rfl rfl rfl (by omega) (by omega) ?_; clear st; intro _ st)  | refine c_seq ?_  | refine c_region ?_  | refine l_do ?_  | refine l_nil ?_  | refine x_then ?_  | refine x_thenR ?_  | refine wp_ret ?_  | refine wp_skip ?_  | refine c_condT st rfl ?_  | refine c_condF st rfl ?_  | ((first | refine o_move st rfl rfl ?_  | refine o_assign st rfl rfl ?_  | refine o_loadS st rfl (by repeat constructor) rfl rfl ?_  | refine o_len st rfl rfl ?_  | refine o_add64 st rfl rfl rfl (by omega) (by omega) ?_ ); clear st; intro _ st)  | ((first | refine o_lss st rfl rfl rfl ?_ ?_  | refine o_leq st rfl rfl rfl ?_ ?_) <;> clear st <;> intro _ _ st <;> (try (exfalso; omega)))))
    have e1 : (k : Int) * 37 + 11 = ((k * 37 + 11 : Nat) : Int) := by omega
    rw [e1] at st
    (repeat' (first | (refine o_rem64I st rfl rfl (by omega) rfl ?_; clear st; intro r _ hr' st)  | refine c_seq ?_  | refine c_region ?_  | refine l_do ?_  | refine l_nil ?_  | refine x_then ?_  | refine x_thenR ?_  | refine wp_ret ?_  | refine wp_skip ?_  | refine c_condT st rfl ?_  | refine c_condF st rfl ?_  | ((first | refine o_move st rfl rfl ?_  | refine o_assign st rfl rfl ?_  | refine o_loadS st rfl (by repeat constructor) rfl rfl ?_  | refine o_len st rfl rfl ?_  | refine o_add64 st rfl rfl rfl (by omega) (by omega) ?_ ); clear st; intro _ st)  | ((first | refine o_lss st rfl rfl rfl ?_ ?_  | refine o_leq st rfl rfl rfl ?_ ?_) <;> clear st <;> intro _ _ st <;> (try (exfalso; omega)))))
    refine post1 st Try.results18 (rd_t st rfl) ?_
    exact ⟨_, rfl, ⟨r, rfl, hr'⟩, st.ex0⟩
theorem b10Gap_ok (x y r : Nat) (h : gapW x y = some r) (hx : Is .f64 x (some x)) (hy : Is .f64 y (some y)) (w : World) : CV Try.prog 27 [.float .f64 x, .float .f64 y] w (.float .f64 r) := by
  unfold gapW at h
  refine enter Try.func27 rfl rfl rfl rfl ?_
  intro a st
  by_cases hb : fltB .f64 (some x) (some y) = true
  · rw [if_pos hb] at h
    (repeat' (first | (refine o_flssW st rfl rfl hx hy hb rfl ?_; clear st; intro _ st)  | (refine o_fopK st rfl rfl h rfl ?_; clear st; intro _ st)  | refine c_seq ?_  | refine c_region ?_  | refine l_do ?_  | refine l_nil ?_  | refine x_then ?_  | refine x_thenR ?_  | refine wp_ret ?_  | refine wp_skip ?_  | refine c_condT st rfl ?_  | refine c_condF st rfl ?_  | ((first | refine o_move st rfl rfl ?_  | refine o_assign st rfl rfl ?_); clear st; intro _ st) ))
    refine post1 st Try.results27 (rd_t st rfl) ?_
    exact ⟨rfl, st.ex0⟩
  · rw [if_neg hb] at h
    rw [Bool.not_eq_true] at hb
    (repeat' (first | (refine o_flssW st rfl rfl hx hy hb rfl ?_; clear st; intro _ st)  | (refine o_fopK st rfl rfl h rfl ?_; clear st; intro _ st)  | refine c_seq ?_  | refine c_region ?_  | refine l_do ?_  | refine l_nil ?_  | refine x_then ?_  | refine x_thenR ?_  | refine wp_ret ?_  | refine wp_skip ?_  | refine c_condT st rfl ?_  | refine c_condF st rfl ?_  | ((first | refine o_move st rfl rfl ?_  | refine o_assign st rfl rfl ?_); clear st; intro _ st) ))
    refine post1 st Try.results27 (rd_t st rfl) ?_
    exact ⟨rfl, st.ex0⟩
theorem minus_ok (a b r : Nat × Nat) (h : minusW a b = some r) (w : World) : CV Try.prog 61 [.complex .f32 a.1 a.2, .complex .f32 b.1 b.2] w (.complex .f32 r.1 r.2) := by
  obtain ⟨u, hu, h⟩ := ob h
  obtain ⟨v, hv, h⟩ := ob h
  obtain rfl := Option.some.inj h
  refine enter Try.func61 rfl rfl rfl rfl ?_
  intro y st
  (repeat' (first | (refine o_real st rfl rfl ?_; clear st; intro _ st)  | (refine o_imag st rfl rfl ?_; clear st; intro _ st)  | (refine o_complex st rfl rfl rfl ?_; clear st; intro _ st)  | (refine o_fopK st rfl rfl hu rfl ?_; clear st; intro _ st)  | (refine o_fopK st rfl rfl hv rfl ?_; clear st; intro _ st)  | refine c_seq ?_  | refine c_region ?_  | refine l_do ?_  | refine l_nil ?_  | refine x_then ?_  | refine wp_ret ?_  | ((first | refine o_move st rfl rfl ?_  | refine o_assign st rfl rfl ?_); clear st; intro _ st) ))
  refine post1 st Try.results61 (rd_t st rfl) ?_
  exact ⟨rfl, st.ex0⟩
theorem SLongOf_ok (u v r : Nat) (h : longW u v = some r) (w : World) : CV Try.prog 31 [.complex .f32 u v] w (.float .f32 r) := by
  obtain ⟨x, hx, h⟩ := ob h
  obtain ⟨y, hy, h⟩ := ob h
  obtain ⟨p, hp, h⟩ := ob h
  obtain ⟨q, hq, h⟩ := ob h
  obtain ⟨s, hs, h⟩ := ob h
  obtain ⟨z, hz, h⟩ := ob h
  have c1 : ∀ w, CV Try.prog 117 [.complex .f32 u v] w (.float .f64 s) := by
    intro w
    refine enter Try.func117 rfl rfl rfl rfl ?_
    intro a st
    (repeat' (first | (refine o_real st rfl rfl ?_; clear st; intro _ st)  | (refine o_imag st rfl rfl ?_; clear st; intro _ st)  | (refine o_fcvW st rfl hx rfl ?_; clear st; intro _ st)  | (refine o_fcvW st rfl hy rfl ?_; clear st; intro _ st)  | (refine o_fopK st rfl rfl hp rfl ?_; clear st; intro _ st)  | (refine o_fopK st rfl rfl hq rfl ?_; clear st; intro _ st)  | (refine o_fopK st rfl rfl hs rfl ?_; clear st; intro _ st)  | refine c_seq ?_  | refine c_region ?_  | refine l_do ?_  | refine l_nil ?_  | refine x_then ?_  | refine wp_ret ?_  | ((first | refine o_move st rfl rfl ?_  | refine o_assign st rfl rfl ?_); clear st; intro _ st) ))
    refine post1 st Try.results117 (rd_t st rfl) ?_
    exact ⟨rfl, st.ex0⟩
  have c2 : ∀ w, CV Try.prog 109 [.float .f64 z] w (.float .f32 r) := by
    intro w
    refine enter Try.func109 rfl rfl rfl rfl ?_
    intro a st
    (repeat' (first | (refine o_fcvW st rfl h rfl ?_; clear st; intro _ st)  | refine c_seq ?_  | refine c_region ?_  | refine l_do ?_  | refine l_nil ?_  | refine x_then ?_  | refine wp_ret ?_  | ((first | refine o_move st rfl rfl ?_  | refine o_assign st rfl rfl ?_ ); clear st; intro _ st)))
    refine post1 st Try.results109 (rd_t st rfl) ?_
    exact ⟨rfl, st.ex0⟩
  have c3 : ∀ w, CV Try.prog 80 [.complex .f32 u v] w (.float .f32 r) := by
    intro w
    refine enter Try.func80 rfl rfl rfl rfl ?_
    intro a st
    (repeat' (first | (refine o_callV st rfl (c1 _) rfl ?_; clear st; intro _ _ st)  | (refine o_callV st rfl (Sqrt_ok _ _ hz _) rfl ?_; clear st; intro _ _ st)  | (refine o_callV st rfl (c2 _) rfl ?_; clear st; intro _ _ st)  | refine c_seq ?_  | refine c_region ?_  | refine l_do ?_  | refine l_nil ?_  | refine x_then ?_  | refine wp_ret ?_  | ((first | refine o_move st rfl rfl ?_  | refine o_assign st rfl rfl ?_); clear st; intro _ st)))
    refine post1 st Try.results80 (rd_t st rfl) ?_
    exact ⟨rfl, st.ex0⟩
  refine enter Try.func31 rfl rfl rfl rfl ?_
  intro a st
  (repeat' (first | (refine o_callV st rfl (c3 _) rfl ?_; clear st; intro _ _ st)  | refine c_seq ?_  | refine c_region ?_  | refine l_do ?_  | refine l_nil ?_  | refine x_then ?_  | refine wp_ret ?_  | ((first | refine o_move st rfl rfl ?_  | refine o_assign st rfl rfl ?_); clear st; intro _ st)))
  refine post1 st Try.results31 (rd_t st rfl) ?_
  exact ⟨rfl, st.ex0⟩
theorem arePieces_ok (n : Nat) (h1 : 1 ≤ n) (h2 : n ≤ 64) (w : World) : CV Try.prog 90 [.int .i64 n] w (.bool true) := by
  have c1 : ∀ w, CV Try.prog 93 [.int .i64 n, .int .i64 1, .int .i64 64] w (.bool true) := by
    intro w
    refine enter Try.func93 rfl rfl rfl rfl ?_
    intro a st
    (repeat' (first | refine c_seq ?_  | refine c_region ?_  | refine l_do ?_  | refine l_doG st rfl rfl ?_  | refine l_nil ?_  | refine x_then ?_  | refine wp_ret ?_  | ((first | refine o_move st rfl rfl ?_  | refine o_assign st rfl rfl ?_  | refine o_pickT st rfl rfl rfl ?_ ); clear st; intro _ st)  | ((first | refine o_leq st rfl rfl rfl ?_ ?_  | refine o_geq st rfl rfl rfl ?_ ?_) <;> clear st <;> intro _ _ st <;> (try (exfalso; omega)))))
    refine post1 st Try.results93 (rd_t st rfl) ?_
    exact ⟨rfl, st.ex0⟩
  refine enter Try.func90 rfl rfl rfl rfl ?_
  intro a st
  (repeat' (first | (refine o_callV st rfl (c1 _) rfl ?_; clear st; intro _ _ st)  | refine c_seq ?_  | refine c_region ?_  | refine l_do ?_  | refine l_nil ?_  | refine x_then ?_  | refine wp_ret ?_  | ((first | refine o_move st rfl rfl ?_  | refine o_assign st rfl rfl ?_); clear st; intro _ st)))
  refine post1 st Try.results90 (rd_t st rfl) ?_
  exact ⟨rfl, st.ex0⟩
theorem pieceTimes_ok (n : Nat) (ts : List Nat) (hl : ts.length = n + 1) (h64 : n ≤ 64) (h : ∀ k (hk : k < ts.length), shareW (k : Nat) (n : Nat) = some ts[k]) (w : World) : CM1 Try.prog 77 [.int .i64 n] w fun v b o => ∃ cap pad, v = .slice (some ⟨b, 0, none⟩) (n + 1) cap ∧ o = oV 29 (ts.map vF) pad := by
  refine enter Try.func77 rfl rfl rfl rfl ?_
  intro a st
  (repeat' (first | (refine o_buildSlice0 st rfl ?_; clear st; intro blk0 _ _ st)  | refine c_seq ?_  | refine c_region ?_  | refine l_do ?_  | refine l_nil ?_  | refine x_then ?_  | refine x_thenE ?_  | refine x_blkN ?_  | refine x_blkE ?_  | refine wp_ret ?_  | refine wp_skip ?_  | refine wp_block ?_  | refine wp_exit ?_  | refine c_condT st rfl ?_  | refine c_condF st rfl ?_  | ((first | refine o_move st rfl rfl ?_  | refine o_assign st rfl rfl ?_  | refine o_add64 st rfl rfl rfl (by omega) (by omega) ?_); clear st; intro _ st)  | ((first | refine o_intFloat st rfl rfl ?_); clear st; intro _ st)  | (refine o_lss st rfl rfl rfl ?_ ?_ <;> clear st <;> intro _ _ st <;> (try (exfalso; omega)))))
  refine wp_loop_ghost (fun z a w' => ∃ (k blk cp : Nat) (pad : List Value), k ≤ n + 1 ∧ z = n + 1 - k ∧ ((ts.take k).map vF ++ pad).length = cp ∧ St w Try.f77.ntmps a w' [(0, .int .i64 n), (3, .slice (some ⟨blk, 0, none⟩) k cp), (7, .int .i64 ((n : Int) + 1)), (8, .int .i64 (k : Nat))] (⟨blk, true, oV 29 ((ts.take k).map vF) pad⟩ :: [])) (n + 1) ⟨0, blk0, 0, [], by omega, by omega, rfl, (st.fit (by repeat (first | exact trivial  | refine And.intro rfl ?_))).subL (by repeat (first | exact List.Sublist.refl _  | apply List.Sublist.cons_cons  | apply List.Sublist.cons  | exact List.nil_sublist _))⟩ ?_
  clear st
  rintro z a w' ⟨k, blk, cp, pad, hk, rfl, hp, st⟩
  have hlk : ((ts.take k).map vF).length = k := by rw [List.length_map, List.length_take]; omega
  by_cases hlt : k < n + 1
  · have hq := h k (by omega)
    unfold shareW at hq
    (repeat' (first | (refine o_fopK st rfl rfl hq rfl ?_; clear st; intro _ st)  | (refine o_buildSlice st rfl rfl rfl rfl rfl rfl ?_; clear st; intro _ _ _ st)  | (refine o_append1V rfl st rfl rfl (by repeat constructor) (by repeat constructor) hlk hp rfl (by omega) rfl ?_; clear st; intro blk1 cap1 pad1 _ _ hp1 st)  | refine c_seq ?_  | refine c_region ?_  | refine l_do ?_  | refine l_nil ?_  | refine x_then ?_  | refine x_thenE ?_  | refine x_blkN ?_  | refine x_blkE ?_  | refine wp_ret ?_  | refine wp_skip ?_  | refine wp_block ?_  | refine wp_exit ?_  | refine c_condT st rfl ?_  | refine c_condF st rfl ?_  | ((first | refine o_move st rfl rfl ?_  | refine o_assign st rfl rfl ?_  | refine o_add64 st rfl rfl rfl (by omega) (by omega) ?_); clear st; intro _ st)  | ((first | refine o_intFloat st rfl rfl ?_); clear st; intro _ st)  | (refine o_lss st rfl rfl rfl ?_ ?_ <;> clear st <;> intro _ _ st <;> (try (exfalso; omega)))))
    have e1 : (ts.take k).map vF ++ [vF ts[k]] = (ts.take (k + 1)).map vF := by rw [List.take_succ_eq_append_getElem (by omega), List.map_append]; rfl
    refine ⟨n + 1 - (k + 1), by omega, k + 1, blk1, cap1, pad1, by omega, rfl, by rw [← e1]; exact hp1, ?_⟩
    rw [← e1]
    exact (st.fit (by repeat (first | exact trivial  | refine And.intro rfl ?_))).subL (by repeat (first | exact List.Sublist.refl _  | apply List.Sublist.cons_cons  | apply List.Sublist.cons  | exact List.nil_sublist _))
  · obtain rfl : k = n + 1 := by omega
    rw [← hl, List.take_length] at st
    (repeat' (first | refine c_seq ?_  | refine c_region ?_  | refine l_do ?_  | refine l_nil ?_  | refine x_then ?_  | refine x_thenE ?_  | refine x_blkN ?_  | refine x_blkE ?_  | refine wp_ret ?_  | refine wp_skip ?_  | refine wp_block ?_  | refine wp_exit ?_  | refine c_condT st rfl ?_  | refine c_condF st rfl ?_  | ((first | refine o_move st rfl rfl ?_  | refine o_assign st rfl rfl ?_  | refine o_add64 st rfl rfl rfl (by omega) (by omega) ?_); clear st; intro _ st)  | ((first | refine o_intFloat st rfl rfl ?_); clear st; intro _ st)  | (refine o_lss st rfl rfl rfl ?_ ?_ <;> clear st <;> intro _ _ st <;> (try (exfalso; omega)))))
    refine post1 st Try.results77 (rd_t st rfl) ?_
    exact ⟨_, blk, _, rfl, ⟨cp, pad, by rw [hl], rfl⟩, st.ex1 (by repeat constructor)⟩
theorem ifPoints_ok (ks : List Kn) (hk : ∀ k ∈ ks, Gd k.1 ∧ Gd k.2.1) (base : Option Addr) (cap : Nat) (hl : ks.length ≤ 1000000) (w : World) (hr : RdV w base (ks.map vPt)) : CV Try.prog 114 [.slice base ks.length cap] w (.tuple #[.slice base ks.length cap, .bool true]) := by
  have c3 := fun w hp => arePoints_ok (ks.map vPt) (by
    intro v hv w
    obtain ⟨k, hk', rfl⟩ := List.mem_map.1 hv
    exact arePoints1_ok (k.1, k.2.1) (hk k hk').1 (hk k hk').2 w) base cap (by rw [List.length_map]; omega) w hp
  rw [List.length_map] at c3
  refine enter Try.func114 rfl rfl rfl rfl ?_
  intro a st
  (repeat' (first | (refine o_callV st rfl (c3 _ (hr.mono st.below)) rfl ?_; clear st; intro _ _ st)  | refine c_seq ?_  | refine c_region ?_  | refine l_do ?_  | refine l_nil ?_  | refine x_then ?_  | refine wp_ret ?_  | refine wp_skip ?_  | refine c_condF st rfl ?_  | ((first | refine o_move st rfl rfl ?_  | refine o_assign st rfl rfl ?_  | refine o_notT st rfl rfl ?_ ); clear st; intro _ st)))
  refine post2 st Try.results114 (rd_t st rfl) (rd_t st rfl) ?_
  exact ⟨rfl, st.ex0⟩
theorem pointsAt_ok (c : List Kn) (hg : GC c) (n : Nat) (ts : List Nat) (ks : List Kn) (h1 : 1 ≤ n) (h64 : n ≤ 64) (hl : ts.length = n + 1) (hl' : ks.length = n + 1) (ht : ∀ k (hk : k < ts.length), shareW (k : Nat) (n : Nat) = some ts[k]) (hk : ∀ k (h : k < ts.length) (h' : k < ks.length), atK (c.length - 1) c ts[k] = some ks[k]) (hgd : ∀ k ∈ ks, Gd k.1 ∧ Gd k.2.1) (v : Value) (w : World) (hv : CrV w c v) :
    CM1 Try.prog 71 [v, .int .i64 n] w fun v b o => ∃ cap pad, v = .tuple #[.slice (some ⟨b, 0, none⟩) (n + 1) cap, .bool true] ∧ o = oV 31 (ks.map vPt) pad := by
  have h0 := hg.lo
  have h8 := hg.hi
  have c1 := fun w hv => ValidCurve_ok c v hg w hv
  have c2 := fun w => arePieces_ok n h1 h64 w
  have c3 := fun w => pieceTimes_ok n ts hl h64 ht w
  have c5 := fun base cap w hr => ifPoints_ok ks hgd base cap (by omega) w hr
  rw [hl'] at c5
  have hv0 := hv
  obtain ⟨x, rfl, hx, h3, h4⟩ := hv.get (by omega)
  refine enter Try.func71 rfl rfl rfl rfl ?_
  intro a st
  (repeat' (first | (refine o_callV st rfl (c1 _ (hv0.mono st.below)) rfl ?_; clear st; intro _ _ st)  | (refine o_callV st rfl (c2 _) rfl ?_; clear st; intro _ _ st)  | (refine o_buildSlice0 st rfl ?_; clear st; intro blk0 _ _ st)  | (refine o_callM1 st rfl (c3 _) rfl ?_; clear st; rintro _ bt _ ⟨capt, padt, rfl, rfl⟩ _ _ st)  | (refine o_boxA (d := 2) st rfl rfl ?_; clear st; intro p2 _ _ st)  | refine c_seq ?_  | refine c_region ?_  | refine l_do ?_  | refine l_doG st rfl rfl ?_  | refine l_nil ?_  | refine x_then ?_  | refine x_thenE ?_  | refine x_blkN ?_  | refine x_blkE ?_  | refine wp_ret ?_  | refine wp_skip ?_  | refine wp_block ?_  | refine wp_exit ?_  | refine c_condT st rfl ?_  | refine c_condF st rfl ?_  | ((first | refine o_move st rfl rfl ?_  | refine o_assign st rfl rfl ?_  | refine o_pickF st rfl rfl rfl ?_); clear st; intro _ st)  | ((first | refine o_boxA st rfl rfl ?_ ); clear st; intro _ _ _ st)  | ((first | refine o_loadS st rfl (by repeat constructor) rfl rfl ?_  | refine o_load2 st rfl (by repeat constructor) rfl ?_  | refine o_extract st rfl rfl rfl ?_  | refine o_len st rfl rfl ?_  | refine o_add64 st rfl rfl rfl (by omega) (by omega) ?_  | refine o_notT st rfl rfl ?_ ); clear st; intro _ st)  | (refine o_lss st rfl rfl rfl ?_ ?_ <;> clear st <;> intro _ _ st <;> (try (exfalso; omega)))))
  refine wp_loop_ghost (fun z a w' => ∃ (k blk cp : Nat) (pad : List Value), k ≤ n + 1 ∧ z = n + 1 - k ∧ ((ks.take k).map vPt ++ pad).length = cp ∧ St w Try.f71.ntmps a w' [(2, .pointer (some ⟨p2, 0, none⟩)), (6, .slice (some ⟨blk, 0, none⟩) k cp), (19, .slice (some ⟨bt, 0, none⟩) (n + 1) capt), (20, .int .i64 ((n + 1 : Nat) : Int)), (21, .int .i64 (k : Nat))] (⟨blk, true, oV 31 ((ks.take k).map vPt) pad⟩ :: ⟨bt, true, oV 29 (ts.map vF) padt⟩ :: eP p2 (.slice (some ⟨x.b1, x.o1, none⟩) c.length x.cp) (.slice (some ⟨x.b2, x.o2, none⟩) c.length x.cw) :: [])) (n + 1) ⟨0, blk0, 0, [], by omega, by omega, rfl, ?_⟩ ?_
  · have st : St w _ _ _ _ (⟨bt, true, oV 29 (ts.map vF) padt⟩ :: ⟨blk0, true, oV 31 ((ks.take 0).map vPt) []⟩ :: eP p2 _ _ :: []) := st.subL (by repeat (first | exact List.Sublist.refl _  | apply List.Sublist.cons_cons  | apply List.Sublist.cons  | exact List.nil_sublist _))
    exact st.swap2.fit (by repeat (first | exact trivial  | refine And.intro rfl ?_))
  clear st
  rintro z a w' ⟨k, blk, cp, pad, hkn, rfl, hp, st⟩
  have hlk : ((ks.take k).map vPt).length = k := by rw [List.length_map, List.length_take]; omega
  by_cases hlt : k < n + 1
  · have c4 := fun v w hv => at_ok c ts[k] ks[k] (hk k (by omega) (by omega)) (by omega) (by omega) v w hv
    have g1 : (ts.map vF ++ padt).toArray[0 + ((k : Nat) : Int).toNat * 1]? = some (vF ts[k]) := by
      have := oV_get (pad := padt) (vs := ts.map vF) (k := k) (by rw [List.length_map]; omega)
      rw [this, List.getElem_map]
    (repeat' (first | (refine o_indexAddr st rfl rfl (by omega) (by omega) rfl ?_; clear st; intro _ st)  | (refine o_loadS st rfl (by repeat constructor) g1 rfl ?_; clear st; intro _ st)  | (refine o_callV st rfl (c4 _ _ (hv0.mono st.below)) rfl ?_; clear st; intro _ _ st)  | (refine o_buildSlice st rfl rfl rfl rfl rfl rfl ?_; clear st; intro _ _ _ st)  | (refine o_append1V rfl st rfl rfl (by repeat constructor) (by repeat constructor) hlk hp rfl (by omega) rfl ?_; clear st; intro blk1 cap1 pad1 _ _ hp1 st)  | refine c_seq ?_  | refine c_region ?_  | refine l_do ?_  | refine l_doG st rfl rfl ?_  | refine l_nil ?_  | refine x_then ?_  | refine x_thenE ?_  | refine x_blkN ?_  | refine x_blkE ?_  | refine wp_ret ?_  | refine wp_skip ?_  | refine wp_block ?_  | refine wp_exit ?_  | refine c_condT st rfl ?_  | refine c_condF st rfl ?_  | ((first | refine o_move st rfl rfl ?_  | refine o_assign st rfl rfl ?_  | refine o_pickF st rfl rfl rfl ?_); clear st; intro _ st)  | ((first | refine o_boxA st rfl rfl ?_ ); clear st; intro _ _ _ st)  | ((first | refine o_loadS st rfl (by repeat constructor) rfl rfl ?_  | refine o_load2 st rfl (by repeat constructor) rfl ?_  | refine o_extract st rfl rfl rfl ?_  | refine o_len st rfl rfl ?_  | refine o_add64 st rfl rfl rfl (by omega) (by omega) ?_  | refine o_notT st rfl rfl ?_ ); clear st; intro _ st)  | (refine o_lss st rfl rfl rfl ?_ ?_ <;> clear st <;> intro _ _ st <;> (try (exfalso; omega)))))
    have e1 := take_map_one (c' := ks) (f := vPt) (i := k) (by omega)
    refine ⟨n + 1 - (k + 1), by omega, k + 1, blk1, cap1, pad1, by omega, rfl, by rw [← e1]; exact hp1, ?_⟩
    rw [← e1]
    exact (st.fit (by repeat (first | exact trivial  | refine And.intro rfl ?_))).subL (by repeat (first | exact List.Sublist.refl _  | apply List.Sublist.cons_cons  | apply List.Sublist.cons  | exact List.nil_sublist _))
  · obtain rfl : k = n + 1 := by omega
    rw [← hl', List.take_length, hl'] at st
    (repeat' (first | (refine o_callV st rfl (c5 _ _ _ (RdV.of (st.heap (by repeat constructor)))) rfl ?_; clear st; intro _ _ st)  | refine c_seq ?_  | refine c_region ?_  | refine l_do ?_  | refine l_doG st rfl rfl ?_  | refine l_nil ?_  | refine x_then ?_  | refine x_thenE ?_  | refine x_blkN ?_  | refine x_blkE ?_  | refine wp_ret ?_  | refine wp_skip ?_  | refine wp_block ?_  | refine wp_exit ?_  | refine c_condT st rfl ?_  | refine c_condF st rfl ?_  | ((first | refine o_move st rfl rfl ?_  | refine o_assign st rfl rfl ?_  | refine o_pickF st rfl rfl rfl ?_); clear st; intro _ st)  | ((first | refine o_boxA st rfl rfl ?_ ); clear st; intro _ _ _ st)  | ((first | refine o_loadS st rfl (by repeat constructor) rfl rfl ?_  | refine o_load2 st rfl (by repeat constructor) rfl ?_  | refine o_extract st rfl rfl rfl ?_  | refine o_len st rfl rfl ?_  | refine o_add64 st rfl rfl rfl (by omega) (by omega) ?_  | refine o_notT st rfl rfl ?_ ); clear st; intro _ st)  | (refine o_lss st rfl rfl rfl ?_ ?_ <;> clear st <;> intro _ _ st <;> (try (exfalso; omega)))))
    refine post2 st Try.results71 (rd_t st rfl) (rd_t st rfl) ?_
    exact ⟨_, blk, _, rfl, ⟨cp, pad, rfl, rfl⟩, st.ex1 (by repeat constructor)⟩
end Go.Proofs.Ytonbcbhnnflohaa

namespace Go.Proofs.Ytonbcbhnnflohaa
open Go.RowKit
section
variable {P : Program} {w0 w : World} {N : Nat} {a : Act} {E : List (Nat × Value)} {L Lh : List Ent} {K : Act → World → Prop} {Q : Exit → Act → World → Prop}
variable {d : Nat} {ty : TypeId} {pos : String} {aft : Array Edge} {g : Option (Nat × Bool)}
/-- A function value with captured variables, and its call. -/
theorem o_makeFunc {fn : Fn} {xs : List Operand} {vs : List Value} (st : St w0 N a w E L) (hx : evs E xs = some vs) (hd : Nat.blt d N = true)
    (h : ∀ a', St w0 N a' w ((d, .func fn #[] vs.toArray) :: E) L → K a' w) : Oper.wp P ⟨some d, .makeFunc fn #[] xs.toArray, ty, pos, aft, g⟩ a w K Q := by
  refine o_val (v := .func fn #[] vs.toArray) (w' := w) ?_ (h _ (st.put d hd _))
  simp [execOp, Instr.makeFunc, evs_map st hx]
end
attribute [local irreducible] Code.wp wpList Oper.wp Calls bodyPost Exit.then Exit.inBlock

end Go.Proofs.Ytonbcbhnnflohaa

namespace Go.Proofs.Ytonbcbhnnflohaa
open Go.RowKit

attribute [local irreducible] Code.wp wpList Oper.wp Calls bodyPost Exit.then Exit.inBlock

end Go.Proofs.Ytonbcbhnnflohaa

namespace Go.Proofs.Ytonbcbhnnflohaa
open Go.RowKit
attribute [local irreducible] Code.wp wpList Oper.wp Calls bodyPost Exit.then Exit.inBlock

/-- The points of a curve. -/
structure PtsOk (c : List Kn) (n : Nat) (ts : List Nat) (ks : List Kn) : Prop where
  gc : GC c
  h1 : 1 ≤ n
  h64 : n ≤ 64
  lt : ts.length = n + 1
  lk : ks.length = n + 1
  ht : ∀ k (hk : k < ts.length), shareW (k : Nat) (n : Nat) = some ts[k]
  hk : ∀ k (_ : k < ts.length) (_ : k < ks.length), atK (c.length - 1) c ts[k] = some ks[k]
  hgd : ∀ k ∈ ks, Gd k.1 ∧ Gd k.2.1
end Go.Proofs.Ytonbcbhnnflohaa

namespace Go.Proofs.Ytonbcbhnnflohaa
open Go.RowKit

end Go.Proofs.Ytonbcbhnnflohaa

namespace Go.Proofs.Ytonbcbhnnflohaa
open Go.RowKit

/-- Any time from 0 to 1. -/
structure T01 (t : Nat) : Prop where
  g : G t
  i : Is .f32 t (some t)
  h0 : 0 ≤ rF t
  h1 : rF t ≤ 1
theorem T01.Tm {t : Nat} (h : T01 t) : Tm t := by
  have hg0 : Fin .f32 (some 0) := G0
  have hg1 : Fin .f32 (some 1065353216) := G1
  have hg : Fin .f32 (some t) := h.g
  refine ⟨h.i, ?_, ?_⟩
  · rw [fge_iff hg hg0, cv0]
    exact decide_eq_true h.h0
  · rw [fle_iff hg hg1]
    refine decide_eq_true ?_
    show rF t ≤ rF 1065353216
    rw [one3]
    exact h.h1
/-! ## lengths -/
/-- The difference of a number and itself. -/
theorem sub_self {k : FloatKind} {x : Nat} (h : Fin k (some x)) : fop .sub k (some x) (some x) = some 0 := by
  obtain ⟨s, m, p, hr⟩ := fin_read h
  have e : fop .sub k (some x) (some x) = (Ieee.Datum.sum (.number s m p) (.number (!s) m p)).map k.format.write := by
    show (Ieee.Datum.sum (k.format.read x) (k.format.read x).opposite).map _ = _
    rw [hr]
    rfl
  rw [e]
  have z1 : (m : Int) + -(m : Int) = 0 := by omega
  have z2 : -(m : Int) + (m : Int) = 0 := by omega
  have e2 : Ieee.Datum.sum (.number s m p) (.number (!s) m p) = some (.number false 0 p) := by
    cases s <;> simp [Ieee.Datum.sum, Ieee.signed, z1, z2]
  rw [e2]
  cases k <;> (show some (Ieee.Format.write _ (.number false 0 p)) = some 0; simp [Ieee.Format.write, Ieee.Format.nearest]; decide +kernel)
end Go.Proofs.Ytonbcbhnnflohaa
