/-
  FnCurves: lists that are searched in vain; curves that are valid.
-/
import Derived.Test.YtonbcbhnnflohaaYb
namespace Go.Proofs.Ytonbcbhnnflohaa
open Go.RowKit
attribute [local irreducible] Code.wp wpList Oper.wp Calls bodyPost Exit.then Exit.inBlock

theorem indexFuncP_ok (vs : List Value) (hc : ∀ v ∈ vs, ∀ w, CV Try.prog 124 [v] w (.bool false)) (base : Option Addr) (cap : Nat) (hl : vs.length ≤ 1000000) (w : World) (hr : RdV w base vs) :
    CV Try.prog 136 [.slice base vs.length cap, .func (.func 124) #[] #[]] w (.int .i64 (-1)) := by
  refine enter Try.func136 rfl rfl rfl rfl ?_
  intro a st
  (repeat' (first | refine c_seq ?_ | refine c_region ?_ | refine l_do ?_ | refine l_nil ?_ | refine x_then ?_ | refine x_thenR ?_ | refine x_thenE ?_ | refine x_blkN ?_ | refine x_blkR ?_ | refine x_blkE ?_ | refine x_blkO rfl ?_ | refine wp_ret ?_ | refine wp_skip ?_ | refine wp_block ?_ | refine wp_exit ?_ | refine c_condT st rfl ?_ | refine c_condF st rfl ?_ | ((first | refine o_move st rfl rfl ?_ | refine o_assign st rfl rfl ?_ | refine o_loadS st rfl (by repeat constructor) rfl rfl ?_ | refine o_load3 st rfl (by repeat constructor) rfl ?_ | refine o_load2 st rfl (by repeat constructor) rfl ?_ | refine o_load4 st rfl (by repeat constructor) rfl ?_ | refine o_len st rfl rfl ?_ | refine o_add64 st rfl rfl rfl (by omega) (by omega) ?_); clear st; intro _ st) | (refine o_lss st rfl rfl rfl ?_ ?_ <;> clear st <;> intro _ _ st <;> (try (exfalso; omega)))))
  refine wp_loop_ghost (fun n a w' => ∃ k : Nat, k ≤ vs.length ∧ n = vs.length - k ∧ St w Try.f136.ntmps a w' [(0, .slice base vs.length cap), (1, .func (.func 124) #[] #[]), (7, .int .i64 vs.length), (8, .int .i64 k)] []) vs.length ⟨0, by omega, by omega, (st.fit (by repeat (first | exact trivial | refine And.intro rfl ?_))).subL (by repeat (first | exact List.Sublist.refl _ | apply List.Sublist.cons_cons | apply List.Sublist.cons | exact List.nil_sublist _))⟩ ?_
  clear st
  rintro n a w' ⟨k, hk, rfl, st⟩
  by_cases hlt : k < vs.length
  · obtain ⟨blk, off, arr, t, fr, rfl, hw, h3⟩ := hr.get (by intro h; rw [h] at hlt; simp at hlt)
    have st := st.addOld hw
    have hv := h3 k hlt
    have e1 : off + k = off + ((k : Nat) : Int).toNat * 1 := by simp
    rw [e1] at hv
    have c1 := hc vs[k] (List.getElem_mem hlt)
    (repeat' (first | (refine o_indexAddr st rfl rfl (by omega) (by omega) rfl ?_; clear st; intro _ st) | (refine o_loadS st rfl (by repeat constructor) hv rfl ?_; clear st; intro _ st) | (refine o_callF st rfl rfl (c1 _) rfl ?_; clear st; intro _ _ st) | refine c_seq ?_ | refine c_region ?_ | refine l_do ?_ | refine l_nil ?_ | refine x_then ?_ | refine x_thenR ?_ | refine x_thenE ?_ | refine x_blkN ?_ | refine x_blkR ?_ | refine x_blkE ?_ | refine x_blkO rfl ?_ | refine wp_ret ?_ | refine wp_skip ?_ | refine wp_block ?_ | refine wp_exit ?_ | refine c_condT st rfl ?_ | refine c_condF st rfl ?_ | ((first | refine o_move st rfl rfl ?_ | refine o_assign st rfl rfl ?_ | refine o_loadS st rfl (by repeat constructor) rfl rfl ?_ | refine o_load3 st rfl (by repeat constructor) rfl ?_ | refine o_load2 st rfl (by repeat constructor) rfl ?_ | refine o_load4 st rfl (by repeat constructor) rfl ?_ | refine o_len st rfl rfl ?_ | refine o_add64 st rfl rfl rfl (by omega) (by omega) ?_); clear st; intro _ st) | (refine o_lss st rfl rfl rfl ?_ ?_ <;> clear st <;> intro _ _ st <;> (try (exfalso; omega)))))
    exact ⟨vs.length - (k + 1), by omega, k + 1, by omega, rfl, (st.fit (by repeat (first | exact trivial | refine And.intro rfl ?_))).subL (by repeat (first | exact List.Sublist.refl _ | apply List.Sublist.cons_cons | apply List.Sublist.cons | exact List.nil_sublist _))⟩
  · obtain rfl : k = vs.length := by omega
    (repeat' (first | refine c_seq ?_ | refine c_region ?_ | refine l_do ?_ | refine l_nil ?_ | refine x_then ?_ | refine x_thenR ?_ | refine x_thenE ?_ | refine x_blkN ?_ | refine x_blkR ?_ | refine x_blkE ?_ | refine x_blkO rfl ?_ | refine wp_ret ?_ | refine wp_skip ?_ | refine wp_block ?_ | refine wp_exit ?_ | refine c_condT st rfl ?_ | refine c_condF st rfl ?_ | ((first | refine o_move st rfl rfl ?_ | refine o_assign st rfl rfl ?_ | refine o_loadS st rfl (by repeat constructor) rfl rfl ?_ | refine o_load3 st rfl (by repeat constructor) rfl ?_ | refine o_load2 st rfl (by repeat constructor) rfl ?_ | refine o_load4 st rfl (by repeat constructor) rfl ?_ | refine o_len st rfl rfl ?_ | refine o_add64 st rfl rfl rfl (by omega) (by omega) ?_); clear st; intro _ st) | (refine o_lss st rfl rfl rfl ?_ ?_ <;> clear st <;> intro _ _ st <;> (try (exfalso; omega)))))
    refine post1 st Try.results136 (rd_t st rfl) ?_
    exact ⟨rfl, st.ex0⟩
theorem containsFuncP_ok (vs : List Value) (hc : ∀ v ∈ vs, ∀ w, CV Try.prog 124 [v] w (.bool false)) (base : Option Addr) (cap : Nat) (hl : vs.length ≤ 1000000) (w : World) (hr : RdV w base vs) :
    CV Try.prog 123 [.slice base vs.length cap, .func (.func 124) #[] #[]] w (.bool false) := by
  refine enter Try.func123 rfl rfl rfl rfl ?_
  intro a st
  (repeat' (first | (refine o_callV st rfl (indexFuncP_ok vs hc base cap hl _ (hr.mono st.below)) rfl ?_; clear st; intro _ _ st) | refine c_seq ?_ | refine c_region ?_ | refine l_do ?_ | refine l_nil ?_ | refine x_then ?_ | refine x_thenR ?_ | refine x_thenE ?_ | refine wp_ret ?_ | ((first | refine o_move st rfl rfl ?_ | refine o_assign st rfl rfl ?_); clear st; intro _ st) | (refine o_geq st rfl rfl rfl ?_ ?_ <;> clear st <;> intro _ _ st <;> (try (exfalso; omega)))))
  refine post1 st Try.results123 (rd_t st rfl) ?_
  exact ⟨rfl, st.ex0⟩
theorem arePoints_ok (vs : List Value) (hc : ∀ v ∈ vs, ∀ w, CV Try.prog 124 [v] w (.bool false)) (base : Option Addr) (cap : Nat) (hl : vs.length ≤ 1000000) (w : World) (hr : RdV w base vs) :
    CV Try.prog 97 [.slice base vs.length cap] w (.bool true) := by
  refine enter Try.func97 rfl rfl rfl rfl ?_
  intro a st
  (repeat' (first | (refine o_callV st rfl (containsFuncP_ok vs hc base cap hl _ (hr.mono st.below)) rfl ?_; clear st; intro _ _ st) | refine c_seq ?_ | refine c_region ?_ | refine l_do ?_ | refine l_nil ?_ | refine x_then ?_ | refine x_thenR ?_ | refine x_thenE ?_ | refine wp_ret ?_ | ((first | refine o_move st rfl rfl ?_ | refine o_assign st rfl rfl ?_ | refine o_notT st rfl rfl ?_ | refine o_notF st rfl rfl ?_); clear st; intro _ st)))
  refine post1 st Try.results97 (rd_t st rfl) ?_
  exact ⟨rfl, st.ex0⟩

theorem indexFuncW_ok (vs : List Value) (hc : ∀ v ∈ vs, ∀ w, CV Try.prog 120 [v] w (.bool false)) (base : Option Addr) (cap : Nat) (hl : vs.length ≤ 1000000) (w : World) (hr : RdV w base vs) :
    CV Try.prog 133 [.slice base vs.length cap, .func (.func 120) #[] #[]] w (.int .i64 (-1)) := by
  refine enter Try.func133 rfl rfl rfl rfl ?_
  intro a st
  (repeat' (first | refine c_seq ?_ | refine c_region ?_ | refine l_do ?_ | refine l_nil ?_ | refine x_then ?_ | refine x_thenR ?_ | refine x_thenE ?_ | refine x_blkN ?_ | refine x_blkR ?_ | refine x_blkE ?_ | refine x_blkO rfl ?_ | refine wp_ret ?_ | refine wp_skip ?_ | refine wp_block ?_ | refine wp_exit ?_ | refine c_condT st rfl ?_ | refine c_condF st rfl ?_ | ((first | refine o_move st rfl rfl ?_ | refine o_assign st rfl rfl ?_ | refine o_loadS st rfl (by repeat constructor) rfl rfl ?_ | refine o_load3 st rfl (by repeat constructor) rfl ?_ | refine o_load2 st rfl (by repeat constructor) rfl ?_ | refine o_load4 st rfl (by repeat constructor) rfl ?_ | refine o_len st rfl rfl ?_ | refine o_add64 st rfl rfl rfl (by omega) (by omega) ?_); clear st; intro _ st) | (refine o_lss st rfl rfl rfl ?_ ?_ <;> clear st <;> intro _ _ st <;> (try (exfalso; omega)))))
  refine wp_loop_ghost (fun n a w' => ∃ k : Nat, k ≤ vs.length ∧ n = vs.length - k ∧ St w Try.f133.ntmps a w' [(0, .slice base vs.length cap), (1, .func (.func 120) #[] #[]), (7, .int .i64 vs.length), (8, .int .i64 k)] []) vs.length ⟨0, by omega, by omega, (st.fit (by repeat (first | exact trivial | refine And.intro rfl ?_))).subL (by repeat (first | exact List.Sublist.refl _ | apply List.Sublist.cons_cons | apply List.Sublist.cons | exact List.nil_sublist _))⟩ ?_
  clear st
  rintro n a w' ⟨k, hk, rfl, st⟩
  by_cases hlt : k < vs.length
  · obtain ⟨blk, off, arr, t, fr, rfl, hw, h3⟩ := hr.get (by intro h; rw [h] at hlt; simp at hlt)
    have st := st.addOld hw
    have hv := h3 k hlt
    have e1 : off + k = off + ((k : Nat) : Int).toNat * 1 := by simp
    rw [e1] at hv
    have c1 := hc vs[k] (List.getElem_mem hlt)
    (repeat' (first | (refine o_indexAddr st rfl rfl (by omega) (by omega) rfl ?_; clear st; intro _ st) | (refine o_loadS st rfl (by repeat constructor) hv rfl ?_; clear st; intro _ st) | (refine o_callF st rfl rfl (c1 _) rfl ?_; clear st; intro _ _ st) | refine c_seq ?_ | refine c_region ?_ | refine l_do ?_ | refine l_nil ?_ | refine x_then ?_ | refine x_thenR ?_ | refine x_thenE ?_ | refine x_blkN ?_ | refine x_blkR ?_ | refine x_blkE ?_ | refine x_blkO rfl ?_ | refine wp_ret ?_ | refine wp_skip ?_ | refine wp_block ?_ | refine wp_exit ?_ | refine c_condT st rfl ?_ | refine c_condF st rfl ?_ | ((first | refine o_move st rfl rfl ?_ | refine o_assign st rfl rfl ?_ | refine o_loadS st rfl (by repeat constructor) rfl rfl ?_ | refine o_load3 st rfl (by repeat constructor) rfl ?_ | refine o_load2 st rfl (by repeat constructor) rfl ?_ | refine o_load4 st rfl (by repeat constructor) rfl ?_ | refine o_len st rfl rfl ?_ | refine o_add64 st rfl rfl rfl (by omega) (by omega) ?_); clear st; intro _ st) | (refine o_lss st rfl rfl rfl ?_ ?_ <;> clear st <;> intro _ _ st <;> (try (exfalso; omega)))))
    exact ⟨vs.length - (k + 1), by omega, k + 1, by omega, rfl, (st.fit (by repeat (first | exact trivial | refine And.intro rfl ?_))).subL (by repeat (first | exact List.Sublist.refl _ | apply List.Sublist.cons_cons | apply List.Sublist.cons | exact List.nil_sublist _))⟩
  · obtain rfl : k = vs.length := by omega
    (repeat' (first | refine c_seq ?_ | refine c_region ?_ | refine l_do ?_ | refine l_nil ?_ | refine x_then ?_ | refine x_thenR ?_ | refine x_thenE ?_ | refine x_blkN ?_ | refine x_blkR ?_ | refine x_blkE ?_ | refine x_blkO rfl ?_ | refine wp_ret ?_ | refine wp_skip ?_ | refine wp_block ?_ | refine wp_exit ?_ | refine c_condT st rfl ?_ | refine c_condF st rfl ?_ | ((first | refine o_move st rfl rfl ?_ | refine o_assign st rfl rfl ?_ | refine o_loadS st rfl (by repeat constructor) rfl rfl ?_ | refine o_load3 st rfl (by repeat constructor) rfl ?_ | refine o_load2 st rfl (by repeat constructor) rfl ?_ | refine o_load4 st rfl (by repeat constructor) rfl ?_ | refine o_len st rfl rfl ?_ | refine o_add64 st rfl rfl rfl (by omega) (by omega) ?_); clear st; intro _ st) | (refine o_lss st rfl rfl rfl ?_ ?_ <;> clear st <;> intro _ _ st <;> (try (exfalso; omega)))))
    refine post1 st Try.results133 (rd_t st rfl) ?_
    exact ⟨rfl, st.ex0⟩
theorem containsFuncW_ok (vs : List Value) (hc : ∀ v ∈ vs, ∀ w, CV Try.prog 120 [v] w (.bool false)) (base : Option Addr) (cap : Nat) (hl : vs.length ≤ 1000000) (w : World) (hr : RdV w base vs) :
    CV Try.prog 119 [.slice base vs.length cap, .func (.func 120) #[] #[]] w (.bool false) := by
  refine enter Try.func119 rfl rfl rfl rfl ?_
  intro a st
  (repeat' (first | (refine o_callV st rfl (indexFuncW_ok vs hc base cap hl _ (hr.mono st.below)) rfl ?_; clear st; intro _ _ st) | refine c_seq ?_ | refine c_region ?_ | refine l_do ?_ | refine l_nil ?_ | refine x_then ?_ | refine x_thenR ?_ | refine x_thenE ?_ | refine wp_ret ?_ | ((first | refine o_move st rfl rfl ?_ | refine o_assign st rfl rfl ?_); clear st; intro _ st) | (refine o_geq st rfl rfl rfl ?_ ?_ <;> clear st <;> intro _ _ st <;> (try (exfalso; omega)))))
  refine post1 st Try.results119 (rd_t st rfl) ?_
  exact ⟨rfl, st.ex0⟩
theorem areMore_ok (vs : List Value) (hc : ∀ v ∈ vs, ∀ w, CV Try.prog 120 [v] w (.bool false)) (base : Option Addr) (cap : Nat) (hl : vs.length ≤ 1000000) (w : World) (hr : RdV w base vs) :
    CV Try.prog 86 [.slice base vs.length cap] w (.bool true) := by
  refine enter Try.func86 rfl rfl rfl rfl ?_
  intro a st
  (repeat' (first | (refine o_callV st rfl (containsFuncW_ok vs hc base cap hl _ (hr.mono st.below)) rfl ?_; clear st; intro _ _ st) | refine c_seq ?_ | refine c_region ?_ | refine l_do ?_ | refine l_nil ?_ | refine x_then ?_ | refine x_thenR ?_ | refine x_thenE ?_ | refine wp_ret ?_ | ((first | refine o_move st rfl rfl ?_ | refine o_assign st rfl rfl ?_ | refine o_notT st rfl rfl ?_ | refine o_notF st rfl rfl ?_); clear st; intro _ st)))
  refine post1 st Try.results86 (rd_t st rfl) ?_
  exact ⟨rfl, st.ex0⟩

/-! ## curves -/
def vPt (k : Kn) : Value := .complex .f32 k.1 k.2.1
def vWt (k : Kn) : Value := .float .f32 k.2.2
/-- A curve in memory. -/
def CrV (w : World) (c : List Kn) (v : Value) : Prop := ∃ bp cp bw cw, v = .agg [.slice bp c.length cp, .slice bw c.length cw].toArray ∧ RdV w bp (c.map vPt) ∧ RdV w bw (c.map vWt)
theorem CrV.mono {w w' : World} {c : List Kn} {v : Value} (h : CrV w c v) (hb : Below w.heap.size w w') : CrV w' c v := by
  obtain ⟨bp, cp, bw, cw, h1, h2, h3⟩ := h
  exact ⟨bp, cp, bw, cw, h1, h2.mono hb, h3.mono hb⟩
structure GC (c : List Kn) : Prop where
  lo : 2 ≤ c.length
  hi : c.length ≤ 8
  pt : ∀ k ∈ c, Gd k.1 ∧ Gd k.2.1
  wt : ∀ k ∈ c, Wt k.2.2
theorem degree_ok (c : List Kn) (v : Value) (hl : c.length ≤ 1000) (w : World) (hv : CrV w c v) : CV Try.prog 49 [v] w (.int .i64 ((c.length : Int) - 1)) := by
  obtain ⟨bp, cp, bw, cw, rfl, hp, hw⟩ := hv
  refine enter Try.func49 rfl rfl rfl rfl ?_
  intro a st
  (repeat' (first | refine c_seq ?_ | refine c_region ?_ | refine l_do ?_ | refine l_nil ?_ | refine x_then ?_ | refine x_thenR ?_ | refine x_thenE ?_ | refine wp_ret ?_ | (refine o_assign st rfl rfl ?_; clear st; intro _ st) | ((first | refine o_boxA st rfl rfl ?_ | refine o_boxS st rfl rfl rfl ?_); clear st; intro _ _ _ st) | ((first | refine o_fieldAddr st rfl rfl ?_ | refine o_loadS st rfl (by repeat constructor) rfl rfl ?_ | refine o_load3 st rfl (by repeat constructor) rfl ?_ | refine o_load2 st rfl (by repeat constructor) rfl ?_ | refine o_load4 st rfl (by repeat constructor) rfl ?_ | refine o_len st rfl rfl ?_ | refine o_sub64 st rfl rfl rfl (by omega) (by omega) ?_); clear st; intro _ st)))
  refine post1 st Try.results49 (rd_t st rfl) ?_
  exact ⟨rfl, st.ex0⟩
theorem ValidCurve_ok (c : List Kn) (v : Value) (h : GC c) (w : World) (hv : CrV w c v) : CV Try.prog 44 [v] w (.bool true) := by
  have h0 := h.lo
  have h1 := h.hi
  have c1 := fun w hv => degree_ok c v (by omega) w hv
  have c2 : ∀ w, CV Try.prog 96 [.int .i64 ((c.length : Int) - 1)] w (.bool true) := by
    intro w
    have := isDegree_ok (c.length - 1) (by omega) (by omega) w
    have e : ((c.length - 1 : Nat) : Int) = (c.length : Int) - 1 := by omega
    rwa [e] at this
  have hv0 := hv
  obtain ⟨bp, cp, bw, cw, rfl, hp, hw⟩ := hv
  have c3 := fun w hp => arePoints_ok (c.map vPt) (by
    intro v hv w
    obtain ⟨k, hk, rfl⟩ := List.mem_map.1 hv
    exact arePoints1_ok (k.1, k.2.1) (h.pt k hk).1 (h.pt k hk).2 w) bp cp (by rw [List.length_map]; omega) w hp
  have c4 := fun w hp => areMore_ok (c.map vWt) (by
    intro v hv w
    obtain ⟨k, hk, rfl⟩ := List.mem_map.1 hv
    exact areMore1_ok k.2.2 (h.wt k hk) w) bw cw (by rw [List.length_map]; omega) w hp
  rw [List.length_map] at c3 c4
  refine enter Try.func44 rfl rfl rfl rfl ?_
  intro a st
  (repeat' (first | (refine o_callV st rfl (c1 _ (hv0.mono st.below)) rfl ?_; clear st; intro _ _ st) | (refine o_callV st rfl (c2 _) rfl ?_; clear st; intro _ _ st) | (refine o_callV st rfl (c3 _ (hp.mono st.below)) rfl ?_; clear st; intro _ _ st) | (refine o_callV st rfl (c4 _ (hw.mono st.below)) rfl ?_; clear st; intro _ _ st) | refine c_seq ?_ | refine c_region ?_ | refine l_do ?_ | refine l_doG st rfl rfl ?_ | ((first | refine l_skipU st rfl rfl rfl ?_ | refine l_skip st rfl rfl rfl rfl ?_); clear st; intro _ st) | refine l_nil ?_ | refine x_then ?_ | refine x_thenR ?_ | refine x_thenE ?_ | refine wp_ret ?_ | ((first | refine o_move st rfl rfl ?_ | refine o_assign st rfl rfl ?_ | refine o_pickT st rfl rfl rfl ?_ | refine o_pickF st rfl rfl rfl ?_); clear st; intro _ st) | ((first | refine o_boxA st rfl rfl ?_ | refine o_boxS st rfl rfl rfl ?_); clear st; intro _ _ _ st) | ((first | refine o_fieldAddr st rfl rfl ?_ | refine o_loadS st rfl (by repeat constructor) rfl rfl ?_ | refine o_load3 st rfl (by repeat constructor) rfl ?_ | refine o_load2 st rfl (by repeat constructor) rfl ?_ | refine o_load4 st rfl (by repeat constructor) rfl ?_ | refine o_len st rfl rfl ?_); clear st; intro _ st) | (refine o_eqlI st rfl rfl rfl ?_ ?_ <;> clear st <;> intro _ _ st <;> (try (exfalso; omega)))))
  refine post1 st Try.results44 (rd_t st rfl) ?_
  exact ⟨rfl, st.ex0⟩
end Go.Proofs.Ytonbcbhnnflohaa
