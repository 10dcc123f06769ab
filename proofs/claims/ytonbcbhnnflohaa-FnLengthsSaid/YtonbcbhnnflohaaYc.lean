/-
  FnCurves: lists of values in memory; small contracts; lists that are searched in vain.
-/
import Derived.Test.YtonbcbhnnflohaaYa
namespace Go.Proofs.Ytonbcbhnnflohaa
open Go.RowKit

/-- A list's memory holds these values. -/
def RdV (w : World) (base : Option Addr) (vs : List Value) : Prop := vs = [] ∨ ∃ blk off arr t fr, base = some ⟨blk, off, none⟩ ∧ w.heap[blk]? = some (.cells arr t fr) ∧ ∀ (i : Nat) (v : Value), vs[i]? = some v → arr[off + i]? = some v
theorem RdV.mono {w w' : World} {base : Option Addr} {vs : List Value} (h : RdV w base vs) (hb : Below w.heap.size w w') : RdV w' base vs := by
  rcases h with h | ⟨blk, off, arr, t, fr, h1, h2, h3⟩
  · exact .inl h
  · exact .inr ⟨blk, off, arr, t, fr, h1, by rw [hb.block blk (Array.getElem?_eq_some_iff.1 h2).1]; exact h2, h3⟩
theorem RdV.of {w : World} {b : Nat} {vs pad : List Value} {t : TypeId} {fr : Nat × Nat} (h : w.heap[b]? = some (.cells (vs ++ pad).toArray t fr)) : RdV w (some ⟨b, 0, none⟩) vs := by
  refine .inr ⟨b, 0, _, t, fr, rfl, h, ?_⟩
  intro i v hv
  have hi := (List.getElem?_eq_some_iff.1 hv).1
  simp only [Nat.zero_add, List.getElem?_toArray]
  rw [List.getElem?_append_left hi]
  exact hv
theorem RdV.get {w : World} {base : Option Addr} {vs : List Value} (h : RdV w base vs) (hn : vs ≠ []) : ∃ blk off arr t fr, base = some ⟨blk, off, none⟩ ∧ w.heap[blk]? = some (.cells arr t fr) ∧ ∀ (i : Nat) (hi : i < vs.length), arr[off + i]? = some vs[i] := by
  rcases h with h | ⟨blk, off, arr, t, fr, h1, h2, h3⟩
  · exact absurd h hn
  · exact ⟨blk, off, arr, t, fr, h1, h2, fun i hi => h3 i _ (List.getElem?_eq_getElem hi)⟩
theorem ob {α β : Type} {o : Option α} {k : α → Option β} {v : β} (h : o.bind k = some v) : ∃ r, o = some r ∧ k r = some v := Option.bind_eq_some_iff.1 h

attribute [local irreducible] Code.wp wpList Oper.wp Calls bodyPost Exit.then Exit.inBlock

/-! ## numbers -/
/-- A finite number. -/
structure Gd (x : Nat) : Prop where
  is : Is .f32 x (some x)
  fin : ∃ z, fop .sub .f32 (some x) (some x) = some z ∧ feqB .f32 (some z) (some 0) = true
theorem i32_0 : Is .f32 0 (some 0) := Is_lit (by decide +kernel)
theorem i32_1 : Is .f32 1065353216 (some 1065353216) := Is_lit (by decide +kernel)
theorem IsFinite_ok (x : Nat) (h : Gd x) (w : World) : CV Try.prog 78 [.float .f32 x] w (.bool true) := by
  obtain ⟨z, hz, h1⟩ := h.fin
  refine enter Try.func78 rfl rfl rfl rfl ?_
  intro y st
  (repeat' (first | (refine o_fopK st rfl rfl hz rfl ?_; clear st; intro _ st)  | (refine o_feqlW st rfl rfl (fop_is hz) i32_0 h1 rfl ?_; clear st; intro _ st)  | refine c_seq ?_  | refine c_region ?_  | refine l_do ?_  | refine l_nil ?_  | refine x_then ?_  | refine wp_ret ?_  | ((first | refine o_move st rfl rfl ?_  | refine o_assign st rfl rfl ?_); clear st; intro _ st) ))
  refine post1 st Try.results78 (rd_t st rfl) ?_
  exact ⟨rfl, st.ex0⟩
theorem IsFiniteComplex_ok (x : Nat × Nat) (h : Gd x.1) (h' : Gd x.2) (w : World) : CV Try.prog 66 [.complex .f32 x.1 x.2] w (.bool true) := by
  have c1 := fun w => IsFinite_ok x.1 h w
  have c2 := fun w => IsFinite_ok x.2 h' w
  refine enter Try.func66 rfl rfl rfl rfl ?_
  intro y st
  (repeat' (first | (refine o_callV st rfl (c1 _) rfl ?_; clear st; intro _ _ st)  | (refine o_callV st rfl (c2 _) rfl ?_; clear st; intro _ _ st)  | (refine o_real st rfl rfl ?_; clear st; intro _ st)  | (refine o_imag st rfl rfl ?_; clear st; intro _ st)  | refine c_seq ?_  | refine c_region ?_  | refine l_do ?_  | refine l_doG st rfl rfl ?_  | refine l_nil ?_  | refine x_then ?_  | refine wp_ret ?_  | ((first | refine o_move st rfl rfl ?_  | refine o_assign st rfl rfl ?_  | refine o_pickT st rfl rfl rfl ?_ ); clear st; intro _ st)))
  refine post1 st Try.results66 (rd_t st rfl) ?_
  exact ⟨rfl, st.ex0⟩
/-- A time. -/
structure Tm (t : Nat) : Prop where
  is : Is .f32 t (some t)
  ge : fgeB .f32 (some t) (some 0) = true
  le : fleB .f32 (some t) (some 1065353216) = true
theorem isTime_ok (t : Nat) (h : Tm t) (w : World) : CV Try.prog 45 [.float .f32 t] w (.bool true) := by
  have h0 := h.is
  have h1 := h.ge
  have h2 := h.le
  refine enter Try.func45 rfl rfl rfl rfl ?_
  intro y st
  (repeat' (first | (refine o_fgeqW st rfl rfl h0 i32_0 h1 rfl ?_; clear st; intro _ st)  | (refine o_fleqW st rfl rfl h0 i32_1 h2 rfl ?_; clear st; intro _ st)  | refine c_seq ?_  | refine c_region ?_  | refine l_do ?_  | refine l_doG st rfl rfl ?_  | refine l_nil ?_  | refine x_then ?_  | refine wp_ret ?_  | ((first | refine o_move st rfl rfl ?_  | refine o_assign st rfl rfl ?_  | refine o_pickT st rfl rfl rfl ?_ ); clear st; intro _ st) ))
  refine post1 st Try.results45 (rd_t st rfl) ?_
  exact ⟨rfl, st.ex0⟩
theorem isDegree_ok (n : Nat) (h1 : 1 ≤ n) (h7 : n ≤ 7) (w : World) : CV Try.prog 96 [.int .i64 n] w (.bool true) := by
  refine enter Try.func96 rfl rfl rfl rfl ?_
  intro y st
  (repeat' (first | refine c_seq ?_  | refine c_region ?_  | refine l_do ?_  | refine l_doG st rfl rfl ?_  | refine l_nil ?_  | refine x_then ?_  | refine wp_ret ?_  | ((first | refine o_move st rfl rfl ?_  | refine o_assign st rfl rfl ?_  | refine o_pickT st rfl rfl rfl ?_ ); clear st; intro _ st)  | ((first | refine o_leq st rfl rfl rfl ?_ ?_  | refine o_geq st rfl rfl rfl ?_ ?_) <;> clear st <;> intro _ _ st <;> (try (exfalso; omega)))))
  refine post1 st Try.results96 (rd_t st rfl) ?_
  exact ⟨rfl, st.ex0⟩
/-- A weight. -/
structure Wt (x : Nat) : Prop where
  gd : Gd x
  gt : fgtB .f32 (some x) (some 0) = true
theorem areMore1_ok (x : Nat) (h : Wt x) (w : World) : CV Try.prog 120 [.float .f32 x] w (.bool false) := by
  have c1 := fun w => IsFinite_ok x h.gd w
  have i := h.gd.is
  have h2 := h.gt
  refine enter Try.func120 rfl rfl rfl rfl ?_
  intro y st
  (repeat' (first | (refine o_callV st rfl (c1 _) rfl ?_; clear st; intro _ _ st)  | (refine o_fgtrW st rfl rfl i i32_0 h2 rfl ?_; clear st; intro _ st)  | refine c_seq ?_  | refine c_region ?_  | refine l_do ?_  | refine l_doG st rfl rfl ?_  | refine l_nil ?_  | refine x_then ?_  | refine wp_ret ?_  | ((first | refine o_move st rfl rfl ?_  | refine o_assign st rfl rfl ?_  | refine o_pickF st rfl rfl rfl ?_  | refine o_notT st rfl rfl ?_ ); clear st; intro _ st) ))
  refine post1 st Try.results120 (rd_t st rfl) ?_
  exact ⟨rfl, st.ex0⟩
theorem arePoints1_ok (x : Nat × Nat) (h : Gd x.1) (h' : Gd x.2) (w : World) : CV Try.prog 124 [.complex .f32 x.1 x.2] w (.bool false) := by
  have c1 := fun w => IsFiniteComplex_ok x h h' w
  refine enter Try.func124 rfl rfl rfl rfl ?_
  intro y st
  (repeat' (first | (refine o_callV st rfl (c1 _) rfl ?_; clear st; intro _ _ st)  | refine c_seq ?_  | refine c_region ?_  | refine l_do ?_  | refine l_nil ?_  | refine x_then ?_  | refine wp_ret ?_  | ((first | refine o_move st rfl rfl ?_  | refine o_assign st rfl rfl ?_  | refine o_notT st rfl rfl ?_ ); clear st; intro _ st)))
  refine post1 st Try.results124 (rd_t st rfl) ?_
  exact ⟨rfl, st.ex0⟩

/-! ## points -/
def scaledC (a : Nat × Nat) (x : Nat) : Option (Nat × Nat) := (fop .mul .f32 (some a.1) (some x)).bind fun u => (fop .mul .f32 (some a.2) (some x)).bind fun v => some (u, v)
theorem scaled_ok (a : Nat × Nat) (x : Nat) (r : Nat × Nat) (h : scaledC a x = some r) (w : World) : CV Try.prog 99 [.complex .f32 a.1 a.2, .float .f32 x] w (.complex .f32 r.1 r.2) := by
  obtain ⟨u, hu, h⟩ := ob h
  obtain ⟨v, hv, h⟩ := ob h
  obtain rfl := Option.some.inj h
  refine enter Try.func99 rfl rfl rfl rfl ?_
  intro y st
  (repeat' (first | (refine o_real st rfl rfl ?_; clear st; intro _ st)  | (refine o_imag st rfl rfl ?_; clear st; intro _ st)  | (refine o_complex st rfl rfl rfl ?_; clear st; intro _ st)  | (refine o_fopK st rfl rfl hu rfl ?_; clear st; intro _ st)  | (refine o_fopK st rfl rfl hv rfl ?_; clear st; intro _ st)  | refine c_seq ?_  | refine c_region ?_  | refine l_do ?_  | refine l_nil ?_  | refine x_then ?_  | refine wp_ret ?_  | ((first | refine o_move st rfl rfl ?_  | refine o_assign st rfl rfl ?_); clear st; intro _ st) ))
  refine post1 st Try.results99 (rd_t st rfl) ?_
  exact ⟨rfl, st.ex0⟩
def plusC (a b : Nat × Nat) : Option (Nat × Nat) := (fop .add .f32 (some a.1) (some b.1)).bind fun u => (fop .add .f32 (some a.2) (some b.2)).bind fun v => some (u, v)
theorem plus_ok (a b r : Nat × Nat) (h : plusC a b = some r) (w : World) : CV Try.prog 100 [.complex .f32 a.1 a.2, .complex .f32 b.1 b.2] w (.complex .f32 r.1 r.2) := by
  obtain ⟨u, hu, h⟩ := ob h
  obtain ⟨v, hv, h⟩ := ob h
  obtain rfl := Option.some.inj h
  refine enter Try.func100 rfl rfl rfl rfl ?_
  intro y st
  (repeat' (first | (refine o_real st rfl rfl ?_; clear st; intro _ st)  | (refine o_imag st rfl rfl ?_; clear st; intro _ st)  | (refine o_complex st rfl rfl rfl ?_; clear st; intro _ st)  | (refine o_fopK st rfl rfl hu rfl ?_; clear st; intro _ st)  | (refine o_fopK st rfl rfl hv rfl ?_; clear st; intro _ st)  | refine c_seq ?_  | refine c_region ?_  | refine l_do ?_  | refine l_nil ?_  | refine x_then ?_  | refine wp_ret ?_  | ((first | refine o_move st rfl rfl ?_  | refine o_assign st rfl rfl ?_); clear st; intro _ st) ))
  refine post1 st Try.results100 (rd_t st rfl) ?_
  exact ⟨rfl, st.ex0⟩
/-- A point with its weight. -/
abbrev Kn := Nat × Nat × Nat
def blendC (a b : Kn) (t : Nat) : Option Kn :=
  (fop .sub .f32 (some 1065353216) (some t)).bind fun o =>
  (fop .mul .f32 (some a.2.2) (some o)).bind fun f =>
  (fop .mul .f32 (some b.2.2) (some t)).bind fun s =>
  (fop .add .f32 (some f) (some s)).bind fun w =>
  (scaledC (a.1, a.2.1) f).bind fun p =>
  (scaledC (b.1, b.2.1) s).bind fun q =>
  (plusC p q).bind fun m =>
  (fop .quo .f32 (some 1065353216) (some w)).bind fun i =>
  (scaledC m i).bind fun r => some (r.1, r.2, w)
theorem blend_ok (a b : Kn) (t : Nat) (r : Kn) (h : blendC a b t = some r) (w : World) : CV Try.prog 50 [.complex .f32 a.1 a.2.1, .float .f32 a.2.2, .complex .f32 b.1 b.2.1, .float .f32 b.2.2, .float .f32 t] w (.tuple #[.complex .f32 r.1 r.2.1, .float .f32 r.2.2]) := by
  obtain ⟨o, ho, h⟩ := ob h
  obtain ⟨f, hf, h⟩ := ob h
  obtain ⟨s, hs, h⟩ := ob h
  obtain ⟨v, hv, h⟩ := ob h
  obtain ⟨p, hp, h⟩ := ob h
  obtain ⟨q, hq, h⟩ := ob h
  obtain ⟨m, hm, h⟩ := ob h
  obtain ⟨i, hi, h⟩ := ob h
  obtain ⟨z, hz, h⟩ := ob h
  obtain rfl := Option.some.inj h
  have c1 := fun w => scaled_ok (a.1, a.2.1) f p hp w
  have c2 := fun w => scaled_ok (b.1, b.2.1) s q hq w
  have c3 := fun w => plus_ok p q m hm w
  have c4 := fun w => scaled_ok m i z hz w
  refine enter Try.func50 rfl rfl rfl rfl ?_
  intro y st
  (repeat' (first | (refine o_callV st rfl (c1 _) rfl ?_; clear st; intro _ _ st)  | (refine o_callV st rfl (c2 _) rfl ?_; clear st; intro _ _ st)  | (refine o_callV st rfl (c3 _) rfl ?_; clear st; intro _ _ st)  | (refine o_callV st rfl (c4 _) rfl ?_; clear st; intro _ _ st)  | (refine o_fopK st rfl rfl ho rfl ?_; clear st; intro _ st)  | (refine o_fopK st rfl rfl hf rfl ?_; clear st; intro _ st)  | (refine o_fopK st rfl rfl hs rfl ?_; clear st; intro _ st)  | (refine o_fopK st rfl rfl hv rfl ?_; clear st; intro _ st)  | (refine o_fopK st rfl rfl hi rfl ?_; clear st; intro _ st)  | refine c_seq ?_  | refine c_region ?_  | refine l_do ?_  | refine l_nil ?_  | refine x_then ?_  | refine wp_ret ?_  | ((first | refine o_move st rfl rfl ?_  | refine o_assign st rfl rfl ?_); clear st; intro _ st) ))
  refine post2 st Try.results50 (rd_t st rfl) (rd_t st rfl) ?_
  exact ⟨rfl, st.ex0⟩
end Go.Proofs.Ytonbcbhnnflohaa

namespace Go.Proofs.Ytonbcbhnnflohaa
open Go.RowKit
attribute [local irreducible] Code.wp wpList Oper.wp Calls bodyPost Exit.then Exit.inBlock

theorem indexFuncP_ok (vs : List Value) (hc : ∀ v ∈ vs, ∀ w, CV Try.prog 124 [v] w (.bool false)) (base : Option Addr) (cap : Nat) (hl : vs.length ≤ 1000000) (w : World) (hr : RdV w base vs) :
    CV Try.prog 136 [.slice base vs.length cap, .func (.func 124) #[] #[]] w (.int .i64 (-1)) := by
  refine enter Try.func136 rfl rfl rfl rfl ?_
  intro a st
  (repeat' (first | refine c_seq ?_  | refine c_region ?_  | refine l_do ?_  | refine l_nil ?_  | refine x_then ?_  | refine x_thenE ?_  | refine x_blkN ?_  | refine x_blkE ?_  | refine wp_ret ?_  | refine wp_skip ?_  | refine wp_block ?_  | refine wp_exit ?_  | refine c_condT st rfl ?_  | refine c_condF st rfl ?_  | ((first | refine o_move st rfl rfl ?_  | refine o_assign st rfl rfl ?_  | refine o_loadS st rfl (by repeat constructor) rfl rfl ?_  | refine o_len st rfl rfl ?_  | refine o_add64 st rfl rfl rfl (by omega) (by omega) ?_); clear st; intro _ st)  | (refine o_lss st rfl rfl rfl ?_ ?_ <;> clear st <;> intro _ _ st <;> (try (exfalso; omega)))))
  refine wp_loop_ghost (fun n a w' => ∃ k : Nat, k ≤ vs.length ∧ n = vs.length - k ∧ St w Try.f136.ntmps a w' [(0, .slice base vs.length cap), (1, .func (.func 124) #[] #[]), (7, .int .i64 vs.length), (8, .int .i64 k)] []) vs.length ⟨0, by omega, by omega, (st.fit (by repeat (first | exact trivial  | refine And.intro rfl ?_))).subL (by repeat (first | exact List.Sublist.refl _  | apply List.Sublist.cons_cons  | apply List.Sublist.cons  | exact List.nil_sublist _))⟩ ?_
  clear st
  rintro n a w' ⟨k, hk, rfl, st⟩
  by_cases hlt : k < vs.length
  · obtain ⟨blk, off, arr, t, fr, rfl, hw, h3⟩ := hr.get (by intro h; rw [h] at hlt; simp at hlt)
    have st := st.addOld hw
    have hv := h3 k hlt
    have e1 : off + k = off + ((k : Nat) : Int).toNat * 1 := by simp
    rw [e1] at hv
    have c1 := hc vs[k] (List.getElem_mem hlt)
    (repeat' (first | (refine o_indexAddr st rfl rfl (by omega) (by omega) rfl ?_; clear st; intro _ st)  | (refine o_loadS st rfl (by repeat constructor) hv rfl ?_; clear st; intro _ st)  | (refine o_callF st rfl rfl (c1 _) rfl ?_; clear st; intro _ _ st)  | refine c_seq ?_  | refine c_region ?_  | refine l_do ?_  | refine l_nil ?_  | refine x_then ?_  | refine x_thenE ?_  | refine x_blkN ?_  | refine x_blkE ?_  | refine wp_ret ?_  | refine wp_skip ?_  | refine wp_block ?_  | refine wp_exit ?_  | refine c_condT st rfl ?_  | refine c_condF st rfl ?_  | ((first | refine o_move st rfl rfl ?_  | refine o_assign st rfl rfl ?_  | refine o_loadS st rfl (by repeat constructor) rfl rfl ?_  | refine o_len st rfl rfl ?_  | refine o_add64 st rfl rfl rfl (by omega) (by omega) ?_); clear st; intro _ st)  | (refine o_lss st rfl rfl rfl ?_ ?_ <;> clear st <;> intro _ _ st <;> (try (exfalso; omega)))))
    exact ⟨vs.length - (k + 1), by omega, k + 1, by omega, rfl, (st.fit (by repeat (first | exact trivial  | refine And.intro rfl ?_))).subL (by repeat (first | exact List.Sublist.refl _  | apply List.Sublist.cons_cons  | apply List.Sublist.cons  | exact List.nil_sublist _))⟩
  · obtain rfl : k = vs.length := by omega
    (repeat' (first | refine c_seq ?_  | refine c_region ?_  | refine l_do ?_  | refine l_nil ?_  | refine x_then ?_  | refine x_thenE ?_  | refine x_blkN ?_  | refine x_blkE ?_  | refine wp_ret ?_  | refine wp_skip ?_  | refine wp_block ?_  | refine wp_exit ?_  | refine c_condT st rfl ?_  | refine c_condF st rfl ?_  | ((first | refine o_move st rfl rfl ?_  | refine o_assign st rfl rfl ?_  | refine o_loadS st rfl (by repeat constructor) rfl rfl ?_  | refine o_len st rfl rfl ?_  | refine o_add64 st rfl rfl rfl (by omega) (by omega) ?_); clear st; intro _ st)  | (refine o_lss st rfl rfl rfl ?_ ?_ <;> clear st <;> intro _ _ st <;> (try (exfalso; omega)))))
    refine post1 st Try.results136 (rd_t st rfl) ?_
    exact ⟨rfl, st.ex0⟩
theorem containsFuncP_ok (vs : List Value) (hc : ∀ v ∈ vs, ∀ w, CV Try.prog 124 [v] w (.bool false)) (base : Option Addr) (cap : Nat) (hl : vs.length ≤ 1000000) (w : World) (hr : RdV w base vs) :
    CV Try.prog 123 [.slice base vs.length cap, .func (.func 124) #[] #[]] w (.bool false) := by
  refine enter Try.func123 rfl rfl rfl rfl ?_
  intro a st
  (repeat' (first | (refine o_callV st rfl (indexFuncP_ok vs hc base cap hl _ (hr.mono st.below)) rfl ?_; clear st; intro _ _ st)  | refine c_seq ?_  | refine c_region ?_  | refine l_do ?_  | refine l_nil ?_  | refine x_then ?_  | refine wp_ret ?_  | ((first | refine o_move st rfl rfl ?_  | refine o_assign st rfl rfl ?_); clear st; intro _ st)  | (refine o_geq st rfl rfl rfl ?_ ?_ <;> clear st <;> intro _ _ st <;> (try (exfalso; omega)))))
  refine post1 st Try.results123 (rd_t st rfl) ?_
  exact ⟨rfl, st.ex0⟩
theorem arePoints_ok (vs : List Value) (hc : ∀ v ∈ vs, ∀ w, CV Try.prog 124 [v] w (.bool false)) (base : Option Addr) (cap : Nat) (hl : vs.length ≤ 1000000) (w : World) (hr : RdV w base vs) :
    CV Try.prog 97 [.slice base vs.length cap] w (.bool true) := by
  refine enter Try.func97 rfl rfl rfl rfl ?_
  intro a st
  (repeat' (first | (refine o_callV st rfl (containsFuncP_ok vs hc base cap hl _ (hr.mono st.below)) rfl ?_; clear st; intro _ _ st)  | refine c_seq ?_  | refine c_region ?_  | refine l_do ?_  | refine l_nil ?_  | refine x_then ?_  | refine wp_ret ?_  | ((first | refine o_move st rfl rfl ?_  | refine o_assign st rfl rfl ?_  | refine o_notF st rfl rfl ?_); clear st; intro _ st)))
  refine post1 st Try.results97 (rd_t st rfl) ?_
  exact ⟨rfl, st.ex0⟩

theorem indexFuncW_ok (vs : List Value) (hc : ∀ v ∈ vs, ∀ w, CV Try.prog 120 [v] w (.bool false)) (base : Option Addr) (cap : Nat) (hl : vs.length ≤ 1000000) (w : World) (hr : RdV w base vs) :
    CV Try.prog 133 [.slice base vs.length cap, .func (.func 120) #[] #[]] w (.int .i64 (-1)) := by
  refine enter Try.func133 rfl rfl rfl rfl ?_
  intro a st
  (repeat' (first | refine c_seq ?_  | refine c_region ?_  | refine l_do ?_  | refine l_nil ?_  | refine x_then ?_  | refine x_thenE ?_  | refine x_blkN ?_  | refine x_blkE ?_  | refine wp_ret ?_  | refine wp_skip ?_  | refine wp_block ?_  | refine wp_exit ?_  | refine c_condT st rfl ?_  | refine c_condF st rfl ?_  | ((first | refine o_move st rfl rfl ?_  | refine o_assign st rfl rfl ?_  | refine o_loadS st rfl (by repeat constructor) rfl rfl ?_  | refine o_len st rfl rfl ?_  | refine o_add64 st rfl rfl rfl (by omega) (by omega) ?_); clear st; intro _ st)  | (refine o_lss st rfl rfl rfl ?_ ?_ <;> clear st <;> intro _ _ st <;> (try (exfalso; omega)))))
  refine wp_loop_ghost (fun n a w' => ∃ k : Nat, k ≤ vs.length ∧ n = vs.length - k ∧ St w Try.f133.ntmps a w' [(0, .slice base vs.length cap), (1, .func (.func 120) #[] #[]), (7, .int .i64 vs.length), (8, .int .i64 k)] []) vs.length ⟨0, by omega, by omega, (st.fit (by repeat (first | exact trivial  | refine And.intro rfl ?_))).subL (by repeat (first | exact List.Sublist.refl _  | apply List.Sublist.cons_cons  | apply List.Sublist.cons  | exact List.nil_sublist _))⟩ ?_
  clear st
  rintro n a w' ⟨k, hk, rfl, st⟩
  by_cases hlt : k < vs.length
  · obtain ⟨blk, off, arr, t, fr, rfl, hw, h3⟩ := hr.get (by intro h; rw [h] at hlt; simp at hlt)
    have st := st.addOld hw
    have hv := h3 k hlt
    have e1 : off + k = off + ((k : Nat) : Int).toNat * 1 := by simp
    rw [e1] at hv
    have c1 := hc vs[k] (List.getElem_mem hlt)
    (repeat' (first | (refine o_indexAddr st rfl rfl (by omega) (by omega) rfl ?_; clear st; intro _ st)  | (refine o_loadS st rfl (by repeat constructor) hv rfl ?_; clear st; intro _ st)  | (refine o_callF st rfl rfl (c1 _) rfl ?_; clear st; intro _ _ st)  | refine c_seq ?_  | refine c_region ?_  | refine l_do ?_  | refine l_nil ?_  | refine x_then ?_  | refine x_thenE ?_  | refine x_blkN ?_  | refine x_blkE ?_  | refine wp_ret ?_  | refine wp_skip ?_  | refine wp_block ?_  | refine wp_exit ?_  | refine c_condT st rfl ?_  | refine c_condF st rfl ?_  | ((first | refine o_move st rfl rfl ?_  | refine o_assign st rfl rfl ?_  | refine o_loadS st rfl (by repeat constructor) rfl rfl ?_  | refine o_len st rfl rfl ?_  | refine o_add64 st rfl rfl rfl (by omega) (by omega) ?_); clear st; intro _ st)  | (refine o_lss st rfl rfl rfl ?_ ?_ <;> clear st <;> intro _ _ st <;> (try (exfalso; omega)))))
    exact ⟨vs.length - (k + 1), by omega, k + 1, by omega, rfl, (st.fit (by repeat (first | exact trivial  | refine And.intro rfl ?_))).subL (by repeat (first | exact List.Sublist.refl _  | apply List.Sublist.cons_cons  | apply List.Sublist.cons  | exact List.nil_sublist _))⟩
  · obtain rfl : k = vs.length := by omega
    (repeat' (first | refine c_seq ?_  | refine c_region ?_  | refine l_do ?_  | refine l_nil ?_  | refine x_then ?_  | refine x_thenE ?_  | refine x_blkN ?_  | refine x_blkE ?_  | refine wp_ret ?_  | refine wp_skip ?_  | refine wp_block ?_  | refine wp_exit ?_  | refine c_condT st rfl ?_  | refine c_condF st rfl ?_  | ((first | refine o_move st rfl rfl ?_  | refine o_assign st rfl rfl ?_  | refine o_loadS st rfl (by repeat constructor) rfl rfl ?_  | refine o_len st rfl rfl ?_  | refine o_add64 st rfl rfl rfl (by omega) (by omega) ?_); clear st; intro _ st)  | (refine o_lss st rfl rfl rfl ?_ ?_ <;> clear st <;> intro _ _ st <;> (try (exfalso; omega)))))
    refine post1 st Try.results133 (rd_t st rfl) ?_
    exact ⟨rfl, st.ex0⟩
theorem containsFuncW_ok (vs : List Value) (hc : ∀ v ∈ vs, ∀ w, CV Try.prog 120 [v] w (.bool false)) (base : Option Addr) (cap : Nat) (hl : vs.length ≤ 1000000) (w : World) (hr : RdV w base vs) :
    CV Try.prog 119 [.slice base vs.length cap, .func (.func 120) #[] #[]] w (.bool false) := by
  refine enter Try.func119 rfl rfl rfl rfl ?_
  intro a st
  (repeat' (first | (refine o_callV st rfl (indexFuncW_ok vs hc base cap hl _ (hr.mono st.below)) rfl ?_; clear st; intro _ _ st)  | refine c_seq ?_  | refine c_region ?_  | refine l_do ?_  | refine l_nil ?_  | refine x_then ?_  | refine wp_ret ?_  | ((first | refine o_move st rfl rfl ?_  | refine o_assign st rfl rfl ?_); clear st; intro _ st)  | (refine o_geq st rfl rfl rfl ?_ ?_ <;> clear st <;> intro _ _ st <;> (try (exfalso; omega)))))
  refine post1 st Try.results119 (rd_t st rfl) ?_
  exact ⟨rfl, st.ex0⟩
theorem areMore_ok (vs : List Value) (hc : ∀ v ∈ vs, ∀ w, CV Try.prog 120 [v] w (.bool false)) (base : Option Addr) (cap : Nat) (hl : vs.length ≤ 1000000) (w : World) (hr : RdV w base vs) :
    CV Try.prog 86 [.slice base vs.length cap] w (.bool true) := by
  refine enter Try.func86 rfl rfl rfl rfl ?_
  intro a st
  (repeat' (first | (refine o_callV st rfl (containsFuncW_ok vs hc base cap hl _ (hr.mono st.below)) rfl ?_; clear st; intro _ _ st)  | refine c_seq ?_  | refine c_region ?_  | refine l_do ?_  | refine l_nil ?_  | refine x_then ?_  | refine wp_ret ?_  | ((first | refine o_move st rfl rfl ?_  | refine o_assign st rfl rfl ?_  | refine o_notF st rfl rfl ?_); clear st; intro _ st)))
  refine post1 st Try.results86 (rd_t st rfl) ?_
  exact ⟨rfl, st.ex0⟩

/-! ## curves -/
def vPt (k : Kn) : Value := .complex .f32 k.1 k.2.1
def vWt (k : Kn) : Value := .float .f32 k.2.2
/-- A curve in memory. -/
def CrV (w : World) (c : List Kn) (v : Value) : Prop := ∃ bp cp bw cw, v = .agg [.slice bp c.length cp, .slice bw c.length cw].toArray ∧ RdV w bp (c.map vPt) ∧ RdV w bw (c.map vWt)
theorem CrV.mono {w w' : World} {c : List Kn} {v : Value} (h : CrV w c v) (hb : Below w.heap.size w w') : CrV w' c v := by
  obtain ⟨bp, cp, bw, cw, h1, h2, h3⟩ := h
  exact ⟨bp, cp, bw, cw, h1, h2.mono hb, h3.mono hb⟩
structure GC (c : List Kn) : Prop where
  lo : 2 ≤ c.length
  hi : c.length ≤ 8
  pt : ∀ k ∈ c, Gd k.1 ∧ Gd k.2.1
  wt : ∀ k ∈ c, Wt k.2.2
theorem degree_ok (c : List Kn) (v : Value) (hl : c.length ≤ 1000) (w : World) (hv : CrV w c v) : CV Try.prog 49 [v] w (.int .i64 ((c.length : Int) - 1)) := by
  obtain ⟨bp, cp, bw, cw, rfl, hp, hw⟩ := hv
  refine enter Try.func49 rfl rfl rfl rfl ?_
  intro a st
  (repeat' (first | refine c_seq ?_  | refine c_region ?_  | refine l_do ?_  | refine l_nil ?_  | refine x_then ?_  | refine wp_ret ?_  | (refine o_assign st rfl rfl ?_; clear st; intro _ st)  | ((first | refine o_boxA st rfl rfl ?_ ); clear st; intro _ _ _ st)  | ((first | refine o_fieldAddr st rfl rfl ?_  | refine o_loadS st rfl (by repeat constructor) rfl rfl ?_  | refine o_len st rfl rfl ?_  | refine o_sub64 st rfl rfl rfl (by omega) (by omega) ?_); clear st; intro _ st)))
  refine post1 st Try.results49 (rd_t st rfl) ?_
  exact ⟨rfl, st.ex0⟩
theorem ValidCurve_ok (c : List Kn) (v : Value) (h : GC c) (w : World) (hv : CrV w c v) : CV Try.prog 44 [v] w (.bool true) := by
  have h0 := h.lo
  have h1 := h.hi
  have c1 := fun w hv => degree_ok c v (by omega) w hv
  have c2 : ∀ w, CV Try.prog 96 [.int .i64 ((c.length : Int) - 1)] w (.bool true) := by
    intro w
    have := isDegree_ok (c.length - 1) (by omega) (by omega) w
    have e : ((c.length - 1 : Nat) : Int) = (c.length : Int) - 1 := by omega
    rwa [e] at this
  have hv0 := hv
  obtain ⟨bp, cp, bw, cw, rfl, hp, hw⟩ := hv
  have c3 := fun w hp => arePoints_ok (c.map vPt) (by
    intro v hv w
    obtain ⟨k, hk, rfl⟩ := List.mem_map.1 hv
    exact arePoints1_ok (k.1, k.2.1) (h.pt k hk).1 (h.pt k hk).2 w) bp cp (by rw [List.length_map]; omega) w hp
  have c4 := fun w hp => areMore_ok (c.map vWt) (by
    intro v hv w
    obtain ⟨k, hk, rfl⟩ := List.mem_map.1 hv
    exact areMore1_ok k.2.2 (h.wt k hk) w) bw cw (by rw [List.length_map]; omega) w hp
  rw [List.length_map] at c3 c4
  refine enter Try.func44 rfl rfl rfl rfl ?_
  intro a st
  (repeat' (first | (refine o_callV st rfl (c1 _ (hv0.mono st.below)) rfl ?_; clear st; intro _ _ st)  | (refine o_callV st rfl (c2 _) rfl ?_; clear st; intro _ _ st)  | (refine o_callV st rfl (c3 _ (hp.mono st.below)) rfl ?_; clear st; intro _ _ st)  | (refine o_callV st rfl (c4 _ (hw.mono st.below)) rfl ?_; clear st; intro _ _ st)  | refine c_seq ?_  | refine c_region ?_  | refine l_do ?_  | refine l_doG st rfl rfl ?_  | refine l_nil ?_  | refine x_then ?_  | refine wp_ret ?_  | ((first | refine o_move st rfl rfl ?_  | refine o_assign st rfl rfl ?_  | refine o_pickT st rfl rfl rfl ?_ ); clear st; intro _ st)  | ((first | refine o_boxA st rfl rfl ?_ ); clear st; intro _ _ _ st)  | ((first | refine o_fieldAddr st rfl rfl ?_  | refine o_loadS st rfl (by repeat constructor) rfl rfl ?_  | refine o_load2 st rfl (by repeat constructor) rfl ?_  | refine o_len st rfl rfl ?_); clear st; intro _ st)  | (refine o_eqlI st rfl rfl rfl ?_ ?_ <;> clear st <;> intro _ _ st <;> (try (exfalso; omega)))))
  refine post1 st Try.results44 (rd_t st rfl) ?_
  exact ⟨rfl, st.ex0⟩
end Go.Proofs.Ytonbcbhnnflohaa
