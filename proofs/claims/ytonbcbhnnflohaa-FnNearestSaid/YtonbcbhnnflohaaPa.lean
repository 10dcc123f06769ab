/-
  FnNearest: the other way to a curve's point.
-/
import Derived.Test.YtonbcbhnnflohaaYm
namespace Go.Proofs.Ytonbcbhnnflohaa
open Go.RowKit
section
variable {P : Program} {w0 w : World} {N : Nat} {a : Act} {E : List (Nat × Value)} {L Lh : List Ent} {K : Act → World → Prop} {Q : Exit → Act → World → Prop}
variable {d : Nat} {ty : TypeId} {pos : String} {aft : Array Edge} {g : Option (Nat × Bool)}
theorem o_cadd {x y : Operand} {t ys : TypeId} {k : FloatKind} {i j i' j' u v : Nat} (st : St w0 N a w E L) (hx : evE E x = some (.complex k i j)) (hy : evE E y = some (.complex k i' j')) (hu : fop .add k (some i) (some i') = some u) (hv : fop .add k (some j) (some j') = some v) (hd : Nat.blt d N = true)
    (h : ∀ a', St w0 N a' w ((d, .complex k u v) :: E) L → K a' w) : Oper.wp P ⟨some d, .binOp .add t x y ys, ty, pos, aft, g⟩ a w K Q := by
  have hu : floatBits .add k i i' = some u := hu
  have hv : floatBits .add k j j' = some v := hv
  refine o_val (v := .complex k u v) (w' := w) ?_ (h _ (st.put d hd _))
  have := run_complex_sum (P := P) w .add (.inl rfl) t k i j i' j' u v (by simp [cSumBits, hu, hv])
  simp [execOp, evE_eval st hx, evE_eval st hy, eqGuard, this]
theorem v_cadd {x y : Operand} {t ys : TypeId} {k : FloatKind} {i j i' j' u v : Nat} (st : St w0 N a w E L) (hx : evE E x = some (.complex k i j)) (hy : evE E y = some (.complex k i' j')) (hu : fop .add k (some i) (some i') = some u) (hv : fop .add k (some j) (some j') = some v) :
    Vl P a Lh (.binOp .add t x y ys) (.complex k u v) := by
  have hu : floatBits .add k i i' = some u := hu
  have hv : floatBits .add k j j' = some v := hv
  intro d ty pos aft g w' _
  have := run_complex_sum (P := P) w' .add (.inl rfl) t k i j i' j' u v (by simp [cSumBits, hu, hv])
  simp [execOp, evE_eval st hx, evE_eval st hy, eqGuard, this]
end
theorem GV.own {e : TypeId} {v : Value} {c : List Kn} {f : Kn → Value} {Ls : List Ent} (h : GV e v (c.map f) Ls) (h0 : 0 < c.length) : ∃ b cp pad, v = .slice (some ⟨b, 0, none⟩) c.length cp ∧ Ls = [⟨b, true, oV e (c.map f) pad⟩] := by
  rcases h with ⟨_, hn, _⟩ | ⟨b, cp, pad, _, rfl, rfl, _⟩
  · have := congrArg List.length hn
    rw [List.length_map] at this
    simp at this
    subst this
    simp at h0
  · exact ⟨b, cp, pad, by rw [List.length_map], rfl⟩
/-- A curve in a variable. -/
def AtP (w : World) (p : Nat) (c : List Kn) : Prop := ∃ x : CC, w.heap[p]? = some (.cells [.slice (some ⟨x.b1, x.o1, none⟩) c.length x.cp, .slice (some ⟨x.b2, x.o2, none⟩) c.length x.cw].toArray 27 (0, 0)) ∧ x.has c ∧ w.heap[x.b1]? = some (.cells x.a1 x.t1 x.f1) ∧ w.heap[x.b2]? = some (.cells x.a2 x.t2 x.f2)
theorem AtP.mono {w w' : World} {p : Nat} {c : List Kn} (h : AtP w p c) (hb : Below w.heap.size w w') : AtP w' p c := by
  obtain ⟨x, h1, hx, h2, h3⟩ := h
  exact ⟨x, by rw [hb.block p (Array.getElem?_eq_some_iff.1 h1).1]; exact h1, hx, by rw [hb.block _ (Array.getElem?_eq_some_iff.1 h2).1]; exact h2, by rw [hb.block _ (Array.getElem?_eq_some_iff.1 h3).1]; exact h3⟩
attribute [local irreducible] Code.wp wpList Oper.wp Calls bodyPost Exit.then Exit.inBlock

theorem l01Finite_ok (x : Nat) (h : Gd x) (w : World) : CV Try.prog 118 [.float .f32 x] w (.bool true) := by
  obtain ⟨z, hz, h1⟩ := h.fin
  refine enter Try.func118 rfl rfl rfl rfl ?_
  intro y st
  (repeat' (first | (refine o_fopK st rfl rfl hz rfl ?_; clear st; intro _ st) | (refine o_feqlW st rfl rfl (fop_is hz) i32_0 h1 rfl ?_; clear st; intro _ st) | refine c_seq ?_ | refine c_region ?_ | refine l_do ?_ | refine l_nil ?_ | refine x_then ?_ | refine x_thenR ?_ | refine x_thenE ?_ | refine wp_ret ?_ | ((first | refine o_move st rfl rfl ?_ | refine o_assign st rfl rfl ?_); clear st; intro _ st) | (refine o_fop rfl st rfl rfl (by first | assumption | exact Is_ofInt _ _ | exact Is_lit (by decide +kernel)) (by first | assumption | exact Is_ofInt _ _ | exact Is_lit (by decide +kernel)) rfl ?_; clear st; intro _ _ _ _ st) | (refine o_feql st rfl rfl (by first | assumption | exact Is_ofInt _ _ | exact Is_lit (by decide +kernel)) (by first | assumption | exact Is_ofInt _ _ | exact Is_lit (by decide +kernel)) rfl ?_ ?_ <;> clear st <;> intro _ _ st <;> (try simp_all))))
  refine post1 st Try.results118 (rd_t st rfl) ?_
  exact ⟨rfl, st.ex0⟩
theorem l01CFinite_ok (x : Nat × Nat) (h : Gd x.1) (h' : Gd x.2) (w : World) : CV Try.prog 81 [.complex .f32 x.1 x.2] w (.bool true) := by
  have c1 := fun w => l01Finite_ok x.1 h w
  have c2 := fun w => l01Finite_ok x.2 h' w
  refine enter Try.func81 rfl rfl rfl rfl ?_
  intro y st
  (repeat' (first | (refine o_callV st rfl (c1 _) rfl ?_; clear st; intro _ _ st) | (refine o_callV st rfl (c2 _) rfl ?_; clear st; intro _ _ st) | (refine o_real st rfl rfl ?_; clear st; intro _ st) | (refine o_imag st rfl rfl ?_; clear st; intro _ st) | refine c_seq ?_ | refine c_region ?_ | refine l_do ?_ | refine l_doG st rfl rfl ?_ | ((first | refine l_skipU st rfl rfl rfl ?_ | refine l_skip st rfl rfl rfl rfl ?_); clear st; intro _ st) | refine l_nil ?_ | refine x_then ?_ | refine x_thenR ?_ | refine x_thenE ?_ | refine wp_ret ?_ | ((first | refine o_move st rfl rfl ?_ | refine o_assign st rfl rfl ?_ | refine o_pickT st rfl rfl rfl ?_ | refine o_pickF st rfl rfl rfl ?_); clear st; intro _ st)))
  refine post1 st Try.results81 (rd_t st rfl) ?_
  exact ⟨rfl, st.ex0⟩
theorem l02Above_ok (x : Nat) (h : Wt x) (w : World) : CV Try.prog 115 [.float .f32 x] w (.bool true) := by
  have c1 := fun w => l01Finite_ok x h.gd w
  have i := h.gd.is
  have h2 := h.gt
  refine enter Try.func115 rfl rfl rfl rfl ?_
  intro y st
  (repeat' (first | (refine o_callV st rfl (c1 _) rfl ?_; clear st; intro _ _ st) | (refine o_fgtrW st rfl rfl i i32_0 h2 rfl ?_; clear st; intro _ st) | refine c_seq ?_ | refine c_region ?_ | refine l_do ?_ | refine l_doG st rfl rfl ?_ | ((first | refine l_skipU st rfl rfl rfl ?_ | refine l_skip st rfl rfl rfl rfl ?_); clear st; intro _ st) | refine l_nil ?_ | refine x_then ?_ | refine x_thenR ?_ | refine x_thenE ?_ | refine wp_ret ?_ | ((first | refine o_move st rfl rfl ?_ | refine o_assign st rfl rfl ?_ | refine o_pickT st rfl rfl rfl ?_ | refine o_pickF st rfl rfl rfl ?_); clear st; intro _ st) | (refine o_fgtr st rfl rfl (by first | assumption | exact Is_ofInt _ _ | exact Is_lit (by decide +kernel)) (by first | assumption | exact Is_ofInt _ _ | exact Is_lit (by decide +kernel)) rfl ?_ ?_ <;> clear st <;> intro _ _ st <;> (try simp_all))))
  refine post1 st Try.results115 (rd_t st rfl) ?_
  exact ⟨rfl, st.ex0⟩
theorem l02Share_ok (t : Nat) (h : Tm t) (w : World) : CV Try.prog 73 [.float .f32 t] w (.bool true) := by
  have h0 := h.is
  have h1 := h.ge
  have h2 := h.le
  refine enter Try.func73 rfl rfl rfl rfl ?_
  intro y st
  (repeat' (first | (refine o_fgeqW st rfl rfl h0 i32_0 h1 rfl ?_; clear st; intro _ st) | (refine o_fleqW st rfl rfl h0 i32_1 h2 rfl ?_; clear st; intro _ st) | refine c_seq ?_ | refine c_region ?_ | refine l_do ?_ | refine l_doG st rfl rfl ?_ | ((first | refine l_skipU st rfl rfl rfl ?_ | refine l_skip st rfl rfl rfl rfl ?_); clear st; intro _ st) | refine l_nil ?_ | refine x_then ?_ | refine x_thenR ?_ | refine x_thenE ?_ | refine wp_ret ?_ | ((first | refine o_move st rfl rfl ?_ | refine o_assign st rfl rfl ?_ | refine o_pickT st rfl rfl rfl ?_ | refine o_pickF st rfl rfl rfl ?_); clear st; intro _ st) | ((first | refine o_fleq st rfl rfl (by first | assumption | exact Is_ofInt _ _ | exact Is_lit (by decide +kernel)) (by first | assumption | exact Is_ofInt _ _ | exact Is_lit (by decide +kernel)) rfl ?_ ?_ | refine o_fgeq st rfl rfl (by first | assumption | exact Is_ofInt _ _ | exact Is_lit (by decide +kernel)) (by first | assumption | exact Is_ofInt _ _ | exact Is_lit (by decide +kernel)) rfl ?_ ?_) <;> clear st <;> intro _ _ st <;> (try simp_all))))
  refine post1 st Try.results73 (rd_t st rfl) ?_
  exact ⟨rfl, st.ex0⟩
theorem l02Complex_ok (x : Nat × Nat) (h : Gd x.1) (h' : Gd x.2) (w : World) : CV Try.prog 74 [.complex .f32 x.1 x.2] w (.tuple #[.complex .f32 x.1 x.2, .bool true]) := by
  have c1 := fun w => l01CFinite_ok x h h' w
  refine enter Try.func74 rfl rfl rfl rfl ?_
  intro y st
  (repeat' (first | (refine o_callV st rfl (c1 _) rfl ?_; clear st; intro _ _ st) | refine c_seq ?_ | refine c_region ?_ | refine l_do ?_ | refine l_nil ?_ | refine x_then ?_ | refine x_thenR ?_ | refine x_thenE ?_ | refine wp_ret ?_ | refine wp_skip ?_ | refine c_condT st rfl ?_ | refine c_condF st rfl ?_ | ((first | refine o_move st rfl rfl ?_ | refine o_assign st rfl rfl ?_ | refine o_notT st rfl rfl ?_ | refine o_notF st rfl rfl ?_); clear st; intro _ st)))
  refine post2 st Try.results74 (rd_t st rfl) (rd_t st rfl) ?_
  exact ⟨rfl, st.ex0⟩
theorem l02Is_ok (c : List Kn) (h : GC c) (p : Nat) (w : World) (hp : AtP w p c) : CV Try.prog 72 [.pointer (some ⟨p, 0, none⟩)] w (.bool true) := by
  have h0 := h.lo
  have h1 := h.hi
  obtain ⟨x, hw, hx, h3, h4⟩ := hp
  refine enter Try.func72 rfl rfl rfl rfl ?_
  intro a st
  have st := ((st.addOld h3).addOld h4).addOld hw
  (repeat' (first | refine c_seq ?_ | refine c_region ?_ | refine l_do ?_ | refine l_doG st rfl rfl ?_ | ((first | refine l_skipU st rfl rfl rfl ?_ | refine l_skip st rfl rfl rfl rfl ?_); clear st; intro _ st) | refine l_nil ?_ | refine x_then ?_ | refine x_thenR ?_ | refine x_thenE ?_ | refine x_blkN ?_ | refine x_blkR ?_ | refine x_blkE ?_ | refine x_blkO rfl ?_ | refine wp_ret ?_ | refine wp_skip ?_ | refine wp_block ?_ | refine wp_exit ?_ | refine c_condT st rfl ?_ | refine c_condF st rfl ?_ | ((first | refine o_move st rfl rfl ?_ | refine o_assign st rfl rfl ?_ | refine o_pickT st rfl rfl rfl ?_ | refine o_pickF st rfl rfl rfl ?_ | refine o_fieldAddr st rfl rfl ?_ | refine o_loadS st rfl (by repeat constructor) rfl rfl ?_ | refine o_load3 st rfl (by repeat constructor) rfl ?_ | refine o_load2 st rfl (by repeat constructor) rfl ?_ | refine o_load4 st rfl (by repeat constructor) rfl ?_ | refine o_len st rfl rfl ?_ | refine o_add64 st rfl rfl rfl (by omega) (by omega) ?_ | refine o_nilCheck st rfl rfl ?_ | refine o_notT st rfl rfl ?_ | refine o_notF st rfl rfl ?_); clear st; intro _ st) | ((first | refine o_lss st rfl rfl rfl ?_ ?_ | refine o_gtr st rfl rfl rfl ?_ ?_ | refine o_neqI st rfl rfl rfl ?_ ?_) <;> clear st <;> intro _ _ st <;> (try (exfalso; omega)))))
  refine wp_loop_ghost (fun z a w' => ∃ i : Nat, i ≤ c.length ∧ z = c.length - i ∧ St w Try.f72.ntmps a w' [(0, .pointer (some ⟨p, 0, none⟩)), (3, .int .i64 c.length), (4, .int .i64 (i : Nat))] [⟨p, false, .cells [.slice (some ⟨x.b1, x.o1, none⟩) c.length x.cp, .slice (some ⟨x.b2, x.o2, none⟩) c.length x.cw].toArray 27 (0, 0)⟩, ⟨x.b2, false, .cells x.a2 x.t2 x.f2⟩, ⟨x.b1, false, .cells x.a1 x.t1 x.f1⟩]) c.length ⟨0, by omega, by omega, (st.fit (by repeat (first | exact trivial | refine And.intro rfl ?_))).subL (by repeat (first | exact List.Sublist.refl _ | apply List.Sublist.cons_cons | apply List.Sublist.cons | exact List.nil_sublist _))⟩ ?_
  clear st
  rintro z a w' ⟨i, hi, rfl, st⟩
  by_cases hlt : i < c.length
  · have g1 := hx.at1 (k := i) (j := (i : Nat)) hlt rfl
    have g2 := hx.at2 (k := i) (j := (i : Nat)) hlt rfl
    have hm := List.getElem_mem hlt
    have c1 := fun w => l01CFinite_ok (c[i].1, c[i].2.1) (h.pt _ hm).1 (h.pt _ hm).2 w
    have c2 := fun w => l02Above_ok c[i].2.2 (h.wt _ hm) w
    (repeat' (first | (refine o_indexAddr st rfl rfl (by omega) (by omega) rfl ?_; clear st; intro _ st) | (refine o_loadS st rfl (by repeat constructor) g1 rfl ?_; clear st; intro _ st) | (refine o_loadS st rfl (by repeat constructor) g2 rfl ?_; clear st; intro _ st) | (refine o_callV st rfl (c1 _) rfl ?_; clear st; intro _ _ st) | (refine o_callV st rfl (c2 _) rfl ?_; clear st; intro _ _ st) | refine c_seq ?_ | refine c_region ?_ | refine l_do ?_ | refine l_doG st rfl rfl ?_ | ((first | refine l_skipU st rfl rfl rfl ?_ | refine l_skip st rfl rfl rfl rfl ?_); clear st; intro _ st) | refine l_nil ?_ | refine x_then ?_ | refine x_thenR ?_ | refine x_thenE ?_ | refine x_blkN ?_ | refine x_blkR ?_ | refine x_blkE ?_ | refine x_blkO rfl ?_ | refine wp_ret ?_ | refine wp_skip ?_ | refine wp_block ?_ | refine wp_exit ?_ | refine c_condT st rfl ?_ | refine c_condF st rfl ?_ | ((first | refine o_move st rfl rfl ?_ | refine o_assign st rfl rfl ?_ | refine o_pickT st rfl rfl rfl ?_ | refine o_pickF st rfl rfl rfl ?_ | refine o_fieldAddr st rfl rfl ?_ | refine o_loadS st rfl (by repeat constructor) rfl rfl ?_ | refine o_load3 st rfl (by repeat constructor) rfl ?_ | refine o_load2 st rfl (by repeat constructor) rfl ?_ | refine o_load4 st rfl (by repeat constructor) rfl ?_ | refine o_len st rfl rfl ?_ | refine o_add64 st rfl rfl rfl (by omega) (by omega) ?_ | refine o_nilCheck st rfl rfl ?_ | refine o_notT st rfl rfl ?_ | refine o_notF st rfl rfl ?_); clear st; intro _ st) | ((first | refine o_lss st rfl rfl rfl ?_ ?_ | refine o_gtr st rfl rfl rfl ?_ ?_ | refine o_neqI st rfl rfl rfl ?_ ?_) <;> clear st <;> intro _ _ st <;> (try (exfalso; omega)))))
    exact ⟨c.length - (i + 1), by omega, i + 1, by omega, rfl, (st.fit (by repeat (first | exact trivial | refine And.intro rfl ?_))).subL (by repeat (first | exact List.Sublist.refl _ | apply List.Sublist.cons_cons | apply List.Sublist.cons | exact List.nil_sublist _))⟩
  · obtain rfl : i = c.length := by omega
    (repeat' (first | refine c_seq ?_ | refine c_region ?_ | refine l_do ?_ | refine l_doG st rfl rfl ?_ | ((first | refine l_skipU st rfl rfl rfl ?_ | refine l_skip st rfl rfl rfl rfl ?_); clear st; intro _ st) | refine l_nil ?_ | refine x_then ?_ | refine x_thenR ?_ | refine x_thenE ?_ | refine x_blkN ?_ | refine x_blkR ?_ | refine x_blkE ?_ | refine x_blkO rfl ?_ | refine wp_ret ?_ | refine wp_skip ?_ | refine wp_block ?_ | refine wp_exit ?_ | refine c_condT st rfl ?_ | refine c_condF st rfl ?_ | ((first | refine o_move st rfl rfl ?_ | refine o_assign st rfl rfl ?_ | refine o_pickT st rfl rfl rfl ?_ | refine o_pickF st rfl rfl rfl ?_ | refine o_fieldAddr st rfl rfl ?_ | refine o_loadS st rfl (by repeat constructor) rfl rfl ?_ | refine o_load3 st rfl (by repeat constructor) rfl ?_ | refine o_load2 st rfl (by repeat constructor) rfl ?_ | refine o_load4 st rfl (by repeat constructor) rfl ?_ | refine o_len st rfl rfl ?_ | refine o_add64 st rfl rfl rfl (by omega) (by omega) ?_ | refine o_nilCheck st rfl rfl ?_ | refine o_notT st rfl rfl ?_ | refine o_notF st rfl rfl ?_); clear st; intro _ st) | ((first | refine o_lss st rfl rfl rfl ?_ ?_ | refine o_gtr st rfl rfl rfl ?_ ?_ | refine o_neqI st rfl rfl rfl ?_ ?_) <;> clear st <;> intro _ _ st <;> (try (exfalso; omega)))))
    refine post1 st Try.results72 (rd_t st rfl) ?_
    exact ⟨rfl, st.ex0⟩
theorem l02Times_ok (a : Nat × Nat) (x : Nat) (r : Nat × Nat) (h : scaledC a x = some r) (w : World) : CV Try.prog 138 [.complex .f32 a.1 a.2, .float .f32 x] w (.complex .f32 r.1 r.2) := by
  obtain ⟨u, hu, h⟩ := ob h
  obtain ⟨v, hv, h⟩ := ob h
  obtain rfl := Option.some.inj h
  refine enter Try.func138 rfl rfl rfl rfl ?_
  intro y st
  (repeat' (first | (refine o_real st rfl rfl ?_; clear st; intro _ st) | (refine o_imag st rfl rfl ?_; clear st; intro _ st) | (refine o_complex st rfl rfl rfl ?_; clear st; intro _ st) | (refine o_fopK st rfl rfl hu rfl ?_; clear st; intro _ st) | (refine o_fopK st rfl rfl hv rfl ?_; clear st; intro _ st) | refine c_seq ?_ | refine c_region ?_ | refine l_do ?_ | refine l_nil ?_ | refine x_then ?_ | refine x_thenR ?_ | refine x_thenE ?_ | refine wp_ret ?_ | ((first | refine o_move st rfl rfl ?_ | refine o_assign st rfl rfl ?_); clear st; intro _ st) | (refine o_fop rfl st rfl rfl (by first | assumption | exact Is_ofInt _ _ | exact Is_lit (by decide +kernel)) (by first | assumption | exact Is_ofInt _ _ | exact Is_lit (by decide +kernel)) rfl ?_; clear st; intro _ _ _ _ st)))
  refine post1 st Try.results138 (rd_t st rfl) ?_
  exact ⟨rfl, st.ex0⟩
theorem l02Blend_ok (a b : Kn) (t : Nat) (r : Kn) (h : blendC a b t = some r) (w : World) : CV Try.prog 132 [.complex .f32 a.1 a.2.1, .complex .f32 b.1 b.2.1, .float .f32 a.2.2, .float .f32 b.2.2, .float .f32 t] w (.tuple #[.complex .f32 r.1 r.2.1, .float .f32 r.2.2]) := by
  obtain ⟨o, ho, h⟩ := ob h
  obtain ⟨f, hf, h⟩ := ob h
  obtain ⟨s, hs, h⟩ := ob h
  obtain ⟨v, hv, h⟩ := ob h
  obtain ⟨p, hp, h⟩ := ob h
  obtain ⟨q, hq, h⟩ := ob h
  obtain ⟨m, hm, h⟩ := ob h
  obtain ⟨i, hi, h⟩ := ob h
  obtain ⟨z, hz, h⟩ := ob h
  obtain rfl := Option.some.inj h
  obtain ⟨m1, hm1, hm⟩ := ob hm
  obtain ⟨m2, hm2, hm⟩ := ob hm
  obtain rfl := Option.some.inj hm
  have c1 := fun w => l02Times_ok (a.1, a.2.1) f p hp w
  have c2 := fun w => l02Times_ok (b.1, b.2.1) s q hq w
  have c4 := fun w => l02Times_ok (m1, m2) i z hz w
  refine enter Try.func132 rfl rfl rfl rfl ?_
  intro y st
  (repeat' (first | (refine o_callV st rfl (c1 _) rfl ?_; clear st; intro _ _ st) | (refine o_callV st rfl (c2 _) rfl ?_; clear st; intro _ _ st) | (refine o_cadd st rfl rfl hm1 hm2 rfl ?_; clear st; intro _ st) | (refine o_callV st rfl (c4 _) rfl ?_; clear st; intro _ _ st) | (refine o_fopK st rfl rfl ho rfl ?_; clear st; intro _ st) | (refine o_fopK st rfl rfl hf rfl ?_; clear st; intro _ st) | (refine o_fopK st rfl rfl hs rfl ?_; clear st; intro _ st) | (refine o_fopK st rfl rfl hv rfl ?_; clear st; intro _ st) | (refine o_fopK st rfl rfl hi rfl ?_; clear st; intro _ st) | refine c_seq ?_ | refine c_region ?_ | refine l_do ?_ | refine l_nil ?_ | refine x_then ?_ | refine x_thenR ?_ | refine x_thenE ?_ | refine wp_ret ?_ | ((first | refine o_move st rfl rfl ?_ | refine o_assign st rfl rfl ?_ | refine o_add64 st rfl rfl rfl (by omega) (by omega) ?_); clear st; intro _ st) | (refine o_fop rfl st rfl rfl (by first | assumption | exact Is_ofInt _ _ | exact Is_lit (by decide +kernel)) (by first | assumption | exact Is_ofInt _ _ | exact Is_lit (by decide +kernel)) rfl ?_; clear st; intro _ _ _ _ st)))
  refine post2 st Try.results132 (rd_t st rfl) (rd_t st rfl) ?_
  exact ⟨rfl, st.ex0⟩
theorem l02Row_ok (c : List Kn) (t : Nat) (c' : List Kn) (h : nextC c t = some c') (h2 : 2 ≤ c.length) (hl : c.length ≤ 1000) (p : Nat) (w : World) (hp : AtP w p c) : CM2 Try.prog 116 [.pointer (some ⟨p, 0, none⟩), .float .f32 t] w (OwnC c') := by
  obtain ⟨hlen, hg⟩ := nextC_get t c c' h
  obtain ⟨x, hw, hx, h3, h4⟩ := hp
  refine enter Try.func116 rfl rfl rfl rfl ?_
  intro a st
  have st := ((st.addOld h3).addOld h4).addOld hw
  (repeat' (first | (refine o_alloc (d := 4) st rfl ?_; clear st; intro p4 _ _ st) | (refine o_alloc (d := 5) st rfl ?_; clear st; intro p5 _ _ st) | refine c_seq ?_ | refine c_region ?_ | refine l_do ?_ | refine l_nil ?_ | refine x_then ?_ | refine x_thenR ?_ | refine x_thenE ?_ | refine x_blkN ?_ | refine x_blkR ?_ | refine x_blkE ?_ | refine x_blkO rfl ?_ | refine wp_ret ?_ | refine wp_skip ?_ | refine wp_block ?_ | refine wp_exit ?_ | refine c_condT st rfl ?_ | refine c_condF st rfl ?_ | ((first | refine o_move st rfl rfl ?_ | refine o_assign st rfl rfl ?_); clear st; intro _ st) | (refine o_alloc st rfl ?_; clear st; intro _ _ _ st) | ((first | refine o_fieldAddr st rfl rfl ?_ | refine o_loadS st rfl (by repeat constructor) rfl rfl ?_ | refine o_load3 st rfl (by repeat constructor) rfl ?_ | refine o_load2 st rfl (by repeat constructor) rfl ?_ | refine o_load4 st rfl (by repeat constructor) rfl ?_); clear st; intro _ st) | ((first | refine o_storeS st rfl rfl rfl (by repeat constructor) rfl (by dsimp only [List.set]) ?_ | refine o_storeW st rfl rfl (by repeat constructor) rfl rfl rfl ?_); clear st; intro _ _ st) | ((first | refine o_build3 st rfl rfl rfl rfl rfl rfl rfl ?_ | refine o_build2 st rfl rfl rfl rfl rfl ?_ | refine o_build0 st rfl ?_ | refine o_extract st rfl rfl rfl ?_ | refine o_len st rfl rfl ?_ | refine o_add64 st rfl rfl rfl (by omega) (by omega) ?_ | refine o_nilCheck st rfl rfl ?_); clear st; intro _ st) | (refine o_lss st rfl rfl rfl ?_ ?_ <;> clear st <;> intro _ _ st <;> (try (exfalso; omega)))))
  refine wp_loop_ghost (fun n a w' => ∃ (i : Nat) (vp vw : Value) (Lp Lw : List Ent), i ≤ c'.length ∧ n = c'.length - i ∧ GV 31 vp ((c'.take i).map vPt) Lp ∧ GV 29 vw ((c'.take i).map vWt) Lw ∧ St w Try.f116.ntmps a w' [(0, .pointer (some ⟨p, 0, none⟩)), (1, .float .f32 t), (4, .pointer (some ⟨p4, 0, none⟩)), (5, .pointer (some ⟨p5, 0, none⟩)), (6, .int .i64 (i : Nat))]
    (eP p5 vp vw :: eP p4 (.slice none 0 0) (.slice none 0 0) :: ⟨p, false, .cells [.slice (some ⟨x.b1, x.o1, none⟩) c.length x.cp, .slice (some ⟨x.b2, x.o2, none⟩) c.length x.cw].toArray 27 (0, 0)⟩ :: ⟨x.b2, false, .cells x.a2 x.t2 x.f2⟩ :: ⟨x.b1, false, .cells x.a1 x.t1 x.f1⟩ :: (Lp ++ Lw))) c'.length ⟨0, _, _, [], [], by omega, by omega, GV.nil, GV.nil, (st.fit (by repeat (first | exact trivial | refine And.intro rfl ?_))).subL (by repeat (first | exact List.Sublist.refl _ | apply List.Sublist.cons_cons | apply List.Sublist.cons | exact List.nil_sublist _))⟩ ?_
  clear st
  rintro n a w' ⟨i, vp, vw, Lp, Lw, hi, rfl, hGp, hGw, st⟩
  by_cases hlt : i < c'.length
  · have hi1 : i + 1 < c.length := by omega
    have hb := hg i hi1 hlt
    have g1 := hx.at1 (k := i) (j := (i : Nat)) (by omega) rfl
    have g2 := hx.at2 (k := i) (j := (i : Nat)) (by omega) rfl
    have g3 := hx.at1 (k := i + 1) (j := ((i : Nat) : Int) + 1) hi1 (by omega)
    have g4 := hx.at2 (k := i + 1) (j := ((i : Nat) : Int) + 1) hi1 (by omega)
    have c2 := fun w => l02Blend_ok _ _ t _ hb w
    (repeat' (first | refine c_seq ?_ | refine c_region ?_ | refine l_do ?_ | refine l_nil ?_ | refine x_then ?_ | refine x_thenR ?_ | refine x_thenE ?_ | refine x_blkN ?_ | refine x_blkR ?_ | refine x_blkE ?_ | refine x_blkO rfl ?_ | refine wp_ret ?_ | refine wp_skip ?_ | refine wp_block ?_ | refine wp_exit ?_ | refine c_condT st rfl ?_ | refine c_condF st rfl ?_ | ((first | refine o_move st rfl rfl ?_ | refine o_assign st rfl rfl ?_); clear st; intro _ st) | (refine o_alloc st rfl ?_; clear st; intro _ _ _ st) | ((first | refine o_fieldAddr st rfl rfl ?_ | refine o_loadS st rfl (by repeat constructor) rfl rfl ?_ | refine o_load3 st rfl (by repeat constructor) rfl ?_ | refine o_load2 st rfl (by repeat constructor) rfl ?_ | refine o_load4 st rfl (by repeat constructor) rfl ?_); clear st; intro _ st) | ((first | refine o_storeS st rfl rfl rfl (by repeat constructor) rfl (by dsimp only [List.set]) ?_ | refine o_storeW st rfl rfl (by repeat constructor) rfl rfl rfl ?_); clear st; intro _ _ st) | ((first | refine o_build3 st rfl rfl rfl rfl rfl rfl rfl ?_ | refine o_build2 st rfl rfl rfl rfl rfl ?_ | refine o_build0 st rfl ?_ | refine o_extract st rfl rfl rfl ?_ | refine o_len st rfl rfl ?_ | refine o_add64 st rfl rfl rfl (by omega) (by omega) ?_ | refine o_nilCheck st rfl rfl ?_); clear st; intro _ st) | (refine o_lss st rfl rfl rfl ?_ ?_ <;> clear st <;> intro _ _ st <;> (try (exfalso; omega)))))
    refine c_drawA (last := 36) hm_ (by decide +kernel) (by decide +kernel) st ?_; clear st; intro _ st
    refine d_v 0 st (by repeat constructor) rfl (by decide +kernel) rfl (v_move st rfl) ?_; clear st; intro _ st
    refine d_v 1 st (by repeat constructor) rfl (by decide +kernel) rfl (v_nilCheck st rfl) ?_; clear st; intro _ st
    refine d_v 2 st (by repeat constructor) rfl (by decide +kernel) rfl (v_fieldAddr st rfl) ?_; clear st; intro _ st
    refine d_v 3 st (by repeat constructor) rfl (by decide +kernel) rfl (by first | exact v_load3 st rfl (by repeat constructor) | exact v_loadS st rfl (by repeat constructor) rfl) ?_; clear st; intro _ st
    refine d_v 4 st (by repeat constructor) rfl (by decide +kernel) rfl (v_move st rfl) ?_; clear st; intro _ st
    refine d_v 5 st (by repeat constructor) rfl (by decide +kernel) rfl (v_indexAddr st rfl rfl (by omega) (by omega)) ?_; clear st; intro _ st
    refine d_v 6 st (by repeat constructor) rfl (by decide +kernel) rfl (v_loadS st rfl (by repeat constructor) g1) ?_; clear st; intro _ st
    refine d_v 7 st (by repeat constructor) rfl (by decide +kernel) rfl (v_move st rfl) ?_; clear st; intro _ st
    refine d_v 8 st (by repeat constructor) rfl (by decide +kernel) rfl (v_nilCheck st rfl) ?_; clear st; intro _ st
    refine d_v 9 st (by repeat constructor) rfl (by decide +kernel) rfl (v_fieldAddr st rfl) ?_; clear st; intro _ st
    refine d_v 10 st (by repeat constructor) rfl (by decide +kernel) rfl (by first | exact v_load3 st rfl (by repeat constructor) | exact v_loadS st rfl (by repeat constructor) rfl) ?_; clear st; intro _ st
    refine d_v 11 st (by repeat constructor) rfl (by decide +kernel) rfl (v_move st rfl) ?_; clear st; intro _ st
    refine d_v 12 st (by repeat constructor) rfl (by decide +kernel) rfl (v_add64 st rfl rfl (by omega) (by omega)) ?_; clear st; intro _ st
    refine d_v 13 st (by repeat constructor) rfl (by decide +kernel) rfl (v_indexAddr st rfl rfl (by omega) (by omega)) ?_; clear st; intro _ st
    refine d_v 14 st (by repeat constructor) rfl (by decide +kernel) rfl (v_loadS st rfl (by repeat constructor) g3) ?_; clear st; intro _ st
    refine d_v 15 st (by repeat constructor) rfl (by decide +kernel) rfl (v_move st rfl) ?_; clear st; intro _ st
    refine d_v 16 st (by repeat constructor) rfl (by decide +kernel) rfl (v_nilCheck st rfl) ?_; clear st; intro _ st
    refine d_v 17 st (by repeat constructor) rfl (by decide +kernel) rfl (v_fieldAddr st rfl) ?_; clear st; intro _ st
    refine d_v 18 st (by repeat constructor) rfl (by decide +kernel) rfl (by first | exact v_load3 st rfl (by repeat constructor) | exact v_loadS st rfl (by repeat constructor) rfl) ?_; clear st; intro _ st
    refine d_v 19 st (by repeat constructor) rfl (by decide +kernel) rfl (v_move st rfl) ?_; clear st; intro _ st
    refine d_v 20 st (by repeat constructor) rfl (by decide +kernel) rfl (v_indexAddr st rfl rfl (by omega) (by omega)) ?_; clear st; intro _ st
    refine d_v 21 st (by repeat constructor) rfl (by decide +kernel) rfl (v_loadS st rfl (by repeat constructor) g2) ?_; clear st; intro _ st
    refine d_v 22 st (by repeat constructor) rfl (by decide +kernel) rfl (v_move st rfl) ?_; clear st; intro _ st
    refine d_v 23 st (by repeat constructor) rfl (by decide +kernel) rfl (v_nilCheck st rfl) ?_; clear st; intro _ st
    refine d_v 24 st (by repeat constructor) rfl (by decide +kernel) rfl (v_fieldAddr st rfl) ?_; clear st; intro _ st
    refine d_v 25 st (by repeat constructor) rfl (by decide +kernel) rfl (by first | exact v_load3 st rfl (by repeat constructor) | exact v_loadS st rfl (by repeat constructor) rfl) ?_; clear st; intro _ st
    refine d_v 26 st (by repeat constructor) rfl (by decide +kernel) rfl (v_move st rfl) ?_; clear st; intro _ st
    refine d_v 27 st (by repeat constructor) rfl (by decide +kernel) rfl (v_add64 st rfl rfl (by omega) (by omega)) ?_; clear st; intro _ st
    refine d_v 28 st (by repeat constructor) rfl (by decide +kernel) rfl (v_indexAddr st rfl rfl (by omega) (by omega)) ?_; clear st; intro _ st
    refine d_v 29 st (by repeat constructor) rfl (by decide +kernel) rfl (v_loadS st rfl (by repeat constructor) g4) ?_; clear st; intro _ st
    refine d_v 30 st (by repeat constructor) rfl (by decide +kernel) rfl (v_move st rfl) ?_; clear st; intro _ st
    refine d_one 31 (by decide +kernel) rfl ?_
    refine o_callV st rfl (c2 _) rfl ?_; clear st; intro _ _ st
    refine kh st (by repeat constructor) ?_
    refine d_v 32 st (by repeat constructor) rfl (by decide +kernel) rfl (v_move st rfl) ?_; clear st; intro _ st
    refine d_v 33 st (by repeat constructor) rfl (by decide +kernel) rfl (v_extract st rfl rfl) ?_; clear st; intro _ st
    refine d_v 34 st (by repeat constructor) rfl (by decide +kernel) rfl (v_extract st rfl rfl) ?_; clear st; intro _ st
    refine d_v 35 st (by repeat constructor) rfl (by decide +kernel) rfl (v_assign st rfl) ?_; clear st; intro _ st
    refine d_one 36 (by decide +kernel) rfl ?_
    (first | (refine o_assign st rfl rfl ?_; clear st; intro _ st))
    refine k_last ?_
    refine d_done (by decide +kernel) ?_
    (repeat' (first | (refine o_buildSlice st rfl rfl rfl rfl rfl rfl ?_; clear st; intro _ _ _ st) | (refine o_appendGV rfl st hGp rfl rfl (by repeat constructor) rfl (by rw [List.length_map, List.length_take]; omega) (by repeat (first | exact RemS.here | apply RemS.there)) rfl ?_; clear st; intro b1 cap1 pad1 _ _ hp1 st) | (refine o_appendGV rfl st hGw rfl rfl (by repeat constructor) rfl (by rw [List.length_map, List.length_take]; omega) (by repeat (first | exact RemS.hereEnd | apply RemS.there)) rfl ?_; clear st; intro b2 cap2 pad2 _ _ hp2 st) | refine c_seq ?_ | refine c_region ?_ | refine l_do ?_ | refine l_nil ?_ | refine x_then ?_ | refine x_thenR ?_ | refine x_thenE ?_ | refine x_blkN ?_ | refine x_blkR ?_ | refine x_blkE ?_ | refine x_blkO rfl ?_ | refine wp_ret ?_ | refine wp_skip ?_ | refine wp_block ?_ | refine wp_exit ?_ | refine c_condT st rfl ?_ | refine c_condF st rfl ?_ | ((first | refine o_move st rfl rfl ?_ | refine o_assign st rfl rfl ?_); clear st; intro _ st) | (refine o_alloc st rfl ?_; clear st; intro _ _ _ st) | ((first | refine o_fieldAddr st rfl rfl ?_ | refine o_loadS st rfl (by repeat constructor) rfl rfl ?_ | refine o_load3 st rfl (by repeat constructor) rfl ?_ | refine o_load2 st rfl (by repeat constructor) rfl ?_ | refine o_load4 st rfl (by repeat constructor) rfl ?_); clear st; intro _ st) | ((first | refine o_storeS st rfl rfl rfl (by repeat constructor) rfl (by dsimp only [List.set]) ?_ | refine o_storeW st rfl rfl (by repeat constructor) rfl rfl rfl ?_); clear st; intro _ _ st) | ((first | refine o_build3 st rfl rfl rfl rfl rfl rfl rfl ?_ | refine o_build2 st rfl rfl rfl rfl rfl ?_ | refine o_build0 st rfl ?_ | refine o_extract st rfl rfl rfl ?_ | refine o_len st rfl rfl ?_ | refine o_add64 st rfl rfl rfl (by omega) (by omega) ?_ | refine o_nilCheck st rfl rfl ?_); clear st; intro _ st) | (refine o_lss st rfl rfl rfl ?_ ?_ <;> clear st <;> intro _ _ st <;> (try (exfalso; omega)))))
    refine ⟨c'.length - (i + 1), by omega, i + 1, _, _, [⟨b1, true, _⟩], [⟨b2, true, _⟩], by omega, rfl, by rw [← take_map_one (f := vPt) hlt]; exact GV.grown hp1, by rw [← take_map_one (f := vWt) hlt]; exact GV.grown hp2, ?_⟩
    have st : St w _ _ _ _ (⟨b2, true, _⟩ :: ⟨b1, true, _⟩ :: eP p5 _ _ :: eP p4 _ _ :: _ :: _ :: _ :: []) := st.subL (by repeat (first | exact List.Sublist.refl _ | apply List.Sublist.cons_cons | apply List.Sublist.cons | exact List.nil_sublist _))
    exact (St.back2 (L := [_, _, _, _, _]) st.swap2).fit (by repeat (first | exact trivial | refine And.intro rfl ?_))
  · obtain rfl : i = c'.length := by omega
    rw [List.take_length] at hGp hGw
    have h0 : 0 < c'.length := by omega
    obtain ⟨b1, cap1, pad1, rfl, rfl⟩ := hGp.own h0
    obtain ⟨b2, cap2, pad2, rfl, rfl⟩ := hGw.own h0
    simp only [List.cons_append, List.nil_append] at st
    (repeat' (first | refine c_seq ?_ | refine c_region ?_ | refine l_do ?_ | refine l_nil ?_ | refine x_then ?_ | refine x_thenR ?_ | refine x_thenE ?_ | refine x_blkN ?_ | refine x_blkR ?_ | refine x_blkE ?_ | refine x_blkO rfl ?_ | refine wp_ret ?_ | refine wp_skip ?_ | refine wp_block ?_ | refine wp_exit ?_ | refine c_condT st rfl ?_ | refine c_condF st rfl ?_ | ((first | refine o_move st rfl rfl ?_ | refine o_assign st rfl rfl ?_); clear st; intro _ st) | (refine o_alloc st rfl ?_; clear st; intro _ _ _ st) | ((first | refine o_fieldAddr st rfl rfl ?_ | refine o_loadS st rfl (by repeat constructor) rfl rfl ?_ | refine o_load3 st rfl (by repeat constructor) rfl ?_ | refine o_load2 st rfl (by repeat constructor) rfl ?_ | refine o_load4 st rfl (by repeat constructor) rfl ?_); clear st; intro _ st) | ((first | refine o_storeS st rfl rfl rfl (by repeat constructor) rfl (by dsimp only [List.set]) ?_ | refine o_storeW st rfl rfl (by repeat constructor) rfl rfl rfl ?_); clear st; intro _ _ st) | ((first | refine o_build3 st rfl rfl rfl rfl rfl rfl rfl ?_ | refine o_build2 st rfl rfl rfl rfl rfl ?_ | refine o_build0 st rfl ?_ | refine o_extract st rfl rfl rfl ?_ | refine o_len st rfl rfl ?_ | refine o_add64 st rfl rfl rfl (by omega) (by omega) ?_ | refine o_nilCheck st rfl rfl ?_); clear st; intro _ st) | (refine o_lss st rfl rfl rfl ?_ ?_ <;> clear st <;> intro _ _ st <;> (try (exfalso; omega)))))
    refine post1 st Try.results116 (rd_c st rfl (by repeat constructor) rfl) ?_
    have hne := st.ne_of (e1 := ⟨b1, true, oV 31 (c'.map vPt) pad1⟩) (e2 := ⟨b2, true, oV 29 (c'.map vWt) pad2⟩) rfl (by repeat (first | exact List.Sublist.refl _ | apply List.Sublist.cons_cons | apply List.Sublist.cons | exact List.nil_sublist _))
    exact ⟨_, b1, _, b2, _, rfl, ⟨cap1, cap2, pad1, pad2, rfl, rfl, rfl⟩, st.ex2 (by repeat constructor) (by repeat constructor) hne⟩
theorem l02At_ok (c : List Kn) (t : Nat) (k : Kn) (h : atK (c.length - 1) c t = some k) (h1 : 1 ≤ c.length) (hl : c.length ≤ 1000) (p : Nat) (w : World) (hp : AtP w p c) : CV Try.prog 75 [.pointer (some ⟨p, 0, none⟩), .float .f32 t] w (.complex .f32 k.1 k.2.1) := by
  obtain ⟨x, hw, hx, h3, h4⟩ := hp
  refine enter Try.func75 rfl rfl rfl rfl ?_
  intro a st
  have st := ((st.addOld h3).addOld h4).addOld hw
  (repeat' (first | (refine o_alloc (d := 5) st rfl ?_; clear st; intro p5 _ _ st) | refine c_seq ?_ | refine c_region ?_ | refine l_do ?_ | refine l_nil ?_ | refine x_then ?_ | refine x_thenR ?_ | refine x_thenE ?_ | refine x_blkN ?_ | refine x_blkR ?_ | refine x_blkE ?_ | refine x_blkO rfl ?_ | refine wp_ret ?_ | refine wp_skip ?_ | refine wp_block ?_ | refine wp_exit ?_ | refine c_condT st rfl ?_ | refine c_condF st rfl ?_ | ((first | refine o_move st rfl rfl ?_ | refine o_assign st rfl rfl ?_); clear st; intro _ st) | (refine o_alloc st rfl ?_; clear st; intro _ _ _ st) | ((first | refine o_fieldAddr st rfl rfl ?_ | refine o_loadS st rfl (by repeat constructor) rfl rfl ?_ | refine o_load3 st rfl (by repeat constructor) rfl ?_ | refine o_load2 st rfl (by repeat constructor) rfl ?_ | refine o_load4 st rfl (by repeat constructor) rfl ?_); clear st; intro _ st) | ((first | refine o_storeS st rfl rfl rfl (by repeat constructor) rfl (by dsimp only [List.set]) ?_ | refine o_storeW st rfl rfl (by repeat constructor) rfl rfl rfl ?_); clear st; intro _ _ st) | ((first | refine o_len st rfl rfl ?_ | refine o_nilCheck st rfl rfl ?_); clear st; intro _ st) | (refine o_gtr st rfl rfl rfl ?_ ?_ <;> clear st <;> intro _ _ st <;> (try (exfalso; omega)))))
  refine wp_loop_ghost (fun n a w' => ∃ (d : List Kn) (x : CC), d.length = n + 1 ∧ d.length ≤ 1000 ∧ atK n d t = some k ∧ x.has d ∧ St w Try.f75.ntmps a w' [(1, .float .f32 t), (5, .pointer (some ⟨p5, 0, none⟩))]
    (eP p5 (.slice (some ⟨x.b1, x.o1, none⟩) d.length x.cp) (.slice (some ⟨x.b2, x.o2, none⟩) d.length x.cw) :: ⟨x.b2, false, .cells x.a2 x.t2 x.f2⟩ :: ⟨x.b1, false, .cells x.a1 x.t1 x.f1⟩ :: [])) (c.length - 1) ⟨c, x, by omega, hl, h, hx, (st.fit (by repeat (first | exact trivial | refine And.intro rfl ?_))).subL (by repeat (first | exact List.Sublist.refl _ | apply List.Sublist.cons_cons | apply List.Sublist.cons | exact List.nil_sublist _))⟩ ?_
  clear st
  rintro n a w' ⟨d, x, hn, hl, h, hx, st⟩
  cases n with
  | zero =>
    have g1 := hx.at1 (k := 0) (j := 0) (by omega) rfl
    have e : d[0] = k := by
      have : d.head? = some k := h
      rw [List.head?_eq_getElem?, List.getElem?_eq_getElem (by omega)] at this
      exact Option.some.inj this
    rw [e] at g1
    (repeat' (first | (refine o_indexAddr st rfl rfl (by omega) (by omega) rfl ?_; clear st; intro _ st) | (refine o_loadS st rfl (by repeat constructor) g1 rfl ?_; clear st; intro _ st) | refine c_seq ?_ | refine c_region ?_ | refine l_do ?_ | refine l_nil ?_ | refine x_then ?_ | refine x_thenR ?_ | refine x_thenE ?_ | refine x_blkN ?_ | refine x_blkR ?_ | refine x_blkE ?_ | refine x_blkO rfl ?_ | refine wp_ret ?_ | refine wp_skip ?_ | refine wp_block ?_ | refine wp_exit ?_ | refine c_condT st rfl ?_ | refine c_condF st rfl ?_ | ((first | refine o_move st rfl rfl ?_ | refine o_assign st rfl rfl ?_); clear st; intro _ st) | (refine o_alloc st rfl ?_; clear st; intro _ _ _ st) | ((first | refine o_fieldAddr st rfl rfl ?_ | refine o_loadS st rfl (by repeat constructor) rfl rfl ?_ | refine o_load3 st rfl (by repeat constructor) rfl ?_ | refine o_load2 st rfl (by repeat constructor) rfl ?_ | refine o_load4 st rfl (by repeat constructor) rfl ?_); clear st; intro _ st) | ((first | refine o_storeS st rfl rfl rfl (by repeat constructor) rfl (by dsimp only [List.set]) ?_ | refine o_storeW st rfl rfl (by repeat constructor) rfl rfl rfl ?_); clear st; intro _ _ st) | ((first | refine o_len st rfl rfl ?_ | refine o_nilCheck st rfl rfl ?_); clear st; intro _ st) | (refine o_gtr st rfl rfl rfl ?_ ?_ <;> clear st <;> intro _ _ st <;> (try (exfalso; omega)))))
    refine post1 st Try.results75 (rd_t st rfl) ?_
    exact ⟨rfl, st.ex0⟩
  | succ n =>
    obtain ⟨d', hd, h⟩ := ob h
    obtain ⟨hlen, _⟩ := nextC_get t d d' hd
    have c2 := fun w hv => l02Row_ok d t d' hd (by omega) hl p5 w hv
    (repeat' (first | (refine o_callM2 st rfl (c2 _ ⟨x, st.heap (by repeat constructor), hx, st.heap (by repeat constructor), st.heap (by repeat constructor)⟩) rfl ?_; clear st; rintro _ b1 _ b2 _ ⟨cap1, cap2, pad1, pad2, rfl, rfl, rfl⟩ _ _ st) | refine c_seq ?_ | refine c_region ?_ | refine l_do ?_ | refine l_nil ?_ | refine x_then ?_ | refine x_thenR ?_ | refine x_thenE ?_ | refine x_blkN ?_ | refine x_blkR ?_ | refine x_blkE ?_ | refine x_blkO rfl ?_ | refine wp_ret ?_ | refine wp_skip ?_ | refine wp_block ?_ | refine wp_exit ?_ | refine c_condT st rfl ?_ | refine c_condF st rfl ?_ | ((first | refine o_move st rfl rfl ?_ | refine o_assign st rfl rfl ?_); clear st; intro _ st) | (refine o_alloc st rfl ?_; clear st; intro _ _ _ st) | ((first | refine o_fieldAddr st rfl rfl ?_ | refine o_loadS st rfl (by repeat constructor) rfl rfl ?_ | refine o_load3 st rfl (by repeat constructor) rfl ?_ | refine o_load2 st rfl (by repeat constructor) rfl ?_ | refine o_load4 st rfl (by repeat constructor) rfl ?_); clear st; intro _ st) | ((first | refine o_storeS st rfl rfl rfl (by repeat constructor) rfl (by dsimp only [List.set]) ?_ | refine o_storeW st rfl rfl (by repeat constructor) rfl rfl rfl ?_); clear st; intro _ _ st) | ((first | refine o_len st rfl rfl ?_ | refine o_nilCheck st rfl rfl ?_); clear st; intro _ st) | (refine o_gtr st rfl rfl rfl ?_ ?_ <;> clear st <;> intro _ _ st <;> (try (exfalso; omega)))))
    exact ⟨n, by omega, d', ccOf d' b1 cap1 b2 cap2 pad1 pad2, by omega, by omega, h, ccOf_has _ _ _ _ _ _ _, (St.keep2 (L := [_]) (st.subL (by repeat (first | exact List.Sublist.refl _ | apply List.Sublist.cons_cons | apply List.Sublist.cons | exact List.nil_sublist _)))).fit (by repeat (first | exact trivial | refine And.intro rfl ?_))⟩
theorem SCurveAt_ok (c : List Kn) (t : Nat) (k : Kn) (h : atK (c.length - 1) c t = some k) (hg : GC c) (ht : Tm t) (hk : Gd k.1 ∧ Gd k.2.1) (v : Value) (w : World) (hv : CrV w c v) : CV Try.prog 28 [v, .float .f32 t] w (.tuple #[.complex .f32 k.1 k.2.1, .bool true]) := by
  have h0 := hg.lo
  have h8 := hg.hi
  obtain ⟨x, rfl, hx, h3, h4⟩ := hv.get (by omega)
  refine enter Try.func28 rfl rfl rfl rfl ?_
  intro a st
  have st := (st.addOld h3).addOld h4
  have c1 := fun p w hp => l02Is_ok c hg p w hp
  have c2 := fun w => l02Share_ok t ht w
  have c3 := fun p w hp => l02At_ok c t k h (by omega) (by omega) p w hp
  have c4 := fun w => l02Complex_ok (k.1, k.2.1) hk.1 hk.2 w
  (repeat' (first | (refine o_callV st rfl (c1 _ _ ⟨x, st.heap (by repeat constructor), hx, st.heap (by repeat constructor), st.heap (by repeat constructor)⟩) rfl ?_; clear st; intro _ _ st) | (refine o_callV st rfl (c2 _) rfl ?_; clear st; intro _ _ st) | (refine o_callV st rfl (c3 _ _ ⟨x, st.heap (by repeat constructor), hx, st.heap (by repeat constructor), st.heap (by repeat constructor)⟩) rfl ?_; clear st; intro _ _ st) | (refine o_callV st rfl (c4 _) rfl ?_; clear st; intro _ _ st) | refine c_seq ?_ | refine c_region ?_ | refine l_do ?_ | refine l_doG st rfl rfl ?_ | ((first | refine l_skipU st rfl rfl rfl ?_ | refine l_skip st rfl rfl rfl rfl ?_); clear st; intro _ st) | refine l_nil ?_ | refine x_then ?_ | refine x_thenR ?_ | refine x_thenE ?_ | refine wp_ret ?_ | refine wp_skip ?_ | refine c_condT st rfl ?_ | refine c_condF st rfl ?_ | ((first | refine o_move st rfl rfl ?_ | refine o_assign st rfl rfl ?_ | refine o_pickT st rfl rfl rfl ?_ | refine o_pickF st rfl rfl rfl ?_); clear st; intro _ st) | ((first | refine o_boxA st rfl rfl ?_ | refine o_boxS st rfl rfl rfl ?_); clear st; intro _ _ _ st) | ((first | refine o_extract st rfl rfl rfl ?_ | refine o_notT st rfl rfl ?_ | refine o_notF st rfl rfl ?_); clear st; intro _ st)))
  refine post2 st Try.results28 (rd_t st rfl) (rd_t st rfl) ?_
  exact ⟨rfl, st.ex0⟩
end Go.Proofs.Ytonbcbhnnflohaa
