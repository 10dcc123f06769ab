/-
  FnCurves: the point at a time; both parts of a curve.
-/
import Derived.Test.YtonbcbhnnflohaaYf
namespace Go.Proofs.Ytonbcbhnnflohaa
open Go.RowKit

section
variable {w0 w : World} {N : Nat} {a : Act} {E : List (Nat × Value)} {L : List Ent}
theorem St.keep2 {b1 b2 : Nat} {w1 w2 : Bool} {o1 o2 : Obj} (st : St w0 N a w E (⟨b1, w1, o1⟩ :: ⟨b2, w2, o2⟩ :: L)) : St w0 N a w E (L ++ [⟨b2, false, o2⟩, ⟨b1, false, o1⟩]) :=
  (st.disown.swap2.disown).perm (List.perm_append_comm (l₁ := [_, _]) (l₂ := L))
end
/-- The point at a time, with its weight. -/
def atK : Nat → List Kn → Nat → Option Kn
  | 0, c, _ => c.head?
  | n + 1, c, t => (nextC c t).bind fun d => atK n d t
attribute [local irreducible] Code.wp wpList Oper.wp Calls bodyPost Exit.then Exit.inBlock

theorem at_ok (c : List Kn) (t : Nat) (k : Kn) (h : atK (c.length - 1) c t = some k) (h1 : 1 ≤ c.length) (hl : c.length ≤ 1000) (v : Value) (w : World) (hv : CrV w c v) : CV Try.prog 47 [v, .float .f32 t] w (.complex .f32 k.1 k.2.1) := by
  obtain ⟨x, rfl, hx, h3, h4⟩ := hv.get (by omega)
  refine enter Try.func47 rfl rfl rfl rfl ?_
  intro a st
  have st := (st.addOld h3).addOld h4
  (repeat' (first | refine c_seq ?_  | refine c_region ?_  | refine l_do ?_  | refine l_nil ?_  | refine x_then ?_  | refine x_thenE ?_  | refine x_blkN ?_  | refine x_blkE ?_  | refine wp_ret ?_  | refine wp_skip ?_  | refine wp_block ?_  | refine wp_exit ?_  | refine c_condT st rfl ?_  | refine c_condF st rfl ?_  | ((first | refine o_move st rfl rfl ?_  | refine o_assign st rfl rfl ?_); clear st; intro _ st)  | ((first | refine o_boxA st rfl rfl ?_ ); clear st; intro _ _ _ st)  | ((first | refine o_fieldAddr st rfl rfl ?_  | refine o_loadS st rfl (by repeat constructor) rfl rfl ?_  | refine o_load2 st rfl (by repeat constructor) rfl ?_ ); clear st; intro _ st)  | ((first | refine o_storeW st rfl rfl (by repeat constructor) rfl rfl rfl ?_); clear st; intro _ _ st)  | (refine o_gtr st rfl rfl rfl ?_ ?_ <;> clear st <;> intro _ _ st <;> (try (exfalso; omega)))))
  refine wp_loop_ghost (fun n a w' => ∃ (d : List Kn) (x : CC) (p2 : Nat), d.length = n + 1 ∧ d.length ≤ 1000 ∧ atK n d t = some k ∧ x.has d ∧ St w Try.f47.ntmps a w' [(1, .float .f32 t), (2, .pointer (some ⟨p2, 0, none⟩))]
    (⟨p2, true, .cells [.slice (some ⟨x.b1, x.o1, none⟩) d.length x.cp, .slice (some ⟨x.b2, x.o2, none⟩) d.length x.cw].toArray 27 (0, 0)⟩ :: ⟨x.b2, false, .cells x.a2 x.t2 x.f2⟩ :: ⟨x.b1, false, .cells x.a1 x.t1 x.f1⟩ :: [])) (c.length - 1) ⟨c, x, _, by omega, hl, h, hx, (st.fit (by repeat (first | exact trivial  | refine And.intro rfl ?_))).subL (by repeat (first | exact List.Sublist.refl _  | apply List.Sublist.cons_cons  | apply List.Sublist.cons  | exact List.nil_sublist _))⟩ ?_
  clear st
  rintro n a w' ⟨d, x, p2, hn, hl, h, hx, st⟩
  have c1 := fun w hv => degree_ok d (.agg [.slice (some ⟨x.b1, x.o1, none⟩) d.length x.cp, .slice (some ⟨x.b2, x.o2, none⟩) d.length x.cw].toArray) hl w hv
  cases n with
  | zero =>
    have g1 := hx.at1 (k := 0) (j := 0) (by omega) rfl
    have e : d[0] = k := by
      have : d.head? = some k := h
      rw [List.head?_eq_getElem?, List.getElem?_eq_getElem (by omega)] at this
      exact Option.some.inj this
    rw [e] at g1
    (repeat' (first | (refine o_callV st rfl (c1 _ (x.crv hx (st.heap (by repeat constructor)) (st.heap (by repeat constructor)))) rfl ?_; clear st; intro _ _ st)  | (refine o_indexAddr st rfl rfl (by omega) (by omega) rfl ?_; clear st; intro _ st)  | (refine o_loadS st rfl (by repeat constructor) g1 rfl ?_; clear st; intro _ st)  | refine c_seq ?_  | refine c_region ?_  | refine l_do ?_  | refine l_nil ?_  | refine x_then ?_  | refine x_thenE ?_  | refine x_blkN ?_  | refine x_blkE ?_  | refine wp_ret ?_  | refine wp_skip ?_  | refine wp_block ?_  | refine wp_exit ?_  | refine c_condT st rfl ?_  | refine c_condF st rfl ?_  | ((first | refine o_move st rfl rfl ?_  | refine o_assign st rfl rfl ?_); clear st; intro _ st)  | ((first | refine o_boxA st rfl rfl ?_ ); clear st; intro _ _ _ st)  | ((first | refine o_fieldAddr st rfl rfl ?_  | refine o_loadS st rfl (by repeat constructor) rfl rfl ?_  | refine o_load2 st rfl (by repeat constructor) rfl ?_ ); clear st; intro _ st)  | ((first | refine o_storeW st rfl rfl (by repeat constructor) rfl rfl rfl ?_); clear st; intro _ _ st)  | (refine o_gtr st rfl rfl rfl ?_ ?_ <;> clear st <;> intro _ _ st <;> (try (exfalso; omega)))))
    refine post1 st Try.results47 (rd_t st rfl) ?_
    exact ⟨rfl, st.ex0⟩
  | succ n =>
    obtain ⟨d', hd, h⟩ := ob h
    obtain ⟨hlen, _⟩ := nextC_get t d d' hd
    have c2 := fun w hv => next_ok d t d' hd (by omega) hl (.agg [.slice (some ⟨x.b1, x.o1, none⟩) d.length x.cp, .slice (some ⟨x.b2, x.o2, none⟩) d.length x.cw].toArray) w hv
    (repeat' (first | (refine o_callV st rfl (c1 _ (x.crv hx (st.heap (by repeat constructor)) (st.heap (by repeat constructor)))) rfl ?_; clear st; intro _ _ st)  | (refine o_callM2 st rfl (c2 _ (x.crv hx (st.heap (by repeat constructor)) (st.heap (by repeat constructor)))) rfl ?_; clear st; rintro _ b1 _ b2 _ ⟨cap1, cap2, pad1, pad2, rfl, rfl, rfl⟩ _ _ st)  | refine c_seq ?_  | refine c_region ?_  | refine l_do ?_  | refine l_nil ?_  | refine x_then ?_  | refine x_thenE ?_  | refine x_blkN ?_  | refine x_blkE ?_  | refine wp_ret ?_  | refine wp_skip ?_  | refine wp_block ?_  | refine wp_exit ?_  | refine c_condT st rfl ?_  | refine c_condF st rfl ?_  | ((first | refine o_move st rfl rfl ?_  | refine o_assign st rfl rfl ?_); clear st; intro _ st)  | ((first | refine o_boxA st rfl rfl ?_ ); clear st; intro _ _ _ st)  | ((first | refine o_fieldAddr st rfl rfl ?_  | refine o_loadS st rfl (by repeat constructor) rfl rfl ?_  | refine o_load2 st rfl (by repeat constructor) rfl ?_ ); clear st; intro _ st)  | ((first | refine o_storeW st rfl rfl (by repeat constructor) rfl rfl rfl ?_); clear st; intro _ _ st)  | (refine o_gtr st rfl rfl rfl ?_ ?_ <;> clear st <;> intro _ _ st <;> (try (exfalso; omega)))))
    exact ⟨n, by omega, d', ccOf d' b1 cap1 b2 cap2 pad1 pad2, p2, by omega, by omega, h, ccOf_has _ _ _ _ _ _ _, (St.keep2 (L := [_]) (st.subL (by repeat (first | exact List.Sublist.refl _  | apply List.Sublist.cons_cons  | apply List.Sublist.cons  | exact List.nil_sublist _)))).fit (by repeat (first | exact trivial  | refine And.intro rfl ?_))⟩
end Go.Proofs.Ytonbcbhnnflohaa
