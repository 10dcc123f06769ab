/-
  FnCurves: curves that are valid, cut, turned, raised. (printed by a program)
-/
import Derived.Test.YtonbcbhnnflohaaYh
namespace Go.Proofs.Ytonbcbhnnflohaa
open Go.RowKit
section
variable {w0 w : World} {N : Nat} {a : Act} {E : List (Nat × Value)} {L : List Ent}
theorem St.pull (b : Nat) {o : Obj} {Lr : List Ent} (st : St w0 N a w E L) (hR : Rem L b o Lr) : St w0 N a w E (⟨b, true, o⟩ :: Lr) := by
  refine st.perm ?_
  clear st
  induction hR with
  | here => exact List.Perm.refl _
  | there _ ih => exact (ih.cons _).trans (List.Perm.swap _ _ _)
end
/-- A curve that is told, and 'true'. -/
def OwnT (c : List Kn) (v : Value) (b : Nat) (o : Obj) (b' : Nat) (o' : Obj) : Prop := ∃ u, v = .tuple #[u, .bool true] ∧ OwnC c u b o b' o'
/-- The shares of a raised curve. -/
def shareW (i m : Int) : Option Nat := fop .quo .f32 (some (floatOfInt .f32 i)) (some (floatOfInt .f32 m))
def raiseM (m : Nat) : Nat → List Kn → Option (List Kn)
  | i, a :: b :: r => (shareW (i : Nat) (m : Nat)).bind fun s => (blendC b a s).bind fun k => (raiseM m (i + 1) (b :: r)).bind fun l => some (k :: l)
  | _, _ => some []
theorem raiseM_get (m : Nat) : ∀ (i : Nat) (c l : List Kn), raiseM m i c = some l → l.length = c.length - 1 ∧ ∀ (j : Nat) (h : j + 1 < c.length) (h' : j < l.length), ∃ s, shareW ((i + j : Nat) : Int) (m : Nat) = some s ∧ blendC c[j + 1] c[j] s = some l[j]
  | i, [], l, h => by
    obtain rfl := Option.some.inj h
    exact ⟨rfl, fun j h => by simp at h⟩
  | i, [a], l, h => by
    obtain rfl := Option.some.inj h
    exact ⟨rfl, fun j h => by simp at h⟩
  | i, a :: b :: r, l, h => by
    obtain ⟨s, hs, h⟩ := ob h
    obtain ⟨k, hk, h⟩ := ob h
    obtain ⟨l', hl, h⟩ := ob h
    obtain rfl := Option.some.inj h
    obtain ⟨i1, i2⟩ := raiseM_get m (i + 1) (b :: r) l' hl
    refine ⟨by simp at i1 ⊢; omega, ?_⟩
    intro j h1 h2
    cases j with
    | zero => exact ⟨s, hs, hk⟩
    | succ j =>
      have := i2 j (by simpa using h1) (by simpa using h2)
      rw [show i + 1 + j = i + (j + 1) by omega] at this
      exact this
def raiseC (c : List Kn) : Option (List Kn) := c.head?.bind fun k => c.getLast?.bind fun q => (raiseM c.length 1 c).bind fun l => some (k :: (l ++ [q]))
attribute [local irreducible] Code.wp wpList Oper.wp Calls bodyPost Exit.then Exit.inBlock

theorem ifCurve_ok (c : List Kn) (v : Value) (hg : GC c) (w : World) (hv : CrV w c v) : CV Try.prog 51 [v] w (.tuple #[v, .bool true]) := by
  have c1 := fun w hv => ValidCurve_ok c v hg w hv
  have hv0 := hv
  obtain ⟨bp, cp, bw, cw, rfl, hp, hw⟩ := hv
  refine enter Try.func51 rfl rfl rfl rfl ?_
  intro a st
  (repeat' (first | (refine o_callV st rfl (c1 _ (hv0.mono st.below)) rfl ?_; clear st; intro _ _ st) | refine c_seq ?_ | refine c_region ?_ | refine l_do ?_ | refine l_nil ?_ | refine x_then ?_ | refine x_thenR ?_ | refine x_thenE ?_ | refine wp_ret ?_ | refine wp_skip ?_ | refine c_condT st rfl ?_ | refine c_condF st rfl ?_ | (refine o_assign st rfl rfl ?_; clear st; intro _ st) | ((first | refine o_alloc st rfl ?_ | refine o_boxA st rfl rfl ?_ | refine o_boxS st rfl rfl rfl ?_); clear st; intro _ _ _ st) | ((first | refine o_loadS st rfl (by repeat constructor) rfl rfl ?_ | refine o_load3 st rfl (by repeat constructor) rfl ?_ | refine o_load2 st rfl (by repeat constructor) rfl ?_ | refine o_load4 st rfl (by repeat constructor) rfl ?_); clear st; intro _ st) | ((first | refine o_storeS st rfl rfl rfl (by repeat constructor) rfl (by dsimp only [List.set]) ?_ | refine o_storeW st rfl rfl (by repeat constructor) rfl rfl rfl ?_); clear st; intro _ _ st) | ((first | refine o_build3 st rfl rfl rfl rfl rfl rfl rfl ?_ | refine o_build2 st rfl rfl rfl rfl rfl ?_ | refine o_build0 st rfl ?_ | refine o_notT st rfl rfl ?_ | refine o_notF st rfl rfl ?_); clear st; intro _ st)))
  refine post2 st Try.results51 (rd_c st rfl (by repeat constructor) rfl) (rd_t st rfl) ?_
  exact ⟨rfl, st.ex0⟩
theorem BackCurve_ok (c : List Kn) (v : Value) (hg : GC c) (w : World) (hv : CrV w c v) : CM2 Try.prog 13 [v] w (OwnT c.reverse) := by
  have h2 := hg.lo
  have h8 := hg.hi
  have c1 := fun w hv => ValidCurve_ok c v hg w hv
  have c2 := fun w hv => back_ok c v (by omega) (by omega) w hv
  have hv0 := hv
  obtain ⟨bp, cp, bw, cw, rfl, hp, hw⟩ := hv
  refine enter Try.func13 rfl rfl rfl rfl ?_
  intro a st
  (repeat' (first | (refine o_callV st rfl (c1 _ (hv0.mono st.below)) rfl ?_; clear st; intro _ _ st) | (refine o_callM2 st rfl (c2 _ (hv0.mono st.below)) rfl ?_; clear st; rintro _ b1 _ b2 _ ⟨cap1, cap2, pad1, pad2, rfl, rfl, rfl⟩ _ _ st) | refine c_seq ?_ | refine c_region ?_ | refine l_do ?_ | refine l_nil ?_ | refine x_then ?_ | refine x_thenR ?_ | refine x_thenE ?_ | refine wp_ret ?_ | refine wp_skip ?_ | refine c_condT st rfl ?_ | refine c_condF st rfl ?_ | (refine o_assign st rfl rfl ?_; clear st; intro _ st) | ((first | refine o_alloc st rfl ?_ | refine o_boxA st rfl rfl ?_ | refine o_boxS st rfl rfl rfl ?_); clear st; intro _ _ _ st) | ((first | refine o_loadS st rfl (by repeat constructor) rfl rfl ?_ | refine o_load3 st rfl (by repeat constructor) rfl ?_ | refine o_load2 st rfl (by repeat constructor) rfl ?_ | refine o_load4 st rfl (by repeat constructor) rfl ?_); clear st; intro _ st) | ((first | refine o_storeS st rfl rfl rfl (by repeat constructor) rfl (by dsimp only [List.set]) ?_ | refine o_storeW st rfl rfl (by repeat constructor) rfl rfl rfl ?_); clear st; intro _ _ st) | ((first | refine o_build3 st rfl rfl rfl rfl rfl rfl rfl ?_ | refine o_build2 st rfl rfl rfl rfl rfl ?_ | refine o_build0 st rfl ?_ | refine o_notT st rfl rfl ?_ | refine o_notF st rfl rfl ?_); clear st; intro _ st)))
  refine post2 st Try.results13 (rd_c st rfl (by repeat constructor) rfl) (rd_t st rfl) ?_
  have hne := st.ne_of (e1 := ⟨b1, true, oV 31 (c.reverse.map vPt) pad1⟩) (e2 := ⟨b2, true, oV 29 (c.reverse.map vWt) pad2⟩) rfl (by repeat (first | exact List.Sublist.refl _ | apply List.Sublist.cons_cons | apply List.Sublist.cons | exact List.nil_sublist _))
  exact ⟨_, b1, _, b2, _, rfl, ⟨_, rfl, cap1, cap2, pad1, pad2, rfl, rfl, rfl⟩, st.ex2 (by repeat constructor) (by repeat constructor) hne⟩
theorem CutCurve_ok (c : List Kn) (t : Nat) (l r : List Kn) (h : cutC (c.length - 1) c t = some (l, r)) (hg : GC c) (ht : Tm t) (hgl : GC l) (hgr : GC r.reverse) (v : Value) (w : World) (hv : CrV w c v) :
    CM4 Try.prog 11 [v, .float .f32 t] w (fun va vb => .tuple #[va, vb, .bool true]) l r.reverse := by
  have h2 := hg.lo
  have h8 := hg.hi
  have c1 := fun w hv => ValidCurve_ok c v hg w hv
  have c2 := fun w => isTime_ok t ht w
  have c3 := fun w hv => cut_ok c t l r h (by omega) (by omega) v w hv
  have c4 := fun v w hv => ValidCurve_ok l v hgl w hv
  have c5 := fun v w hv => ValidCurve_ok r.reverse v hgr w hv
  have hv0 := hv
  obtain ⟨bp, cp, bw, cw, rfl, hp, hw⟩ := hv
  refine enter Try.func11 rfl rfl rfl rfl ?_
  intro a st
  (repeat' (first | (refine o_alloc (d := 7) st rfl ?_; clear st; intro p7 _ _ st) | (refine o_alloc (d := 8) st rfl ?_; clear st; intro p8 _ _ st) | (refine o_callV st rfl (c1 _ (hv0.mono st.below)) rfl ?_; clear st; intro _ _ st) | (refine o_callV st rfl (c2 _) rfl ?_; clear st; intro _ _ st) | (refine o_callM4 st rfl (c3 _ (hv0.mono st.below)) rfl ?_; clear st; rintro _ _ b1 _ b2 _ b3 _ b4 _ ⟨cap1, cap2, pad1, pad2, rfl, rfl, rfl⟩ ⟨cap3, cap4, pad3, pad4, rfl, rfl, rfl⟩ _ _ st) | (refine o_callV st rfl (c4 _ _ (crv_own (st.heap (by repeat constructor)) (st.heap (by repeat constructor)))) rfl ?_; clear st; intro _ _ st) | (refine o_callV st rfl (c5 _ _ (crv_own (st.heap (by repeat constructor)) (st.heap (by repeat constructor)))) rfl ?_; clear st; intro _ _ st) | refine c_seq ?_ | refine c_region ?_ | refine l_do ?_ | refine l_doG st rfl rfl ?_ | ((first | refine l_skipU st rfl rfl rfl ?_ | refine l_skip st rfl rfl rfl rfl ?_); clear st; intro _ st) | refine l_nil ?_ | refine x_then ?_ | refine x_thenR ?_ | refine x_thenE ?_ | refine wp_ret ?_ | refine wp_skip ?_ | refine c_condT st rfl ?_ | refine c_condF st rfl ?_ | ((first | refine o_move st rfl rfl ?_ | refine o_assign st rfl rfl ?_ | refine o_pickT st rfl rfl rfl ?_ | refine o_pickF st rfl rfl rfl ?_); clear st; intro _ st) | ((first | refine o_alloc st rfl ?_ | refine o_boxA st rfl rfl ?_ | refine o_boxS st rfl rfl rfl ?_); clear st; intro _ _ _ st) | ((first | refine o_loadS st rfl (by repeat constructor) rfl rfl ?_ | refine o_load3 st rfl (by repeat constructor) rfl ?_ | refine o_load2 st rfl (by repeat constructor) rfl ?_ | refine o_load4 st rfl (by repeat constructor) rfl ?_); clear st; intro _ st) | ((first | refine o_storeS st rfl rfl rfl (by repeat constructor) rfl (by dsimp only [List.set]) ?_ | refine o_storeW st rfl rfl (by repeat constructor) rfl rfl rfl ?_); clear st; intro _ _ st) | ((first | refine o_build3 st rfl rfl rfl rfl rfl rfl rfl ?_ | refine o_build2 st rfl rfl rfl rfl rfl ?_ | refine o_build0 st rfl ?_ | refine o_extract st rfl rfl rfl ?_ | refine o_notT st rfl rfl ?_ | refine o_notF st rfl rfl ?_); clear st; intro _ st)))
  refine c_draw (Lh := [eP p8 (.slice (some ⟨b3, 0, none⟩) r.reverse.length cap3) (.slice (some ⟨b4, 0, none⟩) r.reverse.length cap4), eP p7 (.slice (some ⟨b1, 0, none⟩) l.length cap1) (.slice (some ⟨b2, 0, none⟩) l.length cap2)]) (last := 4) hm_ (by decide +kernel) (by decide +kernel) st ?_; clear st; intro _ st
  refine d_v 0 st (by repeat constructor) rfl (by decide +kernel) rfl (v_load2 st rfl (by repeat constructor)) ?_; clear st; intro _ st
  refine d_v 1 st (by repeat constructor) rfl (by decide +kernel) rfl (v_load2 st rfl (by repeat constructor)) ?_; clear st; intro _ st
  refine d_one 2 (by decide +kernel) rfl ?_
  (first | ((first | refine o_storeS st rfl rfl rfl (by repeat constructor) rfl (by dsimp only [List.set]) ?_ | refine o_storeW st rfl rfl (by repeat constructor) rfl rfl rfl ?_); clear st; intro _ _ st))
  refine kh st (by repeat constructor) ?_
  refine d_one 3 (by decide +kernel) rfl ?_
  (first | ((first | refine o_storeS st rfl rfl rfl (by repeat constructor) rfl (by dsimp only [List.set]) ?_ | refine o_storeW st rfl rfl (by repeat constructor) rfl rfl rfl ?_); clear st; intro _ _ st))
  refine kh st (by repeat constructor) ?_
  refine d_one 4 (by decide +kernel) rfl ?_
  (first | (refine o_assign st rfl rfl ?_; clear st; intro _ st))
  refine k_last ?_
  refine d_done (by decide +kernel) ?_
  (repeat' (first | refine c_seq ?_ | refine c_region ?_ | refine l_do ?_ | refine l_doG st rfl rfl ?_ | ((first | refine l_skipU st rfl rfl rfl ?_ | refine l_skip st rfl rfl rfl rfl ?_); clear st; intro _ st) | refine l_nil ?_ | refine x_then ?_ | refine x_thenR ?_ | refine x_thenE ?_ | refine wp_ret ?_ | refine wp_skip ?_ | refine c_condT st rfl ?_ | refine c_condF st rfl ?_ | ((first | refine o_move st rfl rfl ?_ | refine o_assign st rfl rfl ?_ | refine o_pickT st rfl rfl rfl ?_ | refine o_pickF st rfl rfl rfl ?_); clear st; intro _ st) | ((first | refine o_alloc st rfl ?_ | refine o_boxA st rfl rfl ?_ | refine o_boxS st rfl rfl rfl ?_); clear st; intro _ _ _ st) | ((first | refine o_loadS st rfl (by repeat constructor) rfl rfl ?_ | refine o_load3 st rfl (by repeat constructor) rfl ?_ | refine o_load2 st rfl (by repeat constructor) rfl ?_ | refine o_load4 st rfl (by repeat constructor) rfl ?_); clear st; intro _ st) | ((first | refine o_storeS st rfl rfl rfl (by repeat constructor) rfl (by dsimp only [List.set]) ?_ | refine o_storeW st rfl rfl (by repeat constructor) rfl rfl rfl ?_); clear st; intro _ _ st) | ((first | refine o_build3 st rfl rfl rfl rfl rfl rfl rfl ?_ | refine o_build2 st rfl rfl rfl rfl rfl ?_ | refine o_build0 st rfl ?_ | refine o_extract st rfl rfl rfl ?_ | refine o_notT st rfl rfl ?_ | refine o_notF st rfl rfl ?_); clear st; intro _ st)))
  refine post3 st Try.results11 (rd_c st rfl (by repeat constructor) rfl) (rd_c st rfl (by repeat constructor) rfl) (rd_t st rfl) ?_
  have st : St w _ _ _ _ (⟨b1, true, _⟩ :: ⟨b2, true, _⟩ :: ⟨b3, true, _⟩ :: ⟨b4, true, _⟩ :: []) := st.subL (by repeat (first | exact List.Sublist.refl _ | apply List.Sublist.cons_cons | apply List.Sublist.cons | exact List.nil_sublist _))
  exact ⟨_, _, b1, _, b2, _, b3, _, b4, _, rfl, ⟨cap1, cap2, pad1, pad2, rfl, rfl, rfl⟩, ⟨cap3, cap4, pad3, pad4, rfl, rfl, rfl⟩, st.ex4⟩
theorem tm0 : Tm 0 := ⟨i32_0, by decide +kernel, by decide +kernel⟩
theorem PartOfCurve_ok (c : List Kn) (t : Nat) (l r : List Kn) (h : cutC (c.length - 1) c t = some (l, r)) (hg : GC c) (ht : Tm t) (hlt : fltB .f32 (some 0) (some t) = true) (hgl : GC l) (v : Value) (w : World) (hv : CrV w c v) :
    CM2 Try.prog 16 [v, .float .f32 0, .float .f32 t] w (OwnT l) := by
  have h2 := hg.lo
  have h8 := hg.hi
  have c1 := fun w hv => ValidCurve_ok c v hg w hv
  have c2 := fun w => isTime_ok t ht w
  have c0 := fun w => isTime_ok 0 tm0 w
  have c3 := fun w hv => cut_ok c t l r h (by omega) (by omega) v w hv
  have c4 := fun v w hv => ifCurve_ok l v hgl w hv
  have hi := ht.is
  have hv0 := hv
  obtain ⟨bp, cp, bw, cw, rfl, hp, hw⟩ := hv
  refine enter Try.func16 rfl rfl rfl rfl ?_
  intro a st
  (repeat' (first | (refine o_callV st rfl (c1 _ (hv0.mono st.below)) rfl ?_; clear st; intro _ _ st) | (refine o_callV st rfl (c2 _) rfl ?_; clear st; intro _ _ st) | (refine o_callV st rfl (c0 _) rfl ?_; clear st; intro _ _ st) | (refine o_flssW st rfl rfl i32_0 hi hlt rfl ?_; clear st; intro _ st) | (refine o_fneqW st rfl rfl i32_0 i32_0 (r := true) (by decide +kernel) rfl ?_; clear st; intro _ st) | (refine o_callM4 st rfl (c3 _ (hv0.mono st.below)) rfl ?_; clear st; rintro _ _ b1 _ b2 _ b3 _ b4 _ ⟨cap1, cap2, pad1, pad2, rfl, rfl, rfl⟩ ⟨cap3, cap4, pad3, pad4, rfl, rfl, rfl⟩ _ _ st) | (refine o_callV st rfl (c4 _ _ (crv_own (st.heap (by repeat constructor)) (st.heap (by repeat constructor)))) rfl ?_; clear st; intro _ _ st) | refine c_seq ?_ | refine c_region ?_ | refine l_do ?_ | refine l_doG st rfl rfl ?_ | ((first | refine l_skipU st rfl rfl rfl ?_ | refine l_skip st rfl rfl rfl rfl ?_); clear st; intro _ st) | refine l_nil ?_ | refine x_then ?_ | refine x_thenR ?_ | refine x_thenE ?_ | refine wp_ret ?_ | refine wp_skip ?_ | refine c_condT st rfl ?_ | refine c_condF st rfl ?_ | ((first | refine o_move st rfl rfl ?_ | refine o_assign st rfl rfl ?_ | refine o_pickT st rfl rfl rfl ?_ | refine o_pickF st rfl rfl rfl ?_); clear st; intro _ st) | ((first | refine o_alloc st rfl ?_ | refine o_boxA st rfl rfl ?_ | refine o_boxS st rfl rfl rfl ?_); clear st; intro _ _ _ st) | ((first | refine o_loadS st rfl (by repeat constructor) rfl rfl ?_ | refine o_load3 st rfl (by repeat constructor) rfl ?_ | refine o_load2 st rfl (by repeat constructor) rfl ?_ | refine o_load4 st rfl (by repeat constructor) rfl ?_); clear st; intro _ st) | ((first | refine o_storeS st rfl rfl rfl (by repeat constructor) rfl (by dsimp only [List.set]) ?_ | refine o_storeW st rfl rfl (by repeat constructor) rfl rfl rfl ?_); clear st; intro _ _ st) | ((first | refine o_build3 st rfl rfl rfl rfl rfl rfl rfl ?_ | refine o_build2 st rfl rfl rfl rfl rfl ?_ | refine o_build0 st rfl ?_ | refine o_extract st rfl rfl rfl ?_ | refine o_notT st rfl rfl ?_ | refine o_notF st rfl rfl ?_); clear st; intro _ st) | (refine o_fop rfl st rfl rfl (by first | assumption | exact Is_ofInt _ _ | exact Is_lit (by decide +kernel)) (by first | assumption | exact Is_ofInt _ _ | exact Is_lit (by decide +kernel)) rfl ?_; clear st; intro _ _ _ _ st) | ((first | refine o_flss st rfl rfl (by first | assumption | exact Is_ofInt _ _ | exact Is_lit (by decide +kernel)) (by first | assumption | exact Is_ofInt _ _ | exact Is_lit (by decide +kernel)) rfl ?_ ?_ | refine o_fneq st rfl rfl (by first | assumption | exact Is_ofInt _ _ | exact Is_lit (by decide +kernel)) (by first | assumption | exact Is_ofInt _ _ | exact Is_lit (by decide +kernel)) rfl ?_ ?_) <;> clear st <;> intro _ _ st <;> (try simp_all))))
  refine post2 st Try.results16 (rd_c st rfl (by repeat constructor) rfl) (rd_t st rfl) ?_
  have hne := st.ne_of (e1 := ⟨b1, true, oV 31 (l.map vPt) pad1⟩) (e2 := ⟨b2, true, oV 29 (l.map vWt) pad2⟩) rfl (by repeat (first | exact List.Sublist.refl _ | apply List.Sublist.cons_cons | apply List.Sublist.cons | exact List.nil_sublist _))
  exact ⟨_, b1, _, b2, _, rfl, ⟨_, rfl, cap1, cap2, pad1, pad2, rfl, rfl, rfl⟩, st.ex2 (by repeat constructor) (by repeat constructor) hne⟩
set_option maxHeartbeats 4000000 in
theorem RaiseCurve_ok (c : List Kn) (c' : List Kn) (h : raiseC c = some c') (hg : GC c) (h7 : c.length ≤ 7) (hg' : GC c') (v : Value) (w : World) (hv : CrV w c v) : CM2 Try.prog 12 [v] w (OwnT c') := by
  have h2 := hg.lo
  have c1 := fun w hv => degree_ok c v (by omega) w hv
  have c2 := fun w hv => ValidCurve_ok c v hg w hv
  have c3 := fun v w hv => ifCurve_ok c' v hg' w hv
  have hv0 := hv
  obtain ⟨x, rfl, hx, h3, h4⟩ := hv.get (by omega)
  obtain ⟨k, hk, h⟩ := ob h
  obtain ⟨q, hq, h⟩ := ob h
  obtain ⟨l, hl, h⟩ := ob h
  obtain rfl := Option.some.inj h
  rw [List.head?_eq_getElem?, List.getElem?_eq_getElem (by omega)] at hk
  rw [List.getLast?_eq_getElem?, List.getElem?_eq_getElem (by omega)] at hq
  obtain rfl := Option.some.inj hk
  obtain rfl := Option.some.inj hq
  obtain ⟨hlen, hget⟩ := raiseM_get _ _ _ _ hl
  have g1 := hx.at1 (k := 0) (j := 0) (by omega) rfl
  have g2 := hx.at2 (k := 0) (j := 0) (by omega) rfl
  have g3 := hx.at1 (k := c.length - 1) (j := (c.length : Int) - 1) (by omega) (by omega)
  have g4 := hx.at2 (k := c.length - 1) (j := (c.length : Int) - 1) (by omega) (by omega)
  refine enter Try.func12 rfl rfl rfl rfl ?_
  intro a st
  have st := (st.addOld h3).addOld h4
  (repeat' (first | (refine o_callV st rfl (c1 _ (hv0.mono st.below)) rfl ?_; clear st; intro _ _ st) | (refine o_callV st rfl (c2 _ (hv0.mono st.below)) rfl ?_; clear st; intro _ _ st) | refine c_seq ?_ | refine c_region ?_ | refine l_do ?_ | refine l_doG st rfl rfl ?_ | ((first | refine l_skipU st rfl rfl rfl ?_ | refine l_skip st rfl rfl rfl rfl ?_); clear st; intro _ st) | refine l_nil ?_ | refine x_then ?_ | refine x_thenR ?_ | refine x_thenE ?_ | refine x_blkN ?_ | refine x_blkR ?_ | refine x_blkE ?_ | refine x_blkO rfl ?_ | refine wp_ret ?_ | refine wp_skip ?_ | refine wp_block ?_ | refine wp_exit ?_ | refine c_condT st rfl ?_ | refine c_condF st rfl ?_ | ((first | refine o_move st rfl rfl ?_ | refine o_assign st rfl rfl ?_ | refine o_pickT st rfl rfl rfl ?_ | refine o_pickF st rfl rfl rfl ?_); clear st; intro _ st) | ((first | refine o_alloc st rfl ?_ | refine o_boxA st rfl rfl ?_ | refine o_boxS st rfl rfl rfl ?_); clear st; intro _ _ _ st) | ((first | refine o_fieldAddr st rfl rfl ?_ | refine o_loadS st rfl (by repeat constructor) rfl rfl ?_ | refine o_load3 st rfl (by repeat constructor) rfl ?_ | refine o_load2 st rfl (by repeat constructor) rfl ?_ | refine o_load4 st rfl (by repeat constructor) rfl ?_); clear st; intro _ st) | ((first | refine o_storeS st rfl rfl rfl (by repeat constructor) rfl (by dsimp only [List.set]) ?_ | refine o_storeW st rfl rfl (by repeat constructor) rfl rfl rfl ?_); clear st; intro _ _ st) | ((first | refine o_build3 st rfl rfl rfl rfl rfl rfl rfl ?_ | refine o_build2 st rfl rfl rfl rfl rfl ?_ | refine o_build0 st rfl ?_ | refine o_extract st rfl rfl rfl ?_ | refine o_add64 st rfl rfl rfl (by omega) (by omega) ?_ | refine o_sub64 st rfl rfl rfl (by omega) (by omega) ?_ | refine o_notT st rfl rfl ?_ | refine o_notF st rfl rfl ?_); clear st; intro _ st) | (refine o_fop rfl st rfl rfl (by first | assumption | exact Is_ofInt _ _ | exact Is_lit (by decide +kernel)) (by first | assumption | exact Is_ofInt _ _ | exact Is_lit (by decide +kernel)) rfl ?_; clear st; intro _ _ _ _ st) | ((first | refine o_fcv0 st rfl rfl ?_ | refine o_intFloat st rfl rfl ?_); clear st; intro _ st) | ((first | refine o_leq st rfl rfl rfl ?_ ?_ | refine o_geq st rfl rfl rfl ?_ ?_) <;> clear st <;> intro _ _ st <;> (try (exfalso; omega)))))
  refine c_drawCA (F := (fun _ _ a w' => ∃ (p1 p2 p5 : Nat) (vp vw : Value) (Lp Lw : List Ent), GV 31 vp ([c[0]].map vPt) Lp ∧ GV 29 vw ([c[0]].map vWt) Lw ∧ St w Try.f12.ntmps a w' [(1, .pointer (some ⟨p1, 0, none⟩)), (2, .pointer (some ⟨p2, 0, none⟩)), (4, .int .i64 ((c.length : Int) - 1)), (5, .pointer (some ⟨p5, 0, none⟩))] (eP p5 vp vw :: eP p2 (.slice none 0 0) (.slice none 0 0) :: eP p1 (.slice (some ⟨x.b1, x.o1, none⟩) c.length x.cp) (.slice (some ⟨x.b2, x.o2, none⟩) c.length x.cw) :: ⟨x.b2, false, .cells x.a2 x.t2 x.f2⟩ :: ⟨x.b1, false, .cells x.a1 x.t1 x.f1⟩ :: (Lw ++ Lp)))) (last := 12) hm_ (by decide +kernel) (by decide +kernel) st ?_ ?_
  · clear st; intro _ st
    refine d_v 0 st (by repeat constructor) rfl (by decide +kernel) rfl (v_fieldAddr st rfl) ?_; clear st; intro _ st
    refine d_v 1 st (by repeat constructor) rfl (by decide +kernel) rfl (by first | exact v_load3 st rfl (by repeat constructor) | exact v_loadS st rfl (by repeat constructor) rfl) ?_; clear st; intro _ st
    refine d_v 2 st (by repeat constructor) rfl (by decide +kernel) rfl (v_indexAddr st rfl rfl (by omega) (by omega)) ?_; clear st; intro _ st
    refine d_v 3 st (by repeat constructor) rfl (by decide +kernel) rfl (v_loadS st rfl (by repeat constructor) g1) ?_; clear st; intro _ st
    refine d_v 5 st (by repeat constructor) rfl (by decide +kernel) rfl (v_fieldAddr st rfl) ?_; clear st; intro _ st
    refine d_v 6 st (by repeat constructor) rfl (by decide +kernel) rfl (by first | exact v_load3 st rfl (by repeat constructor) | exact v_loadS st rfl (by repeat constructor) rfl) ?_; clear st; intro _ st
    refine d_v 7 st (by repeat constructor) rfl (by decide +kernel) rfl (v_indexAddr st rfl rfl (by omega) (by omega)) ?_; clear st; intro _ st
    refine d_v 8 st (by repeat constructor) rfl (by decide +kernel) rfl (v_loadS st rfl (by repeat constructor) g2) ?_; clear st; intro _ st
    refine d_three 4 9 11 (by decide +kernel) rfl rfl rfl ?_ ?_ ?_
    · skip
      refine o_buildSlice st rfl rfl rfl rfl rfl rfl ?_; clear st; intro b1 _ _ st
      refine kh st (by repeat constructor) ?_
      refine d_two 9 11 (by decide +kernel) rfl rfl ?_ ?_
      · skip
        refine o_buildSlice st rfl rfl rfl rfl rfl rfl ?_; clear st; intro b2 _ _ st
        refine kh st (by repeat constructor) ?_
        refine d_v 10 st (by repeat constructor) rfl (by decide +kernel) rfl (by first | exact v_build3 st rfl rfl rfl rfl rfl rfl | exact v_build2 st rfl rfl rfl rfl) ?_; clear st; intro _ st
        refine d_one 11 (by decide +kernel) rfl ?_
        refine o_alloc st rfl ?_; clear st; intro _ _ _ st
        refine kh st (by repeat constructor) ?_
        refine d_one 12 (by decide +kernel) rfl ?_
        (first | ((first | refine o_storeS st rfl rfl rfl (by repeat constructor) rfl (by dsimp only [List.set]) ?_ | refine o_storeW st rfl rfl (by repeat constructor) rfl rfl rfl ?_); clear st; intro _ _ st))
        refine k_last ?_
        refine d_done (by decide +kernel) ?_
        refine ⟨rfl, ?_⟩
        have st := St.pull b2 st (by repeat constructor)
        have st := St.pull b1 st (by repeat constructor)
        have st := St.front 5 st rfl (by repeat constructor)
        have st : St w _ _ _ _ (⟨_, true, _⟩ :: ⟨b1, true, oV 31 ([c[0]].map vPt) []⟩ :: ⟨b2, true, oV 29 ([c[0]].map vWt) []⟩ :: _) := st
        have st := (st.pull b2 (.there (.there .here))).pull b1 (.there (.there .here))
        have st := st.swap2
        exact ⟨_, _, _, _, _, _, _, .inr ⟨b1, 1, [], by simp, rfl, rfl, rfl⟩, .inr ⟨b2, 1, [], by simp, rfl, rfl, rfl⟩, (St.back2 (L := [_, _, _, _, _]) st).fit (by repeat (first | exact trivial | refine And.intro rfl ?_))⟩
      · skip
        refine o_alloc st rfl ?_; clear st; intro _ _ _ st
        refine kh st (by repeat constructor) ?_
        refine d_one 9 (by decide +kernel) rfl ?_
        refine o_buildSlice st rfl rfl rfl rfl rfl rfl ?_; clear st; intro b2 _ _ st
        refine kh st (by repeat constructor) ?_
        refine d_v 10 st (by repeat constructor) rfl (by decide +kernel) rfl (by first | exact v_build3 st rfl rfl rfl rfl rfl rfl | exact v_build2 st rfl rfl rfl rfl) ?_; clear st; intro _ st
        refine d_one 12 (by decide +kernel) rfl ?_
        (first | ((first | refine o_storeS st rfl rfl rfl (by repeat constructor) rfl (by dsimp only [List.set]) ?_ | refine o_storeW st rfl rfl (by repeat constructor) rfl rfl rfl ?_); clear st; intro _ _ st))
        refine k_last ?_
        refine d_done (by decide +kernel) ?_
        refine ⟨rfl, ?_⟩
        have st := St.pull b2 st (by repeat constructor)
        have st := St.pull b1 st (by repeat constructor)
        have st := St.front 5 st rfl (by repeat constructor)
        have st : St w _ _ _ _ (⟨_, true, _⟩ :: ⟨b1, true, oV 31 ([c[0]].map vPt) []⟩ :: ⟨b2, true, oV 29 ([c[0]].map vWt) []⟩ :: _) := st
        have st := (st.pull b2 (.there (.there .here))).pull b1 (.there (.there .here))
        have st := st.swap2
        exact ⟨_, _, _, _, _, _, _, .inr ⟨b1, 1, [], by simp, rfl, rfl, rfl⟩, .inr ⟨b2, 1, [], by simp, rfl, rfl, rfl⟩, (St.back2 (L := [_, _, _, _, _]) st).fit (by repeat (first | exact trivial | refine And.intro rfl ?_))⟩
    · skip
      refine o_buildSlice st rfl rfl rfl rfl rfl rfl ?_; clear st; intro b2 _ _ st
      refine kh st (by repeat constructor) ?_
      refine d_two 4 11 (by decide +kernel) rfl rfl ?_ ?_
      · skip
        refine o_buildSlice st rfl rfl rfl rfl rfl rfl ?_; clear st; intro b1 _ _ st
        refine kh st (by repeat constructor) ?_
        refine d_v 10 st (by repeat constructor) rfl (by decide +kernel) rfl (by first | exact v_build3 st rfl rfl rfl rfl rfl rfl | exact v_build2 st rfl rfl rfl rfl) ?_; clear st; intro _ st
        refine d_one 11 (by decide +kernel) rfl ?_
        refine o_alloc st rfl ?_; clear st; intro _ _ _ st
        refine kh st (by repeat constructor) ?_
        refine d_one 12 (by decide +kernel) rfl ?_
        (first | ((first | refine o_storeS st rfl rfl rfl (by repeat constructor) rfl (by dsimp only [List.set]) ?_ | refine o_storeW st rfl rfl (by repeat constructor) rfl rfl rfl ?_); clear st; intro _ _ st))
        refine k_last ?_
        refine d_done (by decide +kernel) ?_
        refine ⟨rfl, ?_⟩
        have st := St.pull b2 st (by repeat constructor)
        have st := St.pull b1 st (by repeat constructor)
        have st := St.front 5 st rfl (by repeat constructor)
        have st : St w _ _ _ _ (⟨_, true, _⟩ :: ⟨b1, true, oV 31 ([c[0]].map vPt) []⟩ :: ⟨b2, true, oV 29 ([c[0]].map vWt) []⟩ :: _) := st
        have st := (st.pull b2 (.there (.there .here))).pull b1 (.there (.there .here))
        have st := st.swap2
        exact ⟨_, _, _, _, _, _, _, .inr ⟨b1, 1, [], by simp, rfl, rfl, rfl⟩, .inr ⟨b2, 1, [], by simp, rfl, rfl, rfl⟩, (St.back2 (L := [_, _, _, _, _]) st).fit (by repeat (first | exact trivial | refine And.intro rfl ?_))⟩
      · skip
        refine o_alloc st rfl ?_; clear st; intro _ _ _ st
        refine kh st (by repeat constructor) ?_
        refine d_one 4 (by decide +kernel) rfl ?_
        refine o_buildSlice st rfl rfl rfl rfl rfl rfl ?_; clear st; intro b1 _ _ st
        refine kh st (by repeat constructor) ?_
        refine d_v 10 st (by repeat constructor) rfl (by decide +kernel) rfl (by first | exact v_build3 st rfl rfl rfl rfl rfl rfl | exact v_build2 st rfl rfl rfl rfl) ?_; clear st; intro _ st
        refine d_one 12 (by decide +kernel) rfl ?_
        (first | ((first | refine o_storeS st rfl rfl rfl (by repeat constructor) rfl (by dsimp only [List.set]) ?_ | refine o_storeW st rfl rfl (by repeat constructor) rfl rfl rfl ?_); clear st; intro _ _ st))
        refine k_last ?_
        refine d_done (by decide +kernel) ?_
        refine ⟨rfl, ?_⟩
        have st := St.pull b2 st (by repeat constructor)
        have st := St.pull b1 st (by repeat constructor)
        have st := St.front 5 st rfl (by repeat constructor)
        have st : St w _ _ _ _ (⟨_, true, _⟩ :: ⟨b1, true, oV 31 ([c[0]].map vPt) []⟩ :: ⟨b2, true, oV 29 ([c[0]].map vWt) []⟩ :: _) := st
        have st := (st.pull b2 (.there (.there .here))).pull b1 (.there (.there .here))
        have st := st.swap2
        exact ⟨_, _, _, _, _, _, _, .inr ⟨b1, 1, [], by simp, rfl, rfl, rfl⟩, .inr ⟨b2, 1, [], by simp, rfl, rfl, rfl⟩, (St.back2 (L := [_, _, _, _, _]) st).fit (by repeat (first | exact trivial | refine And.intro rfl ?_))⟩
    · skip
      refine o_alloc st rfl ?_; clear st; intro _ _ _ st
      refine kh st (by repeat constructor) ?_
      refine d_two 4 9 (by decide +kernel) rfl rfl ?_ ?_
      · skip
        refine o_buildSlice st rfl rfl rfl rfl rfl rfl ?_; clear st; intro b1 _ _ st
        refine kh st (by repeat constructor) ?_
        refine d_one 9 (by decide +kernel) rfl ?_
        refine o_buildSlice st rfl rfl rfl rfl rfl rfl ?_; clear st; intro b2 _ _ st
        refine kh st (by repeat constructor) ?_
        refine d_v 10 st (by repeat constructor) rfl (by decide +kernel) rfl (by first | exact v_build3 st rfl rfl rfl rfl rfl rfl | exact v_build2 st rfl rfl rfl rfl) ?_; clear st; intro _ st
        refine d_one 12 (by decide +kernel) rfl ?_
        (first | ((first | refine o_storeS st rfl rfl rfl (by repeat constructor) rfl (by dsimp only [List.set]) ?_ | refine o_storeW st rfl rfl (by repeat constructor) rfl rfl rfl ?_); clear st; intro _ _ st))
        refine k_last ?_
        refine d_done (by decide +kernel) ?_
        refine ⟨rfl, ?_⟩
        have st := St.pull b2 st (by repeat constructor)
        have st := St.pull b1 st (by repeat constructor)
        have st := St.front 5 st rfl (by repeat constructor)
        have st : St w _ _ _ _ (⟨_, true, _⟩ :: ⟨b1, true, oV 31 ([c[0]].map vPt) []⟩ :: ⟨b2, true, oV 29 ([c[0]].map vWt) []⟩ :: _) := st
        have st := (st.pull b2 (.there (.there .here))).pull b1 (.there (.there .here))
        have st := st.swap2
        exact ⟨_, _, _, _, _, _, _, .inr ⟨b1, 1, [], by simp, rfl, rfl, rfl⟩, .inr ⟨b2, 1, [], by simp, rfl, rfl, rfl⟩, (St.back2 (L := [_, _, _, _, _]) st).fit (by repeat (first | exact trivial | refine And.intro rfl ?_))⟩
      · skip
        refine o_buildSlice st rfl rfl rfl rfl rfl rfl ?_; clear st; intro b2 _ _ st
        refine kh st (by repeat constructor) ?_
        refine d_one 4 (by decide +kernel) rfl ?_
        refine o_buildSlice st rfl rfl rfl rfl rfl rfl ?_; clear st; intro b1 _ _ st
        refine kh st (by repeat constructor) ?_
        refine d_v 10 st (by repeat constructor) rfl (by decide +kernel) rfl (by first | exact v_build3 st rfl rfl rfl rfl rfl rfl | exact v_build2 st rfl rfl rfl rfl) ?_; clear st; intro _ st
        refine d_one 12 (by decide +kernel) rfl ?_
        (first | ((first | refine o_storeS st rfl rfl rfl (by repeat constructor) rfl (by dsimp only [List.set]) ?_ | refine o_storeW st rfl rfl (by repeat constructor) rfl rfl rfl ?_); clear st; intro _ _ st))
        refine k_last ?_
        refine d_done (by decide +kernel) ?_
        refine ⟨rfl, ?_⟩
        have st := St.pull b2 st (by repeat constructor)
        have st := St.pull b1 st (by repeat constructor)
        have st := St.front 5 st rfl (by repeat constructor)
        have st : St w _ _ _ _ (⟨_, true, _⟩ :: ⟨b1, true, oV 31 ([c[0]].map vPt) []⟩ :: ⟨b2, true, oV 29 ([c[0]].map vWt) []⟩ :: _) := st
        have st := (st.pull b2 (.there (.there .here))).pull b1 (.there (.there .here))
        have st := st.swap2
        exact ⟨_, _, _, _, _, _, _, .inr ⟨b1, 1, [], by simp, rfl, rfl, rfl⟩, .inr ⟨b2, 1, [], by simp, rfl, rfl, rfl⟩, (St.back2 (L := [_, _, _, _, _]) st).fit (by repeat (first | exact trivial | refine And.intro rfl ?_))⟩
  clear st
  rintro _ _ ⟨p1, p2, p5, vp, vw, Lp, Lw, hGp, hGw, st⟩
  (repeat' (first | refine c_seq ?_ | refine c_region ?_ | refine l_do ?_ | refine l_doG st rfl rfl ?_ | ((first | refine l_skipU st rfl rfl rfl ?_ | refine l_skip st rfl rfl rfl rfl ?_); clear st; intro _ st) | refine l_nil ?_ | refine x_then ?_ | refine x_thenR ?_ | refine x_thenE ?_ | refine x_blkN ?_ | refine x_blkR ?_ | refine x_blkE ?_ | refine x_blkO rfl ?_ | refine wp_ret ?_ | refine wp_skip ?_ | refine wp_block ?_ | refine wp_exit ?_ | refine c_condT st rfl ?_ | refine c_condF st rfl ?_ | ((first | refine o_move st rfl rfl ?_ | refine o_assign st rfl rfl ?_ | refine o_pickT st rfl rfl rfl ?_ | refine o_pickF st rfl rfl rfl ?_); clear st; intro _ st) | ((first | refine o_alloc st rfl ?_ | refine o_boxA st rfl rfl ?_ | refine o_boxS st rfl rfl rfl ?_); clear st; intro _ _ _ st) | ((first | refine o_fieldAddr st rfl rfl ?_ | refine o_loadS st rfl (by repeat constructor) rfl rfl ?_ | refine o_load3 st rfl (by repeat constructor) rfl ?_ | refine o_load2 st rfl (by repeat constructor) rfl ?_ | refine o_load4 st rfl (by repeat constructor) rfl ?_); clear st; intro _ st) | ((first | refine o_storeS st rfl rfl rfl (by repeat constructor) rfl (by dsimp only [List.set]) ?_ | refine o_storeW st rfl rfl (by repeat constructor) rfl rfl rfl ?_); clear st; intro _ _ st) | ((first | refine o_build3 st rfl rfl rfl rfl rfl rfl rfl ?_ | refine o_build2 st rfl rfl rfl rfl rfl ?_ | refine o_build0 st rfl ?_ | refine o_extract st rfl rfl rfl ?_ | refine o_add64 st rfl rfl rfl (by omega) (by omega) ?_ | refine o_sub64 st rfl rfl rfl (by omega) (by omega) ?_ | refine o_notT st rfl rfl ?_ | refine o_notF st rfl rfl ?_); clear st; intro _ st) | (refine o_fop rfl st rfl rfl (by first | assumption | exact Is_ofInt _ _ | exact Is_lit (by decide +kernel)) (by first | assumption | exact Is_ofInt _ _ | exact Is_lit (by decide +kernel)) rfl ?_; clear st; intro _ _ _ _ st) | ((first | refine o_fcv0 st rfl rfl ?_ | refine o_intFloat st rfl rfl ?_); clear st; intro _ st) | ((first | refine o_leq st rfl rfl rfl ?_ ?_ | refine o_geq st rfl rfl rfl ?_ ?_) <;> clear st <;> intro _ _ st <;> (try (exfalso; omega)))))
  refine wp_loop_ghost (fun n a w' => ∃ (j : Nat) (vp vw : Value) (Lp Lw : List Ent), j ≤ l.length ∧ n = l.length - j ∧ GV 31 vp ((c[0] :: l.take j).map vPt) Lp ∧ GV 29 vw ((c[0] :: l.take j).map vWt) Lw ∧ St w Try.f12.ntmps a w' [(1, .pointer (some ⟨p1, 0, none⟩)), (2, .pointer (some ⟨p2, 0, none⟩)), (4, .int .i64 ((c.length : Int) - 1)), (5, .pointer (some ⟨p5, 0, none⟩)), (6, .int .i64 ((j : Int) + 1))] (eP p5 vp vw :: eP p2 (.slice none 0 0) (.slice none 0 0) :: eP p1 (.slice (some ⟨x.b1, x.o1, none⟩) c.length x.cp) (.slice (some ⟨x.b2, x.o2, none⟩) c.length x.cw) :: ⟨x.b2, false, .cells x.a2 x.t2 x.f2⟩ :: ⟨x.b1, false, .cells x.a1 x.t1 x.f1⟩ :: (Lw ++ Lp))) l.length ⟨0, vp, vw, Lp, Lw, by omega, by omega, hGp, hGw, st.fit (by repeat (first | exact trivial | refine And.intro rfl ?_))⟩ ?_
  clear st
  rintro n a w' ⟨j, vp, vw, Lp, Lw, hj, rfl, hGp, hGw, st⟩
  have hlj : (c[0] :: l.take j).length = j + 1 := by rw [List.length_cons, List.length_take]; omega
  by_cases hlt : j < l.length
  · have hj1 : j + 1 < c.length := by omega
    obtain ⟨s, hs, hb⟩ := hget j hj1 hlt
    have hs : fop .quo .f32 (some (floatOfInt .f32 ((j : Int) + 1))) (some (floatOfInt .f32 ((c.length : Int) - 1 + 1))) = some s := by
      rw [show ((j : Int) + 1) = ((1 + j : Nat) : Int) by omega, show (c.length : Int) - 1 + 1 = (c.length : Nat) by omega]
      exact hs
    have f1 := hx.at1 (k := j + 1) (j := (j : Int) + 1) hj1 (by omega)
    have f2 := hx.at2 (k := j + 1) (j := (j : Int) + 1) hj1 (by omega)
    have f3 := hx.at1 (k := j) (j := (j : Int) + 1 - 1) (by omega) (by omega)
    have f4 := hx.at2 (k := j) (j := (j : Int) + 1 - 1) (by omega) (by omega)
    have c4 := fun w => blend_ok _ _ s _ hb w
    (repeat' (first | refine c_seq ?_ | refine c_region ?_ | refine l_do ?_ | refine l_doG st rfl rfl ?_ | ((first | refine l_skipU st rfl rfl rfl ?_ | refine l_skip st rfl rfl rfl rfl ?_); clear st; intro _ st) | refine l_nil ?_ | refine x_then ?_ | refine x_thenR ?_ | refine x_thenE ?_ | refine x_blkN ?_ | refine x_blkR ?_ | refine x_blkE ?_ | refine x_blkO rfl ?_ | refine wp_ret ?_ | refine wp_skip ?_ | refine wp_block ?_ | refine wp_exit ?_ | refine c_condT st rfl ?_ | refine c_condF st rfl ?_ | ((first | refine o_move st rfl rfl ?_ | refine o_assign st rfl rfl ?_ | refine o_pickT st rfl rfl rfl ?_ | refine o_pickF st rfl rfl rfl ?_); clear st; intro _ st) | ((first | refine o_alloc st rfl ?_ | refine o_boxA st rfl rfl ?_ | refine o_boxS st rfl rfl rfl ?_); clear st; intro _ _ _ st) | ((first | refine o_fieldAddr st rfl rfl ?_ | refine o_loadS st rfl (by repeat constructor) rfl rfl ?_ | refine o_load3 st rfl (by repeat constructor) rfl ?_ | refine o_load2 st rfl (by repeat constructor) rfl ?_ | refine o_load4 st rfl (by repeat constructor) rfl ?_); clear st; intro _ st) | ((first | refine o_storeS st rfl rfl rfl (by repeat constructor) rfl (by dsimp only [List.set]) ?_ | refine o_storeW st rfl rfl (by repeat constructor) rfl rfl rfl ?_); clear st; intro _ _ st) | ((first | refine o_build3 st rfl rfl rfl rfl rfl rfl rfl ?_ | refine o_build2 st rfl rfl rfl rfl rfl ?_ | refine o_build0 st rfl ?_ | refine o_extract st rfl rfl rfl ?_ | refine o_add64 st rfl rfl rfl (by omega) (by omega) ?_ | refine o_sub64 st rfl rfl rfl (by omega) (by omega) ?_ | refine o_notT st rfl rfl ?_ | refine o_notF st rfl rfl ?_); clear st; intro _ st) | (refine o_fop rfl st rfl rfl (by first | assumption | exact Is_ofInt _ _ | exact Is_lit (by decide +kernel)) (by first | assumption | exact Is_ofInt _ _ | exact Is_lit (by decide +kernel)) rfl ?_; clear st; intro _ _ _ _ st) | ((first | refine o_fcv0 st rfl rfl ?_ | refine o_intFloat st rfl rfl ?_); clear st; intro _ st) | ((first | refine o_leq st rfl rfl rfl ?_ ?_ | refine o_geq st rfl rfl rfl ?_ ?_) <;> clear st <;> intro _ _ st <;> (try (exfalso; omega)))))
    refine c_drawA (last := 33) hm_ (by decide +kernel) (by decide +kernel) st ?_; clear st; intro _ st
    refine d_v 0 st (by repeat constructor) rfl (by decide +kernel) rfl (v_fieldAddr st rfl) ?_; clear st; intro _ st
    refine d_v 1 st (by repeat constructor) rfl (by decide +kernel) rfl (by first | exact v_load3 st rfl (by repeat constructor) | exact v_loadS st rfl (by repeat constructor) rfl) ?_; clear st; intro _ st
    refine d_v 2 st (by repeat constructor) rfl (by decide +kernel) rfl (v_move st rfl) ?_; clear st; intro _ st
    refine d_v 3 st (by repeat constructor) rfl (by decide +kernel) rfl (v_indexAddr st rfl rfl (by omega) (by omega)) ?_; clear st; intro _ st
    refine d_v 4 st (by repeat constructor) rfl (by decide +kernel) rfl (v_loadS st rfl (by repeat constructor) f1) ?_; clear st; intro _ st
    refine d_v 5 st (by repeat constructor) rfl (by decide +kernel) rfl (v_fieldAddr st rfl) ?_; clear st; intro _ st
    refine d_v 6 st (by repeat constructor) rfl (by decide +kernel) rfl (by first | exact v_load3 st rfl (by repeat constructor) | exact v_loadS st rfl (by repeat constructor) rfl) ?_; clear st; intro _ st
    refine d_v 7 st (by repeat constructor) rfl (by decide +kernel) rfl (v_move st rfl) ?_; clear st; intro _ st
    refine d_v 8 st (by repeat constructor) rfl (by decide +kernel) rfl (v_indexAddr st rfl rfl (by omega) (by omega)) ?_; clear st; intro _ st
    refine d_v 9 st (by repeat constructor) rfl (by decide +kernel) rfl (v_loadS st rfl (by repeat constructor) f2) ?_; clear st; intro _ st
    refine d_v 10 st (by repeat constructor) rfl (by decide +kernel) rfl (v_fieldAddr st rfl) ?_; clear st; intro _ st
    refine d_v 11 st (by repeat constructor) rfl (by decide +kernel) rfl (by first | exact v_load3 st rfl (by repeat constructor) | exact v_loadS st rfl (by repeat constructor) rfl) ?_; clear st; intro _ st
    refine d_v 12 st (by repeat constructor) rfl (by decide +kernel) rfl (v_move st rfl) ?_; clear st; intro _ st
    refine d_v 13 st (by repeat constructor) rfl (by decide +kernel) rfl (v_sub64 st rfl rfl (by omega) (by omega)) ?_; clear st; intro _ st
    refine d_v 14 st (by repeat constructor) rfl (by decide +kernel) rfl (v_indexAddr st rfl rfl (by omega) (by omega)) ?_; clear st; intro _ st
    refine d_v 15 st (by repeat constructor) rfl (by decide +kernel) rfl (v_loadS st rfl (by repeat constructor) f3) ?_; clear st; intro _ st
    refine d_v 16 st (by repeat constructor) rfl (by decide +kernel) rfl (v_fieldAddr st rfl) ?_; clear st; intro _ st
    refine d_v 17 st (by repeat constructor) rfl (by decide +kernel) rfl (by first | exact v_load3 st rfl (by repeat constructor) | exact v_loadS st rfl (by repeat constructor) rfl) ?_; clear st; intro _ st
    refine d_v 18 st (by repeat constructor) rfl (by decide +kernel) rfl (v_move st rfl) ?_; clear st; intro _ st
    refine d_v 19 st (by repeat constructor) rfl (by decide +kernel) rfl (v_sub64 st rfl rfl (by omega) (by omega)) ?_; clear st; intro _ st
    refine d_v 20 st (by repeat constructor) rfl (by decide +kernel) rfl (v_indexAddr st rfl rfl (by omega) (by omega)) ?_; clear st; intro _ st
    refine d_v 21 st (by repeat constructor) rfl (by decide +kernel) rfl (v_loadS st rfl (by repeat constructor) f4) ?_; clear st; intro _ st
    refine d_v 22 st (by repeat constructor) rfl (by decide +kernel) rfl (v_move st rfl) ?_; clear st; intro _ st
    refine d_v 23 st (by repeat constructor) rfl (by decide +kernel) rfl (v_intFloat st rfl) ?_; clear st; intro _ st
    refine d_v 24 st (by repeat constructor) rfl (by decide +kernel) rfl (v_move st rfl) ?_; clear st; intro _ st
    refine d_v 25 st (by repeat constructor) rfl (by decide +kernel) rfl (v_add64 st rfl rfl (by omega) (by omega)) ?_; clear st; intro _ st
    refine d_v 26 st (by repeat constructor) rfl (by decide +kernel) rfl (v_intFloat st rfl) ?_; clear st; intro _ st
    refine d_one 27 (by decide +kernel) rfl ?_
    refine o_fopK st rfl rfl hs rfl ?_; clear st; intro _ st
    refine kh st (by repeat constructor) ?_
    refine d_one 28 (by decide +kernel) rfl ?_
    refine o_callV st rfl (c4 _) rfl ?_; clear st; intro _ _ st
    refine kh st (by repeat constructor) ?_
    refine d_v 29 st (by repeat constructor) rfl (by decide +kernel) rfl (v_move st rfl) ?_; clear st; intro _ st
    refine d_v 30 st (by repeat constructor) rfl (by decide +kernel) rfl (v_extract st rfl rfl) ?_; clear st; intro _ st
    refine d_v 31 st (by repeat constructor) rfl (by decide +kernel) rfl (v_extract st rfl rfl) ?_; clear st; intro _ st
    refine d_v 32 st (by repeat constructor) rfl (by decide +kernel) rfl (v_assign st rfl) ?_; clear st; intro _ st
    refine d_one 33 (by decide +kernel) rfl ?_
    (first | (refine o_assign st rfl rfl ?_; clear st; intro _ st))
    refine k_last ?_
    refine d_done (by decide +kernel) ?_
    (repeat' (first | refine c_seq ?_ | refine c_region ?_ | refine l_do ?_ | refine l_doG st rfl rfl ?_ | ((first | refine l_skipU st rfl rfl rfl ?_ | refine l_skip st rfl rfl rfl rfl ?_); clear st; intro _ st) | refine l_nil ?_ | refine x_then ?_ | refine x_thenR ?_ | refine x_thenE ?_ | refine x_blkN ?_ | refine x_blkR ?_ | refine x_blkE ?_ | refine x_blkO rfl ?_ | refine wp_ret ?_ | refine wp_skip ?_ | refine wp_block ?_ | refine wp_exit ?_ | refine c_condT st rfl ?_ | refine c_condF st rfl ?_ | ((first | refine o_move st rfl rfl ?_ | refine o_assign st rfl rfl ?_ | refine o_pickT st rfl rfl rfl ?_ | refine o_pickF st rfl rfl rfl ?_); clear st; intro _ st) | ((first | refine o_alloc st rfl ?_ | refine o_boxA st rfl rfl ?_ | refine o_boxS st rfl rfl rfl ?_); clear st; intro _ _ _ st) | ((first | refine o_fieldAddr st rfl rfl ?_ | refine o_loadS st rfl (by repeat constructor) rfl rfl ?_ | refine o_load3 st rfl (by repeat constructor) rfl ?_ | refine o_load2 st rfl (by repeat constructor) rfl ?_ | refine o_load4 st rfl (by repeat constructor) rfl ?_); clear st; intro _ st) | ((first | refine o_storeS st rfl rfl rfl (by repeat constructor) rfl (by dsimp only [List.set]) ?_ | refine o_storeW st rfl rfl (by repeat constructor) rfl rfl rfl ?_); clear st; intro _ _ st) | ((first | refine o_build3 st rfl rfl rfl rfl rfl rfl rfl ?_ | refine o_build2 st rfl rfl rfl rfl rfl ?_ | refine o_build0 st rfl ?_ | refine o_extract st rfl rfl rfl ?_ | refine o_add64 st rfl rfl rfl (by omega) (by omega) ?_ | refine o_sub64 st rfl rfl rfl (by omega) (by omega) ?_ | refine o_notT st rfl rfl ?_ | refine o_notF st rfl rfl ?_); clear st; intro _ st) | (refine o_fop rfl st rfl rfl (by first | assumption | exact Is_ofInt _ _ | exact Is_lit (by decide +kernel)) (by first | assumption | exact Is_ofInt _ _ | exact Is_lit (by decide +kernel)) rfl ?_; clear st; intro _ _ _ _ st) | ((first | refine o_fcv0 st rfl rfl ?_ | refine o_intFloat st rfl rfl ?_); clear st; intro _ st) | ((first | refine o_leq st rfl rfl rfl ?_ ?_ | refine o_geq st rfl rfl rfl ?_ ?_) <;> clear st <;> intro _ _ st <;> (try (exfalso; omega)))))
    refine c_drawC (F := (fun _ _ a w' => ∃ (vp vw : Value) (Lp Lw : List Ent), GV 31 vp ((c[0] :: l.take (j + 1)).map vPt) Lp ∧ GV 29 vw ((c[0] :: l.take (j + 1)).map vWt) Lw ∧ St w Try.f12.ntmps a w' [(1, .pointer (some ⟨p1, 0, none⟩)), (2, .pointer (some ⟨p2, 0, none⟩)), (4, .int .i64 ((c.length : Int) - 1)), (5, .pointer (some ⟨p5, 0, none⟩)), (6, .int .i64 ((j : Int) + 1))] (eP p5 vp vw :: eP p2 (.slice none 0 0) (.slice none 0 0) :: eP p1 (.slice (some ⟨x.b1, x.o1, none⟩) c.length x.cp) (.slice (some ⟨x.b2, x.o2, none⟩) c.length x.cw) :: ⟨x.b2, false, .cells x.a2 x.t2 x.f2⟩ :: ⟨x.b1, false, .cells x.a1 x.t1 x.f1⟩ :: (Lw ++ Lp)))) (Lh := [eP p5 vp vw]) (last := 11) hm_ (by decide +kernel) (by decide +kernel) st ?_ ?_
    · clear st; intro _ st
      refine d_v 0 st (by repeat constructor) rfl (by decide +kernel) rfl (v_fieldAddr st rfl) ?_; clear st; intro _ st
      refine d_v 1 st (by repeat constructor) rfl (by decide +kernel) rfl (by first | exact v_load3 st rfl (by repeat constructor) | exact v_loadS st rfl (by repeat constructor) rfl) ?_; clear st; intro _ st
      refine d_v 2 st (by repeat constructor) rfl (by decide +kernel) rfl (v_move st rfl) ?_; clear st; intro _ st
      refine d_v 5 st (by repeat constructor) rfl (by decide +kernel) rfl (v_fieldAddr st rfl) ?_; clear st; intro _ st
      refine d_v 6 st (by repeat constructor) rfl (by decide +kernel) rfl (by first | exact v_load3 st rfl (by repeat constructor) | exact v_loadS st rfl (by repeat constructor) rfl) ?_; clear st; intro _ st
      refine d_v 7 st (by repeat constructor) rfl (by decide +kernel) rfl (v_move st rfl) ?_; clear st; intro _ st
      refine d_two 3 8 (by decide +kernel) rfl rfl ?_ ?_
      · skip
        refine o_buildSlice st rfl rfl rfl rfl rfl rfl ?_; clear st; intro _ _ _ st
        refine kh st (by repeat constructor) ?_
        refine d_two 4 8 (by decide +kernel) rfl rfl ?_ ?_
        · skip
          refine o_appendGV rfl st hGp rfl rfl (by repeat constructor) rfl (by rw [List.length_map]; omega) (by repeat (first | exact RemS.hereR | apply RemS.there)) rfl ?_; clear st; intro b1 cap1 pad1 _ _ hp1 st
          refine kh st (by repeat constructor) ?_
          refine d_v 10 st (by repeat constructor) rfl (by decide +kernel) rfl (v_fieldAddr st rfl) ?_; clear st; intro _ st
          refine d_one 8 (by decide +kernel) rfl ?_
          refine o_buildSlice st rfl rfl rfl rfl rfl rfl ?_; clear st; intro _ _ _ st
          refine kh st (by repeat constructor) ?_
          refine d_one 9 (by decide +kernel) rfl ?_
          refine o_appendGV rfl st hGw rfl rfl (by repeat constructor) rfl (by rw [List.length_map]; omega) (by repeat (first | exact RemS.hereEnd | apply RemS.there)) rfl ?_; clear st; intro b2 cap2 pad2 _ _ hp2 st
          refine kh st (by repeat constructor) ?_
          refine d_one 11 (by decide +kernel) rfl ?_
          (first | ((first | refine o_storeS st rfl rfl rfl (by repeat constructor) rfl (by dsimp only [List.set]) ?_ | refine o_storeW st rfl rfl (by repeat constructor) rfl rfl rfl ?_); clear st; intro _ _ st))
          refine k_last ?_
          refine d_one 12 (by decide +kernel) rfl ?_
          (first | (refine o_fieldAddr st rfl rfl ?_; clear st; intro _ st))
          refine k_last ?_
          refine d_one 13 (by decide +kernel) rfl ?_
          (first | ((first | refine o_storeS st rfl rfl rfl (by repeat constructor) rfl (by dsimp only [List.set]) ?_ | refine o_storeW st rfl rfl (by repeat constructor) rfl rfl rfl ?_); clear st; intro _ _ st))
          refine k_last ?_
          refine d_done (by decide +kernel) ?_
          refine ⟨rfl, ?_⟩
          have e1 : (c[0] :: l.take (j + 1)) = (c[0] :: l.take j) ++ [l[j]] := by rw [List.take_succ_eq_append_getElem hlt]; rfl
          rw [e1, ← map_one, ← map_one]
          exact ⟨_, _, _, _, GV.grown hp1, GV.grown hp2, (St.back2 (L := [_, _, _, _, _]) (st.subL (by repeat (first | exact List.Sublist.refl _ | apply List.Sublist.cons_cons | apply List.Sublist.cons | exact List.nil_sublist _)))).fit (by repeat (first | exact trivial | refine And.intro rfl ?_))⟩
        · skip
          refine o_buildSlice st rfl rfl rfl rfl rfl rfl ?_; clear st; intro _ _ _ st
          refine kh st (by repeat constructor) ?_
          refine d_one 4 (by decide +kernel) rfl ?_
          refine o_appendGV rfl st hGp rfl rfl (by repeat constructor) rfl (by rw [List.length_map]; omega) (by repeat (first | exact RemS.hereR | apply RemS.there)) rfl ?_; clear st; intro b1 cap1 pad1 _ _ hp1 st
          refine kh st (by repeat constructor) ?_
          refine d_v 10 st (by repeat constructor) rfl (by decide +kernel) rfl (v_fieldAddr st rfl) ?_; clear st; intro _ st
          refine d_one 9 (by decide +kernel) rfl ?_
          refine o_appendGV rfl st hGw rfl rfl (by repeat constructor) rfl (by rw [List.length_map]; omega) (by repeat (first | exact RemS.hereEnd | apply RemS.there)) rfl ?_; clear st; intro b2 cap2 pad2 _ _ hp2 st
          refine kh st (by repeat constructor) ?_
          refine d_one 11 (by decide +kernel) rfl ?_
          (first | ((first | refine o_storeS st rfl rfl rfl (by repeat constructor) rfl (by dsimp only [List.set]) ?_ | refine o_storeW st rfl rfl (by repeat constructor) rfl rfl rfl ?_); clear st; intro _ _ st))
          refine k_last ?_
          refine d_one 12 (by decide +kernel) rfl ?_
          (first | (refine o_fieldAddr st rfl rfl ?_; clear st; intro _ st))
          refine k_last ?_
          refine d_one 13 (by decide +kernel) rfl ?_
          (first | ((first | refine o_storeS st rfl rfl rfl (by repeat constructor) rfl (by dsimp only [List.set]) ?_ | refine o_storeW st rfl rfl (by repeat constructor) rfl rfl rfl ?_); clear st; intro _ _ st))
          refine k_last ?_
          refine d_done (by decide +kernel) ?_
          refine ⟨rfl, ?_⟩
          have e1 : (c[0] :: l.take (j + 1)) = (c[0] :: l.take j) ++ [l[j]] := by rw [List.take_succ_eq_append_getElem hlt]; rfl
          rw [e1, ← map_one, ← map_one]
          exact ⟨_, _, _, _, GV.grown hp1, GV.grown hp2, (St.back2 (L := [_, _, _, _, _]) (st.subL (by repeat (first | exact List.Sublist.refl _ | apply List.Sublist.cons_cons | apply List.Sublist.cons | exact List.nil_sublist _)))).fit (by repeat (first | exact trivial | refine And.intro rfl ?_))⟩
      · skip
        refine o_buildSlice st rfl rfl rfl rfl rfl rfl ?_; clear st; intro _ _ _ st
        refine kh st (by repeat constructor) ?_
        refine d_one 3 (by decide +kernel) rfl ?_
        refine o_buildSlice st rfl rfl rfl rfl rfl rfl ?_; clear st; intro _ _ _ st
        refine kh st (by repeat constructor) ?_
        refine d_one 4 (by decide +kernel) rfl ?_
        refine o_appendGV rfl st hGp rfl rfl (by repeat constructor) rfl (by rw [List.length_map]; omega) (by repeat (first | exact RemS.hereR | apply RemS.there)) rfl ?_; clear st; intro b1 cap1 pad1 _ _ hp1 st
        refine kh st (by repeat constructor) ?_
        refine d_v 10 st (by repeat constructor) rfl (by decide +kernel) rfl (v_fieldAddr st rfl) ?_; clear st; intro _ st
        refine d_one 9 (by decide +kernel) rfl ?_
        refine o_appendGV rfl st hGw rfl rfl (by repeat constructor) rfl (by rw [List.length_map]; omega) (by repeat (first | exact RemS.hereEnd | apply RemS.there)) rfl ?_; clear st; intro b2 cap2 pad2 _ _ hp2 st
        refine kh st (by repeat constructor) ?_
        refine d_one 11 (by decide +kernel) rfl ?_
        (first | ((first | refine o_storeS st rfl rfl rfl (by repeat constructor) rfl (by dsimp only [List.set]) ?_ | refine o_storeW st rfl rfl (by repeat constructor) rfl rfl rfl ?_); clear st; intro _ _ st))
        refine k_last ?_
        refine d_one 12 (by decide +kernel) rfl ?_
        (first | (refine o_fieldAddr st rfl rfl ?_; clear st; intro _ st))
        refine k_last ?_
        refine d_one 13 (by decide +kernel) rfl ?_
        (first | ((first | refine o_storeS st rfl rfl rfl (by repeat constructor) rfl (by dsimp only [List.set]) ?_ | refine o_storeW st rfl rfl (by repeat constructor) rfl rfl rfl ?_); clear st; intro _ _ st))
        refine k_last ?_
        refine d_done (by decide +kernel) ?_
        refine ⟨rfl, ?_⟩
        have e1 : (c[0] :: l.take (j + 1)) = (c[0] :: l.take j) ++ [l[j]] := by rw [List.take_succ_eq_append_getElem hlt]; rfl
        rw [e1, ← map_one, ← map_one]
        exact ⟨_, _, _, _, GV.grown hp1, GV.grown hp2, (St.back2 (L := [_, _, _, _, _]) (st.subL (by repeat (first | exact List.Sublist.refl _ | apply List.Sublist.cons_cons | apply List.Sublist.cons | exact List.nil_sublist _)))).fit (by repeat (first | exact trivial | refine And.intro rfl ?_))⟩
    clear st
    rintro _ _ ⟨vp, vw, Lp, Lw, hGp, hGw, st⟩
    (repeat' (first | refine c_seq ?_ | refine c_region ?_ | refine l_do ?_ | refine l_doG st rfl rfl ?_ | ((first | refine l_skipU st rfl rfl rfl ?_ | refine l_skip st rfl rfl rfl rfl ?_); clear st; intro _ st) | refine l_nil ?_ | refine x_then ?_ | refine x_thenR ?_ | refine x_thenE ?_ | refine x_blkN ?_ | refine x_blkR ?_ | refine x_blkE ?_ | refine x_blkO rfl ?_ | refine wp_ret ?_ | refine wp_skip ?_ | refine wp_block ?_ | refine wp_exit ?_ | refine c_condT st rfl ?_ | refine c_condF st rfl ?_ | ((first | refine o_move st rfl rfl ?_ | refine o_assign st rfl rfl ?_ | refine o_pickT st rfl rfl rfl ?_ | refine o_pickF st rfl rfl rfl ?_); clear st; intro _ st) | ((first | refine o_alloc st rfl ?_ | refine o_boxA st rfl rfl ?_ | refine o_boxS st rfl rfl rfl ?_); clear st; intro _ _ _ st) | ((first | refine o_fieldAddr st rfl rfl ?_ | refine o_loadS st rfl (by repeat constructor) rfl rfl ?_ | refine o_load3 st rfl (by repeat constructor) rfl ?_ | refine o_load2 st rfl (by repeat constructor) rfl ?_ | refine o_load4 st rfl (by repeat constructor) rfl ?_); clear st; intro _ st) | ((first | refine o_storeS st rfl rfl rfl (by repeat constructor) rfl (by dsimp only [List.set]) ?_ | refine o_storeW st rfl rfl (by repeat constructor) rfl rfl rfl ?_); clear st; intro _ _ st) | ((first | refine o_build3 st rfl rfl rfl rfl rfl rfl rfl ?_ | refine o_build2 st rfl rfl rfl rfl rfl ?_ | refine o_build0 st rfl ?_ | refine o_extract st rfl rfl rfl ?_ | refine o_add64 st rfl rfl rfl (by omega) (by omega) ?_ | refine o_sub64 st rfl rfl rfl (by omega) (by omega) ?_ | refine o_notT st rfl rfl ?_ | refine o_notF st rfl rfl ?_); clear st; intro _ st) | (refine o_fop rfl st rfl rfl (by first | assumption | exact Is_ofInt _ _ | exact Is_lit (by decide +kernel)) (by first | assumption | exact Is_ofInt _ _ | exact Is_lit (by decide +kernel)) rfl ?_; clear st; intro _ _ _ _ st) | ((first | refine o_fcv0 st rfl rfl ?_ | refine o_intFloat st rfl rfl ?_); clear st; intro _ st) | ((first | refine o_leq st rfl rfl rfl ?_ ?_ | refine o_geq st rfl rfl rfl ?_ ?_) <;> clear st <;> intro _ _ st <;> (try (exfalso; omega)))))
    exact ⟨l.length - (j + 1), by omega, j + 1, vp, vw, Lp, Lw, by omega, rfl, hGp, hGw, st.fit (by repeat (first | exact trivial | refine And.intro rfl ?_))⟩
  · obtain rfl : j = l.length := by omega
    rw [List.take_length] at hGp hGw
    (repeat' (first | refine c_seq ?_ | refine c_region ?_ | refine l_do ?_ | refine l_doG st rfl rfl ?_ | ((first | refine l_skipU st rfl rfl rfl ?_ | refine l_skip st rfl rfl rfl rfl ?_); clear st; intro _ st) | refine l_nil ?_ | refine x_then ?_ | refine x_thenR ?_ | refine x_thenE ?_ | refine x_blkN ?_ | refine x_blkR ?_ | refine x_blkE ?_ | refine x_blkO rfl ?_ | refine wp_ret ?_ | refine wp_skip ?_ | refine wp_block ?_ | refine wp_exit ?_ | refine c_condT st rfl ?_ | refine c_condF st rfl ?_ | ((first | refine o_move st rfl rfl ?_ | refine o_assign st rfl rfl ?_ | refine o_pickT st rfl rfl rfl ?_ | refine o_pickF st rfl rfl rfl ?_); clear st; intro _ st) | ((first | refine o_alloc st rfl ?_ | refine o_boxA st rfl rfl ?_ | refine o_boxS st rfl rfl rfl ?_); clear st; intro _ _ _ st) | ((first | refine o_fieldAddr st rfl rfl ?_ | refine o_loadS st rfl (by repeat constructor) rfl rfl ?_ | refine o_load3 st rfl (by repeat constructor) rfl ?_ | refine o_load2 st rfl (by repeat constructor) rfl ?_ | refine o_load4 st rfl (by repeat constructor) rfl ?_); clear st; intro _ st) | ((first | refine o_storeS st rfl rfl rfl (by repeat constructor) rfl (by dsimp only [List.set]) ?_ | refine o_storeW st rfl rfl (by repeat constructor) rfl rfl rfl ?_); clear st; intro _ _ st) | ((first | refine o_build3 st rfl rfl rfl rfl rfl rfl rfl ?_ | refine o_build2 st rfl rfl rfl rfl rfl ?_ | refine o_build0 st rfl ?_ | refine o_extract st rfl rfl rfl ?_ | refine o_add64 st rfl rfl rfl (by omega) (by omega) ?_ | refine o_sub64 st rfl rfl rfl (by omega) (by omega) ?_ | refine o_notT st rfl rfl ?_ | refine o_notF st rfl rfl ?_); clear st; intro _ st) | (refine o_fop rfl st rfl rfl (by first | assumption | exact Is_ofInt _ _ | exact Is_lit (by decide +kernel)) (by first | assumption | exact Is_ofInt _ _ | exact Is_lit (by decide +kernel)) rfl ?_; clear st; intro _ _ _ _ st) | ((first | refine o_fcv0 st rfl rfl ?_ | refine o_intFloat st rfl rfl ?_); clear st; intro _ st) | ((first | refine o_leq st rfl rfl rfl ?_ ?_ | refine o_geq st rfl rfl rfl ?_ ?_) <;> clear st <;> intro _ _ st <;> (try (exfalso; omega)))))
    refine c_drawC (F := (fun _ _ a w' => ∃ (b1 b2 cap1 cap2 : Nat) (pad1 pad2 : List Value), St w Try.f12.ntmps a w' [(1, .pointer (some ⟨p1, 0, none⟩)), (2, .pointer (some ⟨p2, 0, none⟩)), (4, .int .i64 ((c.length : Int) - 1)), (5, .pointer (some ⟨p5, 0, none⟩))] (⟨b2, true, oV 29 ((c[0] :: (l ++ [c[c.length - 1]])).map vWt) pad2⟩ :: ⟨b1, true, oV 31 ((c[0] :: (l ++ [c[c.length - 1]])).map vPt) pad1⟩ :: eP p5 (.slice (some ⟨b1, 0, none⟩) (c[0] :: (l ++ [c[c.length - 1]])).length cap1) (.slice (some ⟨b2, 0, none⟩) (c[0] :: (l ++ [c[c.length - 1]])).length cap2) :: eP p2 (.slice none 0 0) (.slice none 0 0) :: eP p1 (.slice (some ⟨x.b1, x.o1, none⟩) c.length x.cp) (.slice (some ⟨x.b2, x.o2, none⟩) c.length x.cw) :: ⟨x.b2, false, .cells x.a2 x.t2 x.f2⟩ :: ⟨x.b1, false, .cells x.a1 x.t1 x.f1⟩ :: []))) (Lh := [eP p5 vp vw, eP p1 (.slice (some ⟨x.b1, x.o1, none⟩) c.length x.cp) (.slice (some ⟨x.b2, x.o2, none⟩) c.length x.cw), ⟨x.b2, false, .cells x.a2 x.t2 x.f2⟩, ⟨x.b1, false, .cells x.a1 x.t1 x.f1⟩]) (last := 19) hm_ (by decide +kernel) (by decide +kernel) st ?_ ?_
    · clear st; intro _ st
      refine d_v 0 st (by repeat constructor) rfl (by decide +kernel) rfl (v_fieldAddr st rfl) ?_; clear st; intro _ st
      refine d_v 1 st (by repeat constructor) rfl (by decide +kernel) rfl (by first | exact v_load3 st rfl (by repeat constructor) | exact v_loadS st rfl (by repeat constructor) rfl) ?_; clear st; intro _ st
      refine d_v 2 st (by repeat constructor) rfl (by decide +kernel) rfl (v_fieldAddr st rfl) ?_; clear st; intro _ st
      refine d_v 3 st (by repeat constructor) rfl (by decide +kernel) rfl (by first | exact v_load3 st rfl (by repeat constructor) | exact v_loadS st rfl (by repeat constructor) rfl) ?_; clear st; intro _ st
      refine d_v 4 st (by repeat constructor) rfl (by decide +kernel) rfl (v_move st rfl) ?_; clear st; intro _ st
      refine d_v 5 st (by repeat constructor) rfl (by decide +kernel) rfl (v_indexAddr st rfl rfl (by omega) (by omega)) ?_; clear st; intro _ st
      refine d_v 6 st (by repeat constructor) rfl (by decide +kernel) rfl (v_loadS st rfl (by repeat constructor) g3) ?_; clear st; intro _ st
      refine d_v 9 st (by repeat constructor) rfl (by decide +kernel) rfl (v_fieldAddr st rfl) ?_; clear st; intro _ st
      refine d_v 10 st (by repeat constructor) rfl (by decide +kernel) rfl (by first | exact v_load3 st rfl (by repeat constructor) | exact v_loadS st rfl (by repeat constructor) rfl) ?_; clear st; intro _ st
      refine d_v 11 st (by repeat constructor) rfl (by decide +kernel) rfl (v_fieldAddr st rfl) ?_; clear st; intro _ st
      refine d_v 12 st (by repeat constructor) rfl (by decide +kernel) rfl (by first | exact v_load3 st rfl (by repeat constructor) | exact v_loadS st rfl (by repeat constructor) rfl) ?_; clear st; intro _ st
      refine d_v 13 st (by repeat constructor) rfl (by decide +kernel) rfl (v_move st rfl) ?_; clear st; intro _ st
      refine d_v 14 st (by repeat constructor) rfl (by decide +kernel) rfl (v_indexAddr st rfl rfl (by omega) (by omega)) ?_; clear st; intro _ st
      refine d_v 15 st (by repeat constructor) rfl (by decide +kernel) rfl (v_loadS st rfl (by repeat constructor) g4) ?_; clear st; intro _ st
      refine d_two 7 16 (by decide +kernel) rfl rfl ?_ ?_
      · skip
        refine o_buildSlice st rfl rfl rfl rfl rfl rfl ?_; clear st; intro _ _ _ st
        refine kh st (by repeat constructor) ?_
        refine d_two 8 16 (by decide +kernel) rfl rfl ?_ ?_
        · skip
          refine o_appendGV rfl st hGp rfl rfl (by repeat constructor) rfl (by rw [List.length_map]; simp; omega) (by repeat (first | exact RemS.hereR | apply RemS.there)) rfl ?_; clear st; intro b1 cap1 pad1 _ _ hp1 st
          refine kh st (by repeat constructor) ?_
          refine d_v 18 st (by repeat constructor) rfl (by decide +kernel) rfl (v_fieldAddr st rfl) ?_; clear st; intro _ st
          refine d_one 16 (by decide +kernel) rfl ?_
          refine o_buildSlice st rfl rfl rfl rfl rfl rfl ?_; clear st; intro _ _ _ st
          refine kh st (by repeat constructor) ?_
          refine d_one 17 (by decide +kernel) rfl ?_
          refine o_appendGV rfl st hGw rfl rfl (by repeat constructor) rfl (by rw [List.length_map]; simp; omega) (by repeat (first | exact RemS.hereEnd | apply RemS.there)) rfl ?_; clear st; intro b2 cap2 pad2 _ _ hp2 st
          refine kh st (by repeat constructor) ?_
          refine d_one 19 (by decide +kernel) rfl ?_
          (first | ((first | refine o_storeS st rfl rfl rfl (by repeat constructor) rfl (by dsimp only [List.set]) ?_ | refine o_storeW st rfl rfl (by repeat constructor) rfl rfl rfl ?_); clear st; intro _ _ st))
          refine k_last ?_
          refine d_one 20 (by decide +kernel) rfl ?_
          (first | (refine o_fieldAddr st rfl rfl ?_; clear st; intro _ st))
          refine k_last ?_
          refine d_one 21 (by decide +kernel) rfl ?_
          (first | ((first | refine o_storeS st rfl rfl rfl (by repeat constructor) rfl (by dsimp only [List.set]) ?_ | refine o_storeW st rfl rfl (by repeat constructor) rfl rfl rfl ?_); clear st; intro _ _ st))
          refine k_last ?_
          refine d_done (by decide +kernel) ?_
          refine ⟨rfl, ?_⟩
          have e1 : (c[0] :: (l ++ [c[c.length - 1]])).map vPt = (c[0] :: l).map vPt ++ [vPt c[c.length - 1]] := by simp
          have e2 : (c[0] :: (l ++ [c[c.length - 1]])).map vWt = (c[0] :: l).map vWt ++ [vWt c[c.length - 1]] := by simp
          have e3 : ((c[0] :: l).map vPt ++ [vPt c[c.length - 1]]).length = (c[0] :: (l ++ [c[c.length - 1]])).length := by simp
          have e4 : ((c[0] :: l).map vWt ++ [vWt c[c.length - 1]]).length = (c[0] :: (l ++ [c[c.length - 1]])).length := by simp
          rw [e3, e4] at st
          rw [e1, e2]
          exact ⟨b1, b2, cap1, cap2, pad1, pad2, (st.subL (by repeat (first | exact List.Sublist.refl _ | apply List.Sublist.cons_cons | apply List.Sublist.cons | exact List.nil_sublist _))).fit (by repeat (first | exact trivial | refine And.intro rfl ?_))⟩
        · skip
          refine o_buildSlice st rfl rfl rfl rfl rfl rfl ?_; clear st; intro _ _ _ st
          refine kh st (by repeat constructor) ?_
          refine d_one 8 (by decide +kernel) rfl ?_
          refine o_appendGV rfl st hGp rfl rfl (by repeat constructor) rfl (by rw [List.length_map]; simp; omega) (by repeat (first | exact RemS.hereR | apply RemS.there)) rfl ?_; clear st; intro b1 cap1 pad1 _ _ hp1 st
          refine kh st (by repeat constructor) ?_
          refine d_v 18 st (by repeat constructor) rfl (by decide +kernel) rfl (v_fieldAddr st rfl) ?_; clear st; intro _ st
          refine d_one 17 (by decide +kernel) rfl ?_
          refine o_appendGV rfl st hGw rfl rfl (by repeat constructor) rfl (by rw [List.length_map]; simp; omega) (by repeat (first | exact RemS.hereEnd | apply RemS.there)) rfl ?_; clear st; intro b2 cap2 pad2 _ _ hp2 st
          refine kh st (by repeat constructor) ?_
          refine d_one 19 (by decide +kernel) rfl ?_
          (first | ((first | refine o_storeS st rfl rfl rfl (by repeat constructor) rfl (by dsimp only [List.set]) ?_ | refine o_storeW st rfl rfl (by repeat constructor) rfl rfl rfl ?_); clear st; intro _ _ st))
          refine k_last ?_
          refine d_one 20 (by decide +kernel) rfl ?_
          (first | (refine o_fieldAddr st rfl rfl ?_; clear st; intro _ st))
          refine k_last ?_
          refine d_one 21 (by decide +kernel) rfl ?_
          (first | ((first | refine o_storeS st rfl rfl rfl (by repeat constructor) rfl (by dsimp only [List.set]) ?_ | refine o_storeW st rfl rfl (by repeat constructor) rfl rfl rfl ?_); clear st; intro _ _ st))
          refine k_last ?_
          refine d_done (by decide +kernel) ?_
          refine ⟨rfl, ?_⟩
          have e1 : (c[0] :: (l ++ [c[c.length - 1]])).map vPt = (c[0] :: l).map vPt ++ [vPt c[c.length - 1]] := by simp
          have e2 : (c[0] :: (l ++ [c[c.length - 1]])).map vWt = (c[0] :: l).map vWt ++ [vWt c[c.length - 1]] := by simp
          have e3 : ((c[0] :: l).map vPt ++ [vPt c[c.length - 1]]).length = (c[0] :: (l ++ [c[c.length - 1]])).length := by simp
          have e4 : ((c[0] :: l).map vWt ++ [vWt c[c.length - 1]]).length = (c[0] :: (l ++ [c[c.length - 1]])).length := by simp
          rw [e3, e4] at st
          rw [e1, e2]
          exact ⟨b1, b2, cap1, cap2, pad1, pad2, (st.subL (by repeat (first | exact List.Sublist.refl _ | apply List.Sublist.cons_cons | apply List.Sublist.cons | exact List.nil_sublist _))).fit (by repeat (first | exact trivial | refine And.intro rfl ?_))⟩
      · skip
        refine o_buildSlice st rfl rfl rfl rfl rfl rfl ?_; clear st; intro _ _ _ st
        refine kh st (by repeat constructor) ?_
        refine d_one 7 (by decide +kernel) rfl ?_
        refine o_buildSlice st rfl rfl rfl rfl rfl rfl ?_; clear st; intro _ _ _ st
        refine kh st (by repeat constructor) ?_
        refine d_one 8 (by decide +kernel) rfl ?_
        refine o_appendGV rfl st hGp rfl rfl (by repeat constructor) rfl (by rw [List.length_map]; simp; omega) (by repeat (first | exact RemS.hereR | apply RemS.there)) rfl ?_; clear st; intro b1 cap1 pad1 _ _ hp1 st
        refine kh st (by repeat constructor) ?_
        refine d_v 18 st (by repeat constructor) rfl (by decide +kernel) rfl (v_fieldAddr st rfl) ?_; clear st; intro _ st
        refine d_one 17 (by decide +kernel) rfl ?_
        refine o_appendGV rfl st hGw rfl rfl (by repeat constructor) rfl (by rw [List.length_map]; simp; omega) (by repeat (first | exact RemS.hereEnd | apply RemS.there)) rfl ?_; clear st; intro b2 cap2 pad2 _ _ hp2 st
        refine kh st (by repeat constructor) ?_
        refine d_one 19 (by decide +kernel) rfl ?_
        (first | ((first | refine o_storeS st rfl rfl rfl (by repeat constructor) rfl (by dsimp only [List.set]) ?_ | refine o_storeW st rfl rfl (by repeat constructor) rfl rfl rfl ?_); clear st; intro _ _ st))
        refine k_last ?_
        refine d_one 20 (by decide +kernel) rfl ?_
        (first | (refine o_fieldAddr st rfl rfl ?_; clear st; intro _ st))
        refine k_last ?_
        refine d_one 21 (by decide +kernel) rfl ?_
        (first | ((first | refine o_storeS st rfl rfl rfl (by repeat constructor) rfl (by dsimp only [List.set]) ?_ | refine o_storeW st rfl rfl (by repeat constructor) rfl rfl rfl ?_); clear st; intro _ _ st))
        refine k_last ?_
        refine d_done (by decide +kernel) ?_
        refine ⟨rfl, ?_⟩
        have e1 : (c[0] :: (l ++ [c[c.length - 1]])).map vPt = (c[0] :: l).map vPt ++ [vPt c[c.length - 1]] := by simp
        have e2 : (c[0] :: (l ++ [c[c.length - 1]])).map vWt = (c[0] :: l).map vWt ++ [vWt c[c.length - 1]] := by simp
        have e3 : ((c[0] :: l).map vPt ++ [vPt c[c.length - 1]]).length = (c[0] :: (l ++ [c[c.length - 1]])).length := by simp
        have e4 : ((c[0] :: l).map vWt ++ [vWt c[c.length - 1]]).length = (c[0] :: (l ++ [c[c.length - 1]])).length := by simp
        rw [e3, e4] at st
        rw [e1, e2]
        exact ⟨b1, b2, cap1, cap2, pad1, pad2, (st.subL (by repeat (first | exact List.Sublist.refl _ | apply List.Sublist.cons_cons | apply List.Sublist.cons | exact List.nil_sublist _))).fit (by repeat (first | exact trivial | refine And.intro rfl ?_))⟩
    clear st
    rintro _ _ ⟨b1, b2, cap1, cap2, pad1, pad2, st⟩
    (repeat' (first | (refine o_callV st rfl (c3 _ _ (crv_own (st.heap (by repeat constructor)) (st.heap (by repeat constructor)))) rfl ?_; clear st; intro _ _ st) | refine c_seq ?_ | refine c_region ?_ | refine l_do ?_ | refine l_doG st rfl rfl ?_ | ((first | refine l_skipU st rfl rfl rfl ?_ | refine l_skip st rfl rfl rfl rfl ?_); clear st; intro _ st) | refine l_nil ?_ | refine x_then ?_ | refine x_thenR ?_ | refine x_thenE ?_ | refine x_blkN ?_ | refine x_blkR ?_ | refine x_blkE ?_ | refine x_blkO rfl ?_ | refine wp_ret ?_ | refine wp_skip ?_ | refine wp_block ?_ | refine wp_exit ?_ | refine c_condT st rfl ?_ | refine c_condF st rfl ?_ | ((first | refine o_move st rfl rfl ?_ | refine o_assign st rfl rfl ?_ | refine o_pickT st rfl rfl rfl ?_ | refine o_pickF st rfl rfl rfl ?_); clear st; intro _ st) | ((first | refine o_alloc st rfl ?_ | refine o_boxA st rfl rfl ?_ | refine o_boxS st rfl rfl rfl ?_); clear st; intro _ _ _ st) | ((first | refine o_fieldAddr st rfl rfl ?_ | refine o_loadS st rfl (by repeat constructor) rfl rfl ?_ | refine o_load3 st rfl (by repeat constructor) rfl ?_ | refine o_load2 st rfl (by repeat constructor) rfl ?_ | refine o_load4 st rfl (by repeat constructor) rfl ?_); clear st; intro _ st) | ((first | refine o_storeS st rfl rfl rfl (by repeat constructor) rfl (by dsimp only [List.set]) ?_ | refine o_storeW st rfl rfl (by repeat constructor) rfl rfl rfl ?_); clear st; intro _ _ st) | ((first | refine o_build3 st rfl rfl rfl rfl rfl rfl rfl ?_ | refine o_build2 st rfl rfl rfl rfl rfl ?_ | refine o_build0 st rfl ?_ | refine o_extract st rfl rfl rfl ?_ | refine o_add64 st rfl rfl rfl (by omega) (by omega) ?_ | refine o_sub64 st rfl rfl rfl (by omega) (by omega) ?_ | refine o_notT st rfl rfl ?_ | refine o_notF st rfl rfl ?_); clear st; intro _ st) | (refine o_fop rfl st rfl rfl (by first | assumption | exact Is_ofInt _ _ | exact Is_lit (by decide +kernel)) (by first | assumption | exact Is_ofInt _ _ | exact Is_lit (by decide +kernel)) rfl ?_; clear st; intro _ _ _ _ st) | ((first | refine o_fcv0 st rfl rfl ?_ | refine o_intFloat st rfl rfl ?_); clear st; intro _ st) | ((first | refine o_leq st rfl rfl rfl ?_ ?_ | refine o_geq st rfl rfl rfl ?_ ?_) <;> clear st <;> intro _ _ st <;> (try (exfalso; omega)))))
    refine post2 st Try.results12 (rd_c st rfl (by repeat constructor) rfl) (rd_t st rfl) ?_
    have hne := st.ne_of (e1 := ⟨b2, true, oV 29 ((c[0] :: (l ++ [c[c.length - 1]])).map vWt) pad2⟩) (e2 := ⟨b1, true, oV 31 ((c[0] :: (l ++ [c[c.length - 1]])).map vPt) pad1⟩) rfl (by repeat (first | exact List.Sublist.refl _ | apply List.Sublist.cons_cons | apply List.Sublist.cons | exact List.nil_sublist _))
    exact ⟨_, b1, _, b2, _, rfl, ⟨_, rfl, cap1, cap2, pad1, pad2, rfl, rfl, rfl⟩, st.ex2 (by repeat constructor) (by repeat constructor) hne.symm⟩
end Go.Proofs.Ytonbcbhnnflohaa
