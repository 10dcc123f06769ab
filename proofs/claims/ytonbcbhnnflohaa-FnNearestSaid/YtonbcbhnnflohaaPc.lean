/-
  FnNearest: the nearest place of a curve.
-/
import Derived.Test.YtonbcbhnnflohaaPb
import Derived.Laws.Small
namespace Go.Proofs.Ytonbcbhnnflohaa
open Go.RowKit
section
variable {P : Program} {w0 w : World} {N : Nat} {a : Act} {E : List (Nat × Value)} {L Lh : List Ent} {K : Act → World → Prop} {Q : Exit → Act → World → Prop}
variable {d : Nat} {ty : TypeId} {pos : String} {aft : Array Edge} {g : Option (Nat × Bool)}
/-- A function value with captured variables, and its call. -/
theorem o_makeFunc {fn : Fn} {xs : List Operand} {vs : List Value} (st : St w0 N a w E L) (hx : evs E xs = some vs) (hd : Nat.blt d N = true)
    (h : ∀ a', St w0 N a' w ((d, .func fn #[] vs.toArray) :: E) L → K a' w) : Oper.wp P ⟨some d, .makeFunc fn #[] xs.toArray, ty, pos, aft, g⟩ a w K Q := by
  refine o_val (v := .func fn #[] vs.toArray) (w' := w) ?_ (h _ (st.put d hd _))
  simp [execOp, Instr.makeFunc, evs_map st hx]
theorem o_callFn {f : FuncId} {x : Operand} {args : List Operand} {tys : Array TypeId} {vs cs : List Value} {v : Value} [hf : FnT P f] (st : St w0 N a w E L) (hx : evE E x = some (.func (.func f) #[] cs.toArray)) (ha : evs E args = some vs)
    (hc : CV P f (vs ++ cs) w v) (hd : Nat.blt d N = true) (h : ∀ a' w', St w0 N a' w' ((d, v) :: E) L → K a' w') : Oper.wp P ⟨some d, .call { callee := .value x, args := args.toArray, argTypes := tys }, ty, pos, aft, g⟩ a w K Q := by
  have he : (execOp a.eval ⟨some d, .call { callee := .value x, args := args.toArray, argTypes := tys }, ty, pos, aft, g⟩).run P w = .ok (.enter f (vs ++ cs).toArray) w := by
    simp [execOp, resolve, invoke, Deferred.ofValue, evE_eval st hx, evs_map st ha, hf.call]
  unfold Oper.wp
  rw [he, Oper.upon_enter]
  refine hc.mono ?_
  rintro e w' ⟨rfl, hx⟩
  exact h _ _ ((st.ext0 hx).put d hd _)
theorem v_maxI {x y : Operand} {k : IntKind} {i j r : Int} {tys : Array TypeId} (st : St w0 N a w E L) (hx : evE E x = some (.int k i)) (hy : evE E y = some (.int k j)) (hr : (if j > i then j else i) = r) : Vl P a Lh (.call { callee := .builtin .max, args := #[x, y], argTypes := tys }) (.int k r) := by
  intro d ty pos aft g w' _
  rw [← hr]
  simp [execOp, resolve, invoke, builtin, evE_eval st hx, evE_eval st hy, run_max_int2]
theorem v_minI {x y : Operand} {k : IntKind} {i j r : Int} {tys : Array TypeId} (st : St w0 N a w E L) (hx : evE E x = some (.int k i)) (hy : evE E y = some (.int k j)) (hr : (if j < i then j else i) = r) : Vl P a Lh (.call { callee := .builtin .min, args := #[x, y], argTypes := tys }) (.int k r) := by
  intro d ty pos aft g w' _
  rw [← hr]
  simp [execOp, resolve, invoke, builtin, evE_eval st hx, evE_eval st hy, run_min_int2]
end
def farT (c : List Kn) (z : Nat × Nat) (t : Nat) : Option Nat := (atK (c.length - 1) c t).bind fun k => (minusW (k.1, k.2.1) z).bind fun d => longW d.1 d.2
/-- The first of the least. -/
def bestF (x : Nat → Nat) : Nat → Nat × Nat
  | 0 => (0, 0)
  | i + 1 => if i = 0 ∨ fltB .f32 (some (x i)) (some (bestF x i).2) = true then (i, x i) else bestF x i
/-- One round of the search. -/
def RoundOk (c : List Kn) (z : Nat × Nat) (lo hi lo' hi' : Nat) : Prop := ∃ d th p q fp fq, fop .sub .f32 (some hi) (some lo) = some d ∧ fop .quo .f32 (some d) (some 1077936128) = some th ∧ fop .add .f32 (some lo) (some th) = some p ∧ fop .sub .f32 (some hi) (some th) = some q ∧
  farT c z p = some fp ∧ farT c z q = some fq ∧ Is .f32 fp (some fp) ∧ Is .f32 fq (some fq) ∧ lo' = (if fltB .f32 (some fp) (some fq) = true then lo else p) ∧ hi' = (if fltB .f32 (some fp) (some fq) = true then q else hi)
structure NrD where
  ts : List Nat
  ks : List Kn
  x : Nat → Nat
  lo : Nat → Nat
  hi : Nat → Nat
  m : Nat
  s : Nat
  fs : Nat
  t : Nat
  f : Nat
structure NrOk (c : List Kn) (z : Nat × Nat) (n : Nat) (d : NrD) : Prop where
  gc : GC c
  gz : Gd z.1 ∧ Gd z.2
  h1 : 1 ≤ n
  h64 : n ≤ 64
  lt : d.ts.length = n + 1
  lk : d.ks.length = n + 1
  ht : ∀ k (hk : k < d.ts.length), shareW (k : Nat) (n : Nat) = some d.ts[k]
  hk : ∀ k (_ : k < d.ts.length) (_ : k < d.ks.length), atK (c.length - 1) c d.ts[k] = some d.ks[k]
  hgd : ∀ k ∈ d.ks, Gd k.1 ∧ Gd k.2.1
  hx : ∀ k (_ : k < d.ks.length), ∃ r, minusW (d.ks[k].1, d.ks[k].2.1) z = some r ∧ longW r.1 r.2 = some (d.x k)
  ix : ∀ k, k < n + 1 → Is .f32 (d.x k) (some (d.x k))
  lo0 : ∀ (_ : (bestF d.x (n + 1)).1 - 1 < d.ts.length), d.lo 0 = d.ts[(bestF d.x (n + 1)).1 - 1]
  hi0 : ∀ (_ : min n ((bestF d.x (n + 1)).1 + 1) < d.ts.length), d.hi 0 = d.ts[min n ((bestF d.x (n + 1)).1 + 1)]
  round : ∀ k, k < 24 → RoundOk c z (d.lo k) (d.hi k) (d.lo (k + 1)) (d.hi (k + 1))
  m : fop .add .f32 (some (d.lo 24)) (some (d.hi 24)) = some d.m
  s : fop .quo .f32 (some d.m) (some 1073741824) = some d.s
  fs : farT c z d.s = some d.fs
  ifs : Is .f32 d.fs (some d.fs)
  t : ∀ (_ : (bestF d.x (n + 1)).1 < d.ts.length), d.t = if fltB .f32 (some (bestF d.x (n + 1)).2) (some d.fs) = true then d.ts[(bestF d.x (n + 1)).1] else d.s
  f : farT c z d.t = some d.f
  gf : Gd d.f
theorem bestF_le (x : Nat → Nat) : ∀ i, 0 < i → (bestF x i).1 < i ∧ (bestF x i).2 = x (bestF x i).1
  | 0, h => by omega
  | i + 1, _ => by
    unfold bestF
    split
    · exact ⟨by show i < i + 1; omega, rfl⟩
    · rename_i hn
      have hi : 0 < i := by
        apply Nat.pos_of_ne_zero
        intro h; exact hn (.inl h)
      obtain ⟨h1, h2⟩ := bestF_le x i hi
      exact ⟨by omega, h2⟩
attribute [local irreducible] Code.wp wpList Oper.wp Calls bodyPost Exit.then Exit.inBlock

theorem near1_ok (c : List Kn) (z : Nat × Nat) (t r : Nat) (h : farT c z t = some r) (h1 : 1 ≤ c.length) (hl : c.length ≤ 1000) (p q : Nat) (w : World) (hp : AtP w p c) (hq : w.heap[q]? = some (.cells [.complex .f32 z.1 z.2].toArray 31 (0, 0))) :
    CV Try.prog 76 [.float .f32 t, .pointer (some ⟨p, 0, none⟩), .pointer (some ⟨q, 0, none⟩)] w (.float .f32 r) := by
  obtain ⟨k, hk, h⟩ := ob h
  obtain ⟨d, hd, h⟩ := ob h
  obtain ⟨x, hw, hx, h3, h4⟩ := hp
  have c1 := fun v w hv => at_ok c t k hk h1 hl v w hv
  have c2 := fun w => minus_ok (k.1, k.2.1) z d hd w
  have c3 := fun w => LongOf_ok d.1 d.2 r h w
  refine enter Try.func76 rfl rfl rfl rfl ?_
  intro a st
  have st := (((st.addOld h3).addOld h4).addOld hw).addOld hq
  (repeat' (first | refine c_seq ?_ | refine c_region ?_ | refine l_do ?_ | refine l_nil ?_ | refine x_then ?_ | refine x_thenR ?_ | refine x_thenE ?_ | refine wp_ret ?_ | ((first | refine o_move st rfl rfl ?_ | refine o_assign st rfl rfl ?_ | refine o_loadS st rfl (by repeat constructor) rfl rfl ?_ | refine o_load3 st rfl (by repeat constructor) rfl ?_ | refine o_load2 st rfl (by repeat constructor) rfl ?_ | refine o_load4 st rfl (by repeat constructor) rfl ?_); clear st; intro _ st)))
  refine c_drawA (last := 6) hm_ (by decide +kernel) (by decide +kernel) st ?_; clear st; intro _ st
  refine d_v 0 st (by repeat constructor) rfl (by decide +kernel) rfl (v_load2 st rfl (by repeat constructor)) ?_; clear st; intro _ st
  refine d_v 1 st (by repeat constructor) rfl (by decide +kernel) rfl (v_move st rfl) ?_; clear st; intro _ st
  refine d_v 3 st (by repeat constructor) rfl (by decide +kernel) rfl (v_loadS st rfl (by repeat constructor) rfl) ?_; clear st; intro _ st
  refine d_one 2 (by decide +kernel) rfl ?_
  refine o_callV st rfl (c1 _ _ (x.crv hx (st.heap (by repeat constructor)) (st.heap (by repeat constructor)))) rfl ?_; clear st; intro _ _ st
  refine kh st (by repeat constructor) ?_
  refine d_one 4 (by decide +kernel) rfl ?_
  refine o_callV st rfl (c2 _) rfl ?_; clear st; intro _ _ st
  refine kh st (by repeat constructor) ?_
  refine d_one 5 (by decide +kernel) rfl ?_
  refine o_callV st rfl (c3 _) rfl ?_; clear st; intro _ _ st
  refine kh st (by repeat constructor) ?_
  refine d_one 6 (by decide +kernel) rfl ?_
  (first | (refine o_assign st rfl rfl ?_; clear st; intro _ st))
  refine k_last ?_
  refine d_done (by decide +kernel) ?_
  (repeat' (first | refine c_seq ?_ | refine c_region ?_ | refine l_do ?_ | refine l_nil ?_ | refine x_then ?_ | refine x_thenR ?_ | refine x_thenE ?_ | refine wp_ret ?_ | ((first | refine o_move st rfl rfl ?_ | refine o_assign st rfl rfl ?_ | refine o_loadS st rfl (by repeat constructor) rfl rfl ?_ | refine o_load3 st rfl (by repeat constructor) rfl ?_ | refine o_load2 st rfl (by repeat constructor) rfl ?_ | refine o_load4 st rfl (by repeat constructor) rfl ?_); clear st; intro _ st)))
  refine post1 st Try.results76 (rd_t st rfl) ?_
  exact ⟨rfl, st.ex0⟩
set_option maxRecDepth 100000 in
set_option maxHeartbeats 32000000 in
theorem NearestOn_ok (c : List Kn) (z : Nat × Nat) (n : Nat) (D : NrD) (h : NrOk c z n D) (v : Value) (w : World) (hv : CrV w c v) :
    CV Try.prog 29 [v, .complex .f32 z.1 z.2, .int .i64 n] w (.tuple #[.float .f32 D.t, .float .f32 D.f, .bool true]) := by
  have h0 := h.gc.lo
  have h8 := h.gc.hi
  have hn1 := h.h1
  have hn64 := h.h64
  have hlt := h.lt
  have hlk := h.lk
  have hv0 := hv
  obtain ⟨x, rfl, hx, h3, h4⟩ := hv.get (by omega)
  have c1 := fun v w hv => pointsAt_ok c h.gc n D.ts D.ks hn1 hn64 hlt hlk h.ht h.hk h.hgd v w hv
  have c2 := fun w => IsFiniteComplex_ok z h.gz.1 h.gz.2 w
  have c3 := fun w => pieceTimes_ok n D.ts hlt hn64 h.ht w
  refine enter Try.func29 rfl rfl rfl rfl ?_
  intro a st
  have st := (st.addOld h3).addOld h4
  (repeat' (first | (refine o_boxA (d := 3) st rfl rfl ?_; clear st; intro p3 _ _ st) | (refine o_boxS (d := 4) st rfl rfl rfl ?_; clear st; intro p4 _ _ st) | (refine o_callM1 st rfl (c1 _ _ (hv0.mono st.below)) rfl ?_; clear st; rintro _ bk _ ⟨capk, padk, rfl, rfl⟩ _ _ st) | (refine o_callV st rfl (c2 _) rfl ?_; clear st; intro _ _ st) | (refine o_makeFunc st rfl rfl ?_; clear st; intro _ st) | (refine o_callM1 st rfl (c3 _) rfl ?_; clear st; rintro _ bt _ ⟨capt, padt, rfl, rfl⟩ _ _ st) | refine c_seq ?_ | refine c_region ?_ | refine l_do ?_ | refine l_doG st rfl rfl ?_ | ((first | refine l_skipU st rfl rfl rfl ?_ | refine l_skip st rfl rfl rfl rfl ?_); clear st; intro _ st) | refine l_nil ?_ | refine x_then ?_ | refine x_thenR ?_ | refine x_thenE ?_ | refine x_blkN ?_ | refine x_blkR ?_ | refine x_blkE ?_ | refine x_blkO rfl ?_ | refine wp_ret ?_ | refine wp_skip ?_ | refine wp_block ?_ | refine wp_exit ?_ | refine c_condT st rfl ?_ | refine c_condF st rfl ?_ | ((first | refine o_move st rfl rfl ?_ | refine o_assign st rfl rfl ?_ | refine o_pickT st rfl rfl rfl ?_ | refine o_pickF st rfl rfl rfl ?_); clear st; intro _ st) | ((first | refine o_boxA st rfl rfl ?_ | refine o_boxS st rfl rfl rfl ?_); clear st; intro _ _ _ st) | ((first | refine o_loadS st rfl (by repeat constructor) rfl rfl ?_ | refine o_load3 st rfl (by repeat constructor) rfl ?_ | refine o_load2 st rfl (by repeat constructor) rfl ?_ | refine o_load4 st rfl (by repeat constructor) rfl ?_ | refine o_extract st rfl rfl rfl ?_ | refine o_len st rfl rfl ?_ | refine o_add64 st rfl rfl rfl (by omega) (by omega) ?_ | refine o_sub64 st rfl rfl rfl (by omega) (by omega) ?_ | refine o_notT st rfl rfl ?_ | refine o_notF st rfl rfl ?_); clear st; intro _ st) | (refine o_fop rfl st rfl rfl (by first | assumption | exact Is_ofInt _ _ | exact Is_lit (by decide +kernel)) (by first | assumption | exact Is_ofInt _ _ | exact Is_lit (by decide +kernel)) rfl ?_; clear st; intro _ _ _ _ st) | ((first | refine o_lss st rfl rfl rfl ?_ ?_ | refine o_eqlI st rfl rfl rfl ?_ ?_) <;> clear st <;> intro _ _ st <;> (try (exfalso; omega))) | (refine o_flss st rfl rfl (by first | assumption | exact Is_ofInt _ _ | exact Is_lit (by decide +kernel)) (by first | assumption | exact Is_ofInt _ _ | exact Is_lit (by decide +kernel)) rfl ?_ ?_ <;> clear st <;> intro _ _ st <;> (try simp_all))))
  refine wp_loop_ghost (fun y a w' => ∃ i : Nat, i ≤ n + 1 ∧ y = n + 1 - i ∧ St w Try.f29.ntmps a w' [(3, .pointer (some ⟨p3, 0, none⟩)), (4, .pointer (some ⟨p4, 0, none⟩)), (11, .func (.func 76) #[] [.pointer (some ⟨p3, 0, none⟩), .pointer (some ⟨p4, 0, none⟩)].toArray), (12, .slice (some ⟨bt, 0, none⟩) (n + 1) capt), (13, .int .i64 ((bestF D.x i).1 : Nat)), (14, .float .f32 (bestF D.x i).2), (40, .slice (some ⟨bk, 0, none⟩) (n + 1) capk), (41, .int .i64 ((n + 1 : Nat) : Int)), (42, .int .i64 (i : Nat))]
    [⟨bt, true, oV 29 (D.ts.map vF) padt⟩, ⟨bk, true, oV 31 (D.ks.map vPt) padk⟩, ⟨p4, true, .cells [.complex .f32 z.1 z.2].toArray 31 (0, 0)⟩, eP p3 (.slice (some ⟨x.b1, x.o1, none⟩) c.length x.cp) (.slice (some ⟨x.b2, x.o2, none⟩) c.length x.cw), ⟨x.b2, false, .cells x.a2 x.t2 x.f2⟩, ⟨x.b1, false, .cells x.a1 x.t1 x.f1⟩]) (n + 1) ⟨0, by omega, by omega, (st.fit (by repeat (first | exact trivial | refine And.intro rfl ?_))).subL (by repeat (first | exact List.Sublist.refl _ | apply List.Sublist.cons_cons | apply List.Sublist.cons | exact List.nil_sublist _))⟩ ?_
  clear st
  rintro y a w' ⟨i, hi, rfl, st⟩
  by_cases hlti : i < n + 1
  · have hik : i < D.ks.length := by omega
    obtain ⟨r, hr, hlr⟩ := h.hx i hik
    have ix := h.ix i hlti
    have c4 := fun w => minus_ok (D.ks[i].1, D.ks[i].2.1) z r hr w
    have c5 := fun w => LongOf_ok r.1 r.2 (D.x i) hlr w
    have g1 : (D.ks.map vPt ++ padk).toArray[0 + ((i : Nat) : Int).toNat * 1]? = some (vPt D.ks[i]) := by
      have := oV_get (pad := padk) (vs := D.ks.map vPt) (k := i) (by rw [List.length_map]; omega)
      rw [this, List.getElem_map]
    by_cases hi0 : i = 0
    · subst hi0
      have e : bestF D.x 1 = (0, D.x 0) := by simp [bestF]
      (repeat' (first | (refine o_indexAddr st rfl rfl (by omega) (by omega) rfl ?_; clear st; intro _ st) | (refine o_loadS st rfl (by repeat constructor) g1 rfl ?_; clear st; intro _ st) | (refine o_callV st rfl (c4 _) rfl ?_; clear st; intro _ _ st) | (refine o_callV st rfl (c5 _) rfl ?_; clear st; intro _ _ st) | refine c_seq ?_ | refine c_region ?_ | refine l_do ?_ | refine l_doG st rfl rfl ?_ | ((first | refine l_skipU st rfl rfl rfl ?_ | refine l_skip st rfl rfl rfl rfl ?_); clear st; intro _ st) | refine l_nil ?_ | refine x_then ?_ | refine x_thenR ?_ | refine x_thenE ?_ | refine x_blkN ?_ | refine x_blkR ?_ | refine x_blkE ?_ | refine x_blkO rfl ?_ | refine wp_ret ?_ | refine wp_skip ?_ | refine wp_block ?_ | refine wp_exit ?_ | refine c_condT st rfl ?_ | refine c_condF st rfl ?_ | ((first | refine o_move st rfl rfl ?_ | refine o_assign st rfl rfl ?_ | refine o_pickT st rfl rfl rfl ?_ | refine o_pickF st rfl rfl rfl ?_); clear st; intro _ st) | ((first | refine o_boxA st rfl rfl ?_ | refine o_boxS st rfl rfl rfl ?_); clear st; intro _ _ _ st) | ((first | refine o_loadS st rfl (by repeat constructor) rfl rfl ?_ | refine o_load3 st rfl (by repeat constructor) rfl ?_ | refine o_load2 st rfl (by repeat constructor) rfl ?_ | refine o_load4 st rfl (by repeat constructor) rfl ?_ | refine o_extract st rfl rfl rfl ?_ | refine o_len st rfl rfl ?_ | refine o_add64 st rfl rfl rfl (by omega) (by omega) ?_ | refine o_sub64 st rfl rfl rfl (by omega) (by omega) ?_ | refine o_notT st rfl rfl ?_ | refine o_notF st rfl rfl ?_); clear st; intro _ st) | (refine o_fop rfl st rfl rfl (by first | assumption | exact Is_ofInt _ _ | exact Is_lit (by decide +kernel)) (by first | assumption | exact Is_ofInt _ _ | exact Is_lit (by decide +kernel)) rfl ?_; clear st; intro _ _ _ _ st) | ((first | refine o_lss st rfl rfl rfl ?_ ?_ | refine o_eqlI st rfl rfl rfl ?_ ?_) <;> clear st <;> intro _ _ st <;> (try (exfalso; omega))) | (refine o_flss st rfl rfl (by first | assumption | exact Is_ofInt _ _ | exact Is_lit (by decide +kernel)) (by first | assumption | exact Is_ofInt _ _ | exact Is_lit (by decide +kernel)) rfl ?_ ?_ <;> clear st <;> intro _ _ st <;> (try simp_all))))
      refine ⟨n + 1 - 1, by omega, 1, by omega, rfl, ?_⟩
      rw [e]
      exact (st.fit (by repeat (first | exact trivial | refine And.intro rfl ?_))).subL (by repeat (first | exact List.Sublist.refl _ | apply List.Sublist.cons_cons | apply List.Sublist.cons | exact List.nil_sublist _))
    · obtain ⟨hb1, hb2⟩ := bestF_le D.x i (by omega)
      have ib : Is .f32 (bestF D.x i).2 (some (bestF D.x i).2) := by rw [hb2]; exact h.ix _ (by omega)
      by_cases hc : fltB .f32 (some (D.x i)) (some (bestF D.x i).2) = true
      · have e : bestF D.x (i + 1) = (i, D.x i) := by rw [bestF, if_pos (.inr hc)]
        (repeat' (first | (refine o_indexAddr st rfl rfl (by omega) (by omega) rfl ?_; clear st; intro _ st) | (refine o_loadS st rfl (by repeat constructor) g1 rfl ?_; clear st; intro _ st) | (refine o_callV st rfl (c4 _) rfl ?_; clear st; intro _ _ st) | (refine o_callV st rfl (c5 _) rfl ?_; clear st; intro _ _ st) | (refine o_flssW st rfl rfl ix ib hc rfl ?_; clear st; intro _ st) | refine c_seq ?_ | refine c_region ?_ | refine l_do ?_ | refine l_doG st rfl rfl ?_ | ((first | refine l_skipU st rfl rfl rfl ?_ | refine l_skip st rfl rfl rfl rfl ?_); clear st; intro _ st) | refine l_nil ?_ | refine x_then ?_ | refine x_thenR ?_ | refine x_thenE ?_ | refine x_blkN ?_ | refine x_blkR ?_ | refine x_blkE ?_ | refine x_blkO rfl ?_ | refine wp_ret ?_ | refine wp_skip ?_ | refine wp_block ?_ | refine wp_exit ?_ | refine c_condT st rfl ?_ | refine c_condF st rfl ?_ | ((first | refine o_move st rfl rfl ?_ | refine o_assign st rfl rfl ?_ | refine o_pickT st rfl rfl rfl ?_ | refine o_pickF st rfl rfl rfl ?_); clear st; intro _ st) | ((first | refine o_boxA st rfl rfl ?_ | refine o_boxS st rfl rfl rfl ?_); clear st; intro _ _ _ st) | ((first | refine o_loadS st rfl (by repeat constructor) rfl rfl ?_ | refine o_load3 st rfl (by repeat constructor) rfl ?_ | refine o_load2 st rfl (by repeat constructor) rfl ?_ | refine o_load4 st rfl (by repeat constructor) rfl ?_ | refine o_extract st rfl rfl rfl ?_ | refine o_len st rfl rfl ?_ | refine o_add64 st rfl rfl rfl (by omega) (by omega) ?_ | refine o_sub64 st rfl rfl rfl (by omega) (by omega) ?_ | refine o_notT st rfl rfl ?_ | refine o_notF st rfl rfl ?_); clear st; intro _ st) | (refine o_fop rfl st rfl rfl (by first | assumption | exact Is_ofInt _ _ | exact Is_lit (by decide +kernel)) (by first | assumption | exact Is_ofInt _ _ | exact Is_lit (by decide +kernel)) rfl ?_; clear st; intro _ _ _ _ st) | ((first | refine o_lss st rfl rfl rfl ?_ ?_ | refine o_eqlI st rfl rfl rfl ?_ ?_) <;> clear st <;> intro _ _ st <;> (try (exfalso; omega))) | (refine o_flss st rfl rfl (by first | assumption | exact Is_ofInt _ _ | exact Is_lit (by decide +kernel)) (by first | assumption | exact Is_ofInt _ _ | exact Is_lit (by decide +kernel)) rfl ?_ ?_ <;> clear st <;> intro _ _ st <;> (try simp_all))))
        refine ⟨n + 1 - (i + 1), by omega, i + 1, by omega, rfl, ?_⟩
        rw [e]
        exact (st.fit (by repeat (first | exact trivial | refine And.intro rfl ?_))).subL (by repeat (first | exact List.Sublist.refl _ | apply List.Sublist.cons_cons | apply List.Sublist.cons | exact List.nil_sublist _))
      · have e : bestF D.x (i + 1) = bestF D.x i := by rw [bestF, if_neg (by rintro (h | h); exact hi0 h; exact hc h)]
        rw [Bool.not_eq_true] at hc
        (repeat' (first | (refine o_indexAddr st rfl rfl (by omega) (by omega) rfl ?_; clear st; intro _ st) | (refine o_loadS st rfl (by repeat constructor) g1 rfl ?_; clear st; intro _ st) | (refine o_callV st rfl (c4 _) rfl ?_; clear st; intro _ _ st) | (refine o_callV st rfl (c5 _) rfl ?_; clear st; intro _ _ st) | (refine o_flssW st rfl rfl ix ib hc rfl ?_; clear st; intro _ st) | refine c_seq ?_ | refine c_region ?_ | refine l_do ?_ | refine l_doG st rfl rfl ?_ | ((first | refine l_skipU st rfl rfl rfl ?_ | refine l_skip st rfl rfl rfl rfl ?_); clear st; intro _ st) | refine l_nil ?_ | refine x_then ?_ | refine x_thenR ?_ | refine x_thenE ?_ | refine x_blkN ?_ | refine x_blkR ?_ | refine x_blkE ?_ | refine x_blkO rfl ?_ | refine wp_ret ?_ | refine wp_skip ?_ | refine wp_block ?_ | refine wp_exit ?_ | refine c_condT st rfl ?_ | refine c_condF st rfl ?_ | ((first | refine o_move st rfl rfl ?_ | refine o_assign st rfl rfl ?_ | refine o_pickT st rfl rfl rfl ?_ | refine o_pickF st rfl rfl rfl ?_); clear st; intro _ st) | ((first | refine o_boxA st rfl rfl ?_ | refine o_boxS st rfl rfl rfl ?_); clear st; intro _ _ _ st) | ((first | refine o_loadS st rfl (by repeat constructor) rfl rfl ?_ | refine o_load3 st rfl (by repeat constructor) rfl ?_ | refine o_load2 st rfl (by repeat constructor) rfl ?_ | refine o_load4 st rfl (by repeat constructor) rfl ?_ | refine o_extract st rfl rfl rfl ?_ | refine o_len st rfl rfl ?_ | refine o_add64 st rfl rfl rfl (by omega) (by omega) ?_ | refine o_sub64 st rfl rfl rfl (by omega) (by omega) ?_ | refine o_notT st rfl rfl ?_ | refine o_notF st rfl rfl ?_); clear st; intro _ st) | (refine o_fop rfl st rfl rfl (by first | assumption | exact Is_ofInt _ _ | exact Is_lit (by decide +kernel)) (by first | assumption | exact Is_ofInt _ _ | exact Is_lit (by decide +kernel)) rfl ?_; clear st; intro _ _ _ _ st) | ((first | refine o_lss st rfl rfl rfl ?_ ?_ | refine o_eqlI st rfl rfl rfl ?_ ?_) <;> clear st <;> intro _ _ st <;> (try (exfalso; omega))) | (refine o_flss st rfl rfl (by first | assumption | exact Is_ofInt _ _ | exact Is_lit (by decide +kernel)) (by first | assumption | exact Is_ofInt _ _ | exact Is_lit (by decide +kernel)) rfl ?_ ?_ <;> clear st <;> intro _ _ st <;> (try simp_all))))
        refine ⟨n + 1 - (i + 1), by omega, i + 1, by omega, rfl, ?_⟩
        rw [e]
        exact (st.fit (by repeat (first | exact trivial | refine And.intro rfl ?_))).subL (by repeat (first | exact List.Sublist.refl _ | apply List.Sublist.cons_cons | apply List.Sublist.cons | exact List.nil_sublist _))
  · obtain rfl : i = n + 1 := by omega
    obtain ⟨b, least, hb1, hbe, hb2⟩ : ∃ b least, b < n + 1 ∧ bestF D.x (n + 1) = (b, least) ∧ least = D.x b := ⟨_, _, (bestF_le D.x (n + 1) (by omega)).1, rfl, (bestF_le D.x (n + 1) (by omega)).2⟩
    have ib : Is .f32 least (some least) := by rw [hb2]; exact h.ix _ (by omega)
    have l0 := h.lo0
    have h0' := h.hi0
    have ht := h.t
    simp only [hbe] at l0 h0' ht
    rw [hbe] at st
    have l0 := l0 (by omega)
    have h0' := h0' (by omega)
    have ht := ht (by omega)
    have q1 : (if (b : Int) - 1 > 0 then (b : Int) - 1 else 0) = ((b - 1 : Nat) : Int) := by split <;> omega
    have q2 : (if (b : Int) + 1 < ((n + 1 : Nat) : Int) - 1 then (b : Int) + 1 else ((n + 1 : Nat) : Int) - 1) = ((min n (b + 1) : Nat) : Int) := by split <;> omega
    have gt : ∀ (j : Nat) (hj : j < D.ts.length), (D.ts.map vF ++ padt).toArray[0 + ((j : Nat) : Int).toNat * 1]? = some (vF D.ts[j]) := by
      intro j hj
      have := oV_get (pad := padt) (vs := D.ts.map vF) (k := j) (by rw [List.length_map]; omega)
      rw [this, List.getElem_map]
    have g1 := gt (b - 1) (by omega)
    have g2 := gt (min n (b + 1)) (by omega)
    have g3 := gt b (by omega)
    rw [← l0] at g1
    rw [← h0'] at g2
    (repeat' (first | refine c_seq ?_ | refine c_region ?_ | refine l_do ?_ | refine l_doG st rfl rfl ?_ | ((first | refine l_skipU st rfl rfl rfl ?_ | refine l_skip st rfl rfl rfl rfl ?_); clear st; intro _ st) | refine l_nil ?_ | refine x_then ?_ | refine x_thenR ?_ | refine x_thenE ?_ | refine x_blkN ?_ | refine x_blkR ?_ | refine x_blkE ?_ | refine x_blkO rfl ?_ | refine wp_ret ?_ | refine wp_skip ?_ | refine wp_block ?_ | refine wp_exit ?_ | refine c_condT st rfl ?_ | refine c_condF st rfl ?_ | ((first | refine o_move st rfl rfl ?_ | refine o_assign st rfl rfl ?_ | refine o_pickT st rfl rfl rfl ?_ | refine o_pickF st rfl rfl rfl ?_); clear st; intro _ st) | ((first | refine o_boxA st rfl rfl ?_ | refine o_boxS st rfl rfl rfl ?_); clear st; intro _ _ _ st) | ((first | refine o_loadS st rfl (by repeat constructor) rfl rfl ?_ | refine o_load3 st rfl (by repeat constructor) rfl ?_ | refine o_load2 st rfl (by repeat constructor) rfl ?_ | refine o_load4 st rfl (by repeat constructor) rfl ?_ | refine o_extract st rfl rfl rfl ?_ | refine o_len st rfl rfl ?_ | refine o_add64 st rfl rfl rfl (by omega) (by omega) ?_ | refine o_sub64 st rfl rfl rfl (by omega) (by omega) ?_ | refine o_notT st rfl rfl ?_ | refine o_notF st rfl rfl ?_); clear st; intro _ st) | (refine o_fop rfl st rfl rfl (by first | assumption | exact Is_ofInt _ _ | exact Is_lit (by decide +kernel)) (by first | assumption | exact Is_ofInt _ _ | exact Is_lit (by decide +kernel)) rfl ?_; clear st; intro _ _ _ _ st) | ((first | refine o_lss st rfl rfl rfl ?_ ?_ | refine o_eqlI st rfl rfl rfl ?_ ?_) <;> clear st <;> intro _ _ st <;> (try (exfalso; omega))) | (refine o_flss st rfl rfl (by first | assumption | exact Is_ofInt _ _ | exact Is_lit (by decide +kernel)) (by first | assumption | exact Is_ofInt _ _ | exact Is_lit (by decide +kernel)) rfl ?_ ?_ <;> clear st <;> intro _ _ st <;> (try simp_all))))
    refine c_drawA (last := 16) hm_ (by decide +kernel) (by decide +kernel) st ?_; clear st; intro _ st
    refine d_v 0 st (by repeat constructor) rfl (by decide +kernel) rfl (v_move st rfl) ?_; clear st; intro _ st
    refine d_v 1 st (by repeat constructor) rfl (by decide +kernel) rfl (v_move st rfl) ?_; clear st; intro _ st
    refine d_v 2 st (by repeat constructor) rfl (by decide +kernel) rfl (v_sub64 st rfl rfl (by omega) (by omega)) ?_; clear st; intro _ st
    refine d_v 3 st (by repeat constructor) rfl (by decide +kernel) rfl (v_maxI st rfl rfl q1) ?_; clear st; intro _ st
    refine d_v 4 st (by repeat constructor) rfl (by decide +kernel) rfl (v_indexAddr st rfl rfl (by omega) (by omega)) ?_; clear st; intro _ st
    refine d_v 5 st (by repeat constructor) rfl (by decide +kernel) rfl (v_loadS st rfl (by repeat constructor) g1) ?_; clear st; intro _ st
    refine d_v 6 st (by repeat constructor) rfl (by decide +kernel) rfl (v_move st rfl) ?_; clear st; intro _ st
    refine d_v 7 st (by repeat constructor) rfl (by decide +kernel) rfl (v_move st rfl) ?_; clear st; intro _ st
    refine d_v 8 st (by repeat constructor) rfl (by decide +kernel) rfl (v_len st rfl) ?_; clear st; intro _ st
    refine d_v 9 st (by repeat constructor) rfl (by decide +kernel) rfl (v_sub64 st rfl rfl (by omega) (by omega)) ?_; clear st; intro _ st
    refine d_v 10 st (by repeat constructor) rfl (by decide +kernel) rfl (v_move st rfl) ?_; clear st; intro _ st
    refine d_v 11 st (by repeat constructor) rfl (by decide +kernel) rfl (v_add64 st rfl rfl (by omega) (by omega)) ?_; clear st; intro _ st
    refine d_v 12 st (by repeat constructor) rfl (by decide +kernel) rfl (v_minI st rfl rfl q2) ?_; clear st; intro _ st
    refine d_v 13 st (by repeat constructor) rfl (by decide +kernel) rfl (v_indexAddr st rfl rfl (by omega) (by omega)) ?_; clear st; intro _ st
    refine d_v 14 st (by repeat constructor) rfl (by decide +kernel) rfl (v_loadS st rfl (by repeat constructor) g2) ?_; clear st; intro _ st
    refine d_v 15 st (by repeat constructor) rfl (by decide +kernel) rfl (v_assign st rfl) ?_; clear st; intro _ st
    refine d_one 16 (by decide +kernel) rfl ?_
    (first | (refine o_assign st rfl rfl ?_; clear st; intro _ st))
    refine k_last ?_
    refine d_done (by decide +kernel) ?_
    (repeat' (first | refine c_seq ?_ | refine c_region ?_ | refine l_do ?_ | refine l_doG st rfl rfl ?_ | ((first | refine l_skipU st rfl rfl rfl ?_ | refine l_skip st rfl rfl rfl rfl ?_); clear st; intro _ st) | refine l_nil ?_ | refine x_then ?_ | refine x_thenR ?_ | refine x_thenE ?_ | refine x_blkN ?_ | refine x_blkR ?_ | refine x_blkE ?_ | refine x_blkO rfl ?_ | refine wp_ret ?_ | refine wp_skip ?_ | refine wp_block ?_ | refine wp_exit ?_ | refine c_condT st rfl ?_ | refine c_condF st rfl ?_ | ((first | refine o_move st rfl rfl ?_ | refine o_assign st rfl rfl ?_ | refine o_pickT st rfl rfl rfl ?_ | refine o_pickF st rfl rfl rfl ?_); clear st; intro _ st) | ((first | refine o_boxA st rfl rfl ?_ | refine o_boxS st rfl rfl rfl ?_); clear st; intro _ _ _ st) | ((first | refine o_loadS st rfl (by repeat constructor) rfl rfl ?_ | refine o_load3 st rfl (by repeat constructor) rfl ?_ | refine o_load2 st rfl (by repeat constructor) rfl ?_ | refine o_load4 st rfl (by repeat constructor) rfl ?_ | refine o_extract st rfl rfl rfl ?_ | refine o_len st rfl rfl ?_ | refine o_add64 st rfl rfl rfl (by omega) (by omega) ?_ | refine o_sub64 st rfl rfl rfl (by omega) (by omega) ?_ | refine o_notT st rfl rfl ?_ | refine o_notF st rfl rfl ?_); clear st; intro _ st) | (refine o_fop rfl st rfl rfl (by first | assumption | exact Is_ofInt _ _ | exact Is_lit (by decide +kernel)) (by first | assumption | exact Is_ofInt _ _ | exact Is_lit (by decide +kernel)) rfl ?_; clear st; intro _ _ _ _ st) | ((first | refine o_lss st rfl rfl rfl ?_ ?_ | refine o_eqlI st rfl rfl rfl ?_ ?_) <;> clear st <;> intro _ _ st <;> (try (exfalso; omega))) | (refine o_flss st rfl rfl (by first | assumption | exact Is_ofInt _ _ | exact Is_lit (by decide +kernel)) (by first | assumption | exact Is_ofInt _ _ | exact Is_lit (by decide +kernel)) rfl ?_ ?_ <;> clear st <;> intro _ _ st <;> (try simp_all))))
    refine wp_loop_ghost (fun y a w' => ∃ i : Nat, i ≤ 24 ∧ y = 24 - i ∧ St w Try.f29.ntmps a w' [(3, .pointer (some ⟨p3, 0, none⟩)), (4, .pointer (some ⟨p4, 0, none⟩)), (11, .func (.func 76) #[] [.pointer (some ⟨p3, 0, none⟩), .pointer (some ⟨p4, 0, none⟩)].toArray), (12, .slice (some ⟨bt, 0, none⟩) (n + 1) capt), (13, .int .i64 (b : Nat)), (14, .float .f32 least), (18, .float .f32 (D.lo i)), (19, .float .f32 (D.hi i)), (76, .int .i64 (i : Nat))]
      [⟨bt, true, oV 29 (D.ts.map vF) padt⟩, ⟨p4, true, .cells [.complex .f32 z.1 z.2].toArray 31 (0, 0)⟩, eP p3 (.slice (some ⟨x.b1, x.o1, none⟩) c.length x.cp) (.slice (some ⟨x.b2, x.o2, none⟩) c.length x.cw), ⟨x.b2, false, .cells x.a2 x.t2 x.f2⟩, ⟨x.b1, false, .cells x.a1 x.t1 x.f1⟩]) 24 ⟨0, by omega, by omega, (st.fit (by repeat (first | exact trivial | refine And.intro rfl ?_))).subL (by repeat (first | exact List.Sublist.refl _ | apply List.Sublist.cons_cons | apply List.Sublist.cons | exact List.nil_sublist _))⟩ ?_
    clear st
    rintro y a w' ⟨i, hi, rfl, st⟩
    by_cases hlti : i < 24
    · obtain ⟨d, th, p, q, fp, fq, r1', r2', r3', r4', r5', r6', r7', r8', r9', r10'⟩ := h.round i hlti
      have c6 := fun w h1 h2 => near1_ok c z p fp r5' (by omega) (by omega) p3 p4 w h1 h2
      have c7 := fun w h1 h2 => near1_ok c z q fq r6' (by omega) (by omega) p3 p4 w h1 h2
      by_cases hc : fltB .f32 (some fp) (some fq) = true
      · rw [if_pos hc] at r9' r10'
        (repeat' (first | (refine o_callFn st rfl rfl (c6 _ ⟨x, st.heap (by repeat constructor), hx, st.heap (by repeat constructor), st.heap (by repeat constructor)⟩ (st.heap (by repeat constructor))) rfl ?_; clear st; intro _ _ st) | (refine o_callFn st rfl rfl (c7 _ ⟨x, st.heap (by repeat constructor), hx, st.heap (by repeat constructor), st.heap (by repeat constructor)⟩ (st.heap (by repeat constructor))) rfl ?_; clear st; intro _ _ st) | (refine o_flssW st rfl rfl r7' r8' hc rfl ?_; clear st; intro _ st) | (refine o_fopK st rfl rfl r1' rfl ?_; clear st; intro _ st) | (refine o_fopK st rfl rfl r2' rfl ?_; clear st; intro _ st) | (refine o_fopK st rfl rfl r3' rfl ?_; clear st; intro _ st) | (refine o_fopK st rfl rfl r4' rfl ?_; clear st; intro _ st) | refine c_seq ?_ | refine c_region ?_ | refine l_do ?_ | refine l_doG st rfl rfl ?_ | ((first | refine l_skipU st rfl rfl rfl ?_ | refine l_skip st rfl rfl rfl rfl ?_); clear st; intro _ st) | refine l_nil ?_ | refine x_then ?_ | refine x_thenR ?_ | refine x_thenE ?_ | refine x_blkN ?_ | refine x_blkR ?_ | refine x_blkE ?_ | refine x_blkO rfl ?_ | refine wp_ret ?_ | refine wp_skip ?_ | refine wp_block ?_ | refine wp_exit ?_ | refine c_condT st rfl ?_ | refine c_condF st rfl ?_ | ((first | refine o_move st rfl rfl ?_ | refine o_assign st rfl rfl ?_ | refine o_pickT st rfl rfl rfl ?_ | refine o_pickF st rfl rfl rfl ?_); clear st; intro _ st) | ((first | refine o_boxA st rfl rfl ?_ | refine o_boxS st rfl rfl rfl ?_); clear st; intro _ _ _ st) | ((first | refine o_loadS st rfl (by repeat constructor) rfl rfl ?_ | refine o_load3 st rfl (by repeat constructor) rfl ?_ | refine o_load2 st rfl (by repeat constructor) rfl ?_ | refine o_load4 st rfl (by repeat constructor) rfl ?_ | refine o_extract st rfl rfl rfl ?_ | refine o_len st rfl rfl ?_ | refine o_add64 st rfl rfl rfl (by omega) (by omega) ?_ | refine o_sub64 st rfl rfl rfl (by omega) (by omega) ?_ | refine o_notT st rfl rfl ?_ | refine o_notF st rfl rfl ?_); clear st; intro _ st) | (refine o_fop rfl st rfl rfl (by first | assumption | exact Is_ofInt _ _ | exact Is_lit (by decide +kernel)) (by first | assumption | exact Is_ofInt _ _ | exact Is_lit (by decide +kernel)) rfl ?_; clear st; intro _ _ _ _ st) | ((first | refine o_lss st rfl rfl rfl ?_ ?_ | refine o_eqlI st rfl rfl rfl ?_ ?_) <;> clear st <;> intro _ _ st <;> (try (exfalso; omega))) | (refine o_flss st rfl rfl (by first | assumption | exact Is_ofInt _ _ | exact Is_lit (by decide +kernel)) (by first | assumption | exact Is_ofInt _ _ | exact Is_lit (by decide +kernel)) rfl ?_ ?_ <;> clear st <;> intro _ _ st <;> (try simp_all))))
        refine ⟨24 - (i + 1), by omega, i + 1, by omega, rfl, ?_⟩
        rw [r9', r10']
        exact (st.fit (by repeat (first | exact trivial | refine And.intro rfl ?_))).subL (by repeat (first | exact List.Sublist.refl _ | apply List.Sublist.cons_cons | apply List.Sublist.cons | exact List.nil_sublist _))
      · rw [if_neg hc] at r9' r10'
        rw [Bool.not_eq_true] at hc
        (repeat' (first | (refine o_callFn st rfl rfl (c6 _ ⟨x, st.heap (by repeat constructor), hx, st.heap (by repeat constructor), st.heap (by repeat constructor)⟩ (st.heap (by repeat constructor))) rfl ?_; clear st; intro _ _ st) | (refine o_callFn st rfl rfl (c7 _ ⟨x, st.heap (by repeat constructor), hx, st.heap (by repeat constructor), st.heap (by repeat constructor)⟩ (st.heap (by repeat constructor))) rfl ?_; clear st; intro _ _ st) | (refine o_flssW st rfl rfl r7' r8' hc rfl ?_; clear st; intro _ st) | (refine o_fopK st rfl rfl r1' rfl ?_; clear st; intro _ st) | (refine o_fopK st rfl rfl r2' rfl ?_; clear st; intro _ st) | (refine o_fopK st rfl rfl r3' rfl ?_; clear st; intro _ st) | (refine o_fopK st rfl rfl r4' rfl ?_; clear st; intro _ st) | refine c_seq ?_ | refine c_region ?_ | refine l_do ?_ | refine l_doG st rfl rfl ?_ | ((first | refine l_skipU st rfl rfl rfl ?_ | refine l_skip st rfl rfl rfl rfl ?_); clear st; intro _ st) | refine l_nil ?_ | refine x_then ?_ | refine x_thenR ?_ | refine x_thenE ?_ | refine x_blkN ?_ | refine x_blkR ?_ | refine x_blkE ?_ | refine x_blkO rfl ?_ | refine wp_ret ?_ | refine wp_skip ?_ | refine wp_block ?_ | refine wp_exit ?_ | refine c_condT st rfl ?_ | refine c_condF st rfl ?_ | ((first | refine o_move st rfl rfl ?_ | refine o_assign st rfl rfl ?_ | refine o_pickT st rfl rfl rfl ?_ | refine o_pickF st rfl rfl rfl ?_); clear st; intro _ st) | ((first | refine o_boxA st rfl rfl ?_ | refine o_boxS st rfl rfl rfl ?_); clear st; intro _ _ _ st) | ((first | refine o_loadS st rfl (by repeat constructor) rfl rfl ?_ | refine o_load3 st rfl (by repeat constructor) rfl ?_ | refine o_load2 st rfl (by repeat constructor) rfl ?_ | refine o_load4 st rfl (by repeat constructor) rfl ?_ | refine o_extract st rfl rfl rfl ?_ | refine o_len st rfl rfl ?_ | refine o_add64 st rfl rfl rfl (by omega) (by omega) ?_ | refine o_sub64 st rfl rfl rfl (by omega) (by omega) ?_ | refine o_notT st rfl rfl ?_ | refine o_notF st rfl rfl ?_); clear st; intro _ st) | (refine o_fop rfl st rfl rfl (by first | assumption | exact Is_ofInt _ _ | exact Is_lit (by decide +kernel)) (by first | assumption | exact Is_ofInt _ _ | exact Is_lit (by decide +kernel)) rfl ?_; clear st; intro _ _ _ _ st) | ((first | refine o_lss st rfl rfl rfl ?_ ?_ | refine o_eqlI st rfl rfl rfl ?_ ?_) <;> clear st <;> intro _ _ st <;> (try (exfalso; omega))) | (refine o_flss st rfl rfl (by first | assumption | exact Is_ofInt _ _ | exact Is_lit (by decide +kernel)) (by first | assumption | exact Is_ofInt _ _ | exact Is_lit (by decide +kernel)) rfl ?_ ?_ <;> clear st <;> intro _ _ st <;> (try simp_all))))
        refine ⟨24 - (i + 1), by omega, i + 1, by omega, rfl, ?_⟩
        rw [r9', r10']
        exact (st.fit (by repeat (first | exact trivial | refine And.intro rfl ?_))).subL (by repeat (first | exact List.Sublist.refl _ | apply List.Sublist.cons_cons | apply List.Sublist.cons | exact List.nil_sublist _))
    · obtain rfl : i = 24 := by omega
      have hm := h.m
      have hs := h.s
      have ifs := h.ifs
      have c6 := fun w h1 h2 => near1_ok c z D.s D.fs h.fs (by omega) (by omega) p3 p4 w h1 h2
      have c7 := fun w h1 h2 => near1_ok c z D.t D.f h.f (by omega) (by omega) p3 p4 w h1 h2
      have c8 := fun w => IsFinite_ok D.f h.gf w
      by_cases hc : fltB .f32 (some least) (some D.fs) = true
      · rw [if_pos hc] at ht
        rw [← ht] at g3
        (repeat' (first | (refine o_callFn st rfl rfl (c7 _ ⟨x, st.heap (by repeat constructor), hx, st.heap (by repeat constructor), st.heap (by repeat constructor)⟩ (st.heap (by repeat constructor))) rfl ?_; clear st; intro _ _ st) | (refine o_callFn st rfl rfl (c6 _ ⟨x, st.heap (by repeat constructor), hx, st.heap (by repeat constructor), st.heap (by repeat constructor)⟩ (st.heap (by repeat constructor))) rfl ?_; clear st; intro _ _ st) | (refine o_callV st rfl (c8 _) rfl ?_; clear st; intro _ _ st) | (refine o_flssW st rfl rfl ib ifs hc rfl ?_; clear st; intro _ st) | (refine o_fopK st rfl rfl hm rfl ?_; clear st; intro _ st) | (refine o_fopK st rfl rfl hs rfl ?_; clear st; intro _ st) | (refine o_indexAddr st rfl rfl (by omega) (by omega) rfl ?_; clear st; intro _ st) | (refine o_loadS st rfl (by repeat constructor) g3 rfl ?_; clear st; intro _ st) | refine c_seq ?_ | refine c_region ?_ | refine l_do ?_ | refine l_doG st rfl rfl ?_ | ((first | refine l_skipU st rfl rfl rfl ?_ | refine l_skip st rfl rfl rfl rfl ?_); clear st; intro _ st) | refine l_nil ?_ | refine x_then ?_ | refine x_thenR ?_ | refine x_thenE ?_ | refine x_blkN ?_ | refine x_blkR ?_ | refine x_blkE ?_ | refine x_blkO rfl ?_ | refine wp_ret ?_ | refine wp_skip ?_ | refine wp_block ?_ | refine wp_exit ?_ | refine c_condT st rfl ?_ | refine c_condF st rfl ?_ | ((first | refine o_move st rfl rfl ?_ | refine o_assign st rfl rfl ?_ | refine o_pickT st rfl rfl rfl ?_ | refine o_pickF st rfl rfl rfl ?_); clear st; intro _ st) | ((first | refine o_boxA st rfl rfl ?_ | refine o_boxS st rfl rfl rfl ?_); clear st; intro _ _ _ st) | ((first | refine o_loadS st rfl (by repeat constructor) rfl rfl ?_ | refine o_load3 st rfl (by repeat constructor) rfl ?_ | refine o_load2 st rfl (by repeat constructor) rfl ?_ | refine o_load4 st rfl (by repeat constructor) rfl ?_ | refine o_extract st rfl rfl rfl ?_ | refine o_len st rfl rfl ?_ | refine o_add64 st rfl rfl rfl (by omega) (by omega) ?_ | refine o_sub64 st rfl rfl rfl (by omega) (by omega) ?_ | refine o_notT st rfl rfl ?_ | refine o_notF st rfl rfl ?_); clear st; intro _ st) | (refine o_fop rfl st rfl rfl (by first | assumption | exact Is_ofInt _ _ | exact Is_lit (by decide +kernel)) (by first | assumption | exact Is_ofInt _ _ | exact Is_lit (by decide +kernel)) rfl ?_; clear st; intro _ _ _ _ st) | ((first | refine o_lss st rfl rfl rfl ?_ ?_ | refine o_eqlI st rfl rfl rfl ?_ ?_) <;> clear st <;> intro _ _ st <;> (try (exfalso; omega))) | (refine o_flss st rfl rfl (by first | assumption | exact Is_ofInt _ _ | exact Is_lit (by decide +kernel)) (by first | assumption | exact Is_ofInt _ _ | exact Is_lit (by decide +kernel)) rfl ?_ ?_ <;> clear st <;> intro _ _ st <;> (try simp_all))))
        refine post3 st Try.results29 (rd_t st rfl) (rd_t st rfl) (rd_t st rfl) ?_
        exact ⟨rfl, st.ex0⟩
      · rw [if_neg hc] at ht
        rw [Bool.not_eq_true] at hc
        have e : D.f = D.fs := by
          have e1 := h.f
          rw [ht, h.fs] at e1
          exact (Option.some.inj e1).symm
        rw [e] at c8
        rw [ht, e]
        (repeat' (first | (refine o_callFn st rfl rfl (c6 _ ⟨x, st.heap (by repeat constructor), hx, st.heap (by repeat constructor), st.heap (by repeat constructor)⟩ (st.heap (by repeat constructor))) rfl ?_; clear st; intro _ _ st) | (refine o_callV st rfl (c8 _) rfl ?_; clear st; intro _ _ st) | (refine o_flssW st rfl rfl ib ifs hc rfl ?_; clear st; intro _ st) | (refine o_fopK st rfl rfl hm rfl ?_; clear st; intro _ st) | (refine o_fopK st rfl rfl hs rfl ?_; clear st; intro _ st) | refine c_seq ?_ | refine c_region ?_ | refine l_do ?_ | refine l_doG st rfl rfl ?_ | ((first | refine l_skipU st rfl rfl rfl ?_ | refine l_skip st rfl rfl rfl rfl ?_); clear st; intro _ st) | refine l_nil ?_ | refine x_then ?_ | refine x_thenR ?_ | refine x_thenE ?_ | refine x_blkN ?_ | refine x_blkR ?_ | refine x_blkE ?_ | refine x_blkO rfl ?_ | refine wp_ret ?_ | refine wp_skip ?_ | refine wp_block ?_ | refine wp_exit ?_ | refine c_condT st rfl ?_ | refine c_condF st rfl ?_ | ((first | refine o_move st rfl rfl ?_ | refine o_assign st rfl rfl ?_ | refine o_pickT st rfl rfl rfl ?_ | refine o_pickF st rfl rfl rfl ?_); clear st; intro _ st) | ((first | refine o_boxA st rfl rfl ?_ | refine o_boxS st rfl rfl rfl ?_); clear st; intro _ _ _ st) | ((first | refine o_loadS st rfl (by repeat constructor) rfl rfl ?_ | refine o_load3 st rfl (by repeat constructor) rfl ?_ | refine o_load2 st rfl (by repeat constructor) rfl ?_ | refine o_load4 st rfl (by repeat constructor) rfl ?_ | refine o_extract st rfl rfl rfl ?_ | refine o_len st rfl rfl ?_ | refine o_add64 st rfl rfl rfl (by omega) (by omega) ?_ | refine o_sub64 st rfl rfl rfl (by omega) (by omega) ?_ | refine o_notT st rfl rfl ?_ | refine o_notF st rfl rfl ?_); clear st; intro _ st) | (refine o_fop rfl st rfl rfl (by first | assumption | exact Is_ofInt _ _ | exact Is_lit (by decide +kernel)) (by first | assumption | exact Is_ofInt _ _ | exact Is_lit (by decide +kernel)) rfl ?_; clear st; intro _ _ _ _ st) | ((first | refine o_lss st rfl rfl rfl ?_ ?_ | refine o_eqlI st rfl rfl rfl ?_ ?_) <;> clear st <;> intro _ _ st <;> (try (exfalso; omega))) | (refine o_flss st rfl rfl (by first | assumption | exact Is_ofInt _ _ | exact Is_lit (by decide +kernel)) (by first | assumption | exact Is_ofInt _ _ | exact Is_lit (by decide +kernel)) rfl ?_ ?_ <;> clear st <;> intro _ _ st <;> (try simp_all))))
        refine post3 st Try.results29 (rd_t st rfl) (rd_t st rfl) (rd_t st rfl) ?_
        exact ⟨rfl, st.ex0⟩
end Go.Proofs.Ytonbcbhnnflohaa
