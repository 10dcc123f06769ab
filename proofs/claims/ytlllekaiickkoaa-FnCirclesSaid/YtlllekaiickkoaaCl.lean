/-
  FnCircles: logarithms, floors, tenths (walks).
-/
import Derived.Test.YtlllekaiickkoaaCk
namespace Go.Proofs.Ytlllekaiickkoaa
open Go.RowKit
attribute [local irreducible] Code.wp wpList Oper.wp Calls bodyPost Exit.then Exit.inBlock

theorem ext_floor (x : Nat) (hx : Is .f64 x (some x)) (w : World) : (callFunc 30 [.float .f64 x].toArray).run Try.prog w = .ok (.value (.float .f64 (floorW x))) w := by
  rw [run_callFunc_extern (fn := Try.f30) (e := Extern.MathFloor.toIntegral "math.archFloor" .down) Try.func30 (by kernel_rfl) (by kernel_rfl) (by kernel_rfl) (by kernel_rfl)]
  have hn := (cl_some hx.2).2
  unfold floorW
  have hq : Extern.MathFloor.toIntegral "math.archFloor" .down [.float .f64 x].toArray = (match FloatKind.f64.decode x with
    | .nan s t => if FloatKind.f64.format.quiet t = t then pure (.float .f64 x) else do
      let kept ← choose (.extern "math.Floor,Ceil,Trunc,RoundToEven.signallingNaN kept" 2)
      pure (.float .f64 (if kept == 1 then x else FloatKind.f64.encode (.nan s (FloatKind.f64.format.quiet t))))
    | d => pure (.float .f64 (FloatKind.f64.encode (d.integral .down)))) := rfl
  rw [hq]
  cases hd : FloatKind.f64.decode x with
  | nan s t => rw [hd] at hn; cases hn
  | _ => rfl
theorem Floor_ok (x : Nat) (hx : Is .f64 x (some x)) (w : World) : CV Try.prog 24 [.float .f64 x] w (.float .f64 (floorW x)) := by
  refine enter Try.func24 rfl rfl rfl rfl ?_
  intro y st
  (repeat' (first | (refine o_extV st rfl (ext_floor x hx _) rfl ?_; clear st; intro _ st) | refine c_seq ?_ | refine c_region ?_ | refine l_do ?_ | refine l_nil ?_ | refine x_then ?_ | refine x_thenR ?_ | refine x_thenE ?_ | refine wp_ret ?_ | refine wp_skip ?_ | refine c_condT st rfl ?_ | refine c_condF st rfl ?_ | ((first | refine o_move st rfl rfl ?_ | refine o_assign st rfl rfl ?_); clear st; intro _ st)))
  refine post1 st Try.results24 (rd_t st rfl) ?_
  exact ⟨rfl, st.ex0⟩

theorem naturalLog_ok (x r : Nat) (ix : Is .f64 x (some x)) (h : logW x = some r) (w : World) : CV Try.prog 25 [.float .f64 x] w (.float .f64 r) := by
  unfold logW at h
  obtain ⟨x1, e1, hl1, h⟩ := bw2_some h
  obtain ⟨x2, e2, hl2, h⟩ := bw2_some h
  obtain ⟨a, ha, h⟩ := bw_some h
  obtain ⟨b, hb, h⟩ := bw_some h
  obtain ⟨s, hs, h⟩ := bw_some h
  obtain ⟨u, hu, h⟩ := bw_some h
  obtain ⟨q, hq, h⟩ := bw_some h
  obtain ⟨m, hm, h⟩ := bw_some h
  obtain ⟨n, hn, h⟩ := bw_some h
  obtain ⟨o, ho, h⟩ := bw_some h
  have ha := subF_some ha
  have hb := addF_some hb
  have hs := quoW_some hs
  have hu := mulF_some hu
  have hm := mulF_some hm
  have hn := mulF_some hn
  have ho := mulF_some ho
  have h := addF_some h
  refine enter Try.func25 rfl rfl rfl rfl ?_
  intro z st
  (repeat' (first | (refine c_meet (c1 := Code.block 0 _) (fun z w' => St w Try.f25.ntmps z w' [(0, .float .f64 x1), (3, .float .f64 e1)] [] ∧ Is .f64 x1 (some x1)) ?_ ?_) | refine c_seq ?_ | refine c_region ?_ | refine l_do ?_ | refine l_nil ?_ | refine x_then ?_ | refine x_thenR ?_ | refine x_thenE ?_ | refine x_blkN ?_ | refine x_blkR ?_ | refine x_blkE ?_ | refine x_blkO rfl ?_ | refine wp_ret ?_ | refine wp_skip ?_ | refine wp_block ?_ | refine wp_exit ?_ | refine c_condT st rfl ?_ | refine c_condF st rfl ?_ | ((first | refine o_move st rfl rfl ?_ | refine o_assign st rfl rfl ?_); clear st; intro _ st) | (refine o_fop rfl st rfl rfl (by first | assumption | exact Is_ofInt _ _ | exact Is_lit (by decide +kernel)) (by first | assumption | exact Is_ofInt _ _ | exact Is_lit (by decide +kernel)) rfl ?_; clear st; intro _ _ _ _ st) | ((first | refine o_flss st rfl rfl (by first | assumption | exact Is_ofInt _ _ | exact Is_lit (by decide +kernel)) (by first | assumption | exact Is_ofInt _ _ | exact Is_lit (by decide +kernel)) rfl ?_ ?_ | refine o_fgeq st rfl rfl (by first | assumption | exact Is_ofInt _ _ | exact Is_lit (by decide +kernel)) (by first | assumption | exact Is_ofInt _ _ | exact Is_lit (by decide +kernel)) rfl ?_ ?_) <;> clear st <;> intro _ _ st <;> (try simp_all))))
  · refine ⟨?_⟩
    (repeat' (first | refine c_seq ?_ | refine c_region ?_ | refine l_do ?_ | refine l_nil ?_ | refine x_then ?_ | refine x_thenR ?_ | refine x_thenE ?_ | refine x_blkN ?_ | refine x_blkR ?_ | refine x_blkE ?_ | refine x_blkO rfl ?_ | refine wp_ret ?_ | refine wp_skip ?_ | refine wp_block ?_ | refine wp_exit ?_ | refine c_condT st rfl ?_ | refine c_condF st rfl ?_ | ((first | refine o_move st rfl rfl ?_ | refine o_assign st rfl rfl ?_); clear st; intro _ st) | (refine o_fop rfl st rfl rfl (by first | assumption | exact Is_ofInt _ _ | exact Is_lit (by decide +kernel)) (by first | assumption | exact Is_ofInt _ _ | exact Is_lit (by decide +kernel)) rfl ?_; clear st; intro _ _ _ _ st) | ((first | refine o_flss st rfl rfl (by first | assumption | exact Is_ofInt _ _ | exact Is_lit (by decide +kernel)) (by first | assumption | exact Is_ofInt _ _ | exact Is_lit (by decide +kernel)) rfl ?_ ?_ | refine o_fgeq st rfl rfl (by first | assumption | exact Is_ofInt _ _ | exact Is_lit (by decide +kernel)) (by first | assumption | exact Is_ofInt _ _ | exact Is_lit (by decide +kernel)) rfl ?_ ?_) <;> clear st <;> intro _ _ st <;> (try simp_all))))
    have i15 : Is .f64 4609434218613702656 (some 4609434218613702656) := Is_lit (by decide +kernel)
    refine wp_loop_ghost (fun n z w' => ∃ (x' e' : Nat), logUp n x' e' = some (x1, e1) ∧ Is .f64 x' (some x') ∧ St w Try.f25.ntmps z w' [(0, .float .f64 x'), (3, .float .f64 e')] []) 20 ⟨x, 0, hl1, ix, (st.fit (by repeat (first | exact trivial | refine And.intro rfl ?_))).subL (by repeat (first | exact List.Sublist.refl _ | apply List.Sublist.cons_cons | apply List.Sublist.cons | exact List.nil_sublist _))⟩ ?_
    clear st
    rintro n z w' ⟨x', e', hs', ik, st⟩
    cases n with
    | zero => cases hs'
    | succ n =>
      rw [logUp] at hs'
      cases hge : geW x' 4609434218613702656
      · rw [hge] at hs'
        simp only [Bool.false_eq_true, if_false, Option.some.injEq, Prod.mk.injEq] at hs'
        obtain ⟨rfl, rfl⟩ := hs'
        (repeat' (first | (refine o_fgeqW st rfl rfl ik i15 hge rfl ?_; clear st; intro _ st) | (refine ⟨rfl, (st.fit (by repeat (first | exact trivial | refine And.intro rfl ?_))).subL (by repeat (first | exact List.Sublist.refl _ | apply List.Sublist.cons_cons | apply List.Sublist.cons | exact List.nil_sublist _)), ik⟩) | refine c_seq ?_ | refine c_region ?_ | refine l_do ?_ | refine l_nil ?_ | refine x_then ?_ | refine x_thenR ?_ | refine x_thenE ?_ | refine x_blkN ?_ | refine x_blkR ?_ | refine x_blkE ?_ | refine x_blkO rfl ?_ | refine wp_ret ?_ | refine wp_skip ?_ | refine wp_block ?_ | refine wp_exit ?_ | refine c_condT st rfl ?_ | refine c_condF st rfl ?_ | ((first | refine o_move st rfl rfl ?_ | refine o_assign st rfl rfl ?_); clear st; intro _ st) | (refine o_fop rfl st rfl rfl (by first | assumption | exact Is_ofInt _ _ | exact Is_lit (by decide +kernel)) (by first | assumption | exact Is_ofInt _ _ | exact Is_lit (by decide +kernel)) rfl ?_; clear st; intro _ _ _ _ st) | ((first | refine o_flss st rfl rfl (by first | assumption | exact Is_ofInt _ _ | exact Is_lit (by decide +kernel)) (by first | assumption | exact Is_ofInt _ _ | exact Is_lit (by decide +kernel)) rfl ?_ ?_ | refine o_fgeq st rfl rfl (by first | assumption | exact Is_ofInt _ _ | exact Is_lit (by decide +kernel)) (by first | assumption | exact Is_ofInt _ _ | exact Is_lit (by decide +kernel)) rfl ?_ ?_) <;> clear st <;> intro _ _ st <;> (try simp_all))))
      · rw [hge] at hs'
        simp only [if_true] at hs'
        obtain ⟨x3, q1, hs'⟩ := bw_some hs'
        obtain ⟨e3, q2, hs'⟩ := bw_some hs'
        have q1 := quoW_some q1
        have q2 := addF_some q2
        (repeat' (first | (refine o_fgeqW st rfl rfl ik i15 hge rfl ?_; clear st; intro _ st) | (refine o_fopK st rfl rfl q1 rfl ?_; clear st; intro _ st) | (refine o_fopK st rfl rfl q2 rfl ?_; clear st; intro _ st) | refine c_seq ?_ | refine c_region ?_ | refine l_do ?_ | refine l_nil ?_ | refine x_then ?_ | refine x_thenR ?_ | refine x_thenE ?_ | refine x_blkN ?_ | refine x_blkR ?_ | refine x_blkE ?_ | refine x_blkO rfl ?_ | refine wp_ret ?_ | refine wp_skip ?_ | refine wp_block ?_ | refine wp_exit ?_ | refine c_condT st rfl ?_ | refine c_condF st rfl ?_ | ((first | refine o_move st rfl rfl ?_ | refine o_assign st rfl rfl ?_); clear st; intro _ st) | (refine o_fop rfl st rfl rfl (by first | assumption | exact Is_ofInt _ _ | exact Is_lit (by decide +kernel)) (by first | assumption | exact Is_ofInt _ _ | exact Is_lit (by decide +kernel)) rfl ?_; clear st; intro _ _ _ _ st) | ((first | refine o_flss st rfl rfl (by first | assumption | exact Is_ofInt _ _ | exact Is_lit (by decide +kernel)) (by first | assumption | exact Is_ofInt _ _ | exact Is_lit (by decide +kernel)) rfl ?_ ?_ | refine o_fgeq st rfl rfl (by first | assumption | exact Is_ofInt _ _ | exact Is_lit (by decide +kernel)) (by first | assumption | exact Is_ofInt _ _ | exact Is_lit (by decide +kernel)) rfl ?_ ?_) <;> clear st <;> intro _ _ st <;> (try simp_all))))
        exact ⟨n, by omega, x3, e3, hs', fop_is q1, (st.fit (by repeat (first | exact trivial | refine And.intro rfl ?_))).subL (by repeat (first | exact List.Sublist.refl _ | apply List.Sublist.cons_cons | apply List.Sublist.cons | exact List.nil_sublist _))⟩
  clear st
  rintro z w' ⟨st, i1⟩
  (repeat' (first | (refine c_meet (c1 := Code.block 2 _) (fun z w' => St w Try.f25.ntmps z w' [(0, .float .f64 x2), (3, .float .f64 e2)] []) ?_ ?_) | refine c_seq ?_ | refine c_region ?_ | refine l_do ?_ | refine l_nil ?_ | refine x_then ?_ | refine x_thenR ?_ | refine x_thenE ?_ | refine x_blkN ?_ | refine x_blkR ?_ | refine x_blkE ?_ | refine x_blkO rfl ?_ | refine wp_ret ?_ | refine wp_skip ?_ | refine wp_block ?_ | refine wp_exit ?_ | refine c_condT st rfl ?_ | refine c_condF st rfl ?_ | ((first | refine o_move st rfl rfl ?_ | refine o_assign st rfl rfl ?_); clear st; intro _ st) | (refine o_fop rfl st rfl rfl (by first | assumption | exact Is_ofInt _ _ | exact Is_lit (by decide +kernel)) (by first | assumption | exact Is_ofInt _ _ | exact Is_lit (by decide +kernel)) rfl ?_; clear st; intro _ _ _ _ st) | ((first | refine o_flss st rfl rfl (by first | assumption | exact Is_ofInt _ _ | exact Is_lit (by decide +kernel)) (by first | assumption | exact Is_ofInt _ _ | exact Is_lit (by decide +kernel)) rfl ?_ ?_ | refine o_fgeq st rfl rfl (by first | assumption | exact Is_ofInt _ _ | exact Is_lit (by decide +kernel)) (by first | assumption | exact Is_ofInt _ _ | exact Is_lit (by decide +kernel)) rfl ?_ ?_) <;> clear st <;> intro _ _ st <;> (try simp_all))))
  · refine ⟨?_⟩
    (repeat' (first | refine c_seq ?_ | refine c_region ?_ | refine l_do ?_ | refine l_nil ?_ | refine x_then ?_ | refine x_thenR ?_ | refine x_thenE ?_ | refine x_blkN ?_ | refine x_blkR ?_ | refine x_blkE ?_ | refine x_blkO rfl ?_ | refine wp_ret ?_ | refine wp_skip ?_ | refine wp_block ?_ | refine wp_exit ?_ | refine c_condT st rfl ?_ | refine c_condF st rfl ?_ | ((first | refine o_move st rfl rfl ?_ | refine o_assign st rfl rfl ?_); clear st; intro _ st) | (refine o_fop rfl st rfl rfl (by first | assumption | exact Is_ofInt _ _ | exact Is_lit (by decide +kernel)) (by first | assumption | exact Is_ofInt _ _ | exact Is_lit (by decide +kernel)) rfl ?_; clear st; intro _ _ _ _ st) | ((first | refine o_flss st rfl rfl (by first | assumption | exact Is_ofInt _ _ | exact Is_lit (by decide +kernel)) (by first | assumption | exact Is_ofInt _ _ | exact Is_lit (by decide +kernel)) rfl ?_ ?_ | refine o_fgeq st rfl rfl (by first | assumption | exact Is_ofInt _ _ | exact Is_lit (by decide +kernel)) (by first | assumption | exact Is_ofInt _ _ | exact Is_lit (by decide +kernel)) rfl ?_ ?_) <;> clear st <;> intro _ _ st <;> (try simp_all))))
    have i75 : Is .f64 4604930618986332160 (some 4604930618986332160) := Is_lit (by decide +kernel)
    refine wp_loop_ghost (fun n z w' => ∃ (x' e' : Nat), logDown n x' e' = some (x2, e2) ∧ Is .f64 x' (some x') ∧ St w Try.f25.ntmps z w' [(0, .float .f64 x'), (3, .float .f64 e')] []) 20 ⟨x1, e1, hl2, i1, (st.fit (by repeat (first | exact trivial | refine And.intro rfl ?_))).subL (by repeat (first | exact List.Sublist.refl _ | apply List.Sublist.cons_cons | apply List.Sublist.cons | exact List.nil_sublist _))⟩ ?_
    clear st
    rintro n z w' ⟨x', e', hs', ik, st⟩
    cases n with
    | zero => cases hs'
    | succ n =>
      rw [logDown] at hs'
      cases hge : ltW x' 4604930618986332160
      · rw [hge] at hs'
        simp only [Bool.false_eq_true, if_false, Option.some.injEq, Prod.mk.injEq] at hs'
        obtain ⟨rfl, rfl⟩ := hs'
        (repeat' (first | (refine o_flssW st rfl rfl ik i75 hge rfl ?_; clear st; intro _ st) | (refine ⟨rfl, (st.fit (by repeat (first | exact trivial | refine And.intro rfl ?_))).subL (by repeat (first | exact List.Sublist.refl _ | apply List.Sublist.cons_cons | apply List.Sublist.cons | exact List.nil_sublist _))⟩) | refine c_seq ?_ | refine c_region ?_ | refine l_do ?_ | refine l_nil ?_ | refine x_then ?_ | refine x_thenR ?_ | refine x_thenE ?_ | refine x_blkN ?_ | refine x_blkR ?_ | refine x_blkE ?_ | refine x_blkO rfl ?_ | refine wp_ret ?_ | refine wp_skip ?_ | refine wp_block ?_ | refine wp_exit ?_ | refine c_condT st rfl ?_ | refine c_condF st rfl ?_ | ((first | refine o_move st rfl rfl ?_ | refine o_assign st rfl rfl ?_); clear st; intro _ st) | (refine o_fop rfl st rfl rfl (by first | assumption | exact Is_ofInt _ _ | exact Is_lit (by decide +kernel)) (by first | assumption | exact Is_ofInt _ _ | exact Is_lit (by decide +kernel)) rfl ?_; clear st; intro _ _ _ _ st) | ((first | refine o_flss st rfl rfl (by first | assumption | exact Is_ofInt _ _ | exact Is_lit (by decide +kernel)) (by first | assumption | exact Is_ofInt _ _ | exact Is_lit (by decide +kernel)) rfl ?_ ?_ | refine o_fgeq st rfl rfl (by first | assumption | exact Is_ofInt _ _ | exact Is_lit (by decide +kernel)) (by first | assumption | exact Is_ofInt _ _ | exact Is_lit (by decide +kernel)) rfl ?_ ?_) <;> clear st <;> intro _ _ st <;> (try simp_all))))
      · rw [hge] at hs'
        simp only [if_true] at hs'
        obtain ⟨x3, q1, hs'⟩ := bw_some hs'
        obtain ⟨e3, q2, hs'⟩ := bw_some hs'
        have q1 := mulF_some q1
        have q2 := subF_some q2
        (repeat' (first | (refine o_flssW st rfl rfl ik i75 hge rfl ?_; clear st; intro _ st) | (refine o_fopK st rfl rfl q1 rfl ?_; clear st; intro _ st) | (refine o_fopK st rfl rfl q2 rfl ?_; clear st; intro _ st) | refine c_seq ?_ | refine c_region ?_ | refine l_do ?_ | refine l_nil ?_ | refine x_then ?_ | refine x_thenR ?_ | refine x_thenE ?_ | refine x_blkN ?_ | refine x_blkR ?_ | refine x_blkE ?_ | refine x_blkO rfl ?_ | refine wp_ret ?_ | refine wp_skip ?_ | refine wp_block ?_ | refine wp_exit ?_ | refine c_condT st rfl ?_ | refine c_condF st rfl ?_ | ((first | refine o_move st rfl rfl ?_ | refine o_assign st rfl rfl ?_); clear st; intro _ st) | (refine o_fop rfl st rfl rfl (by first | assumption | exact Is_ofInt _ _ | exact Is_lit (by decide +kernel)) (by first | assumption | exact Is_ofInt _ _ | exact Is_lit (by decide +kernel)) rfl ?_; clear st; intro _ _ _ _ st) | ((first | refine o_flss st rfl rfl (by first | assumption | exact Is_ofInt _ _ | exact Is_lit (by decide +kernel)) (by first | assumption | exact Is_ofInt _ _ | exact Is_lit (by decide +kernel)) rfl ?_ ?_ | refine o_fgeq st rfl rfl (by first | assumption | exact Is_ofInt _ _ | exact Is_lit (by decide +kernel)) (by first | assumption | exact Is_ofInt _ _ | exact Is_lit (by decide +kernel)) rfl ?_ ?_) <;> clear st <;> intro _ _ st <;> (try simp_all))))
        exact ⟨n, by omega, x3, e3, hs', fop_is q1, (st.fit (by repeat (first | exact trivial | refine And.intro rfl ?_))).subL (by repeat (first | exact List.Sublist.refl _ | apply List.Sublist.cons_cons | apply List.Sublist.cons | exact List.nil_sublist _))⟩
  clear st
  intro z w' st
  (repeat' (first | (refine o_fopK st rfl rfl ha rfl ?_; clear st; intro _ st) | (refine o_fopK st rfl rfl hb rfl ?_; clear st; intro _ st) | (refine o_fopK st rfl rfl hs rfl ?_; clear st; intro _ st) | (refine o_fopK st rfl rfl hu rfl ?_; clear st; intro _ st) | (refine c_meet (c1 := Code.seq (Code.region 11 _ _) _) (fun z w' => St w Try.f25.ntmps z w' [(3, .float .f64 e2), (4, .float .f64 s), (6, .float .f64 q)] []) ?_ ?_) | refine c_seq ?_ | refine c_region ?_ | refine l_do ?_ | refine l_nil ?_ | refine x_then ?_ | refine x_thenR ?_ | refine x_thenE ?_ | refine x_blkN ?_ | refine x_blkR ?_ | refine x_blkE ?_ | refine x_blkO rfl ?_ | refine wp_ret ?_ | refine wp_skip ?_ | refine wp_block ?_ | refine wp_exit ?_ | refine c_condT st rfl ?_ | refine c_condF st rfl ?_ | ((first | refine o_move st rfl rfl ?_ | refine o_assign st rfl rfl ?_); clear st; intro _ st) | (refine o_fop rfl st rfl rfl (by first | assumption | exact Is_ofInt _ _ | exact Is_lit (by decide +kernel)) (by first | assumption | exact Is_ofInt _ _ | exact Is_lit (by decide +kernel)) rfl ?_; clear st; intro _ _ _ _ st) | ((first | refine o_flss st rfl rfl (by first | assumption | exact Is_ofInt _ _ | exact Is_lit (by decide +kernel)) (by first | assumption | exact Is_ofInt _ _ | exact Is_lit (by decide +kernel)) rfl ?_ ?_ | refine o_fgeq st rfl rfl (by first | assumption | exact Is_ofInt _ _ | exact Is_lit (by decide +kernel)) (by first | assumption | exact Is_ofInt _ _ | exact Is_lit (by decide +kernel)) rfl ?_ ?_) <;> clear st <;> intro _ _ st <;> (try simp_all))))
  · refine ⟨?_⟩
    (repeat' (first | refine c_seq ?_ | refine c_region ?_ | refine l_do ?_ | refine l_nil ?_ | refine x_then ?_ | refine x_thenR ?_ | refine x_thenE ?_ | refine x_blkN ?_ | refine x_blkR ?_ | refine x_blkE ?_ | refine x_blkO rfl ?_ | refine wp_ret ?_ | refine wp_skip ?_ | refine wp_block ?_ | refine wp_exit ?_ | refine c_condT st rfl ?_ | refine c_condF st rfl ?_ | ((first | refine o_move st rfl rfl ?_ | refine o_assign st rfl rfl ?_); clear st; intro _ st) | (refine o_fop rfl st rfl rfl (by first | assumption | exact Is_ofInt _ _ | exact Is_lit (by decide +kernel)) (by first | assumption | exact Is_ofInt _ _ | exact Is_lit (by decide +kernel)) rfl ?_; clear st; intro _ _ _ _ st) | ((first | refine o_flss st rfl rfl (by first | assumption | exact Is_ofInt _ _ | exact Is_lit (by decide +kernel)) (by first | assumption | exact Is_ofInt _ _ | exact Is_lit (by decide +kernel)) rfl ?_ ?_ | refine o_fgeq st rfl rfl (by first | assumption | exact Is_ofInt _ _ | exact Is_lit (by decide +kernel)) (by first | assumption | exact Is_ofInt _ _ | exact Is_lit (by decide +kernel)) rfl ?_ ?_) <;> clear st <;> intro _ _ st <;> (try simp_all))))
    have i1 : Is .f64 w1 (some w1) := Is_lit (by decide +kernel)
    refine wp_loop_ghost (fun n z w' => ∃ (q' k : Nat), logSum u n q' k = some q ∧ Is .f64 k (some k) ∧ St w Try.f25.ntmps z w' [(3, .float .f64 e2), (4, .float .f64 s), (5, .float .f64 u), (6, .float .f64 q'), (7, .float .f64 k)] []) 14 ⟨0, w25, hq, Is_lit (by decide +kernel), (st.fit (by repeat (first | exact trivial | refine And.intro rfl ?_))).subL (by repeat (first | exact List.Sublist.refl _ | apply List.Sublist.cons_cons | apply List.Sublist.cons | exact List.nil_sublist _))⟩ ?_
    clear st
    rintro n z w' ⟨q', k, hs', ik, st⟩
    cases n with
    | zero => cases hs'
    | succ n =>
      rw [logSum] at hs'
      cases hge : geW k w1
      · rw [hge] at hs'
        have hqp : q' = q := by simpa using hs'
        subst hqp
        (repeat' (first | (refine o_fgeqW st rfl rfl ik i1 hge rfl ?_; clear st; intro _ st) | (refine ⟨rfl, (st.fit (by repeat (first | exact trivial | refine And.intro rfl ?_))).subL (by repeat (first | exact List.Sublist.refl _ | apply List.Sublist.cons_cons | apply List.Sublist.cons | exact List.nil_sublist _))⟩) | refine c_seq ?_ | refine c_region ?_ | refine l_do ?_ | refine l_nil ?_ | refine x_then ?_ | refine x_thenR ?_ | refine x_thenE ?_ | refine x_blkN ?_ | refine x_blkR ?_ | refine x_blkE ?_ | refine x_blkO rfl ?_ | refine wp_ret ?_ | refine wp_skip ?_ | refine wp_block ?_ | refine wp_exit ?_ | refine c_condT st rfl ?_ | refine c_condF st rfl ?_ | ((first | refine o_move st rfl rfl ?_ | refine o_assign st rfl rfl ?_); clear st; intro _ st) | (refine o_fop rfl st rfl rfl (by first | assumption | exact Is_ofInt _ _ | exact Is_lit (by decide +kernel)) (by first | assumption | exact Is_ofInt _ _ | exact Is_lit (by decide +kernel)) rfl ?_; clear st; intro _ _ _ _ st) | ((first | refine o_flss st rfl rfl (by first | assumption | exact Is_ofInt _ _ | exact Is_lit (by decide +kernel)) (by first | assumption | exact Is_ofInt _ _ | exact Is_lit (by decide +kernel)) rfl ?_ ?_ | refine o_fgeq st rfl rfl (by first | assumption | exact Is_ofInt _ _ | exact Is_lit (by decide +kernel)) (by first | assumption | exact Is_ofInt _ _ | exact Is_lit (by decide +kernel)) rfl ?_ ?_) <;> clear st <;> intro _ _ st <;> (try simp_all))))
      · rw [hge] at hs'
        simp only [if_true] at hs'
        obtain ⟨c1, q1, hs'⟩ := bw_some hs'
        obtain ⟨c2, q2, hs'⟩ := bw_some hs'
        obtain ⟨c3, q3, hs'⟩ := bw_some hs'
        obtain ⟨c4, q4, hs'⟩ := bw_some hs'
        have q1 := quoW_some q1
        have q2 := mulF_some q2
        have q3 := addF_some q3
        have q4 := subF_some q4
        (repeat' (first | (refine o_fgeqW st rfl rfl ik i1 hge rfl ?_; clear st; intro _ st) | (refine o_fopK st rfl rfl q1 rfl ?_; clear st; intro _ st) | (refine o_fopK st rfl rfl q2 rfl ?_; clear st; intro _ st) | (refine o_fopK st rfl rfl q3 rfl ?_; clear st; intro _ st) | (refine o_fopK st rfl rfl q4 rfl ?_; clear st; intro _ st) | refine c_seq ?_ | refine c_region ?_ | refine l_do ?_ | refine l_nil ?_ | refine x_then ?_ | refine x_thenR ?_ | refine x_thenE ?_ | refine x_blkN ?_ | refine x_blkR ?_ | refine x_blkE ?_ | refine x_blkO rfl ?_ | refine wp_ret ?_ | refine wp_skip ?_ | refine wp_block ?_ | refine wp_exit ?_ | refine c_condT st rfl ?_ | refine c_condF st rfl ?_ | ((first | refine o_move st rfl rfl ?_ | refine o_assign st rfl rfl ?_); clear st; intro _ st) | (refine o_fop rfl st rfl rfl (by first | assumption | exact Is_ofInt _ _ | exact Is_lit (by decide +kernel)) (by first | assumption | exact Is_ofInt _ _ | exact Is_lit (by decide +kernel)) rfl ?_; clear st; intro _ _ _ _ st) | ((first | refine o_flss st rfl rfl (by first | assumption | exact Is_ofInt _ _ | exact Is_lit (by decide +kernel)) (by first | assumption | exact Is_ofInt _ _ | exact Is_lit (by decide +kernel)) rfl ?_ ?_ | refine o_fgeq st rfl rfl (by first | assumption | exact Is_ofInt _ _ | exact Is_lit (by decide +kernel)) (by first | assumption | exact Is_ofInt _ _ | exact Is_lit (by decide +kernel)) rfl ?_ ?_) <;> clear st <;> intro _ _ st <;> (try simp_all))))
        exact ⟨n, by omega, c3, c4, hs', fop_is q4, (st.fit (by repeat (first | exact trivial | refine And.intro rfl ?_))).subL (by repeat (first | exact List.Sublist.refl _ | apply List.Sublist.cons_cons | apply List.Sublist.cons | exact List.nil_sublist _))⟩
  clear st
  intro z w' st
  (repeat' (first | (refine o_fopK st rfl rfl hm rfl ?_; clear st; intro _ st) | (refine o_fopK st rfl rfl hn rfl ?_; clear st; intro _ st) | (refine o_fopK st rfl rfl ho rfl ?_; clear st; intro _ st) | (refine o_fopK st rfl rfl h rfl ?_; clear st; intro _ st) | refine c_seq ?_ | refine c_region ?_ | refine l_do ?_ | refine l_nil ?_ | refine x_then ?_ | refine x_thenR ?_ | refine x_thenE ?_ | refine x_blkN ?_ | refine x_blkR ?_ | refine x_blkE ?_ | refine x_blkO rfl ?_ | refine wp_ret ?_ | refine wp_skip ?_ | refine wp_block ?_ | refine wp_exit ?_ | refine c_condT st rfl ?_ | refine c_condF st rfl ?_ | ((first | refine o_move st rfl rfl ?_ | refine o_assign st rfl rfl ?_); clear st; intro _ st) | (refine o_fop rfl st rfl rfl (by first | assumption | exact Is_ofInt _ _ | exact Is_lit (by decide +kernel)) (by first | assumption | exact Is_ofInt _ _ | exact Is_lit (by decide +kernel)) rfl ?_; clear st; intro _ _ _ _ st) | ((first | refine o_flss st rfl rfl (by first | assumption | exact Is_ofInt _ _ | exact Is_lit (by decide +kernel)) (by first | assumption | exact Is_ofInt _ _ | exact Is_lit (by decide +kernel)) rfl ?_ ?_ | refine o_fgeq st rfl rfl (by first | assumption | exact Is_ofInt _ _ | exact Is_lit (by decide +kernel)) (by first | assumption | exact Is_ofInt _ _ | exact Is_lit (by decide +kernel)) rfl ?_ ?_) <;> clear st <;> intro _ _ st <;> (try simp_all))))
  refine post1 st Try.results25 (rd_t st rfl) ?_
  exact ⟨rfl, st.ex0⟩
theorem TenthsOf_ok (x : Nat) (r : Int) (ix : Is .f32 x (some x)) (fx : fin32 x = some true) (hx : fleB .f32 (some x) (some 0) = false) (h : tenthsW x = some r) (w : World) : CV Try.prog 12 [.float .f32 x] w (.tuple #[.int .i64 r, .bool true]) := by
  unfold tenthsW at h
  obtain ⟨y, hy, h⟩ := bw_some h
  obtain ⟨l, hl, h⟩ := bw_some h
  obtain ⟨a, ha, h⟩ := bw_some h
  obtain ⟨b, hb, h⟩ := bw_some h
  have iy : Is .f64 y (some y) := wid_is ix hy
  have ha := mulF_some ha
  have hb := addF_some hb
  have hy : floatToFloatBits .f32 x .f64 = some y := hy
  have h : floatToIntVal .f64 (floorW b) .i64 = some r := h
  have k1 := fun w => IsFinite_ok x true fx w
  have k2 := fun w => naturalLog_ok y l iy hl w
  have k3 := fun w => Floor_ok b (fop_is hb) w
  have i0 : Is .f32 0 (some 0) := Is_lit (by decide +kernel)
  refine enter Try.func12 rfl rfl rfl rfl ?_
  intro z st
  (repeat' (first | (refine o_callV st rfl (k1 _) rfl ?_; clear st; intro _ _ st) | (refine o_callV st rfl (k2 _) rfl ?_; clear st; intro _ _ st) | (refine o_callV st rfl (k3 _) rfl ?_; clear st; intro _ _ st) | (refine o_fleqW st rfl rfl ix i0 hx rfl ?_; clear st; intro _ st) | (refine o_fcvW st rfl hy rfl ?_; clear st; intro _ st) | (refine o_fopK st rfl rfl ha rfl ?_; clear st; intro _ st) | (refine o_fopK st rfl rfl hb rfl ?_; clear st; intro _ st) | (refine o_floatInt (k := .i64) Try.underlying2 st rfl h rfl ?_; clear st; intro _ st) | refine c_seq ?_ | refine c_region ?_ | refine l_do ?_ | refine l_doG st rfl rfl ?_ | ((first | refine l_skipU st rfl rfl rfl ?_ | refine l_skip st rfl rfl rfl rfl ?_); clear st; intro _ st) | refine l_nil ?_ | refine x_then ?_ | refine x_thenR ?_ | refine x_thenE ?_ | refine wp_ret ?_ | refine wp_skip ?_ | refine c_condT st rfl ?_ | refine c_condF st rfl ?_ | ((first | refine o_move st rfl rfl ?_ | refine o_assign st rfl rfl ?_ | refine o_pickT st rfl rfl rfl ?_ | refine o_pickF st rfl rfl rfl ?_ | refine o_notT st rfl rfl ?_ | refine o_notF st rfl rfl ?_); clear st; intro _ st) | (refine o_fop rfl st rfl rfl (by first | assumption | exact Is_ofInt _ _ | exact Is_lit (by decide +kernel)) (by first | assumption | exact Is_ofInt _ _ | exact Is_lit (by decide +kernel)) rfl ?_; clear st; intro _ _ _ _ st) | ((first | refine o_fcv0 st rfl rfl ?_ | refine o_intFloat st rfl rfl ?_); clear st; intro _ st) | (refine o_fleq st rfl rfl (by first | assumption | exact Is_ofInt _ _ | exact Is_lit (by decide +kernel)) (by first | assumption | exact Is_ofInt _ _ | exact Is_lit (by decide +kernel)) rfl ?_ ?_ <;> clear st <;> intro _ _ st <;> (try simp_all))))
  refine post2 st Try.results12 (rd_t st rfl) (rd_t st rfl) ?_
  exact ⟨rfl, st.ex0⟩
end Go.Proofs.Ytlllekaiickkoaa
