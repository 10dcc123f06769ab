/-
  FnCircles: what is behind the point; sines (walks).
-/
import Derived.Test.YtlllekaiickkoaaCw
import Derived.Test.YtlllekaiickkoaaCr
import Derived.Test.YtlllekaiickkoaaTypes
namespace Go.Proofs.Ytlllekaiickkoaa
open Go.RowKit
attribute [local irreducible] Code.wp wpList Oper.wp Calls bodyPost Exit.then Exit.inBlock
theorem lit_is {b : Nat} (h : (decide (b < 2 ^ FloatKind.f64.format.width) && !(FloatKind.f64.decode b).isNaN) = true) : Is .f64 b (some b) := Is_lit h
theorem ofInt_is (n : Int) : Is .f64 (floatOfInt .f64 n) (some (floatOfInt .f64 n)) := Is_ofInt _ _

set_option maxHeartbeats 4000000 in
theorem fraction_ok (x r : Nat) (h : fracW x = some r) (w : World) : CV Try.prog 17 [.float .f64 x] w (.float .f64 r) := by
  unfold fracW at h
  obtain ⟨n, hn, h⟩ := bi_some h
  obtain ⟨f, hf, h⟩ := bw_some h
  have hf := subF_some hf
  have hn : floatToIntVal .f64 x .i64 = some n := hn
  refine enter Try.func17 rfl rfl rfl rfl ?_
  intro a st
  cases hlt : ltW f 0
  · have hr : f = r := by rw [hlt] at h; simpa using h
    subst hr
    (repeat' (first | (refine o_floatInt (k := .i64) Try.underlying2 st rfl hn rfl ?_; clear st; intro _ st) | (refine o_fopK st rfl rfl hf rfl ?_; clear st; intro _ st) | (refine o_flssW st rfl rfl (fop_is hf) (Is_lit (by decide +kernel)) hlt rfl ?_; clear st; intro _ st) | refine c_seq ?_ | refine c_region ?_ | refine l_do ?_ | refine l_nil ?_ | refine x_then ?_ | refine x_thenR ?_ | refine x_thenE ?_ | refine wp_ret ?_ | refine wp_skip ?_ | refine c_condT st rfl ?_ | refine c_condF st rfl ?_ | ((first | refine o_move st rfl rfl ?_ | refine o_assign st rfl rfl ?_); clear st; intro _ st) | (refine o_fop rfl st rfl rfl (by first | assumption | exact Is_ofInt _ _ | exact Is_lit (by decide +kernel)) (by first | assumption | exact Is_ofInt _ _ | exact Is_lit (by decide +kernel)) rfl ?_; clear st; intro _ _ _ _ st) | ((first | refine o_fcv0 st rfl rfl ?_ | refine o_intFloat st rfl rfl ?_); clear st; intro _ st) | (refine o_flss st rfl rfl (by first | assumption | exact Is_ofInt _ _ | exact Is_lit (by decide +kernel)) (by first | assumption | exact Is_ofInt _ _ | exact Is_lit (by decide +kernel)) rfl ?_ ?_ <;> clear st <;> intro _ _ st <;> (try simp_all))))
    refine post1 st Try.results17 (rd_t st rfl) ?_
    exact ⟨rfl, st.ex0⟩
  · have hr : addW f w1 = some r := by rw [hlt] at h; simpa using h
    have hr := addF_some hr
    (repeat' (first | (refine o_floatInt (k := .i64) Try.underlying2 st rfl hn rfl ?_; clear st; intro _ st) | (refine o_fopK st rfl rfl hf rfl ?_; clear st; intro _ st) | (refine o_fopK st rfl rfl hr rfl ?_; clear st; intro _ st) | (refine o_flssW st rfl rfl (fop_is hf) (Is_lit (by decide +kernel)) hlt rfl ?_; clear st; intro _ st) | refine c_seq ?_ | refine c_region ?_ | refine l_do ?_ | refine l_nil ?_ | refine x_then ?_ | refine x_thenR ?_ | refine x_thenE ?_ | refine wp_ret ?_ | refine wp_skip ?_ | refine c_condT st rfl ?_ | refine c_condF st rfl ?_ | ((first | refine o_move st rfl rfl ?_ | refine o_assign st rfl rfl ?_); clear st; intro _ st) | (refine o_fop rfl st rfl rfl (by first | assumption | exact Is_ofInt _ _ | exact Is_lit (by decide +kernel)) (by first | assumption | exact Is_ofInt _ _ | exact Is_lit (by decide +kernel)) rfl ?_; clear st; intro _ _ _ _ st) | ((first | refine o_fcv0 st rfl rfl ?_ | refine o_intFloat st rfl rfl ?_); clear st; intro _ st) | (refine o_flss st rfl rfl (by first | assumption | exact Is_ofInt _ _ | exact Is_lit (by decide +kernel)) (by first | assumption | exact Is_ofInt _ _ | exact Is_lit (by decide +kernel)) rfl ?_ ?_ <;> clear st <;> intro _ _ st <;> (try simp_all))))
    refine post1 st Try.results17 (rd_t st rfl) ?_
    exact ⟨rfl, st.ex0⟩
theorem o_fneg {P : Program} {w0 w : World} {N : Nat} {a : Act} {E : List (Nat × Value)} {L : List Ent} {K : Act → World → Prop} {Q : Exit → Act → World → Prop} {d : Nat} {ty : TypeId} {pos : String} {aft : Array Edge} {g : Option (Nat × Bool)}
    {x : Operand} {t : TypeId} {k : FloatKind} {i : Nat} (st : St w0 N a w E L) (hx : evE E x = some (.float k i)) (hd : Nat.blt d N = true)
    (h : ∀ a', St w0 N a' w ((d, .float k (Op.negFloat k i)) :: E) L → K a' w) : Oper.wp P ⟨some d, .unOp .neg t x, ty, pos, aft, g⟩ a w K Q :=
  o_val (v := .float k (Op.negFloat k i)) (w' := w) (by simp [execOp, evE_eval st hx, Op.unary]) (h _ (st.put d hd _))
theorem sinStep_some {u p k r : Nat} (h : sinStep u p k = some r) : ∃ a b d e q, fop .mul .f64 (some u) (some p) = some a ∧ fop .mul .f64 (some w2) (some k) = some b ∧ fop .add .f64 (some b) (some w1) = some d ∧ fop .mul .f64 (some b) (some d) = some e ∧ fop .quo .f64 (some a) (some e) = some q ∧ fop .sub .f64 (some w1) (some q) = some r := by
  unfold sinStep at h
  obtain ⟨a, ha, h⟩ := bw_some h
  obtain ⟨b, hb, h⟩ := bw_some h
  obtain ⟨c, hc, h⟩ := bw_some h
  obtain rfl : b = c := by rw [hb] at hc; exact Option.some.inj hc
  obtain ⟨d, hd, h⟩ := bw_some h
  obtain ⟨e, he, h⟩ := bw_some h
  obtain ⟨q, hq, h⟩ := bw_some h
  exact ⟨a, b, d, e, q, mulF_some ha, mulF_some hb, addF_some hd, mulF_some he, quoW_some hq, subF_some h⟩

set_option maxHeartbeats 8000000 in
theorem sine_ok (x r : Nat) (h : sineW x = some r) (w : World) : CV Try.prog 18 [.float .f64 x] w (.float .f64 r) := by
  unfold sineW at h
  obtain ⟨f0, h0, h⟩ := bw_some h
  obtain ⟨f1, h1, h⟩ := bw_some h
  obtain ⟨f2, h2, h⟩ := bw_some h
  obtain ⟨z, hz, h⟩ := bw_some h
  obtain ⟨u, hu, h⟩ := bw_some h
  obtain ⟨p, hp, h⟩ := bw_some h
  obtain ⟨r0, hr0, hend⟩ := bw_some h
  have hz := mulF_some hz
  have hu := mulF_some hu
  have hr0 := mulF_some hr0
  have hfr := fun w => fraction_ok x f0 h0 w
  refine enter Try.func18 rfl rfl rfl rfl ?_
  intro a st
  have i05 : Is .f64 w05 (some w05) := Is_lit (by decide +kernel)
  have i025 : Is .f64 w025 (some w025) := Is_lit (by decide +kernel)
  have i1 : Is .f64 w1 (some w1) := Is_lit (by decide +kernel)
  have if0 : Is .f64 f0 (some f0) := by
    unfold fracW at h0
    obtain ⟨n, hn, h0⟩ := bi_some h0
    obtain ⟨f, hf, h0⟩ := bw_some h0
    cases hl : ltW f 0
    · have : f = f0 := by rw [hl] at h0; simpa using h0
      subst this
      exact fop_is (subF_some hf)
    · have : addW f w1 = some f0 := by rw [hl] at h0; simpa using h0
      exact fop_is (addF_some this)
  have if1 : Is .f64 f1 (some f1) := by
    cases hg : geW f0 w05
    · have : f0 = f1 := by rw [hg] at h1; simpa using h1
      subst this
      exact if0
    · have : subW f0 w05 = some f1 := by rw [hg] at h1; simpa using h1
      exact fop_is (subF_some this)
  cases hg : geW f0 w05 <;> cases hg2 : gtW f1 w025
  all_goals
    rw [hg] at h1 hend
    rw [hg2] at h2
    simp only [Bool.false_eq_true, if_false, if_true, Option.some.injEq] at h1 h2 hend
    try have h1 := subF_some h1
    try have h2 := subF_some h2
    try subst h1
    try subst h2
    (repeat' (first | (refine o_callV st rfl (hfr _) rfl ?_; clear st; intro _ _ st) | (refine o_fgeqW st rfl rfl if0 i05 hg rfl ?_; clear st; intro _ st) | (refine o_fgtrW st rfl rfl if1 i025 hg2 rfl ?_; clear st; intro _ st) | (refine o_fopK st rfl rfl h1 rfl ?_; clear st; intro _ st) | (refine o_fopK st rfl rfl h2 rfl ?_; clear st; intro _ st) | (refine o_fopK st rfl rfl hz rfl ?_; clear st; intro _ st) | (refine o_fopK st rfl rfl hu rfl ?_; clear st; intro _ st) | refine c_seq ?_ | refine c_region ?_ | refine l_do ?_ | refine l_nil ?_ | refine x_then ?_ | refine x_thenR ?_ | refine x_thenE ?_ | refine x_blkN ?_ | refine x_blkR ?_ | refine x_blkE ?_ | refine x_blkO rfl ?_ | refine wp_ret ?_ | refine wp_skip ?_ | refine wp_block ?_ | refine wp_exit ?_ | refine c_condT st rfl ?_ | refine c_condF st rfl ?_ | ((first | refine o_move st rfl rfl ?_ | refine o_assign st rfl rfl ?_); clear st; intro _ st) | (refine o_fop rfl st rfl rfl (by first | assumption | exact Is_ofInt _ _ | exact Is_lit (by decide +kernel)) (by first | assumption | exact Is_ofInt _ _ | exact Is_lit (by decide +kernel)) rfl ?_; clear st; intro _ _ _ _ st) | ((first | refine o_fgtr st rfl rfl (by first | assumption | exact Is_ofInt _ _ | exact Is_lit (by decide +kernel)) (by first | assumption | exact Is_ofInt _ _ | exact Is_lit (by decide +kernel)) rfl ?_ ?_ | refine o_fgeq st rfl rfl (by first | assumption | exact Is_ofInt _ _ | exact Is_lit (by decide +kernel)) (by first | assumption | exact Is_ofInt _ _ | exact Is_lit (by decide +kernel)) rfl ?_ ?_) <;> clear st <;> intro _ _ st <;> (try simp_all))))
    replace st := St.fit (E' := [(4, .bool _), (5, .float .f64 z), (6, .float .f64 u), (7, .float .f64 w1), (8, .float .f64 w8)]) st (by repeat (first | exact trivial | refine And.intro rfl ?_))
    refine wp_loop_ghost (fun n a w' => ∃ (q k : Nat), sinSum u n q k = some p ∧ Is .f64 k (some k) ∧ St w Try.f18.ntmps a w' [(4, .bool _), (5, .float .f64 z), (6, .float .f64 u), (7, .float .f64 q), (8, .float .f64 k)] []) 9 ⟨w1, w8, hp, Is_lit (by decide +kernel), st.subL (by repeat (first | exact List.Sublist.refl _ | apply List.Sublist.cons_cons | apply List.Sublist.cons | exact List.nil_sublist _))⟩ ?_
    clear st
    rintro n a w' ⟨q, k, hs, ik, st⟩
    cases n with
    | zero => cases hs
    | succ n =>
      rw [sinSum] at hs
      cases hge : geW k w1
      · rw [hge] at hs
        have hqp : q = p := by simpa using hs
        subst hqp
        subst hend
        (repeat' (first | (refine o_fgeqW st rfl rfl ik i1 hge rfl ?_; clear st; intro _ st) | (refine o_fopK st rfl rfl hr0 rfl ?_; clear st; intro _ st) | (refine o_fneg st rfl rfl ?_; clear st; intro _ st) | refine c_seq ?_ | refine c_region ?_ | refine l_do ?_ | refine l_nil ?_ | refine x_then ?_ | refine x_thenR ?_ | refine x_thenE ?_ | refine x_blkN ?_ | refine x_blkR ?_ | refine x_blkE ?_ | refine x_blkO rfl ?_ | refine wp_ret ?_ | refine wp_skip ?_ | refine wp_block ?_ | refine wp_exit ?_ | refine c_condT st rfl ?_ | refine c_condF st rfl ?_ | ((first | refine o_move st rfl rfl ?_ | refine o_assign st rfl rfl ?_); clear st; intro _ st) | (refine o_fop rfl st rfl rfl (by first | assumption | exact Is_ofInt _ _ | exact Is_lit (by decide +kernel)) (by first | assumption | exact Is_ofInt _ _ | exact Is_lit (by decide +kernel)) rfl ?_; clear st; intro _ _ _ _ st) | ((first | refine o_fgtr st rfl rfl (by first | assumption | exact Is_ofInt _ _ | exact Is_lit (by decide +kernel)) (by first | assumption | exact Is_ofInt _ _ | exact Is_lit (by decide +kernel)) rfl ?_ ?_ | refine o_fgeq st rfl rfl (by first | assumption | exact Is_ofInt _ _ | exact Is_lit (by decide +kernel)) (by first | assumption | exact Is_ofInt _ _ | exact Is_lit (by decide +kernel)) rfl ?_ ?_) <;> clear st <;> intro _ _ st <;> (try simp_all))))
        refine post1 st Try.results18 (rd_t st rfl) ?_
        exact ⟨rfl, st.ex0⟩
      · rw [hge] at hs
        simp only [if_true] at hs
        obtain ⟨q', hq', hs⟩ := bw_some hs
        obtain ⟨k', hk', hs⟩ := bw_some hs
        obtain ⟨s1, s2, s3, s4, s5, g1, g2, g3, g4, g5, g6⟩ := sinStep_some hq'
        have hk' := subF_some hk'
        (repeat' (first | (refine o_fgeqW st rfl rfl ik i1 hge rfl ?_; clear st; intro _ st) | (refine o_fopK st rfl rfl g1 rfl ?_; clear st; intro _ st) | (refine o_fopK st rfl rfl g2 rfl ?_; clear st; intro _ st) | (refine o_fopK st rfl rfl g3 rfl ?_; clear st; intro _ st) | (refine o_fopK st rfl rfl g4 rfl ?_; clear st; intro _ st) | (refine o_fopK st rfl rfl g5 rfl ?_; clear st; intro _ st) | (refine o_fopK st rfl rfl g6 rfl ?_; clear st; intro _ st) | (refine o_fopK st rfl rfl hk' rfl ?_; clear st; intro _ st) | refine c_seq ?_ | refine c_region ?_ | refine l_do ?_ | refine l_nil ?_ | refine x_then ?_ | refine x_thenR ?_ | refine x_thenE ?_ | refine x_blkN ?_ | refine x_blkR ?_ | refine x_blkE ?_ | refine x_blkO rfl ?_ | refine wp_ret ?_ | refine wp_skip ?_ | refine wp_block ?_ | refine wp_exit ?_ | refine c_condT st rfl ?_ | refine c_condF st rfl ?_ | ((first | refine o_move st rfl rfl ?_ | refine o_assign st rfl rfl ?_); clear st; intro _ st) | (refine o_fop rfl st rfl rfl (by first | assumption | exact Is_ofInt _ _ | exact Is_lit (by decide +kernel)) (by first | assumption | exact Is_ofInt _ _ | exact Is_lit (by decide +kernel)) rfl ?_; clear st; intro _ _ _ _ st) | ((first | refine o_fgtr st rfl rfl (by first | assumption | exact Is_ofInt _ _ | exact Is_lit (by decide +kernel)) (by first | assumption | exact Is_ofInt _ _ | exact Is_lit (by decide +kernel)) rfl ?_ ?_ | refine o_fgeq st rfl rfl (by first | assumption | exact Is_ofInt _ _ | exact Is_lit (by decide +kernel)) (by first | assumption | exact Is_ofInt _ _ | exact Is_lit (by decide +kernel)) rfl ?_ ?_) <;> clear st <;> intro _ _ st <;> (try simp_all))))
        exact ⟨n, by omega, q', k', hs, fop_is hk', (st.fit (by repeat (first | exact trivial | refine And.intro rfl ?_))).subL (by repeat (first | exact List.Sublist.refl _ | apply List.Sublist.cons_cons | apply List.Sublist.cons | exact List.nil_sublist _))⟩
end Go.Proofs.Ytlllekaiickkoaa
