/-
  The statement FnFlats: flat sheets have even slopes, upright normals and the areas of their sides; planes cut them where they are told; the nearest corner is none farther.
-/
import Derived.Test.YtefnlalldgbcaaaRows
import Derived.Test.YtefnlalldgbcaaaBarg
import Derived.Test.YtefnlalldgbcaaaGe
import Derived.Test.YtefnlalldgbcaaaGa
import Derived.Test.YtefnlalldgbcaaaLx
import Derived.Test.YtefnlalldgbcaaaDrawn
import Derived.Test.YtefnlalldgbcaaaAreaI
import Derived.Test.YtefnlalldgbcaaaClosed
namespace Go.Proofs.Ytefnlalldgbcaaa
open Go.ChangeShapes Go.WideShapes Go.ChangeAt Go.RowKit Go.Joins

section
variable {P : Program} {w0 w : World} {N : Nat} {a : Act} {E : List (Nat × Value)} {L Lh : List Ent} {K : Act → World → Prop} {Q : Exit → Act → World → Prop}
variable {d : Nat} {ty : TypeId} {pos : String} {aft : Array Edge} {g : Option (Nat × Bool)}
theorem fillY {z0 z1 z2 v1 : Value} (h1 : v1.oneCell' = true) : Instr.fill ([(0, 1), (1, 1), (2, 1)].toArray[·]?) [z0, z1, z2].toArray [(1, v1)] = some [z0, v1, z2].toArray := by
  have c1 : v1.cells = #[v1] := cells_sca h1
  simp [Instr.fill, c1]
theorem fillZ {z0 z1 z2 v2 : Value} (h2 : v2.oneCell' = true) : Instr.fill ([(0, 1), (1, 1), (2, 1)].toArray[·]?) [z0, z1, z2].toArray [(2, v2)] = some [z0, z1, v2].toArray := by
  have c2 : v2.cells = #[v2] := cells_sca h2
  simp [Instr.fill, c2]
theorem o_buildY {t : TypeId} {x : Operand} {z0 z1 z2 v : Value} [hb : B3T P t z0 z1 z2] (st : St w0 N a w E L) (hx : evE E x = some v) (h0 : v.oneCell' = true) (hd : Nat.blt d N = true)
    (h : ∀ a', St w0 N a' w ((d, .agg [z0, v, z2].toArray) :: E) L → K a' w) : Oper.wp P ⟨some d, .build t #[(1, x)], ty, pos, aft, g⟩ a w K Q :=
  o_build (parts := [(1, x)]) (cs := [z0, v, z2]) st (fun w => run_build w t _ _ (by
    rw [hb.b]
    simp only [List.map_cons, List.map_nil, evE_eval st hx]
    exact fillY h0)) hd h
theorem o_buildZ {t : TypeId} {x : Operand} {z0 z1 z2 v : Value} [hb : B3T P t z0 z1 z2] (st : St w0 N a w E L) (hx : evE E x = some v) (h0 : v.oneCell' = true) (hd : Nat.blt d N = true)
    (h : ∀ a', St w0 N a' w ((d, .agg [z0, z1, v].toArray) :: E) L → K a' w) : Oper.wp P ⟨some d, .build t #[(2, x)], ty, pos, aft, g⟩ a w K Q :=
  o_build (parts := [(2, x)]) (cs := [z0, z1, v]) st (fun w => run_build w t _ _ (by
    rw [hb.b]
    simp only [List.map_cons, List.map_nil, evE_eval st hx]
    exact fillZ h0)) hd h
theorem o_fcvK {x : Operand} {src dst : TypeId} {i r : Nat} [hs : FloatT P src .f32] [hk : FloatT P dst .f64] (st : St w0 N a w E L) (hx : evE E x = some (.float .f32 i)) (hr : floatToFloatBits .f32 i .f64 = some r) (hd : Nat.blt d N = true)
    (h : ∀ a', St w0 N a' w ((d, .float .f64 r) :: E) L → K a' w) : Oper.wp P ⟨some d, .convert src dst x, ty, pos, aft, g⟩ a w K Q :=
  o_val (v := .float .f64 r) (w' := w) (v_fcvK (P := P) (Lh := []) st hx hr d ty pos aft g w (fun _ h => by cases h)) (h _ (st.put d hd _))
theorem v_fopK {op : BinOp} {x y : Operand} {t ys : TypeId} {k : FloatKind} {i j r : Nat} (st : St w0 N a w E L) (hx : evE E x = some (.float k i)) (hy : evE E y = some (.float k j)) (hr : fop op k (some i) (some j) = some r) : Vl P a Lh (.binOp op t x y ys) (.float k r) := by
  intro d ty pos aft g w' _
  have hr : floatBits op k i j = some r := hr
  simp only [execOp, evE_eval st hx, evE_eval st hy, eqGuard_at_float, Sem.run_bind, Sem.run_pure, Result.andThen_ok, run_float_arith w' op t k i j r hr]
theorem v_fgeqK {x y : Operand} {t ys : TypeId} {k : FloatKind} {i j : Nat} {ci cj : Option Nat} {r : Bool} (st : St w0 N a w E L) (hx : evE E x = some (.float k i)) (hy : evE E y = some (.float k j)) (hi : Is k i ci) (hj : Is k j cj) (hr : fgeB k ci cj = r) : Vl P a Lh (.binOp .geq t x y ys) (.bool r) := by
  subst hr
  intro d ty pos aft g w' _
  simp only [execOp, evE_eval st hx, evE_eval st hy, eqGuard_at_float, Sem.run_bind, Sem.run_pure, Result.andThen_ok, binOp_float_cmp_geq, hi.order hj]
  rfl
end
theorem mx_is {k : FloatKind} {i j r : Nat} (hi : Is k i (some i)) (hj : Is k j (some j)) (h : Mx k i j r) : Is k r (some r) := by
  rcases h.one with e | e
  · rw [e]; exact hi
  · rw [e]; exact hj
theorem list1 {α : Type} {l : List α} (h : l.length = 1) : ∃ a, l = [a] := match l, h with | [a], _ => ⟨a, rfl⟩
theorem list4 {α : Type} {l : List α} (h : l.length = 4) : ∃ a b c d, l = [a, b, c, d] := match l, h with | [a, b, c, d], _ => ⟨a, b, c, d, rfl⟩
theorem wayX_fin : finS wayX = true := by decide +kernel
theorem wC_wide {n : Nat} (h : n ≤ 16) : Ab (cv .f32 (wC n)) (p2 126) := by
  obtain ⟨h0, h8⟩ := half_bd16 h
  have hb : (9 : Rat) ≤ p2 126 := by
    have h1 : p2 10 ≤ p2 126 := p2_mono (by decide)
    have h2 : p2 10 = 1024 := by decide +kernel
    grind
  rw [wC_cv h]
  exact ⟨by grind, by grind⟩
theorem ar_lo : p2 (-126) ≤ (1 / 256 : Rat) := Rat.le_trans p2tiny (by decide +kernel)
theorem ar_hi : (1 / 256 : Rat) < p2 127 := by have := p2127'; grind
theorem ab126 {x V : Rat} (h : Ab x V) (hV : V ≤ 100) : Ab x (p2 126) := by
  have hb : (100 : Rat) ≤ p2 126 := by
    have h1 : p2 10 ≤ p2 126 := p2_mono (by decide)
    have h2 : p2 10 = 1024 := by decide +kernel
    grind
  exact h.mono (Rat.le_trans hV hb)
theorem zero_is : Is .f64 0 (some 0) := Is_lit (by decide +kernel)
theorem cut_gap {c : Option Nat} {r q k n : Nat} (hk : k ≤ 8) (hn : n ≤ 16) (h : Ap .f32 c (lvV k n) E6) (vr : rv .f64 r = cv .f32 c) (vq : rv .f64 q = cv .f32 (lvC k n)) : Ab (rv .f64 r - rv .f64 q) BB := by
  obtain ⟨n1, n2⟩ := h.near
  obtain ⟨m1, m2⟩ := (lv_ap hk hn).1.near
  have e6 : (E6 : Rat) ≤ BB := by decide +kernel
  rw [vr, vq]
  exact ⟨by grind, by grind⟩
theorem hnear {us : List B3} {tt : List S3} {k n K : Nat} {T : List Int} (hk : k ≤ 8) (hn : n ≤ 16) (hU : IsSL us (cutsT tt wayX (lvC k n) T K)) (hN : ∀ s ∈ cutsT tt wayX (lvC k n) T K, Ap .f32 s.1 (lvV k n) E6) {rl : Nat} (il : Is .f64 rl (some rl)) (fl : Fin .f64 (some rl)) (vl : rv .f64 rl = cv .f32 (lvC k n)) {i : Nat} (hi : i < us.length) :
    ∃ r, floatToFloatBits .f32 (us[i]).1 .f64 = some r ∧ ∀ w, CR Try.prog 98 [.float .f64 r, .float .f64 rl] w (GapR BB) := by
  have hI := hU.getDA hi
  have hm := hN _ (getD_mem (by have := hU.len; omega : i < (cutsT tt wayX (lvC k n) T K).length))
  obtain ⟨r, er, ir, fr, vr⟩ := widen_word hI.x hm.fin (ab126 (hm.ab (lv_ap hk hn).2) (by decide +kernel))
  exact ⟨r, er, fun w => r8Gap_ok r rl ir il fr fl BB (cut_gap hk hn hm vr vl) bb0 bb1 w⟩
/-- The words of a dot, in wide numbers. -/
theorem wordOf {op : BinOp} {i j : Nat} (hf : Fin .f64 (fop op .f64 (some i) (some j))) : ∃ r, fop op .f64 (some i) (some j) = some r ∧ Is .f64 r (some r) ∧ Fin .f64 (some r) := by
  cases h : fop op .f64 (some i) (some j) with
  | none => rw [h] at hf; exact hf.elim
  | some r =>
    rw [h] at hf
    have hb : floatBits op .f64 i j = some r := h
    exact ⟨r, rfl, is_of_fin hf (lt_of_wf (floatBits_wf hb)), hf⟩
theorem dotW {s t : S3} (hs : isQ s) (ht : isQ t) {X Y Z x y z : Nat}
    (fX : Fin .f64 (some X)) (vX : rv .f64 X = cv .f32 (crossC s t).1) (fY : Fin .f64 (some Y)) (vY : rv .f64 Y = cv .f32 (crossC s t).2.1) (fZ : Fin .f64 (some Z)) (vZ : rv .f64 Z = cv .f32 (crossC s t).2.2)
    (fx : Fin .f64 (some x)) (vx : rv .f64 x = cv .f32 s.1) (fy : Fin .f64 (some y)) (vy : rv .f64 y = cv .f32 s.2.1) (fz : Fin .f64 (some z)) (vz : rv .f64 z = cv .f32 s.2.2) :
    ∃ m1 m2 m3 s1 s2 : Nat, fop .mul .f64 (some X) (some x) = some m1 ∧ fop .mul .f64 (some Y) (some y) = some m2 ∧ fop .mul .f64 (some Z) (some z) = some m3 ∧ fop .add .f64 (some m1) (some m2) = some s1 ∧ fop .add .f64 (some s1) (some m3) = some s2 ∧ Is .f64 s2 (some s2) ∧ Fin .f64 (some s2) ∧ rv .f64 s2 = 0 := by
  obtain ⟨i, j, k, u, v, r, hi, hj, hk, hu, hv, hr, h0, e1, e2, e3, e4, e5, e6⟩ := cross_ex hs ht
  have E : ∀ {n : Nat} {c : Option Nat} {a q : Int}, Fin .f64 (some n) → rv .f64 n = cv .f32 c → Ex' .f32 c a q → Ex' .f64 (some n) a q := fun f v e => ⟨f, by show rv .f64 _ = _; rw [v, e.val]⟩
  have a1 := ib hu hi
  have a2 := ib hv hj
  have a3 := ib hr hk
  have m1 := (E fX vX e4).mul (E fx vx e1) (by omega) (by decide) (by decide)
  have m2 := (E fY vY e5).mul (E fy vy e2) (by omega) (by decide) (by decide)
  have m3 := (E fZ vZ e6).mul (E fz vz e3) (by omega) (by decide) (by decide)
  obtain ⟨w1, q1, _, _⟩ := wordOf m1.fin
  obtain ⟨w2, q2, _, _⟩ := wordOf m2.fin
  obtain ⟨w3, q3, _, _⟩ := wordOf m3.fin
  rw [q1] at m1
  rw [q2] at m2
  rw [q3] at m3
  have s1 := m1.add m2 (by omega) (by decide) (by decide)
  obtain ⟨w4, q4, _, _⟩ := wordOf s1.fin
  rw [q4] at s1
  have s2 := s1.add m3 (by omega) (by decide) (by decide)
  obtain ⟨w5, q5, i5, f5⟩ := wordOf s2.fin
  rw [q5, h0] at s2
  refine ⟨w1, w2, w3, w4, w5, q1, q2, q3, q4, q5, i5, f5, ?_⟩
  have := s2.val
  have e : cv .f64 (some w5) = rv .f64 w5 := rfl
  rw [e] at this
  rw [this]
  have : ((0 : Int) : Rat) = 0 := rfl
  rw [this, Rat.zero_mul]

attribute [local irreducible] Code.wp wpList Oper.wp Calls bodyPost Exit.then Exit.inBlock

section
set_option maxRecDepth 100000
set_option maxHeartbeats 64000000

theorem flats_walk (cs : List Int) (ba : Option Addr) (cap : Nat) (cs' : List Int) (ba' : Option Addr) (cap' : Nat) (w : World) (hr : RdB w ba cs) (hok : okB cs) (hl : cs.length ≤ 9223372036854775807) (hr' : RdB w ba' cs') (hok' : okB cs') (hl' : cs'.length ≤ 9223372036854775807) :
    Calls Try.prog 28 [.slice ba cs.length cap, .slice ba' cs'.length cap'].toArray w fun e w' => e = .returned (.bool true) ∧ Below w.heap.size w w' := by
  have hz := fun w => r8Long_ok cs.length cs'.length cap cap' ba ba' hl hl' w
  refine enter Try.func28 rfl rfl rfl rfl ?_
  intro a st
  by_cases hbig : (decide (48 < cs.length) || decide (48 < cs'.length)) = true
  · rw [hbig] at hz
    (repeat' (first | (refine o_callV st rfl (hz _) rfl ?_; clear st; intro _ _ st)  | refine c_seq ?_  | refine c_region ?_  | refine l_do ?_  | refine l_doG st rfl rfl ?_  | refine l_nil ?_  | refine x_then ?_  | refine x_thenR ?_  | refine x_thenE ?_  | refine x_blkN ?_  | refine x_blkE ?_  | refine wp_ret ?_  | refine wp_skip ?_  | refine wp_block ?_  | refine wp_exit ?_  | refine c_condT st rfl ?_  | refine c_condF st rfl ?_  | ((first | refine o_move st rfl rfl ?_  | refine o_assign st rfl rfl ?_  | refine o_pickF st rfl rfl rfl ?_); clear st; intro _ st)  | (refine o_alloc st rfl ?_; clear st; intro _ _ _ st)  | ((first | refine o_fieldAddr st rfl rfl ?_  | refine o_loadS st rfl (by repeat constructor) rfl rfl ?_  | refine o_load3 st rfl (by repeat constructor) rfl ?_ ); clear st; intro _ st)  | ((first | refine o_storeW st rfl rfl (by repeat constructor) rfl rfl rfl ?_); clear st; intro _ _ st)  | ((first | refine o_build2 st rfl rfl rfl rfl rfl ?_  | refine o_extract st rfl rfl rfl ?_  | refine o_len st rfl rfl ?_  | refine o_add64 st rfl rfl rfl (by omega) (by omega) ?_  | refine o_notT st rfl rfl ?_ ); clear st; intro _ st)  | (refine o_fop rfl st rfl rfl (by first | assumption | exact Is_ofInt _ _ | exact Is_lit (by decide +kernel)) (by first | assumption | exact Is_ofInt _ _ | exact Is_lit (by decide +kernel)) rfl ?_; clear st; intro _ _ _ _ st)  | ((first | refine o_intFloat st rfl rfl ?_); clear st; intro _ st)  | ((first | refine o_lss st rfl rfl rfl ?_ ?_  | refine o_geq st rfl rfl rfl ?_ ?_  | refine o_neqI st rfl rfl rfl ?_ ?_) <;> clear st <;> intro _ _ st <;> (try (exfalso; omega))) ))
    refine post1 st Try.results28 (rd_t st rfl) ?_
    exact ⟨rfl, st.below⟩
  have hbig : (decide (48 < cs.length) || decide (48 < cs'.length)) = false := by simpa using hbig
  rw [hbig] at hz
  have hlen : cs.length ≤ 48 ∧ cs'.length ≤ 48 := by simpa using hbig
  have hone : Is .f32 1065353216 one32 := Is_lit (by decide +kernel)
  (repeat' (first | (refine o_callV st rfl (hz _) rfl ?_; clear st; intro _ _ st)  | (refine o_callR st rfl (r8At_ok cs' hok' (by omega) ba' cap' 0 16 (by omega) _ (hr'.mono st.below)) rfl ?_; clear st; rintro _ ⟨x0, rfl, hx0⟩ _ _ st)  | (refine o_callR st rfl (r8At_ok cs' hok' (by omega) ba' cap' 1 16 (by omega) _ (hr'.mono st.below)) rfl ?_; clear st; rintro _ ⟨x1, rfl, hx1⟩ _ _ st)  | (refine o_callR st rfl (r8At_ok cs' hok' (by omega) ba' cap' 2 4 (by omega) _ (hr'.mono st.below)) rfl ?_; clear st; rintro _ ⟨x2, rfl, hx2⟩ _ _ st)  | (refine o_callR st rfl (r8At_ok cs' hok' (by omega) ba' cap' 3 4 (by omega) _ (hr'.mono st.below)) rfl ?_; clear st; rintro _ ⟨x3, rfl, hx3⟩ _ _ st)  | (refine o_fop (ci := some (floatOfInt .f32 ((1 : Int) + (x0 : Int)))) (cj := two32) rfl st rfl rfl (Is_ofInt _ _) (Is_lit (by decide +kernel)) rfl ?_; clear st; intro wd _ _ hwd st)  | (refine o_fop (ci := some (floatOfInt .f32 ((1 : Int) + (x1 : Int)))) (cj := two32) rfl st rfl rfl (Is_ofInt _ _) (Is_lit (by decide +kernel)) rfl ?_; clear st; intro ld _ _ hld st)  | refine c_seq ?_  | refine c_region ?_  | refine l_do ?_  | refine l_doG st rfl rfl ?_  | refine l_nil ?_  | refine x_then ?_  | refine x_thenR ?_  | refine x_thenE ?_  | refine x_blkN ?_  | refine x_blkE ?_  | refine wp_ret ?_  | refine wp_skip ?_  | refine wp_block ?_  | refine wp_exit ?_  | refine c_condT st rfl ?_  | refine c_condF st rfl ?_  | ((first | refine o_move st rfl rfl ?_  | refine o_assign st rfl rfl ?_  | refine o_pickF st rfl rfl rfl ?_); clear st; intro _ st)  | (refine o_alloc st rfl ?_; clear st; intro _ _ _ st)  | ((first | refine o_fieldAddr st rfl rfl ?_  | refine o_loadS st rfl (by repeat constructor) rfl rfl ?_  | refine o_load3 st rfl (by repeat constructor) rfl ?_ ); clear st; intro _ st)  | ((first | refine o_storeW st rfl rfl (by repeat constructor) rfl rfl rfl ?_); clear st; intro _ _ st)  | ((first | refine o_build2 st rfl rfl rfl rfl rfl ?_  | refine o_extract st rfl rfl rfl ?_  | refine o_len st rfl rfl ?_  | refine o_add64 st rfl rfl rfl (by omega) (by omega) ?_  | refine o_notT st rfl rfl ?_ ); clear st; intro _ st)  | (refine o_fop rfl st rfl rfl (by first | assumption | exact Is_ofInt _ _ | exact Is_lit (by decide +kernel)) (by first | assumption | exact Is_ofInt _ _ | exact Is_lit (by decide +kernel)) rfl ?_; clear st; intro _ _ _ _ st)  | ((first | refine o_intFloat st rfl rfl ?_); clear st; intro _ st)  | ((first | refine o_lss st rfl rfl rfl ?_ ?_  | refine o_geq st rfl rfl rfl ?_ ?_  | refine o_neqI st rfl rfl rfl ?_ ?_) <;> clear st <;> intro _ _ st <;> (try (exfalso; omega))) ))
  obtain ⟨n, hn1, hn, en⟩ : ∃ n : Nat, 1 ≤ n ∧ n ≤ 16 ∧ (1 : Int) + (x0 : Int) = (n : Int) := ⟨1 + x0, by omega, by omega, by omega⟩
  obtain ⟨l, hl1, hl16, el⟩ : ∃ l : Nat, 1 ≤ l ∧ l ≤ 16 ∧ (1 : Int) + (x1 : Int) = (l : Int) := ⟨1 + x1, by omega, by omega, by omega⟩
  obtain ⟨M, hM, hM5, eM⟩ : ∃ M : Nat, 2 ≤ M ∧ M ≤ 5 ∧ (2 : Int) + (x2 : Int) = (M : Int) := ⟨2 + x2, by omega, by omega, by omega⟩
  obtain ⟨K, hK, hK5, eK⟩ : ∃ K : Nat, 2 ≤ K ∧ K ≤ 5 ∧ (2 : Int) + (x3 : Int) = (K : Int) := ⟨2 + x3, by omega, by omega, by omega⟩
  rw [en] at hwd
  rw [el] at hld
  rw [eM, eK] at st
  have hwd : Is .f32 wd (wC n) := hwd
  have hld : Is .f32 ld (wC l) := hld
  have hsap := flat_sap hn hl16 hM hM5 hK hK5
  have hvl := hsap.1.valid hM hM5 hK hK5
  have h25 : M * K ≤ 5 * 5 := Nat.mul_le_mul hM5 hK5
  have hfl : ∀ w, CShYC Try.prog 70 [.int .i64 M, .int .i64 K, .float .f32 wd, .float .f32 ld] w M K (flatC M K (wC n) (wC l) (M * K)) := fun w => implFlat_yesC M K wd ld (wC n) (wC l) hwd hld (flat_can hn hl16 hM hM5 hK hK5) hvl w
  (repeat' (first | (refine o_callM1 st rfl (hfl _) rfl ?_; clear st; rintro _ sb _ ⟨os, cp, pad, hcp, rfl, rfl, hI⟩ _ _ st)  | (refine o_alloc st rfl ?_; clear st; intro p7 _ _ st)  | (refine o_callR st rfl (r8At_ok cs' hok' (by omega) ba' cap' 4 17 (by omega) _ (hr'.mono st.below)) rfl ?_; clear st; rintro _ ⟨i, rfl, hi⟩ _ _ st)  | (refine o_callR st rfl (r8At_ok cs' hok' (by omega) ba' cap' 5 17 (by omega) _ (hr'.mono st.below)) rfl ?_; clear st; rintro _ ⟨j, rfl, hj⟩ _ _ st)  | (refine o_fop (ci := some (floatOfInt .f32 (i : Int))) (cj := some 1098907648) rfl st rfl rfl (Is_ofInt _ _) (Is_lit (by decide +kernel)) rfl ?_; clear st; intro u _ _ hu st)  | (refine o_fop (ci := some (floatOfInt .f32 (j : Int))) (cj := some 1098907648) rfl st rfl rfl (Is_ofInt _ _) (Is_lit (by decide +kernel)) rfl ?_; clear st; intro v _ _ hv st)  | refine c_seq ?_  | refine c_region ?_  | refine l_do ?_  | refine l_doG st rfl rfl ?_  | refine l_nil ?_  | refine x_then ?_  | refine x_thenR ?_  | refine x_thenE ?_  | refine x_blkN ?_  | refine x_blkE ?_  | refine wp_ret ?_  | refine wp_skip ?_  | refine wp_block ?_  | refine wp_exit ?_  | refine c_condT st rfl ?_  | refine c_condF st rfl ?_  | ((first | refine o_move st rfl rfl ?_  | refine o_assign st rfl rfl ?_  | refine o_pickF st rfl rfl rfl ?_); clear st; intro _ st)  | (refine o_alloc st rfl ?_; clear st; intro _ _ _ st)  | ((first | refine o_fieldAddr st rfl rfl ?_  | refine o_loadS st rfl (by repeat constructor) rfl rfl ?_  | refine o_load3 st rfl (by repeat constructor) rfl ?_ ); clear st; intro _ st)  | ((first | refine o_storeW st rfl rfl (by repeat constructor) rfl rfl rfl ?_); clear st; intro _ _ st)  | ((first | refine o_build2 st rfl rfl rfl rfl rfl ?_  | refine o_extract st rfl rfl rfl ?_  | refine o_len st rfl rfl ?_  | refine o_add64 st rfl rfl rfl (by omega) (by omega) ?_  | refine o_notT st rfl rfl ?_ ); clear st; intro _ st)  | (refine o_fop rfl st rfl rfl (by first | assumption | exact Is_ofInt _ _ | exact Is_lit (by decide +kernel)) (by first | assumption | exact Is_ofInt _ _ | exact Is_lit (by decide +kernel)) rfl ?_; clear st; intro _ _ _ _ st)  | ((first | refine o_intFloat st rfl rfl ?_); clear st; intro _ st)  | ((first | refine o_lss st rfl rfl rfl ?_ ?_  | refine o_geq st rfl rfl rfl ?_ ?_  | refine o_neqI st rfl rfl rfl ?_ ?_) <;> clear st <;> intro _ _ st <;> (try (exfalso; omega))) ))
  have hu : Is .f32 u (xC i) := hu
  have hv : Is .f32 v (xC j) := hv
  have F := flA hn1 hn hl1 hl16 hM hM5 hK hK5 (i := i) (j := j) (by omega) (by omega)
  have hTL := fun p q hp hp4 hq hq4 => flTL (p := p) (q := q) hn hl16 hM hM5 hK hK5 hp hp4 hq hq4
  have hol : os.length = M * K := by rw [hI.len]; exact hsap.1.len
  generalize flatC M K (wC n) (wC l) (M * K) = ss at F hI hTL
  clear hsap hvl hfl
  have p1 := fun (w : World) h => implAt_ok M K os ss hI (some ⟨sb, 0, none⟩) cp hcp u v _ _ hu hv w h (by omega)
  rw [F.at_] at p1
  have p2 := fun (w : World) h => implSlopes_ok M K os ss hI (some ⟨sb, 0, none⟩) cp hcp u v _ _ hu hv w h (by omega)
  rw [F.sl] at p2
  have p3 := fun (w : World) h => implNormal_ok M K os ss hI (some ⟨sb, 0, none⟩) cp hcp u v _ _ hu hv w h (by omega)
  rw [F.no] at p3
  (repeat' (first | (refine o_callSBb st rfl (p1 _ (RdS.of (st.heap (by repeat constructor)) (spotsIn0p _ _))) rfl ?_; clear st; intro b1 hb1 _ _ st)  | (refine o_alloc st rfl ?_; clear st; intro _ _ _ st)  | (refine o_callR st rfl (p2 _ (RdS.of (st.heap (by repeat constructor)) (spotsIn0p _ _))) rfl ?_; clear st; rintro _ ⟨b2, b3, rfl, hb2, hb3⟩ _ _ st)  | (refine o_callSBb st rfl (p3 _ (RdS.of (st.heap (by repeat constructor)) (spotsIn0p _ _))) rfl ?_; clear st; intro b4 hb4 _ _ st)  | (refine o_fop rfl st rfl rfl hu hwd rfl ?_; clear st; intro uw _ _ huw st)  | (refine o_fop rfl st rfl rfl hv hld rfl ?_; clear st; intro vw _ _ hvw st)  | refine c_seq ?_  | refine c_region ?_  | refine l_do ?_  | refine l_doG st rfl rfl ?_  | refine l_nil ?_  | refine x_then ?_  | refine x_thenR ?_  | refine x_thenE ?_  | refine x_blkN ?_  | refine x_blkE ?_  | refine wp_ret ?_  | refine wp_skip ?_  | refine wp_block ?_  | refine wp_exit ?_  | refine c_condT st rfl ?_  | refine c_condF st rfl ?_  | ((first | refine o_move st rfl rfl ?_  | refine o_assign st rfl rfl ?_  | refine o_pickF st rfl rfl rfl ?_); clear st; intro _ st)  | (refine o_alloc st rfl ?_; clear st; intro _ _ _ st)  | ((first | refine o_fieldAddr st rfl rfl ?_  | refine o_loadS st rfl (by repeat constructor) rfl rfl ?_  | refine o_load3 st rfl (by repeat constructor) rfl ?_ ); clear st; intro _ st)  | ((first | refine o_storeW st rfl rfl (by repeat constructor) rfl rfl rfl ?_); clear st; intro _ _ st)  | ((first | refine o_build2 st rfl rfl rfl rfl rfl ?_  | refine o_extract st rfl rfl rfl ?_  | refine o_len st rfl rfl ?_  | refine o_add64 st rfl rfl rfl (by omega) (by omega) ?_  | refine o_notT st rfl rfl ?_ ); clear st; intro _ st)  | (refine o_fop rfl st rfl rfl (by first | assumption | exact Is_ofInt _ _ | exact Is_lit (by decide +kernel)) (by first | assumption | exact Is_ofInt _ _ | exact Is_lit (by decide +kernel)) rfl ?_; clear st; intro _ _ _ _ st)  | ((first | refine o_intFloat st rfl rfl ?_); clear st; intro _ st)  | ((first | refine o_lss st rfl rfl rfl ?_ ?_  | refine o_geq st rfl rfl rfl ?_ ?_  | refine o_neqI st rfl rfl rfl ?_ ?_) <;> clear st <;> intro _ _ st <;> (try (exfalso; omega))) ))
  have a1 := fun w => r8Apart_ok b1 (uw, vw, 0) _ _ hb1 ⟨huw, hvw, Is_z⟩ F.n1.1 F.n1.2.1 BB F.n1.2.2 bb0 bb1 w
  have a2 := fun w => r8Apart_ok b2 (wd, 0, 0) _ _ hb2 ⟨hwd, Is_z, Is_z⟩ F.n2.1 F.n2.2.1 BB F.n2.2.2 bb0 bb1 w
  have a3 := fun w => r8Apart_ok b3 (0, ld, 0) _ _ hb3 ⟨Is_z, hld, Is_z⟩ F.n3.1 F.n3.2.1 BB F.n3.2.2 bb0 bb1 w
  have a4 := fun w => r8Apart_ok b4 (0, 0, 1065353216) _ _ hb4 ⟨Is_z, Is_z, hone⟩ F.n4.1 F.n4.2.1 BB F.n4.2.2 bb0 bb1 w
  (repeat' (first | (refine o_callR st rfl (a1 _) rfl ?_; clear st; rintro _ ⟨r1, rfl, i1, f1, u1⟩ _ _ st)  | (refine o_callR st rfl (a2 _) rfl ?_; clear st; rintro _ ⟨r2, rfl, i2, f2, u2⟩ _ _ st)  | (refine o_callR st rfl (a3 _) rfl ?_; clear st; rintro _ ⟨r3, rfl, i3, f3, u3⟩ _ _ st)  | (refine o_callR st rfl (a4 _) rfl ?_; clear st; rintro _ ⟨r4, rfl, i4, f4, u4⟩ _ _ st)  | (refine o_fgtrK st rfl rfl i1 (Is_lit (by decide +kernel)) (gap_ngt f1 lit1.1 u1 lit1.2) rfl ?_; clear st; intro _ st)  | (refine o_fgtrK st rfl rfl i2 (Is_lit (by decide +kernel)) (gap_ngt f2 lit1.1 u2 lit1.2) rfl ?_; clear st; intro _ st)  | (refine o_fgtrK st rfl rfl i3 (Is_lit (by decide +kernel)) (gap_ngt f3 lit1.1 u3 lit1.2) rfl ?_; clear st; intro _ st)  | (refine o_fgtrK st rfl rfl i4 (Is_lit (by decide +kernel)) (gap_ngt f4 lit2.1 u4 lit2.2) rfl ?_; clear st; intro _ st)  | (refine o_build1 st rfl rfl rfl ?_; clear st; intro _ st)  | (refine o_buildY st rfl rfl rfl ?_; clear st; intro _ st)  | (refine o_buildZ st rfl rfl rfl ?_; clear st; intro _ st)  | (refine o_callR st rfl (r8At_ok cs' hok' (by omega) ba' cap' 6 4 (by omega) _ (hr'.mono st.below)) rfl ?_; clear st; rintro _ ⟨x6, rfl, hx6⟩ _ _ st)  | (refine o_callR st rfl (r8At_ok cs' hok' (by omega) ba' cap' 7 4 (by omega) _ (hr'.mono st.below)) rfl ?_; clear st; rintro _ ⟨x7, rfl, hx7⟩ _ _ st)  | refine c_seq ?_  | refine c_region ?_  | refine l_do ?_  | refine l_doG st rfl rfl ?_  | refine l_nil ?_  | refine x_then ?_  | refine x_thenR ?_  | refine x_thenE ?_  | refine x_blkN ?_  | refine x_blkE ?_  | refine wp_ret ?_  | refine wp_skip ?_  | refine wp_block ?_  | refine wp_exit ?_  | refine c_condT st rfl ?_  | refine c_condF st rfl ?_  | ((first | refine o_move st rfl rfl ?_  | refine o_assign st rfl rfl ?_  | refine o_pickF st rfl rfl rfl ?_); clear st; intro _ st)  | (refine o_alloc st rfl ?_; clear st; intro _ _ _ st)  | ((first | refine o_fieldAddr st rfl rfl ?_  | refine o_loadS st rfl (by repeat constructor) rfl rfl ?_  | refine o_load3 st rfl (by repeat constructor) rfl ?_ ); clear st; intro _ st)  | ((first | refine o_storeW st rfl rfl (by repeat constructor) rfl rfl rfl ?_); clear st; intro _ _ st)  | ((first | refine o_build2 st rfl rfl rfl rfl rfl ?_  | refine o_extract st rfl rfl rfl ?_  | refine o_len st rfl rfl ?_  | refine o_add64 st rfl rfl rfl (by omega) (by omega) ?_  | refine o_notT st rfl rfl ?_ ); clear st; intro _ st)  | (refine o_fop rfl st rfl rfl (by first | assumption | exact Is_ofInt _ _ | exact Is_lit (by decide +kernel)) (by first | assumption | exact Is_ofInt _ _ | exact Is_lit (by decide +kernel)) rfl ?_; clear st; intro _ _ _ _ st)  | ((first | refine o_intFloat st rfl rfl ?_); clear st; intro _ st)  | ((first | refine o_lss st rfl rfl rfl ?_ ?_  | refine o_geq st rfl rfl rfl ?_ ?_  | refine o_neqI st rfl rfl rfl ?_ ?_) <;> clear st <;> intro _ _ st <;> (try (exfalso; omega))) ))
  obtain ⟨A, hA1, hA4, eA⟩ : ∃ A : Nat, 1 ≤ A ∧ A ≤ 4 ∧ (1 : Int) + (x6 : Int) = (A : Int) := ⟨1 + x6, by omega, by omega, by omega⟩
  obtain ⟨B, hB1, hB4, eB⟩ : ∃ B : Nat, 1 ≤ B ∧ B ≤ 4 ∧ (1 : Int) + (x7 : Int) = (B : Int) := ⟨1 + x7, by omega, by omega, by omega⟩
  rw [eA, eB] at st
  replace st := St.fit (E' := [(0, .slice ba cs.length cap), (1, .slice ba' cs'.length cap'), (5, .float .f32 wd), (6, .float .f32 ld), (7, .pointer (some ⟨p7, 0, none⟩)), (18, .int .i64 A), (19, .int .i64 B), (157, _), (158, _), (159, _)]) st (by repeat (first | exact trivial  | refine And.intro rfl ?_))
  obtain ⟨T, tok⟩ := hTL A B hA1 hA4 hB1 hB4
  obtain ⟨w0', w8'⟩ := half_bd16 hn
  obtain ⟨l0', l8'⟩ := half_bd16 hl16
  have htl := fun (w : World) h => implTiles_yes M K os ss hI (some ⟨sb, 0, none⟩) cp hcp A B tok w h (by omega)
  have hb9 := T.b9 hA1 hB1 w0' w8' l0' l8'
  have hfew := T.few hA4 hB4
  have AR := arF T hA1 hA4 hB1 hB4 (half_ge hn1) w8' (half_ge hl1) l8'
  have CF := fun (k : Nat) (hk : k ≤ 8) => cuF T hn1 hn hA1 hA4 hB1 l0' l8' hk
  have NC := noC T w0' w8' hA1 hB1 l0' l8'
  have hcan := T.can hA1 hA4 hB1 hB4
  have hTlen := T.len
  clear T tok hTL a1 a2 a3 a4 p1 p2 p3 F
  generalize tilesL M K ss A B = tt at htl hb9 hfew AR CF NC hcan hTlen
  have h20 : (B + 1) * (A + 1) ≤ 5 * 5 := Nat.mul_le_mul (by omega) (by omega)
  have harea := fun (ts : List B3) (hT : IsSL ts tt) (w : World) base cap h => implArea_ok ts tt hT base cap A B w h (by have := hT.len; omega)
  rw [AR.ok] at harea
  have hcut : ∀ (ts : List B3) (_ : IsSL ts tt) (k : Nat) (_ : k ≤ 8) (lw : Nat) (_ : Is .f32 lw (lvC k n)) (w : World) (base : Option Addr) (cap : Nat) (_ : RdS w base ts), CLsY Try.prog 83 [.slice base ts.length cap, .int .i64 A, .int .i64 B, vS (1065353216, 0, 0), .float .f32 lw] w (cutsT tt wayX (lvC k n) (triM A A B) (B * (A * 2))) := by
    intro ts hT k hk lw hlw w base cap h
    have h1 : CLs Try.prog 83 [.slice base ts.length cap, .int .i64 A, .int .i64 B, vS (1065353216, 0, 0), .float .f32 lw] w (cutsT tt wayX (lvC k n) (triM A A B) (B * (A * 2))) := implCuts_ok ts tt hT base cap A B (1065353216, 0, 0) wayX ⟨hone, Is_z, Is_z⟩ lw (lvC k n) hlw hcan wayX_fin (fin_finC (lv_ex hk hn).fin) (CF k hk).hs w h (by have := hT.len; omega)
    exact h1.yes (CF k hk).ok
  have hnone : ∀ (ts : List B3) (_ : IsSL ts tt) (w : World) (base : Option Addr) (cap : Nat) (_ : RdS w base ts), CLsY Try.prog 83 [.slice base ts.length cap, .int .i64 A, .int .i64 B, vS (1065353216, 0, 0), .float .f32 3212836864] w [] := by
    intro ts hT w base cap h
    have h1 : CLs Try.prog 83 [.slice base ts.length cap, .int .i64 A, .int .i64 B, vS (1065353216, 0, 0), .float .f32 3212836864] w (cutsT tt wayX minus1 (triM A A B) (B * (A * 2))) := implCuts_ok ts tt hT base cap A B (1065353216, 0, 0) wayX ⟨hone, Is_z, Is_z⟩ 3212836864 minus1 (Is_lit (by decide +kernel)) hcan wayX_fin (fin_finC minus1_ap.fin) NC.hs w h (by have := hT.len; omega)
    rw [NC.none] at h1
    exact h1.yes rfl
  (repeat' (first | (refine o_callLsY st rfl (htl _ (RdS.of (st.heap (by repeat constructor)) (spotsIn0p _ _))) rfl ?_; clear st; intro tb ts tcp tpad hT hTl _ _ st)  | (refine o_callFlB st rfl (harea ts hT _ _ _ (RdS.of (st.heap (by repeat constructor)) (spotsIn0p _ _))) rfl ?_; clear st; intro ar har _ _ st)  | (refine o_callR st rfl (r8At_ok cs' hok' (by omega) ba' cap' 8 9 (by omega) _ (hr'.mono st.below)) rfl ?_; clear st; rintro _ ⟨k, rfl, hk⟩ _ _ st)  | (refine o_fop (ci := some (floatOfInt .f32 (k : Int))) (cj := half32) rfl st rfl rfl (Is_ofInt _ _) (Is_lit (by decide +kernel)) rfl ?_; clear st; intro c1 _ _ hc1 st)  | (refine o_fop (cj := some 1098907648) rfl st rfl rfl hc1 (Is_lit (by decide +kernel)) rfl ?_; clear st; intro c2 _ _ hc2 st)  | (refine o_fop rfl st rfl rfl hc2 hwd rfl ?_; clear st; intro lw _ _ hlw st)  | (refine o_build1 st rfl rfl rfl ?_; clear st; intro _ st)  | (refine o_callLsY st rfl (hcut ts hT k (by omega) lw hlw _ _ _ (RdS.of (st.heap (by repeat constructor)) (spotsIn0p _ _))) rfl ?_; clear st; intro cb us ucp upad hU hUl _ _ st)  | (refine o_callLsY st rfl (hnone ts hT _ _ _ (RdS.of (st.heap (by repeat constructor)) (spotsIn0p _ _))) rfl ?_; clear st; intro nb ns ncp npad hN hNl _ _ st)  | refine c_seq ?_  | refine c_region ?_  | refine l_do ?_  | refine l_doG st rfl rfl ?_  | refine l_nil ?_  | refine x_then ?_  | refine x_thenR ?_  | refine x_thenE ?_  | refine x_blkN ?_  | refine x_blkE ?_  | refine wp_ret ?_  | refine wp_skip ?_  | refine wp_block ?_  | refine wp_exit ?_  | refine c_condT st rfl ?_  | refine c_condF st rfl ?_  | ((first | refine o_move st rfl rfl ?_  | refine o_assign st rfl rfl ?_  | refine o_pickF st rfl rfl rfl ?_); clear st; intro _ st)  | (refine o_alloc st rfl ?_; clear st; intro _ _ _ st)  | ((first | refine o_fieldAddr st rfl rfl ?_  | refine o_loadS st rfl (by repeat constructor) rfl rfl ?_  | refine o_load3 st rfl (by repeat constructor) rfl ?_ ); clear st; intro _ st)  | ((first | refine o_storeW st rfl rfl (by repeat constructor) rfl rfl rfl ?_); clear st; intro _ _ st)  | ((first | refine o_build2 st rfl rfl rfl rfl rfl ?_  | refine o_extract st rfl rfl rfl ?_  | refine o_len st rfl rfl ?_  | refine o_add64 st rfl rfl rfl (by omega) (by omega) ?_  | refine o_notT st rfl rfl ?_ ); clear st; intro _ st)  | (refine o_fop rfl st rfl rfl (by first | assumption | exact Is_ofInt _ _ | exact Is_lit (by decide +kernel)) (by first | assumption | exact Is_ofInt _ _ | exact Is_lit (by decide +kernel)) rfl ?_; clear st; intro _ _ _ _ st)  | ((first | refine o_intFloat st rfl rfl ?_); clear st; intro _ st)  | ((first | refine o_lss st rfl rfl rfl ?_ ?_  | refine o_geq st rfl rfl rfl ?_ ?_  | refine o_neqI st rfl rfl rfl ?_ ?_) <;> clear st <;> intro _ _ st <;> (try (exfalso; omega))) ))
  have hk8 : k ≤ 8 := by omega
  have C := CF k hk8
  clear CF NC htl hcut hnone harea
  have hlw : Is .f32 lw (lvC k n) := hlw
  obtain ⟨ar0, ar70, arb, arg⟩ := area_bd hn1 hn hl1 hl16 AR.ap
  obtain ⟨ra, ea, ia, fa, va⟩ := widen_word har AR.ap.fin arb
  obtain ⟨rw_, ew, iw, fw, vw'⟩ := widen_word hwd (wC_ex hn).fin (wC_wide hn)
  obtain ⟨rl, elg, il, fl, vl⟩ := widen_word hld (wC_ex hl16).fin (wC_wide hl16)
  have hg : ∀ (z : Nat), Is .f64 z (fop .mul .f64 (some rw_) (some rl)) → ∀ w, CR Try.prog 98 [.float .f64 ra, .float .f64 z] w (GapR (1 / 256)) := fun z hz w => by
    obtain ⟨z1, z2, z3⟩ := side64 hn hl16 fw vw' fl vl hz rfl
    exact r8Gap_ok ra z ia z1 fa z2 (1 / 256) (by rw [va, z3]; exact arg) ar_lo ar_hi w
  have hev : us.length % 2 = 0 := by rw [hUl]; exact (cutsT_even _ _ _ _ _).1
  have htwo : 2 ≤ us.length := by rw [hUl]; exact C.two
  have hns : ns.length = 0 := hNl
  (repeat' (first | (refine o_fcvK st rfl ea rfl ?_; clear st; intro _ st)  | (refine o_fcvK st rfl ew rfl ?_; clear st; intro _ st)  | (refine o_fcvK st rfl elg rfl ?_; clear st; intro _ st)  | (refine o_fop rfl st rfl rfl iw il rfl ?_; clear st; intro z _ _ hz st)  | (refine o_callR st rfl (hg z hz _) rfl ?_; clear st; rintro _ ⟨r5, rfl, i5, f5, u5⟩ _ _ st)  | (refine o_fop (ci := some 4607182418800017408) rfl st rfl rfl (Is_lit (by decide +kernel)) ia rfl ?_; clear st; intro s5 _ _ hs5 st)  | (refine o_fop (ci := some 4576918229304087675) rfl st rfl rfl (Is_lit (by decide +kernel)) hs5 rfl ?_; clear st; intro th _ _ hth st)  | (refine o_fgtrK st rfl rfl i5 hth (gap_thr f5 u5 (ap_own fa va) ar0 ar70) rfl ?_; clear st; intro _ st)  | (refine o_rem64 (i := us.length) (j := 2) st rfl rfl (by omega) rfl ?_; clear st; intro _ st)  | refine c_seq ?_  | refine c_region ?_  | refine l_do ?_  | refine l_doG st rfl rfl ?_  | refine l_nil ?_  | refine x_then ?_  | refine x_thenR ?_  | refine x_thenE ?_  | refine x_blkN ?_  | refine x_blkE ?_  | refine wp_ret ?_  | refine wp_skip ?_  | refine wp_block ?_  | refine wp_exit ?_  | refine c_condT st rfl ?_  | refine c_condF st rfl ?_  | ((first | refine o_move st rfl rfl ?_  | refine o_assign st rfl rfl ?_  | refine o_pickF st rfl rfl rfl ?_); clear st; intro _ st)  | (refine o_alloc st rfl ?_; clear st; intro _ _ _ st)  | ((first | refine o_fieldAddr st rfl rfl ?_  | refine o_loadS st rfl (by repeat constructor) rfl rfl ?_  | refine o_load3 st rfl (by repeat constructor) rfl ?_ ); clear st; intro _ st)  | ((first | refine o_storeW st rfl rfl (by repeat constructor) rfl rfl rfl ?_); clear st; intro _ _ st)  | ((first | refine o_build2 st rfl rfl rfl rfl rfl ?_  | refine o_extract st rfl rfl rfl ?_  | refine o_len st rfl rfl ?_  | refine o_add64 st rfl rfl rfl (by omega) (by omega) ?_  | refine o_notT st rfl rfl ?_ ); clear st; intro _ st)  | (refine o_fop rfl st rfl rfl (by first | assumption | exact Is_ofInt _ _ | exact Is_lit (by decide +kernel)) (by first | assumption | exact Is_ofInt _ _ | exact Is_lit (by decide +kernel)) rfl ?_; clear st; intro _ _ _ _ st)  | ((first | refine o_intFloat st rfl rfl ?_); clear st; intro _ st)  | ((first | refine o_lss st rfl rfl rfl ?_ ?_  | refine o_geq st rfl rfl rfl ?_ ?_  | refine o_neqI st rfl rfl rfl ?_ ?_) <;> clear st <;> intro _ _ st <;> (try (exfalso; omega))) ))
  replace st := St.fit (E' := [(0, .slice ba cs.length cap), (20, .slice (some ⟨tb, 0, none⟩) ts.length tcp), (24, .float .f32 lw), (25, .slice (some ⟨cb, 0, none⟩) us.length ucp), (29, .int .i64 ((0 : Nat) : Int))]) st (by repeat (first | exact trivial  | refine And.intro rfl ?_))
  replace st := st.subL (L' := [⟨cb, true, oS us upad⟩, ⟨tb, true, oS ts tpad⟩]) (by repeat (first | exact List.Sublist.refl _  | apply List.Sublist.cons_cons  | apply List.Sublist.cons  | exact List.nil_sublist _))
  have hcn := C.near
  have hub : us.length ≤ 1000 := by
    have h1 := (cutsT_even tt wayX (lvC k n) (triM A A B) (B * (A * 2))).2
    have h2 : B * (A * 2) ≤ 4 * (4 * 2) := Nat.mul_le_mul hB4 (Nat.mul_le_mul_right 2 hA4)
    omega
  clear C ia fa va ea ar0 ar70 arb arg hg
  obtain ⟨rv2, elv, ilv, flv, vlv⟩ := widen_word hlw (lv_ex hk8 hn).fin (ab126 ((lv_ap hk8 hn).1.ab (lv_ap hk8 hn).2) (by decide +kernel))
  refine wp_loop_ghost (fun z a w' => ∃ q : Nat, q ≤ us.length ∧ z = us.length - q ∧ St w Try.f28.ntmps a w' [(0, .slice ba cs.length cap), (20, .slice (some ⟨tb, 0, none⟩) ts.length tcp), (24, .float .f32 lw), (25, .slice (some ⟨cb, 0, none⟩) us.length ucp), (29, .int .i64 (q : Int))] [⟨cb, true, oS us upad⟩, ⟨tb, true, oS ts tpad⟩]) us.length ⟨0, by omega, by omega, st⟩ ?_
  clear st
  rintro z a w' ⟨q, hq, rfl, st⟩
  by_cases hlt : q < us.length
  · have hvi := spotsIn0p us upad q us[q] (List.getElem?_eq_getElem hlt)
    obtain ⟨r6w, e6, g6⟩ := hnear hk8 hn hU hcn ilv flv vlv hlt
    (repeat' (first | (refine o_indexAddr st rfl rfl (by omega) (by omega) rfl ?_; clear st; intro _ st)  | (refine o_loadS st rfl (by repeat constructor) hvi.1 rfl ?_; clear st; intro _ st)  | (refine o_fcvK st rfl e6 rfl ?_; clear st; intro _ st)  | (refine o_fcvK st rfl elv rfl ?_; clear st; intro _ st)  | (refine o_callR st rfl (g6 _) rfl ?_; clear st; rintro _ ⟨r6, rfl, i6, f6, u6⟩ _ _ st)  | (refine o_fgtrK st rfl rfl i6 (Is_lit (by decide +kernel)) (gap_ngt f6 lit2.1 u6 lit2.2) rfl ?_; clear st; intro _ st)  | refine c_seq ?_  | refine c_region ?_  | refine l_do ?_  | refine l_doG st rfl rfl ?_  | refine l_nil ?_  | refine x_then ?_  | refine x_thenR ?_  | refine x_thenE ?_  | refine x_blkN ?_  | refine x_blkE ?_  | refine wp_ret ?_  | refine wp_skip ?_  | refine wp_block ?_  | refine wp_exit ?_  | refine c_condT st rfl ?_  | refine c_condF st rfl ?_  | ((first | refine o_move st rfl rfl ?_  | refine o_assign st rfl rfl ?_  | refine o_pickF st rfl rfl rfl ?_); clear st; intro _ st)  | (refine o_alloc st rfl ?_; clear st; intro _ _ _ st)  | ((first | refine o_fieldAddr st rfl rfl ?_  | refine o_loadS st rfl (by repeat constructor) rfl rfl ?_  | refine o_load3 st rfl (by repeat constructor) rfl ?_ ); clear st; intro _ st)  | ((first | refine o_storeW st rfl rfl (by repeat constructor) rfl rfl rfl ?_); clear st; intro _ _ st)  | ((first | refine o_build2 st rfl rfl rfl rfl rfl ?_  | refine o_extract st rfl rfl rfl ?_  | refine o_len st rfl rfl ?_  | refine o_add64 st rfl rfl rfl (by omega) (by omega) ?_  | refine o_notT st rfl rfl ?_ ); clear st; intro _ st)  | (refine o_fop rfl st rfl rfl (by first | assumption | exact Is_ofInt _ _ | exact Is_lit (by decide +kernel)) (by first | assumption | exact Is_ofInt _ _ | exact Is_lit (by decide +kernel)) rfl ?_; clear st; intro _ _ _ _ st)  | ((first | refine o_intFloat st rfl rfl ?_); clear st; intro _ st)  | ((first | refine o_lss st rfl rfl rfl ?_ ?_  | refine o_geq st rfl rfl rfl ?_ ?_  | refine o_neqI st rfl rfl rfl ?_ ?_) <;> clear st <;> intro _ _ st <;> (try (exfalso; omega))) ))
    exact ⟨us.length - (q + 1), by omega, q + 1, by omega, rfl, (st.fit (by repeat (first | exact trivial  | refine And.intro rfl ?_))).subL (by repeat (first | exact List.Sublist.refl _  | apply List.Sublist.cons_cons  | apply List.Sublist.cons  | exact List.nil_sublist _))⟩
  have hqe : q = us.length := by omega
  subst hqe
  (repeat' (first | (refine o_callM1 st rfl (R8Spots_ok 1 (by omega) cs hok (by omega) ba cap _ (hr.mono st.below)) rfl ?_; clear st; rintro _ qb _ ⟨qs, qq, qcp, qpad, rfl, rfl, hqc, hQ, hql, hq4⟩ _ _ st)  | refine c_seq ?_  | refine c_region ?_  | refine l_do ?_  | refine l_doG st rfl rfl ?_  | refine l_nil ?_  | refine x_then ?_  | refine x_thenR ?_  | refine x_thenE ?_  | refine x_blkN ?_  | refine x_blkE ?_  | refine wp_ret ?_  | refine wp_skip ?_  | refine wp_block ?_  | refine wp_exit ?_  | refine c_condT st rfl ?_  | refine c_condF st rfl ?_  | ((first | refine o_move st rfl rfl ?_  | refine o_assign st rfl rfl ?_  | refine o_pickF st rfl rfl rfl ?_); clear st; intro _ st)  | (refine o_alloc st rfl ?_; clear st; intro _ _ _ st)  | ((first | refine o_fieldAddr st rfl rfl ?_  | refine o_loadS st rfl (by repeat constructor) rfl rfl ?_  | refine o_load3 st rfl (by repeat constructor) rfl ?_ ); clear st; intro _ st)  | ((first | refine o_storeW st rfl rfl (by repeat constructor) rfl rfl rfl ?_); clear st; intro _ _ st)  | ((first | refine o_build2 st rfl rfl rfl rfl rfl ?_  | refine o_extract st rfl rfl rfl ?_  | refine o_len st rfl rfl ?_  | refine o_add64 st rfl rfl rfl (by omega) (by omega) ?_  | refine o_notT st rfl rfl ?_ ); clear st; intro _ st)  | (refine o_fop rfl st rfl rfl (by first | assumption | exact Is_ofInt _ _ | exact Is_lit (by decide +kernel)) (by first | assumption | exact Is_ofInt _ _ | exact Is_lit (by decide +kernel)) rfl ?_; clear st; intro _ _ _ _ st)  | ((first | refine o_intFloat st rfl rfl ?_); clear st; intro _ st)  | ((first | refine o_lss st rfl rfl rfl ?_ ?_  | refine o_geq st rfl rfl rfl ?_ ?_  | refine o_neqI st rfl rfl rfl ?_ ?_) <;> clear st <;> intro _ _ st <;> (try (exfalso; omega))) ))
  obtain ⟨c, rfl⟩ := list1 (by rw [hQ.len, hql] : qs.length = 1)
  obtain ⟨t0, rfl⟩ := list1 hql
  have hc : IsS c t0 := hQ.get 0 _ _ rfl rfl
  have hQt : isQ t0 := hq4 t0 List.mem_cons_self
  have hB4 := isQ_b hQt
  obtain ⟨b, lf, NR⟩ := nrF hb9 hB4 hfew
  have hnr := fun (w : World) h => implNear_ok ts tt hT (some ⟨tb, 0, none⟩) tcp c t0 hc w h (by have := hT.len; omega)
  rw [NR.eq] at hnr
  have nr0 := NR.i0
  have nr1 := NR.i1
  have hvq := spotsIn0p [c] qpad 0 c rfl
  (repeat' (first | (refine o_indexAddr st rfl rfl (by simp) (by simp) rfl ?_; clear st; intro _ st)  | (refine o_loadSp st rfl (by repeat constructor) hvq rfl ?_; clear st; intro _ st)  | (refine o_callR st rfl (hnr _ (RdS.of (st.heap (by repeat constructor)) (spotsIn0p _ _))) rfl ?_; clear st; rintro _ ⟨fw_, rfl, hfw⟩ _ _ st)  | refine c_seq ?_  | refine c_region ?_  | refine l_do ?_  | refine l_doG st rfl rfl ?_  | refine l_nil ?_  | refine x_then ?_  | refine x_thenR ?_  | refine x_thenE ?_  | refine x_blkN ?_  | refine x_blkE ?_  | refine wp_ret ?_  | refine wp_skip ?_  | refine wp_block ?_  | refine wp_exit ?_  | refine c_condT st rfl ?_  | refine c_condF st rfl ?_  | ((first | refine o_move st rfl rfl ?_  | refine o_assign st rfl rfl ?_  | refine o_pickF st rfl rfl rfl ?_); clear st; intro _ st)  | (refine o_alloc st rfl ?_; clear st; intro _ _ _ st)  | ((first | refine o_fieldAddr st rfl rfl ?_  | refine o_loadS st rfl (by repeat constructor) rfl rfl ?_  | refine o_load3 st rfl (by repeat constructor) rfl ?_ ); clear st; intro _ st)  | ((first | refine o_storeW st rfl rfl (by repeat constructor) rfl rfl rfl ?_); clear st; intro _ _ st)  | ((first | refine o_build2 st rfl rfl rfl rfl rfl ?_  | refine o_extract st rfl rfl rfl ?_  | refine o_len st rfl rfl ?_  | refine o_add64 st rfl rfl rfl (by omega) (by omega) ?_  | refine o_notT st rfl rfl ?_ ); clear st; intro _ st)  | (refine o_fop rfl st rfl rfl (by first | assumption | exact Is_ofInt _ _ | exact Is_lit (by decide +kernel)) (by first | assumption | exact Is_ofInt _ _ | exact Is_lit (by decide +kernel)) rfl ?_; clear st; intro _ _ _ _ st)  | ((first | refine o_intFloat st rfl rfl ?_); clear st; intro _ st)  | ((first | refine o_lss st rfl rfl rfl ?_ ?_  | refine o_geq st rfl rfl rfl ?_ ?_  | refine o_neqI st rfl rfl rfl ?_ ?_) <;> clear st <;> intro _ _ st <;> (try (exfalso; omega))) ))
  have hfw : Is .f32 fw_ lf := hfw
  obtain ⟨ff_, ef, if_, ffin, vf⟩ := widen_word hfw NR.fin (ab126 ⟨NR.le, by have := NR.ge; grind⟩ (by decide +kernel))
  obtain ⟨x2, ex2, ix2, fx2, vx2⟩ := widen_word hc.x (hB4 0).fin (ab126 (hB4 0).ab (by decide +kernel))
  obtain ⟨y2, ey2, iy2, fy2, vy2⟩ := widen_word hc.y (hB4 1).fin (ab126 (hB4 1).ab (by decide +kernel))
  obtain ⟨z2, ez2, iz2, fz2, vz2⟩ := widen_word hc.z (hB4 2).fin (ab126 (hB4 2).ab (by decide +kernel))
  replace st := St.fit (E' := [(0, .slice ba cs.length cap), (20, .slice (some ⟨tb, 0, none⟩) ts.length tcp), (30, .slice (some ⟨qb, 0, none⟩) [c].length qcp), (32, .float .f32 fw_), (34, .int .i64 ((0 : Nat) : Int))]) st (by repeat (first | exact trivial  | refine And.intro rfl ?_))
  replace st := st.subL (L' := [⟨qb, true, oS [c] qpad⟩, ⟨tb, true, oS ts tpad⟩]) (by repeat (first | exact List.Sublist.refl _  | apply List.Sublist.cons_cons  | apply List.Sublist.cons  | exact List.nil_sublist _))
  refine wp_loop_ghost (fun z a w' => ∃ q : Nat, q ≤ ts.length ∧ z = ts.length - q ∧ St w Try.f28.ntmps a w' [(0, .slice ba cs.length cap), (20, .slice (some ⟨tb, 0, none⟩) ts.length tcp), (30, .slice (some ⟨qb, 0, none⟩) [c].length qcp), (32, .float .f32 fw_), (34, .int .i64 (q : Int))] [⟨qb, true, oS [c] qpad⟩, ⟨tb, true, oS ts tpad⟩]) ts.length ⟨0, by omega, by omega, st⟩ ?_
  clear st
  rintro z a w' ⟨q, hq, rfl, st⟩
  by_cases hlt : q < ts.length
  · have hvT := spotsIn0p ts tpad q ts[q] (List.getElem?_eq_getElem hlt)
    have iT := hT.getDA hlt
    have hme : tt.getD q z3 ∈ tt := getD_mem (by omega)
    have hm9 := hb9 _ hme
    obtain ⟨x1, ex1, ix1, fx1, vx1⟩ := widen_word iT.x (hm9 0).fin (ab126 (hm9 0).ab (by decide +kernel))
    obtain ⟨y1, ey1, iy1, fy1, vy1⟩ := widen_word iT.y (hm9 1).fin (ab126 (hm9 1).ab (by decide +kernel))
    obtain ⟨z1, ez1, iz1, fz1, vz1⟩ := widen_word iT.z (hm9 2).fin (ab126 (hm9 2).ab (by decide +kernel))
    (repeat' (first | refine c_seq ?_  | refine c_region ?_  | refine l_do ?_  | refine l_doG st rfl rfl ?_  | refine l_nil ?_  | refine x_then ?_  | refine x_thenR ?_  | refine x_thenE ?_  | refine x_blkN ?_  | refine x_blkE ?_  | refine wp_ret ?_  | refine wp_skip ?_  | refine wp_block ?_  | refine wp_exit ?_  | refine c_condT st rfl ?_  | refine c_condF st rfl ?_  | ((first | refine o_move st rfl rfl ?_  | refine o_assign st rfl rfl ?_  | refine o_pickF st rfl rfl rfl ?_); clear st; intro _ st)  | (refine o_alloc st rfl ?_; clear st; intro _ _ _ st)  | ((first | refine o_fieldAddr st rfl rfl ?_  | refine o_loadS st rfl (by repeat constructor) rfl rfl ?_  | refine o_load3 st rfl (by repeat constructor) rfl ?_ ); clear st; intro _ st)  | ((first | refine o_storeW st rfl rfl (by repeat constructor) rfl rfl rfl ?_); clear st; intro _ _ st)  | ((first | refine o_build2 st rfl rfl rfl rfl rfl ?_  | refine o_extract st rfl rfl rfl ?_  | refine o_len st rfl rfl ?_  | refine o_add64 st rfl rfl rfl (by omega) (by omega) ?_  | refine o_notT st rfl rfl ?_ ); clear st; intro _ st)  | (refine o_fop rfl st rfl rfl (by first | assumption | exact Is_ofInt _ _ | exact Is_lit (by decide +kernel)) (by first | assumption | exact Is_ofInt _ _ | exact Is_lit (by decide +kernel)) rfl ?_; clear st; intro _ _ _ _ st)  | ((first | refine o_intFloat st rfl rfl ?_); clear st; intro _ st)  | ((first | refine o_lss st rfl rfl rfl ?_ ?_  | refine o_geq st rfl rfl rfl ?_ ?_  | refine o_neqI st rfl rfl rfl ?_ ?_) <;> clear st <;> intro _ _ st <;> (try (exfalso; omega))) ))
    refine c_drawA (last := 12) hm_ (by decide +kernel) (by decide +kernel) st ?_; clear st; intro _ st
    refine d_v 0 st (by repeat constructor) rfl (by decide +kernel) rfl (v_move st rfl) ?_; clear st; intro _ st
    refine d_v 1 st (by repeat constructor) rfl (by decide +kernel) rfl (v_move st rfl) ?_; clear st; intro _ st
    refine d_v 2 st (by repeat constructor) rfl (by decide +kernel) rfl (v_indexAddr st rfl rfl (by omega) (by omega)) ?_; clear st; intro _ st
    refine d_v 3 st (by repeat constructor) rfl (by decide +kernel) rfl (v_fieldAddr st rfl) ?_; clear st; intro _ st
    refine d_v 4 st (by repeat constructor) rfl (by decide +kernel) rfl (v_loadS st rfl (by repeat constructor) hvT.1) ?_; clear st; intro _ st
    refine d_v 5 st (by repeat constructor) rfl (by decide +kernel) rfl (v_fcvK st rfl ex1) ?_; clear st; intro _ st
    refine d_v 6 st (by repeat constructor) rfl (by decide +kernel) rfl (v_move st rfl) ?_; clear st; intro _ st
    refine d_v 7 st (by repeat constructor) rfl (by decide +kernel) rfl (v_indexAddr st rfl rfl (by simp) (by simp)) ?_; clear st; intro _ st
    refine d_v 8 st (by repeat constructor) rfl (by decide +kernel) rfl (v_fieldAddr st rfl) ?_; clear st; intro _ st
    refine d_v 9 st (by repeat constructor) rfl (by decide +kernel) rfl (v_loadS st rfl (by repeat constructor) hvq.1) ?_; clear st; intro _ st
    refine d_v 10 st (by repeat constructor) rfl (by decide +kernel) rfl (v_fcvK st rfl ex2) ?_; clear st; intro _ st
    refine d_one 11 (by decide +kernel) rfl ?_
    refine o_fop (ci := some x1) (cj := some x2) rfl st rfl rfl ix1 ix2 rfl ?_; clear st; intro dx _ _ hdx st
    refine kh st (by repeat constructor) ?_
    refine d_one 12 (by decide +kernel) rfl ?_
    (first | (refine o_assign st rfl rfl ?_; clear st; intro _ st))
    refine k_last ?_
    refine d_done (by decide +kernel) ?_
    (repeat' (first | refine c_seq ?_  | refine c_region ?_  | refine l_do ?_  | refine l_doG st rfl rfl ?_  | refine l_nil ?_  | refine x_then ?_  | refine x_thenR ?_  | refine x_thenE ?_  | refine x_blkN ?_  | refine x_blkE ?_  | refine wp_ret ?_  | refine wp_skip ?_  | refine wp_block ?_  | refine wp_exit ?_  | refine c_condT st rfl ?_  | refine c_condF st rfl ?_  | ((first | refine o_move st rfl rfl ?_  | refine o_assign st rfl rfl ?_  | refine o_pickF st rfl rfl rfl ?_); clear st; intro _ st)  | (refine o_alloc st rfl ?_; clear st; intro _ _ _ st)  | ((first | refine o_fieldAddr st rfl rfl ?_  | refine o_loadS st rfl (by repeat constructor) rfl rfl ?_  | refine o_load3 st rfl (by repeat constructor) rfl ?_ ); clear st; intro _ st)  | ((first | refine o_storeW st rfl rfl (by repeat constructor) rfl rfl rfl ?_); clear st; intro _ _ st)  | ((first | refine o_build2 st rfl rfl rfl rfl rfl ?_  | refine o_extract st rfl rfl rfl ?_  | refine o_len st rfl rfl ?_  | refine o_add64 st rfl rfl rfl (by omega) (by omega) ?_  | refine o_notT st rfl rfl ?_ ); clear st; intro _ st)  | (refine o_fop rfl st rfl rfl (by first | assumption | exact Is_ofInt _ _ | exact Is_lit (by decide +kernel)) (by first | assumption | exact Is_ofInt _ _ | exact Is_lit (by decide +kernel)) rfl ?_; clear st; intro _ _ _ _ st)  | ((first | refine o_intFloat st rfl rfl ?_); clear st; intro _ st)  | ((first | refine o_lss st rfl rfl rfl ?_ ?_  | refine o_geq st rfl rfl rfl ?_ ?_  | refine o_neqI st rfl rfl rfl ?_ ?_) <;> clear st <;> intro _ _ st <;> (try (exfalso; omega))) ))
    refine c_drawA (last := 12) hm_ (by decide +kernel) (by decide +kernel) st ?_; clear st; intro _ st
    refine d_v 0 st (by repeat constructor) rfl (by decide +kernel) rfl (v_move st rfl) ?_; clear st; intro _ st
    refine d_v 1 st (by repeat constructor) rfl (by decide +kernel) rfl (v_move st rfl) ?_; clear st; intro _ st
    refine d_v 2 st (by repeat constructor) rfl (by decide +kernel) rfl (v_indexAddr st rfl rfl (by omega) (by omega)) ?_; clear st; intro _ st
    refine d_v 3 st (by repeat constructor) rfl (by decide +kernel) rfl (v_fieldAddr st rfl) ?_; clear st; intro _ st
    refine d_v 4 st (by repeat constructor) rfl (by decide +kernel) rfl (v_loadS st rfl (by repeat constructor) hvT.2.1) ?_; clear st; intro _ st
    refine d_v 5 st (by repeat constructor) rfl (by decide +kernel) rfl (v_fcvK st rfl ey1) ?_; clear st; intro _ st
    refine d_v 6 st (by repeat constructor) rfl (by decide +kernel) rfl (v_move st rfl) ?_; clear st; intro _ st
    refine d_v 7 st (by repeat constructor) rfl (by decide +kernel) rfl (v_indexAddr st rfl rfl (by simp) (by simp)) ?_; clear st; intro _ st
    refine d_v 8 st (by repeat constructor) rfl (by decide +kernel) rfl (v_fieldAddr st rfl) ?_; clear st; intro _ st
    refine d_v 9 st (by repeat constructor) rfl (by decide +kernel) rfl (v_loadS st rfl (by repeat constructor) hvq.2.1) ?_; clear st; intro _ st
    refine d_v 10 st (by repeat constructor) rfl (by decide +kernel) rfl (v_fcvK st rfl ey2) ?_; clear st; intro _ st
    refine d_one 11 (by decide +kernel) rfl ?_
    refine o_fop (ci := some y1) (cj := some y2) rfl st rfl rfl iy1 iy2 rfl ?_; clear st; intro dy _ _ hdy st
    refine kh st (by repeat constructor) ?_
    refine d_one 12 (by decide +kernel) rfl ?_
    (first | (refine o_assign st rfl rfl ?_; clear st; intro _ st))
    refine k_last ?_
    refine d_done (by decide +kernel) ?_
    (repeat' (first | refine c_seq ?_  | refine c_region ?_  | refine l_do ?_  | refine l_doG st rfl rfl ?_  | refine l_nil ?_  | refine x_then ?_  | refine x_thenR ?_  | refine x_thenE ?_  | refine x_blkN ?_  | refine x_blkE ?_  | refine wp_ret ?_  | refine wp_skip ?_  | refine wp_block ?_  | refine wp_exit ?_  | refine c_condT st rfl ?_  | refine c_condF st rfl ?_  | ((first | refine o_move st rfl rfl ?_  | refine o_assign st rfl rfl ?_  | refine o_pickF st rfl rfl rfl ?_); clear st; intro _ st)  | (refine o_alloc st rfl ?_; clear st; intro _ _ _ st)  | ((first | refine o_fieldAddr st rfl rfl ?_  | refine o_loadS st rfl (by repeat constructor) rfl rfl ?_  | refine o_load3 st rfl (by repeat constructor) rfl ?_ ); clear st; intro _ st)  | ((first | refine o_storeW st rfl rfl (by repeat constructor) rfl rfl rfl ?_); clear st; intro _ _ st)  | ((first | refine o_build2 st rfl rfl rfl rfl rfl ?_  | refine o_extract st rfl rfl rfl ?_  | refine o_len st rfl rfl ?_  | refine o_add64 st rfl rfl rfl (by omega) (by omega) ?_  | refine o_notT st rfl rfl ?_ ); clear st; intro _ st)  | (refine o_fop rfl st rfl rfl (by first | assumption | exact Is_ofInt _ _ | exact Is_lit (by decide +kernel)) (by first | assumption | exact Is_ofInt _ _ | exact Is_lit (by decide +kernel)) rfl ?_; clear st; intro _ _ _ _ st)  | ((first | refine o_intFloat st rfl rfl ?_); clear st; intro _ st)  | ((first | refine o_lss st rfl rfl rfl ?_ ?_  | refine o_geq st rfl rfl rfl ?_ ?_  | refine o_neqI st rfl rfl rfl ?_ ?_) <;> clear st <;> intro _ _ st <;> (try (exfalso; omega))) ))
    refine c_drawA (last := 12) hm_ (by decide +kernel) (by decide +kernel) st ?_; clear st; intro _ st
    refine d_v 0 st (by repeat constructor) rfl (by decide +kernel) rfl (v_move st rfl) ?_; clear st; intro _ st
    refine d_v 1 st (by repeat constructor) rfl (by decide +kernel) rfl (v_move st rfl) ?_; clear st; intro _ st
    refine d_v 2 st (by repeat constructor) rfl (by decide +kernel) rfl (v_indexAddr st rfl rfl (by omega) (by omega)) ?_; clear st; intro _ st
    refine d_v 3 st (by repeat constructor) rfl (by decide +kernel) rfl (v_fieldAddr st rfl) ?_; clear st; intro _ st
    refine d_v 4 st (by repeat constructor) rfl (by decide +kernel) rfl (v_loadS st rfl (by repeat constructor) hvT.2.2) ?_; clear st; intro _ st
    refine d_v 5 st (by repeat constructor) rfl (by decide +kernel) rfl (v_fcvK st rfl ez1) ?_; clear st; intro _ st
    refine d_v 6 st (by repeat constructor) rfl (by decide +kernel) rfl (v_move st rfl) ?_; clear st; intro _ st
    refine d_v 7 st (by repeat constructor) rfl (by decide +kernel) rfl (v_indexAddr st rfl rfl (by simp) (by simp)) ?_; clear st; intro _ st
    refine d_v 8 st (by repeat constructor) rfl (by decide +kernel) rfl (v_fieldAddr st rfl) ?_; clear st; intro _ st
    refine d_v 9 st (by repeat constructor) rfl (by decide +kernel) rfl (v_loadS st rfl (by repeat constructor) hvq.2.2) ?_; clear st; intro _ st
    refine d_v 10 st (by repeat constructor) rfl (by decide +kernel) rfl (v_fcvK st rfl ez2) ?_; clear st; intro _ st
    refine d_one 11 (by decide +kernel) rfl ?_
    refine o_fop (ci := some z1) (cj := some z2) rfl st rfl rfl iz1 iz2 rfl ?_; clear st; intro dz _ _ hdz st
    refine kh st (by repeat constructor) ?_
    refine d_one 12 (by decide +kernel) rfl ?_
    (first | (refine o_assign st rfl rfl ?_; clear st; intro _ st))
    refine k_last ?_
    refine d_done (by decide +kernel) ?_
    (repeat' (first | (refine o_fcvK st rfl ef rfl ?_; clear st; intro _ st)  | (refine o_fop (cj := some 4562254508917369340) rfl st rfl rfl if_ (Is_lit (by decide +kernel)) rfl ?_; clear st; intro rr _ _ hrr st)  | (refine o_maxF2 st rfl rfl zero64.fin (small64 NR.ge NR.le ffin vf hrr rfl).2.1 rfl ?_; clear st; intro mm _ hmm st)  | (refine o_fop rfl st rfl rfl hdx hdx rfl ?_; clear st; intro sx _ _ hsx st)  | (refine o_fop rfl st rfl rfl hdy hdy rfl ?_; clear st; intro sy _ _ hsy st)  | (refine o_fop rfl st rfl rfl hsx hsy rfl ?_; clear st; intro sxy _ _ hsxy st)  | (refine o_fop rfl st rfl rfl hdz hdz rfl ?_; clear st; intro sz _ _ hsz st)  | (refine o_fop rfl st rfl rfl hsxy hsz rfl ?_; clear st; intro sA _ _ hsA st)  | (refine o_fop rfl st rfl rfl (mx_is zero_is (small64 NR.ge NR.le ffin vf hrr rfl).1 hmm) (mx_is zero_is (small64 NR.ge NR.le ffin vf hrr rfl).1 hmm) rfl ?_; clear st; intro mq _ _ hmq st)  | (refine o_flssK st rfl rfl hsA hmq (near_ge hm9 hB4 fx1 vx1 fx2 vx2 fy1 vy1 fy2 vy2 fz1 vz1 fz2 vz2 NR.le (NR.low _ hme) (small64 NR.ge NR.le ffin vf hrr rfl).2.1 (small64 NR.ge NR.le ffin vf hrr rfl).2.2 hmm) rfl ?_; clear st; intro _ st)  | refine c_seq ?_  | refine c_region ?_  | refine l_do ?_  | refine l_doG st rfl rfl ?_  | refine l_nil ?_  | refine x_then ?_  | refine x_thenR ?_  | refine x_thenE ?_  | refine x_blkN ?_  | refine x_blkE ?_  | refine wp_ret ?_  | refine wp_skip ?_  | refine wp_block ?_  | refine wp_exit ?_  | refine c_condT st rfl ?_  | refine c_condF st rfl ?_  | ((first | refine o_move st rfl rfl ?_  | refine o_assign st rfl rfl ?_  | refine o_pickF st rfl rfl rfl ?_); clear st; intro _ st)  | (refine o_alloc st rfl ?_; clear st; intro _ _ _ st)  | ((first | refine o_fieldAddr st rfl rfl ?_  | refine o_loadS st rfl (by repeat constructor) rfl rfl ?_  | refine o_load3 st rfl (by repeat constructor) rfl ?_ ); clear st; intro _ st)  | ((first | refine o_storeW st rfl rfl (by repeat constructor) rfl rfl rfl ?_); clear st; intro _ _ st)  | ((first | refine o_build2 st rfl rfl rfl rfl rfl ?_  | refine o_extract st rfl rfl rfl ?_  | refine o_len st rfl rfl ?_  | refine o_add64 st rfl rfl rfl (by omega) (by omega) ?_  | refine o_notT st rfl rfl ?_ ); clear st; intro _ st)  | (refine o_fop rfl st rfl rfl (by first | assumption | exact Is_ofInt _ _ | exact Is_lit (by decide +kernel)) (by first | assumption | exact Is_ofInt _ _ | exact Is_lit (by decide +kernel)) rfl ?_; clear st; intro _ _ _ _ st)  | ((first | refine o_intFloat st rfl rfl ?_); clear st; intro _ st)  | ((first | refine o_lss st rfl rfl rfl ?_ ?_  | refine o_geq st rfl rfl rfl ?_ ?_  | refine o_neqI st rfl rfl rfl ?_ ?_) <;> clear st <;> intro _ _ st <;> (try (exfalso; omega))) ))
    exact ⟨ts.length - (q + 1), by omega, q + 1, by omega, rfl, (st.fit (by repeat (first | exact trivial  | refine And.intro rfl ?_))).subL (by repeat (first | exact List.Sublist.refl _  | apply List.Sublist.cons_cons  | apply List.Sublist.cons  | exact List.nil_sublist _))⟩
  have hqe : q = ts.length := by omega
  subst hqe
  (repeat' (first | (refine o_callM1 st rfl (R8Spots_ok 4 (by omega) cs hok (by omega) ba cap _ (hr.mono st.below)) rfl ?_; clear st; rintro _ pb _ ⟨ps, pp, pcp, ppad, rfl, rfl, hpc, hP, hpl, hp4⟩ _ _ st)  | refine c_seq ?_  | refine c_region ?_  | refine l_do ?_  | refine l_doG st rfl rfl ?_  | refine l_nil ?_  | refine x_then ?_  | refine x_thenR ?_  | refine x_thenE ?_  | refine x_blkN ?_  | refine x_blkE ?_  | refine wp_ret ?_  | refine wp_skip ?_  | refine wp_block ?_  | refine wp_exit ?_  | refine c_condT st rfl ?_  | refine c_condF st rfl ?_  | ((first | refine o_move st rfl rfl ?_  | refine o_assign st rfl rfl ?_  | refine o_pickF st rfl rfl rfl ?_); clear st; intro _ st)  | (refine o_alloc st rfl ?_; clear st; intro _ _ _ st)  | ((first | refine o_fieldAddr st rfl rfl ?_  | refine o_loadS st rfl (by repeat constructor) rfl rfl ?_  | refine o_load3 st rfl (by repeat constructor) rfl ?_ ); clear st; intro _ st)  | ((first | refine o_storeW st rfl rfl (by repeat constructor) rfl rfl rfl ?_); clear st; intro _ _ st)  | ((first | refine o_build2 st rfl rfl rfl rfl rfl ?_  | refine o_extract st rfl rfl rfl ?_  | refine o_len st rfl rfl ?_  | refine o_add64 st rfl rfl rfl (by omega) (by omega) ?_  | refine o_notT st rfl rfl ?_ ); clear st; intro _ st)  | (refine o_fop rfl st rfl rfl (by first | assumption | exact Is_ofInt _ _ | exact Is_lit (by decide +kernel)) (by first | assumption | exact Is_ofInt _ _ | exact Is_lit (by decide +kernel)) rfl ?_; clear st; intro _ _ _ _ st)  | ((first | refine o_intFloat st rfl rfl ?_); clear st; intro _ st)  | ((first | refine o_lss st rfl rfl rfl ?_ ?_  | refine o_geq st rfl rfl rfl ?_ ?_  | refine o_neqI st rfl rfl rfl ?_ ?_) <;> clear st <;> intro _ _ st <;> (try (exfalso; omega))) ))
  obtain ⟨c0, c1, c2, c3, rfl⟩ := list4 (by rw [hP.len, hpl] : ps.length = 4)
  obtain ⟨s0, s1, s2, s3, rfl⟩ := list4 hpl
  have h0 : IsS c0 s0 := hP.get 0 _ _ rfl rfl
  have h1 : IsS c1 s1 := hP.get 1 _ _ rfl rfl
  have h2 : IsS c2 s2 := hP.get 2 _ _ rfl rfl
  have h3 : IsS c3 s3 := hP.get 3 _ _ rfl rfl
  have q0 : isQ s0 := hp4 s0 (by simp)
  have q1 : isQ s1 := hp4 s1 (by simp)
  have q2 : isQ s2 := hp4 s2 (by simp)
  have q3 : isQ s3 := hp4 s3 (by simp)
  have hv0 := spotsIn0p [c0, c1, c2, c3] ppad 0 c0 rfl
  have hv1 := spotsIn0p [c0, c1, c2, c3] ppad 1 c1 rfl
  have hv2 := spotsIn0p [c0, c1, c2, c3] ppad 2 c2 rfl
  have hv3 := spotsIn0p [c0, c1, c2, c3] ppad 3 c3 rfl
  have CR_ := crF q0 q1
  have CO := coF q0 q1 q2 q3
  have hcr := fun w => implCross_ok c0 c1 s0 s1 h0 h1 w
  rw [CR_.eq, CR_.ok] at hcr
  replace st := St.fit (E' := [(39, .slice (some ⟨pb, 0, none⟩) [c0, c1, c2, c3].length pcp)]) st (by repeat (first | exact trivial  | refine And.intro rfl ?_))
  replace st := st.subL (L' := [⟨pb, true, oS [c0, c1, c2, c3] ppad⟩]) (by repeat (first | exact List.Sublist.refl _  | apply List.Sublist.cons_cons  | apply List.Sublist.cons  | exact List.nil_sublist _))
  refine c_drawCA (F := (fun E L a' w' => ∃ (p0 : Nat) (cx : B3), IsS cx (crossC s0 s1) ∧ St w Try.f28.ntmps a' w' ((40, .pointer (some ⟨p0, 0, none⟩)) :: (41, .bool true) :: E) (⟨p0, true, oB cx 26⟩ :: L))) (last := 12) hm_ (by decide +kernel) (by decide +kernel) st ?_ ?_
  · clear st; intro _ st
    refine d_v 0 st (by repeat constructor) rfl (by decide +kernel) rfl (v_move st rfl) ?_; clear st; intro _ st
    refine d_v 1 st (by repeat constructor) rfl (by decide +kernel) rfl (v_indexAddr st rfl rfl (by simp) (by simp)) ?_; clear st; intro _ st
    refine d_v 2 st (by repeat constructor) rfl (by decide +kernel) rfl (v_loadSp st rfl (by repeat constructor) hv0) ?_; clear st; intro _ st
    refine d_v 3 st (by repeat constructor) rfl (by decide +kernel) rfl (v_move st rfl) ?_; clear st; intro _ st
    refine d_v 4 st (by repeat constructor) rfl (by decide +kernel) rfl (v_indexAddr st rfl rfl (by simp) (by simp)) ?_; clear st; intro _ st
    refine d_v 5 st (by repeat constructor) rfl (by decide +kernel) rfl (v_loadSp st rfl (by repeat constructor) hv1) ?_; clear st; intro _ st
    refine d_two 6 10 (by decide +kernel) rfl rfl ?_ ?_
    · skip
      refine o_callSBb st rfl (hcr _) rfl ?_; clear st; intro cx hcx _ _ st
      refine kh st (by repeat constructor) ?_
      refine d_v 7 st (by repeat constructor) rfl (by decide +kernel) rfl (v_move st rfl) ?_; clear st; intro _ st
      refine d_v 8 st (by repeat constructor) rfl (by decide +kernel) rfl (v_extract st rfl rfl) ?_; clear st; intro _ st
      refine d_v 9 st (by repeat constructor) rfl (by decide +kernel) rfl (v_extract st rfl rfl) ?_; clear st; intro _ st
      refine d_one 10 (by decide +kernel) rfl ?_
      refine o_alloc st rfl ?_; clear st; intro _ _ _ st
      refine kh st (by repeat constructor) ?_
      refine d_one 11 (by decide +kernel) rfl ?_
      (first | ((first | refine o_storeW st rfl rfl (by repeat constructor) rfl rfl rfl ?_); clear st; intro _ _ st))
      refine kh st (by repeat constructor) ?_
      refine d_one 12 (by decide +kernel) rfl ?_
      (first | (refine o_assign st rfl rfl ?_; clear st; intro _ st))
      refine k_last ?_
      refine d_done (by decide +kernel) ?_
      refine ⟨rfl, ?_⟩
      have st := St.fore 40 st rfl (by repeat constructor)
      exact ⟨_, _, hcx, (st.fit (by repeat (first | exact trivial  | refine And.intro rfl ?_))).subL (by repeat (first | exact List.Sublist.refl _  | apply List.Sublist.cons_cons  | apply List.Sublist.cons  | exact List.nil_sublist _))⟩
    · skip
      refine o_alloc st rfl ?_; clear st; intro _ _ _ st
      refine kh st (by repeat constructor) ?_
      refine d_one 6 (by decide +kernel) rfl ?_
      refine o_callSBb st rfl (hcr _) rfl ?_; clear st; intro cx hcx _ _ st
      refine kh st (by repeat constructor) ?_
      refine d_v 7 st (by repeat constructor) rfl (by decide +kernel) rfl (v_move st rfl) ?_; clear st; intro _ st
      refine d_v 8 st (by repeat constructor) rfl (by decide +kernel) rfl (v_extract st rfl rfl) ?_; clear st; intro _ st
      refine d_v 9 st (by repeat constructor) rfl (by decide +kernel) rfl (v_extract st rfl rfl) ?_; clear st; intro _ st
      refine d_one 11 (by decide +kernel) rfl ?_
      (first | ((first | refine o_storeW st rfl rfl (by repeat constructor) rfl rfl rfl ?_); clear st; intro _ _ st))
      refine kh st (by repeat constructor) ?_
      refine d_one 12 (by decide +kernel) rfl ?_
      (first | (refine o_assign st rfl rfl ?_; clear st; intro _ st))
      refine k_last ?_
      refine d_done (by decide +kernel) ?_
      refine ⟨rfl, ?_⟩
      have st := St.fore 40 st rfl (by repeat constructor)
      exact ⟨_, _, hcx, (st.fit (by repeat (first | exact trivial  | refine And.intro rfl ?_))).subL (by repeat (first | exact List.Sublist.refl _  | apply List.Sublist.cons_cons  | apply List.Sublist.cons  | exact List.nil_sublist _))⟩
  clear st
  rintro _ _ ⟨p40, cx, hcx, st⟩
  have hlg := fun w => implLong_ok cx _ hcx w
  rw [CR_.lok] at hlg
  (repeat' (first | (refine o_callFlB st rfl (hlg _) rfl ?_; clear st; intro lg hlgI _ _ st)  | refine c_seq ?_  | refine c_region ?_  | refine l_do ?_  | refine l_doG st rfl rfl ?_  | refine l_nil ?_  | refine x_then ?_  | refine x_thenR ?_  | refine x_thenE ?_  | refine x_blkN ?_  | refine x_blkE ?_  | refine wp_ret ?_  | refine wp_skip ?_  | refine wp_block ?_  | refine wp_exit ?_  | refine c_condT st rfl ?_  | refine c_condF st rfl ?_  | ((first | refine o_move st rfl rfl ?_  | refine o_assign st rfl rfl ?_  | refine o_pickF st rfl rfl rfl ?_); clear st; intro _ st)  | (refine o_alloc st rfl ?_; clear st; intro _ _ _ st)  | ((first | refine o_fieldAddr st rfl rfl ?_  | refine o_loadS st rfl (by repeat constructor) rfl rfl ?_  | refine o_load3 st rfl (by repeat constructor) rfl ?_ ); clear st; intro _ st)  | ((first | refine o_storeW st rfl rfl (by repeat constructor) rfl rfl rfl ?_); clear st; intro _ _ st)  | ((first | refine o_build2 st rfl rfl rfl rfl rfl ?_  | refine o_extract st rfl rfl rfl ?_  | refine o_len st rfl rfl ?_  | refine o_add64 st rfl rfl rfl (by omega) (by omega) ?_  | refine o_notT st rfl rfl ?_ ); clear st; intro _ st)  | (refine o_fop rfl st rfl rfl (by first | assumption | exact Is_ofInt _ _ | exact Is_lit (by decide +kernel)) (by first | assumption | exact Is_ofInt _ _ | exact Is_lit (by decide +kernel)) rfl ?_; clear st; intro _ _ _ _ st)  | ((first | refine o_intFloat st rfl rfl ?_); clear st; intro _ st)  | ((first | refine o_lss st rfl rfl rfl ?_ ?_  | refine o_geq st rfl rfl rfl ?_ ?_  | refine o_neqI st rfl rfl rfl ?_ ?_) <;> clear st <;> intro _ _ st <;> (try (exfalso; omega))) ))
  have lge : fgeB .f32 (longC (crossC s0 s1)) (some 0) = true := by
    rw [fge_iff CR_.lf zero_ex.fin, cv_zero]
    exact decide_eq_true CR_.l0
  have b4 := isQ_b q0
  obtain ⟨X, eX, iX, fX, vX⟩ := widen_word hcx.x (CR_.bd 0).fin (ab126 (CR_.bd 0).ab (by decide +kernel))
  obtain ⟨Y, eY, iY, fY, vY⟩ := widen_word hcx.y (CR_.bd 1).fin (ab126 (CR_.bd 1).ab (by decide +kernel))
  obtain ⟨Z, eZ, iZ, fZ, vZ⟩ := widen_word hcx.z (CR_.bd 2).fin (ab126 (CR_.bd 2).ab (by decide +kernel))
  obtain ⟨x, ex, ix, fx, vx⟩ := widen_word h0.x (b4 0).fin (ab126 (b4 0).ab (by decide +kernel))
  obtain ⟨y, ey, iy, fy, vy⟩ := widen_word h0.y (b4 1).fin (ab126 (b4 1).ab (by decide +kernel))
  obtain ⟨z, ez, iz, fz, vz⟩ := widen_word h0.z (b4 2).fin (ab126 (b4 2).ab (by decide +kernel))
  obtain ⟨m1, m2, m3, d1, d2, k1, k2, k3, k4, k5, iD, fD, vD⟩ := dotW q0 q1 fX vX fY vY fZ vZ fx vx fy vy fz vz
  have cc0 : ∀ b : B3, (cB b).toArray[0 + 0]? = some (.float .f32 b.1) := fun _ => rfl
  have cc1 : ∀ b : B3, (cB b).toArray[0 + 1]? = some (.float .f32 b.2.1) := fun _ => rfl
  have cc2 : ∀ b : B3, (cB b).toArray[0 + 2]? = some (.float .f32 b.2.2) := fun _ => rfl
  replace st := St.fit (E' := [(39, .slice (some ⟨pb, 0, none⟩) [c0, c1, c2, c3].length pcp), (40, .pointer (some ⟨p40, 0, none⟩)), (41, .bool true), (42, .float .f32 lg), (43, .bool true)]) st (by repeat (first | exact trivial  | refine And.intro rfl ?_))
  refine c_drawA (last := 29) hm_ (by decide +kernel) (by decide +kernel) st ?_; clear st; intro _ st
  refine d_v 0 st (by repeat constructor) rfl (by decide +kernel) rfl (v_fieldAddr st rfl) ?_; clear st; intro _ st
  refine d_v 1 st (by repeat constructor) rfl (by decide +kernel) rfl (v_loadS st rfl (by repeat constructor) (cc0 cx)) ?_; clear st; intro _ st
  refine d_v 2 st (by repeat constructor) rfl (by decide +kernel) rfl (v_fcvK st rfl eX) ?_; clear st; intro _ st
  refine d_v 3 st (by repeat constructor) rfl (by decide +kernel) rfl (v_move st rfl) ?_; clear st; intro _ st
  refine d_v 4 st (by repeat constructor) rfl (by decide +kernel) rfl (v_indexAddr st rfl rfl (by simp) (by simp)) ?_; clear st; intro _ st
  refine d_v 5 st (by repeat constructor) rfl (by decide +kernel) rfl (v_fieldAddr st rfl) ?_; clear st; intro _ st
  refine d_v 6 st (by repeat constructor) rfl (by decide +kernel) rfl (v_loadS st rfl (by repeat constructor) hv0.1) ?_; clear st; intro _ st
  refine d_v 7 st (by repeat constructor) rfl (by decide +kernel) rfl (v_fcvK st rfl ex) ?_; clear st; intro _ st
  refine d_v 8 st (by repeat constructor) rfl (by decide +kernel) rfl (v_fopK st rfl rfl k1) ?_; clear st; intro _ st
  refine d_v 9 st (by repeat constructor) rfl (by decide +kernel) rfl (v_fieldAddr st rfl) ?_; clear st; intro _ st
  refine d_v 10 st (by repeat constructor) rfl (by decide +kernel) rfl (v_loadS st rfl (by repeat constructor) (cc1 cx)) ?_; clear st; intro _ st
  refine d_v 11 st (by repeat constructor) rfl (by decide +kernel) rfl (v_fcvK st rfl eY) ?_; clear st; intro _ st
  refine d_v 12 st (by repeat constructor) rfl (by decide +kernel) rfl (v_move st rfl) ?_; clear st; intro _ st
  refine d_v 13 st (by repeat constructor) rfl (by decide +kernel) rfl (v_indexAddr st rfl rfl (by simp) (by simp)) ?_; clear st; intro _ st
  refine d_v 14 st (by repeat constructor) rfl (by decide +kernel) rfl (v_fieldAddr st rfl) ?_; clear st; intro _ st
  refine d_v 15 st (by repeat constructor) rfl (by decide +kernel) rfl (v_loadS st rfl (by repeat constructor) hv0.2.1) ?_; clear st; intro _ st
  refine d_v 16 st (by repeat constructor) rfl (by decide +kernel) rfl (v_fcvK st rfl ey) ?_; clear st; intro _ st
  refine d_v 17 st (by repeat constructor) rfl (by decide +kernel) rfl (v_fopK st rfl rfl k2) ?_; clear st; intro _ st
  refine d_v 18 st (by repeat constructor) rfl (by decide +kernel) rfl (v_fopK st rfl rfl k4) ?_; clear st; intro _ st
  refine d_v 19 st (by repeat constructor) rfl (by decide +kernel) rfl (v_fieldAddr st rfl) ?_; clear st; intro _ st
  refine d_v 20 st (by repeat constructor) rfl (by decide +kernel) rfl (v_loadS st rfl (by repeat constructor) (cc2 cx)) ?_; clear st; intro _ st
  refine d_v 21 st (by repeat constructor) rfl (by decide +kernel) rfl (v_fcvK st rfl eZ) ?_; clear st; intro _ st
  refine d_v 22 st (by repeat constructor) rfl (by decide +kernel) rfl (v_move st rfl) ?_; clear st; intro _ st
  refine d_v 23 st (by repeat constructor) rfl (by decide +kernel) rfl (v_indexAddr st rfl rfl (by simp) (by simp)) ?_; clear st; intro _ st
  refine d_v 24 st (by repeat constructor) rfl (by decide +kernel) rfl (v_fieldAddr st rfl) ?_; clear st; intro _ st
  refine d_v 25 st (by repeat constructor) rfl (by decide +kernel) rfl (v_loadS st rfl (by repeat constructor) hv0.2.2) ?_; clear st; intro _ st
  refine d_v 26 st (by repeat constructor) rfl (by decide +kernel) rfl (v_fcvK st rfl ez) ?_; clear st; intro _ st
  refine d_v 27 st (by repeat constructor) rfl (by decide +kernel) rfl (v_fopK st rfl rfl k3) ?_; clear st; intro _ st
  refine d_v 28 st (by repeat constructor) rfl (by decide +kernel) rfl (v_fopK st rfl rfl k5) ?_; clear st; intro _ st
  refine d_one 29 (by decide +kernel) rfl ?_
  (first | (refine o_assign st rfl rfl ?_; clear st; intro _ st))
  refine k_last ?_
  refine d_done (by decide +kernel) ?_
  (repeat' (first | refine c_seq ?_  | refine c_region ?_  | refine l_do ?_  | refine l_doG st rfl rfl ?_  | refine l_nil ?_  | refine x_then ?_  | refine x_thenR ?_  | refine x_thenE ?_  | refine x_blkN ?_  | refine x_blkE ?_  | refine wp_ret ?_  | refine wp_skip ?_  | refine wp_block ?_  | refine wp_exit ?_  | refine c_condT st rfl ?_  | refine c_condF st rfl ?_  | ((first | refine o_move st rfl rfl ?_  | refine o_assign st rfl rfl ?_  | refine o_pickF st rfl rfl rfl ?_); clear st; intro _ st)  | (refine o_alloc st rfl ?_; clear st; intro _ _ _ st)  | ((first | refine o_fieldAddr st rfl rfl ?_  | refine o_loadS st rfl (by repeat constructor) rfl rfl ?_  | refine o_load3 st rfl (by repeat constructor) rfl ?_ ); clear st; intro _ st)  | ((first | refine o_storeW st rfl rfl (by repeat constructor) rfl rfl rfl ?_); clear st; intro _ _ st)  | ((first | refine o_build2 st rfl rfl rfl rfl rfl ?_  | refine o_extract st rfl rfl rfl ?_  | refine o_len st rfl rfl ?_  | refine o_add64 st rfl rfl rfl (by omega) (by omega) ?_  | refine o_notT st rfl rfl ?_ ); clear st; intro _ st)  | (refine o_fop rfl st rfl rfl (by first | assumption | exact Is_ofInt _ _ | exact Is_lit (by decide +kernel)) (by first | assumption | exact Is_ofInt _ _ | exact Is_lit (by decide +kernel)) rfl ?_; clear st; intro _ _ _ _ st)  | ((first | refine o_intFloat st rfl rfl ?_); clear st; intro _ st)  | ((first | refine o_lss st rfl rfl rfl ?_ ?_  | refine o_geq st rfl rfl rfl ?_ ?_  | refine o_neqI st rfl rfl rfl ?_ ?_) <;> clear st <;> intro _ _ st <;> (try (exfalso; omega))) ))
  replace st := St.fit (E' := [(39, .slice (some ⟨pb, 0, none⟩) [c0, c1, c2, c3].length pcp), (41, .bool true), (42, .float .f32 lg), (43, .bool true), (44, .float .f64 d2)]) st (by repeat (first | exact trivial  | refine And.intro rfl ?_))
  replace st := st.subL (L' := [⟨pb, true, oS [c0, c1, c2, c3] ppad⟩]) (by repeat (first | exact List.Sublist.refl _  | apply List.Sublist.cons_cons  | apply List.Sublist.cons  | exact List.nil_sublist _))
  have hcor := fun w => implCorner_ok c0 c1 c2 c3 s0 s1 s2 s3 h0 h1 h2 h3 w
  refine c_drawCA (F := (fun E L a' w' => ∃ (p0 kb : Nat), St w Try.f28.ntmps a' w' ((45, .pointer (some ⟨p0, 0, none⟩)) :: (46, .bool true) :: E) (⟨p0, true, .cells [.int .i64 2, .int .i64 2, .slice (some ⟨kb, 0, none⟩) 4 4].toArray 46 (0, 0)⟩ :: ⟨kb, true, oS [c0, c1, c2, c3] []⟩ :: L))) (last := 18) hm_ (by decide +kernel) (by decide +kernel) st ?_ ?_
  · clear st; intro _ st
    refine d_v 0 st (by repeat constructor) rfl (by decide +kernel) rfl (v_move st rfl) ?_; clear st; intro _ st
    refine d_v 1 st (by repeat constructor) rfl (by decide +kernel) rfl (v_indexAddr st rfl rfl (by simp) (by simp)) ?_; clear st; intro _ st
    refine d_v 2 st (by repeat constructor) rfl (by decide +kernel) rfl (v_loadSp st rfl (by repeat constructor) hv0) ?_; clear st; intro _ st
    refine d_v 3 st (by repeat constructor) rfl (by decide +kernel) rfl (v_move st rfl) ?_; clear st; intro _ st
    refine d_v 4 st (by repeat constructor) rfl (by decide +kernel) rfl (v_indexAddr st rfl rfl (by simp) (by simp)) ?_; clear st; intro _ st
    refine d_v 5 st (by repeat constructor) rfl (by decide +kernel) rfl (v_loadSp st rfl (by repeat constructor) hv1) ?_; clear st; intro _ st
    refine d_v 6 st (by repeat constructor) rfl (by decide +kernel) rfl (v_move st rfl) ?_; clear st; intro _ st
    refine d_v 7 st (by repeat constructor) rfl (by decide +kernel) rfl (v_indexAddr st rfl rfl (by simp) (by simp)) ?_; clear st; intro _ st
    refine d_v 8 st (by repeat constructor) rfl (by decide +kernel) rfl (v_loadSp st rfl (by repeat constructor) hv2) ?_; clear st; intro _ st
    refine d_v 9 st (by repeat constructor) rfl (by decide +kernel) rfl (v_move st rfl) ?_; clear st; intro _ st
    refine d_v 10 st (by repeat constructor) rfl (by decide +kernel) rfl (v_indexAddr st rfl rfl (by simp) (by simp)) ?_; clear st; intro _ st
    refine d_v 11 st (by repeat constructor) rfl (by decide +kernel) rfl (v_loadSp st rfl (by repeat constructor) hv3) ?_; clear st; intro _ st
    refine d_two 12 16 (by decide +kernel) rfl rfl ?_ ?_
    · skip
      refine o_callM1 st rfl (hcor _) rfl ?_; clear st; rintro _ kb _ ⟨hv5, rfl⟩ _ _ st; rw [CO.valid, if_pos rfl] at hv5; subst hv5
      refine kh st (by repeat constructor) ?_
      refine d_v 13 st (by repeat constructor) rfl (by decide +kernel) rfl (v_move st rfl) ?_; clear st; intro _ st
      refine d_v 14 st (by repeat constructor) rfl (by decide +kernel) rfl (v_extract st rfl rfl) ?_; clear st; intro _ st
      refine d_v 15 st (by repeat constructor) rfl (by decide +kernel) rfl (v_extract st rfl rfl) ?_; clear st; intro _ st
      refine d_one 16 (by decide +kernel) rfl ?_
      refine o_alloc st rfl ?_; clear st; intro _ _ _ st
      refine kh st (by repeat constructor) ?_
      refine d_one 17 (by decide +kernel) rfl ?_
      (first | ((first | refine o_storeW st rfl rfl (by repeat constructor) rfl rfl rfl ?_); clear st; intro _ _ st))
      refine kh st (by repeat constructor) ?_
      refine d_one 18 (by decide +kernel) rfl ?_
      (first | (refine o_assign st rfl rfl ?_; clear st; intro _ st))
      refine k_last ?_
      refine d_done (by decide +kernel) ?_
      refine ⟨rfl, ?_⟩
      have st := St.fore 45 st rfl (by repeat constructor)
      exact ⟨_, _, (st.fit (by repeat (first | exact trivial  | refine And.intro rfl ?_))).subL (by repeat (first | exact List.Sublist.refl _  | apply List.Sublist.cons_cons  | apply List.Sublist.cons  | exact List.nil_sublist _))⟩
    · skip
      refine o_alloc st rfl ?_; clear st; intro _ _ _ st
      refine kh st (by repeat constructor) ?_
      refine d_one 12 (by decide +kernel) rfl ?_
      refine o_callM1 st rfl (hcor _) rfl ?_; clear st; rintro _ kb _ ⟨hv5, rfl⟩ _ _ st; rw [CO.valid, if_pos rfl] at hv5; subst hv5
      refine kh st (by repeat constructor) ?_
      refine d_v 13 st (by repeat constructor) rfl (by decide +kernel) rfl (v_move st rfl) ?_; clear st; intro _ st
      refine d_v 14 st (by repeat constructor) rfl (by decide +kernel) rfl (v_extract st rfl rfl) ?_; clear st; intro _ st
      refine d_v 15 st (by repeat constructor) rfl (by decide +kernel) rfl (v_extract st rfl rfl) ?_; clear st; intro _ st
      refine d_one 17 (by decide +kernel) rfl ?_
      (first | ((first | refine o_storeW st rfl rfl (by repeat constructor) rfl rfl rfl ?_); clear st; intro _ _ st))
      refine kh st (by repeat constructor) ?_
      refine d_one 18 (by decide +kernel) rfl ?_
      (first | (refine o_assign st rfl rfl ?_; clear st; intro _ st))
      refine k_last ?_
      refine d_done (by decide +kernel) ?_
      refine ⟨rfl, ?_⟩
      have st := St.fore 45 st rfl (by repeat constructor)
      exact ⟨_, _, (st.fit (by repeat (first | exact trivial  | refine And.intro rfl ?_))).subL (by repeat (first | exact List.Sublist.refl _  | apply List.Sublist.cons_cons  | apply List.Sublist.cons  | exact List.nil_sublist _))⟩
  clear st
  rintro _ _ ⟨p45, kb, st⟩
  (repeat' (first | refine c_seq ?_  | refine c_region ?_  | refine l_do ?_  | refine l_doG st rfl rfl ?_  | refine l_nil ?_  | refine x_then ?_  | refine x_thenR ?_  | refine x_thenE ?_  | refine x_blkN ?_  | refine x_blkE ?_  | refine wp_ret ?_  | refine wp_skip ?_  | refine wp_block ?_  | refine wp_exit ?_  | refine c_condT st rfl ?_  | refine c_condF st rfl ?_  | ((first | refine o_move st rfl rfl ?_  | refine o_assign st rfl rfl ?_  | refine o_pickF st rfl rfl rfl ?_); clear st; intro _ st)  | (refine o_alloc st rfl ?_; clear st; intro _ _ _ st)  | ((first | refine o_fieldAddr st rfl rfl ?_  | refine o_loadS st rfl (by repeat constructor) rfl rfl ?_  | refine o_load3 st rfl (by repeat constructor) rfl ?_ ); clear st; intro _ st)  | ((first | refine o_storeW st rfl rfl (by repeat constructor) rfl rfl rfl ?_); clear st; intro _ _ st)  | ((first | refine o_build2 st rfl rfl rfl rfl rfl ?_  | refine o_extract st rfl rfl rfl ?_  | refine o_len st rfl rfl ?_  | refine o_add64 st rfl rfl rfl (by omega) (by omega) ?_  | refine o_notT st rfl rfl ?_ ); clear st; intro _ st)  | (refine o_fop rfl st rfl rfl (by first | assumption | exact Is_ofInt _ _ | exact Is_lit (by decide +kernel)) (by first | assumption | exact Is_ofInt _ _ | exact Is_lit (by decide +kernel)) rfl ?_; clear st; intro _ _ _ _ st)  | ((first | refine o_intFloat st rfl rfl ?_); clear st; intro _ st)  | ((first | refine o_lss st rfl rfl rfl ?_ ?_  | refine o_geq st rfl rfl rfl ?_ ?_  | refine o_neqI st rfl rfl rfl ?_ ?_) <;> clear st <;> intro _ _ st <;> (try (exfalso; omega))) ))
  replace st := St.fit (E' := [(39, .slice (some ⟨pb, 0, none⟩) [c0, c1, c2, c3].length pcp), (41, .bool true), (42, .float .f32 lg), (43, .bool true), (44, .float .f64 d2), (45, .pointer (some ⟨p45, 0, none⟩)), (46, .bool true)]) st (by repeat (first | exact trivial  | refine And.intro rfl ?_))
  have hmv := fun (w : World) h => implMove_yes 2 2 [c0, c1, c2, c3] (crn s0 s1 s2 s3) (IsSL4 h0 h1 h2 h3) (some ⟨kb, 0, none⟩) 4 3 c0 s0 h0 CO.mv w h (by simp)
  refine c_drawCA (F := (fun E L a' w' => ∃ (p0 mb : Nat) (ms : List B3) (mcp : Nat) (mpad : List Value), IsSL ms ((crn s0 s1 s2 s3).set 3 s0) ∧ ms.length = 4 ∧ St w Try.f28.ntmps a' w' ((47, .pointer (some ⟨p0, 0, none⟩)) :: (48, .bool true) :: E) (⟨p0, true, .cells [.int .i64 2, .int .i64 2, .slice (some ⟨mb, 0, none⟩) ms.length mcp].toArray 46 (0, 0)⟩ :: ⟨mb, true, oS ms mpad⟩ :: L))) (last := 10) hm_ (by decide +kernel) (by decide +kernel) st ?_ ?_
  · clear st; intro _ st
    refine d_v 0 st (by repeat constructor) rfl (by decide +kernel) rfl (by first | exact v_load3 st rfl (by repeat constructor) | exact v_loadS st rfl (by repeat constructor) rfl) ?_; clear st; intro _ st
    refine d_v 1 st (by repeat constructor) rfl (by decide +kernel) rfl (v_move st rfl) ?_; clear st; intro _ st
    refine d_v 2 st (by repeat constructor) rfl (by decide +kernel) rfl (v_indexAddr st rfl rfl (by simp) (by simp)) ?_; clear st; intro _ st
    refine d_v 3 st (by repeat constructor) rfl (by decide +kernel) rfl (v_loadSp st rfl (by repeat constructor) hv0) ?_; clear st; intro _ st
    refine d_two 4 8 (by decide +kernel) rfl rfl ?_ ?_
    · skip
      refine o_callShY st rfl (hmv _ (RdS.of (st.heap (b := kb) (by repeat constructor)) (spotsIn0p _ _))) rfl ?_; clear st; intro mb ms mcp mpad hMI hMl _ _ st
      refine kh st (by repeat constructor) ?_
      refine d_v 5 st (by repeat constructor) rfl (by decide +kernel) rfl (v_move st rfl) ?_; clear st; intro _ st
      refine d_v 6 st (by repeat constructor) rfl (by decide +kernel) rfl (v_extract st rfl rfl) ?_; clear st; intro _ st
      refine d_v 7 st (by repeat constructor) rfl (by decide +kernel) rfl (v_extract st rfl rfl) ?_; clear st; intro _ st
      refine d_one 8 (by decide +kernel) rfl ?_
      refine o_alloc st rfl ?_; clear st; intro _ _ _ st
      refine kh st (by repeat constructor) ?_
      refine d_one 9 (by decide +kernel) rfl ?_
      (first | ((first | refine o_storeW st rfl rfl (by repeat constructor) rfl rfl rfl ?_); clear st; intro _ _ st))
      refine kh st (by repeat constructor) ?_
      refine d_one 10 (by decide +kernel) rfl ?_
      (first | (refine o_assign st rfl rfl ?_; clear st; intro _ st))
      refine k_last ?_
      refine d_done (by decide +kernel) ?_
      refine ⟨rfl, ?_⟩
      have st := St.fore 47 st rfl (by repeat constructor)
      exact ⟨_, _, _, _, _, hMI, hMl, (st.fit (by repeat (first | exact trivial  | refine And.intro rfl ?_))).subL (by repeat (first | exact List.Sublist.refl _  | apply List.Sublist.cons_cons  | apply List.Sublist.cons  | exact List.nil_sublist _))⟩
    · skip
      refine o_alloc st rfl ?_; clear st; intro _ _ _ st
      refine kh st (by repeat constructor) ?_
      refine d_one 4 (by decide +kernel) rfl ?_
      refine o_callShY st rfl (hmv _ (RdS.of (st.heap (b := kb) (by repeat constructor)) (spotsIn0p _ _))) rfl ?_; clear st; intro mb ms mcp mpad hMI hMl _ _ st
      refine kh st (by repeat constructor) ?_
      refine d_v 5 st (by repeat constructor) rfl (by decide +kernel) rfl (v_move st rfl) ?_; clear st; intro _ st
      refine d_v 6 st (by repeat constructor) rfl (by decide +kernel) rfl (v_extract st rfl rfl) ?_; clear st; intro _ st
      refine d_v 7 st (by repeat constructor) rfl (by decide +kernel) rfl (v_extract st rfl rfl) ?_; clear st; intro _ st
      refine d_one 9 (by decide +kernel) rfl ?_
      (first | ((first | refine o_storeW st rfl rfl (by repeat constructor) rfl rfl rfl ?_); clear st; intro _ _ st))
      refine kh st (by repeat constructor) ?_
      refine d_one 10 (by decide +kernel) rfl ?_
      (first | (refine o_assign st rfl rfl ?_; clear st; intro _ st))
      refine k_last ?_
      refine d_done (by decide +kernel) ?_
      refine ⟨rfl, ?_⟩
      have st := St.fore 47 st rfl (by repeat constructor)
      exact ⟨_, _, _, _, _, hMI, hMl, (st.fit (by repeat (first | exact trivial  | refine And.intro rfl ?_))).subL (by repeat (first | exact List.Sublist.refl _  | apply List.Sublist.cons_cons  | apply List.Sublist.cons  | exact List.nil_sublist _))⟩
  clear st
  rintro _ _ ⟨p47, mb, ms, mcp, mpad, hMI, hM4, st⟩
  (repeat' (first | refine c_seq ?_  | refine c_region ?_  | refine l_do ?_  | refine l_doG st rfl rfl ?_  | refine l_nil ?_  | refine x_then ?_  | refine x_thenR ?_  | refine x_thenE ?_  | refine x_blkN ?_  | refine x_blkE ?_  | refine wp_ret ?_  | refine wp_skip ?_  | refine wp_block ?_  | refine wp_exit ?_  | refine c_condT st rfl ?_  | refine c_condF st rfl ?_  | ((first | refine o_move st rfl rfl ?_  | refine o_assign st rfl rfl ?_  | refine o_pickF st rfl rfl rfl ?_); clear st; intro _ st)  | (refine o_alloc st rfl ?_; clear st; intro _ _ _ st)  | ((first | refine o_fieldAddr st rfl rfl ?_  | refine o_loadS st rfl (by repeat constructor) rfl rfl ?_  | refine o_load3 st rfl (by repeat constructor) rfl ?_ ); clear st; intro _ st)  | ((first | refine o_storeW st rfl rfl (by repeat constructor) rfl rfl rfl ?_); clear st; intro _ _ st)  | ((first | refine o_build2 st rfl rfl rfl rfl rfl ?_  | refine o_extract st rfl rfl rfl ?_  | refine o_len st rfl rfl ?_  | refine o_add64 st rfl rfl rfl (by omega) (by omega) ?_  | refine o_notT st rfl rfl ?_ ); clear st; intro _ st)  | (refine o_fop rfl st rfl rfl (by first | assumption | exact Is_ofInt _ _ | exact Is_lit (by decide +kernel)) (by first | assumption | exact Is_ofInt _ _ | exact Is_lit (by decide +kernel)) rfl ?_; clear st; intro _ _ _ _ st)  | ((first | refine o_intFloat st rfl rfl ?_); clear st; intro _ st)  | ((first | refine o_lss st rfl rfl rfl ?_ ?_  | refine o_geq st rfl rfl rfl ?_ ?_  | refine o_neqI st rfl rfl rfl ?_ ?_) <;> clear st <;> intro _ _ st <;> (try (exfalso; omega))) ))
  have hM3 : IsS (ms[3]'(by omega)) s0 := hMI.getDA (by omega)
  have hv5 := spotsIn0p ms mpad 3 (ms[3]'(by omega)) (List.getElem?_eq_getElem (by omega))
  have hv6 := spotsIn0p [c0, c1, c2, c3] [] 2 c2 rfl
  have hse : ∀ s : S3, sameS s s = true := fun s => by simp [sameS]
  have ss2 := fun w => implSameSpot_ok c2 c2 _ _ h2 h2 w
  have ss3 := fun w => implSameSpot_ok _ c0 _ _ hM3 h0 w
  rw [hse] at ss2 ss3
  have hz0 : rv .f64 0 = 0 := by decide +kernel
  have g7 := fun w => r8Gap_ok d2 0 iD zero_is fD zero64.fin BB (by rw [vD, hz0]; exact ⟨by have := bb0; have := p2_pos (-126); grind, by have := bb0; have := p2_pos (-126); grind⟩) bb0 bb1 w
  refine c_drawA (last := 39) hm_ (by decide +kernel) (by decide +kernel) st ?_; clear st; intro _ st
  refine d_v 0 st (by repeat constructor) rfl (by decide +kernel) rfl (v_move st rfl) ?_; clear st; intro _ st
  refine d_v 1 st (by repeat constructor) rfl (by decide +kernel) rfl (v_move st rfl) ?_; clear st; intro _ st
  (first | refine d_g 2 st (by repeat constructor) rfl (by decide +kernel) rfl rfl rfl (v_move st rfl) ?_ ); clear st; intro _ st
  refine d_v 3 st (by repeat constructor) rfl (by decide +kernel) rfl (by first | exact v_pickT st rfl rfl | exact v_pickF st rfl rfl) ?_; clear st; intro _ st
  refine d_v 4 st (by repeat constructor) rfl (by decide +kernel) rfl (v_move st rfl) ?_; clear st; intro _ st
  (first | refine d_g 5 st (by repeat constructor) rfl (by decide +kernel) rfl rfl rfl (v_move st rfl) ?_ ); clear st; intro _ st
  refine d_v 6 st (by repeat constructor) rfl (by decide +kernel) rfl (by first | exact v_pickT st rfl rfl | exact v_pickF st rfl rfl) ?_; clear st; intro _ st
  refine d_v 7 st (by repeat constructor) rfl (by decide +kernel) rfl (v_move st rfl) ?_; clear st; intro _ st
  (first | refine d_g 8 st (by repeat constructor) rfl (by decide +kernel) rfl rfl rfl (v_move st rfl) ?_ ); clear st; intro _ st
  refine d_v 9 st (by repeat constructor) rfl (by decide +kernel) rfl (by first | exact v_pickT st rfl rfl | exact v_pickF st rfl rfl) ?_; clear st; intro _ st
  refine d_v 10 st (by repeat constructor) rfl (by decide +kernel) rfl (v_move st rfl) ?_; clear st; intro _ st
  (first | refine d_g 11 st (by repeat constructor) rfl (by decide +kernel) rfl rfl rfl (v_move st rfl) ?_ ); clear st; intro _ st
  (first | refine d_g 12 st (by repeat constructor) rfl (by decide +kernel) rfl rfl rfl (v_fgeqK st rfl rfl hlgI Is_z lge) ?_ ); clear st; intro _ st
  refine d_v 13 st (by repeat constructor) rfl (by decide +kernel) rfl (by first | exact v_pickT st rfl rfl | exact v_pickF st rfl rfl) ?_; clear st; intro _ st
  refine d_v 14 st (by repeat constructor) rfl (by decide +kernel) rfl (v_move st rfl) ?_; clear st; intro _ st
  (first | refine d_g 15 st (by repeat constructor) rfl (by decide +kernel) rfl rfl rfl (v_move st rfl) ?_ ); clear st; intro _ st
  (first | (refine d_oneG 16 (by decide +kernel) rfl st rfl rfl ?_; refine o_callR st rfl (g7 _) rfl ?_; clear st; rintro _ ⟨r7, rfl, i7, f7, u7⟩ _ _ st; refine kh st (by repeat constructor) ?_))
  (first | refine d_g 17 st (by repeat constructor) rfl (by decide +kernel) rfl rfl rfl (v_flssK st rfl rfl i7 (Is_lit (by decide +kernel)) (gap_lt f7 lit1.1 u7 lit1.2)) ?_ ); clear st; intro _ st
  refine d_v 18 st (by repeat constructor) rfl (by decide +kernel) rfl (by first | exact v_pickT st rfl rfl | exact v_pickF st rfl rfl) ?_; clear st; intro _ st
  refine d_v 19 st (by repeat constructor) rfl (by decide +kernel) rfl (v_move st rfl) ?_; clear st; intro _ st
  (first | refine d_g 20 st (by repeat constructor) rfl (by decide +kernel) rfl rfl rfl (v_fieldAddr st rfl) ?_ ); clear st; intro _ st
  (first | refine d_g 21 st (by repeat constructor) rfl (by decide +kernel) rfl rfl rfl (by first | exact v_load3 st rfl (by repeat constructor) | exact v_loadS st rfl (by repeat constructor) rfl) ?_ ); clear st; intro _ st
  (first | refine d_g 22 st (by repeat constructor) rfl (by decide +kernel) rfl rfl rfl (v_indexAddr st rfl rfl (by simp) (by simp)) ?_ ); clear st; intro _ st
  (first | refine d_g 23 st (by repeat constructor) rfl (by decide +kernel) rfl rfl rfl (v_loadSp st rfl (by repeat constructor) hv6) ?_ ); clear st; intro _ st
  (first | refine d_g 24 st (by repeat constructor) rfl (by decide +kernel) rfl rfl rfl (v_move st rfl) ?_ ); clear st; intro _ st
  (first | refine d_g 25 st (by repeat constructor) rfl (by decide +kernel) rfl rfl rfl (v_indexAddr st rfl rfl (by simp) (by simp)) ?_ ); clear st; intro _ st
  (first | refine d_g 26 st (by repeat constructor) rfl (by decide +kernel) rfl rfl rfl (v_loadSp st rfl (by repeat constructor) hv2) ?_ ); clear st; intro _ st
  (first | (refine d_oneG 27 (by decide +kernel) rfl st rfl rfl ?_; refine o_callV st rfl (ss2 _) rfl ?_; clear st; intro _ _ st; refine kh st (by repeat constructor) ?_))
  refine d_v 28 st (by repeat constructor) rfl (by decide +kernel) rfl (by first | exact v_pickT st rfl rfl | exact v_pickF st rfl rfl) ?_; clear st; intro _ st
  refine d_v 29 st (by repeat constructor) rfl (by decide +kernel) rfl (v_move st rfl) ?_; clear st; intro _ st
  (first | refine d_g 30 st (by repeat constructor) rfl (by decide +kernel) rfl rfl rfl (v_fieldAddr st rfl) ?_ ); clear st; intro _ st
  (first | refine d_g 31 st (by repeat constructor) rfl (by decide +kernel) rfl rfl rfl (by first | exact v_load3 st rfl (by repeat constructor) | exact v_loadS st rfl (by repeat constructor) rfl) ?_ ); clear st; intro _ st
  (first | refine d_g 32 st (by repeat constructor) rfl (by decide +kernel) rfl rfl rfl (v_indexAddr st rfl rfl (by omega) (by omega)) ?_ ); clear st; intro _ st
  (first | refine d_g 33 st (by repeat constructor) rfl (by decide +kernel) rfl rfl rfl (v_loadSp st rfl (by repeat constructor) hv5) ?_ ); clear st; intro _ st
  (first | refine d_g 34 st (by repeat constructor) rfl (by decide +kernel) rfl rfl rfl (v_move st rfl) ?_ ); clear st; intro _ st
  (first | refine d_g 35 st (by repeat constructor) rfl (by decide +kernel) rfl rfl rfl (v_indexAddr st rfl rfl (by simp) (by simp)) ?_ ); clear st; intro _ st
  (first | refine d_g 36 st (by repeat constructor) rfl (by decide +kernel) rfl rfl rfl (v_loadSp st rfl (by repeat constructor) hv0) ?_ ); clear st; intro _ st
  (first | (refine d_oneG 37 (by decide +kernel) rfl st rfl rfl ?_; refine o_callV st rfl (ss3 _) rfl ?_; clear st; intro _ _ st; refine kh st (by repeat constructor) ?_))
  refine d_v 38 st (by repeat constructor) rfl (by decide +kernel) rfl (by first | exact v_pickT st rfl rfl | exact v_pickF st rfl rfl) ?_; clear st; intro _ st
  refine d_one 39 (by decide +kernel) rfl ?_
  (first | (refine o_assign st rfl rfl ?_; clear st; intro _ st))
  refine k_last ?_
  refine d_done (by decide +kernel) ?_
  (repeat' (first | refine c_seq ?_  | refine c_region ?_  | refine l_do ?_  | refine l_doG st rfl rfl ?_  | refine l_nil ?_  | refine x_then ?_  | refine x_thenR ?_  | refine x_thenE ?_  | refine x_blkN ?_  | refine x_blkE ?_  | refine wp_ret ?_  | refine wp_skip ?_  | refine wp_block ?_  | refine wp_exit ?_  | refine c_condT st rfl ?_  | refine c_condF st rfl ?_  | ((first | refine o_move st rfl rfl ?_  | refine o_assign st rfl rfl ?_  | refine o_pickF st rfl rfl rfl ?_); clear st; intro _ st)  | (refine o_alloc st rfl ?_; clear st; intro _ _ _ st)  | ((first | refine o_fieldAddr st rfl rfl ?_  | refine o_loadS st rfl (by repeat constructor) rfl rfl ?_  | refine o_load3 st rfl (by repeat constructor) rfl ?_ ); clear st; intro _ st)  | ((first | refine o_storeW st rfl rfl (by repeat constructor) rfl rfl rfl ?_); clear st; intro _ _ st)  | ((first | refine o_build2 st rfl rfl rfl rfl rfl ?_  | refine o_extract st rfl rfl rfl ?_  | refine o_len st rfl rfl ?_  | refine o_add64 st rfl rfl rfl (by omega) (by omega) ?_  | refine o_notT st rfl rfl ?_ ); clear st; intro _ st)  | (refine o_fop rfl st rfl rfl (by first | assumption | exact Is_ofInt _ _ | exact Is_lit (by decide +kernel)) (by first | assumption | exact Is_ofInt _ _ | exact Is_lit (by decide +kernel)) rfl ?_; clear st; intro _ _ _ _ st)  | ((first | refine o_intFloat st rfl rfl ?_); clear st; intro _ st)  | ((first | refine o_lss st rfl rfl rfl ?_ ?_  | refine o_geq st rfl rfl rfl ?_ ?_  | refine o_neqI st rfl rfl rfl ?_ ?_) <;> clear st <;> intro _ _ st <;> (try (exfalso; omega))) ))
  refine post1 st Try.results28 (rd_t st rfl) ?_
  exact ⟨rfl, st.below⟩
end

set_option maxRecDepth 100000 in
theorem FnFlats_lifted (os : Os) (started : os.Started) (H : Type) (enc : TypeId × Value → H) :
    ReturnsInHanded {} Try.checked os 28 .any (Rows.fnFlatsSpec.pre6 enc Try.prog Try.f28 Rows.fnFlatsRow.domain false) (Rows.fnFlatsSpec.post enc Try.prog Try.f28 false true false false) := by
  refine returnsInHanded_of_change (C := Try.checked) own_ started (by kernel_rfl) Try.func28
    (ChangeSpec.witness6 (enc := enc) (C := Try.checked) false ⟨#[], #[.slice none 0 0, .slice none 0 0], []⟩ 8 (by kernel_rfl) (by kernel_rfl) (by kernel_rfl) (by kernel_rfl)) ?_
  intro W base args ds gs before hval0 hW hcnd _
  have hval : ∀ (j : Nat) t v, Try.f28.params[j]? = some t → args[j]? = some v → Value.okWide Try.prog W .any base t v := hval0
  have hW' := hW
  obtain ⟨p, q, hA0, hV, rfl, hfz, hnd⟩ := hW
  have hA : DataW.TrodAll enc Try.prog W 0 (fun _ => true) true Try.f28.params.toList args.toList ds p := hA0
  rw [Try.params28] at hA hval
  obtain ⟨v0, vs0, d0, ds0, p0, q0, hargs, rfl, rfl, h0, r0⟩ := trodAll_cons hA
  obtain ⟨v1, vs1, d1, ds1, p1, q1, rfl, rfl, rfl, h1, r1⟩ := trodAll_cons r0
  obtain ⟨rfl, rfl, rfl⟩ := trodAll_nil r1
  obtain rfl : args = #[v0, v1] := by cases args; simp_all
  obtain ⟨rfl, rfl⟩ := trodVars_none hV
  have k0 := h0
  have lt0 : ∀ x ∈ p0, x.block < W.heap.size := by obtain ⟨m, hm⟩ := k0; exact DataW.trod_lt m _ _ _ hm
  obtain ⟨cs0, ba0, cap0, rfl, rd0, ok0, len0⟩ := bytes_of_trod (hval 0 57 v0 rfl rfl) h0
  have k1 := h1
  have lt1 : ∀ x ∈ p1, x.block < W.heap.size := by obtain ⟨m, hm⟩ := k1; exact DataW.trod_lt m _ _ _ hm
  obtain ⟨cs1, ba1, cap1, rfl, rd1, ok1, len1⟩ := bytes_of_trod (hval 1 57 v1 rfl rfl) h1
  clear hA0 hval0
  refine (flats_walk cs0 ba0 cap0 cs1 ba1 cap1 W rd0 ok0 len0 rd1 ok1 len1).mono fun e W' ⟨he, bel⟩ => ?_
  subst he
  exact ⟨_, rfl, _, _, _, [], _, [], hW', trodAll_mk1 (shut_bool Try.underlying4 _), (trodAll_cons_mk (Below.trod laidOut_ (by kernel_rfl) (of_decide_eq_true (by kernel_rfl)) k0 bel lt0) (trodAll_cons_mk (Below.trod laidOut_ (by kernel_rfl) (of_decide_eq_true (by kernel_rfl)) k1 bel lt1) trodAll_mk0)), rfl, bel.frame _, fun h => by cases h⟩

/-- For every input the law returns true, and each argument reads behind the call as it read before. -/
theorem FnFlats_holds : Rows.FnFlatsSaid :=
  OpenClaim.holds_of_wide 28 Try.f28 rfl rfl rfl rfl rfl rfl rfl ⟨rfl, rfl, rfl, rfl, rfl⟩ rfl rfl rfl rfl rfl (by as_aux_lemma => kernel_rfl) Try.func28 (closed_of 28 Try.f28 Rows.fnFlatsSpec Rows.fnFlatsRow rfl rfl (by as_aux_lemma => kernel_rfl) (by as_aux_lemma => kernel_rfl) (by as_aux_lemma => kernel_rfl) (by as_aux_lemma => kernel_rfl) (by as_aux_lemma => kernel_rfl))
    (of_decide_eq_true (by kernel_rfl)) (by unfold Func.isWrapper; first | (rw [if_pos (by decide +kernel)]; kernel_rfl) | (rw [if_neg (by decide +kernel)]; exact ⟨rfl, rfl⟩))
    (fun os started H enc _ => FnFlats_lifted os started H enc)

end Go.Proofs.Ytefnlalldgbcaaa
