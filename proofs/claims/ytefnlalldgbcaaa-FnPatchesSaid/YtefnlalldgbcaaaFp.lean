/-
  The statement FnPatches: patches from bytes; how far the values are apart.
-/
import Derived.Test.YtefnlalldgbcaaaRows
import Derived.Test.YtefnlalldgbcaaaBarg
import Derived.Test.YtefnlalldgbcaaaPnun
import Derived.Test.YtefnlalldgbcaaaRq
import Derived.Test.YtefnlalldgbcaaaDrawn
import Derived.Test.YtefnlalldgbcaaaU
import Derived.Test.YtefnlalldgbcaaaClosed
namespace Go.Proofs.Ytefnlalldgbcaaa
open Go.ChangeShapes Go.WideShapes Go.ChangeAt Go.RowKit Go.Joins

section
variable {P : Program} {w0 w : World} {N : Nat} {a : Act} {E : List (Nat × Value)} {L Lh : List Ent} {K : Act → World → Prop} {Q : Exit → Act → World → Prop}
variable {d : Nat} {ty : TypeId} {pos : String} {aft : Array Edge} {g : Option (Nat × Bool)}
theorem v_quo64E {x y : Operand} {t ys : TypeId} {i : Int} (n m : Nat) (st : St w0 N a w E L) (hx : evE E x = some (.int .i64 i)) (hy : evE E y = some (.int .i64 (m : Int))) (e : i = (n : Int)) (hj : 0 < m) (hi : n ≤ 9223372036854775807) : Vl P a Lh (.binOp .quo t x y ys) (.int .i64 ((n / m : Nat) : Int)) := by
  subst e
  exact v_quo64 st hx hy hj hi
theorem o_quo64E {x y : Operand} {t ys : TypeId} {i : Int} (n m : Nat) (st : St w0 N a w E L) (hx : evE E x = some (.int .i64 i)) (hy : evE E y = some (.int .i64 (m : Int))) (e : i = (n : Int)) (hj : 0 < m) (hi : n ≤ 9223372036854775807) (hd : Nat.blt d N = true)
    (h : ∀ a', St w0 N a' w ((d, .int .i64 ((n / m : Nat) : Int)) :: E) L → K a' w) : Oper.wp P ⟨some d, .binOp .quo t x y ys, ty, pos, aft, g⟩ a w K Q := by
  subst e
  exact o_quo64 st hx hy hj hi hd h
end

attribute [local irreducible] Code.wp wpList Oper.wp Calls bodyPost Exit.then Exit.inBlock

section
set_option maxRecDepth 100000
set_option maxHeartbeats 64000000

theorem patches_walk (cs : List Int) (ba : Option Addr) (cap : Nat) (cs' : List Int) (ba' : Option Addr) (cap' : Nat) (w : World) (hr : RdB w ba cs) (hok : okB cs) (hl : cs.length ≤ 9223372036854775807) (hr' : RdB w ba' cs') (hok' : okB cs') (hl' : cs'.length ≤ 9223372036854775807) :
    Calls Try.prog 10 [.slice ba cs.length cap, .slice ba' cs'.length cap'].toArray w fun e w' => e = .returned (.bool true) ∧ Below w.heap.size w w' := by
  have hz := fun w => r8Long_ok cs.length cs'.length cap cap' ba ba' hl hl' w
  refine enter Try.func10 rfl rfl rfl rfl ?_
  intro a st
  by_cases hbig : (decide (48 < cs.length) || decide (48 < cs'.length)) = true
  · rw [hbig] at hz
    (repeat' (first | (refine o_callV st rfl (hz _) rfl ?_; clear st; intro _ _ st)  | refine c_seq ?_  | refine c_region ?_  | refine l_do ?_  | refine l_nil ?_  | refine x_then ?_  | refine x_thenR ?_  | refine wp_ret ?_  | refine wp_skip ?_  | refine c_condT st rfl ?_  | refine c_condF st rfl ?_  | ((first | refine o_move st rfl rfl ?_  | refine o_assign st rfl rfl ?_ ); clear st; intro _ st)  | (refine o_alloc st rfl ?_; clear st; intro _ _ _ st)  | ((first | refine o_storeW st rfl rfl (by repeat constructor) rfl rfl rfl ?_); clear st; intro _ _ st)  | ((first | refine o_extract st rfl rfl rfl ?_  | refine o_add64 st rfl rfl rfl (by omega) (by omega) ?_  | refine o_mulW st rfl rfl rfl ?_ ); clear st; intro _ st)  | (refine o_fop rfl st rfl rfl (by first | assumption | exact Is_ofInt _ _ | exact Is_lit (by decide +kernel)) (by first | assumption | exact Is_ofInt _ _ | exact Is_lit (by decide +kernel)) rfl ?_; clear st; intro _ _ _ _ st)  | ((first | refine o_intFloat st rfl rfl ?_); clear st; intro _ st) ))
    refine post1 st Try.results10 (rd_t st rfl) ?_
    exact ⟨rfl, st.below⟩
  have hbig : (decide (48 < cs.length) || decide (48 < cs'.length)) = false := by simpa using hbig
  rw [hbig] at hz
  have hlen : cs.length ≤ 48 ∧ cs'.length ≤ 48 := by simpa using hbig
  (repeat' (first | (refine o_callV st rfl (hz _) rfl ?_; clear st; intro _ _ st)  | (refine o_callR st rfl (r8At_ok cs' hok' (by omega) ba' cap' 40 2 (by omega) _ (hr'.mono st.below)) rfl ?_; clear st; rintro _ ⟨x, rfl, hx⟩ _ _ st)  | (fail)  | refine c_seq ?_  | refine c_region ?_  | refine l_do ?_  | refine l_nil ?_  | refine x_then ?_  | refine x_thenR ?_  | refine wp_ret ?_  | refine wp_skip ?_  | refine c_condT st rfl ?_  | refine c_condF st rfl ?_  | ((first | refine o_move st rfl rfl ?_  | refine o_assign st rfl rfl ?_ ); clear st; intro _ st)  | (refine o_alloc st rfl ?_; clear st; intro _ _ _ st)  | ((first | refine o_storeW st rfl rfl (by repeat constructor) rfl rfl rfl ?_); clear st; intro _ _ st)  | ((first | refine o_extract st rfl rfl rfl ?_  | refine o_add64 st rfl rfl rfl (by omega) (by omega) ?_  | refine o_mulW st rfl rfl rfl ?_ ); clear st; intro _ st)  | (refine o_fop rfl st rfl rfl (by first | assumption | exact Is_ofInt _ _ | exact Is_lit (by decide +kernel)) (by first | assumption | exact Is_ofInt _ _ | exact Is_lit (by decide +kernel)) rfl ?_; clear st; intro _ _ _ _ st)  | ((first | refine o_intFloat st rfl rfl ?_); clear st; intro _ st) ))
  obtain ⟨g, hg, he⟩ : ∃ g : Nat, (g = 1 ∨ g = 2) ∧ (1 + (x : Int)) = (g : Int) := ⟨x + 1, by omega, by omega⟩
  rw [he] at st
  have hw : IntKind.i64.wrap (((g : Int) + 1) * ((g : Int) + 2)) = (((g + 1) * (g + 2) : Nat) : Int) := by rcases hg with rfl | rfl <;> rfl
  have htot : tot g ≤ 6 ∧ 1 ≤ tot g := by rcases hg with rfl | rfl <;> decide
  have htot2 : tot (g + 1) ≤ 10 := by rcases hg with rfl | rfl <;> decide
  have hgt : g < tot g := by rcases hg with rfl | rfl <;> decide
  (repeat' (first | (refine o_quo64E ((g + 1) * (g + 2)) 2 st rfl rfl hw (by omega) (by rcases hg with rfl | rfl <;> decide) rfl ?_; clear st; intro _ st)  | (refine o_callM1 st rfl (R8Spots_ok (tot g) (by omega) cs hok (by omega) ba cap _ (hr.mono st.below)) rfl ?_; clear st; rintro _ sb _ ⟨os, ss, cp, pad, rfl, rfl, hcp, hI, hsl, hQ⟩ _ _ st)  | (refine o_callR st rfl (r8At_ok cs' hok' (by omega) ba' cap' 41 9 (by omega) _ (hr'.mono st.below)) rfl ?_; clear st; rintro _ ⟨r, rfl, hr9⟩ _ _ st)  | (refine o_callR st rfl (r8At_ok cs' hok' (by omega) ba' cap' 42 9 (by omega) _ (hr'.mono st.below)) rfl ?_; clear st; rintro _ ⟨s, rfl, hs9⟩ _ _ st)  | (refine o_fop (ci := some (floatOfInt .f32 (r : Int))) rfl st rfl rfl (Is_ofInt _ _) (Is_lit (by decide +kernel)) rfl ?_; clear st; intro u _ _ hu st)  | (refine o_fop (ci := some (floatOfInt .f32 (s : Int))) rfl st rfl rfl (Is_ofInt _ _) (Is_lit (by decide +kernel)) rfl ?_; clear st; intro v _ _ hv st)  | refine c_seq ?_  | refine c_region ?_  | refine l_do ?_  | refine l_nil ?_  | refine x_then ?_  | refine x_thenR ?_  | refine wp_ret ?_  | refine wp_skip ?_  | refine c_condT st rfl ?_  | refine c_condF st rfl ?_  | ((first | refine o_move st rfl rfl ?_  | refine o_assign st rfl rfl ?_ ); clear st; intro _ st)  | (refine o_alloc st rfl ?_; clear st; intro _ _ _ st)  | ((first | refine o_storeW st rfl rfl (by repeat constructor) rfl rfl rfl ?_); clear st; intro _ _ st)  | ((first | refine o_extract st rfl rfl rfl ?_  | refine o_add64 st rfl rfl rfl (by omega) (by omega) ?_  | refine o_mulW st rfl rfl rfl ?_ ); clear st; intro _ st)  | (refine o_fop rfl st rfl rfl (by first | assumption | exact Is_ofInt _ _ | exact Is_lit (by decide +kernel)) (by first | assumption | exact Is_ofInt _ _ | exact Is_lit (by decide +kernel)) rfl ?_; clear st; intro _ _ _ _ st)  | ((first | refine o_intFloat st rfl rfl ?_); clear st; intro _ st) ))
  have hol := hI.len
  have F := patFacts hg hsl hQ (r := r) (s := s) (by omega) (by omega)
  have hu : Is .f32 u (xC r) := hu
  have hv : Is .f32 v (xC s) := hv
  generalize xC (r : Int) = uc at F hu
  generalize xC (s : Int) = vc at F hv
  have hrk : patchC ss g 2 = true ∧ finL (raiseL ss g) = true := by
    have := F.rok
    unfold raiseOk at this
    simpa using this
  have p1 := fun (w : World) base h => implPat_ok os ss hI base cp hcp g u v uc vc hu hv w h (by omega)
  have p3 := fun (w : World) base h => implPat_ok os ss hI base cp hcp g 0 0 (some 0) (some 0) Is_z Is_z w h (by omega)
  have p4 := fun (w : World) base h => implPat_ok os ss hI base cp hcp g 1065353216 0 one32 (some 0) (Is_lit (by decide +kernel)) Is_z w h (by omega)
  have p5 := fun (w : World) base h => implPat_ok os ss hI base cp hcp g 0 1065353216 (some 0) one32 Is_z (Is_lit (by decide +kernel)) w h (by omega)
  have p6 := fun (w : World) base h => implPat_ok os ss hI base cp hcp g 1065353216 1056964608 one32 (some 1056964608) (Is_lit (by decide +kernel)) (Is_lit (by decide +kernel)) w h (by omega)
  rw [F.ok1] at p1
  rw [F.ok3] at p3
  rw [F.ok4] at p4
  rw [F.ok5] at p5
  rw [F.ok6] at p6
  have pr := fun (w : World) base h => implRaise_okC os ss hI base cp hcp g hrk.1 w h (by omega)
  unfold CLsC at pr
  rw [hrk.2] at pr
  have hrl := F.rlen
  (repeat' (first | (refine o_callSBb st rfl (p1 _ _ (RdS.of (st.heap (by repeat constructor)) (spotsIn0p _ _))) rfl ?_; clear st; intro b1 hb1 _ _ st)  | (refine o_callM1 st rfl (pr _ _ (RdS.of (st.heap (by repeat constructor)) (spotsIn0p _ _))) rfl ?_; clear st; rintro _ nb _ ⟨ts, cq, pad2, hcq, rfl, rfl, hI2⟩ _ _ st; have hol2 := hI2.len; have p2 := fun (w : World) base h => implPat_ok ts _ hI2 base cq hcq ((g + 1 : Nat) : Int) u v uc vc hu hv w h (by omega); rw [F.ok2] at p2)  | (refine o_callSBb st rfl (p2 _ _ (RdS.of (st.heap (by repeat constructor)) (spotsIn0p _ _))) rfl ?_; clear st; intro b2 hb2 _ _ st)  | (refine o_callSBb st rfl (p3 _ _ (RdS.of (st.heap (by repeat constructor)) (spotsIn0p _ _))) rfl ?_; clear st; intro b3 hb3 _ _ st)  | (refine o_callSBb st rfl (p4 _ _ (RdS.of (st.heap (by repeat constructor)) (spotsIn0p _ _))) rfl ?_; clear st; intro b4 hb4 _ _ st)  | (refine o_callSBb st rfl (p5 _ _ (RdS.of (st.heap (by repeat constructor)) (spotsIn0p _ _))) rfl ?_; clear st; intro b5 hb5 _ _ st)  | (refine o_callSBb st rfl (p6 _ _ (RdS.of (st.heap (by repeat constructor)) (spotsIn0p _ _))) rfl ?_; clear st; intro b6 hb6 _ _ st)  | refine c_seq ?_  | refine c_region ?_  | refine l_do ?_  | refine l_nil ?_  | refine x_then ?_  | refine x_thenR ?_  | refine wp_ret ?_  | refine wp_skip ?_  | refine c_condT st rfl ?_  | refine c_condF st rfl ?_  | ((first | refine o_move st rfl rfl ?_  | refine o_assign st rfl rfl ?_ ); clear st; intro _ st)  | (refine o_alloc st rfl ?_; clear st; intro _ _ _ st)  | ((first | refine o_storeW st rfl rfl (by repeat constructor) rfl rfl rfl ?_); clear st; intro _ _ st)  | ((first | refine o_extract st rfl rfl rfl ?_  | refine o_add64 st rfl rfl rfl (by omega) (by omega) ?_  | refine o_mulW st rfl rfl rfl ?_ ); clear st; intro _ st)  | (refine o_fop rfl st rfl rfl (by first | assumption | exact Is_ofInt _ _ | exact Is_lit (by decide +kernel)) (by first | assumption | exact Is_ofInt _ _ | exact Is_lit (by decide +kernel)) rfl ?_; clear st; intro _ _ _ _ st)  | ((first | refine o_intFloat st rfl rfl ?_); clear st; intro _ st) ))
  have hv0 : ∀ (x : Int) (n : Nat) (h : n < os.length), x = (n : Int) → (cS os ++ pad).toArray[0 + x.toNat * 3]? = some (.float .f32 os[n].1) ∧ (cS os ++ pad).toArray[0 + x.toNat * 3 + 1]? = some (.float .f32 os[n].2.1) ∧ (cS os ++ pad).toArray[0 + x.toNat * 3 + 2]? = some (.float .f32 os[n].2.2) := by
    intro x n h e
    subst e
    exact spotsIn0p os pad n _ (List.getElem?_eq_getElem h)
  have l0 : 0 < os.length := by omega
  have l1 : g < os.length := by omega
  have l2 : tot g - 1 < os.length := by omega
  have hB0 := bb0
  have hB1 := bb1
  have a1 := fun w => r8Apart_ok b1 b2 _ _ hb1 hb2 F.f1 F.f2 BB F.near hB0 hB1 w
  have a2 := fun w => r8Apart_ok b3 _ _ _ hb3 (hI.getD l0) F.f3 (F.fs 0 (by omega)) BB F.n3 hB0 hB1 w
  have a3 := fun w => r8Apart_ok b4 _ _ _ hb4 (hI.getD l1) F.f4 (F.fs g (by omega)) BB F.n4 hB0 hB1 w
  have a4 := fun w => r8Apart_ok b5 _ _ _ hb5 (hI.getD l2) F.f5 (F.fs (tot g - 1) (by omega)) BB F.n5 hB0 hB1 w
  have w0 := hv0 0 0 l0 rfl
  have w1 := hv0 (g : Int) g l1 rfl
  have w2 := hv0 ((os.length : Int) - 1) (tot g - 1) l2 (by omega)
  have hw2 : IntKind.i64.wrap (((g : Int) + 2) * ((g : Int) + 3)) = (((g + 2) * (g + 3) : Nat) : Int) := by rcases hg with rfl | rfl <;> rfl
  have hq2 : ((ts.length : Int) == (((g + 2) * (g + 3) / 2 : Nat) : Int)) = true := by
    have : ts.length = (g + 2) * (g + 3) / 2 := by rw [hol2, hrl]; rfl
    rw [this]
    simp
  replace st := St.fit (E' := [(5, _), (6, _), (9, _), (10, _), (11, _), (12, _), (13, _), (14, _), (15, _), (16, _), (17, _), (18, _), (19, _), (20, _), (21, _), (22, _)]) st (by repeat (first | exact trivial  | refine And.intro rfl ?_))
  refine c_drawA (last := 65) hm_ (by decide +kernel) (by decide +kernel) st ?_; clear st; intro _ st
  refine d_v 0 st (by repeat constructor) rfl (by decide +kernel) rfl (v_move st rfl) ?_; clear st; intro _ st
  refine d_v 1 st (by repeat constructor) rfl (by decide +kernel) rfl (v_move st rfl) ?_; clear st; intro _ st
  (first | refine d_g 2 st (by repeat constructor) rfl (by decide +kernel) rfl rfl rfl (v_move st rfl) ?_ ); clear st; intro _ st
  refine d_v 3 st (by repeat constructor) rfl (by decide +kernel) rfl (by first | exact v_pickT st rfl rfl | exact v_pickF st rfl rfl) ?_; clear st; intro _ st
  refine d_v 4 st (by repeat constructor) rfl (by decide +kernel) rfl (v_move st rfl) ?_; clear st; intro _ st
  (first | refine d_g 5 st (by repeat constructor) rfl (by decide +kernel) rfl rfl rfl (v_move st rfl) ?_ ); clear st; intro _ st
  refine d_v 6 st (by repeat constructor) rfl (by decide +kernel) rfl (by first | exact v_pickT st rfl rfl | exact v_pickF st rfl rfl) ?_; clear st; intro _ st
  refine d_v 7 st (by repeat constructor) rfl (by decide +kernel) rfl (v_move st rfl) ?_; clear st; intro _ st
  (first | refine d_g 8 st (by repeat constructor) rfl (by decide +kernel) rfl rfl rfl (v_move st rfl) ?_ ); clear st; intro _ st
  refine d_v 9 st (by repeat constructor) rfl (by decide +kernel) rfl (by first | exact v_pickT st rfl rfl | exact v_pickF st rfl rfl) ?_; clear st; intro _ st
  refine d_v 10 st (by repeat constructor) rfl (by decide +kernel) rfl (v_move st rfl) ?_; clear st; intro _ st
  (first | refine d_g 11 st (by repeat constructor) rfl (by decide +kernel) rfl rfl rfl (v_move st rfl) ?_ ); clear st; intro _ st
  refine d_v 12 st (by repeat constructor) rfl (by decide +kernel) rfl (by first | exact v_pickT st rfl rfl | exact v_pickF st rfl rfl) ?_; clear st; intro _ st
  refine d_v 13 st (by repeat constructor) rfl (by decide +kernel) rfl (v_move st rfl) ?_; clear st; intro _ st
  (first | refine d_g 14 st (by repeat constructor) rfl (by decide +kernel) rfl rfl rfl (v_move st rfl) ?_ ); clear st; intro _ st
  refine d_v 15 st (by repeat constructor) rfl (by decide +kernel) rfl (by first | exact v_pickT st rfl rfl | exact v_pickF st rfl rfl) ?_; clear st; intro _ st
  refine d_v 16 st (by repeat constructor) rfl (by decide +kernel) rfl (v_move st rfl) ?_; clear st; intro _ st
  (first | refine d_g 17 st (by repeat constructor) rfl (by decide +kernel) rfl rfl rfl (v_move st rfl) ?_ ); clear st; intro _ st
  (first | refine d_g 18 st (by repeat constructor) rfl (by decide +kernel) rfl rfl rfl (v_not st rfl) ?_ ); clear st; intro _ st
  refine d_v 19 st (by repeat constructor) rfl (by decide +kernel) rfl (by first | exact v_pickT st rfl rfl | exact v_pickF st rfl rfl) ?_; clear st; intro _ st
  refine d_v 20 st (by repeat constructor) rfl (by decide +kernel) rfl (v_move st rfl) ?_; clear st; intro _ st
  (first | refine d_g 21 st (by repeat constructor) rfl (by decide +kernel) rfl rfl rfl (v_move st rfl) ?_ ); clear st; intro _ st
  (first | refine d_g 22 st (by repeat constructor) rfl (by decide +kernel) rfl rfl rfl (v_len st rfl) ?_ ); clear st; intro _ st
  (first | refine d_g 23 st (by repeat constructor) rfl (by decide +kernel) rfl rfl rfl (v_move st rfl) ?_ ); clear st; intro _ st
  (first | refine d_g 24 st (by repeat constructor) rfl (by decide +kernel) rfl rfl rfl (v_add64 st rfl rfl (by omega) (by omega)) ?_ ); clear st; intro _ st
  (first | refine d_g 25 st (by repeat constructor) rfl (by decide +kernel) rfl rfl rfl (v_move st rfl) ?_ ); clear st; intro _ st
  (first | refine d_g 26 st (by repeat constructor) rfl (by decide +kernel) rfl rfl rfl (v_add64 st rfl rfl (by omega) (by omega)) ?_ ); clear st; intro _ st
  (first | refine d_g 27 st (by repeat constructor) rfl (by decide +kernel) rfl rfl rfl (v_mulW st rfl rfl) ?_ ); clear st; intro _ st
  (first | refine d_g 28 st (by repeat constructor) rfl (by decide +kernel) rfl rfl rfl (v_quo64E ((g + 2) * (g + 3)) 2 st rfl rfl hw2 (by omega) (by rcases hg with rfl | rfl <;> decide)) ?_ ); clear st; intro _ st
  (first | refine d_g 29 st (by repeat constructor) rfl (by decide +kernel) rfl rfl rfl (v_eqlI st rfl rfl hq2) ?_ ); clear st; intro _ st
  refine d_v 30 st (by repeat constructor) rfl (by decide +kernel) rfl (by first | exact v_pickT st rfl rfl | exact v_pickF st rfl rfl) ?_; clear st; intro _ st
  refine d_v 31 st (by repeat constructor) rfl (by decide +kernel) rfl (v_move st rfl) ?_; clear st; intro _ st
  (first | refine d_g 32 st (by repeat constructor) rfl (by decide +kernel) rfl rfl rfl (by first | exact v_load3 st rfl (by repeat constructor) | exact v_loadS st rfl (by repeat constructor) rfl) ?_ ); clear st; intro _ st
  (first | refine d_g 33 st (by repeat constructor) rfl (by decide +kernel) rfl rfl rfl (by first | exact v_load3 st rfl (by repeat constructor) | exact v_loadS st rfl (by repeat constructor) rfl) ?_ ); clear st; intro _ st
  (first | (refine d_oneG 34 (by decide +kernel) rfl st rfl rfl ?_; refine o_callR st rfl (a1 _) rfl ?_; clear st; rintro _ ⟨r1, rfl, i1, f1, u1⟩ _ _ st; refine kh st (by repeat constructor) ?_))
  (first | refine d_g 35 st (by repeat constructor) rfl (by decide +kernel) rfl rfl rfl (v_flssK st rfl rfl i1 (Is_lit (by decide +kernel)) (gap_lt f1 lit1.1 u1 lit1.2)) ?_ ); clear st; intro _ st
  refine d_v 36 st (by repeat constructor) rfl (by decide +kernel) rfl (by first | exact v_pickT st rfl rfl | exact v_pickF st rfl rfl) ?_; clear st; intro _ st
  refine d_v 37 st (by repeat constructor) rfl (by decide +kernel) rfl (v_move st rfl) ?_; clear st; intro _ st
  (first | refine d_g 38 st (by repeat constructor) rfl (by decide +kernel) rfl rfl rfl (by first | exact v_load3 st rfl (by repeat constructor) | exact v_loadS st rfl (by repeat constructor) rfl) ?_ ); clear st; intro _ st
  (first | refine d_g 39 st (by repeat constructor) rfl (by decide +kernel) rfl rfl rfl (v_move st rfl) ?_ ); clear st; intro _ st
  (first | refine d_g 40 st (by repeat constructor) rfl (by decide +kernel) rfl rfl rfl (v_indexAddr st rfl rfl (by omega) (by omega)) ?_ ); clear st; intro _ st
  (first | refine d_g 41 st (by repeat constructor) rfl (by decide +kernel) rfl rfl rfl (v_loadSp st rfl (by repeat constructor) w0) ?_ ); clear st; intro _ st
  (first | (refine d_oneG 42 (by decide +kernel) rfl st rfl rfl ?_; refine o_callR st rfl (a2 _) rfl ?_; clear st; rintro _ ⟨r2, rfl, i2, f2, u2⟩ _ _ st; refine kh st (by repeat constructor) ?_))
  (first | refine d_g 43 st (by repeat constructor) rfl (by decide +kernel) rfl rfl rfl (v_flssK st rfl rfl i2 (Is_lit (by decide +kernel)) (gap_lt f2 lit2.1 u2 lit2.2)) ?_ ); clear st; intro _ st
  refine d_v 44 st (by repeat constructor) rfl (by decide +kernel) rfl (by first | exact v_pickT st rfl rfl | exact v_pickF st rfl rfl) ?_; clear st; intro _ st
  refine d_v 45 st (by repeat constructor) rfl (by decide +kernel) rfl (v_move st rfl) ?_; clear st; intro _ st
  (first | refine d_g 46 st (by repeat constructor) rfl (by decide +kernel) rfl rfl rfl (by first | exact v_load3 st rfl (by repeat constructor) | exact v_loadS st rfl (by repeat constructor) rfl) ?_ ); clear st; intro _ st
  (first | refine d_g 47 st (by repeat constructor) rfl (by decide +kernel) rfl rfl rfl (v_move st rfl) ?_ ); clear st; intro _ st
  (first | refine d_g 48 st (by repeat constructor) rfl (by decide +kernel) rfl rfl rfl (v_move st rfl) ?_ ); clear st; intro _ st
  (first | refine d_g 49 st (by repeat constructor) rfl (by decide +kernel) rfl rfl rfl (v_indexAddr st rfl rfl (by omega) (by omega)) ?_ ); clear st; intro _ st
  (first | refine d_g 50 st (by repeat constructor) rfl (by decide +kernel) rfl rfl rfl (v_loadSp st rfl (by repeat constructor) w1) ?_ ); clear st; intro _ st
  (first | (refine d_oneG 51 (by decide +kernel) rfl st rfl rfl ?_; refine o_callR st rfl (a3 _) rfl ?_; clear st; rintro _ ⟨r3, rfl, i3, f3, u3⟩ _ _ st; refine kh st (by repeat constructor) ?_))
  (first | refine d_g 52 st (by repeat constructor) rfl (by decide +kernel) rfl rfl rfl (v_flssK st rfl rfl i3 (Is_lit (by decide +kernel)) (gap_lt f3 lit2.1 u3 lit2.2)) ?_ ); clear st; intro _ st
  refine d_v 53 st (by repeat constructor) rfl (by decide +kernel) rfl (by first | exact v_pickT st rfl rfl | exact v_pickF st rfl rfl) ?_; clear st; intro _ st
  refine d_v 54 st (by repeat constructor) rfl (by decide +kernel) rfl (v_move st rfl) ?_; clear st; intro _ st
  (first | refine d_g 55 st (by repeat constructor) rfl (by decide +kernel) rfl rfl rfl (by first | exact v_load3 st rfl (by repeat constructor) | exact v_loadS st rfl (by repeat constructor) rfl) ?_ ); clear st; intro _ st
  (first | refine d_g 56 st (by repeat constructor) rfl (by decide +kernel) rfl rfl rfl (v_move st rfl) ?_ ); clear st; intro _ st
  (first | refine d_g 57 st (by repeat constructor) rfl (by decide +kernel) rfl rfl rfl (v_move st rfl) ?_ ); clear st; intro _ st
  (first | refine d_g 58 st (by repeat constructor) rfl (by decide +kernel) rfl rfl rfl (v_len st rfl) ?_ ); clear st; intro _ st
  (first | refine d_g 59 st (by repeat constructor) rfl (by decide +kernel) rfl rfl rfl (v_sub64 st rfl rfl (by omega) (by omega)) ?_ ); clear st; intro _ st
  (first | refine d_g 60 st (by repeat constructor) rfl (by decide +kernel) rfl rfl rfl (v_indexAddr st rfl rfl (by omega) (by omega)) ?_ ); clear st; intro _ st
  (first | refine d_g 61 st (by repeat constructor) rfl (by decide +kernel) rfl rfl rfl (v_loadSp st rfl (by repeat constructor) w2) ?_ ); clear st; intro _ st
  (first | (refine d_oneG 62 (by decide +kernel) rfl st rfl rfl ?_; refine o_callR st rfl (a4 _) rfl ?_; clear st; rintro _ ⟨r4, rfl, i4, f4, u4⟩ _ _ st; refine kh st (by repeat constructor) ?_))
  (first | refine d_g 63 st (by repeat constructor) rfl (by decide +kernel) rfl rfl rfl (v_flssK st rfl rfl i4 (Is_lit (by decide +kernel)) (gap_lt f4 lit2.1 u4 lit2.2)) ?_ ); clear st; intro _ st
  refine d_v 64 st (by repeat constructor) rfl (by decide +kernel) rfl (by first | exact v_pickT st rfl rfl | exact v_pickF st rfl rfl) ?_; clear st; intro _ st
  refine d_one 65 (by decide +kernel) rfl ?_
  (first | (refine o_assign st rfl rfl ?_; clear st; intro _ st))
  refine k_last ?_
  refine d_done (by decide +kernel) ?_
  (repeat' (first | refine c_seq ?_  | refine c_region ?_  | refine l_do ?_  | refine l_nil ?_  | refine x_then ?_  | refine x_thenR ?_  | refine wp_ret ?_  | refine wp_skip ?_  | refine c_condT st rfl ?_  | refine c_condF st rfl ?_  | ((first | refine o_move st rfl rfl ?_  | refine o_assign st rfl rfl ?_ ); clear st; intro _ st)  | (refine o_alloc st rfl ?_; clear st; intro _ _ _ st)  | ((first | refine o_storeW st rfl rfl (by repeat constructor) rfl rfl rfl ?_); clear st; intro _ _ st)  | ((first | refine o_extract st rfl rfl rfl ?_  | refine o_add64 st rfl rfl rfl (by omega) (by omega) ?_  | refine o_mulW st rfl rfl rfl ?_ ); clear st; intro _ st)  | (refine o_fop rfl st rfl rfl (by first | assumption | exact Is_ofInt _ _ | exact Is_lit (by decide +kernel)) (by first | assumption | exact Is_ofInt _ _ | exact Is_lit (by decide +kernel)) rfl ?_; clear st; intro _ _ _ _ st)  | ((first | refine o_intFloat st rfl rfl ?_); clear st; intro _ st) ))
  refine post1 st Try.results10 (rd_t st rfl) ?_
  exact ⟨rfl, st.below⟩
end

set_option maxRecDepth 100000 in
theorem FnPatches_lifted (os : Os) (started : os.Started) (H : Type) (enc : TypeId × Value → H) :
    ReturnsInHanded {} Try.checked os 10 .any (Rows.fnPatchesSpec.pre6 enc Try.prog Try.f10 Rows.fnPatchesRow.domain false) (Rows.fnPatchesSpec.post enc Try.prog Try.f10 false true false false) := by
  refine returnsInHanded_of_change (C := Try.checked) own_ started (by kernel_rfl) Try.func10
    (ChangeSpec.witness6 (enc := enc) (C := Try.checked) false ⟨#[], #[.slice none 0 0, .slice none 0 0], []⟩ 8 (by kernel_rfl) (by kernel_rfl) (by kernel_rfl) (by kernel_rfl)) ?_
  intro W base args ds gs before hval0 hW hcnd _
  have hval : ∀ (j : Nat) t v, Try.f10.params[j]? = some t → args[j]? = some v → Value.okWide Try.prog W .any base t v := hval0
  have hW' := hW
  obtain ⟨p, q, hA0, hV, rfl, hfz, hnd⟩ := hW
  have hA : DataW.TrodAll enc Try.prog W 0 (fun _ => true) true Try.f10.params.toList args.toList ds p := hA0
  rw [Try.params10] at hA hval
  obtain ⟨v0, vs0, d0, ds0, p0, q0, hargs, rfl, rfl, h0, r0⟩ := trodAll_cons hA
  obtain ⟨v1, vs1, d1, ds1, p1, q1, rfl, rfl, rfl, h1, r1⟩ := trodAll_cons r0
  obtain ⟨rfl, rfl, rfl⟩ := trodAll_nil r1
  obtain rfl : args = #[v0, v1] := by cases args; simp_all
  obtain ⟨rfl, rfl⟩ := trodVars_none hV
  have k0 := h0
  have lt0 : ∀ x ∈ p0, x.block < W.heap.size := by obtain ⟨m, hm⟩ := k0; exact DataW.trod_lt m _ _ _ hm
  obtain ⟨cs0, ba0, cap0, rfl, rd0, ok0, len0⟩ := bytes_of_trod (hval 0 57 v0 rfl rfl) h0
  have k1 := h1
  have lt1 : ∀ x ∈ p1, x.block < W.heap.size := by obtain ⟨m, hm⟩ := k1; exact DataW.trod_lt m _ _ _ hm
  obtain ⟨cs1, ba1, cap1, rfl, rd1, ok1, len1⟩ := bytes_of_trod (hval 1 57 v1 rfl rfl) h1
  clear hA0 hval0
  refine (patches_walk cs0 ba0 cap0 cs1 ba1 cap1 W rd0 ok0 len0 rd1 ok1 len1).mono fun e W' ⟨he, bel⟩ => ?_
  subst he
  exact ⟨_, rfl, _, _, _, [], _, [], hW', trodAll_mk1 (shut_bool Try.underlying4 _), (trodAll_cons_mk (Below.trod laidOut_ (by kernel_rfl) (of_decide_eq_true (by kernel_rfl)) k0 bel lt0) (trodAll_cons_mk (Below.trod laidOut_ (by kernel_rfl) (of_decide_eq_true (by kernel_rfl)) k1 bel lt1) trodAll_mk0)), rfl, bel.frame _, fun h => by cases h⟩

/-- For every input the law returns true, and each argument reads behind the call as it read before. -/
theorem FnPatches_holds : Rows.FnPatchesSaid :=
  OpenClaim.holds_of_wide 10 Try.f10 rfl rfl rfl rfl rfl rfl rfl ⟨rfl, rfl, rfl, rfl, rfl⟩ rfl rfl rfl rfl rfl (by as_aux_lemma => kernel_rfl) Try.func10 (closed_of 10 Try.f10 Rows.fnPatchesSpec Rows.fnPatchesRow rfl rfl (by as_aux_lemma => kernel_rfl) (by as_aux_lemma => kernel_rfl) (by as_aux_lemma => kernel_rfl) (by as_aux_lemma => kernel_rfl) (by as_aux_lemma => kernel_rfl))
    (of_decide_eq_true (by kernel_rfl)) (by unfold Func.isWrapper; first | (rw [if_pos (by decide +kernel)]; kernel_rfl) | (rw [if_neg (by decide +kernel)]; exact ⟨rfl, rfl⟩))
    (fun os started H enc _ => FnPatches_lifted os started H enc)

end Go.Proofs.Ytefnlalldgbcaaa
