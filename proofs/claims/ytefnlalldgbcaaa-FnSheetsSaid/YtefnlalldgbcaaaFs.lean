/-
  The statement FnSheets: sheets pass through their corners; those that are cut or flipped are the same, nearly; edges are theirs; any number of workers makes the same tiles.
-/
import Derived.Test.YtefnlalldgbcaaaRows
import Derived.Test.YtefnlalldgbcaaaPick
import Derived.Test.YtefnlalldgbcaaaShd
import Derived.Test.YtefnlalldgbcaaaCut
import Derived.Test.YtefnlalldgbcaaaAreaI
import Derived.Test.YtefnlalldgbcaaaNear
import Derived.Test.YtefnlalldgbcaaaClosed
namespace Go.Proofs.Ytefnlalldgbcaaa
open Go.ChangeShapes Go.WideShapes Go.ChangeAt Go.RowKit Go.Joins

section
variable {P : Program} {w0 w : World} {N : Nat} {a : Act} {E : List (Nat × Value)} {L Lh : List Ent} {K : Act → World → Prop} {Q : Exit → Act → World → Prop}
variable {d : Nat} {ty : TypeId} {pos : String} {aft : Array Edge} {g : Option (Nat × Bool)}
theorem v_geqI {x y : Operand} {t ys : TypeId} {k : IntKind} {i j : Int} {r : Bool} (st : St w0 N a w E L) (hx : evE E x = some (.int k i)) (hy : evE E y = some (.int k j)) (hr : decide (j ≤ i) = r) : Vl P a Lh (.binOp .geq t x y ys) (.bool r) := by
  subst hr
  intro d ty pos aft g w' _
  simp [execOp, evE_eval st hx, evE_eval st hy, binOp_geq, eqGuard_geq]
theorem v_lssI {x y : Operand} {t ys : TypeId} {k : IntKind} {i j : Int} {r : Bool} (st : St w0 N a w E L) (hx : evE E x = some (.int k i)) (hy : evE E y = some (.int k j)) (hr : decide (i < j) = r) : Vl P a Lh (.binOp .lss t x y ys) (.bool r) := by
  subst hr
  intro d ty pos aft g w' _
  simp [execOp, evE_eval st hx, evE_eval st hy, binOp_lss, eqGuard_lss]
theorem o_callCut {f : FuncId} {args : List Operand} {tys : Array TypeId} {vs : List Value} {m n : Int} {ss tt : List S3} [hf : FnT P f] (st : St w0 N a w E L) (ha : evs E args = some vs)
    (hc : CSh2GC P f vs w m n ss tt) (hq : (validC m n ss && validC m n tt) = true) (hd : Nat.blt d N = true) (h : ∀ b bs cap pad b' bs' cap' pad', bs.length ≤ cap → bs'.length ≤ cap' → IsSL bs ss → IsSL bs' tt → ∀ a' w', St w0 N a' w' ((d, .tuple #[vSh m n (some ⟨b, 0, none⟩) bs.length cap, vSh m n (some ⟨b', 0, none⟩) bs'.length cap', .bool true]) :: E) (⟨b, true, oS bs pad⟩ :: ⟨b', true, oS bs' pad'⟩ :: L) → K a' w') : Oper.wp P ⟨some d, .call { callee := .value (.func f), args := args.toArray, argTypes := tys }, ty, pos, aft, g⟩ a w K Q :=
  o_call st ha hc fun _ _ ⟨b, bs, cap, pad, b', bs', cap', pad', he, h1, h2, hI, hI', hx⟩ => ⟨_, (by rw [he, hq]; rfl), h b bs cap pad b' bs' cap' pad' h1 h2 hI hI' _ _ ((st.ext2 hx).put d hd _)⟩
end

attribute [local irreducible] Code.wp wpList Oper.wp Calls bodyPost Exit.then Exit.inBlock

theorem implTriY (m n : Nat) (hm : m ≤ 12) (hn : n ≤ 12) (hq : (inB m 1 12 && inB n 1 12) = true) (w : World) : CM1 Try.prog 36 [.int .i64 m, .int .i64 n] w fun v b o => ∃ cap pad, v = .tuple #[.slice (some ⟨b, 0, none⟩) (triM m m n).length cap, .bool true] ∧ o = oI (triM m m n) pad := by
  refine enter Try.func36 rfl rfl rfl rfl ?_
  intro a st
  have hc := fun w => areTiles_ok m n w
  rw [hq] at hc
  (repeat' (first | (refine o_callV st rfl (hc _) rfl ?_; clear st; intro _ _ st)  | (refine o_callM1 st rfl (triangles_ok m n hm hn _) rfl ?_; clear st; rintro _ blk _ ⟨cap, pad, rfl, rfl⟩ _ _ st)  | refine c_seq ?_  | refine c_region ?_  | refine l_do ?_  | refine l_nil ?_  | refine x_then ?_  | refine wp_ret ?_  | refine wp_skip ?_  | refine c_condF st rfl ?_  | ((first | refine o_move st rfl rfl ?_  | refine o_assign st rfl rfl ?_  | refine o_notT st rfl rfl ?_ ); clear st; intro _ st)))
  refine post2 st Try.results36 (rd_t st rfl) (rd_t st rfl) ?_
  exact ⟨_, blk, _, rfl, ⟨cap, pad, rfl, rfl⟩, st.ex1 (by repeat constructor)⟩

theorem sameL_refl : ∀ ss : List S3, sameL ss ss = true
  | [] => rfl
  | s :: ss => by
    show (sameS s s && sameL ss ss) = true
    rw [sameL_refl ss]
    unfold sameS
    simp

section
set_option maxRecDepth 100000
set_option maxHeartbeats 64000000

theorem sheets_walk (cs : List Int) (ba : Option Addr) (cap : Nat) (cs' : List Int) (ba' : Option Addr) (cap' : Nat) (w : World) (hr : RdB w ba cs) (hok : okB cs) (hl : cs.length ≤ 9223372036854775807) (hr' : RdB w ba' cs') (hok' : okB cs') (hl' : cs'.length ≤ 9223372036854775807) :
    Calls Try.prog 29 [.slice ba cs.length cap, .slice ba' cs'.length cap'].toArray w fun e w' => e = .returned (.bool true) ∧ Below w.heap.size w w' := by
  have hz := fun w => r8Long_ok cs.length cs'.length cap cap' ba ba' hl hl' w
  refine enter Try.func29 rfl rfl rfl rfl ?_
  intro a st
  by_cases hbig : (decide (48 < cs.length) || decide (48 < cs'.length)) = true
  · rw [hbig] at hz
    (repeat' (first | (refine o_callV st rfl (hz _) rfl ?_; clear st; intro _ _ st)  | refine c_seq ?_  | refine c_region ?_  | refine l_do ?_  | refine l_doG st rfl rfl ?_  | refine l_nil ?_  | refine x_then ?_  | refine x_thenR ?_  | refine x_thenE ?_  | refine x_blkN ?_  | refine x_blkE ?_  | refine wp_ret ?_  | refine wp_skip ?_  | refine wp_block ?_  | refine wp_exit ?_  | refine c_condT st rfl ?_  | refine c_condF st rfl ?_  | ((first | refine o_move st rfl rfl ?_  | refine o_assign st rfl rfl ?_  | refine o_pickF st rfl rfl rfl ?_); clear st; intro _ st)  | (refine o_alloc st rfl ?_; clear st; intro _ _ _ st)  | ((first | refine o_fieldAddr st rfl rfl ?_  | refine o_loadS st rfl (by repeat constructor) rfl rfl ?_  | refine o_load3 st rfl (by repeat constructor) rfl ?_ ); clear st; intro _ st)  | ((first | refine o_storeW st rfl rfl (by repeat constructor) rfl rfl rfl ?_); clear st; intro _ _ st)  | ((first | refine o_extract st rfl rfl rfl ?_  | refine o_len st rfl rfl ?_  | refine o_add64 st rfl rfl rfl (by omega) (by omega) ?_  | refine o_sub64 st rfl rfl rfl (by omega) (by omega) ?_  | refine o_notT st rfl rfl ?_ ); clear st; intro _ st)  | (refine o_fop rfl st rfl rfl (by first | assumption | exact Is_ofInt _ _ | exact Is_lit (by decide +kernel)) (by first | assumption | exact Is_ofInt _ _ | exact Is_lit (by decide +kernel)) rfl ?_; clear st; intro _ _ _ _ st)  | ((first | refine o_intFloat st rfl rfl ?_); clear st; intro _ st)  | ((first | refine o_lss st rfl rfl rfl ?_ ?_  | refine o_geq st rfl rfl rfl ?_ ?_  | refine o_eqlI st rfl rfl rfl ?_ ?_  | refine o_neqI st rfl rfl rfl ?_ ?_) <;> clear st <;> intro _ _ st <;> (try (exfalso; omega))) ))
    refine post1 st Try.results29 (rd_t st rfl) ?_
    exact ⟨rfl, st.below⟩
  have hbig : (decide (48 < cs.length) || decide (48 < cs'.length)) = false := by simpa using hbig
  rw [hbig] at hz
  have hlen : cs.length ≤ 48 ∧ cs'.length ≤ 48 := by simpa using hbig
  (repeat' (first | (refine o_callV st rfl (hz _) rfl ?_; clear st; intro _ _ st)  | (refine o_callM1 st rfl (R8Sheet_ok cs hok (by omega) ba cap _ (hr.mono st.below)) rfl ?_; clear st; rintro _ sb _ ⟨M, K, os, ss, cp, pad, rfl, rfl, hcp, hI, ⟨hM, hM4, hK, hK4⟩, hsl, h4⟩ _ _ st)  | (refine o_alloc st rfl ?_; clear st; intro p5 _ _ st)  | (refine o_callR st rfl (r8At_ok cs' hok' (by omega) ba' cap' 0 17 (by omega) _ (hr'.mono st.below)) rfl ?_; clear st; rintro _ ⟨x, rfl, hx⟩ _ _ st)  | (refine o_callR st rfl (r8At_ok cs' hok' (by omega) ba' cap' 1 17 (by omega) _ (hr'.mono st.below)) rfl ?_; clear st; rintro _ ⟨y, rfl, hy⟩ _ _ st)  | (refine o_callR st rfl (r8At_ok cs' hok' (by omega) ba' cap' 2 17 (by omega) _ (hr'.mono st.below)) rfl ?_; clear st; rintro _ ⟨z, rfl, hz'⟩ _ _ st)  | (refine o_fop (ci := some (floatOfInt .f32 (x : Int))) rfl st rfl rfl (Is_ofInt _ _) (Is_lit (by decide +kernel)) rfl ?_; clear st; intro t _ _ ht st)  | (refine o_fop (ci := some (floatOfInt .f32 (y : Int))) rfl st rfl rfl (Is_ofInt _ _) (Is_lit (by decide +kernel)) rfl ?_; clear st; intro u _ _ hu st)  | (refine o_fop (ci := some (floatOfInt .f32 (z : Int))) rfl st rfl rfl (Is_ofInt _ _) (Is_lit (by decide +kernel)) rfl ?_; clear st; intro v _ _ hv st)  | refine c_seq ?_  | refine c_region ?_  | refine l_do ?_  | refine l_doG st rfl rfl ?_  | refine l_nil ?_  | refine x_then ?_  | refine x_thenR ?_  | refine x_thenE ?_  | refine x_blkN ?_  | refine x_blkE ?_  | refine wp_ret ?_  | refine wp_skip ?_  | refine wp_block ?_  | refine wp_exit ?_  | refine c_condT st rfl ?_  | refine c_condF st rfl ?_  | ((first | refine o_move st rfl rfl ?_  | refine o_assign st rfl rfl ?_  | refine o_pickF st rfl rfl rfl ?_); clear st; intro _ st)  | (refine o_alloc st rfl ?_; clear st; intro _ _ _ st)  | ((first | refine o_fieldAddr st rfl rfl ?_  | refine o_loadS st rfl (by repeat constructor) rfl rfl ?_  | refine o_load3 st rfl (by repeat constructor) rfl ?_ ); clear st; intro _ st)  | ((first | refine o_storeW st rfl rfl (by repeat constructor) rfl rfl rfl ?_); clear st; intro _ _ st)  | ((first | refine o_extract st rfl rfl rfl ?_  | refine o_len st rfl rfl ?_  | refine o_add64 st rfl rfl rfl (by omega) (by omega) ?_  | refine o_sub64 st rfl rfl rfl (by omega) (by omega) ?_  | refine o_notT st rfl rfl ?_ ); clear st; intro _ st)  | (refine o_fop rfl st rfl rfl (by first | assumption | exact Is_ofInt _ _ | exact Is_lit (by decide +kernel)) (by first | assumption | exact Is_ofInt _ _ | exact Is_lit (by decide +kernel)) rfl ?_; clear st; intro _ _ _ _ st)  | ((first | refine o_intFloat st rfl rfl ?_); clear st; intro _ st)  | ((first | refine o_lss st rfl rfl rfl ?_ ?_  | refine o_geq st rfl rfl rfl ?_ ?_  | refine o_eqlI st rfl rfl rfl ?_ ?_  | refine o_neqI st rfl rfl rfl ?_ ?_) <;> clear st <;> intro _ _ st <;> (try (exfalso; omega))) ))
  have hol := hI.len
  have h16 : M * K ≤ 4 * 4 := Nat.mul_le_mul hM4 hK4
  have hS := sap_of hsl h4
  have F := sheF hsl h4 hM hM4 hK hK4 (xS_ex (n := y) (by omega)) (xS_ex (n := z) (by omega)) (xS_ex (n := x) (by omega)) (by omega) (by omega) (by omega)
  have hu : Is .f32 u (xC y) := hu
  have hv : Is .f32 v (xC z) := hv
  have ht : Is .f32 t (xC x) := ht
  generalize xC (x : Int) = tc at F ht
  generalize xC (y : Int) = uc at F hu
  generalize xC (z : Int) = vc at F hv
  have hone : Is .f32 1065353216 one32 := Is_lit (by decide +kernel)
  have p1 := fun (w : World) h => implAt_ok M K os ss hI (some ⟨sb, 0, none⟩) cp hcp u v uc vc hu hv w h (by omega)
  rw [F.at_] at p1
  have pf := fun (w : World) h => implFlip_yesC M K os ss hI (some ⟨sb, 0, none⟩) cp F.valid w h (by omega)
  have p2 := fun (fs : List B3) (hF : IsSL fs (flipL ss M K)) (w : World) base cap hc h => implAt_ok K M fs _ hF base cap hc v u vc uc hv hu w h (by have := hF.len; rw [flipL_length] at this; omega)
  rw [F.fat] at p2
  have pg := fun (fs : List B3) (hF : IsSL fs (flipL ss M K)) (w : World) base cap h => implFlip_yesC K M fs _ hF base cap F.fvalid w h (by have := hF.len; rw [flipL_length] at this; omega)
  have eg : flipL (flipL ss M K) (K : Int).toNat (M : Int).toNat = ss := F.again
  rw [eg] at pg
  have pc := fun (w : World) h => implCut_okC M K os ss hI (some ⟨sb, 0, none⟩) cp hcp t tc ht F.cut w h (by omega)
  have hvAB : (validC M K (cutLA M K ss tc) && validC M K (cutLB M K ss tc)) = true := by
    have h1 : validC M K (cutLA M K ss tc) = true := F.vA
    have h2 : validC M K (cutLB M K ss tc) = true := F.vB
    rw [h1, h2]
    rfl
  have pl := fun (ls : List B3) (hL : IsSL ls (cutA ss M tc K)) (w : World) base cap hc h => implAt_ok M K ls _ hL base cap hc u v uc vc hu hv w h (by have := hL.len; rw [cutA_length, Nat.mul_comm] at this; omega)
  rw [F.aat] at pl
  have pr := fun (ls : List B3) (hL : IsSL ls (cutB ss M tc K)) (w : World) base cap hc h => implAt_ok M K ls _ hL base cap hc u v uc vc hu hv w h (by have := hL.len; rw [cutB_length, Nat.mul_comm] at this; omega)
  rw [F.cat] at pr
  have pm := fun (m : Nat) (hm : Is .f32 m (mulT uc tc)) (w : World) h => implAt_ok M K os ss hI (some ⟨sb, 0, none⟩) cp hcp m v _ vc hm hv w h (by omega)
  rw [F.bat] at pm
  have pp := fun (m : Nat) (hm : Is .f32 m (pushT uc tc)) (w : World) h => implAt_ok M K os ss hI (some ⟨sb, 0, none⟩) cp hcp m v _ vc hm hv w h (by omega)
  rw [F.dat] at pp
  have pz := fun (w : World) h => implAt_ok M K os ss hI (some ⟨sb, 0, none⟩) cp hcp 0 1065353216 (some 0) one32 Is_z hone w h (by omega)
  rw [F.eat] at pz
  (repeat' (first | (refine o_callSBb st rfl (p1 _ (RdS.of (st.heap (by repeat constructor)) (spotsIn0p _ _))) rfl ?_; clear st; intro b1 hb1 _ _ st)  | (refine o_alloc st rfl ?_; clear st; intro _ _ _ st)  | (refine o_callM1 st rfl (pf _ (RdS.of (st.heap (by repeat constructor)) (spotsIn0p _ _))) rfl ?_; clear st; rintro _ fb _ ⟨fs, fcap, fpad, hfc, rfl, rfl, hF⟩ _ _ st)  | (refine o_callM1 st rfl (pg fs hF _ _ _ (RdS.of (st.heap (by repeat constructor)) (spotsIn0p _ _))) rfl ?_; clear st; rintro _ gb _ ⟨gs, gcap, gpad, hgc, rfl, rfl, hG⟩ _ _ st)  | (refine o_callSBb st rfl (p2 fs hF _ _ _ hfc (RdS.of (st.heap (by repeat constructor)) (spotsIn0p _ _))) rfl ?_; clear st; intro b2 hb2 _ _ st)  | (refine o_callCut st rfl (pc _ (RdS.of (st.heap (by repeat constructor)) (spotsIn0p _ _))) hvAB rfl ?_; clear st; intro lb ls lcap lpad rb rs rcap rpad hlc hrc hL hR _ _ st)  | (refine o_callSBb st rfl (pl ls hL _ _ _ hlc (RdS.of (st.heap (by repeat constructor)) (spotsIn0p _ _))) rfl ?_; clear st; intro b3 hb3 _ _ st)  | (refine o_callSBb st rfl (pm _ (by assumption) _ (RdS.of (st.heap (by repeat constructor)) (spotsIn0p _ _))) rfl ?_; clear st; intro b4 hb4 _ _ st)  | (refine o_callSBb st rfl (pr rs hR _ _ _ hrc (RdS.of (st.heap (by repeat constructor)) (spotsIn0p _ _))) rfl ?_; clear st; intro b5 hb5 _ _ st)  | (refine o_callSBb st rfl (pp _ (by assumption) _ (RdS.of (st.heap (by repeat constructor)) (spotsIn0p _ _))) rfl ?_; clear st; intro b6 hb6 _ _ st)  | (refine o_callSBb st rfl (pz _ (RdS.of (st.heap (by repeat constructor)) (spotsIn0p _ _))) rfl ?_; clear st; intro b7 hb7 _ _ st)  | refine c_seq ?_  | refine c_region ?_  | refine l_do ?_  | refine l_doG st rfl rfl ?_  | refine l_nil ?_  | refine x_then ?_  | refine x_thenR ?_  | refine x_thenE ?_  | refine x_blkN ?_  | refine x_blkE ?_  | refine wp_ret ?_  | refine wp_skip ?_  | refine wp_block ?_  | refine wp_exit ?_  | refine c_condT st rfl ?_  | refine c_condF st rfl ?_  | ((first | refine o_move st rfl rfl ?_  | refine o_assign st rfl rfl ?_  | refine o_pickF st rfl rfl rfl ?_); clear st; intro _ st)  | (refine o_alloc st rfl ?_; clear st; intro _ _ _ st)  | ((first | refine o_fieldAddr st rfl rfl ?_  | refine o_loadS st rfl (by repeat constructor) rfl rfl ?_  | refine o_load3 st rfl (by repeat constructor) rfl ?_ ); clear st; intro _ st)  | ((first | refine o_storeW st rfl rfl (by repeat constructor) rfl rfl rfl ?_); clear st; intro _ _ st)  | ((first | refine o_extract st rfl rfl rfl ?_  | refine o_len st rfl rfl ?_  | refine o_add64 st rfl rfl rfl (by omega) (by omega) ?_  | refine o_sub64 st rfl rfl rfl (by omega) (by omega) ?_  | refine o_notT st rfl rfl ?_ ); clear st; intro _ st)  | (refine o_fop rfl st rfl rfl (by first | assumption | exact Is_ofInt _ _ | exact Is_lit (by decide +kernel)) (by first | assumption | exact Is_ofInt _ _ | exact Is_lit (by decide +kernel)) rfl ?_; clear st; intro _ _ _ _ st)  | ((first | refine o_intFloat st rfl rfl ?_); clear st; intro _ st)  | ((first | refine o_lss st rfl rfl rfl ?_ ?_  | refine o_geq st rfl rfl rfl ?_ ?_  | refine o_eqlI st rfl rfl rfl ?_ ?_  | refine o_neqI st rfl rfl rfl ?_ ?_) <;> clear st <;> intro _ _ st <;> (try (exfalso; omega))) ))
  have hB0 := bb0
  have hB1 := bb1
  have hmk : M * (K - 1) + M = M * K := by
    have := Nat.mul_succ M (K - 1)
    rw [Nat.succ_eq_add_one, show K - 1 + 1 = K by omega] at this
    omega
  have eI : (M : Int) * ((K : Int) - 1) = ((M * (K - 1) : Nat) : Int) := by
    rw [Int.natCast_mul, Int.natCast_sub (by omega)]
    rfl
  have e0 : -9223372036854775808 ≤ (M : Int) * ((K : Int) - 1) := by omega
  have e1 : (M : Int) * ((K : Int) - 1) ≤ 9223372036854775807 := by omega
  have e2 : 0 ≤ (M : Int) * ((K : Int) - 1) := by omega
  have e3 : (M : Int) * ((K : Int) - 1) < os.length := by omega
  have hvc : (cS os ++ pad).toArray[0 + ((M : Int) * ((K : Int) - 1)).toNat * 3]? = some (.float .f32 (os[M * (K - 1)]'(by omega)).1) ∧ (cS os ++ pad).toArray[0 + ((M : Int) * ((K : Int) - 1)).toNat * 3 + 1]? = some (.float .f32 (os[M * (K - 1)]'(by omega)).2.1) ∧ (cS os ++ pad).toArray[0 + ((M : Int) * ((K : Int) - 1)).toNat * 3 + 2]? = some (.float .f32 (os[M * (K - 1)]'(by omega)).2.2) := by
    rw [show ((M : Int) * ((K : Int) - 1)).toNat = M * (K - 1) by omega]
    exact spotsIn0p os pad (M * (K - 1)) _ (List.getElem?_eq_getElem (by omega))
  have hss := fun (gs : List B3) (hG : IsSL gs ss) (w : World) base cap h h' => implSameSheet_ok M K M K gs os ss ss hG hI base (some ⟨sb, 0, none⟩) cap cp w h h' (by have := hG.len; omega)
  have hsst : sameSh M K M K ss ss = true := by
    unfold sameSh
    rw [sameL_refl]
    simp
  rw [hsst] at hss
  have a1 := fun w => r8Apart_ok b2 b1 _ _ hb2 hb1 F.n1.1 F.n1.2.1 BB F.n1.2.2 hB0 hB1 w
  have a2 := fun w => r8Apart_ok b3 b4 _ _ hb3 hb4 F.n2.1 F.n2.2.1 BB F.n2.2.2 hB0 hB1 w
  have a3 := fun w => r8Apart_ok b5 b6 _ _ hb5 hb6 F.n3.1 F.n3.2.1 BB F.n3.2.2 hB0 hB1 w
  have a4 := fun w => r8Apart_ok b7 _ _ _ hb7 (hI.getDA (by omega : M * (K - 1) < os.length)) F.n4.1 F.n4.2.1 BB F.n4.2.2 hB0 hB1 w
  replace st := St.fit (E' := [(1, _), (5, _), (9, _), (10, _), (12, _), (13, _), (14, _), (15, _), (16, _), (19, _), (20, _), (21, _), (22, _), (23, _), (24, _), (25, _), (26, _), (27, _), (28, _), (29, _)]) st (by repeat (first | exact trivial  | refine And.intro rfl ?_))
  refine c_drawA (last := 77) hm_ (by decide +kernel) (by decide +kernel) st ?_; clear st; intro _ st
  refine d_v 0 st (by repeat constructor) rfl (by decide +kernel) rfl (v_move st rfl) ?_; clear st; intro _ st
  refine d_v 1 st (by repeat constructor) rfl (by decide +kernel) rfl (v_not st rfl) ?_; clear st; intro _ st
  refine d_v 2 st (by repeat constructor) rfl (by decide +kernel) rfl (v_move st rfl) ?_; clear st; intro _ st
  (first | refine d_g 3 st (by repeat constructor) rfl (by decide +kernel) rfl rfl rfl (v_move st rfl) ?_  | refine d_s 3 st (by repeat constructor) rfl (by decide +kernel) rfl rfl rfl rfl ?_ ); clear st; intro _ st
  (first | refine d_g 4 st (by repeat constructor) rfl (by decide +kernel) rfl rfl rfl (v_not st rfl) ?_  | refine d_s 4 st (by repeat constructor) rfl (by decide +kernel) rfl rfl rfl rfl ?_ ); clear st; intro _ st
  refine d_v 5 st (by repeat constructor) rfl (by decide +kernel) rfl (by first | exact v_pickT st rfl rfl | exact v_pickF st rfl rfl) ?_; clear st; intro _ st
  refine d_v 6 st (by repeat constructor) rfl (by decide +kernel) rfl (v_move st rfl) ?_; clear st; intro _ st
  (first | refine d_g 7 st (by repeat constructor) rfl (by decide +kernel) rfl rfl rfl (v_move st rfl) ?_  | refine d_s 7 st (by repeat constructor) rfl (by decide +kernel) rfl rfl rfl rfl ?_ ); clear st; intro _ st
  (first | refine d_g 8 st (by repeat constructor) rfl (by decide +kernel) rfl rfl rfl (v_not st rfl) ?_  | refine d_s 8 st (by repeat constructor) rfl (by decide +kernel) rfl rfl rfl rfl ?_ ); clear st; intro _ st
  refine d_v 9 st (by repeat constructor) rfl (by decide +kernel) rfl (by first | exact v_pickT st rfl rfl | exact v_pickF st rfl rfl) ?_; clear st; intro _ st
  refine d_v 10 st (by repeat constructor) rfl (by decide +kernel) rfl (v_move st rfl) ?_; clear st; intro _ st
  (first | refine d_g 11 st (by repeat constructor) rfl (by decide +kernel) rfl rfl rfl (v_move st rfl) ?_  | refine d_s 11 st (by repeat constructor) rfl (by decide +kernel) rfl rfl rfl rfl ?_ ); clear st; intro _ st
  (first | refine d_g 12 st (by repeat constructor) rfl (by decide +kernel) rfl rfl rfl (v_not st rfl) ?_  | refine d_s 12 st (by repeat constructor) rfl (by decide +kernel) rfl rfl rfl rfl ?_ ); clear st; intro _ st
  refine d_v 13 st (by repeat constructor) rfl (by decide +kernel) rfl (by first | exact v_pickT st rfl rfl | exact v_pickF st rfl rfl) ?_; clear st; intro _ st
  refine d_v 14 st (by repeat constructor) rfl (by decide +kernel) rfl (v_move st rfl) ?_; clear st; intro _ st
  (first | refine d_g 15 st (by repeat constructor) rfl (by decide +kernel) rfl rfl rfl (v_move st rfl) ?_  | refine d_s 15 st (by repeat constructor) rfl (by decide +kernel) rfl rfl rfl rfl ?_ ); clear st; intro _ st
  (first | refine d_g 16 st (by repeat constructor) rfl (by decide +kernel) rfl rfl rfl (v_not st rfl) ?_  | refine d_s 16 st (by repeat constructor) rfl (by decide +kernel) rfl rfl rfl rfl ?_ ); clear st; intro _ st
  refine d_v 17 st (by repeat constructor) rfl (by decide +kernel) rfl (by first | exact v_pickT st rfl rfl | exact v_pickF st rfl rfl) ?_; clear st; intro _ st
  refine d_v 18 st (by repeat constructor) rfl (by decide +kernel) rfl (v_move st rfl) ?_; clear st; intro _ st
  (first | refine d_g 19 st (by repeat constructor) rfl (by decide +kernel) rfl rfl rfl (v_move st rfl) ?_  | refine d_s 19 st (by repeat constructor) rfl (by decide +kernel) rfl rfl rfl rfl ?_ ); clear st; intro _ st
  (first | refine d_g 20 st (by repeat constructor) rfl (by decide +kernel) rfl rfl rfl (v_not st rfl) ?_  | refine d_s 20 st (by repeat constructor) rfl (by decide +kernel) rfl rfl rfl rfl ?_ ); clear st; intro _ st
  refine d_v 21 st (by repeat constructor) rfl (by decide +kernel) rfl (by first | exact v_pickT st rfl rfl | exact v_pickF st rfl rfl) ?_; clear st; intro _ st
  refine d_v 22 st (by repeat constructor) rfl (by decide +kernel) rfl (v_move st rfl) ?_; clear st; intro _ st
  (first | refine d_g 23 st (by repeat constructor) rfl (by decide +kernel) rfl rfl rfl (v_move st rfl) ?_  | refine d_s 23 st (by repeat constructor) rfl (by decide +kernel) rfl rfl rfl rfl ?_ ); clear st; intro _ st
  (first | refine d_g 24 st (by repeat constructor) rfl (by decide +kernel) rfl rfl rfl (v_not st rfl) ?_  | refine d_s 24 st (by repeat constructor) rfl (by decide +kernel) rfl rfl rfl rfl ?_ ); clear st; intro _ st
  refine d_v 25 st (by repeat constructor) rfl (by decide +kernel) rfl (by first | exact v_pickT st rfl rfl | exact v_pickF st rfl rfl) ?_; clear st; intro _ st
  refine d_v 26 st (by repeat constructor) rfl (by decide +kernel) rfl (v_move st rfl) ?_; clear st; intro _ st
  (first | refine d_g 27 st (by repeat constructor) rfl (by decide +kernel) rfl rfl rfl (v_move st rfl) ?_  | refine d_s 27 st (by repeat constructor) rfl (by decide +kernel) rfl rfl rfl rfl ?_ ); clear st; intro _ st
  (first | refine d_g 28 st (by repeat constructor) rfl (by decide +kernel) rfl rfl rfl (v_not st rfl) ?_  | refine d_s 28 st (by repeat constructor) rfl (by decide +kernel) rfl rfl rfl rfl ?_ ); clear st; intro _ st
  refine d_v 29 st (by repeat constructor) rfl (by decide +kernel) rfl (by first | exact v_pickT st rfl rfl | exact v_pickF st rfl rfl) ?_; clear st; intro _ st
  refine d_v 30 st (by repeat constructor) rfl (by decide +kernel) rfl (v_move st rfl) ?_; clear st; intro _ st
  (first | refine d_g 31 st (by repeat constructor) rfl (by decide +kernel) rfl rfl rfl (v_move st rfl) ?_  | refine d_s 31 st (by repeat constructor) rfl (by decide +kernel) rfl rfl rfl rfl ?_ ); clear st; intro _ st
  (first | refine d_g 32 st (by repeat constructor) rfl (by decide +kernel) rfl rfl rfl (v_not st rfl) ?_  | refine d_s 32 st (by repeat constructor) rfl (by decide +kernel) rfl rfl rfl rfl ?_ ); clear st; intro _ st
  refine d_v 33 st (by repeat constructor) rfl (by decide +kernel) rfl (by first | exact v_pickT st rfl rfl | exact v_pickF st rfl rfl) ?_; clear st; intro _ st
  refine d_v 34 st (by repeat constructor) rfl (by decide +kernel) rfl (v_move st rfl) ?_; clear st; intro _ st
  (first | refine d_g 35 st (by repeat constructor) rfl (by decide +kernel) rfl rfl rfl (v_move st rfl) ?_  | refine d_s 35 st (by repeat constructor) rfl (by decide +kernel) rfl rfl rfl rfl ?_ ); clear st; intro _ st
  (first | refine d_g 36 st (by repeat constructor) rfl (by decide +kernel) rfl rfl rfl (v_not st rfl) ?_  | refine d_s 36 st (by repeat constructor) rfl (by decide +kernel) rfl rfl rfl rfl ?_ ); clear st; intro _ st
  refine d_v 37 st (by repeat constructor) rfl (by decide +kernel) rfl (by first | exact v_pickT st rfl rfl | exact v_pickF st rfl rfl) ?_; clear st; intro _ st
  refine d_v 38 st (by repeat constructor) rfl (by decide +kernel) rfl (v_move st rfl) ?_; clear st; intro _ st
  (first | refine d_g 39 st (by repeat constructor) rfl (by decide +kernel) rfl rfl rfl (by first | exact v_load3 st rfl (by repeat constructor) | exact v_loadS st rfl (by repeat constructor) rfl) ?_  | refine d_s 39 st (by repeat constructor) rfl (by decide +kernel) rfl rfl rfl rfl ?_ ); clear st; intro _ st
  (first | refine d_g 40 st (by repeat constructor) rfl (by decide +kernel) rfl rfl rfl (by first | exact v_load3 st rfl (by repeat constructor) | exact v_loadS st rfl (by repeat constructor) rfl) ?_  | refine d_s 40 st (by repeat constructor) rfl (by decide +kernel) rfl rfl rfl rfl ?_ ); clear st; intro _ st
  (first | (refine d_s 41 st (by repeat constructor) rfl (by decide +kernel) rfl rfl rfl rfl ?_; clear st; intro _ st)  | (refine d_oneG 41 (by decide +kernel) rfl st rfl rfl ?_; refine o_callV st rfl (hss gs hG _ _ _ (RdS.of (st.heap (by repeat constructor)) (spotsIn0p _ _)) (RdS.of (st.heap (by repeat constructor)) (spotsIn0p _ _))) rfl ?_; clear st; intro _ _ st; refine kh st (by repeat constructor) ?_))
  (first | refine d_g 42 st (by repeat constructor) rfl (by decide +kernel) rfl rfl rfl (v_not st rfl) ?_  | refine d_s 42 st (by repeat constructor) rfl (by decide +kernel) rfl rfl rfl rfl ?_ ); clear st; intro _ st
  refine d_v 43 st (by repeat constructor) rfl (by decide +kernel) rfl (by first | exact v_pickT st rfl rfl | exact v_pickF st rfl rfl) ?_; clear st; intro _ st
  refine d_v 44 st (by repeat constructor) rfl (by decide +kernel) rfl (v_move st rfl) ?_; clear st; intro _ st
  (first | refine d_g 45 st (by repeat constructor) rfl (by decide +kernel) rfl rfl rfl (by first | exact v_load3 st rfl (by repeat constructor) | exact v_loadS st rfl (by repeat constructor) rfl) ?_  | refine d_s 45 st (by repeat constructor) rfl (by decide +kernel) rfl rfl rfl rfl ?_ ); clear st; intro _ st
  (first | refine d_g 46 st (by repeat constructor) rfl (by decide +kernel) rfl rfl rfl (by first | exact v_load3 st rfl (by repeat constructor) | exact v_loadS st rfl (by repeat constructor) rfl) ?_  | refine d_s 46 st (by repeat constructor) rfl (by decide +kernel) rfl rfl rfl rfl ?_ ); clear st; intro _ st
  (first | (refine d_s 47 st (by repeat constructor) rfl (by decide +kernel) rfl rfl rfl rfl ?_; clear st; intro _ st)  | (refine d_oneG 47 (by decide +kernel) rfl st rfl rfl ?_; refine o_callR st rfl (a1 _) rfl ?_; clear st; rintro _ ⟨r1, rfl, i1, f1, u1⟩ _ _ st; refine kh st (by repeat constructor) ?_))
  (first | refine d_g 48 st (by repeat constructor) rfl (by decide +kernel) rfl rfl rfl (v_fgtrK st rfl rfl i1 (Is_lit (by decide +kernel)) (gap_ngt f1 lit1.1 u1 lit1.2)) ?_  | refine d_s 48 st (by repeat constructor) rfl (by decide +kernel) rfl rfl rfl rfl ?_ ); clear st; intro _ st
  refine d_v 49 st (by repeat constructor) rfl (by decide +kernel) rfl (by first | exact v_pickT st rfl rfl | exact v_pickF st rfl rfl) ?_; clear st; intro _ st
  refine d_v 50 st (by repeat constructor) rfl (by decide +kernel) rfl (v_move st rfl) ?_; clear st; intro _ st
  (first | refine d_g 51 st (by repeat constructor) rfl (by decide +kernel) rfl rfl rfl (by first | exact v_load3 st rfl (by repeat constructor) | exact v_loadS st rfl (by repeat constructor) rfl) ?_  | refine d_s 51 st (by repeat constructor) rfl (by decide +kernel) rfl rfl rfl rfl ?_ ); clear st; intro _ st
  (first | refine d_g 52 st (by repeat constructor) rfl (by decide +kernel) rfl rfl rfl (by first | exact v_load3 st rfl (by repeat constructor) | exact v_loadS st rfl (by repeat constructor) rfl) ?_  | refine d_s 52 st (by repeat constructor) rfl (by decide +kernel) rfl rfl rfl rfl ?_ ); clear st; intro _ st
  (first | (refine d_s 53 st (by repeat constructor) rfl (by decide +kernel) rfl rfl rfl rfl ?_; clear st; intro _ st)  | (refine d_oneG 53 (by decide +kernel) rfl st rfl rfl ?_; refine o_callR st rfl (a2 _) rfl ?_; clear st; rintro _ ⟨r2, rfl, i2, f2, u2⟩ _ _ st; refine kh st (by repeat constructor) ?_))
  (first | refine d_g 54 st (by repeat constructor) rfl (by decide +kernel) rfl rfl rfl (v_fgtrK st rfl rfl i2 (Is_lit (by decide +kernel)) (gap_ngt f2 lit1.1 u2 lit1.2)) ?_  | refine d_s 54 st (by repeat constructor) rfl (by decide +kernel) rfl rfl rfl rfl ?_ ); clear st; intro _ st
  refine d_v 55 st (by repeat constructor) rfl (by decide +kernel) rfl (by first | exact v_pickT st rfl rfl | exact v_pickF st rfl rfl) ?_; clear st; intro _ st
  refine d_v 56 st (by repeat constructor) rfl (by decide +kernel) rfl (v_move st rfl) ?_; clear st; intro _ st
  (first | refine d_g 57 st (by repeat constructor) rfl (by decide +kernel) rfl rfl rfl (by first | exact v_load3 st rfl (by repeat constructor) | exact v_loadS st rfl (by repeat constructor) rfl) ?_  | refine d_s 57 st (by repeat constructor) rfl (by decide +kernel) rfl rfl rfl rfl ?_ ); clear st; intro _ st
  (first | refine d_g 58 st (by repeat constructor) rfl (by decide +kernel) rfl rfl rfl (by first | exact v_load3 st rfl (by repeat constructor) | exact v_loadS st rfl (by repeat constructor) rfl) ?_  | refine d_s 58 st (by repeat constructor) rfl (by decide +kernel) rfl rfl rfl rfl ?_ ); clear st; intro _ st
  (first | (refine d_s 59 st (by repeat constructor) rfl (by decide +kernel) rfl rfl rfl rfl ?_; clear st; intro _ st)  | (refine d_oneG 59 (by decide +kernel) rfl st rfl rfl ?_; refine o_callR st rfl (a3 _) rfl ?_; clear st; rintro _ ⟨r3, rfl, i3, f3, u3⟩ _ _ st; refine kh st (by repeat constructor) ?_))
  (first | refine d_g 60 st (by repeat constructor) rfl (by decide +kernel) rfl rfl rfl (v_fgtrK st rfl rfl i3 (Is_lit (by decide +kernel)) (gap_ngt f3 lit1.1 u3 lit1.2)) ?_  | refine d_s 60 st (by repeat constructor) rfl (by decide +kernel) rfl rfl rfl rfl ?_ ); clear st; intro _ st
  refine d_v 61 st (by repeat constructor) rfl (by decide +kernel) rfl (by first | exact v_pickT st rfl rfl | exact v_pickF st rfl rfl) ?_; clear st; intro _ st
  refine d_v 62 st (by repeat constructor) rfl (by decide +kernel) rfl (v_move st rfl) ?_; clear st; intro _ st
  (first | refine d_g 63 st (by repeat constructor) rfl (by decide +kernel) rfl rfl rfl (by first | exact v_load3 st rfl (by repeat constructor) | exact v_loadS st rfl (by repeat constructor) rfl) ?_  | refine d_s 63 st (by repeat constructor) rfl (by decide +kernel) rfl rfl rfl rfl ?_ ); clear st; intro _ st
  (first | refine d_g 64 st (by repeat constructor) rfl (by decide +kernel) rfl rfl rfl (v_fieldAddr st rfl) ?_  | refine d_s 64 st (by repeat constructor) rfl (by decide +kernel) rfl rfl rfl rfl ?_ ); clear st; intro _ st
  (first | refine d_g 65 st (by repeat constructor) rfl (by decide +kernel) rfl rfl rfl (by first | exact v_load3 st rfl (by repeat constructor) | exact v_loadS st rfl (by repeat constructor) rfl) ?_  | refine d_s 65 st (by repeat constructor) rfl (by decide +kernel) rfl rfl rfl rfl ?_ ); clear st; intro _ st
  (first | refine d_g 66 st (by repeat constructor) rfl (by decide +kernel) rfl rfl rfl (v_fieldAddr st rfl) ?_  | refine d_s 66 st (by repeat constructor) rfl (by decide +kernel) rfl rfl rfl rfl ?_ ); clear st; intro _ st
  (first | refine d_g 67 st (by repeat constructor) rfl (by decide +kernel) rfl rfl rfl (by first | exact v_load3 st rfl (by repeat constructor) | exact v_loadS st rfl (by repeat constructor) rfl) ?_  | refine d_s 67 st (by repeat constructor) rfl (by decide +kernel) rfl rfl rfl rfl ?_ ); clear st; intro _ st
  (first | refine d_g 68 st (by repeat constructor) rfl (by decide +kernel) rfl rfl rfl (v_fieldAddr st rfl) ?_  | refine d_s 68 st (by repeat constructor) rfl (by decide +kernel) rfl rfl rfl rfl ?_ ); clear st; intro _ st
  (first | refine d_g 69 st (by repeat constructor) rfl (by decide +kernel) rfl rfl rfl (by first | exact v_load3 st rfl (by repeat constructor) | exact v_loadS st rfl (by repeat constructor) rfl) ?_  | refine d_s 69 st (by repeat constructor) rfl (by decide +kernel) rfl rfl rfl rfl ?_ ); clear st; intro _ st
  (first | refine d_g 70 st (by repeat constructor) rfl (by decide +kernel) rfl rfl rfl (v_sub64 st rfl rfl (by omega) (by omega)) ?_  | refine d_s 70 st (by repeat constructor) rfl (by decide +kernel) rfl rfl rfl rfl ?_ ); clear st; intro _ st
  (first | refine d_g 71 st (by repeat constructor) rfl (by decide +kernel) rfl rfl rfl (v_mul64 st rfl rfl e0 e1) ?_  | refine d_s 71 st (by repeat constructor) rfl (by decide +kernel) rfl rfl rfl rfl ?_ ); clear st; intro _ st
  (first | refine d_g 72 st (by repeat constructor) rfl (by decide +kernel) rfl rfl rfl (v_indexAddr st rfl rfl e2 e3) ?_  | refine d_s 72 st (by repeat constructor) rfl (by decide +kernel) rfl rfl rfl rfl ?_ ); clear st; intro _ st
  (first | refine d_g 73 st (by repeat constructor) rfl (by decide +kernel) rfl rfl rfl (v_loadSp st rfl (by repeat constructor) hvc) ?_  | refine d_s 73 st (by repeat constructor) rfl (by decide +kernel) rfl rfl rfl rfl ?_ ); clear st; intro _ st
  (first | (refine d_s 74 st (by repeat constructor) rfl (by decide +kernel) rfl rfl rfl rfl ?_; clear st; intro _ st)  | (refine d_oneG 74 (by decide +kernel) rfl st rfl rfl ?_; refine o_callR st rfl (a4 _) rfl ?_; clear st; rintro _ ⟨r4, rfl, i4, f4, u4⟩ _ _ st; refine kh st (by repeat constructor) ?_))
  (first | refine d_g 75 st (by repeat constructor) rfl (by decide +kernel) rfl rfl rfl (v_fgtrK st rfl rfl i4 (Is_lit (by decide +kernel)) (gap_ngt f4 lit2.1 u4 lit2.2)) ?_  | refine d_s 75 st (by repeat constructor) rfl (by decide +kernel) rfl rfl rfl rfl ?_ ); clear st; intro _ st
  refine d_v 76 st (by repeat constructor) rfl (by decide +kernel) rfl (by first | exact v_pickT st rfl rfl | exact v_pickF st rfl rfl) ?_; clear st; intro _ st
  refine d_done (by decide +kernel) ?_
  (repeat' (first | (refine o_callR st rfl (r8At_ok cs' hok' (by omega) ba' cap' 3 4 (by omega) _ (hr'.mono st.below)) rfl ?_; clear st; rintro _ ⟨a0, rfl, ha0⟩ _ _ st)  | (refine o_callR st rfl (r8At_ok cs' hok' (by omega) ba' cap' 4 4 (by omega) _ (hr'.mono st.below)) rfl ?_; clear st; rintro _ ⟨c0, rfl, hc0⟩ _ _ st)  | refine c_seq ?_  | refine c_region ?_  | refine l_do ?_  | refine l_doG st rfl rfl ?_  | refine l_nil ?_  | refine x_then ?_  | refine x_thenR ?_  | refine x_thenE ?_  | refine x_blkN ?_  | refine x_blkE ?_  | refine wp_ret ?_  | refine wp_skip ?_  | refine wp_block ?_  | refine wp_exit ?_  | refine c_condT st rfl ?_  | refine c_condF st rfl ?_  | ((first | refine o_move st rfl rfl ?_  | refine o_assign st rfl rfl ?_  | refine o_pickF st rfl rfl rfl ?_); clear st; intro _ st)  | (refine o_alloc st rfl ?_; clear st; intro _ _ _ st)  | ((first | refine o_fieldAddr st rfl rfl ?_  | refine o_loadS st rfl (by repeat constructor) rfl rfl ?_  | refine o_load3 st rfl (by repeat constructor) rfl ?_ ); clear st; intro _ st)  | ((first | refine o_storeW st rfl rfl (by repeat constructor) rfl rfl rfl ?_); clear st; intro _ _ st)  | ((first | refine o_extract st rfl rfl rfl ?_  | refine o_len st rfl rfl ?_  | refine o_add64 st rfl rfl rfl (by omega) (by omega) ?_  | refine o_sub64 st rfl rfl rfl (by omega) (by omega) ?_  | refine o_notT st rfl rfl ?_ ); clear st; intro _ st)  | (refine o_fop rfl st rfl rfl (by first | assumption | exact Is_ofInt _ _ | exact Is_lit (by decide +kernel)) (by first | assumption | exact Is_ofInt _ _ | exact Is_lit (by decide +kernel)) rfl ?_; clear st; intro _ _ _ _ st)  | ((first | refine o_intFloat st rfl rfl ?_); clear st; intro _ st)  | ((first | refine o_lss st rfl rfl rfl ?_ ?_  | refine o_geq st rfl rfl rfl ?_ ?_  | refine o_eqlI st rfl rfl rfl ?_ ?_  | refine o_neqI st rfl rfl rfl ?_ ?_) <;> clear st <;> intro _ _ st <;> (try (exfalso; omega))) ))
  obtain ⟨A, hA1, hA4, eA⟩ : ∃ A : Nat, 1 ≤ A ∧ A ≤ 4 ∧ (1 : Int) + (a0 : Int) = (A : Int) := ⟨1 + a0, by omega, by omega, by omega⟩
  obtain ⟨B, hB1', hB4, eB⟩ : ∃ B : Nat, 1 ≤ B ∧ B ≤ 4 ∧ (1 : Int) + (c0 : Int) = (B : Int) := ⟨1 + c0, by omega, by omega, by omega⟩
  rw [eA, eB] at st
  have T := tileF hS hM (by omega) hK (by omega) hA1 hA4 hB1' hB4
  have htl := fun (w : World) h => implTiles_yes M K os ss hI (some ⟨sb, 0, none⟩) cp hcp A B T.ok w h (by omega)
  have hsh := fun (k : Nat) (hk : (k : Int) < 8) (w : World) h => implShared_yes M K os ss hI (some ⟨sb, 0, none⟩) cp hcp A B (1 + (k : Int)) (by
    unfold sharedOk
    rw [T.ok]
    simp only [inB, Bool.and_true, Bool.and_eq_true, decide_eq_true_eq]
    omega) w h (by omega)
  generalize tilesL M K ss A B = tt at T htl hsh
  have hcan : areaCan tt A B = true := by
    have := T.area
    unfold areaOk at this
    rw [Bool.and_eq_true] at this
    exact this.1
  obtain ⟨A', B', eA', eB', _, _, _, _, hsl2, hTr, hTr2, hix⟩ := area_nums hcan
  obtain rfl : A' = A := by omega
  obtain rfl : B' = B := by omega
  have htri := fun w => implTriY A' B' (by omega) (by omega) (by
    simp only [inB, Bool.and_eq_true, decide_eq_true_eq]
    omega) w
  have h25 : (A' + 1) * (B' + 1) ≤ 5 * 5 := Nat.mul_le_mul (by omega) (by omega)
  have harea := fun (ts : List B3) (hT : IsSL ts tt) (w : World) base cap h => implArea_ok ts tt hT base cap A' B' w h (by have := hT.len; omega)
  rw [T.area] at harea
  have hbox := fun (ts : List B3) (hT : IsSL ts tt) (w : World) base cap h => implBox_ok ts tt hT base cap w h (by have := hT.len; omega)
  rw [T.few] at hbox
  have eT : (tt.length : Int) = ((A' : Int) + 1) * ((B' : Int) + 1) := by rw [hsl2, Int.natCast_mul]; rfl
  have h20 : A' * B' ≤ 4 * 4 := Nat.mul_le_mul hA4 hB4
  have eC : ((triM A' A' B').length : Int) = 6 * (A' : Int) * (B' : Int) := by
    rw [triM_length, Int.natCast_mul, Int.natCast_mul]
    show (B' : Int) * ((A' : Int) * 6) = _
    rw [Int.mul_comm, Int.mul_comm (A' : Int) 6]
  have hcl : (triM A' A' B').length ≤ 1000 := by omega
  have m0 : -9223372036854775808 ≤ ((A' : Int) + 1) * ((B' : Int) + 1) := by omega
  have m1 : ((A' : Int) + 1) * ((B' : Int) + 1) ≤ 9223372036854775807 := by omega
  have m2 : -9223372036854775808 ≤ 6 * (A' : Int) * (B' : Int) := by omega
  have m3 : 6 * (A' : Int) * (B' : Int) ≤ 9223372036854775807 := by omega
  have qa : fltB .f32 (areaC tt A' B') (some 0) = false := by
    rw [flt_iff T.afin zero_ex.fin, cv_zero]
    exact decide_eq_false (Rat.not_lt.2 T.ann)
  (repeat' (first | (refine o_callLsY st rfl (htl _ (RdS.of (st.heap (by repeat constructor)) (spotsIn0p _ _))) rfl ?_; clear st; intro tb ts tcp tpad hT hTl _ _ st)  | refine c_seq ?_  | refine c_region ?_  | refine l_do ?_  | refine l_doG st rfl rfl ?_  | refine l_nil ?_  | refine x_then ?_  | refine x_thenR ?_  | refine x_thenE ?_  | refine x_blkN ?_  | refine x_blkE ?_  | refine wp_ret ?_  | refine wp_skip ?_  | refine wp_block ?_  | refine wp_exit ?_  | refine c_condT st rfl ?_  | refine c_condF st rfl ?_  | ((first | refine o_move st rfl rfl ?_  | refine o_assign st rfl rfl ?_  | refine o_pickF st rfl rfl rfl ?_); clear st; intro _ st)  | (refine o_alloc st rfl ?_; clear st; intro _ _ _ st)  | ((first | refine o_fieldAddr st rfl rfl ?_  | refine o_loadS st rfl (by repeat constructor) rfl rfl ?_  | refine o_load3 st rfl (by repeat constructor) rfl ?_ ); clear st; intro _ st)  | ((first | refine o_storeW st rfl rfl (by repeat constructor) rfl rfl rfl ?_); clear st; intro _ _ st)  | ((first | refine o_extract st rfl rfl rfl ?_  | refine o_len st rfl rfl ?_  | refine o_add64 st rfl rfl rfl (by omega) (by omega) ?_  | refine o_sub64 st rfl rfl rfl (by omega) (by omega) ?_  | refine o_notT st rfl rfl ?_ ); clear st; intro _ st)  | (refine o_fop rfl st rfl rfl (by first | assumption | exact Is_ofInt _ _ | exact Is_lit (by decide +kernel)) (by first | assumption | exact Is_ofInt _ _ | exact Is_lit (by decide +kernel)) rfl ?_; clear st; intro _ _ _ _ st)  | ((first | refine o_intFloat st rfl rfl ?_); clear st; intro _ st)  | ((first | refine o_lss st rfl rfl rfl ?_ ?_  | refine o_geq st rfl rfl rfl ?_ ?_  | refine o_eqlI st rfl rfl rfl ?_ ?_  | refine o_neqI st rfl rfl rfl ?_ ?_) <;> clear st <;> intro _ _ st <;> (try (exfalso; omega))) ))
  refine c_drawA (last := 11) hm_ (by decide +kernel) (by decide +kernel) st ?_; clear st; intro _ st
  refine d_v 0 st (by repeat constructor) rfl (by decide +kernel) rfl (by first | exact v_load3 st rfl (by repeat constructor) | exact v_loadS st rfl (by repeat constructor) rfl) ?_; clear st; intro _ st
  refine d_v 1 st (by repeat constructor) rfl (by decide +kernel) rfl (v_move st rfl) ?_; clear st; intro _ st
  refine d_v 2 st (by repeat constructor) rfl (by decide +kernel) rfl (v_move st rfl) ?_; clear st; intro _ st
  refine d_v 3 st (by repeat constructor) rfl (by decide +kernel) rfl (v_move st rfl) ?_; clear st; intro _ st
  refine d_one 4 (by decide +kernel) rfl ?_
  refine o_callR st rfl (r8At_ok cs' hok' (by omega) ba' cap' 5 8 (by omega) _ (hr'.mono st.below)) rfl ?_; clear st; rintro _ ⟨wk, rfl, hwk⟩ _ _ st
  refine kh st (by repeat constructor) ?_
  refine d_v 5 st (by repeat constructor) rfl (by decide +kernel) rfl (v_add64 st rfl rfl (by omega) (by omega)) ?_; clear st; intro _ st
  refine d_one 6 (by decide +kernel) rfl ?_
  refine o_callLsY st rfl (hsh wk hwk _ (RdS.of (st.heap (by repeat constructor)) (spotsIn0p _ _))) rfl ?_; clear st; intro ub us ucp upad hU hUl _ _ st
  refine kh st (by repeat constructor) ?_
  refine d_v 7 st (by repeat constructor) rfl (by decide +kernel) rfl (v_move st rfl) ?_; clear st; intro _ st
  refine d_v 8 st (by repeat constructor) rfl (by decide +kernel) rfl (v_extract st rfl rfl) ?_; clear st; intro _ st
  refine d_v 9 st (by repeat constructor) rfl (by decide +kernel) rfl (v_extract st rfl rfl) ?_; clear st; intro _ st
  refine d_v 10 st (by repeat constructor) rfl (by decide +kernel) rfl (v_assign st rfl) ?_; clear st; intro _ st
  refine d_one 11 (by decide +kernel) rfl ?_
  (first | (refine o_assign st rfl rfl ?_; clear st; intro _ st))
  refine k_last ?_
  refine d_done (by decide +kernel) ?_
  (repeat' (first | (refine o_callM1 st rfl (htri _) rfl ?_; clear st; rintro _ cb _ ⟨ccp, cpad, rfl, rfl⟩ _ _ st)  | (refine o_callFlB st rfl (harea ts hT _ _ _ (RdS.of (st.heap (by repeat constructor)) (spotsIn0p _ _))) rfl ?_; clear st; intro ar har _ _ st)  | (refine o_callR st rfl (hbox ts hT _ _ _ (RdS.of (st.heap (by repeat constructor)) (spotsIn0p _ _))) rfl ?_; clear st; rintro _ ⟨lo, hi, rfl, hlo, hhi⟩ _ _ st)  | (refine o_alloc st rfl ?_; clear st; intro _ _ _ st)  | (refine o_mul64 st rfl rfl rfl m0 m1 ?_; clear st; intro _ st)  | (refine o_mul64 st rfl rfl rfl m2 m3 ?_; clear st; intro _ st)  | (refine o_mul64 st rfl rfl rfl (by omega) (by omega) ?_; clear st; intro _ st)  | (refine o_flssK st rfl rfl har Is_z qa rfl ?_; clear st; intro _ st)  | refine c_seq ?_  | refine c_region ?_  | refine l_do ?_  | refine l_doG st rfl rfl ?_  | refine l_nil ?_  | refine x_then ?_  | refine x_thenR ?_  | refine x_thenE ?_  | refine x_blkN ?_  | refine x_blkE ?_  | refine wp_ret ?_  | refine wp_skip ?_  | refine wp_block ?_  | refine wp_exit ?_  | refine c_condT st rfl ?_  | refine c_condF st rfl ?_  | ((first | refine o_move st rfl rfl ?_  | refine o_assign st rfl rfl ?_  | refine o_pickF st rfl rfl rfl ?_); clear st; intro _ st)  | (refine o_alloc st rfl ?_; clear st; intro _ _ _ st)  | ((first | refine o_fieldAddr st rfl rfl ?_  | refine o_loadS st rfl (by repeat constructor) rfl rfl ?_  | refine o_load3 st rfl (by repeat constructor) rfl ?_ ); clear st; intro _ st)  | ((first | refine o_storeW st rfl rfl (by repeat constructor) rfl rfl rfl ?_); clear st; intro _ _ st)  | ((first | refine o_extract st rfl rfl rfl ?_  | refine o_len st rfl rfl ?_  | refine o_add64 st rfl rfl rfl (by omega) (by omega) ?_  | refine o_sub64 st rfl rfl rfl (by omega) (by omega) ?_  | refine o_notT st rfl rfl ?_ ); clear st; intro _ st)  | (refine o_fop rfl st rfl rfl (by first | assumption | exact Is_ofInt _ _ | exact Is_lit (by decide +kernel)) (by first | assumption | exact Is_ofInt _ _ | exact Is_lit (by decide +kernel)) rfl ?_; clear st; intro _ _ _ _ st)  | ((first | refine o_intFloat st rfl rfl ?_); clear st; intro _ st)  | ((first | refine o_lss st rfl rfl rfl ?_ ?_  | refine o_geq st rfl rfl rfl ?_ ?_  | refine o_eqlI st rfl rfl rfl ?_ ?_  | refine o_neqI st rfl rfl rfl ?_ ?_) <;> clear st <;> intro _ _ st <;> (try (exfalso; omega))) ))
  obtain ⟨p40, p41, st⟩ : ∃ p40 p41, St w Try.f29.ntmps _ _ [(1, .slice ba' cs'.length cap'), (5, .pointer (some ⟨p5, 0, none⟩)), (32, .slice (some ⟨tb, 0, none⟩) ts.length tcp), (34, .slice (some ⟨ub, 0, none⟩) us.length ucp), (36, .slice (some ⟨cb, 0, none⟩) (triM A' A' B').length ccp), (40, .pointer (some ⟨p40, 0, none⟩)), (41, .pointer (some ⟨p41, 0, none⟩)), (43, .int .i64 ((0 : Nat) : Int))] [⟨p41, true, oB hi 26⟩, ⟨p40, true, oB lo 26⟩, ⟨cb, true, oI (triM A' A' B') cpad⟩, ⟨ub, true, oS us upad⟩, ⟨tb, true, oS ts tpad⟩, ⟨p5, true, .cells [.int .i64 M, .int .i64 K, .slice (some ⟨sb, 0, none⟩) os.length cp].toArray 46 (0, 0)⟩, ⟨sb, true, oS os pad⟩] := ⟨_, _, (st.fit (by repeat (first | exact trivial  | refine And.intro rfl ?_))).subL (by repeat (first | exact List.Sublist.refl _  | apply List.Sublist.cons_cons  | apply List.Sublist.cons  | exact List.nil_sublist _))⟩
  refine wp_loop_ghost (fun n a w' => ∃ k : Nat, k ≤ ts.length ∧ n = ts.length - k ∧ St w Try.f29.ntmps a w' [(1, .slice ba' cs'.length cap'), (5, .pointer (some ⟨p5, 0, none⟩)), (32, .slice (some ⟨tb, 0, none⟩) ts.length tcp), (34, .slice (some ⟨ub, 0, none⟩) us.length ucp), (36, .slice (some ⟨cb, 0, none⟩) (triM A' A' B').length ccp), (40, .pointer (some ⟨p40, 0, none⟩)), (41, .pointer (some ⟨p41, 0, none⟩)), (43, .int .i64 (k : Int))] [⟨p41, true, oB hi 26⟩, ⟨p40, true, oB lo 26⟩, ⟨cb, true, oI (triM A' A' B') cpad⟩, ⟨ub, true, oS us upad⟩, ⟨tb, true, oS ts tpad⟩, ⟨p5, true, .cells [.int .i64 M, .int .i64 K, .slice (some ⟨sb, 0, none⟩) os.length cp].toArray 46 (0, 0)⟩, ⟨sb, true, oS os pad⟩]) ts.length ⟨0, by omega, by omega, st⟩ ?_
  clear st
  rintro n a w' ⟨k, hk, rfl, st⟩
  by_cases hlt : k < ts.length
  · have hvT := spotsIn0p ts tpad k ts[k] (List.getElem?_eq_getElem hlt)
    have hlu : k < us.length := by omega
    have hvU := spotsIn0p us upad k us[k] (List.getElem?_eq_getElem hlu)
    have hkt : k < tt.length := by omega
    have iT := hT.getDA hlt
    have hsm := fun w => implSameSpot_ok ts[k] us[k] _ _ iT (hU.getDA hlu) w
    have hse : sameS (tt.getD k z3) (tt.getD k z3) = true := by simp [sameS]
    rw [hse] at hsm
    have lx : fltB .f32 (tt.getD k z3).1 (boxLow tt).1 = false := T.low _ (getD_mem hkt) 0
    have lz : fltB .f32 (tt.getD k z3).2.2 (boxLow tt).2.2 = false := T.low _ (getD_mem hkt) 2
    have gx : fgtB .f32 (tt.getD k z3).1 (boxHigh tt).1 = false := T.high _ (getD_mem hkt) 0
    have gy : fgtB .f32 (tt.getD k z3).2.1 (boxHigh tt).2.1 = false := T.high _ (getD_mem hkt) 1
    have c0 : ∀ b : B3, (cB b).toArray[0 + 0]? = some (.float .f32 b.1) := fun _ => rfl
    have c1 : ∀ b : B3, (cB b).toArray[0 + 1]? = some (.float .f32 b.2.1) := fun _ => rfl
    have c2 : ∀ b : B3, (cB b).toArray[0 + 2]? = some (.float .f32 b.2.2) := fun _ => rfl
    (repeat' (first | refine c_seq ?_  | refine c_region ?_  | refine l_do ?_  | refine l_doG st rfl rfl ?_  | refine l_nil ?_  | refine x_then ?_  | refine x_thenR ?_  | refine x_thenE ?_  | refine x_blkN ?_  | refine x_blkE ?_  | refine wp_ret ?_  | refine wp_skip ?_  | refine wp_block ?_  | refine wp_exit ?_  | refine c_condT st rfl ?_  | refine c_condF st rfl ?_  | ((first | refine o_move st rfl rfl ?_  | refine o_assign st rfl rfl ?_  | refine o_pickF st rfl rfl rfl ?_); clear st; intro _ st)  | (refine o_alloc st rfl ?_; clear st; intro _ _ _ st)  | ((first | refine o_fieldAddr st rfl rfl ?_  | refine o_loadS st rfl (by repeat constructor) rfl rfl ?_  | refine o_load3 st rfl (by repeat constructor) rfl ?_ ); clear st; intro _ st)  | ((first | refine o_storeW st rfl rfl (by repeat constructor) rfl rfl rfl ?_); clear st; intro _ _ st)  | ((first | refine o_extract st rfl rfl rfl ?_  | refine o_len st rfl rfl ?_  | refine o_add64 st rfl rfl rfl (by omega) (by omega) ?_  | refine o_sub64 st rfl rfl rfl (by omega) (by omega) ?_  | refine o_notT st rfl rfl ?_ ); clear st; intro _ st)  | (refine o_fop rfl st rfl rfl (by first | assumption | exact Is_ofInt _ _ | exact Is_lit (by decide +kernel)) (by first | assumption | exact Is_ofInt _ _ | exact Is_lit (by decide +kernel)) rfl ?_; clear st; intro _ _ _ _ st)  | ((first | refine o_intFloat st rfl rfl ?_); clear st; intro _ st)  | ((first | refine o_lss st rfl rfl rfl ?_ ?_  | refine o_geq st rfl rfl rfl ?_ ?_  | refine o_eqlI st rfl rfl rfl ?_ ?_  | refine o_neqI st rfl rfl rfl ?_ ?_) <;> clear st <;> intro _ _ st <;> (try (exfalso; omega))) ))
    refine c_drawA (last := 50) hm_ (by decide +kernel) (by decide +kernel) st ?_; clear st; intro _ st
    refine d_v 0 st (by repeat constructor) rfl (by decide +kernel) rfl (v_move st rfl) ?_; clear st; intro _ st
    refine d_v 1 st (by repeat constructor) rfl (by decide +kernel) rfl (v_move st rfl) ?_; clear st; intro _ st
    refine d_v 2 st (by repeat constructor) rfl (by decide +kernel) rfl (v_indexAddr st rfl rfl (by omega) (by omega)) ?_; clear st; intro _ st
    refine d_v 3 st (by repeat constructor) rfl (by decide +kernel) rfl (v_loadSp st rfl (by repeat constructor) hvT) ?_; clear st; intro _ st
    refine d_v 4 st (by repeat constructor) rfl (by decide +kernel) rfl (v_move st rfl) ?_; clear st; intro _ st
    refine d_v 5 st (by repeat constructor) rfl (by decide +kernel) rfl (v_move st rfl) ?_; clear st; intro _ st
    refine d_v 6 st (by repeat constructor) rfl (by decide +kernel) rfl (v_indexAddr st rfl rfl (by omega) (by omega)) ?_; clear st; intro _ st
    refine d_v 7 st (by repeat constructor) rfl (by decide +kernel) rfl (v_loadSp st rfl (by repeat constructor) hvU) ?_; clear st; intro _ st
    refine d_one 8 (by decide +kernel) rfl ?_
    refine o_callV st rfl (hsm _) rfl ?_; clear st; intro _ _ st
    refine kh st (by repeat constructor) ?_
    refine d_v 9 st (by repeat constructor) rfl (by decide +kernel) rfl (v_not st rfl) ?_; clear st; intro _ st
    refine d_v 10 st (by repeat constructor) rfl (by decide +kernel) rfl (v_move st rfl) ?_; clear st; intro _ st
    (first | refine d_g 11 st (by repeat constructor) rfl (by decide +kernel) rfl rfl rfl (v_move st rfl) ?_  | refine d_s 11 st (by repeat constructor) rfl (by decide +kernel) rfl rfl rfl rfl ?_ ); clear st; intro _ st
    (first | refine d_g 12 st (by repeat constructor) rfl (by decide +kernel) rfl rfl rfl (v_move st rfl) ?_  | refine d_s 12 st (by repeat constructor) rfl (by decide +kernel) rfl rfl rfl rfl ?_ ); clear st; intro _ st
    (first | refine d_g 13 st (by repeat constructor) rfl (by decide +kernel) rfl rfl rfl (v_indexAddr st rfl rfl (by omega) (by omega)) ?_  | refine d_s 13 st (by repeat constructor) rfl (by decide +kernel) rfl rfl rfl rfl ?_ ); clear st; intro _ st
    (first | refine d_g 14 st (by repeat constructor) rfl (by decide +kernel) rfl rfl rfl (v_fieldAddr st rfl) ?_  | refine d_s 14 st (by repeat constructor) rfl (by decide +kernel) rfl rfl rfl rfl ?_ ); clear st; intro _ st
    (first | refine d_g 15 st (by repeat constructor) rfl (by decide +kernel) rfl rfl rfl (v_loadS st rfl (by repeat constructor) hvT.1) ?_  | refine d_s 15 st (by repeat constructor) rfl (by decide +kernel) rfl rfl rfl rfl ?_ ); clear st; intro _ st
    (first | refine d_g 16 st (by repeat constructor) rfl (by decide +kernel) rfl rfl rfl (v_fieldAddr st rfl) ?_  | refine d_s 16 st (by repeat constructor) rfl (by decide +kernel) rfl rfl rfl rfl ?_ ); clear st; intro _ st
    (first | refine d_g 17 st (by repeat constructor) rfl (by decide +kernel) rfl rfl rfl (v_loadS st rfl (by repeat constructor) (c0 lo)) ?_  | refine d_s 17 st (by repeat constructor) rfl (by decide +kernel) rfl rfl rfl rfl ?_ ); clear st; intro _ st
    (first | refine d_g 18 st (by repeat constructor) rfl (by decide +kernel) rfl rfl rfl (v_flssK st rfl rfl iT.x hlo.x lx) ?_  | refine d_s 18 st (by repeat constructor) rfl (by decide +kernel) rfl rfl rfl rfl ?_ ); clear st; intro _ st
    refine d_v 19 st (by repeat constructor) rfl (by decide +kernel) rfl (by first | exact v_pickT st rfl rfl | exact v_pickF st rfl rfl) ?_; clear st; intro _ st
    refine d_v 20 st (by repeat constructor) rfl (by decide +kernel) rfl (v_move st rfl) ?_; clear st; intro _ st
    (first | refine d_g 21 st (by repeat constructor) rfl (by decide +kernel) rfl rfl rfl (v_move st rfl) ?_  | refine d_s 21 st (by repeat constructor) rfl (by decide +kernel) rfl rfl rfl rfl ?_ ); clear st; intro _ st
    (first | refine d_g 22 st (by repeat constructor) rfl (by decide +kernel) rfl rfl rfl (v_move st rfl) ?_  | refine d_s 22 st (by repeat constructor) rfl (by decide +kernel) rfl rfl rfl rfl ?_ ); clear st; intro _ st
    (first | refine d_g 23 st (by repeat constructor) rfl (by decide +kernel) rfl rfl rfl (v_indexAddr st rfl rfl (by omega) (by omega)) ?_  | refine d_s 23 st (by repeat constructor) rfl (by decide +kernel) rfl rfl rfl rfl ?_ ); clear st; intro _ st
    (first | refine d_g 24 st (by repeat constructor) rfl (by decide +kernel) rfl rfl rfl (v_fieldAddr st rfl) ?_  | refine d_s 24 st (by repeat constructor) rfl (by decide +kernel) rfl rfl rfl rfl ?_ ); clear st; intro _ st
    (first | refine d_g 25 st (by repeat constructor) rfl (by decide +kernel) rfl rfl rfl (v_loadS st rfl (by repeat constructor) hvT.2.1) ?_  | refine d_s 25 st (by repeat constructor) rfl (by decide +kernel) rfl rfl rfl rfl ?_ ); clear st; intro _ st
    (first | refine d_g 26 st (by repeat constructor) rfl (by decide +kernel) rfl rfl rfl (v_fieldAddr st rfl) ?_  | refine d_s 26 st (by repeat constructor) rfl (by decide +kernel) rfl rfl rfl rfl ?_ ); clear st; intro _ st
    (first | refine d_g 27 st (by repeat constructor) rfl (by decide +kernel) rfl rfl rfl (v_loadS st rfl (by repeat constructor) (c1 hi)) ?_  | refine d_s 27 st (by repeat constructor) rfl (by decide +kernel) rfl rfl rfl rfl ?_ ); clear st; intro _ st
    (first | refine d_g 28 st (by repeat constructor) rfl (by decide +kernel) rfl rfl rfl (v_fgtrK st rfl rfl iT.y hhi.y gy) ?_  | refine d_s 28 st (by repeat constructor) rfl (by decide +kernel) rfl rfl rfl rfl ?_ ); clear st; intro _ st
    refine d_v 29 st (by repeat constructor) rfl (by decide +kernel) rfl (by first | exact v_pickT st rfl rfl | exact v_pickF st rfl rfl) ?_; clear st; intro _ st
    refine d_v 30 st (by repeat constructor) rfl (by decide +kernel) rfl (v_move st rfl) ?_; clear st; intro _ st
    (first | refine d_g 31 st (by repeat constructor) rfl (by decide +kernel) rfl rfl rfl (v_move st rfl) ?_  | refine d_s 31 st (by repeat constructor) rfl (by decide +kernel) rfl rfl rfl rfl ?_ ); clear st; intro _ st
    (first | refine d_g 32 st (by repeat constructor) rfl (by decide +kernel) rfl rfl rfl (v_move st rfl) ?_  | refine d_s 32 st (by repeat constructor) rfl (by decide +kernel) rfl rfl rfl rfl ?_ ); clear st; intro _ st
    (first | refine d_g 33 st (by repeat constructor) rfl (by decide +kernel) rfl rfl rfl (v_indexAddr st rfl rfl (by omega) (by omega)) ?_  | refine d_s 33 st (by repeat constructor) rfl (by decide +kernel) rfl rfl rfl rfl ?_ ); clear st; intro _ st
    (first | refine d_g 34 st (by repeat constructor) rfl (by decide +kernel) rfl rfl rfl (v_fieldAddr st rfl) ?_  | refine d_s 34 st (by repeat constructor) rfl (by decide +kernel) rfl rfl rfl rfl ?_ ); clear st; intro _ st
    (first | refine d_g 35 st (by repeat constructor) rfl (by decide +kernel) rfl rfl rfl (v_loadS st rfl (by repeat constructor) hvT.2.2) ?_  | refine d_s 35 st (by repeat constructor) rfl (by decide +kernel) rfl rfl rfl rfl ?_ ); clear st; intro _ st
    (first | refine d_g 36 st (by repeat constructor) rfl (by decide +kernel) rfl rfl rfl (v_fieldAddr st rfl) ?_  | refine d_s 36 st (by repeat constructor) rfl (by decide +kernel) rfl rfl rfl rfl ?_ ); clear st; intro _ st
    (first | refine d_g 37 st (by repeat constructor) rfl (by decide +kernel) rfl rfl rfl (v_loadS st rfl (by repeat constructor) (c2 lo)) ?_  | refine d_s 37 st (by repeat constructor) rfl (by decide +kernel) rfl rfl rfl rfl ?_ ); clear st; intro _ st
    (first | refine d_g 38 st (by repeat constructor) rfl (by decide +kernel) rfl rfl rfl (v_flssK st rfl rfl iT.z hlo.z lz) ?_  | refine d_s 38 st (by repeat constructor) rfl (by decide +kernel) rfl rfl rfl rfl ?_ ); clear st; intro _ st
    refine d_v 39 st (by repeat constructor) rfl (by decide +kernel) rfl (by first | exact v_pickT st rfl rfl | exact v_pickF st rfl rfl) ?_; clear st; intro _ st
    refine d_v 40 st (by repeat constructor) rfl (by decide +kernel) rfl (v_move st rfl) ?_; clear st; intro _ st
    (first | refine d_g 41 st (by repeat constructor) rfl (by decide +kernel) rfl rfl rfl (v_move st rfl) ?_  | refine d_s 41 st (by repeat constructor) rfl (by decide +kernel) rfl rfl rfl rfl ?_ ); clear st; intro _ st
    (first | refine d_g 42 st (by repeat constructor) rfl (by decide +kernel) rfl rfl rfl (v_move st rfl) ?_  | refine d_s 42 st (by repeat constructor) rfl (by decide +kernel) rfl rfl rfl rfl ?_ ); clear st; intro _ st
    (first | refine d_g 43 st (by repeat constructor) rfl (by decide +kernel) rfl rfl rfl (v_indexAddr st rfl rfl (by omega) (by omega)) ?_  | refine d_s 43 st (by repeat constructor) rfl (by decide +kernel) rfl rfl rfl rfl ?_ ); clear st; intro _ st
    (first | refine d_g 44 st (by repeat constructor) rfl (by decide +kernel) rfl rfl rfl (v_fieldAddr st rfl) ?_  | refine d_s 44 st (by repeat constructor) rfl (by decide +kernel) rfl rfl rfl rfl ?_ ); clear st; intro _ st
    (first | refine d_g 45 st (by repeat constructor) rfl (by decide +kernel) rfl rfl rfl (v_loadS st rfl (by repeat constructor) hvT.1) ?_  | refine d_s 45 st (by repeat constructor) rfl (by decide +kernel) rfl rfl rfl rfl ?_ ); clear st; intro _ st
    (first | refine d_g 46 st (by repeat constructor) rfl (by decide +kernel) rfl rfl rfl (v_fieldAddr st rfl) ?_  | refine d_s 46 st (by repeat constructor) rfl (by decide +kernel) rfl rfl rfl rfl ?_ ); clear st; intro _ st
    (first | refine d_g 47 st (by repeat constructor) rfl (by decide +kernel) rfl rfl rfl (v_loadS st rfl (by repeat constructor) (c0 hi)) ?_  | refine d_s 47 st (by repeat constructor) rfl (by decide +kernel) rfl rfl rfl rfl ?_ ); clear st; intro _ st
    (first | refine d_g 48 st (by repeat constructor) rfl (by decide +kernel) rfl rfl rfl (v_fgtrK st rfl rfl iT.x hhi.x gx) ?_  | refine d_s 48 st (by repeat constructor) rfl (by decide +kernel) rfl rfl rfl rfl ?_ ); clear st; intro _ st
    refine d_v 49 st (by repeat constructor) rfl (by decide +kernel) rfl (by first | exact v_pickT st rfl rfl | exact v_pickF st rfl rfl) ?_; clear st; intro _ st
    refine d_done (by decide +kernel) ?_
    (repeat' (first | refine c_seq ?_  | refine c_region ?_  | refine l_do ?_  | refine l_doG st rfl rfl ?_  | refine l_nil ?_  | refine x_then ?_  | refine x_thenR ?_  | refine x_thenE ?_  | refine x_blkN ?_  | refine x_blkE ?_  | refine wp_ret ?_  | refine wp_skip ?_  | refine wp_block ?_  | refine wp_exit ?_  | refine c_condT st rfl ?_  | refine c_condF st rfl ?_  | ((first | refine o_move st rfl rfl ?_  | refine o_assign st rfl rfl ?_  | refine o_pickF st rfl rfl rfl ?_); clear st; intro _ st)  | (refine o_alloc st rfl ?_; clear st; intro _ _ _ st)  | ((first | refine o_fieldAddr st rfl rfl ?_  | refine o_loadS st rfl (by repeat constructor) rfl rfl ?_  | refine o_load3 st rfl (by repeat constructor) rfl ?_ ); clear st; intro _ st)  | ((first | refine o_storeW st rfl rfl (by repeat constructor) rfl rfl rfl ?_); clear st; intro _ _ st)  | ((first | refine o_extract st rfl rfl rfl ?_  | refine o_len st rfl rfl ?_  | refine o_add64 st rfl rfl rfl (by omega) (by omega) ?_  | refine o_sub64 st rfl rfl rfl (by omega) (by omega) ?_  | refine o_notT st rfl rfl ?_ ); clear st; intro _ st)  | (refine o_fop rfl st rfl rfl (by first | assumption | exact Is_ofInt _ _ | exact Is_lit (by decide +kernel)) (by first | assumption | exact Is_ofInt _ _ | exact Is_lit (by decide +kernel)) rfl ?_; clear st; intro _ _ _ _ st)  | ((first | refine o_intFloat st rfl rfl ?_); clear st; intro _ st)  | ((first | refine o_lss st rfl rfl rfl ?_ ?_  | refine o_geq st rfl rfl rfl ?_ ?_  | refine o_eqlI st rfl rfl rfl ?_ ?_  | refine o_neqI st rfl rfl rfl ?_ ?_) <;> clear st <;> intro _ _ st <;> (try (exfalso; omega))) ))
    exact ⟨ts.length - (k + 1), by omega, k + 1, by omega, rfl, (st.fit (by repeat (first | exact trivial  | refine And.intro rfl ?_))).subL (by repeat (first | exact List.Sublist.refl _  | apply List.Sublist.cons_cons  | apply List.Sublist.cons  | exact List.nil_sublist _))⟩
  have hk' : k = ts.length := by omega
  subst hk'
  (repeat' (first | refine c_seq ?_  | refine c_region ?_  | refine l_do ?_  | refine l_doG st rfl rfl ?_  | refine l_nil ?_  | refine x_then ?_  | refine x_thenR ?_  | refine x_thenE ?_  | refine x_blkN ?_  | refine x_blkE ?_  | refine wp_ret ?_  | refine wp_skip ?_  | refine wp_block ?_  | refine wp_exit ?_  | refine c_condT st rfl ?_  | refine c_condF st rfl ?_  | ((first | refine o_move st rfl rfl ?_  | refine o_assign st rfl rfl ?_  | refine o_pickF st rfl rfl rfl ?_); clear st; intro _ st)  | (refine o_alloc st rfl ?_; clear st; intro _ _ _ st)  | ((first | refine o_fieldAddr st rfl rfl ?_  | refine o_loadS st rfl (by repeat constructor) rfl rfl ?_  | refine o_load3 st rfl (by repeat constructor) rfl ?_ ); clear st; intro _ st)  | ((first | refine o_storeW st rfl rfl (by repeat constructor) rfl rfl rfl ?_); clear st; intro _ _ st)  | ((first | refine o_extract st rfl rfl rfl ?_  | refine o_len st rfl rfl ?_  | refine o_add64 st rfl rfl rfl (by omega) (by omega) ?_  | refine o_sub64 st rfl rfl rfl (by omega) (by omega) ?_  | refine o_notT st rfl rfl ?_ ); clear st; intro _ st)  | (refine o_fop rfl st rfl rfl (by first | assumption | exact Is_ofInt _ _ | exact Is_lit (by decide +kernel)) (by first | assumption | exact Is_ofInt _ _ | exact Is_lit (by decide +kernel)) rfl ?_; clear st; intro _ _ _ _ st)  | ((first | refine o_intFloat st rfl rfl ?_); clear st; intro _ st)  | ((first | refine o_lss st rfl rfl rfl ?_ ?_  | refine o_geq st rfl rfl rfl ?_ ?_  | refine o_eqlI st rfl rfl rfl ?_ ?_  | refine o_neqI st rfl rfl rfl ?_ ?_) <;> clear st <;> intro _ _ st <;> (try (exfalso; omega))) ))
  replace st := St.fit (E' := [(1, _), (5, _), (32, _), (36, _), (44, .int .i64 ((0 : Nat) : Int))]) st (by repeat (first | exact trivial  | refine And.intro rfl ?_))
  refine wp_loop_ghost (fun n a w' => ∃ k : Nat, k ≤ (triM A' A' B').length ∧ n = (triM A' A' B').length - k ∧ St w Try.f29.ntmps a w' [(1, .slice ba' cs'.length cap'), (5, .pointer (some ⟨p5, 0, none⟩)), (32, .slice (some ⟨tb, 0, none⟩) ts.length tcp), (36, .slice (some ⟨cb, 0, none⟩) (triM A' A' B').length ccp), (44, .int .i64 (k : Int))] [⟨cb, true, oI (triM A' A' B') cpad⟩, ⟨p5, true, .cells [.int .i64 M, .int .i64 K, .slice (some ⟨sb, 0, none⟩) os.length cp].toArray 46 (0, 0)⟩, ⟨sb, true, oS os pad⟩]) (triM A' A' B').length ⟨0, by omega, by omega, st.subL (by repeat (first | exact List.Sublist.refl _  | apply List.Sublist.cons_cons  | apply List.Sublist.cons  | exact List.nil_sublist _))⟩ ?_
  clear st
  rintro n a w' ⟨k, hk, rfl, st⟩
  by_cases hlt : k < (triM A' A' B').length
  · obtain ⟨x, hx', _, hxl⟩ := hix k (by omega)
    have hvi : ((triM A' A' B').map vI ++ cpad).toArray[0 + k * 1]? = some (.int .i64 (x : Int)) := by
      simp only [List.getElem?_toArray, Nat.zero_add, Nat.mul_one]
      rw [List.getElem?_append_left (by simpa using hlt), List.getElem?_map, hx']
      rfl
    (repeat' (first | (refine o_indexAddr st rfl rfl (by omega) (by omega) rfl ?_; clear st; intro _ st)  | (refine o_loadS st rfl (by repeat constructor) hvi rfl ?_; clear st; intro _ st)  | refine c_seq ?_  | refine c_region ?_  | refine l_do ?_  | refine l_doG st rfl rfl ?_  | refine l_nil ?_  | refine x_then ?_  | refine x_thenR ?_  | refine x_thenE ?_  | refine x_blkN ?_  | refine x_blkE ?_  | refine wp_ret ?_  | refine wp_skip ?_  | refine wp_block ?_  | refine wp_exit ?_  | refine c_condT st rfl ?_  | refine c_condF st rfl ?_  | ((first | refine o_move st rfl rfl ?_  | refine o_assign st rfl rfl ?_  | refine o_pickF st rfl rfl rfl ?_); clear st; intro _ st)  | (refine o_alloc st rfl ?_; clear st; intro _ _ _ st)  | ((first | refine o_fieldAddr st rfl rfl ?_  | refine o_loadS st rfl (by repeat constructor) rfl rfl ?_  | refine o_load3 st rfl (by repeat constructor) rfl ?_ ); clear st; intro _ st)  | ((first | refine o_storeW st rfl rfl (by repeat constructor) rfl rfl rfl ?_); clear st; intro _ _ st)  | ((first | refine o_extract st rfl rfl rfl ?_  | refine o_len st rfl rfl ?_  | refine o_add64 st rfl rfl rfl (by omega) (by omega) ?_  | refine o_sub64 st rfl rfl rfl (by omega) (by omega) ?_  | refine o_notT st rfl rfl ?_ ); clear st; intro _ st)  | (refine o_fop rfl st rfl rfl (by first | assumption | exact Is_ofInt _ _ | exact Is_lit (by decide +kernel)) (by first | assumption | exact Is_ofInt _ _ | exact Is_lit (by decide +kernel)) rfl ?_; clear st; intro _ _ _ _ st)  | ((first | refine o_intFloat st rfl rfl ?_); clear st; intro _ st)  | ((first | refine o_lss st rfl rfl rfl ?_ ?_  | refine o_geq st rfl rfl rfl ?_ ?_  | refine o_eqlI st rfl rfl rfl ?_ ?_  | refine o_neqI st rfl rfl rfl ?_ ?_) <;> clear st <;> intro _ _ st <;> (try (exfalso; omega))) ))
    exact ⟨(triM A' A' B').length - (k + 1), by omega, k + 1, by omega, rfl, (st.fit (by repeat (first | exact trivial  | refine And.intro rfl ?_))).subL (by repeat (first | exact List.Sublist.refl _  | apply List.Sublist.cons_cons  | apply List.Sublist.cons  | exact List.nil_sublist _))⟩
  have hk' : k = (triM A' A' B').length := by omega
  subst hk'
  have hedge := fun (x : Nat) (hx : (x : Int) < 4) (w : World) h => implEdge_yes M K os ss hI (some ⟨sb, 0, none⟩) cp x (by
    unfold edgeOk
    rw [F.valid]
    simp only [inB, Bool.true_and, Bool.and_eq_true, decide_eq_true_eq]
    omega) hcp w h (by omega)
  (repeat' (first | (refine o_callR st rfl (r8At_ok cs' hok' (by omega) ba' cap' 6 4 (by omega) _ (hr'.mono st.below)) rfl ?_; clear st; rintro _ ⟨x, rfl, hx6⟩ _ _ st)  | (refine o_callLsY st rfl (hedge x hx6 _ (RdS.of (st.heap (by repeat constructor)) (spotsIn0p _ _))) rfl ?_; clear st; intro eb es ecp epad hE hEl _ _ st)  | refine c_seq ?_  | refine c_region ?_  | refine l_do ?_  | refine l_doG st rfl rfl ?_  | refine l_nil ?_  | refine x_then ?_  | refine x_thenR ?_  | refine x_thenE ?_  | refine x_blkN ?_  | refine x_blkE ?_  | refine wp_ret ?_  | refine wp_skip ?_  | refine wp_block ?_  | refine wp_exit ?_  | refine c_condT st rfl ?_  | refine c_condF st rfl ?_  | ((first | refine o_move st rfl rfl ?_  | refine o_assign st rfl rfl ?_  | refine o_pickF st rfl rfl rfl ?_); clear st; intro _ st)  | (refine o_alloc st rfl ?_; clear st; intro _ _ _ st)  | ((first | refine o_fieldAddr st rfl rfl ?_  | refine o_loadS st rfl (by repeat constructor) rfl rfl ?_  | refine o_load3 st rfl (by repeat constructor) rfl ?_ ); clear st; intro _ st)  | ((first | refine o_storeW st rfl rfl (by repeat constructor) rfl rfl rfl ?_); clear st; intro _ _ st)  | ((first | refine o_extract st rfl rfl rfl ?_  | refine o_len st rfl rfl ?_  | refine o_add64 st rfl rfl rfl (by omega) (by omega) ?_  | refine o_sub64 st rfl rfl rfl (by omega) (by omega) ?_  | refine o_notT st rfl rfl ?_ ); clear st; intro _ st)  | (refine o_fop rfl st rfl rfl (by first | assumption | exact Is_ofInt _ _ | exact Is_lit (by decide +kernel)) (by first | assumption | exact Is_ofInt _ _ | exact Is_lit (by decide +kernel)) rfl ?_; clear st; intro _ _ _ _ st)  | ((first | refine o_intFloat st rfl rfl ?_); clear st; intro _ st)  | ((first | refine o_lss st rfl rfl rfl ?_ ?_  | refine o_geq st rfl rfl rfl ?_ ?_  | refine o_eqlI st rfl rfl rfl ?_ ?_  | refine o_neqI st rfl rfl rfl ?_ ?_) <;> clear st <;> intro _ _ st <;> (try (exfalso; omega))) ))
  obtain ⟨w1, w2⟩ := edge_first hM hK hsl (side := (x : Int)) (by omega) (by omega)
  have hE2 : IsSL es (edgeL ss M K x) := hE
  have hEl2 : es.length = (edgeL ss M K x).length := hEl
  have he0 : 0 < es.length := by
    rw [hEl2, w1]
    split <;> omega
  have q2 : decide ((2 : Int) ≤ (es.length : Int)) = true := by
    rw [hEl2, w1]
    apply decide_eq_true
    split <;> omega
  have q21 : x < 2 → ((es.length : Int) == (M : Int)) = true := fun h => by
    rw [hEl2, w1, if_pos (by omega)]
    exact beq_self_eq_true _
  have q32 : 2 ≤ x → ((es.length : Int) == (K : Int)) = true := fun h => by
    rw [hEl2, w1, if_neg (by omega)]
    exact beq_self_eq_true _
  have hve := spotsIn0p es epad 0 es[0] (List.getElem?_eq_getElem he0)
  have iE := hE2.getDA he0
  rw [w2] at iE
  have hv0 := spotsIn0p os pad 0 (os[0]'(by omega)) (List.getElem?_eq_getElem (by omega))
  have hvm : (cS os ++ pad).toArray[0 + ((M : Int) - 1).toNat * 3]? = some (.float .f32 (os[M - 1]'(by omega)).1) ∧ (cS os ++ pad).toArray[0 + ((M : Int) - 1).toNat * 3 + 1]? = some (.float .f32 (os[M - 1]'(by omega)).2.1) ∧ (cS os ++ pad).toArray[0 + ((M : Int) - 1).toNat * 3 + 2]? = some (.float .f32 (os[M - 1]'(by omega)).2.2) := by
    rw [show ((M : Int) - 1).toNat = M - 1 by omega]
    exact spotsIn0p os pad (M - 1) _ (List.getElem?_eq_getElem (by omega))
  have hsw := fun (i : Nat) (hi : i < os.length) (e : ss.getD (wantIx M K x) z3 = ss.getD i z3) (w : World) => implSameSpot_ok es[0] os[i] _ _ iE (hI.getDA hi) w
  have hsw : ∀ (i : Nat) (hi : i < os.length), ss.getD (wantIx M K x) z3 = ss.getD i z3 → ∀ w, CV Try.prog 34 [vS es[0], vS os[i]] w (.bool true) := fun i hi e w => by
    have := hsw i hi e w
    rw [e] at this
    have hse : sameS (ss.getD i z3) (ss.getD i z3) = true := by simp [sameS]
    rwa [hse] at this
  have hcase : x = 0 ∨ x = 1 ∨ x = 2 ∨ x = 3 := by omega
  have hoM : M ≤ os.length := by omega
  clear hedge hsh htl htri harea hbox hss
  rcases hcase with rfl | rfl | rfl | rfl
  all_goals
    (repeat' (first | (refine o_indexAddr st rfl rfl (by omega) (by omega) rfl ?_; clear st; intro _ st)  | (refine o_loadSp st rfl (by repeat constructor) hv0 rfl ?_; clear st; intro _ st)  | (refine o_alloc st rfl ?_; clear st; intro _ _ _ st)  | (refine o_mul64 st rfl rfl rfl e0 e1 ?_; clear st; intro _ st)  | (refine o_loadSp st rfl (by repeat constructor) hvc rfl ?_; clear st; intro _ st)  | (refine o_loadSp st rfl (by repeat constructor) hvm rfl ?_; clear st; intro _ st)  | refine c_seq ?_  | refine c_region ?_  | refine l_do ?_  | refine l_doG st rfl rfl ?_  | refine l_nil ?_  | refine x_then ?_  | refine x_thenR ?_  | refine x_thenE ?_  | refine x_blkN ?_  | refine x_blkE ?_  | refine wp_ret ?_  | refine wp_skip ?_  | refine wp_block ?_  | refine wp_exit ?_  | refine c_condT st rfl ?_  | refine c_condF st rfl ?_  | ((first | refine o_move st rfl rfl ?_  | refine o_assign st rfl rfl ?_  | refine o_pickF st rfl rfl rfl ?_); clear st; intro _ st)  | (refine o_alloc st rfl ?_; clear st; intro _ _ _ st)  | ((first | refine o_fieldAddr st rfl rfl ?_  | refine o_loadS st rfl (by repeat constructor) rfl rfl ?_  | refine o_load3 st rfl (by repeat constructor) rfl ?_ ); clear st; intro _ st)  | ((first | refine o_storeW st rfl rfl (by repeat constructor) rfl rfl rfl ?_); clear st; intro _ _ st)  | ((first | refine o_extract st rfl rfl rfl ?_  | refine o_len st rfl rfl ?_  | refine o_add64 st rfl rfl rfl (by omega) (by omega) ?_  | refine o_sub64 st rfl rfl rfl (by omega) (by omega) ?_  | refine o_notT st rfl rfl ?_ ); clear st; intro _ st)  | (refine o_fop rfl st rfl rfl (by first | assumption | exact Is_ofInt _ _ | exact Is_lit (by decide +kernel)) (by first | assumption | exact Is_ofInt _ _ | exact Is_lit (by decide +kernel)) rfl ?_; clear st; intro _ _ _ _ st)  | ((first | refine o_intFloat st rfl rfl ?_); clear st; intro _ st)  | ((first | refine o_lss st rfl rfl rfl ?_ ?_  | refine o_geq st rfl rfl rfl ?_ ?_  | refine o_eqlI st rfl rfl rfl ?_ ?_  | refine o_neqI st rfl rfl rfl ?_ ?_) <;> clear st <;> intro _ _ st <;> (try (exfalso; omega))) ))
    refine c_drawA (last := 35) hm_ (by decide +kernel) (by decide +kernel) st ?_; clear st; intro _ st
    refine d_v 0 st (by repeat constructor) rfl (by decide +kernel) rfl (v_move st rfl) ?_; clear st; intro _ st
    refine d_v 1 st (by repeat constructor) rfl (by decide +kernel) rfl (v_move st rfl) ?_; clear st; intro _ st
    (first | refine d_g 2 st (by repeat constructor) rfl (by decide +kernel) rfl rfl rfl (v_move st rfl) ?_  | refine d_s 2 st (by repeat constructor) rfl (by decide +kernel) rfl rfl rfl rfl ?_ ); clear st; intro _ st
    (first | refine d_g 3 st (by repeat constructor) rfl (by decide +kernel) rfl rfl rfl (v_len st rfl) ?_  | refine d_s 3 st (by repeat constructor) rfl (by decide +kernel) rfl rfl rfl rfl ?_ ); clear st; intro _ st
    (first | refine d_g 4 st (by repeat constructor) rfl (by decide +kernel) rfl rfl rfl (v_geqI st rfl rfl q2) ?_  | refine d_s 4 st (by repeat constructor) rfl (by decide +kernel) rfl rfl rfl rfl ?_ ); clear st; intro _ st
    refine d_v 5 st (by repeat constructor) rfl (by decide +kernel) rfl (by first | exact v_pickT st rfl rfl | exact v_pickF st rfl rfl) ?_; clear st; intro _ st
    refine d_v 6 st (by repeat constructor) rfl (by decide +kernel) rfl (v_move st rfl) ?_; clear st; intro _ st
    (first | refine d_g 7 st (by repeat constructor) rfl (by decide +kernel) rfl rfl rfl (v_move st rfl) ?_  | refine d_s 7 st (by repeat constructor) rfl (by decide +kernel) rfl rfl rfl rfl ?_ ); clear st; intro _ st
    (first | refine d_g 8 st (by repeat constructor) rfl (by decide +kernel) rfl rfl rfl (v_indexAddr st rfl rfl (by omega) (by omega)) ?_  | refine d_s 8 st (by repeat constructor) rfl (by decide +kernel) rfl rfl rfl rfl ?_ ); clear st; intro _ st
    (first | refine d_g 9 st (by repeat constructor) rfl (by decide +kernel) rfl rfl rfl (v_loadSp st rfl (by repeat constructor) hve) ?_  | refine d_s 9 st (by repeat constructor) rfl (by decide +kernel) rfl rfl rfl rfl ?_ ); clear st; intro _ st
    (first | refine d_g 10 st (by repeat constructor) rfl (by decide +kernel) rfl rfl rfl (by first | exact v_load3 st rfl (by repeat constructor) | exact v_loadS st rfl (by repeat constructor) rfl) ?_  | refine d_s 10 st (by repeat constructor) rfl (by decide +kernel) rfl rfl rfl rfl ?_ ); clear st; intro _ st
    (first | (refine d_s 11 st (by repeat constructor) rfl (by decide +kernel) rfl rfl rfl rfl ?_; clear st; intro _ st)  | (refine d_oneG 11 (by decide +kernel) rfl st rfl rfl ?_; refine o_callV st rfl (hsw _ _ rfl _) rfl ?_; clear st; intro _ _ st; refine kh st (by repeat constructor) ?_))
    refine d_v 12 st (by repeat constructor) rfl (by decide +kernel) rfl (by first | exact v_pickT st rfl rfl | exact v_pickF st rfl rfl) ?_; clear st; intro _ st
    refine d_v 13 st (by repeat constructor) rfl (by decide +kernel) rfl (v_move st rfl) ?_; clear st; intro _ st
    (first | refine d_g 14 st (by repeat constructor) rfl (by decide +kernel) rfl rfl rfl (v_move st rfl) ?_  | refine d_s 14 st (by repeat constructor) rfl (by decide +kernel) rfl rfl rfl rfl ?_ ); clear st; intro _ st
    (first | refine d_g 15 st (by repeat constructor) rfl (by decide +kernel) rfl rfl rfl (v_geqI st rfl rfl rfl) ?_  | refine d_s 15 st (by repeat constructor) rfl (by decide +kernel) rfl rfl rfl rfl ?_ ); clear st; intro _ st
    (first | refine d_g 16 st (by repeat constructor) rfl (by decide +kernel) rfl rfl rfl (v_move st rfl) ?_  | refine d_s 16 st (by repeat constructor) rfl (by decide +kernel) rfl rfl rfl rfl ?_ ); clear st; intro _ st
    (first | refine d_g 17 st (by repeat constructor) rfl (by decide +kernel) rfl rfl rfl (v_move st rfl) ?_  | refine d_s 17 st (by repeat constructor) rfl (by decide +kernel) rfl rfl rfl rfl ?_ ); clear st; intro _ st
    (first | refine d_g 18 st (by repeat constructor) rfl (by decide +kernel) rfl rfl rfl (v_len st rfl) ?_  | refine d_s 18 st (by repeat constructor) rfl (by decide +kernel) rfl rfl rfl rfl ?_ ); clear st; intro _ st
    (first | refine d_g 19 st (by repeat constructor) rfl (by decide +kernel) rfl rfl rfl (v_fieldAddr st rfl) ?_  | refine d_s 19 st (by repeat constructor) rfl (by decide +kernel) rfl rfl rfl rfl ?_ ); clear st; intro _ st
    (first | refine d_g 20 st (by repeat constructor) rfl (by decide +kernel) rfl rfl rfl (by first | exact v_load3 st rfl (by repeat constructor) | exact v_loadS st rfl (by repeat constructor) rfl) ?_  | refine d_s 20 st (by repeat constructor) rfl (by decide +kernel) rfl rfl rfl rfl ?_ ); clear st; intro _ st
    (first | refine d_g 21 st (by repeat constructor) rfl (by decide +kernel) rfl rfl rfl (v_eqlI st rfl rfl (q21 (by decide))) ?_  | refine d_s 21 st (by repeat constructor) rfl (by decide +kernel) rfl rfl rfl rfl ?_ ); clear st; intro _ st
    (first | refine d_g 22 st (by repeat constructor) rfl (by decide +kernel) rfl rfl rfl (by first | exact v_pickT st rfl rfl | exact v_pickF st rfl rfl) ?_  | refine d_s 22 st (by repeat constructor) rfl (by decide +kernel) rfl rfl rfl rfl ?_ ); clear st; intro _ st
    refine d_v 23 st (by repeat constructor) rfl (by decide +kernel) rfl (by first | exact v_pickT st rfl rfl | exact v_pickF st rfl rfl) ?_; clear st; intro _ st
    refine d_v 24 st (by repeat constructor) rfl (by decide +kernel) rfl (v_move st rfl) ?_; clear st; intro _ st
    (first | refine d_g 25 st (by repeat constructor) rfl (by decide +kernel) rfl rfl rfl (v_move st rfl) ?_  | refine d_s 25 st (by repeat constructor) rfl (by decide +kernel) rfl rfl rfl rfl ?_ ); clear st; intro _ st
    (first | refine d_g 26 st (by repeat constructor) rfl (by decide +kernel) rfl rfl rfl (v_lssI st rfl rfl rfl) ?_  | refine d_s 26 st (by repeat constructor) rfl (by decide +kernel) rfl rfl rfl rfl ?_ ); clear st; intro _ st
    (first | refine d_g 27 st (by repeat constructor) rfl (by decide +kernel) rfl rfl rfl (v_move st rfl) ?_  | refine d_s 27 st (by repeat constructor) rfl (by decide +kernel) rfl rfl rfl rfl ?_ ); clear st; intro _ st
    (first | refine d_g 28 st (by repeat constructor) rfl (by decide +kernel) rfl rfl rfl (v_move st rfl) ?_  | refine d_s 28 st (by repeat constructor) rfl (by decide +kernel) rfl rfl rfl rfl ?_ ); clear st; intro _ st
    (first | refine d_g 29 st (by repeat constructor) rfl (by decide +kernel) rfl rfl rfl (v_len st rfl) ?_  | refine d_s 29 st (by repeat constructor) rfl (by decide +kernel) rfl rfl rfl rfl ?_ ); clear st; intro _ st
    (first | refine d_g 30 st (by repeat constructor) rfl (by decide +kernel) rfl rfl rfl (v_fieldAddr st rfl) ?_  | refine d_s 30 st (by repeat constructor) rfl (by decide +kernel) rfl rfl rfl rfl ?_ ); clear st; intro _ st
    (first | refine d_g 31 st (by repeat constructor) rfl (by decide +kernel) rfl rfl rfl (by first | exact v_load3 st rfl (by repeat constructor) | exact v_loadS st rfl (by repeat constructor) rfl) ?_  | refine d_s 31 st (by repeat constructor) rfl (by decide +kernel) rfl rfl rfl rfl ?_ ); clear st; intro _ st
    (first | refine d_g 32 st (by repeat constructor) rfl (by decide +kernel) rfl rfl rfl (v_eqlI st rfl rfl (q32 (by decide))) ?_  | refine d_s 32 st (by repeat constructor) rfl (by decide +kernel) rfl rfl rfl rfl ?_ ); clear st; intro _ st
    (first | refine d_g 33 st (by repeat constructor) rfl (by decide +kernel) rfl rfl rfl (by first | exact v_pickT st rfl rfl | exact v_pickF st rfl rfl) ?_  | refine d_s 33 st (by repeat constructor) rfl (by decide +kernel) rfl rfl rfl rfl ?_ ); clear st; intro _ st
    refine d_v 34 st (by repeat constructor) rfl (by decide +kernel) rfl (by first | exact v_pickT st rfl rfl | exact v_pickF st rfl rfl) ?_; clear st; intro _ st
    refine d_one 35 (by decide +kernel) rfl ?_
    (first | (refine o_assign st rfl rfl ?_; clear st; intro _ st))
    refine k_last ?_
    refine d_done (by decide +kernel) ?_
    (repeat' (first | refine c_seq ?_  | refine c_region ?_  | refine l_do ?_  | refine l_doG st rfl rfl ?_  | refine l_nil ?_  | refine x_then ?_  | refine x_thenR ?_  | refine x_thenE ?_  | refine x_blkN ?_  | refine x_blkE ?_  | refine wp_ret ?_  | refine wp_skip ?_  | refine wp_block ?_  | refine wp_exit ?_  | refine c_condT st rfl ?_  | refine c_condF st rfl ?_  | ((first | refine o_move st rfl rfl ?_  | refine o_assign st rfl rfl ?_  | refine o_pickF st rfl rfl rfl ?_); clear st; intro _ st)  | (refine o_alloc st rfl ?_; clear st; intro _ _ _ st)  | ((first | refine o_fieldAddr st rfl rfl ?_  | refine o_loadS st rfl (by repeat constructor) rfl rfl ?_  | refine o_load3 st rfl (by repeat constructor) rfl ?_ ); clear st; intro _ st)  | ((first | refine o_storeW st rfl rfl (by repeat constructor) rfl rfl rfl ?_); clear st; intro _ _ st)  | ((first | refine o_extract st rfl rfl rfl ?_  | refine o_len st rfl rfl ?_  | refine o_add64 st rfl rfl rfl (by omega) (by omega) ?_  | refine o_sub64 st rfl rfl rfl (by omega) (by omega) ?_  | refine o_notT st rfl rfl ?_ ); clear st; intro _ st)  | (refine o_fop rfl st rfl rfl (by first | assumption | exact Is_ofInt _ _ | exact Is_lit (by decide +kernel)) (by first | assumption | exact Is_ofInt _ _ | exact Is_lit (by decide +kernel)) rfl ?_; clear st; intro _ _ _ _ st)  | ((first | refine o_intFloat st rfl rfl ?_); clear st; intro _ st)  | ((first | refine o_lss st rfl rfl rfl ?_ ?_  | refine o_geq st rfl rfl rfl ?_ ?_  | refine o_eqlI st rfl rfl rfl ?_ ?_  | refine o_neqI st rfl rfl rfl ?_ ?_) <;> clear st <;> intro _ _ st <;> (try (exfalso; omega))) ))
    refine post1 st Try.results29 (rd_t st rfl) ?_
    exact ⟨rfl, st.below⟩
end

set_option maxRecDepth 100000 in
theorem FnSheets_lifted (os : Os) (started : os.Started) (H : Type) (enc : TypeId × Value → H) :
    ReturnsInHanded {} Try.checked os 29 .any (Rows.fnSheetsSpec.pre6 enc Try.prog Try.f29 Rows.fnSheetsRow.domain false) (Rows.fnSheetsSpec.post enc Try.prog Try.f29 false true false false) := by
  refine returnsInHanded_of_change (C := Try.checked) own_ started (by kernel_rfl) Try.func29
    (ChangeSpec.witness6 (enc := enc) (C := Try.checked) false ⟨#[], #[.slice none 0 0, .slice none 0 0], []⟩ 8 (by kernel_rfl) (by kernel_rfl) (by kernel_rfl) (by kernel_rfl)) ?_
  intro W base args ds gs before hval0 hW hcnd _
  have hval : ∀ (j : Nat) t v, Try.f29.params[j]? = some t → args[j]? = some v → Value.okWide Try.prog W .any base t v := hval0
  have hW' := hW
  obtain ⟨p, q, hA0, hV, rfl, hfz, hnd⟩ := hW
  have hA : DataW.TrodAll enc Try.prog W 0 (fun _ => true) true Try.f29.params.toList args.toList ds p := hA0
  rw [Try.params29] at hA hval
  obtain ⟨v0, vs0, d0, ds0, p0, q0, hargs, rfl, rfl, h0, r0⟩ := trodAll_cons hA
  obtain ⟨v1, vs1, d1, ds1, p1, q1, rfl, rfl, rfl, h1, r1⟩ := trodAll_cons r0
  obtain ⟨rfl, rfl, rfl⟩ := trodAll_nil r1
  obtain rfl : args = #[v0, v1] := by cases args; simp_all
  obtain ⟨rfl, rfl⟩ := trodVars_none hV
  have k0 := h0
  have lt0 : ∀ x ∈ p0, x.block < W.heap.size := by obtain ⟨m, hm⟩ := k0; exact DataW.trod_lt m _ _ _ hm
  obtain ⟨cs0, ba0, cap0, rfl, rd0, ok0, len0⟩ := bytes_of_trod (hval 0 57 v0 rfl rfl) h0
  have k1 := h1
  have lt1 : ∀ x ∈ p1, x.block < W.heap.size := by obtain ⟨m, hm⟩ := k1; exact DataW.trod_lt m _ _ _ hm
  obtain ⟨cs1, ba1, cap1, rfl, rd1, ok1, len1⟩ := bytes_of_trod (hval 1 57 v1 rfl rfl) h1
  clear hA0 hval0
  refine (sheets_walk cs0 ba0 cap0 cs1 ba1 cap1 W rd0 ok0 len0 rd1 ok1 len1).mono fun e W' ⟨he, bel⟩ => ?_
  subst he
  exact ⟨_, rfl, _, _, _, [], _, [], hW', trodAll_mk1 (shut_bool Try.underlying4 _), (trodAll_cons_mk (Below.trod laidOut_ (by kernel_rfl) (of_decide_eq_true (by kernel_rfl)) k0 bel lt0) (trodAll_cons_mk (Below.trod laidOut_ (by kernel_rfl) (of_decide_eq_true (by kernel_rfl)) k1 bel lt1) trodAll_mk0)), rfl, bel.frame _, fun h => by cases h⟩

/-- For every input the law returns true, and each argument reads behind the call as it read before. -/
theorem FnSheets_holds : Rows.FnSheetsSaid :=
  OpenClaim.holds_of_wide 29 Try.f29 rfl rfl rfl rfl rfl rfl rfl ⟨rfl, rfl, rfl, rfl, rfl⟩ rfl rfl rfl rfl rfl (by as_aux_lemma => kernel_rfl) Try.func29 (closed_of 29 Try.f29 Rows.fnSheetsSpec Rows.fnSheetsRow rfl rfl (by as_aux_lemma => kernel_rfl) (by as_aux_lemma => kernel_rfl) (by as_aux_lemma => kernel_rfl) (by as_aux_lemma => kernel_rfl) (by as_aux_lemma => kernel_rfl))
    (of_decide_eq_true (by kernel_rfl)) (by unfold Func.isWrapper; first | (rw [if_pos (by decide +kernel)]; kernel_rfl) | (rw [if_neg (by decide +kernel)]; exact ⟨rfl, rfl⟩))
    (fun os started H enc _ => FnSheets_lifted os started H enc)

end Go.Proofs.Ytefnlalldgbcaaa
