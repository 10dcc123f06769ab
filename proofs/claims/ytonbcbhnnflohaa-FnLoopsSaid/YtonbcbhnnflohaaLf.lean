/-
  FnLoops: areas under curves, curves the other way (walks).
-/
import Derived.Test.YtonbcbhnnflohaaPe
namespace Go.Proofs.Ytonbcbhnnflohaa
open Go.RowKit

def underL (f : Nat → Nat × Nat) : Nat → Nat → Nat → Wd
  | 0, _, s => some s
  | k + 1, i, s => bw (crossW (f i) (f (i + 1))) fun c => bw (fop .add .f32 (some s) (some c)) fun s' => underL f k (i + 1) s'
def underS (ks : List Kn) (n : Nat) : Wd := bw (underL (pAt ks) n 0 0) fun s => fop .quo .f32 (some s) (some 1073741824)
attribute [local irreducible] Code.wp wpList Oper.wp Calls bodyPost Exit.then Exit.inBlock
attribute [local irreducible] fop fltB fgtB feqB fgeB fleB floatOfInt floatToFloatBits floatToIntVal longW

set_option maxHeartbeats 16000000 in
theorem AreaUnder_ok (c : List Kn) (n : Nat) (ts : List Nat) (ks : List Kn) (h : PtsOk c n ts ks) (r : Nat) (hu : underS ks n = some r) (hg : Gd r) (v : Value) (w : World) (hv : CrV w c v) : CV Try.prog 25 [v, .int .i64 n] w (.tuple #[.float .f32 r, .bool true]) := by
  have lk := h.lk
  have h64 := h.h64
  unfold underS at hu
  obtain ⟨s0, hs0, hq⟩ := bw_some hu
  have c1 := fun v w hv => pointsAt_ok c h.gc n ts ks h.h1 h.h64 h.lt h.lk h.ht h.hk h.hgd v w hv
  have c3 := fun w => ifNumber_ok r hg w
  have hv0 := hv
  obtain ⟨bp, cp, bw_, cw, rfl, hp, hw⟩ := hv
  refine enter Try.func25 rfl rfl rfl rfl ?_
  intro a st
  (repeat' (first | (refine o_callM1 st rfl (c1 _ _ (hv0.mono st.below)) rfl ?_; clear st; rintro _ bk _ ⟨capk, padk, rfl, rfl⟩ _ _ st)  | refine c_seq ?_  | refine c_region ?_  | refine l_do ?_  | refine l_nil ?_  | refine x_then ?_  | refine x_thenE ?_  | refine x_blkN ?_  | refine x_blkE ?_  | refine wp_ret ?_  | refine wp_skip ?_  | refine wp_block ?_  | refine wp_exit ?_  | refine c_condT st rfl ?_  | refine c_condF st rfl ?_  | ((first | refine o_move st rfl rfl ?_  | refine o_assign st rfl rfl ?_); clear st; intro _ st)  | ((first | refine o_boxA st rfl rfl ?_ ); clear st; intro _ _ _ st)  | ((first | refine o_load2 st rfl (by repeat constructor) rfl ?_  | refine o_extract st rfl rfl rfl ?_  | refine o_len st rfl rfl ?_  | refine o_add64 st rfl rfl rfl (by omega) (by omega) ?_  | refine o_notT st rfl rfl ?_ ); clear st; intro _ st)  | (refine o_lss st rfl rfl rfl ?_ ?_ <;> clear st <;> intro _ _ st <;> (try (exfalso; omega)))))
  refine wp_loop_ghost (fun y a w' => ∃ i s : Nat, i + y = n ∧ underL (pAt ks) y i s = some s0 ∧ St w Try.f25.ntmps a w' [(6, .slice (some ⟨bk, 0, none⟩) (n + 1) capk), (8, .float .f32 s), (9, .int .i64 ((i : Int) + 1))] [⟨bk, true, oV 31 (ks.map vPt) padk⟩]) n ⟨0, 0, by omega, hs0, (st.fit (by repeat (first | exact trivial  | refine And.intro rfl ?_))).subL (by repeat (first | exact List.Sublist.refl _  | apply List.Sublist.cons_cons  | apply List.Sublist.cons  | exact List.nil_sublist _))⟩ ?_
  clear st
  rintro y a w' ⟨i, s, hi, hs, st⟩
  have gq : ∀ (j : Nat) (hj : j < ks.length), (ks.map vPt ++ padk).toArray[0 + ((j : Nat) : Int).toNat * 1]? = some (vPt ks[j]) := by
    intro j hj
    have := oV_get (pad := padk) (vs := ks.map vPt) (k := j) (by rw [List.length_map]; omega)
    rw [this, List.getElem_map]
  cases y with
  | zero =>
    obtain rfl := Option.some.inj hs
    obtain rfl : i = n := by omega
    (repeat' (first | refine c_seq ?_  | refine c_region ?_  | refine l_do ?_  | refine l_nil ?_  | refine x_then ?_  | refine x_thenE ?_  | refine x_blkN ?_  | refine x_blkE ?_  | refine wp_ret ?_  | refine wp_skip ?_  | refine wp_block ?_  | refine wp_exit ?_  | refine c_condT st rfl ?_  | refine c_condF st rfl ?_  | ((first | refine o_move st rfl rfl ?_  | refine o_assign st rfl rfl ?_); clear st; intro _ st)  | ((first | refine o_boxA st rfl rfl ?_ ); clear st; intro _ _ _ st)  | ((first | refine o_load2 st rfl (by repeat constructor) rfl ?_  | refine o_extract st rfl rfl rfl ?_  | refine o_len st rfl rfl ?_  | refine o_add64 st rfl rfl rfl (by omega) (by omega) ?_  | refine o_notT st rfl rfl ?_ ); clear st; intro _ st)  | (refine o_lss st rfl rfl rfl ?_ ?_ <;> clear st <;> intro _ _ st <;> (try (exfalso; omega)))))
    refine o_fopK st rfl rfl hq rfl ?_
    clear st
    intro _ st
    (repeat' (first | (refine o_callV st rfl (c3 _) rfl ?_; clear st; intro _ _ st)  | refine c_seq ?_  | refine c_region ?_  | refine l_do ?_  | refine l_nil ?_  | refine x_then ?_  | refine x_thenE ?_  | refine x_blkN ?_  | refine x_blkE ?_  | refine wp_ret ?_  | refine wp_skip ?_  | refine wp_block ?_  | refine wp_exit ?_  | refine c_condT st rfl ?_  | refine c_condF st rfl ?_  | ((first | refine o_move st rfl rfl ?_  | refine o_assign st rfl rfl ?_); clear st; intro _ st)  | ((first | refine o_boxA st rfl rfl ?_ ); clear st; intro _ _ _ st)  | ((first | refine o_load2 st rfl (by repeat constructor) rfl ?_  | refine o_extract st rfl rfl rfl ?_  | refine o_len st rfl rfl ?_  | refine o_add64 st rfl rfl rfl (by omega) (by omega) ?_  | refine o_notT st rfl rfl ?_ ); clear st; intro _ st)  | (refine o_lss st rfl rfl rfl ?_ ?_ <;> clear st <;> intro _ _ st <;> (try (exfalso; omega)))))
    refine post2 st Try.results25 (rd_t st rfl) (rd_t st rfl) ?_
    exact ⟨rfl, st.ex0⟩
  | succ y =>
    obtain ⟨c', hc, hs⟩ := bw_some hs
    obtain ⟨s', hs', hs⟩ := bw_some hs
    rw [pAt_eq (show i < ks.length by omega), pAt_eq (show i + 1 < ks.length by omega)] at hc
    have k1 := fun w => cross_ok _ _ c' hc w
    have g1 := gq i (by omega)
    rw [show ((i : Nat) : Int) = (i : Int) + 1 - 1 by omega] at g1
    have g2 := gq (i + 1) (by omega)
    rw [show ((i + 1 : Nat) : Int) = (i : Int) + 1 by omega] at g2
    (repeat' (first | refine c_seq ?_  | refine c_region ?_  | refine l_do ?_  | refine l_nil ?_  | refine x_then ?_  | refine x_thenE ?_  | refine x_blkN ?_  | refine x_blkE ?_  | refine wp_ret ?_  | refine wp_skip ?_  | refine wp_block ?_  | refine wp_exit ?_  | refine c_condT st rfl ?_  | refine c_condF st rfl ?_  | ((first | refine o_move st rfl rfl ?_  | refine o_assign st rfl rfl ?_); clear st; intro _ st)  | ((first | refine o_boxA st rfl rfl ?_ ); clear st; intro _ _ _ st)  | ((first | refine o_load2 st rfl (by repeat constructor) rfl ?_  | refine o_extract st rfl rfl rfl ?_  | refine o_len st rfl rfl ?_  | refine o_add64 st rfl rfl rfl (by omega) (by omega) ?_  | refine o_notT st rfl rfl ?_ ); clear st; intro _ st)  | (refine o_lss st rfl rfl rfl ?_ ?_ <;> clear st <;> intro _ _ st <;> (try (exfalso; omega)))))
    refine c_drawA (last := 12) hm_ (by decide +kernel) (by decide +kernel) st ?_; clear st; intro _ st
    refine d_v 0 st (by repeat constructor) rfl (by decide +kernel) rfl (v_move st rfl) ?_; clear st; intro _ st
    refine d_v 1 st (by repeat constructor) rfl (by decide +kernel) rfl (v_move st rfl) ?_; clear st; intro _ st
    refine d_v 2 st (by repeat constructor) rfl (by decide +kernel) rfl (v_move st rfl) ?_; clear st; intro _ st
    refine d_v 3 st (by repeat constructor) rfl (by decide +kernel) rfl (v_sub64 st rfl rfl (by omega) (by omega)) ?_; clear st; intro _ st
    refine d_v 4 st (by repeat constructor) rfl (by decide +kernel) rfl (v_indexAddr st rfl rfl (by omega) (by omega)) ?_; clear st; intro _ st
    refine d_v 5 st (by repeat constructor) rfl (by decide +kernel) rfl (v_loadS st rfl (by repeat constructor) g1) ?_; clear st; intro _ st
    refine d_v 6 st (by repeat constructor) rfl (by decide +kernel) rfl (v_move st rfl) ?_; clear st; intro _ st
    refine d_v 7 st (by repeat constructor) rfl (by decide +kernel) rfl (v_move st rfl) ?_; clear st; intro _ st
    refine d_v 8 st (by repeat constructor) rfl (by decide +kernel) rfl (v_indexAddr st rfl rfl (by omega) (by omega)) ?_; clear st; intro _ st
    refine d_v 9 st (by repeat constructor) rfl (by decide +kernel) rfl (v_loadS st rfl (by repeat constructor) g2) ?_; clear st; intro _ st
    refine d_one 10 (by decide +kernel) rfl ?_
    refine o_callV st rfl (k1 _) rfl ?_; clear st; intro _ _ st
    refine kh st (by repeat constructor) ?_
    refine d_one 11 (by decide +kernel) rfl ?_
    refine o_fopK st rfl rfl hs' rfl ?_; clear st; intro _ st
    refine kh st (by repeat constructor) ?_
    refine d_one 12 (by decide +kernel) rfl ?_
    (first | (refine o_assign st rfl rfl ?_; clear st; intro _ st))
    refine k_last ?_
    refine d_done (by decide +kernel) ?_
    (repeat' (first | refine c_seq ?_  | refine c_region ?_  | refine l_do ?_  | refine l_nil ?_  | refine x_then ?_  | refine x_thenE ?_  | refine x_blkN ?_  | refine x_blkE ?_  | refine wp_ret ?_  | refine wp_skip ?_  | refine wp_block ?_  | refine wp_exit ?_  | refine c_condT st rfl ?_  | refine c_condF st rfl ?_  | ((first | refine o_move st rfl rfl ?_  | refine o_assign st rfl rfl ?_); clear st; intro _ st)  | ((first | refine o_boxA st rfl rfl ?_ ); clear st; intro _ _ _ st)  | ((first | refine o_load2 st rfl (by repeat constructor) rfl ?_  | refine o_extract st rfl rfl rfl ?_  | refine o_len st rfl rfl ?_  | refine o_add64 st rfl rfl rfl (by omega) (by omega) ?_  | refine o_notT st rfl rfl ?_ ); clear st; intro _ st)  | (refine o_lss st rfl rfl rfl ?_ ?_ <;> clear st <;> intro _ _ st <;> (try (exfalso; omega)))))
    exact ⟨y, by omega, i + 1, s', by omega, hs, (st.fit (by repeat (first | exact trivial  | refine And.intro rfl ?_))).subL (by repeat (first | exact List.Sublist.refl _  | apply List.Sublist.cons_cons  | apply List.Sublist.cons  | exact List.nil_sublist _))⟩
theorem take_rev {c : List Kn} {i : Nat} (h : i < c.length) : c.reverse.take (c.length - 1 - i) ++ [c[i]] = c.reverse.take (c.length - i) := by
  have h1 : c.length - 1 - i < c.reverse.length := by rw [List.length_reverse]; omega
  have e := List.take_succ_eq_append_getElem h1
  rw [show c.length - 1 - i + 1 = c.length - i by omega] at e
  rw [e]
  congr 1
  rw [List.getElem_reverse]
  congr 2
  omega
set_option maxHeartbeats 16000000 in
theorem SBackCurve_ok (c : List Kn) (hg : GC c) (v : Value) (w : World) (hv : CrV w c v) : CM2 Try.prog 26 [v] w (OwnT c.reverse) := by
  have h2 := hg.lo
  have h8 := hg.hi
  obtain ⟨x, rfl, hx, h3, h4⟩ := hv.get (by omega)
  have c1 := fun p w hp => l02Is_ok c hg p w hp
  refine enter Try.func26 rfl rfl rfl rfl ?_
  intro a st
  have st := (st.addOld h3).addOld h4
  (repeat' (first | (refine o_boxA (d := 1) st rfl rfl ?_; clear st; intro p1 _ _ st)  | (refine o_alloc (d := 2) st rfl ?_; clear st; intro p2 _ _ st)  | (refine o_alloc (d := 4) st rfl ?_; clear st; intro p4 _ _ st)  | (refine o_callV st rfl (c1 _ _ ⟨x, st.heap (by repeat constructor), hx, st.heap (by repeat constructor), st.heap (by repeat constructor)⟩) rfl ?_; clear st; intro _ _ st)  | refine c_seq ?_  | refine c_region ?_  | refine l_do ?_  | refine l_nil ?_  | refine x_then ?_  | refine x_thenE ?_  | refine x_blkN ?_  | refine x_blkE ?_  | refine wp_ret ?_  | refine wp_skip ?_  | refine wp_block ?_  | refine wp_exit ?_  | refine c_condT st rfl ?_  | refine c_condF st rfl ?_  | ((first | refine o_move st rfl rfl ?_  | refine o_assign st rfl rfl ?_); clear st; intro _ st)  | ((first | refine o_alloc st rfl ?_  | refine o_boxA st rfl rfl ?_ ); clear st; intro _ _ _ st)  | ((first | refine o_fieldAddr st rfl rfl ?_  | refine o_loadS st rfl (by repeat constructor) rfl rfl ?_  | refine o_load2 st rfl (by repeat constructor) rfl ?_ ); clear st; intro _ st)  | ((first | refine o_storeS st rfl rfl rfl (by repeat constructor) rfl (by dsimp only [List.set]) ?_  | refine o_storeW st rfl rfl (by repeat constructor) rfl rfl rfl ?_); clear st; intro _ _ st)  | ((first | refine o_build3 st rfl rfl rfl rfl rfl rfl rfl ?_  | refine o_build0 st rfl ?_  | refine o_len st rfl rfl ?_  | refine o_sub64 st rfl rfl rfl (by omega) (by omega) ?_  | refine o_notT st rfl rfl ?_ ); clear st; intro _ st)  | (refine o_geq st rfl rfl rfl ?_ ?_ <;> clear st <;> intro _ _ st <;> (try (exfalso; omega)))))
  refine wp_loop_ghost (fun y a w' => ∃ (vp vw : Value) (Lp Lw : List Ent), y ≤ c.length ∧ GV 31 vp ((c.reverse.take (c.length - y)).map vPt) Lp ∧ GV 29 vw ((c.reverse.take (c.length - y)).map vWt) Lw ∧ St w Try.f26.ntmps a w' [(1, .pointer (some ⟨p1, 0, none⟩)), (2, .pointer (some ⟨p2, 0, none⟩)), (4, .pointer (some ⟨p4, 0, none⟩)), (5, .int .i64 ((y : Int) - 1))]
    (eP p4 vp vw :: eP p2 (.slice none 0 0) (.slice none 0 0) :: eP p1 (.slice (some ⟨x.b1, x.o1, none⟩) c.length x.cp) (.slice (some ⟨x.b2, x.o2, none⟩) c.length x.cw) :: ⟨x.b2, false, .cells x.a2 x.t2 x.f2⟩ :: ⟨x.b1, false, .cells x.a1 x.t1 x.f1⟩ :: (Lp ++ Lw))) c.length ⟨_, _, [], [], by omega, by rw [Nat.sub_self]; exact GV.nil, by rw [Nat.sub_self]; exact GV.nil, (st.fit (by repeat (first | exact trivial  | refine And.intro rfl ?_))).subL (by repeat (first | exact List.Sublist.refl _  | apply List.Sublist.cons_cons  | apply List.Sublist.cons  | exact List.nil_sublist _))⟩ ?_
  clear st
  rintro y a w' ⟨vp, vw, Lp, Lw, hy, hGp, hGw, st⟩
  have hlen : (c.reverse.take (c.length - y)).length = c.length - y := by rw [List.length_take, List.length_reverse]; omega
  cases y with
  | succ i =>
    have hlt : i < c.length := by omega
    have g1 := hx.at1 (k := i) (j := ((i + 1 : Nat) : Int) - 1) hlt (by omega)
    have g2 := hx.at2 (k := i) (j := ((i + 1 : Nat) : Int) - 1) hlt (by omega)
    have er := take_rev hlt
    rw [show c.length - 1 - i = c.length - (i + 1) by omega] at er
    (repeat' (first | refine c_seq ?_  | refine c_region ?_  | refine l_do ?_  | refine l_nil ?_  | refine x_then ?_  | refine x_thenE ?_  | refine x_blkN ?_  | refine x_blkE ?_  | refine wp_ret ?_  | refine wp_skip ?_  | refine wp_block ?_  | refine wp_exit ?_  | refine c_condT st rfl ?_  | refine c_condF st rfl ?_  | ((first | refine o_move st rfl rfl ?_  | refine o_assign st rfl rfl ?_); clear st; intro _ st)  | ((first | refine o_alloc st rfl ?_  | refine o_boxA st rfl rfl ?_ ); clear st; intro _ _ _ st)  | ((first | refine o_fieldAddr st rfl rfl ?_  | refine o_loadS st rfl (by repeat constructor) rfl rfl ?_  | refine o_load2 st rfl (by repeat constructor) rfl ?_ ); clear st; intro _ st)  | ((first | refine o_storeS st rfl rfl rfl (by repeat constructor) rfl (by dsimp only [List.set]) ?_  | refine o_storeW st rfl rfl (by repeat constructor) rfl rfl rfl ?_); clear st; intro _ _ st)  | ((first | refine o_build3 st rfl rfl rfl rfl rfl rfl rfl ?_  | refine o_build0 st rfl ?_  | refine o_len st rfl rfl ?_  | refine o_sub64 st rfl rfl rfl (by omega) (by omega) ?_  | refine o_notT st rfl rfl ?_ ); clear st; intro _ st)  | (refine o_geq st rfl rfl rfl ?_ ?_ <;> clear st <;> intro _ _ st <;> (try (exfalso; omega)))))
    refine c_draw (Lh := [eP p4 vp vw, eP p1 (.slice (some ⟨x.b1, x.o1, none⟩) c.length x.cp) (.slice (some ⟨x.b2, x.o2, none⟩) c.length x.cw), ⟨x.b2, false, .cells x.a2 x.t2 x.f2⟩, ⟨x.b1, false, .cells x.a1 x.t1 x.f1⟩]) (last := 10) hm_ (by decide +kernel) (by decide +kernel) st ?_; clear st; intro _ st
    refine d_v 0 st (by repeat constructor) rfl (by decide +kernel) rfl (v_fieldAddr st rfl) ?_; clear st; intro _ st
    refine d_v 1 st (by repeat constructor) rfl (by decide +kernel) rfl (by first | exact v_load3 st rfl (by repeat constructor) | exact v_loadS st rfl (by repeat constructor) rfl) ?_; clear st; intro _ st
    refine d_v 2 st (by repeat constructor) rfl (by decide +kernel) rfl (v_fieldAddr st rfl) ?_; clear st; intro _ st
    refine d_v 3 st (by repeat constructor) rfl (by decide +kernel) rfl (by first | exact v_load3 st rfl (by repeat constructor) | exact v_loadS st rfl (by repeat constructor) rfl) ?_; clear st; intro _ st
    refine d_v 4 st (by repeat constructor) rfl (by decide +kernel) rfl (v_move st rfl) ?_; clear st; intro _ st
    refine d_v 5 st (by repeat constructor) rfl (by decide +kernel) rfl (v_indexAddr st rfl rfl (by omega) (by omega)) ?_; clear st; intro _ st
    refine d_v 6 st (by repeat constructor) rfl (by decide +kernel) rfl (v_loadS st rfl (by repeat constructor) g1) ?_; clear st; intro _ st
    refine d_one 7 (by decide +kernel) rfl ?_
    refine o_buildSlice st rfl rfl rfl rfl rfl rfl ?_; clear st; intro _ _ _ st
    refine kh st (by repeat constructor) ?_
    refine d_one 8 (by decide +kernel) rfl ?_
    refine o_appendGV rfl st hGp rfl rfl (by repeat constructor) rfl (by rw [List.length_map, hlen]; omega) (by repeat (first | exact RemS.here  | apply RemS.there)) rfl ?_; clear st; intro b1 cap1 pad1 _ _ hp1 st
    refine kh st (by repeat constructor) ?_
    refine d_v 9 st (by repeat constructor) rfl (by decide +kernel) rfl (v_fieldAddr st rfl) ?_; clear st; intro _ st
    refine d_one 10 (by decide +kernel) rfl ?_
    (first | ((first | refine o_storeS st rfl rfl rfl (by repeat constructor) rfl (by dsimp only [List.set]) ?_  | refine o_storeW st rfl rfl (by repeat constructor) rfl rfl rfl ?_); clear st; intro _ _ st))
    refine k_last ?_
    refine d_done (by decide +kernel) ?_
    (repeat' (first | refine c_seq ?_  | refine c_region ?_  | refine l_do ?_  | refine l_nil ?_  | refine x_then ?_  | refine x_thenE ?_  | refine x_blkN ?_  | refine x_blkE ?_  | refine wp_ret ?_  | refine wp_skip ?_  | refine wp_block ?_  | refine wp_exit ?_  | refine c_condT st rfl ?_  | refine c_condF st rfl ?_  | ((first | refine o_move st rfl rfl ?_  | refine o_assign st rfl rfl ?_); clear st; intro _ st)  | ((first | refine o_alloc st rfl ?_  | refine o_boxA st rfl rfl ?_ ); clear st; intro _ _ _ st)  | ((first | refine o_fieldAddr st rfl rfl ?_  | refine o_loadS st rfl (by repeat constructor) rfl rfl ?_  | refine o_load2 st rfl (by repeat constructor) rfl ?_ ); clear st; intro _ st)  | ((first | refine o_storeS st rfl rfl rfl (by repeat constructor) rfl (by dsimp only [List.set]) ?_  | refine o_storeW st rfl rfl (by repeat constructor) rfl rfl rfl ?_); clear st; intro _ _ st)  | ((first | refine o_build3 st rfl rfl rfl rfl rfl rfl rfl ?_  | refine o_build0 st rfl ?_  | refine o_len st rfl rfl ?_  | refine o_sub64 st rfl rfl rfl (by omega) (by omega) ?_  | refine o_notT st rfl rfl ?_ ); clear st; intro _ st)  | (refine o_geq st rfl rfl rfl ?_ ?_ <;> clear st <;> intro _ _ st <;> (try (exfalso; omega)))))
    refine c_draw (Lh := [eP p4 (.slice (some ⟨b1, 0, none⟩) ((c.reverse.take (c.length - (i + 1))).map vPt ++ [vPt c[i]]).length cap1) vw, eP p1 (.slice (some ⟨x.b1, x.o1, none⟩) c.length x.cp) (.slice (some ⟨x.b2, x.o2, none⟩) c.length x.cw), ⟨x.b2, false, .cells x.a2 x.t2 x.f2⟩]) (last := 10) hm_ (by decide +kernel) (by decide +kernel) st ?_; clear st; intro _ st
    refine d_v 0 st (by repeat constructor) rfl (by decide +kernel) rfl (v_fieldAddr st rfl) ?_; clear st; intro _ st
    refine d_v 1 st (by repeat constructor) rfl (by decide +kernel) rfl (by first | exact v_load3 st rfl (by repeat constructor) | exact v_loadS st rfl (by repeat constructor) rfl) ?_; clear st; intro _ st
    refine d_v 2 st (by repeat constructor) rfl (by decide +kernel) rfl (v_fieldAddr st rfl) ?_; clear st; intro _ st
    refine d_v 3 st (by repeat constructor) rfl (by decide +kernel) rfl (by first | exact v_load3 st rfl (by repeat constructor) | exact v_loadS st rfl (by repeat constructor) rfl) ?_; clear st; intro _ st
    refine d_v 4 st (by repeat constructor) rfl (by decide +kernel) rfl (v_move st rfl) ?_; clear st; intro _ st
    refine d_v 5 st (by repeat constructor) rfl (by decide +kernel) rfl (v_indexAddr st rfl rfl (by omega) (by omega)) ?_; clear st; intro _ st
    refine d_v 6 st (by repeat constructor) rfl (by decide +kernel) rfl (v_loadS st rfl (by repeat constructor) g2) ?_; clear st; intro _ st
    refine d_one 7 (by decide +kernel) rfl ?_
    refine o_buildSlice st rfl rfl rfl rfl rfl rfl ?_; clear st; intro _ _ _ st
    refine kh st (by repeat constructor) ?_
    refine d_one 8 (by decide +kernel) rfl ?_
    refine o_appendGV rfl st hGw rfl rfl (by repeat constructor) rfl (by rw [List.length_map, hlen]; omega) (by repeat (first | exact RemS.hereEnd  | apply RemS.there)) rfl ?_; clear st; intro b2 cap2 pad2 _ _ hp2 st
    refine kh st (by repeat constructor) ?_
    refine d_v 9 st (by repeat constructor) rfl (by decide +kernel) rfl (v_fieldAddr st rfl) ?_; clear st; intro _ st
    refine d_one 10 (by decide +kernel) rfl ?_
    (first | ((first | refine o_storeS st rfl rfl rfl (by repeat constructor) rfl (by dsimp only [List.set]) ?_  | refine o_storeW st rfl rfl (by repeat constructor) rfl rfl rfl ?_); clear st; intro _ _ st))
    refine k_last ?_
    refine d_done (by decide +kernel) ?_
    (repeat' (first | refine c_seq ?_  | refine c_region ?_  | refine l_do ?_  | refine l_nil ?_  | refine x_then ?_  | refine x_thenE ?_  | refine x_blkN ?_  | refine x_blkE ?_  | refine wp_ret ?_  | refine wp_skip ?_  | refine wp_block ?_  | refine wp_exit ?_  | refine c_condT st rfl ?_  | refine c_condF st rfl ?_  | ((first | refine o_move st rfl rfl ?_  | refine o_assign st rfl rfl ?_); clear st; intro _ st)  | ((first | refine o_alloc st rfl ?_  | refine o_boxA st rfl rfl ?_ ); clear st; intro _ _ _ st)  | ((first | refine o_fieldAddr st rfl rfl ?_  | refine o_loadS st rfl (by repeat constructor) rfl rfl ?_  | refine o_load2 st rfl (by repeat constructor) rfl ?_ ); clear st; intro _ st)  | ((first | refine o_storeS st rfl rfl rfl (by repeat constructor) rfl (by dsimp only [List.set]) ?_  | refine o_storeW st rfl rfl (by repeat constructor) rfl rfl rfl ?_); clear st; intro _ _ st)  | ((first | refine o_build3 st rfl rfl rfl rfl rfl rfl rfl ?_  | refine o_build0 st rfl ?_  | refine o_len st rfl rfl ?_  | refine o_sub64 st rfl rfl rfl (by omega) (by omega) ?_  | refine o_notT st rfl rfl ?_ ); clear st; intro _ st)  | (refine o_geq st rfl rfl rfl ?_ ?_ <;> clear st <;> intro _ _ st <;> (try (exfalso; omega)))))
    have e1 : (c.reverse.take (c.length - (i + 1))).map vPt ++ [vPt c[i]] = (c.reverse.take (c.length - i)).map vPt := by rw [← er, List.map_append]; rfl
    have e2 : (c.reverse.take (c.length - (i + 1))).map vWt ++ [vWt c[i]] = (c.reverse.take (c.length - i)).map vWt := by rw [← er, List.map_append]; rfl
    have e3 : ((i + 1 : Nat) : Int) - 1 - 1 = (i : Int) - 1 := by omega
    rw [e3] at st
    refine ⟨i, by omega, _, _, [⟨b1, true, _⟩], [⟨b2, true, _⟩], by omega, by rw [← e1]; exact GV.grown hp1, by rw [← e2]; exact GV.grown hp2, ?_⟩
    have st : St w _ _ _ _ (⟨b2, true, _⟩ :: ⟨b1, true, _⟩ :: eP p4 _ _ :: eP p2 _ _ :: _ :: _ :: _ :: []) := st.subL (by repeat (first | exact List.Sublist.refl _  | apply List.Sublist.cons_cons  | apply List.Sublist.cons  | exact List.nil_sublist _))
    exact (St.back2 (L := [_, _, _, _, _]) st.swap2).fit (by repeat (first | exact trivial  | refine And.intro rfl ?_))
  | zero =>
    rw [Nat.sub_zero] at hGp hGw
    rw [show c.reverse.take c.length = c.reverse from List.take_of_length_le (by rw [List.length_reverse]; omega)] at hGp hGw
    have h0 : 0 < c.reverse.length := by rw [List.length_reverse]; omega
    obtain ⟨b1, cap1, pad1, rfl, rfl⟩ := hGp.own h0
    obtain ⟨b2, cap2, pad2, rfl, rfl⟩ := hGw.own h0
    simp only [List.cons_append, List.nil_append] at st
    (repeat' (first | refine c_seq ?_  | refine c_region ?_  | refine l_do ?_  | refine l_nil ?_  | refine x_then ?_  | refine x_thenE ?_  | refine x_blkN ?_  | refine x_blkE ?_  | refine wp_ret ?_  | refine wp_skip ?_  | refine wp_block ?_  | refine wp_exit ?_  | refine c_condT st rfl ?_  | refine c_condF st rfl ?_  | ((first | refine o_move st rfl rfl ?_  | refine o_assign st rfl rfl ?_); clear st; intro _ st)  | ((first | refine o_alloc st rfl ?_  | refine o_boxA st rfl rfl ?_ ); clear st; intro _ _ _ st)  | ((first | refine o_fieldAddr st rfl rfl ?_  | refine o_loadS st rfl (by repeat constructor) rfl rfl ?_  | refine o_load2 st rfl (by repeat constructor) rfl ?_ ); clear st; intro _ st)  | ((first | refine o_storeS st rfl rfl rfl (by repeat constructor) rfl (by dsimp only [List.set]) ?_  | refine o_storeW st rfl rfl (by repeat constructor) rfl rfl rfl ?_); clear st; intro _ _ st)  | ((first | refine o_build3 st rfl rfl rfl rfl rfl rfl rfl ?_  | refine o_build0 st rfl ?_  | refine o_len st rfl rfl ?_  | refine o_sub64 st rfl rfl rfl (by omega) (by omega) ?_  | refine o_notT st rfl rfl ?_ ); clear st; intro _ st)  | (refine o_geq st rfl rfl rfl ?_ ?_ <;> clear st <;> intro _ _ st <;> (try (exfalso; omega)))))
    refine post2 st Try.results26 (rd_c st rfl (by repeat constructor) rfl) (rd_t st rfl) ?_
    have hne := st.ne_of (e1 := ⟨b1, true, oV 31 (c.reverse.map vPt) pad1⟩) (e2 := ⟨b2, true, oV 29 (c.reverse.map vWt) pad2⟩) rfl (by repeat (first | exact List.Sublist.refl _  | apply List.Sublist.cons_cons  | apply List.Sublist.cons  | exact List.nil_sublist _))
    exact ⟨_, b1, _, b2, _, rfl, ⟨_, rfl, cap1, cap2, pad1, pad2, rfl, rfl, rfl⟩, st.ex2 (by repeat constructor) (by repeat constructor) hne⟩
end Go.Proofs.Ytonbcbhnnflohaa
