/-
  FnNearest: boxes of curves, distances between curves, moved curves.
-/
import Derived.Test.YtonbcbhnnflohaaPd
namespace Go.Proofs.Ytonbcbhnnflohaa
open Go.RowKit
attribute [local irreducible] Code.wp wpList Oper.wp Calls bodyPost Exit.then Exit.inBlock

theorem FrameBox_ok (c : List Kn) (hg : GC c) (v : Value) (w : World) (hv : CrV w c v) :
    CV Try.prog 30 [v] w (.tuple #[.complex .f32 (boxF c c.length).1.1 (boxF c c.length).1.2, .complex .f32 (boxF c c.length).2.1 (boxF c c.length).2.2, .bool true]) := by
  have h0 := hg.lo
  have h8 := hg.hi
  have c1 := fun v w hv => ValidCurve_ok c v hg w hv
  have c2 := fun base cap w hr => box_ok c (by omega) (by omega) (fun k hk => ⟨(hg.pt k hk).1.is, (hg.pt k hk).2.is⟩) base cap w hr
  have hv0 := hv
  obtain ⟨bp, cp, bw, cw, rfl, hp, hw⟩ := hv
  refine enter Try.func30 rfl rfl rfl rfl ?_
  intro a st
  (repeat' (first | (refine o_callV st rfl (c1 _ _ (hv0.mono st.below)) rfl ?_; clear st; intro _ _ st) | (refine o_callV st rfl (c2 _ _ _ (hp.mono st.below)) rfl ?_; clear st; intro _ _ st) | refine c_seq ?_ | refine c_region ?_ | refine l_do ?_ | refine l_nil ?_ | refine x_then ?_ | refine x_thenR ?_ | refine x_thenE ?_ | refine wp_ret ?_ | refine wp_skip ?_ | refine c_condT st rfl ?_ | refine c_condF st rfl ?_ | ((first | refine o_move st rfl rfl ?_ | refine o_assign st rfl rfl ?_); clear st; intro _ st) | ((first | refine o_boxA st rfl rfl ?_ | refine o_boxS st rfl rfl rfl ?_); clear st; intro _ _ _ st) | ((first | refine o_fieldAddr st rfl rfl ?_ | refine o_loadS st rfl (by repeat constructor) rfl rfl ?_ | refine o_load3 st rfl (by repeat constructor) rfl ?_ | refine o_load2 st rfl (by repeat constructor) rfl ?_ | refine o_load4 st rfl (by repeat constructor) rfl ?_ | refine o_extract st rfl rfl rfl ?_ | refine o_notT st rfl rfl ?_ | refine o_notF st rfl rfl ?_); clear st; intro _ st)))
  refine post3 st Try.results30 (rd_t st rfl) (rd_t st rfl) (rd_t st rfl) ?_
  exact ⟨rfl, st.ex0⟩
/-- The points of a curve. -/
structure PtsOk (c : List Kn) (n : Nat) (ts : List Nat) (ks : List Kn) : Prop where
  gc : GC c
  h1 : 1 ≤ n
  h64 : n ≤ 64
  lt : ts.length = n + 1
  lk : ks.length = n + 1
  ht : ∀ k (hk : k < ts.length), shareW (k : Nat) (n : Nat) = some ts[k]
  hk : ∀ k (_ : k < ts.length) (_ : k < ks.length), atK (c.length - 1) c ts[k] = some ks[k]
  hgd : ∀ k ∈ ks, Gd k.1 ∧ Gd k.2.1
structure FbOk (n : Nat) (ks qs : List Kn) (x mo : Nat → Nat) : Prop where
  hx : ∀ k (_ : k < ks.length) (_ : k < qs.length), ∃ r, minusW (ks[k].1, ks[k].2.1) (qs[k].1, qs[k].2.1) = some r ∧ longW r.1 r.2 = some (x k)
  gx : ∀ k, k < n + 1 → Gd (x k)
  m0 : mo 0 = 0
  ms : ∀ k, k < n + 1 → maxW (mo k) (x k) = some (mo (k + 1))
set_option maxHeartbeats 16000000 in
theorem FarBetween_ok (c d : List Kn) (n : Nat) (ts ts' : List Nat) (ks qs : List Kn) (x mo : Nat → Nat) (h : PtsOk c n ts ks) (h' : PtsOk d n ts' qs) (hf : FbOk n ks qs x mo) (v v' : Value) (w : World) (hv : CrV w c v) (hv' : CrV w d v') :
    CV Try.prog 32 [v, v', .int .i64 n] w (.tuple #[.float .f32 (mo (n + 1)), .bool true]) := by
  have hlk := h.lk
  have hlq := h'.lk
  have c1 := fun v w hv => pointsAt_ok c h.gc n ts ks h.h1 h.h64 h.lt h.lk h.ht h.hk h.hgd v w hv
  have c2 := fun v w hv => pointsAt_ok d h'.gc n ts' qs h'.h1 h'.h64 h'.lt h'.lk h'.ht h'.hk h'.hgd v w hv
  have m0 := hf.m0
  have h64 := h.h64
  have hv0 := hv
  have hv1 := hv'
  obtain ⟨bp, cp, bw, cw, rfl, hp, hw⟩ := hv
  obtain ⟨bp', cp', bw', cw', rfl, hp', hw'⟩ := hv'
  refine enter Try.func32 rfl rfl rfl rfl ?_
  intro a st
  (repeat' (first | (refine o_callM1 st rfl (c1 _ _ (hv0.mono st.below)) rfl ?_; clear st; rintro _ bk _ ⟨capk, padk, rfl, rfl⟩ _ _ st) | (refine o_callM1 st rfl (c2 _ _ (hv1.mono st.below)) rfl ?_; clear st; rintro _ bq _ ⟨capq, padq, rfl, rfl⟩ _ _ st) | refine c_seq ?_ | refine c_region ?_ | refine l_do ?_ | refine l_doG st rfl rfl ?_ | ((first | refine l_skipU st rfl rfl rfl ?_ | refine l_skip st rfl rfl rfl rfl ?_); clear st; intro _ st) | refine l_nil ?_ | refine x_then ?_ | refine x_thenR ?_ | refine x_thenE ?_ | refine x_blkN ?_ | refine x_blkR ?_ | refine x_blkE ?_ | refine x_blkO rfl ?_ | refine wp_ret ?_ | refine wp_skip ?_ | refine wp_block ?_ | refine wp_exit ?_ | refine c_condT st rfl ?_ | refine c_condF st rfl ?_ | ((first | refine o_move st rfl rfl ?_ | refine o_assign st rfl rfl ?_ | refine o_pickT st rfl rfl rfl ?_ | refine o_pickF st rfl rfl rfl ?_); clear st; intro _ st) | ((first | refine o_boxA st rfl rfl ?_ | refine o_boxS st rfl rfl rfl ?_); clear st; intro _ _ _ st) | ((first | refine o_loadS st rfl (by repeat constructor) rfl rfl ?_ | refine o_load3 st rfl (by repeat constructor) rfl ?_ | refine o_load2 st rfl (by repeat constructor) rfl ?_ | refine o_load4 st rfl (by repeat constructor) rfl ?_ | refine o_extract st rfl rfl rfl ?_ | refine o_len st rfl rfl ?_ | refine o_add64 st rfl rfl rfl (by omega) (by omega) ?_ | refine o_notT st rfl rfl ?_ | refine o_notF st rfl rfl ?_); clear st; intro _ st) | (refine o_lss st rfl rfl rfl ?_ ?_ <;> clear st <;> intro _ _ st <;> (try (exfalso; omega)))))
  refine wp_loop_ghost (fun z a w' => ∃ i : Nat, i ≤ n + 1 ∧ z = n + 1 - i ∧ St w Try.f32.ntmps a w' [(10, .slice (some ⟨bq, 0, none⟩) (n + 1) capq), (12, .float .f32 (mo i)), (34, .slice (some ⟨bk, 0, none⟩) (n + 1) capk), (35, .int .i64 ((n + 1 : Nat) : Int)), (36, .int .i64 (i : Nat))] [⟨bq, true, oV 31 (qs.map vPt) padq⟩, ⟨bk, true, oV 31 (ks.map vPt) padk⟩]) (n + 1) ⟨0, by omega, by omega, by rw [m0]; exact (st.fit (by repeat (first | exact trivial | refine And.intro rfl ?_))).subL (by repeat (first | exact List.Sublist.refl _ | apply List.Sublist.cons_cons | apply List.Sublist.cons | exact List.nil_sublist _))⟩ ?_
  clear st
  rintro z a w' ⟨i, hi, rfl, st⟩
  by_cases hlt : i < n + 1
  · obtain ⟨r, hr, hl⟩ := hf.hx i (by omega) (by omega)
    have hms := hf.ms i hlt
    have c3 := fun w => minus_ok (ks[i].1, ks[i].2.1) (qs[i].1, qs[i].2.1) r hr w
    have c4 := fun w => LongOf_ok r.1 r.2 (x i) hl w
    have c5 := fun w => IsFinite_ok (x i) (hf.gx i hlt) w
    have gt : ∀ (l : List Kn) (pad : List Value) (hj : i < l.length), (l.map vPt ++ pad).toArray[0 + ((i : Nat) : Int).toNat * 1]? = some (vPt l[i]) := by
      intro l pad hj
      have := oV_get (pad := pad) (vs := l.map vPt) (k := i) (by rw [List.length_map]; omega)
      rw [this, List.getElem_map]
    have g1 := gt ks padk (by omega)
    have g2 := gt qs padq (by omega)
    (repeat' (first | (refine o_indexAddr st rfl rfl (by omega) (by omega) rfl ?_; clear st; intro _ st) | (refine o_loadS st rfl (by repeat constructor) g1 rfl ?_; clear st; intro _ st) | (refine o_loadS st rfl (by repeat constructor) g2 rfl ?_; clear st; intro _ st) | (refine o_callV st rfl (c3 _) rfl ?_; clear st; intro _ _ st) | (refine o_callV st rfl (c4 _) rfl ?_; clear st; intro _ _ st) | (refine o_callV st rfl (c5 _) rfl ?_; clear st; intro _ _ st) | (refine o_max st rfl rfl hms rfl ?_; clear st; intro _ st) | refine c_seq ?_ | refine c_region ?_ | refine l_do ?_ | refine l_doG st rfl rfl ?_ | ((first | refine l_skipU st rfl rfl rfl ?_ | refine l_skip st rfl rfl rfl rfl ?_); clear st; intro _ st) | refine l_nil ?_ | refine x_then ?_ | refine x_thenR ?_ | refine x_thenE ?_ | refine x_blkN ?_ | refine x_blkR ?_ | refine x_blkE ?_ | refine x_blkO rfl ?_ | refine wp_ret ?_ | refine wp_skip ?_ | refine wp_block ?_ | refine wp_exit ?_ | refine c_condT st rfl ?_ | refine c_condF st rfl ?_ | ((first | refine o_move st rfl rfl ?_ | refine o_assign st rfl rfl ?_ | refine o_pickT st rfl rfl rfl ?_ | refine o_pickF st rfl rfl rfl ?_); clear st; intro _ st) | ((first | refine o_boxA st rfl rfl ?_ | refine o_boxS st rfl rfl rfl ?_); clear st; intro _ _ _ st) | ((first | refine o_loadS st rfl (by repeat constructor) rfl rfl ?_ | refine o_load3 st rfl (by repeat constructor) rfl ?_ | refine o_load2 st rfl (by repeat constructor) rfl ?_ | refine o_load4 st rfl (by repeat constructor) rfl ?_ | refine o_extract st rfl rfl rfl ?_ | refine o_len st rfl rfl ?_ | refine o_add64 st rfl rfl rfl (by omega) (by omega) ?_ | refine o_notT st rfl rfl ?_ | refine o_notF st rfl rfl ?_); clear st; intro _ st) | (refine o_lss st rfl rfl rfl ?_ ?_ <;> clear st <;> intro _ _ st <;> (try (exfalso; omega)))))
    exact ⟨n + 1 - (i + 1), by omega, i + 1, by omega, rfl, (st.fit (by repeat (first | exact trivial | refine And.intro rfl ?_))).subL (by repeat (first | exact List.Sublist.refl _ | apply List.Sublist.cons_cons | apply List.Sublist.cons | exact List.nil_sublist _))⟩
  · obtain rfl : i = n + 1 := by omega
    (repeat' (first | refine c_seq ?_ | refine c_region ?_ | refine l_do ?_ | refine l_doG st rfl rfl ?_ | ((first | refine l_skipU st rfl rfl rfl ?_ | refine l_skip st rfl rfl rfl rfl ?_); clear st; intro _ st) | refine l_nil ?_ | refine x_then ?_ | refine x_thenR ?_ | refine x_thenE ?_ | refine x_blkN ?_ | refine x_blkR ?_ | refine x_blkE ?_ | refine x_blkO rfl ?_ | refine wp_ret ?_ | refine wp_skip ?_ | refine wp_block ?_ | refine wp_exit ?_ | refine c_condT st rfl ?_ | refine c_condF st rfl ?_ | ((first | refine o_move st rfl rfl ?_ | refine o_assign st rfl rfl ?_ | refine o_pickT st rfl rfl rfl ?_ | refine o_pickF st rfl rfl rfl ?_); clear st; intro _ st) | ((first | refine o_boxA st rfl rfl ?_ | refine o_boxS st rfl rfl rfl ?_); clear st; intro _ _ _ st) | ((first | refine o_loadS st rfl (by repeat constructor) rfl rfl ?_ | refine o_load3 st rfl (by repeat constructor) rfl ?_ | refine o_load2 st rfl (by repeat constructor) rfl ?_ | refine o_load4 st rfl (by repeat constructor) rfl ?_ | refine o_extract st rfl rfl rfl ?_ | refine o_len st rfl rfl ?_ | refine o_add64 st rfl rfl rfl (by omega) (by omega) ?_ | refine o_notT st rfl rfl ?_ | refine o_notF st rfl rfl ?_); clear st; intro _ st) | (refine o_lss st rfl rfl rfl ?_ ?_ <;> clear st <;> intro _ _ st <;> (try (exfalso; omega)))))
    refine post2 st Try.results32 (rd_t st rfl) (rd_t st rfl) ?_
    exact ⟨rfl, st.ex0⟩
theorem l02Give_ok (c : List Kn) (v : Value) (hg : GC c) (w : World) (hv : CrV w c v) : CV Try.prog 83 [v] w (.tuple #[v, .bool true]) := by
  have h0 := hg.lo
  obtain ⟨x, rfl, hx, h3, h4⟩ := hv.get (by omega)
  have c1 := fun p w hp => l02Is_ok c hg p w hp
  refine enter Try.func83 rfl rfl rfl rfl ?_
  intro a st
  have st := (st.addOld h3).addOld h4
  (repeat' (first | (refine o_callV st rfl (c1 _ _ ⟨x, st.heap (by repeat constructor), hx, st.heap (by repeat constructor), st.heap (by repeat constructor)⟩) rfl ?_; clear st; intro _ _ st) | refine c_seq ?_ | refine c_region ?_ | refine l_do ?_ | refine l_nil ?_ | refine x_then ?_ | refine x_thenR ?_ | refine x_thenE ?_ | refine wp_ret ?_ | refine wp_skip ?_ | refine c_condT st rfl ?_ | refine c_condF st rfl ?_ | (refine o_assign st rfl rfl ?_; clear st; intro _ st) | ((first | refine o_alloc st rfl ?_ | refine o_boxA st rfl rfl ?_ | refine o_boxS st rfl rfl rfl ?_); clear st; intro _ _ _ st) | ((first | refine o_loadS st rfl (by repeat constructor) rfl rfl ?_ | refine o_load3 st rfl (by repeat constructor) rfl ?_ | refine o_load2 st rfl (by repeat constructor) rfl ?_ | refine o_load4 st rfl (by repeat constructor) rfl ?_); clear st; intro _ st) | ((first | refine o_storeS st rfl rfl rfl (by repeat constructor) rfl (by dsimp only [List.set]) ?_ | refine o_storeW st rfl rfl (by repeat constructor) rfl rfl rfl ?_); clear st; intro _ _ st) | ((first | refine o_build3 st rfl rfl rfl rfl rfl rfl rfl ?_ | refine o_build2 st rfl rfl rfl rfl rfl ?_ | refine o_build0 st rfl ?_ | refine o_notT st rfl rfl ?_ | refine o_notF st rfl rfl ?_); clear st; intro _ st)))
  refine post2 st Try.results83 (rd_c st rfl (by repeat constructor) rfl) (rd_t st rfl) ?_
  exact ⟨rfl, st.ex0⟩
set_option maxHeartbeats 16000000 in
theorem l02Own_ok (c : List Kn) (h0 : 0 < c.length) (hl : c.length ≤ 1000) (p : Nat) (w : World) (hp : AtP w p c) : CM2 Try.prog 82 [.pointer (some ⟨p, 0, none⟩)] w (OwnC c) := by
  obtain ⟨x, hw, hx, h3, h4⟩ := hp
  have hcp : ∀ {a : Act} {w' : World} {E : List (Nat × Value)} {L : List Ent}, St w Try.f82.ntmps a w' E L → ∀ j u, (c.map vPt)[j]? = some u → w'.cell? ⟨x.b1, x.o1 + j, none⟩ = some u := by
    intro a w' E L st j u hj
    rw [cell_known (st.addOld h3) At.here rfl]
    exact hx.pt j u hj
  have hcw : ∀ {a : Act} {w' : World} {E : List (Nat × Value)} {L : List Ent}, St w Try.f82.ntmps a w' E L → ∀ j u, (c.map vWt)[j]? = some u → w'.cell? ⟨x.b2, x.o2 + j, none⟩ = some u := by
    intro a w' E L st j u hj
    rw [cell_known (st.addOld h4) At.here rfl]
    exact hx.wt j u hj
  refine enter Try.func82 rfl rfl rfl rfl ?_
  intro a st
  have st := ((st.addOld h3).addOld h4).addOld hw
  (repeat' (first | (refine o_alloc (d := 2) st rfl ?_; clear st; intro p2 _ _ st) | refine c_seq ?_ | refine c_region ?_ | refine l_do ?_ | refine l_nil ?_ | refine x_then ?_ | refine x_thenR ?_ | refine x_thenE ?_ | refine wp_ret ?_ | (refine o_move st rfl rfl ?_; clear st; intro _ st) | (refine o_alloc st rfl ?_; clear st; intro _ _ _ st) | ((first | refine o_fieldAddr st rfl rfl ?_ | refine o_loadS st rfl (by repeat constructor) rfl rfl ?_ | refine o_load3 st rfl (by repeat constructor) rfl ?_ | refine o_load2 st rfl (by repeat constructor) rfl ?_ | refine o_load4 st rfl (by repeat constructor) rfl ?_); clear st; intro _ st) | ((first | refine o_storeS st rfl rfl rfl (by repeat constructor) rfl (by dsimp only [List.set]) ?_ | refine o_storeW st rfl rfl (by repeat constructor) rfl rfl rfl ?_); clear st; intro _ _ st) | ((first | refine o_build3 st rfl rfl rfl rfl rfl rfl rfl ?_ | refine o_build2 st rfl rfl rfl rfl rfl ?_ | refine o_build0 st rfl ?_ | refine o_nilCheck st rfl rfl ?_); clear st; intro _ st)))
  refine c_drawC (F := (fun _ _ a w' => ∃ (b1 b2 cap1 cap2 : Nat) (pad1 pad2 : List Value), St w Try.f82.ntmps a w' [(2, .pointer (some ⟨p2, 0, none⟩))] (⟨b1, true, oV 31 (c.map vPt) pad1⟩ :: ⟨b2, true, oV 29 (c.map vWt) pad2⟩ :: eP p2 (.slice (some ⟨b1, 0, none⟩) c.length cap1) (.slice (some ⟨b2, 0, none⟩) c.length cap2) :: []))) (Lh := [⟨p, false, .cells [.slice (some ⟨x.b1, x.o1, none⟩) c.length x.cp, .slice (some ⟨x.b2, x.o2, none⟩) c.length x.cw].toArray 27 (0, 0)⟩]) (last := 13) hm_ (by decide +kernel) (by decide +kernel) st ?_ ?_
  · clear st; intro _ st
    refine d_v 1 st (by repeat constructor) rfl (by decide +kernel) rfl (v_move st rfl) ?_; clear st; intro _ st
    refine d_v 2 st (by repeat constructor) rfl (by decide +kernel) rfl (v_nilCheck st rfl) ?_; clear st; intro _ st
    refine d_v 3 st (by repeat constructor) rfl (by decide +kernel) rfl (v_fieldAddr st rfl) ?_; clear st; intro _ st
    refine d_v 4 st (by repeat constructor) rfl (by decide +kernel) rfl (by first | exact v_load3 st rfl (by repeat constructor) | exact v_loadS st rfl (by repeat constructor) rfl) ?_; clear st; intro _ st
    refine d_v 7 st (by repeat constructor) rfl (by decide +kernel) rfl (v_move st rfl) ?_; clear st; intro _ st
    refine d_v 8 st (by repeat constructor) rfl (by decide +kernel) rfl (v_nilCheck st rfl) ?_; clear st; intro _ st
    refine d_v 9 st (by repeat constructor) rfl (by decide +kernel) rfl (v_fieldAddr st rfl) ?_; clear st; intro _ st
    refine d_v 10 st (by repeat constructor) rfl (by decide +kernel) rfl (by first | exact v_load3 st rfl (by repeat constructor) | exact v_loadS st rfl (by repeat constructor) rfl) ?_; clear st; intro _ st
    refine d_two 0 6 (by decide +kernel) rfl rfl ?_ ?_
    · skip
      refine o_buildSlice0 st rfl ?_; clear st; intro _ _ _ st
      refine kh st (by repeat constructor) ?_
      refine d_two 5 6 (by decide +kernel) rfl rfl ?_ ?_
      · skip
        refine o_appendF (size := 1) (news := c.map vPt) st rfl rfl (hcp st) (by rw [List.length_map]; omega) (one_vPt c) h0 (by omega) (by omega) rfl ?_; clear st; intro b1 cap1 pad1 _ _ _ st
        refine kh st (by repeat constructor) ?_
        refine d_one 6 (by decide +kernel) rfl ?_
        refine o_buildSlice0 st rfl ?_; clear st; intro _ _ _ st
        refine kh st (by repeat constructor) ?_
        refine d_one 11 (by decide +kernel) rfl ?_
        refine o_appendF (size := 1) (news := c.map vWt) st rfl rfl (hcw st) (by rw [List.length_map]; omega) (one_vWt c) h0 (by omega) (by omega) rfl ?_; clear st; intro b2 cap2 pad2 _ _ _ st
        refine kh st (by repeat constructor) ?_
        refine d_one 12 (by decide +kernel) rfl ?_
        refine o_build2 st rfl rfl rfl rfl rfl ?_; clear st; intro _ st
        refine kh st (by repeat constructor) ?_
        refine d_one 13 (by decide +kernel) rfl ?_
        (first | ((first | refine o_storeS st rfl rfl rfl (by repeat constructor) rfl (by dsimp only [List.set]) ?_ | refine o_storeW st rfl rfl (by repeat constructor) rfl rfl rfl ?_); clear st; intro _ _ st))
        refine k_last ?_
        refine d_done (by decide +kernel) ?_
        refine ⟨rfl, ?_⟩
        have st := St.front 2 st rfl (by repeat constructor)
        have st := St.pull b2 st (by repeat constructor)
        have st := St.pull b1 st (by repeat constructor)
        exact ⟨b1, b2, cap1, cap2, pad1, pad2, (st.fit (by repeat (first | exact trivial | refine And.intro rfl ?_))).subL (by repeat (first | exact List.Sublist.refl _ | apply List.Sublist.cons_cons | apply List.Sublist.cons | exact List.nil_sublist _))⟩
      · skip
        refine o_buildSlice0 st rfl ?_; clear st; intro _ _ _ st
        refine kh st (by repeat constructor) ?_
        refine d_one 5 (by decide +kernel) rfl ?_
        refine o_appendF (size := 1) (news := c.map vPt) st rfl rfl (hcp st) (by rw [List.length_map]; omega) (one_vPt c) h0 (by omega) (by omega) rfl ?_; clear st; intro b1 cap1 pad1 _ _ _ st
        refine kh st (by repeat constructor) ?_
        refine d_one 11 (by decide +kernel) rfl ?_
        refine o_appendF (size := 1) (news := c.map vWt) st rfl rfl (hcw st) (by rw [List.length_map]; omega) (one_vWt c) h0 (by omega) (by omega) rfl ?_; clear st; intro b2 cap2 pad2 _ _ _ st
        refine kh st (by repeat constructor) ?_
        refine d_one 12 (by decide +kernel) rfl ?_
        refine o_build2 st rfl rfl rfl rfl rfl ?_; clear st; intro _ st
        refine kh st (by repeat constructor) ?_
        refine d_one 13 (by decide +kernel) rfl ?_
        (first | ((first | refine o_storeS st rfl rfl rfl (by repeat constructor) rfl (by dsimp only [List.set]) ?_ | refine o_storeW st rfl rfl (by repeat constructor) rfl rfl rfl ?_); clear st; intro _ _ st))
        refine k_last ?_
        refine d_done (by decide +kernel) ?_
        refine ⟨rfl, ?_⟩
        have st := St.front 2 st rfl (by repeat constructor)
        have st := St.pull b2 st (by repeat constructor)
        have st := St.pull b1 st (by repeat constructor)
        exact ⟨b1, b2, cap1, cap2, pad1, pad2, (st.fit (by repeat (first | exact trivial | refine And.intro rfl ?_))).subL (by repeat (first | exact List.Sublist.refl _ | apply List.Sublist.cons_cons | apply List.Sublist.cons | exact List.nil_sublist _))⟩
    · skip
      refine o_buildSlice0 st rfl ?_; clear st; intro _ _ _ st
      refine kh st (by repeat constructor) ?_
      refine d_one 0 (by decide +kernel) rfl ?_
      refine o_buildSlice0 st rfl ?_; clear st; intro _ _ _ st
      refine kh st (by repeat constructor) ?_
      refine d_one 5 (by decide +kernel) rfl ?_
      refine o_appendF (size := 1) (news := c.map vPt) st rfl rfl (hcp st) (by rw [List.length_map]; omega) (one_vPt c) h0 (by omega) (by omega) rfl ?_; clear st; intro b1 cap1 pad1 _ _ _ st
      refine kh st (by repeat constructor) ?_
      refine d_one 11 (by decide +kernel) rfl ?_
      refine o_appendF (size := 1) (news := c.map vWt) st rfl rfl (hcw st) (by rw [List.length_map]; omega) (one_vWt c) h0 (by omega) (by omega) rfl ?_; clear st; intro b2 cap2 pad2 _ _ _ st
      refine kh st (by repeat constructor) ?_
      refine d_one 12 (by decide +kernel) rfl ?_
      refine o_build2 st rfl rfl rfl rfl rfl ?_; clear st; intro _ st
      refine kh st (by repeat constructor) ?_
      refine d_one 13 (by decide +kernel) rfl ?_
      (first | ((first | refine o_storeS st rfl rfl rfl (by repeat constructor) rfl (by dsimp only [List.set]) ?_ | refine o_storeW st rfl rfl (by repeat constructor) rfl rfl rfl ?_); clear st; intro _ _ st))
      refine k_last ?_
      refine d_done (by decide +kernel) ?_
      refine ⟨rfl, ?_⟩
      have st := St.front 2 st rfl (by repeat constructor)
      have st := St.pull b2 st (by repeat constructor)
      have st := St.pull b1 st (by repeat constructor)
      exact ⟨b1, b2, cap1, cap2, pad1, pad2, (st.fit (by repeat (first | exact trivial | refine And.intro rfl ?_))).subL (by repeat (first | exact List.Sublist.refl _ | apply List.Sublist.cons_cons | apply List.Sublist.cons | exact List.nil_sublist _))⟩
  clear st
  rintro _ _ ⟨b1, b2, cap1, cap2, pad1, pad2, st⟩
  (repeat' (first | refine c_seq ?_ | refine c_region ?_ | refine l_do ?_ | refine l_nil ?_ | refine x_then ?_ | refine x_thenR ?_ | refine x_thenE ?_ | refine wp_ret ?_ | (refine o_move st rfl rfl ?_; clear st; intro _ st) | (refine o_alloc st rfl ?_; clear st; intro _ _ _ st) | ((first | refine o_fieldAddr st rfl rfl ?_ | refine o_loadS st rfl (by repeat constructor) rfl rfl ?_ | refine o_load3 st rfl (by repeat constructor) rfl ?_ | refine o_load2 st rfl (by repeat constructor) rfl ?_ | refine o_load4 st rfl (by repeat constructor) rfl ?_); clear st; intro _ st) | ((first | refine o_storeS st rfl rfl rfl (by repeat constructor) rfl (by dsimp only [List.set]) ?_ | refine o_storeW st rfl rfl (by repeat constructor) rfl rfl rfl ?_); clear st; intro _ _ st) | ((first | refine o_build3 st rfl rfl rfl rfl rfl rfl rfl ?_ | refine o_build2 st rfl rfl rfl rfl rfl ?_ | refine o_build0 st rfl ?_ | refine o_nilCheck st rfl rfl ?_); clear st; intro _ st)))
  refine post1 st Try.results82 (rd_c st rfl (by repeat constructor) rfl) ?_
  have hne := st.ne_of (e1 := ⟨b1, true, oV 31 (c.map vPt) pad1⟩) (e2 := ⟨b2, true, oV 29 (c.map vWt) pad2⟩) rfl (by repeat (first | exact List.Sublist.refl _ | apply List.Sublist.cons_cons | apply List.Sublist.cons | exact List.nil_sublist _))
  exact ⟨_, b1, _, b2, _, rfl, ⟨cap1, cap2, pad1, pad2, rfl, rfl, rfl⟩, st.ex2 (by repeat constructor) (by repeat constructor) hne⟩
set_option maxHeartbeats 16000000 in
theorem MoveCurve_ok (c d : List Kn) (z : Nat × Nat) (h : moveC c z = some d) (hg : GC c) (hd : GC d) (hz : Gd z.1 ∧ Gd z.2) (v : Value) (w : World) (hv : CrV w c v) : CM2 Try.prog 33 [v, .complex .f32 z.1 z.2] w (OwnT d) := by
  have h0 := hg.lo
  have h8 := hg.hi
  obtain ⟨hdl, hget⟩ := moveC_get z c d h
  obtain ⟨x, rfl, hx, h3, h4⟩ := hv.get (by omega)
  have c1 := fun p w hp => l02Is_ok c hg p w hp
  have c2 := fun w => l01CFinite_ok z hz.1 hz.2 w
  have c3 := fun p w hp => l02Own_ok c (by omega) (by omega) p w hp
  have c4 := fun v w hv => l02Give_ok d v hd w hv
  have hwt : d.map vWt = c.map vWt := by
    refine List.ext_getElem (by simp [hdl]) ?_
    intro i h1 h2
    rw [List.length_map] at h1 h2
    rw [List.getElem_map, List.getElem_map, vWt, vWt, (hget i h2 h1).2.2]
  refine enter Try.func33 rfl rfl rfl rfl ?_
  intro a st
  have st := (st.addOld h3).addOld h4
  (repeat' (first | (refine o_boxA (d := 2) st rfl rfl ?_; clear st; intro p2 _ _ st) | (refine o_alloc (d := 4) st rfl ?_; clear st; intro p4 _ _ st) | (refine o_alloc (d := 6) st rfl ?_; clear st; intro p6 _ _ st) | (refine o_callV st rfl (c1 _ _ ⟨x, st.heap (by repeat constructor), hx, st.heap (by repeat constructor), st.heap (by repeat constructor)⟩) rfl ?_; clear st; intro _ _ st) | (refine o_callV st rfl (c2 _) rfl ?_; clear st; intro _ _ st) | (refine o_callM2 st rfl (c3 _ _ ⟨x, st.heap (by repeat constructor), hx, st.heap (by repeat constructor), st.heap (by repeat constructor)⟩) rfl ?_; clear st; rintro _ b1 _ b2 _ ⟨cap1, cap2, pad1, pad2, rfl, rfl, rfl⟩ _ _ st) | refine c_seq ?_ | refine c_region ?_ | refine l_do ?_ | refine l_doG st rfl rfl ?_ | ((first | refine l_skipU st rfl rfl rfl ?_ | refine l_skip st rfl rfl rfl rfl ?_); clear st; intro _ st) | refine l_nil ?_ | refine x_then ?_ | refine x_thenR ?_ | refine x_thenE ?_ | refine x_blkN ?_ | refine x_blkR ?_ | refine x_blkE ?_ | refine x_blkO rfl ?_ | refine wp_ret ?_ | refine wp_skip ?_ | refine wp_block ?_ | refine wp_exit ?_ | refine c_condT st rfl ?_ | refine c_condF st rfl ?_ | ((first | refine o_move st rfl rfl ?_ | refine o_assign st rfl rfl ?_ | refine o_pickT st rfl rfl rfl ?_ | refine o_pickF st rfl rfl rfl ?_); clear st; intro _ st) | ((first | refine o_alloc st rfl ?_ | refine o_boxA st rfl rfl ?_ | refine o_boxS st rfl rfl rfl ?_); clear st; intro _ _ _ st) | ((first | refine o_fieldAddr st rfl rfl ?_ | refine o_loadS st rfl (by repeat constructor) rfl rfl ?_ | refine o_load3 st rfl (by repeat constructor) rfl ?_ | refine o_load2 st rfl (by repeat constructor) rfl ?_ | refine o_load4 st rfl (by repeat constructor) rfl ?_); clear st; intro _ st) | ((first | refine o_storeS st rfl rfl rfl (by repeat constructor) rfl (by dsimp only [List.set]) ?_ | refine o_storeW st rfl rfl (by repeat constructor) rfl rfl rfl ?_); clear st; intro _ _ st) | ((first | refine o_build3 st rfl rfl rfl rfl rfl rfl rfl ?_ | refine o_build2 st rfl rfl rfl rfl rfl ?_ | refine o_build0 st rfl ?_ | refine o_extract st rfl rfl rfl ?_ | refine o_len st rfl rfl ?_ | refine o_add64 st rfl rfl rfl (by omega) (by omega) ?_ | refine o_notT st rfl rfl ?_ | refine o_notF st rfl rfl ?_); clear st; intro _ st) | (refine o_lss st rfl rfl rfl ?_ ?_ <;> clear st <;> intro _ _ st <;> (try (exfalso; omega)))))
  refine wp_loop_ghost (fun y a w' => ∃ i : Nat, i ≤ c.length ∧ y = c.length - i ∧ St w Try.f33.ntmps a w' [(1, .complex .f32 z.1 z.2), (2, .pointer (some ⟨p2, 0, none⟩)), (4, .pointer (some ⟨p4, 0, none⟩)), (6, .pointer (some ⟨p6, 0, none⟩)), (7, .int .i64 (i : Nat))]
    (eP p6 (.slice (some ⟨b1, 0, none⟩) c.length cap1) (.slice (some ⟨b2, 0, none⟩) c.length cap2) :: ⟨b1, true, oV 31 ((d.take i ++ c.drop i).map vPt) pad1⟩ :: ⟨b2, true, oV 29 (c.map vWt) pad2⟩ :: eP p4 (.slice none 0 0) (.slice none 0 0) :: eP p2 (.slice (some ⟨x.b1, x.o1, none⟩) c.length x.cp) (.slice (some ⟨x.b2, x.o2, none⟩) c.length x.cw) :: ⟨x.b2, false, .cells x.a2 x.t2 x.f2⟩ :: ⟨x.b1, false, .cells x.a1 x.t1 x.f1⟩ :: [])) c.length ⟨0, by omega, by omega, (st.fit (by repeat (first | exact trivial | refine And.intro rfl ?_))).subL (by repeat (first | exact List.Sublist.refl _ | apply List.Sublist.cons_cons | apply List.Sublist.cons | exact List.nil_sublist _))⟩ ?_
  clear st
  rintro y a w' ⟨i, hi, rfl, st⟩
  by_cases hlt : i < c.length
  · obtain ⟨e1, e2, e3⟩ := hget i hlt (by omega)
    have g1 := hx.at1 (k := i) (j := (i : Nat)) hlt rfl
    have hlen : ((d.take i ++ c.drop i).map vPt).length = c.length := by rw [List.length_map, List.length_append, List.length_take, List.length_drop]; omega
    have hset : (((d.take i ++ c.drop i).map vPt) ++ pad1).set (0 + ((i : Nat) : Int).toNat * 1) (.complex .f32 d[i].1 d[i].2.1) = (d.take (i + 1) ++ c.drop (i + 1)).map vPt ++ pad1 := by
      rw [show 0 + ((i : Nat) : Int).toNat * 1 = i by simp, set_left (by omega)]
      congr 1
      rw [show (Value.complex .f32 d[i].1 d[i].2.1) = vPt d[i] from rfl, ← List.map_set]
      congr 1
      rw [List.drop_eq_getElem_cons hlt, List.take_succ_eq_append_getElem (by omega), List.set_append_right _ _ (by rw [List.length_take]; omega)]
      have : i - (d.take i).length = 0 := by rw [List.length_take]; omega
      rw [this, List.set_cons_zero, List.append_assoc]
      rfl
    (repeat' (first | refine c_seq ?_ | refine c_region ?_ | refine l_do ?_ | refine l_doG st rfl rfl ?_ | ((first | refine l_skipU st rfl rfl rfl ?_ | refine l_skip st rfl rfl rfl rfl ?_); clear st; intro _ st) | refine l_nil ?_ | refine x_then ?_ | refine x_thenR ?_ | refine x_thenE ?_ | refine x_blkN ?_ | refine x_blkR ?_ | refine x_blkE ?_ | refine x_blkO rfl ?_ | refine wp_ret ?_ | refine wp_skip ?_ | refine wp_block ?_ | refine wp_exit ?_ | refine c_condT st rfl ?_ | refine c_condF st rfl ?_ | ((first | refine o_move st rfl rfl ?_ | refine o_assign st rfl rfl ?_ | refine o_pickT st rfl rfl rfl ?_ | refine o_pickF st rfl rfl rfl ?_); clear st; intro _ st) | ((first | refine o_alloc st rfl ?_ | refine o_boxA st rfl rfl ?_ | refine o_boxS st rfl rfl rfl ?_); clear st; intro _ _ _ st) | ((first | refine o_fieldAddr st rfl rfl ?_ | refine o_loadS st rfl (by repeat constructor) rfl rfl ?_ | refine o_load3 st rfl (by repeat constructor) rfl ?_ | refine o_load2 st rfl (by repeat constructor) rfl ?_ | refine o_load4 st rfl (by repeat constructor) rfl ?_); clear st; intro _ st) | ((first | refine o_storeS st rfl rfl rfl (by repeat constructor) rfl (by dsimp only [List.set]) ?_ | refine o_storeW st rfl rfl (by repeat constructor) rfl rfl rfl ?_); clear st; intro _ _ st) | ((first | refine o_build3 st rfl rfl rfl rfl rfl rfl rfl ?_ | refine o_build2 st rfl rfl rfl rfl rfl ?_ | refine o_build0 st rfl ?_ | refine o_extract st rfl rfl rfl ?_ | refine o_len st rfl rfl ?_ | refine o_add64 st rfl rfl rfl (by omega) (by omega) ?_ | refine o_notT st rfl rfl ?_ | refine o_notF st rfl rfl ?_); clear st; intro _ st) | (refine o_lss st rfl rfl rfl ?_ ?_ <;> clear st <;> intro _ _ st <;> (try (exfalso; omega)))))
    refine c_draw (Lh := [eP p6 (.slice (some ⟨b1, 0, none⟩) c.length cap1) (.slice (some ⟨b2, 0, none⟩) c.length cap2), eP p2 (.slice (some ⟨x.b1, x.o1, none⟩) c.length x.cp) (.slice (some ⟨x.b2, x.o2, none⟩) c.length x.cw), ⟨x.b2, false, .cells x.a2 x.t2 x.f2⟩, ⟨x.b1, false, .cells x.a1 x.t1 x.f1⟩]) (last := 11) hm_ (by decide +kernel) (by decide +kernel) st ?_; clear st; intro _ st
    refine d_v 0 st (by repeat constructor) rfl (by decide +kernel) rfl (v_fieldAddr st rfl) ?_; clear st; intro _ st
    refine d_v 1 st (by repeat constructor) rfl (by decide +kernel) rfl (by first | exact v_load3 st rfl (by repeat constructor) | exact v_loadS st rfl (by repeat constructor) rfl) ?_; clear st; intro _ st
    refine d_v 2 st (by repeat constructor) rfl (by decide +kernel) rfl (v_move st rfl) ?_; clear st; intro _ st
    refine d_v 3 st (by repeat constructor) rfl (by decide +kernel) rfl (v_fieldAddr st rfl) ?_; clear st; intro _ st
    refine d_v 4 st (by repeat constructor) rfl (by decide +kernel) rfl (by first | exact v_load3 st rfl (by repeat constructor) | exact v_loadS st rfl (by repeat constructor) rfl) ?_; clear st; intro _ st
    refine d_v 5 st (by repeat constructor) rfl (by decide +kernel) rfl (v_move st rfl) ?_; clear st; intro _ st
    refine d_v 6 st (by repeat constructor) rfl (by decide +kernel) rfl (v_indexAddr st rfl rfl (by omega) (by omega)) ?_; clear st; intro _ st
    refine d_v 7 st (by repeat constructor) rfl (by decide +kernel) rfl (v_loadS st rfl (by repeat constructor) g1) ?_; clear st; intro _ st
    refine d_v 8 st (by repeat constructor) rfl (by decide +kernel) rfl (v_move st rfl) ?_; clear st; intro _ st
    refine d_v 9 st (by repeat constructor) rfl (by decide +kernel) rfl (v_cadd st rfl rfl e1 e2) ?_; clear st; intro _ st
    refine d_v 10 st (by repeat constructor) rfl (by decide +kernel) rfl (v_indexAddr st rfl rfl (by omega) (by omega)) ?_; clear st; intro _ st
    refine d_one 11 (by decide +kernel) rfl ?_
    refine o_storeC ((d.take (i + 1) ++ c.drop (i + 1)).map vPt ++ pad1) st rfl rfl rfl (by repeat constructor) (by rw [List.length_append, hlen]; simp; omega) hset ?_; clear st; intro _ _ st
    refine k_last ?_
    refine d_done (by decide +kernel) ?_
    (repeat' (first | refine c_seq ?_ | refine c_region ?_ | refine l_do ?_ | refine l_doG st rfl rfl ?_ | ((first | refine l_skipU st rfl rfl rfl ?_ | refine l_skip st rfl rfl rfl rfl ?_); clear st; intro _ st) | refine l_nil ?_ | refine x_then ?_ | refine x_thenR ?_ | refine x_thenE ?_ | refine x_blkN ?_ | refine x_blkR ?_ | refine x_blkE ?_ | refine x_blkO rfl ?_ | refine wp_ret ?_ | refine wp_skip ?_ | refine wp_block ?_ | refine wp_exit ?_ | refine c_condT st rfl ?_ | refine c_condF st rfl ?_ | ((first | refine o_move st rfl rfl ?_ | refine o_assign st rfl rfl ?_ | refine o_pickT st rfl rfl rfl ?_ | refine o_pickF st rfl rfl rfl ?_); clear st; intro _ st) | ((first | refine o_alloc st rfl ?_ | refine o_boxA st rfl rfl ?_ | refine o_boxS st rfl rfl rfl ?_); clear st; intro _ _ _ st) | ((first | refine o_fieldAddr st rfl rfl ?_ | refine o_loadS st rfl (by repeat constructor) rfl rfl ?_ | refine o_load3 st rfl (by repeat constructor) rfl ?_ | refine o_load2 st rfl (by repeat constructor) rfl ?_ | refine o_load4 st rfl (by repeat constructor) rfl ?_); clear st; intro _ st) | ((first | refine o_storeS st rfl rfl rfl (by repeat constructor) rfl (by dsimp only [List.set]) ?_ | refine o_storeW st rfl rfl (by repeat constructor) rfl rfl rfl ?_); clear st; intro _ _ st) | ((first | refine o_build3 st rfl rfl rfl rfl rfl rfl rfl ?_ | refine o_build2 st rfl rfl rfl rfl rfl ?_ | refine o_build0 st rfl ?_ | refine o_extract st rfl rfl rfl ?_ | refine o_len st rfl rfl ?_ | refine o_add64 st rfl rfl rfl (by omega) (by omega) ?_ | refine o_notT st rfl rfl ?_ | refine o_notF st rfl rfl ?_); clear st; intro _ st) | (refine o_lss st rfl rfl rfl ?_ ?_ <;> clear st <;> intro _ _ st <;> (try (exfalso; omega)))))
    exact ⟨c.length - (i + 1), by omega, i + 1, by omega, rfl, (st.fit (by repeat (first | exact trivial | refine And.intro rfl ?_))).subL (by repeat (first | exact List.Sublist.refl _ | apply List.Sublist.cons_cons | apply List.Sublist.cons | exact List.nil_sublist _))⟩
  · obtain rfl : i = c.length := by omega
    rw [List.drop_length, List.append_nil, ← hdl, List.take_length, hdl, ← hwt] at st
    have hcr : ∀ {a : Act} {w' : World} {E : List (Nat × Value)} {L : List Ent}, St w Try.f33.ntmps a w' E L → At L b1 true (oV 31 (d.map vPt) pad1) → At L b2 true (oV 29 (d.map vWt) pad2) → CrV w' d (.agg [.slice (some ⟨b1, 0, none⟩) c.length cap1, .slice (some ⟨b2, 0, none⟩) c.length cap2].toArray) := by
      intro a w' E L st h1 h2
      rw [← hdl]
      exact crv_own (st.heap h1) (st.heap h2)
    (repeat' (first | (refine o_callV st rfl (c4 _ _ (hcr st (by repeat constructor) (by repeat constructor))) rfl ?_; clear st; intro _ _ st) | refine c_seq ?_ | refine c_region ?_ | refine l_do ?_ | refine l_doG st rfl rfl ?_ | ((first | refine l_skipU st rfl rfl rfl ?_ | refine l_skip st rfl rfl rfl rfl ?_); clear st; intro _ st) | refine l_nil ?_ | refine x_then ?_ | refine x_thenR ?_ | refine x_thenE ?_ | refine x_blkN ?_ | refine x_blkR ?_ | refine x_blkE ?_ | refine x_blkO rfl ?_ | refine wp_ret ?_ | refine wp_skip ?_ | refine wp_block ?_ | refine wp_exit ?_ | refine c_condT st rfl ?_ | refine c_condF st rfl ?_ | ((first | refine o_move st rfl rfl ?_ | refine o_assign st rfl rfl ?_ | refine o_pickT st rfl rfl rfl ?_ | refine o_pickF st rfl rfl rfl ?_); clear st; intro _ st) | ((first | refine o_alloc st rfl ?_ | refine o_boxA st rfl rfl ?_ | refine o_boxS st rfl rfl rfl ?_); clear st; intro _ _ _ st) | ((first | refine o_fieldAddr st rfl rfl ?_ | refine o_loadS st rfl (by repeat constructor) rfl rfl ?_ | refine o_load3 st rfl (by repeat constructor) rfl ?_ | refine o_load2 st rfl (by repeat constructor) rfl ?_ | refine o_load4 st rfl (by repeat constructor) rfl ?_); clear st; intro _ st) | ((first | refine o_storeS st rfl rfl rfl (by repeat constructor) rfl (by dsimp only [List.set]) ?_ | refine o_storeW st rfl rfl (by repeat constructor) rfl rfl rfl ?_); clear st; intro _ _ st) | ((first | refine o_build3 st rfl rfl rfl rfl rfl rfl rfl ?_ | refine o_build2 st rfl rfl rfl rfl rfl ?_ | refine o_build0 st rfl ?_ | refine o_extract st rfl rfl rfl ?_ | refine o_len st rfl rfl ?_ | refine o_add64 st rfl rfl rfl (by omega) (by omega) ?_ | refine o_notT st rfl rfl ?_ | refine o_notF st rfl rfl ?_); clear st; intro _ st) | (refine o_lss st rfl rfl rfl ?_ ?_ <;> clear st <;> intro _ _ st <;> (try (exfalso; omega)))))
    refine post2 st Try.results33 (rd_c st rfl (by repeat constructor) rfl) (rd_t st rfl) ?_
    have hne := st.ne_of (e1 := ⟨b1, true, oV 31 (d.map vPt) pad1⟩) (e2 := ⟨b2, true, oV 29 (d.map vWt) pad2⟩) rfl (by repeat (first | exact List.Sublist.refl _ | apply List.Sublist.cons_cons | apply List.Sublist.cons | exact List.nil_sublist _))
    exact ⟨_, b1, _, b2, _, rfl, ⟨_, rfl, cap1, cap2, pad1, pad2, by rw [hdl], rfl, rfl⟩, st.ex2 (by repeat constructor) (by repeat constructor) hne⟩
end Go.Proofs.Ytonbcbhnnflohaa
