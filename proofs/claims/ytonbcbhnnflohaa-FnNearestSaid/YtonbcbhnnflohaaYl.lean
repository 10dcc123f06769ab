/-
  FnCurves: curves that are drawn from bytes.
-/
import Derived.Test.YtonbcbhnnflohaaYk
namespace Go.Proofs.Ytonbcbhnnflohaa
open Go.RowKit

/-- A quarter of a number. -/
def qW (i : Int) : Option Nat := fop .quo .f32 (some (floatOfInt .f32 i)) (some 1082130432)
def qv (i : Int) : Nat := (qW i).getD 0
theorem qW_table : ∀ x : Nat, x < 33 → (qW ((x : Int) - 16)).isSome = true := by decide +kernel
theorem qW_ok {i : Int} (h1 : -16 ≤ i) (h2 : i ≤ 16) : qW i = some (qv i) := by
  have h := qW_table (i + 16).toNat (by omega)
  rw [show (((i + 16).toNat : Nat) : Int) - 16 = i by omega] at h
  obtain ⟨r, hr⟩ := Option.isSome_iff_exists.1 h
  rw [qv, hr]; rfl
/-- A plain knot of quarters. -/
def PK (k : Kn) : Prop := ∃ i j : Int, -16 ≤ i ∧ i ≤ 16 ∧ -16 ≤ j ∧ j ≤ 16 ∧ k = (qv i, qv j, 1065353216)
/-- A knot of quarters. -/
def QK (k : Kn) : Prop := ∃ i j m : Int, -16 ≤ i ∧ i ≤ 16 ∧ -16 ≤ j ∧ j ≤ 16 ∧ 1 ≤ m ∧ m ≤ 8 ∧ k = (qv i, qv j, qv m)
theorem PK.qk {k : Kn} (h : PK k) : QK k := by
  obtain ⟨i, j, h1, h2, h3, h4, rfl⟩ := h
  refine ⟨i, j, 4, h1, h2, h3, h4, by omega, by omega, ?_⟩
  have : qv 4 = 1065353216 := by decide +kernel
  rw [this]
attribute [local irreducible] Code.wp wpList Oper.wp Calls bodyPost Exit.then Exit.inBlock

set_option maxRecDepth 100000 in
set_option maxHeartbeats 32000000 in
theorem drawPoints_ok (n : Nat) (hn : n ≤ 1000) (cs : List Int) (hok : okB cs) (hlen : cs.length ≤ 1000000000) (base : Option Addr) (cap at_ : Nat) (hat : at_ ≤ 1000000) (sd : Int) (b : Nat) (w : World) (hr : RdB w base cs) (hb : w.heap[b]? = some (oSrc base cs.length cap at_ sd)) :
    CUL Try.prog 94 [.pointer (some ⟨b, 0, none⟩), .int .i64 n] w b (fun v o' Ln => ∃ (nb cp at' : Nat) (ps : List Kn) (pad : List Value) (sd' : Int), v = .slice (some ⟨nb, 0, none⟩) ps.length cp ∧ Ln = [⟨nb, true, oV 31 (ps.map vPt) pad⟩] ∧ ps.length = n ∧ (∀ k ∈ ps, PK k) ∧ o' = oSrc base cs.length cap at' sd' ∧ at' ≤ at_ + 4 * n) := by
  obtain ⟨Lk, hLk, hcode⟩ := hr.code hb
  refine enterUL Lk hLk hb Try.func94 rfl rfl rfl rfl ?_
  intro a w0 Lf st
  have hrd : ∀ {a : Act} {w : World} {E : List (Nat × Value)} {L : List Ent}, St w0 Try.f94.ntmps a w E L → List.Sublist Lk L → RdB w base cs := fun s hs => hcode _ fun e he => (s.facts e (hs.mem he)).1
  have e0 : (n : Int) = (n : Int) - ((0 : Nat) : Int) := by omega
  have st := st.fit (E' := [(0, .pointer (some ⟨b, 0, none⟩)), (1, .int .i64 ((n : Int) - ((0 : Nat) : Int)))]) ⟨rfl, by rw [← e0]; exact rfl, trivial⟩
  (repeat' (first | (refine o_buildSlice0 st rfl ?_; clear st; intro blk0 _ _ st) | refine c_seq ?_ | refine c_region ?_ | refine l_do ?_ | refine l_nil ?_ | refine x_then ?_ | refine x_thenR ?_ | refine x_thenE ?_ | refine x_blkN ?_ | refine x_blkR ?_ | refine x_blkE ?_ | refine x_blkO rfl ?_ | refine wp_ret ?_ | refine wp_skip ?_ | refine wp_block ?_ | refine wp_exit ?_ | refine c_condT st rfl ?_ | refine c_condF st rfl ?_ | ((first | refine o_move st rfl rfl ?_ | refine o_assign st rfl rfl ?_ | refine o_sub64 st rfl rfl rfl (by omega) (by omega) ?_); clear st; intro _ st) | (refine o_fop rfl st rfl rfl (by first | assumption | exact Is_ofInt _ _ | exact Is_lit (by decide +kernel)) (by first | assumption | exact Is_ofInt _ _ | exact Is_lit (by decide +kernel)) rfl ?_; clear st; intro _ _ _ _ st) | ((first | refine o_fcv0 st rfl rfl ?_ | refine o_intFloat st rfl rfl ?_); clear st; intro _ st) | (refine o_gtr st rfl rfl rfl ?_ ?_ <;> clear st <;> intro _ _ st <;> (try (exfalso; omega)))))
  refine wp_loop_ghost (fun z a w' => ∃ (k blk cp at' : Nat) (sd' : Int) (ps : List Kn) (pad : List Value), k ≤ n ∧ z = n - k ∧ ps.length = k ∧ (∀ q ∈ ps, PK q) ∧ (ps.map vPt ++ pad).length = cp ∧ at' ≤ at_ + 4 * k ∧ St w0 Try.f94.ntmps a w' [(0, .pointer (some ⟨b, 0, none⟩)), (1, .int .i64 ((n : Int) - (k : Int))), (5, .slice (some ⟨blk, 0, none⟩) k cp)] (⟨blk, true, oV 31 (ps.map vPt) pad⟩ :: ⟨b, true, oSrc base cs.length cap at' sd'⟩ :: (Lk ++ Lf))) n ⟨0, blk0, 0, at_, sd, [], [], by omega, by omega, rfl, by simp, rfl, by omega, st.fit (by repeat (first | exact trivial | refine And.intro rfl ?_))⟩ ?_
  clear st
  rintro z a w' ⟨k, blk, cp, at', sd', ps, pad, hk, rfl, hpl, hQ, hp, hat', st⟩
  by_cases hlt : k < n
  · have hq : ∀ x : Nat, (x : Int) < 33 → fop .quo .f32 (some (floatOfInt .f32 ((x : Int) - 16))) (some 1082130432) = some (qv ((x : Int) - 16)) := fun x hx => qW_ok (by omega) (by omega)
    (repeat' (first | (refine o_callUX (L' := fun o' => ⟨blk, true, oV 31 (ps.map vPt) pad⟩ :: ⟨b, true, o'⟩ :: (Lk ++ Lf)) st rfl (pick_ok 33 (by omega) cs hok hlen base cap at' (by omega) sd' b _ (hrd st (by repeat (first | exact List.sublist_append_left _ _ | apply List.Sublist.cons))) (st.heap (by repeat constructor))) (fun o' => Upd.there Upd.here) rfl ?_; clear st; rintro _ _ ⟨x, at1, sd1, rfl, hx, hax, hax2, rfl⟩ _ _ st) | (refine o_fopK st rfl rfl (hq x hx) rfl ?_; clear st; intro _ st) | (refine o_callUX (L' := fun o' => ⟨blk, true, oV 31 (ps.map vPt) pad⟩ :: ⟨b, true, o'⟩ :: (Lk ++ Lf)) st rfl (pick_ok 33 (by omega) cs hok hlen base cap at1 (by omega) sd1 b _ (hrd st (by repeat (first | exact List.sublist_append_left _ _ | apply List.Sublist.cons))) (st.heap (by repeat constructor))) (fun o' => Upd.there Upd.here) rfl ?_; clear st; rintro _ _ ⟨y, at2, sd2, rfl, hy, hay, hay2, rfl⟩ _ _ st) | (refine o_fopK st rfl rfl (hq y hy) rfl ?_; clear st; intro _ st) | (refine o_complex st rfl rfl rfl ?_; clear st; intro _ st) | (refine o_buildSlice st rfl rfl rfl rfl rfl rfl ?_; clear st; intro _ _ _ st) | (refine o_append1V rfl st rfl rfl (by repeat constructor) (by repeat constructor) (by rw [List.length_map]; exact hpl) hp rfl (by omega) rfl ?_; clear st; intro blk1 cap1 pad1 _ _ hp1 st) | refine c_seq ?_ | refine c_region ?_ | refine l_do ?_ | refine l_nil ?_ | refine x_then ?_ | refine x_thenR ?_ | refine x_thenE ?_ | refine x_blkN ?_ | refine x_blkR ?_ | refine x_blkE ?_ | refine x_blkO rfl ?_ | refine wp_ret ?_ | refine wp_skip ?_ | refine wp_block ?_ | refine wp_exit ?_ | refine c_condT st rfl ?_ | refine c_condF st rfl ?_ | ((first | refine o_move st rfl rfl ?_ | refine o_assign st rfl rfl ?_ | refine o_sub64 st rfl rfl rfl (by omega) (by omega) ?_); clear st; intro _ st) | (refine o_fop rfl st rfl rfl (by first | assumption | exact Is_ofInt _ _ | exact Is_lit (by decide +kernel)) (by first | assumption | exact Is_ofInt _ _ | exact Is_lit (by decide +kernel)) rfl ?_; clear st; intro _ _ _ _ st) | ((first | refine o_fcv0 st rfl rfl ?_ | refine o_intFloat st rfl rfl ?_); clear st; intro _ st) | (refine o_gtr st rfl rfl rfl ?_ ?_ <;> clear st <;> intro _ _ st <;> (try (exfalso; omega)))))
    have e1 : (n : Int) - (k : Int) - 1 = (n : Int) - ((k + 1 : Nat) : Int) := by omega
    rw [e1] at st
    have e2 := map_one ps (qv ((x : Int) - 16), qv ((y : Int) - 16), 1065353216) vPt
    refine ⟨n - (k + 1), by omega, k + 1, blk1, cap1, at2, sd2, ps ++ [(qv ((x : Int) - 16), qv ((y : Int) - 16), 1065353216)], pad1, by omega, rfl, by simp [hpl], ?_, by rw [← e2]; exact hp1, by omega, ?_⟩
    · intro q hq
      rcases List.mem_append.1 hq with hq | hq
      · exact hQ q hq
      · simp only [List.mem_singleton] at hq
        subst hq
        exact ⟨_, _, by omega, by omega, by omega, by omega, rfl⟩
    · rw [← e2]
      exact (st.fit (by repeat (first | exact trivial | refine And.intro rfl ?_))).subL (by repeat (first | exact List.Sublist.refl _ | apply List.Sublist.cons_cons | apply List.Sublist.cons | exact List.nil_sublist _))
  · obtain rfl : k = n := by omega
    (repeat' (first | refine c_seq ?_ | refine c_region ?_ | refine l_do ?_ | refine l_nil ?_ | refine x_then ?_ | refine x_thenR ?_ | refine x_thenE ?_ | refine x_blkN ?_ | refine x_blkR ?_ | refine x_blkE ?_ | refine x_blkO rfl ?_ | refine wp_ret ?_ | refine wp_skip ?_ | refine wp_block ?_ | refine wp_exit ?_ | refine c_condT st rfl ?_ | refine c_condF st rfl ?_ | ((first | refine o_move st rfl rfl ?_ | refine o_assign st rfl rfl ?_ | refine o_sub64 st rfl rfl rfl (by omega) (by omega) ?_); clear st; intro _ st) | (refine o_fop rfl st rfl rfl (by first | assumption | exact Is_ofInt _ _ | exact Is_lit (by decide +kernel)) (by first | assumption | exact Is_ofInt _ _ | exact Is_lit (by decide +kernel)) rfl ?_; clear st; intro _ _ _ _ st) | ((first | refine o_fcv0 st rfl rfl ?_ | refine o_intFloat st rfl rfl ?_); clear st; intro _ st) | (refine o_gtr st rfl rfl rfl ?_ ?_ <;> clear st <;> intro _ _ st <;> (try (exfalso; omega)))))
    refine post1 st Try.results94 (rd_t st rfl) ?_
    exact ⟨_, _, [⟨blk, true, oV 31 (ps.map vPt) pad⟩], rfl, ⟨blk, cp, at', ps, pad, sd', by rw [hpl], rfl, hpl, hQ, rfl, hat'⟩, by simp, _, (st.fit (E' := []) trivial).subL (List.Sublist.cons_cons _ (List.Sublist.cons_cons _ (List.sublist_append_right _ _)))⟩

theorem l02Plain_ok (ps : List Kn) (h1 : ∀ k ∈ ps, k.2.2 = 1065353216) (h0 : 0 < ps.length) (hl : ps.length ≤ 1000) (base : Option Addr) (cap : Nat) (w : World) (hr : RdV w base (ps.map vPt)) : CM2 Try.prog 70 [.slice base ps.length cap] w (OwnC ps) := by
  obtain ⟨blk, off, arr, t, fr, rfl, hw, h3⟩ := hr.get (by intro h; have := congrArg List.length h; rw [List.length_map] at this; simp at this; subst this; simp at h0)
  refine enter Try.func70 rfl rfl rfl rfl ?_
  intro a st
  have hcell : ∀ {a : Act} {w' : World} {E : List (Nat × Value)} {L : List Ent}, St w Try.f70.ntmps a w' E L → ∀ j u, (ps.map vPt)[j]? = some u → w'.cell? ⟨blk, off + j, none⟩ = some u := by
    intro a w' E L st j u hj
    obtain ⟨hjl, rfl⟩ := List.getElem?_eq_some_iff.1 hj
    rw [cell_known (st.addOld hw) At.here rfl]
    exact h3 j hjl
  (repeat' (first | (refine o_buildSlice0 (t := 24) st rfl ?_; clear st; intro _ _ _ st) | (refine o_appendF (size := 1) (news := ps.map vPt) st rfl rfl (hcell st) (by rw [List.length_map]; omega) (one_vPt ps) h0 (by omega) (by omega) rfl ?_; clear st; intro bP capP padP _ _ hpP st) | (refine o_buildSlice0 (t := 25) st rfl ?_; clear st; intro bW _ _ st) | (refine o_alloc (d := 3) st rfl ?_; clear st; intro p3 _ _ st) | (refine o_alloc (d := 2) st rfl ?_; clear st; intro p2 _ _ st) | refine c_seq ?_ | refine c_region ?_ | refine l_do ?_ | refine l_nil ?_ | refine x_then ?_ | refine x_thenR ?_ | refine x_thenE ?_ | refine x_blkN ?_ | refine x_blkR ?_ | refine x_blkE ?_ | refine x_blkO rfl ?_ | refine wp_ret ?_ | refine wp_skip ?_ | refine wp_block ?_ | refine wp_exit ?_ | refine c_condT st rfl ?_ | refine c_condF st rfl ?_ | ((first | refine o_move st rfl rfl ?_ | refine o_assign st rfl rfl ?_); clear st; intro _ st) | (refine o_alloc st rfl ?_; clear st; intro _ _ _ st) | ((first | refine o_fieldAddr st rfl rfl ?_ | refine o_loadS st rfl (by repeat constructor) rfl rfl ?_ | refine o_load3 st rfl (by repeat constructor) rfl ?_ | refine o_load2 st rfl (by repeat constructor) rfl ?_ | refine o_load4 st rfl (by repeat constructor) rfl ?_); clear st; intro _ st) | ((first | refine o_storeS st rfl rfl rfl (by repeat constructor) rfl (by dsimp only [List.set]) ?_ | refine o_storeW st rfl rfl (by repeat constructor) rfl rfl rfl ?_); clear st; intro _ _ st) | ((first | refine o_build3 st rfl rfl rfl rfl rfl rfl rfl ?_ | refine o_build2 st rfl rfl rfl rfl rfl ?_ | refine o_build0 st rfl ?_ | refine o_len st rfl rfl ?_ | refine o_add64 st rfl rfl rfl (by omega) (by omega) ?_); clear st; intro _ st) | (refine o_lss st rfl rfl rfl ?_ ?_ <;> clear st <;> intro _ _ st <;> (try (exfalso; omega)))))
  have st : St w _ _ _ _ (eP p3 _ _ :: ⟨bW, true, oV 29 ((ps.take 0).map vWt) []⟩ :: ⟨bP, true, _⟩ :: _ :: _ :: []) := st
  refine wp_loop_ghost (fun z a w' => ∃ (i bW capW : Nat) (padW : List Value), i ≤ ps.length ∧ z = ps.length - i ∧ ((ps.take i).map vWt ++ padW).length = capW ∧ St w Try.f70.ntmps a w' [(0, .slice (some ⟨blk, off, none⟩) ps.length cap), (2, .pointer (some ⟨p2, 0, none⟩)), (3, .pointer (some ⟨p3, 0, none⟩)), (4, .int .i64 (i : Nat))] (eP p3 (.slice (some ⟨bP, 0, none⟩) ps.length capP) (.slice (some ⟨bW, 0, none⟩) i capW) :: ⟨bW, true, oV 29 ((ps.take i).map vWt) padW⟩ :: ⟨bP, true, oV 31 (ps.map vPt) padP⟩ :: eP p2 (.slice none 0 0) (.slice none 0 0) :: [])) ps.length ⟨0, bW, 0, [], by omega, by omega, rfl, (st.fit (by repeat (first | exact trivial | refine And.intro rfl ?_))).subL (by repeat (first | exact List.Sublist.refl _ | apply List.Sublist.cons_cons | apply List.Sublist.cons | exact List.nil_sublist _))⟩ ?_
  clear st
  rintro z a w' ⟨i, bW, capW, padW, hi, rfl, hp, st⟩
  have hli : ((ps.take i).map vWt).length = i := by rw [List.length_map, List.length_take]; omega
  by_cases hlt : i < ps.length
  · (repeat' (first | (refine o_buildSlice st rfl rfl rfl rfl rfl rfl ?_; clear st; intro _ _ _ st) | (refine o_append1V rfl st rfl rfl (by repeat constructor) (by repeat constructor) hli hp rfl (by omega) rfl ?_; clear st; intro bW1 capW1 padW1 _ _ hp1 st) | refine c_seq ?_ | refine c_region ?_ | refine l_do ?_ | refine l_nil ?_ | refine x_then ?_ | refine x_thenR ?_ | refine x_thenE ?_ | refine x_blkN ?_ | refine x_blkR ?_ | refine x_blkE ?_ | refine x_blkO rfl ?_ | refine wp_ret ?_ | refine wp_skip ?_ | refine wp_block ?_ | refine wp_exit ?_ | refine c_condT st rfl ?_ | refine c_condF st rfl ?_ | ((first | refine o_move st rfl rfl ?_ | refine o_assign st rfl rfl ?_); clear st; intro _ st) | (refine o_alloc st rfl ?_; clear st; intro _ _ _ st) | ((first | refine o_fieldAddr st rfl rfl ?_ | refine o_loadS st rfl (by repeat constructor) rfl rfl ?_ | refine o_load3 st rfl (by repeat constructor) rfl ?_ | refine o_load2 st rfl (by repeat constructor) rfl ?_ | refine o_load4 st rfl (by repeat constructor) rfl ?_); clear st; intro _ st) | ((first | refine o_storeS st rfl rfl rfl (by repeat constructor) rfl (by dsimp only [List.set]) ?_ | refine o_storeW st rfl rfl (by repeat constructor) rfl rfl rfl ?_); clear st; intro _ _ st) | ((first | refine o_build3 st rfl rfl rfl rfl rfl rfl rfl ?_ | refine o_build2 st rfl rfl rfl rfl rfl ?_ | refine o_build0 st rfl ?_ | refine o_len st rfl rfl ?_ | refine o_add64 st rfl rfl rfl (by omega) (by omega) ?_); clear st; intro _ st) | (refine o_lss st rfl rfl rfl ?_ ?_ <;> clear st <;> intro _ _ st <;> (try (exfalso; omega)))))
    have e1 : vWt ps[i] = .float .f32 1065353216 := by rw [vWt, h1 _ (List.getElem_mem hlt)]
    have e2 := take_map_one (f := vWt) hlt
    rw [e1] at e2
    refine ⟨ps.length - (i + 1), by omega, i + 1, bW1, capW1, padW1, by omega, rfl, by rw [← e2]; exact hp1, ?_⟩
    rw [← e2]
    have st : St w _ _ _ _ (⟨bW1, true, _⟩ :: eP p3 _ _ :: ⟨bP, true, _⟩ :: eP p2 _ _ :: []) := st.subL (by repeat (first | exact List.Sublist.refl _ | apply List.Sublist.cons_cons | apply List.Sublist.cons | exact List.nil_sublist _))
    exact st.swap2.fit (by repeat (first | exact trivial | refine And.intro rfl ?_))
  · obtain rfl : i = ps.length := by omega
    rw [List.take_length] at st
    (repeat' (first | refine c_seq ?_ | refine c_region ?_ | refine l_do ?_ | refine l_nil ?_ | refine x_then ?_ | refine x_thenR ?_ | refine x_thenE ?_ | refine x_blkN ?_ | refine x_blkR ?_ | refine x_blkE ?_ | refine x_blkO rfl ?_ | refine wp_ret ?_ | refine wp_skip ?_ | refine wp_block ?_ | refine wp_exit ?_ | refine c_condT st rfl ?_ | refine c_condF st rfl ?_ | ((first | refine o_move st rfl rfl ?_ | refine o_assign st rfl rfl ?_); clear st; intro _ st) | (refine o_alloc st rfl ?_; clear st; intro _ _ _ st) | ((first | refine o_fieldAddr st rfl rfl ?_ | refine o_loadS st rfl (by repeat constructor) rfl rfl ?_ | refine o_load3 st rfl (by repeat constructor) rfl ?_ | refine o_load2 st rfl (by repeat constructor) rfl ?_ | refine o_load4 st rfl (by repeat constructor) rfl ?_); clear st; intro _ st) | ((first | refine o_storeS st rfl rfl rfl (by repeat constructor) rfl (by dsimp only [List.set]) ?_ | refine o_storeW st rfl rfl (by repeat constructor) rfl rfl rfl ?_); clear st; intro _ _ st) | ((first | refine o_build3 st rfl rfl rfl rfl rfl rfl rfl ?_ | refine o_build2 st rfl rfl rfl rfl rfl ?_ | refine o_build0 st rfl ?_ | refine o_len st rfl rfl ?_ | refine o_add64 st rfl rfl rfl (by omega) (by omega) ?_); clear st; intro _ st) | (refine o_lss st rfl rfl rfl ?_ ?_ <;> clear st <;> intro _ _ st <;> (try (exfalso; omega)))))
    refine post1 st Try.results70 (rd_c st rfl (by repeat constructor) rfl) ?_
    have hne := st.ne_of (e1 := ⟨bW, true, oV 29 (ps.map vWt) padW⟩) (e2 := ⟨bP, true, oV 31 (ps.map vPt) padP⟩) rfl (by repeat (first | exact List.Sublist.refl _ | apply List.Sublist.cons_cons | apply List.Sublist.cons | exact List.nil_sublist _))
    exact ⟨_, bP, _, bW, _, rfl, ⟨capP, capW, padP, padW, rfl, rfl, rfl⟩, st.ex2 (by repeat constructor) (by repeat constructor) hne.symm⟩
end Go.Proofs.Ytonbcbhnnflohaa
