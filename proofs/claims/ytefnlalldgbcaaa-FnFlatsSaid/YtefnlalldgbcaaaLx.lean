/-
  Contracts: where a plane cuts tiles, in the program.
-/
import Derived.Test.YtefnlalldgbcaaaLw
namespace Go.Proofs.Ytefnlalldgbcaaa
open Go.RowKit

/-- The cuttings of the triangles that have come. -/
def cutsF (ss : List S3) (way : S3) (lv : Option Nat) (T : List Int) {K : Nat} (pre : List (_root_.Fin K)) : List S3 := pre.flatMap fun (t : _root_.Fin K) => triE ss way lv T t.val 3
theorem cutsF_snoc (ss : List S3) (way : S3) (lv : Option Nat) (T : List Int) {K : Nat} (pre : List (_root_.Fin K)) (t : _root_.Fin K) : cutsF ss way lv T (pre ++ [t]) = cutsF ss way lv T pre ++ triE ss way lv T t.val 3 := by simp [cutsF]
theorem cutsF_take (ss : List S3) (way : S3) (lv : Option Nat) (T : List Int) (K : Nat) : ∀ k, k ≤ K → cutsF ss way lv T ((List.finRange K).take k) = cutsT ss way lv T k
  | 0, _ => rfl
  | k + 1, h => by rw [take_fin (by omega : k < K), cutsF_snoc, cutsF_take ss way lv T K k (by omega), cutsT_succ]
theorem cutsF_all (ss : List S3) (way : S3) (lv : Option Nat) (T : List Int) (K : Nat) : cutsF ss way lv T (List.finRange K) = cutsT ss way lv T K := by
  have := cutsF_take ss way lv T K K (Nat.le_refl _)
  rwa [List.take_of_length_le (by simp)] at this
theorem cutsF_le (ss : List S3) (way : S3) (lv : Option Nat) (T : List Int) {K : Nat} (pre : List (_root_.Fin K)) : (cutsF ss way lv T pre).length ≤ 2 * pre.length := by
  induction pre with
  | nil => exact Nat.le_refl _
  | cons t pre ih =>
    have e : cutsF ss way lv T (t :: pre) = triE ss way lv T t.val 3 ++ cutsF ss way lv T pre := rfl
    rw [e, List.length_append, List.length_cons]
    rcases triE_two ss way lv T t.val with h | h <;> omega
theorem triE_le (ss : List S3) (way : S3) (lv : Option Nat) (T : List Int) (t : Nat) : ∀ n, (triE ss way lv T t n).length ≤ n
  | 0 => Nat.le_refl _
  | n + 1 => by
    rw [triE_succ, List.length_append, edgeC_length]
    have := triE_le ss way lv T t n
    cases (posC (hgt way lv (ss.getD (triIx T (3 * t + n)) z3)) != posC (hgt way lv (ss.getD (triIx T (3 * t + (n + 1) % 3)) z3))) <;> simp <;> omega

section
variable {w0 w : World} {N : Nat} {a : Act} {E : List (Nat × Value)} {L : List Ent}
/-- A known own block, first. -/
theorem St.bring {b : Nat} {o : Obj} {Lr : List Ent} (st : St w0 N a w E L) (hR : Rem L b o Lr) : St w0 N a w E (⟨b, true, o⟩ :: Lr) := by
  refine ⟨st.env, st.size, st.defers, st.below, ?_, List.pairwise_cons.2 ⟨fun e he _ => (hR.other st.uniq e he).symm, st.uniq.sublist hR.sub⟩⟩
  intro e he
  rcases List.mem_cons.1 he with rfl | he
  · exact st.facts _ hR.at_.mem
  · exact st.facts e (hR.sub.mem he)
theorem St.onlyTwo {b c : Nat} {o o' : Obj} (st : St w0 N a w E (⟨c, true, o'⟩ :: ⟨b, true, o⟩ :: L)) : St w0 N a w E (⟨c, true, o'⟩ :: ⟨b, true, o⟩ :: asOld L) := by
  obtain ⟨h1, h2⟩ := List.pairwise_cons.1 st.uniq
  obtain ⟨h3, _⟩ := List.pairwise_cons.1 h2
  refine ⟨st.env, st.size, st.defers, st.below, ?_, ?_⟩
  · intro e he
    rcases List.mem_cons.1 he with rfl | he
    · exact st.facts _ List.mem_cons_self
    rcases List.mem_cons.1 he with rfl | he
    · exact st.facts _ (List.mem_cons_of_mem _ List.mem_cons_self)
    · obtain ⟨ho, ow, hm⟩ := mem_asOld he
      exact ⟨(st.facts _ (List.mem_cons_of_mem _ (List.mem_cons_of_mem _ hm))).1, fun h => by rw [ho] at h; cases h⟩
  · refine List.pairwise_cons.2 ⟨?_, List.pairwise_cons.2 ⟨?_, ?_⟩⟩
    · intro e he _
      rcases List.mem_cons.1 he with rfl | he
      · exact h1 _ List.mem_cons_self (.inl rfl)
      · obtain ⟨_, ow, hm⟩ := mem_asOld he
        exact h1 ⟨e.b, ow, e.o⟩ (List.mem_cons_of_mem _ hm) (.inl rfl)
    · intro e he _
      obtain ⟨_, ow, hm⟩ := mem_asOld he
      exact h3 ⟨e.b, ow, e.o⟩ hm (.inl rfl)
    · refine List.Pairwise.imp_of_mem (R := fun _ _ => True) ?_ (List.pairwise_of_forall (fun _ _ => trivial))
      intro x y hx hy _ ho
      rw [(mem_asOld hx).1, (mem_asOld hy).1] at ho
      rcases ho with ho | ho <;> cases ho
end

attribute [local irreducible] Code.wp Code.wpIn wpList Oper.wp Calls bodyPost bodyPostM Exit.then Exit.inBlock

set_option maxRecDepth 100000 in
set_option maxHeartbeats 64000000 in
theorem implCuts_ok (bs : List B3) (ss : List S3) (h : IsSL bs ss) (base : Option Addr) (cap : Nat) (p q : Int) (wb : B3) (ws : S3) (hwb : IsS wb ws) (x : Nat) (lv : Option Nat) (hx : Is .f32 x lv) (hq : areaCan ss p q = true) (hws : finS ws = true) (hlv : finC lv = true) (hhs : ∀ s ∈ ss, finC (hgt ws lv s) = true) (w : World) (hr : RdS w base bs) (hlen : bs.length < 1000000000) :
    CLs Try.prog 83 [.slice base bs.length cap, .int .i64 p, .int .i64 q, vS wb, .float .f32 x] w (cutsT ss ws lv (triM p p.toNat q.toNat) (areaK p q)) := by
  refine enterM 2 Try.func83 rfl rfl rfl rfl ?_
  intro a st
  have hc := fun (w : World) hr => areCorners_ok bs ss h base cap p q w hr hlen
  rw [hq] at hc
  have hc2 := fun (w : World) => implIsSpot_ok wb ws hwb w
  rw [hws] at hc2
  have hc3 := fun (w : World) => IsFinite_ok x lv hx w
  rw [hlv] at hc3
  obtain ⟨A, B, rfl, rfl, ha0, ha1, hb0, hb1, hsl, hT, hT2, hix⟩ := area_nums hq
  have hbl := h.len
  have hS : cutsT ss ws lv (triM (A : Int) (A : Int).toNat (B : Int).toNat) (areaK A B) = cutsT ss ws lv (triM A A B) (B * (A * 2)) := rfl
  rw [hS]
  have hpos : 0 < ss.length := by rw [hsl]; exact Nat.mul_pos (by omega) (by omega)
  have hs169 : ss.length ≤ 13 * 13 := by rw [hsl]; exact Nat.mul_le_mul (by omega) (by omega)
  rcases id hr with rfl | ⟨ba, off, cs, ty, fr, rfl, hw, hsp⟩
  · simp at hbl; omega
  generalize hTT : triM A A B = T at *
  generalize hKK : B * (A * 2) = KK at *
  have htri := fun w => triangles_c A B ha1 hb1 w
  rw [hTT] at htri
  (repeat' (first | (refine o_callV st rfl (hc _ (hr.mono st.below)) rfl ?_; clear st; intro _ _ st)  | (refine o_callV st rfl (hc2 _) rfl ?_; clear st; intro _ _ st)  | (refine o_callV st rfl (hc3 _) rfl ?_; clear st; intro _ _ st)  | (refine o_boxS st rfl rfl rfl ?_; clear st; intro p5 _ _ st)  | (refine o_boxA st rfl rfl ?_; clear st; intro p8 _ _ st)  | (refine o_buildSlice0 st rfl ?_; clear st; intro fb0 _ _ st)  | (refine o_alloc st rfl ?_; clear st; intro p12 _ _ st)  | refine c_seq ?_  | refine c_region ?_  | refine l_do ?_  | refine l_doG st rfl rfl ?_  | refine l_nil ?_  | refine x_then ?_  | refine x_thenE ?_  | refine x_blkN ?_  | refine x_blkE ?_  | refine wp_ret ?_  | refine wp_skip ?_  | refine wp_block ?_  | refine wp_exit ?_  | refine c_condT st rfl ?_  | refine c_condF st rfl ?_  | ((first | refine o_move st rfl rfl ?_  | refine o_assign st rfl rfl ?_  | refine o_pickF st rfl rfl rfl ?_); clear st; intro _ st)  | ((first | refine o_alloc st rfl ?_  | refine o_boxA st rfl rfl ?_  | refine o_boxS st rfl rfl rfl ?_); clear st; intro _ _ _ st)  | ((first | refine o_loadS st rfl (by repeat constructor) rfl rfl ?_  | refine o_load3 st rfl (by repeat constructor) rfl ?_ ); clear st; intro _ st)  | ((first | refine o_storeS st rfl rfl rfl (by repeat constructor) rfl (by dsimp only [List.set]) ?_  | refine o_storeW st rfl rfl (by repeat constructor) rfl rfl rfl ?_); clear st; intro _ _ st)  | ((first | refine o_extract st rfl rfl rfl ?_  | refine o_len st rfl rfl ?_  | refine o_add64 st rfl rfl rfl (by omega) (by omega) ?_  | refine o_neqB st rfl rfl rfl rfl ?_  | refine o_notT st rfl rfl ?_ ); clear st; intro _ st)  | (refine o_fop rfl st rfl rfl (by first | assumption | exact Is_ofInt _ _ | exact Is_lit (by decide +kernel)) (by first | assumption | exact Is_ofInt _ _ | exact Is_lit (by decide +kernel)) rfl ?_; clear st; intro _ _ _ _ st)  | (refine o_lss st rfl rfl rfl ?_ ?_ <;> clear st <;> intro _ _ st <;> (try (exfalso; omega))) ))
  replace st := (St.fit (E' := [(1, .int .i64 A), (2, .int .i64 B), (4, .float .f32 x), (5, .pointer (some ⟨p5, 0, none⟩)), (8, .pointer (some ⟨p8, 0, none⟩)), (12, .pointer (some ⟨p12, 0, none⟩)), (38, .slice (some ⟨ba, off, none⟩) bs.length cap), (39, .int .i64 bs.length), (40, .int .i64 ((0 : Nat) : Int))]) st (by repeat (first | exact trivial  | refine And.intro rfl ?_)))
  refine wp_loop_ghost (fun n a w' => ∃ (k fb fc : Nat) (fs : List Nat) (pad : List Value), k ≤ bs.length ∧ n = bs.length - k ∧ fs.length = k ∧ IsL fs ((ss.take k).map (hgt ws lv)) ∧ (fs.map (Value.float .f32) ++ pad).length = fc ∧ St w Try.f83.ntmps a w' [(1, .int .i64 A), (2, .int .i64 B), (4, .float .f32 x), (5, .pointer (some ⟨p5, 0, none⟩)), (8, .pointer (some ⟨p8, 0, none⟩)), (12, .pointer (some ⟨p12, 0, none⟩)), (38, .slice (some ⟨ba, off, none⟩) bs.length cap), (39, .int .i64 bs.length), (40, .int .i64 (k : Int))] [⟨p12, true, .cells [.slice (some ⟨fb, 0, none⟩) fs.length fc].toArray 141 (0, 0)⟩, ⟨fb, true, oFl fs pad⟩, ⟨p8, true, oB wb 26⟩, ⟨p5, true, .cells [.slice (some ⟨ba, off, none⟩) bs.length cap].toArray 44 (0, 0)⟩]) bs.length ⟨0, fb0, 0, [], [], by omega, by omega, rfl, trivial, rfl, st.subL (by repeat (first | exact List.Sublist.refl _  | apply List.Sublist.cons_cons  | apply List.Sublist.cons  | exact List.nil_sublist _))⟩ ?_
  clear st
  rintro n a w' ⟨k, fb, fc, fs, pad, hk, rfl, hfl, hFL, hp, st⟩
  by_cases hlt : k < bs.length
  · have hv := hsp k bs[k] (List.getElem?_eq_getElem hlt)
    have hkc : k < ss.length := by omega
    have hI : IsS bs[k] ss[k] := h.get k _ _ (List.getElem?_eq_getElem hlt) (List.getElem?_eq_getElem hkc)
    have htk : (ss.take (k + 1)).map (hgt ws lv) = (ss.take k).map (hgt ws lv) ++ [hgt ws lv ss[k]] := by
      rw [List.take_succ_eq_append_getElem hkc, List.map_append]
      rfl
    (repeat' (first | (refine o_indexAddr st rfl rfl (by omega) (by omega) rfl ?_; clear st; intro _ st)  | (refine o_loadOld st rfl hw hv rfl ?_; clear st; intro _ st)  | (refine o_alloc st rfl ?_; clear st; intro p14 _ _ st)  | refine c_seq ?_  | refine c_region ?_  | refine l_do ?_  | refine l_doG st rfl rfl ?_  | refine l_nil ?_  | refine x_then ?_  | refine x_thenE ?_  | refine x_blkN ?_  | refine x_blkE ?_  | refine wp_ret ?_  | refine wp_skip ?_  | refine wp_block ?_  | refine wp_exit ?_  | refine c_condT st rfl ?_  | refine c_condF st rfl ?_  | ((first | refine o_move st rfl rfl ?_  | refine o_assign st rfl rfl ?_  | refine o_pickF st rfl rfl rfl ?_); clear st; intro _ st)  | ((first | refine o_alloc st rfl ?_  | refine o_boxA st rfl rfl ?_  | refine o_boxS st rfl rfl rfl ?_); clear st; intro _ _ _ st)  | ((first | refine o_loadS st rfl (by repeat constructor) rfl rfl ?_  | refine o_load3 st rfl (by repeat constructor) rfl ?_ ); clear st; intro _ st)  | ((first | refine o_storeS st rfl rfl rfl (by repeat constructor) rfl (by dsimp only [List.set]) ?_  | refine o_storeW st rfl rfl (by repeat constructor) rfl rfl rfl ?_); clear st; intro _ _ st)  | ((first | refine o_extract st rfl rfl rfl ?_  | refine o_len st rfl rfl ?_  | refine o_add64 st rfl rfl rfl (by omega) (by omega) ?_  | refine o_neqB st rfl rfl rfl rfl ?_  | refine o_notT st rfl rfl ?_ ); clear st; intro _ st)  | (refine o_fop rfl st rfl rfl (by first | assumption | exact Is_ofInt _ _ | exact Is_lit (by decide +kernel)) (by first | assumption | exact Is_ofInt _ _ | exact Is_lit (by decide +kernel)) rfl ?_; clear st; intro _ _ _ _ st)  | (refine o_lss st rfl rfl rfl ?_ ?_ <;> clear st <;> intro _ _ st <;> (try (exfalso; omega))) ))
    refine c_draw (Lh := [⟨p14, true, oB bs[k] 26⟩, ⟨p12, true, .cells [.slice (some ⟨fb, 0, none⟩) fs.length fc].toArray 141 (0, 0)⟩, ⟨p8, true, oB wb 26⟩]) (last := 8) hm_ (by decide +kernel) (by decide +kernel) st ?_; clear st; intro _ st
    refine d_v 0 st (by repeat constructor) rfl (by decide +kernel) rfl (by first | exact v_load3 st rfl (by repeat constructor) | exact v_loadS st rfl (by repeat constructor) rfl) ?_; clear st; intro _ st
    refine d_v 1 st (by repeat constructor) rfl (by decide +kernel) rfl (by first | exact v_load3 st rfl (by repeat constructor) | exact v_loadS st rfl (by repeat constructor) rfl) ?_; clear st; intro _ st
    refine d_v 2 st (by repeat constructor) rfl (by decide +kernel) rfl (by first | exact v_load3 st rfl (by repeat constructor) | exact v_loadS st rfl (by repeat constructor) rfl) ?_; clear st; intro _ st
    refine d_v 4 st (by repeat constructor) rfl (by decide +kernel) rfl (v_move st rfl) ?_; clear st; intro _ st
    refine d_one 3 (by decide +kernel) rfl ?_
    refine o_callFl st rfl (dot_ok _ _ _ _ hI hwb _) rfl ?_; clear st; intro q3 hq3 _ _ st
    refine kh st (by repeat constructor) ?_
    refine d_one 5 (by decide +kernel) rfl ?_
    refine o_fop (ci := dotC ss[k] ws) (cj := lv) rfl st rfl rfl hq3 hx rfl ?_; clear st; intro q5 _ _ hq5 st
    refine kh st (by repeat constructor) ?_
    refine d_one 6 (by decide +kernel) rfl ?_
    refine o_buildSlice st rfl rfl rfl rfl rfl rfl ?_; clear st; intro _ _ _ st
    refine kh st (by repeat constructor) ?_
    refine d_one 7 (by decide +kernel) rfl ?_
    refine o_appendFlt rfl st rfl rfl (by repeat (first | exact Rem.here  | apply Rem.there)) (by repeat constructor) hp (by omega) rfl ?_; clear st; intro fb1 fc1 pad1 _ _ hp1 st
    refine kh st (by repeat constructor) ?_
    refine d_one 8 (by decide +kernel) rfl ?_
    (first | ((first | refine o_storeS st rfl rfl rfl (by repeat constructor) rfl (by dsimp only [List.set]) ?_  | refine o_storeW st rfl rfl (by repeat constructor) rfl rfl rfl ?_); clear st; intro _ _ st))
    refine k_last ?_
    refine d_done (by decide +kernel) ?_
    (repeat' (first | refine c_seq ?_  | refine c_region ?_  | refine l_do ?_  | refine l_doG st rfl rfl ?_  | refine l_nil ?_  | refine x_then ?_  | refine x_thenE ?_  | refine x_blkN ?_  | refine x_blkE ?_  | refine wp_ret ?_  | refine wp_skip ?_  | refine wp_block ?_  | refine wp_exit ?_  | refine c_condT st rfl ?_  | refine c_condF st rfl ?_  | ((first | refine o_move st rfl rfl ?_  | refine o_assign st rfl rfl ?_  | refine o_pickF st rfl rfl rfl ?_); clear st; intro _ st)  | ((first | refine o_alloc st rfl ?_  | refine o_boxA st rfl rfl ?_  | refine o_boxS st rfl rfl rfl ?_); clear st; intro _ _ _ st)  | ((first | refine o_loadS st rfl (by repeat constructor) rfl rfl ?_  | refine o_load3 st rfl (by repeat constructor) rfl ?_ ); clear st; intro _ st)  | ((first | refine o_storeS st rfl rfl rfl (by repeat constructor) rfl (by dsimp only [List.set]) ?_  | refine o_storeW st rfl rfl (by repeat constructor) rfl rfl rfl ?_); clear st; intro _ _ st)  | ((first | refine o_extract st rfl rfl rfl ?_  | refine o_len st rfl rfl ?_  | refine o_add64 st rfl rfl rfl (by omega) (by omega) ?_  | refine o_neqB st rfl rfl rfl rfl ?_  | refine o_notT st rfl rfl ?_ ); clear st; intro _ st)  | (refine o_fop rfl st rfl rfl (by first | assumption | exact Is_ofInt _ _ | exact Is_lit (by decide +kernel)) (by first | assumption | exact Is_ofInt _ _ | exact Is_lit (by decide +kernel)) rfl ?_; clear st; intro _ _ _ _ st)  | (refine o_lss st rfl rfl rfl ?_ ?_ <;> clear st <;> intro _ _ st <;> (try (exfalso; omega))) ))
    refine ⟨bs.length - (k + 1), by omega, k + 1, fb1, fc1, fs ++ [q5], pad1, by omega, rfl, by simp [hfl], (by rw [htk]; exact hFL.push hq5), hp1, ?_⟩
    have st := St.front 12 st rfl (by repeat (first | exact Rem.here  | apply Rem.there))
    exact (st.fit (by repeat (first | exact trivial  | refine And.intro rfl ?_))).subL (by repeat (first | exact List.Sublist.refl _  | apply List.Sublist.cons_cons  | apply List.Sublist.cons  | exact List.nil_sublist _))
  have hk' : k = bs.length := by omega
  subst hk'
  have hFL : IsL fs (ss.map (hgt ws lv)) := by
    have e : ss.take bs.length = ss := List.take_of_length_le (by omega)
    rwa [e] at hFL
  have hall : (ss.map (hgt ws lv)).all finC = true := by
    rw [List.all_map]
    exact List.all_eq_true.2 hhs
  (repeat' (first | (refine o_callV st rfl (areFiniteP fs pad _ hFL hall fb fc _ (st.heap (by repeat constructor)) (by omega)) rfl ?_; clear st; intro _ _ st)  | (refine o_buildSlice0S st rfl ?_; clear st; intro ob0 _ _ st)  | (refine o_alloc st rfl ?_; clear st; intro p15 _ _ st)  | (refine o_callM1 st rfl (htri _) rfl ?_; clear st; rintro _ tb _ ⟨tc, tpad, rfl, rfl, htc⟩ _ _ st)  | (refine o_callCh st rfl (chunk_ok (.slice (some ⟨tb, 0, none⟩) T.length tc) rfl _) rfl ?_; clear st; intro cb cn a4 w4 st)  | refine c_seq ?_  | refine c_region ?_  | refine l_do ?_  | refine l_doG st rfl rfl ?_  | refine l_nil ?_  | refine x_then ?_  | refine x_thenE ?_  | refine x_blkN ?_  | refine x_blkE ?_  | refine wp_ret ?_  | refine wp_skip ?_  | refine wp_block ?_  | refine wp_exit ?_  | refine c_condT st rfl ?_  | refine c_condF st rfl ?_  | ((first | refine o_move st rfl rfl ?_  | refine o_assign st rfl rfl ?_  | refine o_pickF st rfl rfl rfl ?_); clear st; intro _ st)  | ((first | refine o_alloc st rfl ?_  | refine o_boxA st rfl rfl ?_  | refine o_boxS st rfl rfl rfl ?_); clear st; intro _ _ _ st)  | ((first | refine o_loadS st rfl (by repeat constructor) rfl rfl ?_  | refine o_load3 st rfl (by repeat constructor) rfl ?_ ); clear st; intro _ st)  | ((first | refine o_storeS st rfl rfl rfl (by repeat constructor) rfl (by dsimp only [List.set]) ?_  | refine o_storeW st rfl rfl (by repeat constructor) rfl rfl rfl ?_); clear st; intro _ _ st)  | ((first | refine o_extract st rfl rfl rfl ?_  | refine o_len st rfl rfl ?_  | refine o_add64 st rfl rfl rfl (by omega) (by omega) ?_  | refine o_neqB st rfl rfl rfl rfl ?_  | refine o_notT st rfl rfl ?_ ); clear st; intro _ st)  | (refine o_fop rfl st rfl rfl (by first | assumption | exact Is_ofInt _ _ | exact Is_lit (by decide +kernel)) (by first | assumption | exact Is_ofInt _ _ | exact Is_lit (by decide +kernel)) rfl ?_; clear st; intro _ _ _ _ st)  | (refine o_lss st rfl rfl rfl ?_ ?_ <;> clear st <;> intro _ _ st <;> (try (exfalso; omega))) ))
  have st := st.addOld hw
  have st := St.bring (b := p15) st (by repeat constructor)
  have st := St.bring (b := ob0) st (by repeat constructor)
  have stf := st.onlyTwo
  have stA := st
  have hcb := st.heap (b := cb) (by repeat constructor)
  have hcn := st.heap (b := cn) (by repeat constructor)
  have htc' : T.length ≤ tc := by
    rw [List.length_append, List.length_map] at htc
    omega
  have hsize := st.size
  have hdef := st.defers
  refine (wpIn_wide (n := 2)).1 ?_
  refine wpIn_rangeFunc_ownF (α := _root_.Fin KK) rfl (by decide) (evE_eval st rfl) trivial (FnT.call (P := Try.prog) (f := 186)) (chunk1_seq tb T.length tc KK cb cn 1 hT (by omega) htc' w4 hcb hcn)
    (fun h k => ⟨k.1.trans h.1, k.2.trans h.2⟩) ?_ (Below.refl _ _) (fun _ => rfl)
    (fun pre W => ∃ (ob cp : Nat) (os : List B3) (pad2 : List Value), IsSL os (cutsF ss ws lv T pre) ∧ (cS os ++ pad2).length = cp * 3 ∧ St w Try.f83.ntmps a4 W [] (⟨ob, true, oS os pad2⟩ :: ⟨p15, true, .cells [.slice (some ⟨ob, 0, none⟩) os.length cp].toArray 44 (0, 0)⟩ :: ⟨ba, false, .cells cs ty fr⟩ :: ⟨cb, false, .cells [.slice (some ⟨tb, 0, none⟩) T.length tc].toArray 31 (0, 0)⟩ :: ⟨cn, false, .cells [.int .i64 3].toArray 3 (0, 0)⟩ :: ⟨tb, false, oI T tpad⟩ :: ⟨p12, false, .cells [.slice (some ⟨fb, 0, none⟩) fs.length fc].toArray 141 (0, 0)⟩ :: ⟨fb, false, oFl fs pad⟩ :: ⟨p5, false, .cells [.slice (some ⟨ba, off, none⟩) bs.length cap].toArray 44 (0, 0)⟩ :: []))
    (fun _ _ _ => False) ?_ (fun _ _ _ _ _ hs _ _ => hs.elim) ⟨ob0, 0, [], [], IsSL_nil, rfl, (stf.fit (E' := []) trivial).subL (by repeat (first | exact List.Sublist.refl _  | apply List.Sublist.cons_cons  | apply List.Sublist.cons  | exact List.nil_sublist _))⟩
    (fun x => Act.put { tmps := a4.tmps.setIfInBounds 61 (chV tb x.val), defers := [] } (some 16) (chV tb x.val)) ?_ ?_ ?_ ?_
  · -- what a round must keep abides the law's own book-keeping
    intro W l o o' hl ho _ _
    have h1 := (Array.getElem?_eq_some_iff.1 hcb).1
    have h2 := (Array.getElem?_eq_some_iff.1 hcn).1
    exact ⟨World.putObj_heap_other (by omega), World.putObj_heap_other (by omega)⟩
  · -- the invariant speaks of cells alone
    rintro s W W' row ⟨ob, cp, os, pad2, hIo, hpo, s1⟩ hg hrow
    refine ⟨ob, cp, os, pad2, hIo, hpo, s1.grew ?_ hg (fun r e => ⟨Nat.le_trans st.below.size (hrow r e).1, (hrow r e).2⟩)⟩
    intro e he
    simp only [List.mem_cons, List.not_mem_nil, or_false] at he
    rcases he with rfl | rfl | rfl | rfl | rfl | rfl | rfl | rfl | rfl <;> rfl
  · -- the assignment to the loop's variable
    intro l x W K hK
    refine r_region rfl ?_
    refine l_do ?_
    refine o_val (v := chV tb x.val) (w' := W) ?_ (l_nil ⟨rfl, x_then (by simpa using hK)⟩)
    have hlt : 61 < a4.tmps.size := by rw [hsize]; decide
    simp [execOp, Act.eval, hlt]
  · -- the body
    rintro l pre xx W ⟨ob, cp, os, pad2, hIo, hpo, s1⟩ hpre
    obtain ⟨k, hk⟩ := xx
    have hact : Act.put (Act.put a4 (some 61) (chV tb k)) (some 16) (chV tb k) = Act.put { tmps := a4.tmps.setIfInBounds 61 (chV tb k), defers := [] } (some 16) (chV tb k) := by simp [Act.put, hdef]
    have s2 := (((st.put 61 rfl (chV tb k)).put 16 rfl (chV tb k)).fit (E' := [(5, .pointer (some ⟨p5, 0, none⟩)), (12, .pointer (some ⟨p12, 0, none⟩)), (15, .pointer (some ⟨p15, 0, none⟩)), (16, .slice (some ⟨tb, k * 3, none⟩) 3 3)]) (by repeat (first | exact trivial  | refine And.intro rfl ?_))).mix s1
    rw [hact] at s2
    have hown : ∀ e ∈ (⟨ba, false, .cells cs ty fr⟩ :: ⟨cb, false, .cells [.slice (some ⟨tb, 0, none⟩) T.length tc].toArray 31 (0, 0)⟩ :: ⟨cn, false, .cells [.int .i64 3].toArray 3 (0, 0)⟩ :: ⟨tb, false, oI T tpad⟩ :: ⟨p12, false, .cells [.slice (some ⟨fb, 0, none⟩) fs.length fc].toArray 141 (0, 0)⟩ :: ⟨fb, false, oFl fs pad⟩ :: ⟨p5, false, .cells [.slice (some ⟨ba, off, none⟩) bs.length cap].toArray 44 (0, 0)⟩ :: [] : List Ent), e.own = false := by
      intro e he
      simp only [List.mem_cons, List.not_mem_nil, or_false] at he
      rcases he with rfl | rfl | rfl | rfl | rfl | rfl | rfl <;> rfl
    have s3 := s2.withOthers2 hown
    simp only [List.cons_append, List.nil_append] at s3
    have hp15 := s1.heap (b := p15) (by repeat constructor)
    have hob := s1.heap (b := ob) (by repeat constructor)
    have hcbW := s1.heap (b := cb) (by repeat constructor)
    have hcnW := s1.heap (b := cn) (by repeat constructor)
    generalize hLo : others2 W p15 ob = Lo at s3
    clear s2
    have hle := cutsF_le ss ws lv T pre
    have hol := hIo.len
    refine wpIn_block ?_
    refine r_seq ?_
    refine r_region rfl ?_
    have st := s3
    clear s3 stf
    (repeat' (first | refine c_seq ?_  | refine c_region ?_  | refine l_do ?_  | refine l_doG st rfl rfl ?_  | refine l_nil ?_  | refine x_then ?_  | refine x_thenE ?_  | refine x_blkN ?_  | refine x_blkE ?_  | refine wp_ret ?_  | refine wp_skip ?_  | refine wp_block ?_  | refine wp_exit ?_  | refine c_condT st rfl ?_  | refine c_condF st rfl ?_  | ((first | refine o_move st rfl rfl ?_  | refine o_assign st rfl rfl ?_  | refine o_pickF st rfl rfl rfl ?_); clear st; intro _ st)  | ((first | refine o_alloc st rfl ?_  | refine o_boxA st rfl rfl ?_  | refine o_boxS st rfl rfl rfl ?_); clear st; intro _ _ _ st)  | ((first | refine o_loadS st rfl (by repeat constructor) rfl rfl ?_  | refine o_load3 st rfl (by repeat constructor) rfl ?_ ); clear st; intro _ st)  | ((first | refine o_storeS st rfl rfl rfl (by repeat constructor) rfl (by dsimp only [List.set]) ?_  | refine o_storeW st rfl rfl (by repeat constructor) rfl rfl rfl ?_); clear st; intro _ _ st)  | ((first | refine o_extract st rfl rfl rfl ?_  | refine o_len st rfl rfl ?_  | refine o_add64 st rfl rfl rfl (by omega) (by omega) ?_  | refine o_neqB st rfl rfl rfl rfl ?_  | refine o_notT st rfl rfl ?_ ); clear st; intro _ st)  | (refine o_fop rfl st rfl rfl (by first | assumption | exact Is_ofInt _ _ | exact Is_lit (by decide +kernel)) (by first | assumption | exact Is_ofInt _ _ | exact Is_lit (by decide +kernel)) rfl ?_; clear st; intro _ _ _ _ st)  | (refine o_lss st rfl rfl rfl ?_ ?_ <;> clear st <;> intro _ _ st <;> (try (exfalso; omega))) ))
    refine ⟨rfl, ?_⟩
    refine x_then ?_
    refine wpIn_block ?_
    refine wpIn_loop_ghost (fun z a w' => ∃ (j ob cp : Nat) (os : List B3) (pad2 : List Value), j ≤ 3 ∧ z = 3 - j ∧ IsSL os (cutsF ss ws lv T pre ++ triE ss ws lv T k j) ∧ (cS os ++ pad2).length = cp * 3 ∧ St w Try.f83.ntmps a w' [(5, .pointer (some ⟨p5, 0, none⟩)), (12, .pointer (some ⟨p12, 0, none⟩)), (15, .pointer (some ⟨p15, 0, none⟩)), (16, .slice (some ⟨tb, k * 3, none⟩) 3 3), (62, .int .i64 (j : Int))] (⟨ob, true, oS os pad2⟩ :: ⟨p15, true, .cells [.slice (some ⟨ob, 0, none⟩) os.length cp].toArray 44 (0, 0)⟩ :: ⟨ba, false, .cells cs ty fr⟩ :: ⟨cb, false, .cells [.slice (some ⟨tb, 0, none⟩) T.length tc].toArray 31 (0, 0)⟩ :: ⟨cn, false, .cells [.int .i64 3].toArray 3 (0, 0)⟩ :: ⟨tb, false, oI T tpad⟩ :: ⟨p12, false, .cells [.slice (some ⟨fb, 0, none⟩) fs.length fc].toArray 141 (0, 0)⟩ :: ⟨fb, false, oFl fs pad⟩ :: ⟨p5, false, .cells [.slice (some ⟨ba, off, none⟩) bs.length cap].toArray 44 (0, 0)⟩ :: Lo)) 3 ⟨0, ob, cp, os, pad2, by omega, by omega, by simpa [triE] using hIo, hpo, st.fit (by repeat (first | exact trivial  | refine And.intro rfl ?_))⟩ ?_
    clear st hpo hol
    rintro z a w' ⟨j, oc, cp, os, pad2, hj, rfl, hIo, hpo, st⟩
    have hol := hIo.len
    have hte := triE_le ss ws lv T k j
    rw [List.length_append] at hol
    by_cases hlt : j < 3
    · refine r_seq ?_
      refine r_region rfl ?_
      (repeat' (first | refine c_seq ?_  | refine c_region ?_  | refine l_do ?_  | refine l_doG st rfl rfl ?_  | refine l_nil ?_  | refine x_then ?_  | refine x_thenE ?_  | refine x_blkN ?_  | refine x_blkE ?_  | refine wp_ret ?_  | refine wp_skip ?_  | refine wp_block ?_  | refine wp_exit ?_  | refine c_condT st rfl ?_  | refine c_condF st rfl ?_  | ((first | refine o_move st rfl rfl ?_  | refine o_assign st rfl rfl ?_  | refine o_pickF st rfl rfl rfl ?_); clear st; intro _ st)  | ((first | refine o_alloc st rfl ?_  | refine o_boxA st rfl rfl ?_  | refine o_boxS st rfl rfl rfl ?_); clear st; intro _ _ _ st)  | ((first | refine o_loadS st rfl (by repeat constructor) rfl rfl ?_  | refine o_load3 st rfl (by repeat constructor) rfl ?_ ); clear st; intro _ st)  | ((first | refine o_storeS st rfl rfl rfl (by repeat constructor) rfl (by dsimp only [List.set]) ?_  | refine o_storeW st rfl rfl (by repeat constructor) rfl rfl rfl ?_); clear st; intro _ _ st)  | ((first | refine o_extract st rfl rfl rfl ?_  | refine o_len st rfl rfl ?_  | refine o_add64 st rfl rfl rfl (by omega) (by omega) ?_  | refine o_neqB st rfl rfl rfl rfl ?_  | refine o_notT st rfl rfl ?_ ); clear st; intro _ st)  | (refine o_fop rfl st rfl rfl (by first | assumption | exact Is_ofInt _ _ | exact Is_lit (by decide +kernel)) (by first | assumption | exact Is_ofInt _ _ | exact Is_lit (by decide +kernel)) rfl ?_; clear st; intro _ _ _ _ st)  | (refine o_lss st rfl rfl rfl ?_ ?_ <;> clear st <;> intro _ _ st <;> (try (exfalso; omega))) ))
      refine ⟨rfl, ?_⟩
      refine x_then ?_
      refine r_seq ?_
      refine r_condT st rfl ?_
      refine wpIn_skip ?_
      refine x_then ?_
      refine r_seq ?_
      refine wpIn_block ?_
      refine r_seq ?_
      refine r_region rfl ?_
      (repeat' (first | refine c_seq ?_  | refine c_region ?_  | refine l_do ?_  | refine l_doG st rfl rfl ?_  | refine l_nil ?_  | refine x_then ?_  | refine x_thenE ?_  | refine x_blkN ?_  | refine x_blkE ?_  | refine wp_ret ?_  | refine wp_skip ?_  | refine wp_block ?_  | refine wp_exit ?_  | refine c_condT st rfl ?_  | refine c_condF st rfl ?_  | ((first | refine o_move st rfl rfl ?_  | refine o_assign st rfl rfl ?_  | refine o_pickF st rfl rfl rfl ?_); clear st; intro _ st)  | ((first | refine o_alloc st rfl ?_  | refine o_boxA st rfl rfl ?_  | refine o_boxS st rfl rfl rfl ?_); clear st; intro _ _ _ st)  | ((first | refine o_loadS st rfl (by repeat constructor) rfl rfl ?_  | refine o_load3 st rfl (by repeat constructor) rfl ?_ ); clear st; intro _ st)  | ((first | refine o_storeS st rfl rfl rfl (by repeat constructor) rfl (by dsimp only [List.set]) ?_  | refine o_storeW st rfl rfl (by repeat constructor) rfl rfl rfl ?_); clear st; intro _ _ st)  | ((first | refine o_extract st rfl rfl rfl ?_  | refine o_len st rfl rfl ?_  | refine o_add64 st rfl rfl rfl (by omega) (by omega) ?_  | refine o_neqB st rfl rfl rfl rfl ?_  | refine o_notT st rfl rfl ?_ ); clear st; intro _ st)  | (refine o_fop rfl st rfl rfl (by first | assumption | exact Is_ofInt _ _ | exact Is_lit (by decide +kernel)) (by first | assumption | exact Is_ofInt _ _ | exact Is_lit (by decide +kernel)) rfl ?_; clear st; intro _ _ _ _ st)  | (refine o_lss st rfl rfl rfl ?_ ?_ <;> clear st <;> intro _ _ st <;> (try (exfalso; omega))) ))
      refine ⟨rfl, ?_⟩
      refine x_then ?_
      obtain ⟨i0, hi0, ti0, li0⟩ := hix (3 * k + j) (by omega)
      obtain ⟨i1, hi1, ti1, li1⟩ := hix (3 * k + (j + 1) % 3) (by omega)
      have hv0 := oI_at3 (pad := tpad) (c := j) (x := (j : Int)) rfl hi0
      have hv1 := oI_at3 (pad := tpad) (c := (j + 1) % 3) (x := (((j + 1) % 3 : Nat) : Int)) rfl hi1
      have hI0 := h.getDA (by omega : i0 < bs.length)
      have hI1 := h.getDA (by omega : i1 < bs.length)
      have hs0 := hsp i0 _ (List.getElem?_eq_getElem (by omega : i0 < bs.length))
      have hs1 := hsp i1 _ (List.getElem?_eq_getElem (by omega : i1 < bs.length))
      have hg0 := oFl_get pad (by omega : i0 < fs.length)
      have hg1 := oFl_get pad (by omega : i1 < fs.length)
      have clsF : ∀ i, (hi : i < fs.length) → Is .f32 fs[i] (hgt ws lv (ss.getD i z3)) := fun i hi => by
        refine hFL.get i _ _ (List.getElem?_eq_getElem hi) ?_
        rw [List.getElem?_map, List.getD_eq_getElem?_getD, List.getElem?_eq_getElem (by omega : i < ss.length)]
        rfl
      have hF0 := clsF i0 (by omega)
      have hF1 := clsF i1 (by omega)
      refine r_seq ?_
      refine r_drawC (F := (fun _ _ a w' => St w Try.f83.ntmps a w' [(5, .pointer (some ⟨p5, 0, none⟩)), (12, .pointer (some ⟨p12, 0, none⟩)), (15, .pointer (some ⟨p15, 0, none⟩)), (16, .slice (some ⟨tb, k * 3, none⟩) 3 3), (62, .int .i64 (j : Int)), (18, .int .i64 (i0 : Int)), (19, .int .i64 (i1 : Int))] (⟨oc, true, oS os pad2⟩ :: ⟨p15, true, .cells [.slice (some ⟨oc, 0, none⟩) os.length cp].toArray 44 (0, 0)⟩ :: ⟨ba, false, .cells cs ty fr⟩ :: ⟨cb, false, .cells [.slice (some ⟨tb, 0, none⟩) T.length tc].toArray 31 (0, 0)⟩ :: ⟨cn, false, .cells [.int .i64 3].toArray 3 (0, 0)⟩ :: ⟨tb, false, oI T tpad⟩ :: ⟨p12, false, .cells [.slice (some ⟨fb, 0, none⟩) fs.length fc].toArray 141 (0, 0)⟩ :: ⟨fb, false, oFl fs pad⟩ :: ⟨p5, false, .cells [.slice (some ⟨ba, off, none⟩) bs.length cap].toArray 44 (0, 0)⟩ :: Lo))) (Lh := [⟨tb, false, oI T tpad⟩]) (last := 11) hm_ (by decide +kernel) (by decide +kernel) (by decide +kernel) st ?_ ?_
      · clear st; intro _ st
        refine d_v 0 st (by repeat constructor) rfl (by decide +kernel) rfl (v_move st rfl) ?_; clear st; intro _ st
        refine d_v 1 st (by repeat constructor) rfl (by decide +kernel) rfl (v_move st rfl) ?_; clear st; intro _ st
        refine d_v 2 st (by repeat constructor) rfl (by decide +kernel) rfl (v_indexAddr st rfl rfl (by omega) (by omega)) ?_; clear st; intro _ st
        refine d_v 3 st (by repeat constructor) rfl (by decide +kernel) rfl (v_loadS st rfl (by repeat constructor) hv0) ?_; clear st; intro _ st
        refine d_v 4 st (by repeat constructor) rfl (by decide +kernel) rfl (v_move st rfl) ?_; clear st; intro _ st
        refine d_v 5 st (by repeat constructor) rfl (by decide +kernel) rfl (v_move st rfl) ?_; clear st; intro _ st
        refine d_v 6 st (by repeat constructor) rfl (by decide +kernel) rfl (v_add64 st rfl rfl (by omega) (by omega)) ?_; clear st; intro _ st
        refine d_v 7 st (by repeat constructor) rfl (by decide +kernel) rfl (v_rem64 (i := j + 1) (j := 3) st rfl rfl (by omega)) ?_; clear st; intro _ st
        refine d_v 8 st (by repeat constructor) rfl (by decide +kernel) rfl (v_indexAddr st rfl rfl (by omega) (by omega)) ?_; clear st; intro _ st
        refine d_v 9 st (by repeat constructor) rfl (by decide +kernel) rfl (v_loadS st rfl (by repeat constructor) hv1) ?_; clear st; intro _ st
        refine d_v 10 st (by repeat constructor) rfl (by decide +kernel) rfl (v_assign st rfl) ?_; clear st; intro _ st
        refine d_one 11 (by decide +kernel) rfl ?_
        (first | (refine o_assign st rfl rfl ?_; clear st; intro _ st))
        refine k_last ?_
        refine d_done (by decide +kernel) ?_
        refine ⟨rfl, ?_⟩
        exact (st.fit (by repeat (first | exact trivial  | refine And.intro rfl ?_))).subL (by repeat (first | exact List.Sublist.refl _  | apply List.Sublist.cons_cons  | apply List.Sublist.cons  | exact List.nil_sublist _))
      clear st
      rintro _ _ st
      refine x_then ?_
      refine r_seq ?_
      refine r_drawC (F := (fun _ _ a w' => St w Try.f83.ntmps a w' [(5, .pointer (some ⟨p5, 0, none⟩)), (12, .pointer (some ⟨p12, 0, none⟩)), (15, .pointer (some ⟨p15, 0, none⟩)), (16, .slice (some ⟨tb, k * 3, none⟩) 3 3), (62, .int .i64 (j : Int)), (18, .int .i64 (i0 : Int)), (19, .int .i64 (i1 : Int)), (20, .float .f32 (fs[i0]'(by omega))), (21, .float .f32 (fs[i1]'(by omega)))] (⟨oc, true, oS os pad2⟩ :: ⟨p15, true, .cells [.slice (some ⟨oc, 0, none⟩) os.length cp].toArray 44 (0, 0)⟩ :: ⟨ba, false, .cells cs ty fr⟩ :: ⟨cb, false, .cells [.slice (some ⟨tb, 0, none⟩) T.length tc].toArray 31 (0, 0)⟩ :: ⟨cn, false, .cells [.int .i64 3].toArray 3 (0, 0)⟩ :: ⟨tb, false, oI T tpad⟩ :: ⟨p12, false, .cells [.slice (some ⟨fb, 0, none⟩) fs.length fc].toArray 141 (0, 0)⟩ :: ⟨fb, false, oFl fs pad⟩ :: ⟨p5, false, .cells [.slice (some ⟨ba, off, none⟩) bs.length cap].toArray 44 (0, 0)⟩ :: Lo))) (Lh := [⟨p12, false, .cells [.slice (some ⟨fb, 0, none⟩) fs.length fc].toArray 141 (0, 0)⟩, ⟨fb, false, oFl fs pad⟩]) (last := 9) hm_ (by decide +kernel) (by decide +kernel) (by decide +kernel) st ?_ ?_
      · clear st; intro _ st
        refine d_v 0 st (by repeat constructor) rfl (by decide +kernel) rfl (by first | exact v_load3 st rfl (by repeat constructor) | exact v_loadS st rfl (by repeat constructor) rfl) ?_; clear st; intro _ st
        refine d_v 1 st (by repeat constructor) rfl (by decide +kernel) rfl (v_move st rfl) ?_; clear st; intro _ st
        refine d_v 2 st (by repeat constructor) rfl (by decide +kernel) rfl (v_indexAddr st rfl rfl (by omega) (by omega)) ?_; clear st; intro _ st
        refine d_v 3 st (by repeat constructor) rfl (by decide +kernel) rfl (v_loadS st rfl (by repeat constructor) hg0) ?_; clear st; intro _ st
        refine d_v 4 st (by repeat constructor) rfl (by decide +kernel) rfl (by first | exact v_load3 st rfl (by repeat constructor) | exact v_loadS st rfl (by repeat constructor) rfl) ?_; clear st; intro _ st
        refine d_v 5 st (by repeat constructor) rfl (by decide +kernel) rfl (v_move st rfl) ?_; clear st; intro _ st
        refine d_v 6 st (by repeat constructor) rfl (by decide +kernel) rfl (v_indexAddr st rfl rfl (by omega) (by omega)) ?_; clear st; intro _ st
        refine d_v 7 st (by repeat constructor) rfl (by decide +kernel) rfl (v_loadS st rfl (by repeat constructor) hg1) ?_; clear st; intro _ st
        refine d_v 8 st (by repeat constructor) rfl (by decide +kernel) rfl (v_assign st rfl) ?_; clear st; intro _ st
        refine d_one 9 (by decide +kernel) rfl ?_
        (first | (refine o_assign st rfl rfl ?_; clear st; intro _ st))
        refine k_last ?_
        refine d_done (by decide +kernel) ?_
        refine ⟨rfl, ?_⟩
        exact (st.fit (by repeat (first | exact trivial  | refine And.intro rfl ?_))).subL (by repeat (first | exact List.Sublist.refl _  | apply List.Sublist.cons_cons  | apply List.Sublist.cons  | exact List.nil_sublist _))
      clear st
      rintro _ _ st
      refine x_then ?_
      refine r_seq ?_
      refine r_region rfl ?_
      (repeat' (first | (refine o_fgeqK st rfl rfl hF0 Is_z (show fgeB .f32 _ (some 0) = posC (hgt ws lv (ss.getD i0 z3)) from rfl) rfl ?_; clear st; intro _ st)  | (refine o_fgeqK st rfl rfl hF1 Is_z (show fgeB .f32 _ (some 0) = posC (hgt ws lv (ss.getD i1 z3)) from rfl) rfl ?_; clear st; intro _ st)  | (refine o_neqB st rfl rfl rfl (show (!(posC (hgt ws lv (ss.getD i0 z3)) == posC (hgt ws lv (ss.getD i1 z3)))) = (posC (hgt ws lv (ss.getD i0 z3)) != posC (hgt ws lv (ss.getD i1 z3))) from rfl) ?_; clear st; intro _ st)  | refine c_seq ?_  | refine c_region ?_  | refine l_do ?_  | refine l_doG st rfl rfl ?_  | refine l_nil ?_  | refine x_then ?_  | refine x_thenE ?_  | refine x_blkN ?_  | refine x_blkE ?_  | refine wp_ret ?_  | refine wp_skip ?_  | refine wp_block ?_  | refine wp_exit ?_  | refine c_condT st rfl ?_  | refine c_condF st rfl ?_  | ((first | refine o_move st rfl rfl ?_  | refine o_assign st rfl rfl ?_  | refine o_pickF st rfl rfl rfl ?_); clear st; intro _ st)  | ((first | refine o_alloc st rfl ?_  | refine o_boxA st rfl rfl ?_  | refine o_boxS st rfl rfl rfl ?_); clear st; intro _ _ _ st)  | ((first | refine o_loadS st rfl (by repeat constructor) rfl rfl ?_  | refine o_load3 st rfl (by repeat constructor) rfl ?_ ); clear st; intro _ st)  | ((first | refine o_storeS st rfl rfl rfl (by repeat constructor) rfl (by dsimp only [List.set]) ?_  | refine o_storeW st rfl rfl (by repeat constructor) rfl rfl rfl ?_); clear st; intro _ _ st)  | ((first | refine o_extract st rfl rfl rfl ?_  | refine o_len st rfl rfl ?_  | refine o_add64 st rfl rfl rfl (by omega) (by omega) ?_  | refine o_neqB st rfl rfl rfl rfl ?_  | refine o_notT st rfl rfl ?_ ); clear st; intro _ st)  | (refine o_fop rfl st rfl rfl (by first | assumption | exact Is_ofInt _ _ | exact Is_lit (by decide +kernel)) (by first | assumption | exact Is_ofInt _ _ | exact Is_lit (by decide +kernel)) rfl ?_; clear st; intro _ _ _ _ st)  | (refine o_lss st rfl rfl rfl ?_ ?_ <;> clear st <;> intro _ _ st <;> (try (exfalso; omega))) ))
      refine ⟨rfl, ?_⟩
      refine x_then ?_
      have hsucc := triE_succ ss ws lv T k j
      rw [ti0, ti1] at hsucc
      cases hb : (posC (hgt ws lv (ss.getD i0 z3)) != posC (hgt ws lv (ss.getD i1 z3)))
      · rw [hb] at st
        have he : edgeC ss ws lv i0 i1 = [] := by
          unfold edgeC
          rw [hb]
          rfl
        rw [he, List.append_nil] at hsucc
        refine r_condF st rfl ?_
        refine wpIn_skip ?_
        refine x_blkN ?_
        refine x_then ?_
        refine r_region rfl ?_
        (repeat' (first | refine c_seq ?_  | refine c_region ?_  | refine l_do ?_  | refine l_doG st rfl rfl ?_  | refine l_nil ?_  | refine x_then ?_  | refine x_thenE ?_  | refine x_blkN ?_  | refine x_blkE ?_  | refine wp_ret ?_  | refine wp_skip ?_  | refine wp_block ?_  | refine wp_exit ?_  | refine c_condT st rfl ?_  | refine c_condF st rfl ?_  | ((first | refine o_move st rfl rfl ?_  | refine o_assign st rfl rfl ?_  | refine o_pickF st rfl rfl rfl ?_); clear st; intro _ st)  | ((first | refine o_alloc st rfl ?_  | refine o_boxA st rfl rfl ?_  | refine o_boxS st rfl rfl rfl ?_); clear st; intro _ _ _ st)  | ((first | refine o_loadS st rfl (by repeat constructor) rfl rfl ?_  | refine o_load3 st rfl (by repeat constructor) rfl ?_ ); clear st; intro _ st)  | ((first | refine o_storeS st rfl rfl rfl (by repeat constructor) rfl (by dsimp only [List.set]) ?_  | refine o_storeW st rfl rfl (by repeat constructor) rfl rfl rfl ?_); clear st; intro _ _ st)  | ((first | refine o_extract st rfl rfl rfl ?_  | refine o_len st rfl rfl ?_  | refine o_add64 st rfl rfl rfl (by omega) (by omega) ?_  | refine o_neqB st rfl rfl rfl rfl ?_  | refine o_notT st rfl rfl ?_ ); clear st; intro _ st)  | (refine o_fop rfl st rfl rfl (by first | assumption | exact Is_ofInt _ _ | exact Is_lit (by decide +kernel)) (by first | assumption | exact Is_ofInt _ _ | exact Is_lit (by decide +kernel)) rfl ?_; clear st; intro _ _ _ _ st)  | (refine o_lss st rfl rfl rfl ?_ ?_ <;> clear st <;> intro _ _ st <;> (try (exfalso; omega))) ))
        refine ⟨rfl, ?_⟩
        refine x_then ?_
        exact ⟨3 - (j + 1), by omega, j + 1, oc, cp, os, pad2, by omega, rfl, by rw [hsucc]; exact hIo, hpo, (st.fit (by repeat (first | exact trivial  | refine And.intro rfl ?_))).subL (by repeat (first | exact List.Sublist.refl _  | apply List.Sublist.cons_cons  | apply List.Sublist.cons  | exact List.nil_sublist _))⟩
      · rw [hb] at st
        have he : edgeC ss ws lv i0 i1 = [cutP (ss.getD i0 z3) (ss.getD i1 z3) (hgt ws lv (ss.getD i0 z3)) (hgt ws lv (ss.getD i1 z3))] := by
          unfold edgeC
          rw [hb]
          rfl
        rw [he] at hsucc
        refine r_condT st rfl ?_
        refine r_drawC (F := (fun _ _ a w' => ∃ (oc1 cp1 : Nat) (q5 : B3) (pad3 : List Value), IsS q5 (cutP (ss.getD i0 z3) (ss.getD i1 z3) (hgt ws lv (ss.getD i0 z3)) (hgt ws lv (ss.getD i1 z3))) ∧ (cS (os ++ [q5]) ++ pad3).length = cp1 * 3 ∧ St w Try.f83.ntmps a w' [(5, .pointer (some ⟨p5, 0, none⟩)), (12, .pointer (some ⟨p12, 0, none⟩)), (15, .pointer (some ⟨p15, 0, none⟩)), (16, .slice (some ⟨tb, k * 3, none⟩) 3 3), (62, .int .i64 (j : Int))] (⟨oc1, true, oS (os ++ [q5]) pad3⟩ :: ⟨p15, true, .cells [.slice (some ⟨oc1, 0, none⟩) (os ++ [q5]).length cp1].toArray 44 (0, 0)⟩ :: ⟨ba, false, .cells cs ty fr⟩ :: ⟨cb, false, .cells [.slice (some ⟨tb, 0, none⟩) T.length tc].toArray 31 (0, 0)⟩ :: ⟨cn, false, .cells [.int .i64 3].toArray 3 (0, 0)⟩ :: ⟨tb, false, oI T tpad⟩ :: ⟨p12, false, .cells [.slice (some ⟨fb, 0, none⟩) fs.length fc].toArray 141 (0, 0)⟩ :: ⟨fb, false, oFl fs pad⟩ :: ⟨p5, false, .cells [.slice (some ⟨ba, off, none⟩) bs.length cap].toArray 44 (0, 0)⟩ :: Lo))) (Lh := [⟨p15, true, .cells [.slice (some ⟨oc, 0, none⟩) os.length cp].toArray 44 (0, 0)⟩, ⟨ba, false, .cells cs ty fr⟩, ⟨p5, false, .cells [.slice (some ⟨ba, off, none⟩) bs.length cap].toArray 44 (0, 0)⟩]) (last := 23) hm_ (by decide +kernel) (by decide +kernel) (by decide +kernel) st ?_ ?_
        · clear st; intro _ st
          refine d_v 0 st (by repeat constructor) rfl (by decide +kernel) rfl (by first | exact v_load3 st rfl (by repeat constructor) | exact v_loadS st rfl (by repeat constructor) rfl) ?_; clear st; intro _ st
          refine d_v 1 st (by repeat constructor) rfl (by decide +kernel) rfl (by first | exact v_load3 st rfl (by repeat constructor) | exact v_loadS st rfl (by repeat constructor) rfl) ?_; clear st; intro _ st
          refine d_v 2 st (by repeat constructor) rfl (by decide +kernel) rfl (v_move st rfl) ?_; clear st; intro _ st
          refine d_v 3 st (by repeat constructor) rfl (by decide +kernel) rfl (v_indexAddr st rfl rfl (by omega) (by omega)) ?_; clear st; intro _ st
          refine d_v 4 st (by repeat constructor) rfl (by decide +kernel) rfl (v_loadSp st rfl (by repeat constructor) hs0) ?_; clear st; intro _ st
          refine d_v 5 st (by repeat constructor) rfl (by decide +kernel) rfl (by first | exact v_load3 st rfl (by repeat constructor) | exact v_loadS st rfl (by repeat constructor) rfl) ?_; clear st; intro _ st
          refine d_v 6 st (by repeat constructor) rfl (by decide +kernel) rfl (v_move st rfl) ?_; clear st; intro _ st
          refine d_v 7 st (by repeat constructor) rfl (by decide +kernel) rfl (v_indexAddr st rfl rfl (by omega) (by omega)) ?_; clear st; intro _ st
          refine d_v 8 st (by repeat constructor) rfl (by decide +kernel) rfl (v_loadSp st rfl (by repeat constructor) hs1) ?_; clear st; intro _ st
          refine d_v 9 st (by repeat constructor) rfl (by decide +kernel) rfl (by first | exact v_load3 st rfl (by repeat constructor) | exact v_loadS st rfl (by repeat constructor) rfl) ?_; clear st; intro _ st
          refine d_v 10 st (by repeat constructor) rfl (by decide +kernel) rfl (v_move st rfl) ?_; clear st; intro _ st
          refine d_v 11 st (by repeat constructor) rfl (by decide +kernel) rfl (v_indexAddr st rfl rfl (by omega) (by omega)) ?_; clear st; intro _ st
          refine d_v 12 st (by repeat constructor) rfl (by decide +kernel) rfl (v_loadSp st rfl (by repeat constructor) hs0) ?_; clear st; intro _ st
          refine d_v 14 st (by repeat constructor) rfl (by decide +kernel) rfl (v_move st rfl) ?_; clear st; intro _ st
          refine d_v 15 st (by repeat constructor) rfl (by decide +kernel) rfl (v_move st rfl) ?_; clear st; intro _ st
          refine d_v 16 st (by repeat constructor) rfl (by decide +kernel) rfl (v_move st rfl) ?_; clear st; intro _ st
          refine d_two 13 17 (by decide +kernel) rfl rfl ?_ ?_
          · skip
            refine o_callSb st rfl (less_ok (bs[i1]'(by omega)) (bs[i0]'(by omega)) _ _ hI1 hI0 _) rfl ?_; clear st; intro q1 hq1 _ _ st
            refine kh st (by repeat constructor) ?_
            refine d_one 17 (by decide +kernel) rfl ?_
            refine o_fop (ci := hgt ws lv (ss.getD i0 z3)) (cj := hgt ws lv (ss.getD i1 z3)) rfl st rfl rfl hF0 hF1 rfl ?_; clear st; intro q2 _ _ hq2 st
            refine kh st (by repeat constructor) ?_
            refine d_one 18 (by decide +kernel) rfl ?_
            refine o_fop (ci := hgt ws lv (ss.getD i0 z3)) rfl st rfl rfl hF0 hq2 rfl ?_; clear st; intro q3 _ _ hq3 st
            refine kh st (by repeat constructor) ?_
            refine d_one 19 (by decide +kernel) rfl ?_
            refine o_callSb st rfl (times_ok q1 _ hq1 q3 _ hq3 _) rfl ?_; clear st; intro q4 hq4 _ _ st
            refine kh st (by repeat constructor) ?_
            refine d_one 20 (by decide +kernel) rfl ?_
            refine o_callSb st rfl (add_ok (bs[i0]'(by omega)) q4 _ _ hI0 hq4 _) rfl ?_; clear st; intro q5 hq5 _ _ st
            refine kh st (by repeat constructor) ?_
            refine d_one 21 (by decide +kernel) rfl ?_
            refine o_buildSliceS [_] st rfl rfl rfl rfl rfl ?_; clear st; intro _ _ _ st
            refine kh st (by repeat constructor) ?_
            refine d_one 22 (by decide +kernel) rfl ?_
            refine o_append1 rfl st rfl rfl (by repeat constructor) (by repeat constructor) hpo (by omega) rfl ?_; clear st; intro oc1 cp1 pad3 _ _ hp1 st
            refine kh st (by repeat constructor) ?_
            refine d_one 23 (by decide +kernel) rfl ?_
            (first | ((first | refine o_storeS st rfl rfl rfl (by repeat constructor) rfl (by dsimp only [List.set]) ?_  | refine o_storeW st rfl rfl (by repeat constructor) rfl rfl rfl ?_); clear st; intro _ _ st))
            refine k_last ?_
            refine d_done (by decide +kernel) ?_
            refine ⟨rfl, ?_⟩
            exact ⟨_, _, _, _, hq5, hp1, (st.fit (by repeat (first | exact trivial  | refine And.intro rfl ?_))).subL (by repeat (first | exact List.Sublist.refl _  | apply List.Sublist.cons_cons  | apply List.Sublist.cons  | exact List.nil_sublist _))⟩
          · skip
            refine o_fop (ci := hgt ws lv (ss.getD i0 z3)) (cj := hgt ws lv (ss.getD i1 z3)) rfl st rfl rfl hF0 hF1 rfl ?_; clear st; intro q2 _ _ hq2 st
            refine kh st (by repeat constructor) ?_
            refine d_two 13 18 (by decide +kernel) rfl rfl ?_ ?_
            · skip
              refine o_callSb st rfl (less_ok (bs[i1]'(by omega)) (bs[i0]'(by omega)) _ _ hI1 hI0 _) rfl ?_; clear st; intro q1 hq1 _ _ st
              refine kh st (by repeat constructor) ?_
              refine d_one 18 (by decide +kernel) rfl ?_
              refine o_fop (ci := hgt ws lv (ss.getD i0 z3)) rfl st rfl rfl hF0 hq2 rfl ?_; clear st; intro q3 _ _ hq3 st
              refine kh st (by repeat constructor) ?_
              refine d_one 19 (by decide +kernel) rfl ?_
              refine o_callSb st rfl (times_ok q1 _ hq1 q3 _ hq3 _) rfl ?_; clear st; intro q4 hq4 _ _ st
              refine kh st (by repeat constructor) ?_
              refine d_one 20 (by decide +kernel) rfl ?_
              refine o_callSb st rfl (add_ok (bs[i0]'(by omega)) q4 _ _ hI0 hq4 _) rfl ?_; clear st; intro q5 hq5 _ _ st
              refine kh st (by repeat constructor) ?_
              refine d_one 21 (by decide +kernel) rfl ?_
              refine o_buildSliceS [_] st rfl rfl rfl rfl rfl ?_; clear st; intro _ _ _ st
              refine kh st (by repeat constructor) ?_
              refine d_one 22 (by decide +kernel) rfl ?_
              refine o_append1 rfl st rfl rfl (by repeat constructor) (by repeat constructor) hpo (by omega) rfl ?_; clear st; intro oc1 cp1 pad3 _ _ hp1 st
              refine kh st (by repeat constructor) ?_
              refine d_one 23 (by decide +kernel) rfl ?_
              (first | ((first | refine o_storeS st rfl rfl rfl (by repeat constructor) rfl (by dsimp only [List.set]) ?_  | refine o_storeW st rfl rfl (by repeat constructor) rfl rfl rfl ?_); clear st; intro _ _ st))
              refine k_last ?_
              refine d_done (by decide +kernel) ?_
              refine ⟨rfl, ?_⟩
              exact ⟨_, _, _, _, hq5, hp1, (st.fit (by repeat (first | exact trivial  | refine And.intro rfl ?_))).subL (by repeat (first | exact List.Sublist.refl _  | apply List.Sublist.cons_cons  | apply List.Sublist.cons  | exact List.nil_sublist _))⟩
            · skip
              refine o_fop (ci := hgt ws lv (ss.getD i0 z3)) rfl st rfl rfl hF0 hq2 rfl ?_; clear st; intro q3 _ _ hq3 st
              refine kh st (by repeat constructor) ?_
              refine d_one 13 (by decide +kernel) rfl ?_
              refine o_callSb st rfl (less_ok (bs[i1]'(by omega)) (bs[i0]'(by omega)) _ _ hI1 hI0 _) rfl ?_; clear st; intro q1 hq1 _ _ st
              refine kh st (by repeat constructor) ?_
              refine d_one 19 (by decide +kernel) rfl ?_
              refine o_callSb st rfl (times_ok q1 _ hq1 q3 _ hq3 _) rfl ?_; clear st; intro q4 hq4 _ _ st
              refine kh st (by repeat constructor) ?_
              refine d_one 20 (by decide +kernel) rfl ?_
              refine o_callSb st rfl (add_ok (bs[i0]'(by omega)) q4 _ _ hI0 hq4 _) rfl ?_; clear st; intro q5 hq5 _ _ st
              refine kh st (by repeat constructor) ?_
              refine d_one 21 (by decide +kernel) rfl ?_
              refine o_buildSliceS [_] st rfl rfl rfl rfl rfl ?_; clear st; intro _ _ _ st
              refine kh st (by repeat constructor) ?_
              refine d_one 22 (by decide +kernel) rfl ?_
              refine o_append1 rfl st rfl rfl (by repeat constructor) (by repeat constructor) hpo (by omega) rfl ?_; clear st; intro oc1 cp1 pad3 _ _ hp1 st
              refine kh st (by repeat constructor) ?_
              refine d_one 23 (by decide +kernel) rfl ?_
              (first | ((first | refine o_storeS st rfl rfl rfl (by repeat constructor) rfl (by dsimp only [List.set]) ?_  | refine o_storeW st rfl rfl (by repeat constructor) rfl rfl rfl ?_); clear st; intro _ _ st))
              refine k_last ?_
              refine d_done (by decide +kernel) ?_
              refine ⟨rfl, ?_⟩
              exact ⟨_, _, _, _, hq5, hp1, (st.fit (by repeat (first | exact trivial  | refine And.intro rfl ?_))).subL (by repeat (first | exact List.Sublist.refl _  | apply List.Sublist.cons_cons  | apply List.Sublist.cons  | exact List.nil_sublist _))⟩
        clear st
        rintro _ _ ⟨oc1, cp1, q5, pad3, hq5, hp1, st⟩
        refine x_blkN ?_
        refine x_then ?_
        refine r_region rfl ?_
        (repeat' (first | refine c_seq ?_  | refine c_region ?_  | refine l_do ?_  | refine l_doG st rfl rfl ?_  | refine l_nil ?_  | refine x_then ?_  | refine x_thenE ?_  | refine x_blkN ?_  | refine x_blkE ?_  | refine wp_ret ?_  | refine wp_skip ?_  | refine wp_block ?_  | refine wp_exit ?_  | refine c_condT st rfl ?_  | refine c_condF st rfl ?_  | ((first | refine o_move st rfl rfl ?_  | refine o_assign st rfl rfl ?_  | refine o_pickF st rfl rfl rfl ?_); clear st; intro _ st)  | ((first | refine o_alloc st rfl ?_  | refine o_boxA st rfl rfl ?_  | refine o_boxS st rfl rfl rfl ?_); clear st; intro _ _ _ st)  | ((first | refine o_loadS st rfl (by repeat constructor) rfl rfl ?_  | refine o_load3 st rfl (by repeat constructor) rfl ?_ ); clear st; intro _ st)  | ((first | refine o_storeS st rfl rfl rfl (by repeat constructor) rfl (by dsimp only [List.set]) ?_  | refine o_storeW st rfl rfl (by repeat constructor) rfl rfl rfl ?_); clear st; intro _ _ st)  | ((first | refine o_extract st rfl rfl rfl ?_  | refine o_len st rfl rfl ?_  | refine o_add64 st rfl rfl rfl (by omega) (by omega) ?_  | refine o_neqB st rfl rfl rfl rfl ?_  | refine o_notT st rfl rfl ?_ ); clear st; intro _ st)  | (refine o_fop rfl st rfl rfl (by first | assumption | exact Is_ofInt _ _ | exact Is_lit (by decide +kernel)) (by first | assumption | exact Is_ofInt _ _ | exact Is_lit (by decide +kernel)) rfl ?_; clear st; intro _ _ _ _ st)  | (refine o_lss st rfl rfl rfl ?_ ?_ <;> clear st <;> intro _ _ st <;> (try (exfalso; omega))) ))
        refine ⟨rfl, ?_⟩
        refine x_then ?_
        exact ⟨3 - (j + 1), by omega, j + 1, oc1, cp1, os ++ [q5], pad3, by omega, rfl, by rw [hsucc, ← List.append_assoc]; exact hIo.push hq5, hp1, (st.fit (by repeat (first | exact trivial  | refine And.intro rfl ?_))).subL (by repeat (first | exact List.Sublist.refl _  | apply List.Sublist.cons_cons  | apply List.Sublist.cons  | exact List.nil_sublist _))⟩
    · have hj3 : j = 3 := by omega
      subst hj3
      refine r_seq ?_
      refine r_region rfl ?_
      (repeat' (first | refine c_seq ?_  | refine c_region ?_  | refine l_do ?_  | refine l_doG st rfl rfl ?_  | refine l_nil ?_  | refine x_then ?_  | refine x_thenE ?_  | refine x_blkN ?_  | refine x_blkE ?_  | refine wp_ret ?_  | refine wp_skip ?_  | refine wp_block ?_  | refine wp_exit ?_  | refine c_condT st rfl ?_  | refine c_condF st rfl ?_  | ((first | refine o_move st rfl rfl ?_  | refine o_assign st rfl rfl ?_  | refine o_pickF st rfl rfl rfl ?_); clear st; intro _ st)  | ((first | refine o_alloc st rfl ?_  | refine o_boxA st rfl rfl ?_  | refine o_boxS st rfl rfl rfl ?_); clear st; intro _ _ _ st)  | ((first | refine o_loadS st rfl (by repeat constructor) rfl rfl ?_  | refine o_load3 st rfl (by repeat constructor) rfl ?_ ); clear st; intro _ st)  | ((first | refine o_storeS st rfl rfl rfl (by repeat constructor) rfl (by dsimp only [List.set]) ?_  | refine o_storeW st rfl rfl (by repeat constructor) rfl rfl rfl ?_); clear st; intro _ _ st)  | ((first | refine o_extract st rfl rfl rfl ?_  | refine o_len st rfl rfl ?_  | refine o_add64 st rfl rfl rfl (by omega) (by omega) ?_  | refine o_neqB st rfl rfl rfl rfl ?_  | refine o_notT st rfl rfl ?_ ); clear st; intro _ st)  | (refine o_fop rfl st rfl rfl (by first | assumption | exact Is_ofInt _ _ | exact Is_lit (by decide +kernel)) (by first | assumption | exact Is_ofInt _ _ | exact Is_lit (by decide +kernel)) rfl ?_; clear st; intro _ _ _ _ st)  | (refine o_lss st rfl rfl rfl ?_ ?_ <;> clear st <;> intro _ _ st <;> (try (exfalso; omega))) ))
      refine ⟨rfl, ?_⟩
      refine x_then ?_
      refine r_seq ?_
      refine r_condF st rfl ?_
      refine wpIn_exit ?_
      refine x_thenE ?_
      refine x_thenE ?_
      refine x_blkE ?_
      refine x_blkN ?_
      have hcbb := st.heap (b := cb) (by repeat constructor)
      have hcnb := st.heap (b := cn) (by repeat constructor)
      refine ⟨keeps_of_others2 (b := p15) (c := ob) (nb := oc) st (by rw [hLo]; repeat (first | exact List.Sublist.refl _  | apply List.Sublist.cons)) hp15 hob, ⟨by rw [hcbb, hcbW], by rw [hcnb, hcnW]⟩, oc, cp, os, pad2, by rw [cutsF_snoc]; exact hIo, hpo, ?_⟩
      have s0 : St w Try.f83.ntmps a4 w4 [] [] := (stA.fit (E' := []) trivial).subL (by repeat (first | exact List.Sublist.refl _  | apply List.Sublist.cons_cons  | apply List.Sublist.cons  | exact List.nil_sublist _))
      exact s0.mix (st.subL (by repeat (first | exact List.Sublist.refl _  | apply List.Sublist.cons_cons  | apply List.Sublist.cons  | exact List.nil_sublist _)))
  · -- behind the loop
    rintro D xs W hD rfl ⟨ob, cp, os, pad2, hIo, hpo, s1⟩ hdefD
    rw [cutsF_all] at hIo
    have hf := fun w hr => ifSpots_ok os _ hIo (some ⟨ob, 0, none⟩) cp w hr (by
      have := hIo.len
      have h2 := (cutsT_even ss ws lv T KK).2
      omega)
    have s2 := ((st.fit (E' := [(15, .pointer (some ⟨p15, 0, none⟩))]) (by repeat (first | exact trivial  | refine And.intro rfl ?_))).mix s1)
    have hob := s1.heap (b := ob) (by repeat constructor)
    have hp15 := s1.heap (b := p15) (by repeat constructor)
    have hobD : ob ≠ D := fun e => by rw [e, hdefD] at hob; cases hob
    have hp15D : p15 ≠ D := fun e => by rw [e, hdefD] at hp15; cases hp15
    have s3 : St w Try.f83.ntmps a4 W [(15, .pointer (some ⟨p15, 0, none⟩))] [⟨ob, true, oS os pad2⟩, ⟨p15, true, .cells [.slice (some ⟨ob, 0, none⟩) os.length cp].toArray 44 (0, 0)⟩, ⟨D, false, .deferred (some [])⟩] := by
      have s4 := s2.subL (L' := [⟨ob, true, oS os pad2⟩, ⟨p15, true, .cells [.slice (some ⟨ob, 0, none⟩) os.length cp].toArray 44 (0, 0)⟩]) (by repeat (first | exact List.Sublist.refl _  | apply List.Sublist.cons_cons  | apply List.Sublist.cons  | exact List.nil_sublist _))
      obtain ⟨u1, u2⟩ := List.pairwise_cons.1 s4.uniq
      refine ⟨s4.env, s4.size, s4.defers, s4.below, ?_, ?_⟩
      · intro e he
        simp only [List.mem_cons, List.not_mem_nil, or_false] at he
        rcases he with rfl | rfl | rfl
        · exact s4.facts _ List.mem_cons_self
        · exact s4.facts _ (List.mem_cons_of_mem _ List.mem_cons_self)
        · exact ⟨hdefD, fun hh => by cases hh⟩
      · refine List.pairwise_cons.2 ⟨?_, List.pairwise_cons.2 ⟨?_, List.pairwise_singleton _ _⟩⟩
        · intro e he ho
          simp only [List.mem_cons, List.not_mem_nil, or_false] at he
          rcases he with rfl | rfl
          · exact u1 _ List.mem_cons_self ho
          · exact hobD
        · intro e he _
          simp only [List.mem_cons, List.not_mem_nil, or_false] at he
          subst he
          exact hp15D
    have hDw : w.heap.size ≤ D := Nat.le_trans st.below.size hD
    refine x_blkN ?_
    refine x_then ?_
    refine c_seq ?_
    generalize hgF : finL (cutsT ss ws lv T KK) = g at hf
    refine d_region (b := a4) (F := fun a' w' => St w Try.f83.ntmps a' w' [(10, if g then .slice (some ⟨ob, 0, none⟩) os.length cp else .slice none 0 0), (11, .bool g)] [⟨ob, true, oS os pad2⟩, ⟨D, false, .deferred (some [])⟩]) ⟨rfl, by rw [hdef]; rfl⟩ ?_ ?_
    · rintro a' b' w' hs s4
      refine x_then ?_
      refine wp_ret ?_
      have hD4 := s4.heap (b := D) (by repeat constructor)
      have hob4 := s4.heap (b := ob) (by repeat constructor)
      refine postMD2 hs s4 Try.results83 rfl rfl hD4 ?_
      refine ⟨_, ob, _, rfl, ⟨os, cp, pad2, ?_, rfl, hIo⟩, ⟨s4.below.trans ?_, ?_, by simp⟩⟩
      · cases g <;> rfl
      · exact belowK_b (w := w) (Nat.le_refl _) w' D _ _ hDw hD4 rfl rfl
      · intro e he
        simp only [List.mem_singleton] at he
        subst he
        exact ⟨(World.putObj_heap_other hobD).trans hob4, s4.ge (b := ob) (by repeat constructor)⟩
    · have st := s3
      cases g
      all_goals
        (repeat' (first | (refine o_callV st rfl (hf _ (RdS.of (st.heap (by repeat constructor)) (spotsIn0p _ _))) rfl ?_; clear st; intro _ _ st)  | refine c_seq ?_  | refine c_region ?_  | refine l_do ?_  | refine l_doG st rfl rfl ?_  | refine l_nil ?_  | refine x_then ?_  | refine x_thenE ?_  | refine x_blkN ?_  | refine x_blkE ?_  | refine wp_ret ?_  | refine wp_skip ?_  | refine wp_block ?_  | refine wp_exit ?_  | refine c_condT st rfl ?_  | refine c_condF st rfl ?_  | ((first | refine o_move st rfl rfl ?_  | refine o_assign st rfl rfl ?_  | refine o_pickF st rfl rfl rfl ?_); clear st; intro _ st)  | ((first | refine o_alloc st rfl ?_  | refine o_boxA st rfl rfl ?_  | refine o_boxS st rfl rfl rfl ?_); clear st; intro _ _ _ st)  | ((first | refine o_loadS st rfl (by repeat constructor) rfl rfl ?_  | refine o_load3 st rfl (by repeat constructor) rfl ?_ ); clear st; intro _ st)  | ((first | refine o_storeS st rfl rfl rfl (by repeat constructor) rfl (by dsimp only [List.set]) ?_  | refine o_storeW st rfl rfl (by repeat constructor) rfl rfl rfl ?_); clear st; intro _ _ st)  | ((first | refine o_extract st rfl rfl rfl ?_  | refine o_len st rfl rfl ?_  | refine o_add64 st rfl rfl rfl (by omega) (by omega) ?_  | refine o_neqB st rfl rfl rfl rfl ?_  | refine o_notT st rfl rfl ?_ ); clear st; intro _ st)  | (refine o_fop rfl st rfl rfl (by first | assumption | exact Is_ofInt _ _ | exact Is_lit (by decide +kernel)) (by first | assumption | exact Is_ofInt _ _ | exact Is_lit (by decide +kernel)) rfl ?_; clear st; intro _ _ _ _ st)  | (refine o_lss st rfl rfl rfl ?_ ?_ <;> clear st <;> intro _ _ st <;> (try (exfalso; omega))) ))
        exact ⟨rfl, (st.fit (by repeat (first | exact trivial  | refine And.intro rfl ?_))).subL (by repeat (first | exact List.Sublist.refl _  | apply List.Sublist.cons_cons  | apply List.Sublist.cons  | exact List.nil_sublist _))⟩
  · intro D c pre W _ _ hf
    exact hf.elim
end Go.Proofs.Ytefnlalldgbcaaa
