/-
  Contracts: the area of tiles; the program's side.
-/
import Derived.Test.YtefnlalldgbcaaaChunk
namespace Go.Proofs.Ytefnlalldgbcaaa
open Go.RowKit

/-- The sum of the triangles that have come. -/
def accI (ss : List S3) (T : List Int) {K : Nat} (pre : List (_root_.Fin K)) : Option Nat := pre.foldl (fun s (t : _root_.Fin K) => fop .add .f32 s (fop .quo .f32 (trmC ss T t.val) two32)) (some 0)
theorem accI_snoc (ss : List S3) (T : List Int) {K : Nat} (pre : List (_root_.Fin K)) (t : _root_.Fin K) : accI ss T (pre ++ [t]) = fop .add .f32 (accI ss T pre) (fop .quo .f32 (trmC ss T t.val) two32) := by
  unfold accI
  rw [List.foldl_append]
  rfl
theorem accI_take (ss : List S3) (T : List Int) (K : Nat) : ∀ k, k ≤ K → accI ss T ((List.finRange K).take k) = sumT ss T k
  | 0, _ => rfl
  | k + 1, h => by
    rw [take_fin (by omega : k < K), accI_snoc, accI_take ss T K k (by omega), half_eq _ (trm_lt ss T k)]
    rfl
theorem accI_all (ss : List S3) (T : List Int) (K : Nat) : accI ss T (List.finRange K) = sumT ss T K := by
  have := accI_take ss T K K (Nat.le_refl _)
  rwa [List.take_of_length_le (by simp)] at this
theorem oI_at3 {T : List Int} {pad : List Value} {k c : Nat} {x v : Int} (hx : x = (c : Int)) (h : T[3 * k + c]? = some v) : (T.map vI ++ pad).toArray[k * 3 + x.toNat * 1]? = some (.int .i64 v) := by
  subst hx
  have e : k * 3 + ((c : Nat) : Int).toNat * 1 = 3 * k + c := by simp; omega
  rw [e]
  have hk := (List.getElem?_eq_some_iff.1 h).1
  simp only [List.getElem?_toArray]
  rw [List.getElem?_append_left (by simpa using hk), List.getElem?_map, h]
  rfl

/-- A call that gives a value with two new blocks. -/
theorem o_callCh {P : Program} {w0 w : World} {N : Nat} {a : Act} {E : List (Nat × Value)} {L : List Ent} {K : Act → World → Prop} {Q : Exit → Act → World → Prop} {d : Nat} {ty : TypeId} {pos : String} {aft : Array Edge} {g : Option (Nat × Bool)} {f : FuncId} {args : List Operand} {tys : Array TypeId} {vs : List Value} {V : Nat → Nat → Value} {o1 o2 : Obj} [hf : FnT P f] (st : St w0 N a w E L) (ha : evs E args = some vs)
    (hc : Calls P f vs.toArray w fun e w' => ∃ b1 b2, e = .returned (V b1 b2) ∧ Ex w w' [⟨b1, true, o1⟩, ⟨b2, true, o2⟩]) (hd : Nat.blt d N = true) (h : ∀ b1 b2 a' w', St w0 N a' w' ((d, V b1 b2) :: E) (⟨b1, true, o1⟩ :: ⟨b2, true, o2⟩ :: L) → K a' w') : Oper.wp P ⟨some d, .call { callee := .value (.func f), args := args.toArray, argTypes := tys }, ty, pos, aft, g⟩ a w K Q :=
  o_call st ha hc fun _ _ ⟨b1, b2, he, hx⟩ => ⟨_, he, h b1 b2 _ _ ((st.ext2 hx).put d hd _)⟩

attribute [local irreducible] Code.wp Code.wpIn wpList Oper.wp Calls bodyPost bodyPostM Exit.then Exit.inBlock

set_option maxRecDepth 100000 in
set_option maxHeartbeats 32000000 in
theorem implArea_ok (bs : List B3) (ss : List S3) (h : IsSL bs ss) (base : Option Addr) (cap : Nat) (p q : Int) (w : World) (hr : RdS w base bs) (hlen : bs.length < 1000000000) :
    CFB Try.prog 95 [.slice base bs.length cap, .int .i64 p, .int .i64 q] w .f32 (areaC ss p q) (areaOk ss p q) := by
  refine enterM 2 Try.func95 rfl rfl rfl rfl ?_
  intro a st
  have hc := fun (w : World) hr => areCorners_ok bs ss h base cap p q w hr hlen
  unfold areaC areaOk
  cases hq : areaCan ss p q
  · rw [hq] at hc
    (repeat' (first | (refine o_callV st rfl (hc _ (hr.mono st.below)) rfl ?_; clear st; intro _ _ st)  | refine c_seq ?_  | refine c_region ?_  | refine l_do ?_  | refine l_nil ?_  | refine x_then ?_  | refine x_thenR ?_  | refine x_blkN ?_  | refine wp_ret ?_  | refine wp_skip ?_  | refine wp_block ?_  | refine wp_exit ?_  | refine c_condT st rfl ?_  | refine c_condF st rfl ?_  | ((first | refine o_move st rfl rfl ?_  | refine o_assign st rfl rfl ?_); clear st; intro _ st)  | ((first | refine o_alloc st rfl ?_  | refine o_boxS st rfl rfl rfl ?_); clear st; intro _ _ _ st)  | ((first | refine o_loadS st rfl (by repeat constructor) rfl rfl ?_ ); clear st; intro _ st)  | ((first | refine o_storeS st rfl rfl rfl (by repeat constructor) rfl (by dsimp only [List.set]) ?_  | refine o_storeW st rfl rfl (by repeat constructor) rfl rfl rfl ?_); clear st; intro _ _ st)  | ((first | refine o_extract st rfl rfl rfl ?_  | refine o_notT st rfl rfl ?_  | refine o_notF st rfl rfl ?_); clear st; intro _ st)  | (refine o_fop rfl st rfl rfl (by first | assumption | exact Is_ofInt _ _ | exact Is_lit (by decide +kernel)) (by first | assumption | exact Is_ofInt _ _ | exact Is_lit (by decide +kernel)) rfl ?_; clear st; intro _ _ _ _ st)))
    refine postM2 st Try.results95 (rd_t st rfl) (rd_t st rfl) ?_
    exact ⟨_, rfl, ⟨0, rfl, Is_z⟩, st.ex0⟩
  · rw [hq] at hc
    obtain ⟨A, B, rfl, rfl, ha0, ha1, hb0, hb1, hsl, hT, hT2, hix⟩ := area_nums hq
    have hbl := h.len
    have hS : areaS ss A B = sumT ss (triM A A B) (B * (A * 2)) := rfl
    rw [hS]
    have hpos : 0 < ss.length := by rw [hsl]; exact Nat.mul_pos (by omega) (by omega)
    rcases id hr with rfl | ⟨ba, off, cs, ty, fr, rfl, hw, hsp⟩
    · simp at hbl; omega
    have st := st.addOld hw
    generalize hTT : triM A A B = T at *
    generalize hKK : B * (A * 2) = KK at *
    have htri := fun w => triangles_c A B ha1 hb1 w
    rw [hTT] at htri
    (repeat' (first | (refine o_callV st rfl (hc _ (hr.mono st.below)) rfl ?_; clear st; intro _ _ st)  | (refine o_callM1 st rfl (htri _) rfl ?_; clear st; rintro _ tb _ ⟨tc, tpad, rfl, rfl, htc⟩ _ _ st)  | (refine o_callCh st rfl (chunk_ok (.slice (some ⟨tb, 0, none⟩) T.length tc) rfl _) rfl ?_; clear st; intro cb cn a4 w4 st)  | (refine o_boxS st rfl rfl rfl ?_; clear st; intro p3 _ _ st)  | (refine o_alloc st rfl ?_; clear st; intro p8 _ _ st)  | refine c_seq ?_  | refine c_region ?_  | refine l_do ?_  | refine l_nil ?_  | refine x_then ?_  | refine x_thenR ?_  | refine x_blkN ?_  | refine wp_ret ?_  | refine wp_skip ?_  | refine wp_block ?_  | refine wp_exit ?_  | refine c_condT st rfl ?_  | refine c_condF st rfl ?_  | ((first | refine o_move st rfl rfl ?_  | refine o_assign st rfl rfl ?_); clear st; intro _ st)  | ((first | refine o_alloc st rfl ?_  | refine o_boxS st rfl rfl rfl ?_); clear st; intro _ _ _ st)  | ((first | refine o_loadS st rfl (by repeat constructor) rfl rfl ?_ ); clear st; intro _ st)  | ((first | refine o_storeS st rfl rfl rfl (by repeat constructor) rfl (by dsimp only [List.set]) ?_  | refine o_storeW st rfl rfl (by repeat constructor) rfl rfl rfl ?_); clear st; intro _ _ st)  | ((first | refine o_extract st rfl rfl rfl ?_  | refine o_notT st rfl rfl ?_  | refine o_notF st rfl rfl ?_); clear st; intro _ st)  | (refine o_fop rfl st rfl rfl (by first | assumption | exact Is_ofInt _ _ | exact Is_lit (by decide +kernel)) (by first | assumption | exact Is_ofInt _ _ | exact Is_lit (by decide +kernel)) rfl ?_; clear st; intro _ _ _ _ st)))
    have st := St.front 8 st rfl (by repeat constructor)
    have stf := st.onlyHead
    have stA := st
    have hcb := st.heap (b := cb) (by repeat constructor)
    have hcn := st.heap (b := cn) (by repeat constructor)
    have htc' : T.length ≤ tc := by
      rw [List.length_append, List.length_map] at htc
      omega
    have hsize := st.size
    have hdef := st.defers
    refine (wpIn_wide (n := 2)).1 ?_
    refine wpIn_rangeFunc_ownF (α := _root_.Fin KK) rfl (by decide) (evE_eval st rfl) trivial (FnT.call (P := Try.prog) (f := 186)) (chunk1_seq tb T.length tc KK cb cn 1 hT (by omega) htc' w4 hcb hcn)
      (fun h k => ⟨k.1.trans h.1, k.2.trans h.2⟩) ?_ (Below.refl _ _) (fun _ => rfl)
      (fun pre W => ∃ x : Nat, Is .f32 x (accI ss T pre) ∧ St w Try.f95.ntmps a4 W [] [⟨p8, true, .cells [.float .f32 x].toArray 22 (0, 0)⟩, ⟨cb, false, .cells [.slice (some ⟨tb, 0, none⟩) T.length tc].toArray 31 (0, 0)⟩, ⟨cn, false, .cells [.int .i64 3].toArray 3 (0, 0)⟩, ⟨tb, false, oI T tpad⟩, ⟨p3, false, .cells [.slice (some ⟨ba, off, none⟩) bs.length cap].toArray 44 (0, 0)⟩, ⟨ba, false, .cells cs ty fr⟩])
      (fun _ _ _ => False) ?_ (fun _ _ _ _ _ hs _ _ => hs.elim) ⟨0, Is_z, (stf.fit (E' := []) trivial).subL (by repeat (first | exact List.Sublist.refl _  | apply List.Sublist.cons_cons  | apply List.Sublist.cons  | exact List.nil_sublist _))⟩
      (fun x => Act.put { tmps := a4.tmps.setIfInBounds 20 (chV tb x.val), defers := [] } (some 9) (chV tb x.val)) ?_ ?_ ?_ ?_
    · -- what a round must keep abides the law's own book-keeping
      intro W l o o' hl ho _ _
      have h1 := (Array.getElem?_eq_some_iff.1 hcb).1
      have h2 := (Array.getElem?_eq_some_iff.1 hcn).1
      exact ⟨World.putObj_heap_other (by omega), World.putObj_heap_other (by omega)⟩
    · -- the invariant speaks of cells alone
      rintro s W W' row ⟨x, hx, s1⟩ hg hrow
      refine ⟨x, hx, s1.grew ?_ hg (fun r e => ⟨Nat.le_trans st.below.size (hrow r e).1, (hrow r e).2⟩)⟩
      intro e he
      simp only [List.mem_cons, List.not_mem_nil, or_false] at he
      rcases he with rfl | rfl | rfl | rfl | rfl | rfl <;> rfl
    · -- the assignment to the loop's variable
      intro l x W K hK
      refine r_region rfl ?_
      refine l_do ?_
      refine o_val (v := chV tb x.val) (w' := W) ?_ (l_nil ⟨rfl, x_then (by simpa using hK)⟩)
      have hlt : 20 < a4.tmps.size := by rw [hsize]; decide
      simp [execOp, Act.eval, hlt]
    · -- the body
      rintro l pre x W ⟨y, hy, s1⟩ hpre
      obtain ⟨k, hk⟩ := x
      have hact : Act.put (Act.put a4 (some 20) (chV tb k)) (some 9) (chV tb k) = Act.put { tmps := a4.tmps.setIfInBounds 20 (chV tb k), defers := [] } (some 9) (chV tb k) := by simp [Act.put, hdef]
      have s2 := (((st.put 20 rfl (chV tb k)).put 9 rfl (chV tb k)).fit (E' := [(3, .pointer (some ⟨p3, 0, none⟩)), (8, .pointer (some ⟨p8, 0, none⟩)), (9, .slice (some ⟨tb, k * 3, none⟩) 3 3)]) (by repeat (first | exact trivial  | refine And.intro rfl ?_))).mix s1
      rw [hact] at s2
      have hown : ∀ e ∈ [(⟨cb, false, .cells [.slice (some ⟨tb, 0, none⟩) T.length tc].toArray 31 (0, 0)⟩ : Ent), ⟨cn, false, .cells [.int .i64 3].toArray 3 (0, 0)⟩, ⟨tb, false, oI T tpad⟩, ⟨p3, false, .cells [.slice (some ⟨ba, off, none⟩) bs.length cap].toArray 44 (0, 0)⟩, ⟨ba, false, .cells cs ty fr⟩], e.own = false := by
        intro e he
        simp only [List.mem_cons, List.not_mem_nil, or_false] at he
        rcases he with rfl | rfl | rfl | rfl | rfl <;> rfl
      have s3 := s2.withOthers hown
      have hp8 := s1.heap (b := p8) (by repeat constructor)
      have hcbW := s1.heap (b := cb) (by repeat constructor)
      have hcnW := s1.heap (b := cn) (by repeat constructor)
      generalize hLo : others W p8 = Lo at s3
      clear s2
      have st := s3
      clear s3 stf
      obtain ⟨x0, hx0, ht0, hl0⟩ := hix (3 * k) (by omega)
      obtain ⟨x1, hx1, ht1, hl1⟩ := hix (3 * k + 1) (by omega)
      obtain ⟨x2, hx2, ht2, hl2⟩ := hix (3 * k + 2) (by omega)
      have hI0 := h.getDA (by omega : x0 < bs.length)
      have hI1 := h.getDA (by omega : x1 < bs.length)
      have hI2 := h.getDA (by omega : x2 < bs.length)
      have hv0 := hsp x0 _ (List.getElem?_eq_getElem (by omega : x0 < bs.length))
      have hv1 := hsp x1 _ (List.getElem?_eq_getElem (by omega : x1 < bs.length))
      have hv2 := hsp x2 _ (List.getElem?_eq_getElem (by omega : x2 < bs.length))
      have hi0 := oI_at3 (pad := tpad) (c := 0) (x := (0 : Int)) rfl hx0
      have hi1 := oI_at3 (pad := tpad) (c := 1) (x := (1 : Int)) rfl hx1
      have hi2 := oI_at3 (pad := tpad) (c := 2) (x := (2 : Int)) rfl hx2
      have e1 : l1S ss T k = lessS (ss.getD x1 z3) (ss.getD x0 z3) := by unfold l1S; rw [ht1, ht0]
      have e2 : l2S ss T k = lessS (ss.getD x2 z3) (ss.getD x0 z3) := by unfold l2S; rw [ht2, ht0]
      refine wpIn_block ?_
      refine r_seq ?_
      refine r_drawC (F := (fun _ _ a w' => ∃ ab : Nat, St w Try.f95.ntmps a w' [(3, .pointer (some ⟨p3, 0, none⟩)), (8, .pointer (some ⟨p8, 0, none⟩)), (9, .slice (some ⟨tb, k * 3, none⟩) 3 3), (10, .pointer (some ⟨ab, 0, none⟩))] (⟨ab, true, oB bs[x0] 26⟩ :: ⟨p8, true, .cells [.float .f32 y].toArray 22 (0, 0)⟩ :: ⟨cb, false, .cells [.slice (some ⟨tb, 0, none⟩) T.length tc].toArray 31 (0, 0)⟩ :: ⟨cn, false, .cells [.int .i64 3].toArray 3 (0, 0)⟩ :: ⟨tb, false, oI T tpad⟩ :: ⟨p3, false, .cells [.slice (some ⟨ba, off, none⟩) bs.length cap].toArray 44 (0, 0)⟩ :: ⟨ba, false, .cells cs ty fr⟩ :: Lo))) (Lh := [⟨p8, true, .cells [.float .f32 y].toArray 22 (0, 0)⟩, ⟨tb, false, oI T tpad⟩, ⟨p3, false, .cells [.slice (some ⟨ba, off, none⟩) bs.length cap].toArray 44 (0, 0)⟩, ⟨ba, false, .cells cs ty fr⟩]) (last := 7) hm_ (by decide +kernel) (by decide +kernel) (by decide +kernel) st ?_ ?_
      · clear st; intro _ st
        refine d_v 0 st (by repeat constructor) rfl (by decide +kernel) rfl (by first | exact v_load3 st rfl (by repeat constructor) | exact v_loadS st rfl (by repeat constructor) rfl) ?_; clear st; intro _ st
        refine d_v 1 st (by repeat constructor) rfl (by decide +kernel) rfl (v_move st rfl) ?_; clear st; intro _ st
        refine d_v 2 st (by repeat constructor) rfl (by decide +kernel) rfl (v_indexAddr st rfl rfl (by omega) (by omega)) ?_; clear st; intro _ st
        refine d_v 3 st (by repeat constructor) rfl (by decide +kernel) rfl (v_loadS st rfl (by repeat constructor) hi0) ?_; clear st; intro _ st
        refine d_v 4 st (by repeat constructor) rfl (by decide +kernel) rfl (v_indexAddr st rfl rfl (by omega) (by omega)) ?_; clear st; intro _ st
        refine d_v 5 st (by repeat constructor) rfl (by decide +kernel) rfl (v_loadSp st rfl (by repeat constructor) hv0) ?_; clear st; intro _ st
        refine d_one 6 (by decide +kernel) rfl ?_
        refine o_alloc st rfl ?_; clear st; intro _ _ _ st
        refine kh st (by repeat constructor) ?_
        refine d_one 7 (by decide +kernel) rfl ?_
        (first | ((first | refine o_storeS st rfl rfl rfl (by repeat constructor) rfl (by dsimp only [List.set]) ?_  | refine o_storeW st rfl rfl (by repeat constructor) rfl rfl rfl ?_); clear st; intro _ _ st))
        refine k_last ?_
        refine d_done (by decide +kernel) ?_
        refine ⟨rfl, ?_⟩
        exact ⟨_, st.fit (by repeat (first | exact trivial  | refine And.intro rfl ?_))⟩
      clear st
      rintro _ _ ⟨ab, st⟩
      refine x_then ?_
      refine r_drawC (F := (fun _ _ a w' => ∃ (q6 : Nat), Is .f32 q6 (accI ss T (pre ++ [⟨k, hk⟩])) ∧ St w Try.f95.ntmps a w' [] (⟨p8, true, .cells [.float .f32 q6].toArray 22 (0, 0)⟩ :: ⟨cb, false, .cells [.slice (some ⟨tb, 0, none⟩) T.length tc].toArray 31 (0, 0)⟩ :: ⟨cn, false, .cells [.int .i64 3].toArray 3 (0, 0)⟩ :: ⟨tb, false, oI T tpad⟩ :: ⟨p3, false, .cells [.slice (some ⟨ba, off, none⟩) bs.length cap].toArray 44 (0, 0)⟩ :: ⟨ba, false, .cells cs ty fr⟩ :: Lo))) (Lh := [⟨ab, true, oB bs[x0] 26⟩, ⟨p8, true, .cells [.float .f32 y].toArray 22 (0, 0)⟩, ⟨tb, false, oI T tpad⟩, ⟨p3, false, .cells [.slice (some ⟨ba, off, none⟩) bs.length cap].toArray 44 (0, 0)⟩, ⟨ba, false, .cells cs ty fr⟩]) (last := 21) hm_ (by decide +kernel) (by decide +kernel) (by decide +kernel) st ?_ ?_
      · clear st; intro _ st
        refine d_v 0 st (by repeat constructor) rfl (by decide +kernel) rfl (by first | exact v_load3 st rfl (by repeat constructor) | exact v_loadS st rfl (by repeat constructor) rfl) ?_; clear st; intro _ st
        refine d_v 1 st (by repeat constructor) rfl (by decide +kernel) rfl (by first | exact v_load3 st rfl (by repeat constructor) | exact v_loadS st rfl (by repeat constructor) rfl) ?_; clear st; intro _ st
        refine d_v 2 st (by repeat constructor) rfl (by decide +kernel) rfl (v_move st rfl) ?_; clear st; intro _ st
        refine d_v 3 st (by repeat constructor) rfl (by decide +kernel) rfl (v_indexAddr st rfl rfl (by omega) (by omega)) ?_; clear st; intro _ st
        refine d_v 4 st (by repeat constructor) rfl (by decide +kernel) rfl (v_loadS st rfl (by repeat constructor) hi1) ?_; clear st; intro _ st
        refine d_v 5 st (by repeat constructor) rfl (by decide +kernel) rfl (v_indexAddr st rfl rfl (by omega) (by omega)) ?_; clear st; intro _ st
        refine d_v 6 st (by repeat constructor) rfl (by decide +kernel) rfl (v_loadSp st rfl (by repeat constructor) hv1) ?_; clear st; intro _ st
        refine d_v 7 st (by repeat constructor) rfl (by decide +kernel) rfl (by first | exact v_load3 st rfl (by repeat constructor) | exact v_loadS st rfl (by repeat constructor) rfl) ?_; clear st; intro _ st
        refine d_v 9 st (by repeat constructor) rfl (by decide +kernel) rfl (by first | exact v_load3 st rfl (by repeat constructor) | exact v_loadS st rfl (by repeat constructor) rfl) ?_; clear st; intro _ st
        refine d_v 10 st (by repeat constructor) rfl (by decide +kernel) rfl (v_move st rfl) ?_; clear st; intro _ st
        refine d_v 11 st (by repeat constructor) rfl (by decide +kernel) rfl (v_indexAddr st rfl rfl (by omega) (by omega)) ?_; clear st; intro _ st
        refine d_v 12 st (by repeat constructor) rfl (by decide +kernel) rfl (v_loadS st rfl (by repeat constructor) hi2) ?_; clear st; intro _ st
        refine d_v 13 st (by repeat constructor) rfl (by decide +kernel) rfl (v_indexAddr st rfl rfl (by omega) (by omega)) ?_; clear st; intro _ st
        refine d_v 14 st (by repeat constructor) rfl (by decide +kernel) rfl (v_loadSp st rfl (by repeat constructor) hv2) ?_; clear st; intro _ st
        refine d_v 15 st (by repeat constructor) rfl (by decide +kernel) rfl (by first | exact v_load3 st rfl (by repeat constructor) | exact v_loadS st rfl (by repeat constructor) rfl) ?_; clear st; intro _ st
        refine d_one 8 (by decide +kernel) rfl ?_
        refine o_callSb st rfl (less_ok _ bs[x0] _ _ hI1 hI0 _) rfl ?_; clear st; intro q1 hq1 _ _ st
        refine kh st (by repeat constructor) ?_
        refine d_one 16 (by decide +kernel) rfl ?_
        refine o_callSb st rfl (less_ok _ bs[x0] _ _ hI2 hI0 _) rfl ?_; clear st; intro q2 hq2 _ _ st
        refine kh st (by repeat constructor) ?_
        refine d_one 17 (by decide +kernel) rfl ?_
        refine o_callSb st rfl (crossed_ok q1 q2 _ _ hq1 hq2 _) rfl ?_; clear st; intro q3 hq3 _ _ st
        refine kh st (by repeat constructor) ?_
        refine d_one 18 (by decide +kernel) rfl ?_
        refine o_callFl st rfl (long_ok q3 _ hq3 _) rfl ?_; clear st; intro q4 hq4 _ _ st
        refine kh st (by repeat constructor) ?_
        refine d_one 19 (by decide +kernel) rfl ?_
        refine o_fop (cj := two32) rfl st rfl rfl hq4 (Is_lit (by decide +kernel)) rfl ?_; clear st; intro q5 _ _ hq5 st
        refine kh st (by repeat constructor) ?_
        refine d_one 20 (by decide +kernel) rfl ?_
        refine o_fop (ci := accI ss T pre) rfl st rfl rfl hy hq5 rfl ?_; clear st; intro q6 _ _ hq6 st
        refine kh st (by repeat constructor) ?_
        refine d_one 21 (by decide +kernel) rfl ?_
        (first | ((first | refine o_storeS st rfl rfl rfl (by repeat constructor) rfl (by dsimp only [List.set]) ?_  | refine o_storeW st rfl rfl (by repeat constructor) rfl rfl rfl ?_); clear st; intro _ _ st))
        refine k_last ?_
        refine d_done (by decide +kernel) ?_
        refine ⟨rfl, ?_⟩
        rw [← e1, ← e2] at hq6
        exact ⟨_, (by rw [accI_snoc]; exact hq6), (st.fit (E' := []) trivial).subL (by repeat (first | exact List.Sublist.refl _  | apply List.Sublist.cons_cons  | apply List.Sublist.cons  | exact List.nil_sublist _))⟩
      clear st
      rintro _ W2 ⟨q6, hq6, st⟩
      refine x_blkN ?_
      have hp8b := st.heap (b := p8) (by repeat constructor)
      have hcbb := st.heap (b := cb) (by repeat constructor)
      have hcnb := st.heap (b := cn) (by repeat constructor)
      refine ⟨keeps_of_others (b := p8) st (by rw [hLo]; repeat (first | exact List.Sublist.refl _  | apply List.Sublist.cons)) hp8 hp8b, ⟨by rw [hcbb, hcbW], by rw [hcnb, hcnW]⟩, q6, hq6, ?_⟩
      have s0 : St w Try.f95.ntmps a4 w4 [] [] := (stA.fit (E' := []) trivial).subL (by repeat (first | exact List.Sublist.refl _  | apply List.Sublist.cons_cons  | apply List.Sublist.cons  | exact List.nil_sublist _))
      exact s0.mix (st.subL (by repeat (first | exact List.Sublist.refl _  | apply List.Sublist.cons_cons  | apply List.Sublist.cons  | exact List.nil_sublist _)))
    · -- behind the loop
      rintro D xs W hD rfl ⟨y, hy, s1⟩ hdefD
      rw [accI_all] at hy
      have hf := fun w => ifNumber_ok y _ hy w
      have s2 := ((st.fit (E' := [(8, .pointer (some ⟨p8, 0, none⟩))]) (by repeat (first | exact trivial  | refine And.intro rfl ?_))).mix s1)
      have s3 : St w Try.f95.ntmps a4 W [(8, .pointer (some ⟨p8, 0, none⟩))] [⟨p8, true, .cells [.float .f32 y].toArray 22 (0, 0)⟩, ⟨D, false, .deferred (some [])⟩] := by
        refine ⟨s2.env, s2.size, s2.defers, s2.below, ?_, ?_⟩
        · intro e he
          simp only [List.mem_cons, List.not_mem_nil, or_false] at he
          rcases he with rfl | rfl
          · exact s2.facts _ List.mem_cons_self
          · exact ⟨hdefD, fun hh => by cases hh⟩
        · refine List.pairwise_cons.2 ⟨?_, List.pairwise_singleton _ _⟩
          intro e he _
          simp only [List.mem_cons, List.not_mem_nil, or_false] at he
          subst he
          intro hb
          have h1 := s2.heap (b := p8) (by repeat constructor)
          have hb : p8 = D := hb
          rw [hb, hdefD] at h1
          cases h1
      have hDw : w.heap.size ≤ D := Nat.le_trans st.below.size hD
      refine x_blkN ?_
      refine x_then ?_
      refine c_seq ?_
      refine d_region (b := a4) (F := fun a' w' => ∃ r : Nat, Is .f32 r (giveC (sumT ss T KK)) ∧ St w Try.f95.ntmps a' w' [(6, .float .f32 r), (7, .bool (finC (sumT ss T KK)))] [⟨D, false, .deferred (some [])⟩]) ⟨rfl, by rw [hdef]; rfl⟩ ?_ ?_
      · rintro a' b' w' hs ⟨r, hr, s4⟩
        refine x_then ?_
        refine wp_ret ?_
        have hD4 := s4.heap (b := D) (by repeat constructor)
        refine postMD2 hs s4 Try.results95 rfl rfl hD4 ?_
        refine ⟨_, rfl, ⟨r, rfl, hr⟩, ⟨s4.below.trans ?_, by simp, by simp⟩⟩
        exact belowK_b (w := w) (Nat.le_refl _) w' D _ _ hDw hD4 rfl rfl
      · have st := s3
        (repeat' (first | (refine o_callFlB st rfl (hf _) rfl ?_; clear st; intro r hr _ _ st)  | refine c_seq ?_  | refine c_region ?_  | refine l_do ?_  | refine l_nil ?_  | refine x_then ?_  | refine x_thenR ?_  | refine x_blkN ?_  | refine wp_ret ?_  | refine wp_skip ?_  | refine wp_block ?_  | refine wp_exit ?_  | refine c_condT st rfl ?_  | refine c_condF st rfl ?_  | ((first | refine o_move st rfl rfl ?_  | refine o_assign st rfl rfl ?_); clear st; intro _ st)  | ((first | refine o_alloc st rfl ?_  | refine o_boxS st rfl rfl rfl ?_); clear st; intro _ _ _ st)  | ((first | refine o_loadS st rfl (by repeat constructor) rfl rfl ?_ ); clear st; intro _ st)  | ((first | refine o_storeS st rfl rfl rfl (by repeat constructor) rfl (by dsimp only [List.set]) ?_  | refine o_storeW st rfl rfl (by repeat constructor) rfl rfl rfl ?_); clear st; intro _ _ st)  | ((first | refine o_extract st rfl rfl rfl ?_  | refine o_notT st rfl rfl ?_  | refine o_notF st rfl rfl ?_); clear st; intro _ st)  | (refine o_fop rfl st rfl rfl (by first | assumption | exact Is_ofInt _ _ | exact Is_lit (by decide +kernel)) (by first | assumption | exact Is_ofInt _ _ | exact Is_lit (by decide +kernel)) rfl ?_; clear st; intro _ _ _ _ st)))
        exact ⟨rfl, r, hr, (st.fit (by repeat (first | exact trivial  | refine And.intro rfl ?_))).subL (by repeat (first | exact List.Sublist.refl _  | apply List.Sublist.cons_cons  | apply List.Sublist.cons  | exact List.nil_sublist _))⟩
    · intro D c pre W _ _ hf
      exact hf.elim
end Go.Proofs.Ytefnlalldgbcaaa
