/-
  Contracts: the nearest spot.
-/
import Derived.Test.YtefnlalldgbcaaaX
namespace Go.Proofs.Ytefnlalldgbcaaa
open Go.RowKit
theorem o_flssK {P : Program} {w0 w : World} {N : Nat} {a : Act} {E : List (Nat × Value)} {L : List Ent} {K : Act → World → Prop} {Q : Exit → Act → World → Prop} {d : Nat} {ty : TypeId} {pos : String} {aft : Array Edge} {g : Option (Nat × Bool)}
    {x y : Operand} {t ys : TypeId} {k : FloatKind} {i j : Nat} {ci cj : Option Nat} {r : Bool} (st : St w0 N a w E L) (hx : evE E x = some (.float k i)) (hy : evE E y = some (.float k j)) (hi : Is k i ci) (hj : Is k j cj) (hr : fltB k ci cj = r) (hd : Nat.blt d N = true)
    (h : ∀ a', St w0 N a' w ((d, .bool r) :: E) L → K a' w) : Oper.wp P ⟨some d, .binOp .lss t x y ys, ty, pos, aft, g⟩ a w K Q := by
  cases r
  · exact o_flss st hx hy hi hj hd (fun ht => by rw [hr] at ht; cases ht) fun _ => h
  · exact o_flss st hx hy hi hj hd (fun _ => h) fun ht => by rw [hr] at ht; cases ht

attribute [local irreducible] Code.wp wpList Oper.wp Calls bodyPost Exit.then Exit.inBlock

/-- From spot number i on: the best one so far, how near it is. -/
def nearGo (to : S3) : Nat → Int → Option Nat → List S3 → Option (Int × Option Nat)
  | _, b, l, [] => some (b, l)
  | i, b, l, s :: r => bif longOk (lessS s to) then (bif (decide (i = 0) || fltB .f32 (longC (lessS s to)) l) then nearGo to (i + 1) i (longC (lessS s to)) r else nearGo to (i + 1) b l r) else none
def nearR (ss : List S3) (to : S3) : Option (Int × Option Nat) := bif fewL ss && finS to then nearGo to 0 0 (some 0) ss else none

def CNear (P : Program) (f : FuncId) (vs : List Value) (w : World) (r : Option (Int × Option Nat)) : Prop := CR P f vs w fun v => match r with
  | none => v = .tuple #[.int .i64 0, .float .f32 0, .bool false]
  | some p => ∃ x, v = .tuple #[.int .i64 p.1, .float .f32 x, .bool true] ∧ Is .f32 x p.2

theorem few_pos2 {ss : List S3} (h : fewL ss = true) : 0 < ss.length ∧ ss.length ≤ 256 := by
  simp [fewL] at h
  omega

set_option maxHeartbeats 16000000 in
theorem implNear_ok (bs : List B3) (ss : List S3) (h : IsSL bs ss) (base : Option Addr) (cap : Nat) (b1 : B3) (s1 : S3) (h1 : IsS b1 s1) (w : World) (hr : RdS w base bs) (hlen : bs.length < 1000000000) :
    CNear Try.prog 85 [.slice base bs.length cap, vS b1] w (nearR ss s1) := by
  refine enter Try.func85 rfl rfl rfl rfl ?_
  intro a st
  have hl := h.len
  have hc := fun (w : World) hr => areFew_ok bs ss h base cap w hr hlen
  have hf := fun w => implIsSpot_ok b1 s1 h1 w
  generalize hR : nearR ss s1 = r
  unfold nearR at hR
  generalize hq1 : fewL ss = q1 at hc hR
  generalize finS s1 = q2 at hf hR
  have hcase : (q1 && q2) = false ∨ (q1 = true ∧ q2 = true) := by cases q1 <;> cases q2 <;> simp
  rcases hcase with hqq | ⟨rfl, rfl⟩
  · rw [hqq] at hR
    have hR' : r = none := hR.symm
    subst hR'
    cases q1 <;> cases q2 <;> (try (cases hqq; done))
    all_goals
      (repeat' (first | (refine o_callV st rfl (hc _ (hr.mono st.below)) rfl ?_; clear st; intro _ _ st)  | (refine o_callV st rfl (hf _) rfl ?_; clear st; intro _ _ st)  | refine c_seq ?_  | refine c_region ?_  | refine l_do ?_  | refine l_doG st rfl rfl ?_  | ((first | refine l_skip st rfl rfl rfl rfl ?_); clear st; intro _ st)  | refine l_nil ?_  | refine x_then ?_  | refine x_thenR ?_  | refine x_thenE ?_  | refine x_blkN ?_  | refine x_blkR ?_  | refine x_blkE ?_  | refine wp_ret ?_  | refine wp_skip ?_  | refine wp_block ?_  | refine wp_exit ?_  | refine c_condT st rfl ?_  | refine c_condF st rfl ?_  | ((first | refine o_move st rfl rfl ?_  | refine o_assign st rfl rfl ?_  | refine o_pickT st rfl rfl rfl ?_  | refine o_pickF st rfl rfl rfl ?_); clear st; intro _ st)  | ((first | refine o_alloc st rfl ?_  | refine o_boxA st rfl rfl ?_ ); clear st; intro _ _ _ st)  | ((first | refine o_load3 st rfl (by repeat constructor) rfl ?_ ); clear st; intro _ st)  | ((first | refine o_storeW st rfl rfl (by repeat constructor) rfl rfl rfl ?_); clear st; intro _ _ st)  | ((first | refine o_extract st rfl rfl rfl ?_  | refine o_len st rfl rfl ?_  | refine o_add64 st rfl rfl rfl (by omega) (by omega) ?_  | refine o_notT st rfl rfl ?_  | refine o_notF st rfl rfl ?_); clear st; intro _ st)  | ((first | refine o_lss st rfl rfl rfl ?_ ?_  | refine o_eqlI st rfl rfl rfl ?_ ?_) <;> clear st <;> intro _ _ st <;> (try (exfalso; omega))) ))
      refine post3 st Try.results85 (rd_t st rfl) (rd_t st rfl) (rd_t st rfl) ?_
      exact ⟨_, rfl, rfl, st.ex0⟩
  · have hgo0 : nearGo s1 0 0 (some 0) ss = r := hR
    obtain ⟨hpos, h256⟩ := few_pos2 hq1
    rcases id hr with rfl | ⟨b0, off, cs, t, fr, rfl, hw, hsp⟩
    · simp at hl; omega
    (repeat' (first | (refine o_callV st rfl (hc _ (hr.mono st.below)) rfl ?_; clear st; intro _ _ st)  | (refine o_callV st rfl (hf _) rfl ?_; clear st; intro _ _ st)  | refine c_seq ?_  | refine c_region ?_  | refine l_do ?_  | refine l_doG st rfl rfl ?_  | ((first | refine l_skip st rfl rfl rfl rfl ?_); clear st; intro _ st)  | refine l_nil ?_  | refine x_then ?_  | refine x_thenR ?_  | refine x_thenE ?_  | refine x_blkN ?_  | refine x_blkR ?_  | refine x_blkE ?_  | refine wp_ret ?_  | refine wp_skip ?_  | refine wp_block ?_  | refine wp_exit ?_  | refine c_condT st rfl ?_  | refine c_condF st rfl ?_  | ((first | refine o_move st rfl rfl ?_  | refine o_assign st rfl rfl ?_  | refine o_pickT st rfl rfl rfl ?_  | refine o_pickF st rfl rfl rfl ?_); clear st; intro _ st)  | ((first | refine o_alloc st rfl ?_  | refine o_boxA st rfl rfl ?_ ); clear st; intro _ _ _ st)  | ((first | refine o_load3 st rfl (by repeat constructor) rfl ?_ ); clear st; intro _ st)  | ((first | refine o_storeW st rfl rfl (by repeat constructor) rfl rfl rfl ?_); clear st; intro _ _ st)  | ((first | refine o_extract st rfl rfl rfl ?_  | refine o_len st rfl rfl ?_  | refine o_add64 st rfl rfl rfl (by omega) (by omega) ?_  | refine o_notT st rfl rfl ?_  | refine o_notF st rfl rfl ?_); clear st; intro _ st)  | ((first | refine o_lss st rfl rfl rfl ?_ ?_  | refine o_eqlI st rfl rfl rfl ?_ ?_) <;> clear st <;> intro _ _ st <;> (try (exfalso; omega))) ))
    refine wp_loop_ghost (fun n a w' => ∃ (k p3 lx : Nat) (b : Int) (l : Option Nat), k ≤ bs.length ∧ n = bs.length - k ∧ Is .f32 lx l ∧ nearGo s1 k b l (ss.drop k) = r ∧ St w Try.f85.ntmps a w' [(21, .slice (some ⟨b0, off, none⟩) bs.length cap), (3, .pointer (some ⟨p3, 0, none⟩)), (7, .int .i64 b), (8, .float .f32 lx), (22, .int .i64 bs.length), (23, .int .i64 (k : Int))] [⟨p3, true, oB b1 26⟩]) bs.length ⟨0, _, 0, 0, some 0, by omega, by omega, Is_z, hgo0, (st.fit (by repeat (first | exact trivial  | refine And.intro rfl ?_))).subL (by repeat (first | exact List.Sublist.refl _  | apply List.Sublist.cons_cons  | apply List.Sublist.cons  | exact List.nil_sublist _))⟩ ?_
    clear st
    rintro n a w' ⟨k, p3, lx, b, l, hk, rfl, hlx, hgo, st⟩
    by_cases hlt : k < bs.length
    · have hkc : k < ss.length := by omega
      have hv := hsp k bs[k] (by simp [hlt])
      have hI : IsS bs[k] ss[k] := h.get k _ _ (by simp [hlt]) (by simp [hkc])
      rw [List.drop_eq_getElem_cons hkc, nearGo] at hgo
      have hlo := fun b2 (hb2 : IsS b2 (lessS ss[k] s1)) w => implLong_ok b2 (lessS ss[k] s1) hb2 w
      have st := st.addOld hw
      generalize hd : lessS ss[k] s1 = dd at hlo hgo
      have hls := fun (w : World) => less_ok bs[k] b1 ss[k] s1 hI h1 w
      rw [hd] at hls
      generalize hok : longOk dd = ok at hlo hgo
      cases ok
      · have hr0 : r = none := hgo.symm
        subst hr0
        (repeat' (first | (refine o_indexAddr st rfl rfl (by omega) (by omega) rfl ?_; clear st; intro _ st)  | (refine o_loadSp st rfl (by repeat constructor) hv rfl ?_; clear st; intro _ st)  | (refine o_callSb st rfl (hls _) rfl ?_; clear st; intro b2 hb2 _ _ st)  | (refine o_callFlB st rfl (hlo _ hb2 _) rfl ?_; clear st; intro bx hbx _ _ st)  | refine c_seq ?_  | refine c_region ?_  | refine l_do ?_  | refine l_doG st rfl rfl ?_  | ((first | refine l_skip st rfl rfl rfl rfl ?_); clear st; intro _ st)  | refine l_nil ?_  | refine x_then ?_  | refine x_thenR ?_  | refine x_thenE ?_  | refine x_blkN ?_  | refine x_blkR ?_  | refine x_blkE ?_  | refine wp_ret ?_  | refine wp_skip ?_  | refine wp_block ?_  | refine wp_exit ?_  | refine c_condT st rfl ?_  | refine c_condF st rfl ?_  | ((first | refine o_move st rfl rfl ?_  | refine o_assign st rfl rfl ?_  | refine o_pickT st rfl rfl rfl ?_  | refine o_pickF st rfl rfl rfl ?_); clear st; intro _ st)  | ((first | refine o_alloc st rfl ?_  | refine o_boxA st rfl rfl ?_ ); clear st; intro _ _ _ st)  | ((first | refine o_load3 st rfl (by repeat constructor) rfl ?_ ); clear st; intro _ st)  | ((first | refine o_storeW st rfl rfl (by repeat constructor) rfl rfl rfl ?_); clear st; intro _ _ st)  | ((first | refine o_extract st rfl rfl rfl ?_  | refine o_len st rfl rfl ?_  | refine o_add64 st rfl rfl rfl (by omega) (by omega) ?_  | refine o_notT st rfl rfl ?_  | refine o_notF st rfl rfl ?_); clear st; intro _ st)  | ((first | refine o_lss st rfl rfl rfl ?_ ?_  | refine o_eqlI st rfl rfl rfl ?_ ?_) <;> clear st <;> intro _ _ st <;> (try (exfalso; omega))) ))
        refine post3 st Try.results85 (rd_t st rfl) (rd_t st rfl) (rd_t st rfl) ?_
        exact ⟨_, rfl, rfl, st.ex0⟩
      · rw [cond_true] at hgo
        by_cases hk0 : k = 0
        · have hgo2 : nearGo s1 (k + 1) (k : Int) (longC dd) (ss.drop (k + 1)) = r := by rw [← hgo]; simp [hk0]
          (repeat' (first | (refine o_indexAddr st rfl rfl (by omega) (by omega) rfl ?_; clear st; intro _ st)  | (refine o_loadSp st rfl (by repeat constructor) hv rfl ?_; clear st; intro _ st)  | (refine o_callSb st rfl (hls _) rfl ?_; clear st; intro b2 hb2 _ _ st)  | (refine o_callFlB st rfl (hlo _ hb2 _) rfl ?_; clear st; intro bx hbx _ _ st)  | refine c_seq ?_  | refine c_region ?_  | refine l_do ?_  | refine l_doG st rfl rfl ?_  | ((first | refine l_skip st rfl rfl rfl rfl ?_); clear st; intro _ st)  | refine l_nil ?_  | refine x_then ?_  | refine x_thenR ?_  | refine x_thenE ?_  | refine x_blkN ?_  | refine x_blkR ?_  | refine x_blkE ?_  | refine wp_ret ?_  | refine wp_skip ?_  | refine wp_block ?_  | refine wp_exit ?_  | refine c_condT st rfl ?_  | refine c_condF st rfl ?_  | ((first | refine o_move st rfl rfl ?_  | refine o_assign st rfl rfl ?_  | refine o_pickT st rfl rfl rfl ?_  | refine o_pickF st rfl rfl rfl ?_); clear st; intro _ st)  | ((first | refine o_alloc st rfl ?_  | refine o_boxA st rfl rfl ?_ ); clear st; intro _ _ _ st)  | ((first | refine o_load3 st rfl (by repeat constructor) rfl ?_ ); clear st; intro _ st)  | ((first | refine o_storeW st rfl rfl (by repeat constructor) rfl rfl rfl ?_); clear st; intro _ _ st)  | ((first | refine o_extract st rfl rfl rfl ?_  | refine o_len st rfl rfl ?_  | refine o_add64 st rfl rfl rfl (by omega) (by omega) ?_  | refine o_notT st rfl rfl ?_  | refine o_notF st rfl rfl ?_); clear st; intro _ st)  | ((first | refine o_lss st rfl rfl rfl ?_ ?_  | refine o_eqlI st rfl rfl rfl ?_ ?_) <;> clear st <;> intro _ _ st <;> (try (exfalso; omega))) ))
          exact ⟨bs.length - (k + 1), by omega, k + 1, p3, bx, k, longC dd, by omega, rfl, hbx, hgo2, (st.fit (by repeat (first | exact trivial  | refine And.intro rfl ?_))).subL (by repeat (first | exact List.Sublist.refl _  | apply List.Sublist.cons_cons  | apply List.Sublist.cons  | exact List.nil_sublist _))⟩
        cases hfl : fltB .f32 (longC dd) l
        · have hgo2 : nearGo s1 (k + 1) b l (ss.drop (k + 1)) = r := by rw [← hgo]; simp [hk0, hfl]
          (repeat' (first | (refine o_flssK st rfl rfl hbx hlx hfl rfl ?_; clear st; intro _ st)  | (refine o_indexAddr st rfl rfl (by omega) (by omega) rfl ?_; clear st; intro _ st)  | (refine o_loadSp st rfl (by repeat constructor) hv rfl ?_; clear st; intro _ st)  | (refine o_callSb st rfl (hls _) rfl ?_; clear st; intro b2 hb2 _ _ st)  | (refine o_callFlB st rfl (hlo _ hb2 _) rfl ?_; clear st; intro bx hbx _ _ st)  | refine c_seq ?_  | refine c_region ?_  | refine l_do ?_  | refine l_doG st rfl rfl ?_  | ((first | refine l_skip st rfl rfl rfl rfl ?_); clear st; intro _ st)  | refine l_nil ?_  | refine x_then ?_  | refine x_thenR ?_  | refine x_thenE ?_  | refine x_blkN ?_  | refine x_blkR ?_  | refine x_blkE ?_  | refine wp_ret ?_  | refine wp_skip ?_  | refine wp_block ?_  | refine wp_exit ?_  | refine c_condT st rfl ?_  | refine c_condF st rfl ?_  | ((first | refine o_move st rfl rfl ?_  | refine o_assign st rfl rfl ?_  | refine o_pickT st rfl rfl rfl ?_  | refine o_pickF st rfl rfl rfl ?_); clear st; intro _ st)  | ((first | refine o_alloc st rfl ?_  | refine o_boxA st rfl rfl ?_ ); clear st; intro _ _ _ st)  | ((first | refine o_load3 st rfl (by repeat constructor) rfl ?_ ); clear st; intro _ st)  | ((first | refine o_storeW st rfl rfl (by repeat constructor) rfl rfl rfl ?_); clear st; intro _ _ st)  | ((first | refine o_extract st rfl rfl rfl ?_  | refine o_len st rfl rfl ?_  | refine o_add64 st rfl rfl rfl (by omega) (by omega) ?_  | refine o_notT st rfl rfl ?_  | refine o_notF st rfl rfl ?_); clear st; intro _ st)  | ((first | refine o_lss st rfl rfl rfl ?_ ?_  | refine o_eqlI st rfl rfl rfl ?_ ?_) <;> clear st <;> intro _ _ st <;> (try (exfalso; omega))) ))
          exact ⟨bs.length - (k + 1), by omega, k + 1, p3, lx, b, l, by omega, rfl, hlx, hgo2, (st.fit (by repeat (first | exact trivial  | refine And.intro rfl ?_))).subL (by repeat (first | exact List.Sublist.refl _  | apply List.Sublist.cons_cons  | apply List.Sublist.cons  | exact List.nil_sublist _))⟩
        · have hgo2 : nearGo s1 (k + 1) (k : Int) (longC dd) (ss.drop (k + 1)) = r := by rw [← hgo]; simp [hfl]
          (repeat' (first | (refine o_flssK st rfl rfl hbx hlx hfl rfl ?_; clear st; intro _ st)  | (refine o_indexAddr st rfl rfl (by omega) (by omega) rfl ?_; clear st; intro _ st)  | (refine o_loadSp st rfl (by repeat constructor) hv rfl ?_; clear st; intro _ st)  | (refine o_callSb st rfl (hls _) rfl ?_; clear st; intro b2 hb2 _ _ st)  | (refine o_callFlB st rfl (hlo _ hb2 _) rfl ?_; clear st; intro bx hbx _ _ st)  | refine c_seq ?_  | refine c_region ?_  | refine l_do ?_  | refine l_doG st rfl rfl ?_  | ((first | refine l_skip st rfl rfl rfl rfl ?_); clear st; intro _ st)  | refine l_nil ?_  | refine x_then ?_  | refine x_thenR ?_  | refine x_thenE ?_  | refine x_blkN ?_  | refine x_blkR ?_  | refine x_blkE ?_  | refine wp_ret ?_  | refine wp_skip ?_  | refine wp_block ?_  | refine wp_exit ?_  | refine c_condT st rfl ?_  | refine c_condF st rfl ?_  | ((first | refine o_move st rfl rfl ?_  | refine o_assign st rfl rfl ?_  | refine o_pickT st rfl rfl rfl ?_  | refine o_pickF st rfl rfl rfl ?_); clear st; intro _ st)  | ((first | refine o_alloc st rfl ?_  | refine o_boxA st rfl rfl ?_ ); clear st; intro _ _ _ st)  | ((first | refine o_load3 st rfl (by repeat constructor) rfl ?_ ); clear st; intro _ st)  | ((first | refine o_storeW st rfl rfl (by repeat constructor) rfl rfl rfl ?_); clear st; intro _ _ st)  | ((first | refine o_extract st rfl rfl rfl ?_  | refine o_len st rfl rfl ?_  | refine o_add64 st rfl rfl rfl (by omega) (by omega) ?_  | refine o_notT st rfl rfl ?_  | refine o_notF st rfl rfl ?_); clear st; intro _ st)  | ((first | refine o_lss st rfl rfl rfl ?_ ?_  | refine o_eqlI st rfl rfl rfl ?_ ?_) <;> clear st <;> intro _ _ st <;> (try (exfalso; omega))) ))
          exact ⟨bs.length - (k + 1), by omega, k + 1, p3, bx, k, longC dd, by omega, rfl, hbx, hgo2, (st.fit (by repeat (first | exact trivial  | refine And.intro rfl ?_))).subL (by repeat (first | exact List.Sublist.refl _  | apply List.Sublist.cons_cons  | apply List.Sublist.cons  | exact List.nil_sublist _))⟩
    · have hkl : k = bs.length := by omega
      rw [List.drop_eq_nil_of_le (by omega), nearGo] at hgo
      subst hgo
      (repeat' (first | refine c_seq ?_  | refine c_region ?_  | refine l_do ?_  | refine l_doG st rfl rfl ?_  | ((first | refine l_skip st rfl rfl rfl rfl ?_); clear st; intro _ st)  | refine l_nil ?_  | refine x_then ?_  | refine x_thenR ?_  | refine x_thenE ?_  | refine x_blkN ?_  | refine x_blkR ?_  | refine x_blkE ?_  | refine wp_ret ?_  | refine wp_skip ?_  | refine wp_block ?_  | refine wp_exit ?_  | refine c_condT st rfl ?_  | refine c_condF st rfl ?_  | ((first | refine o_move st rfl rfl ?_  | refine o_assign st rfl rfl ?_  | refine o_pickT st rfl rfl rfl ?_  | refine o_pickF st rfl rfl rfl ?_); clear st; intro _ st)  | ((first | refine o_alloc st rfl ?_  | refine o_boxA st rfl rfl ?_ ); clear st; intro _ _ _ st)  | ((first | refine o_load3 st rfl (by repeat constructor) rfl ?_ ); clear st; intro _ st)  | ((first | refine o_storeW st rfl rfl (by repeat constructor) rfl rfl rfl ?_); clear st; intro _ _ st)  | ((first | refine o_extract st rfl rfl rfl ?_  | refine o_len st rfl rfl ?_  | refine o_add64 st rfl rfl rfl (by omega) (by omega) ?_  | refine o_notT st rfl rfl ?_  | refine o_notF st rfl rfl ?_); clear st; intro _ st)  | ((first | refine o_lss st rfl rfl rfl ?_ ?_  | refine o_eqlI st rfl rfl rfl ?_ ?_) <;> clear st <;> intro _ _ st <;> (try (exfalso; omega))) ))
      refine post3 st Try.results85 (rd_t st rfl) (rd_t st rfl) (rd_t st rfl) ?_
      exact ⟨_, rfl, ⟨_, rfl, hlx⟩, st.ex0⟩

end Go.Proofs.Ytefnlalldgbcaaa
