/-
  Contracts: sheets of the same numbers.
-/
import Derived.Test.YtefnlalldgbcaaaO
import Derived.Test.YtefnlalldgbcaaaRaise
namespace Go.Proofs.Ytefnlalldgbcaaa
open Go.RowKit
attribute [local irreducible] Code.wp wpList Oper.wp Calls bodyPost Exit.then Exit.inBlock

/-- Lists of the same classes, as far as both go. -/
def sameL : List S3 → List S3 → Bool
  | [], _ => true
  | _, [] => true
  | s :: ss, t :: ts => sameS s t && sameL ss ts
theorem sameL_take : ∀ (ss ts : List S3) (k : Nat) (h : k < ss.length) (h' : k < ts.length), sameL (ss.take (k + 1)) (ts.take (k + 1)) = (sameL (ss.take k) (ts.take k) && sameS ss[k] ts[k])
  | s :: ss, t :: ts, 0, _, _ => by simp [sameL]
  | s :: ss, t :: ts, k + 1, h, h' => by
    have := sameL_take ss ts k (by simpa using h) (by simpa using h')
    simp only [List.take_succ_cons, sameL, List.getElem_cons_succ]
    rw [this, Bool.and_assoc]
  | [], _, k, h, _ => by simp at h
  | _ :: _, [], k, _, h => by simp at h
theorem sameL_false : ∀ (ss ts : List S3) (k : Nat) (h : k < ss.length) (h' : k < ts.length), sameS ss[k] ts[k] = false → sameL ss ts = false
  | s :: ss, t :: ts, 0, _, _, hs => by
    have : sameS s t = false := hs
    simp [sameL, this]
  | s :: ss, t :: ts, k + 1, h, h', hs => by
    have := sameL_false ss ts k (by simpa using h) (by simpa using h') (by simpa using hs)
    simp [sameL, this]
  | [], _, k, h, _, _ => by simp at h
  | _ :: _, [], k, _, h, _ => by simp at h

def sameSh (m n m' n' : Int) (ss ss' : List S3) : Bool := (m == m' && n == n') && (((ss.length : Int) == (ss'.length : Int)) && sameL ss ss')

end Go.Proofs.Ytefnlalldgbcaaa

namespace Go.Proofs.Ytefnlalldgbcaaa
open Go.RowKit
attribute [local irreducible] Code.wp wpList Oper.wp Calls bodyPost Exit.then Exit.inBlock

set_option maxHeartbeats 8000000 in
theorem equalFuncS_ok (bs bs' : List B3) (ss ss' : List S3) (h : IsSL bs ss) (h' : IsSL bs' ss') (base base' : Option Addr) (cap cap' : Nat) (w : World) (hr : RdS w base bs) (hr' : RdS w base' bs') (hlen : bs.length < 1000000000) :
    CV Try.prog 116 [.slice base bs.length cap, .slice base' bs'.length cap', .func (.func 34) #[] #[]] w (.bool (((ss.length : Int) == (ss'.length : Int)) && sameL ss ss')) := by
  refine enter Try.func116 rfl rfl rfl rfl ?_
  intro a st
  have hl := h.len
  have hl' := h'.len
  by_cases hll : bs.length = bs'.length
  · have hv0 : ((ss.length : Int) == (ss'.length : Int)) = true := by simp; omega
    rw [hv0, Bool.true_and]
    rw [← hll] at st
    (repeat' (first | refine c_seq ?_  | refine c_region ?_  | refine l_do ?_  | refine l_nil ?_  | refine x_then ?_  | refine x_thenR ?_  | refine x_thenE ?_  | refine x_blkN ?_  | refine x_blkR ?_  | refine x_blkE ?_  | refine wp_ret ?_  | refine wp_skip ?_  | refine wp_block ?_  | refine wp_exit ?_  | refine c_condT st rfl ?_  | refine c_condF st rfl ?_  | ((first | refine o_move st rfl rfl ?_  | refine o_assign st rfl rfl ?_); clear st; intro _ st)  | (refine o_alloc st rfl ?_; clear st; intro _ _ _ st)  | ((first | refine o_load3 st rfl (by repeat constructor) rfl ?_ ); clear st; intro _ st)  | ((first | refine o_storeW st rfl rfl (by repeat constructor) rfl rfl rfl ?_); clear st; intro _ _ st)  | ((first | refine o_len st rfl rfl ?_  | refine o_add64 st rfl rfl rfl (by omega) (by omega) ?_  | refine o_notT st rfl rfl ?_  | refine o_notF st rfl rfl ?_); clear st; intro _ st)  | ((first | refine o_lss st rfl rfl rfl ?_ ?_  | refine o_neqI st rfl rfl rfl ?_ ?_) <;> clear st <;> intro _ _ st <;> (try (exfalso; omega)))))
    refine wp_loop_ghost (fun n a w' => ∃ k : Nat, k ≤ bs.length ∧ n = bs.length - k ∧ sameL (ss.take k) (ss'.take k) = true ∧ St w Try.f116.ntmps a w' [(0, .slice base bs.length cap), (1, .slice base' bs.length cap'), (2, .func (.func 34) #[] #[]), (15, .slice base bs.length cap), (16, .int .i64 bs.length), (17, .int .i64 k)] []) bs.length ⟨0, by omega, by omega, by simp [sameL], (st.fit (by repeat (first | exact trivial  | refine And.intro rfl ?_))).subL (by repeat (first | exact List.Sublist.refl _  | apply List.Sublist.cons_cons  | apply List.Sublist.cons  | exact List.nil_sublist _))⟩ ?_
    clear st
    rintro n a w' ⟨k, hk, rfl, hall, st⟩
    by_cases hlt : k < bs.length
    · have hkc : k < ss.length := by omega
      have hkc' : k < ss'.length := by omega
      rcases hr with rfl | ⟨b0, off, cs, t0, fr0, rfl, hw, hsp⟩
      · simp at hlt
      rcases hr' with rfl | ⟨b0', off', cs', t0', fr0', rfl, hw', hsp'⟩
      · have h0 : bs.length = 0 := hll
        omega
      have hv := hsp k bs[k] (by simp [hlt])
      have hlt' : k < bs'.length := by omega
      have hv' := hsp' k bs'[k] (by simp [hlt'])
      have hI : IsS bs[k] ss[k] := h.get k _ _ (by simp [hlt]) (by simp [hkc])
      have hI' : IsS bs'[k] ss'[k] := h'.get k _ _ (by simp [hlt']) (by simp [hkc'])
      have htk := sameL_take ss ss' k hkc hkc'
      have hcall := fun w => implSameSpot_ok _ _ _ _ hI hI' w
      cases hss : sameS ss[k] ss'[k]
      all_goals
        rw [hss] at hcall
        (repeat' (first | (refine o_indexAddr st rfl rfl (by omega) (by omega) rfl ?_; clear st; intro _ st)  | (refine o_loadOld st rfl hw hv rfl ?_; clear st; intro _ st)  | (refine o_loadOld st rfl hw' hv' rfl ?_; clear st; intro _ st)  | (refine o_callF st rfl rfl (hcall _) rfl ?_; clear st; intro _ _ st)  | refine c_seq ?_  | refine c_region ?_  | refine l_do ?_  | refine l_nil ?_  | refine x_then ?_  | refine x_thenR ?_  | refine x_thenE ?_  | refine x_blkN ?_  | refine x_blkR ?_  | refine x_blkE ?_  | refine wp_ret ?_  | refine wp_skip ?_  | refine wp_block ?_  | refine wp_exit ?_  | refine c_condT st rfl ?_  | refine c_condF st rfl ?_  | ((first | refine o_move st rfl rfl ?_  | refine o_assign st rfl rfl ?_); clear st; intro _ st)  | (refine o_alloc st rfl ?_; clear st; intro _ _ _ st)  | ((first | refine o_load3 st rfl (by repeat constructor) rfl ?_ ); clear st; intro _ st)  | ((first | refine o_storeW st rfl rfl (by repeat constructor) rfl rfl rfl ?_); clear st; intro _ _ st)  | ((first | refine o_len st rfl rfl ?_  | refine o_add64 st rfl rfl rfl (by omega) (by omega) ?_  | refine o_notT st rfl rfl ?_  | refine o_notF st rfl rfl ?_); clear st; intro _ st)  | ((first | refine o_lss st rfl rfl rfl ?_ ?_  | refine o_neqI st rfl rfl rfl ?_ ?_) <;> clear st <;> intro _ _ st <;> (try (exfalso; omega)))))
      · refine post1 st Try.results116 (rd_t st rfl) ?_
        refine ⟨?_, st.ex0⟩
        rw [sameL_false ss ss' k hkc hkc' hss]
      · exact ⟨bs.length - (k + 1), by omega, k + 1, by omega, rfl, by rw [htk, hall, hss]; rfl, (st.fit (by repeat (first | exact trivial  | refine And.intro rfl ?_))).subL (by repeat (first | exact List.Sublist.refl _  | apply List.Sublist.cons_cons  | apply List.Sublist.cons  | exact List.nil_sublist _))⟩
    · have hk' : k = bs.length := by omega
      (repeat' (first | refine c_seq ?_  | refine c_region ?_  | refine l_do ?_  | refine l_nil ?_  | refine x_then ?_  | refine x_thenR ?_  | refine x_thenE ?_  | refine x_blkN ?_  | refine x_blkR ?_  | refine x_blkE ?_  | refine wp_ret ?_  | refine wp_skip ?_  | refine wp_block ?_  | refine wp_exit ?_  | refine c_condT st rfl ?_  | refine c_condF st rfl ?_  | ((first | refine o_move st rfl rfl ?_  | refine o_assign st rfl rfl ?_); clear st; intro _ st)  | (refine o_alloc st rfl ?_; clear st; intro _ _ _ st)  | ((first | refine o_load3 st rfl (by repeat constructor) rfl ?_ ); clear st; intro _ st)  | ((first | refine o_storeW st rfl rfl (by repeat constructor) rfl rfl rfl ?_); clear st; intro _ _ st)  | ((first | refine o_len st rfl rfl ?_  | refine o_add64 st rfl rfl rfl (by omega) (by omega) ?_  | refine o_notT st rfl rfl ?_  | refine o_notF st rfl rfl ?_); clear st; intro _ st)  | ((first | refine o_lss st rfl rfl rfl ?_ ?_  | refine o_neqI st rfl rfl rfl ?_ ?_) <;> clear st <;> intro _ _ st <;> (try (exfalso; omega)))))
      refine post1 st Try.results116 (rd_t st rfl) ?_
      refine ⟨?_, st.ex0⟩
      have : sameL ss ss' = true := by
        have e1 : ss.take k = ss := List.take_of_length_le (by omega)
        have e2 : ss'.take k = ss' := List.take_of_length_le (by omega)
        rw [e1, e2] at hall
        exact hall
      rw [this]
  · have hv0 : ((ss.length : Int) == (ss'.length : Int)) = false := by simp; omega
    rw [hv0, Bool.false_and]
    (repeat' (first | refine c_seq ?_  | refine c_region ?_  | refine l_do ?_  | refine l_nil ?_  | refine x_then ?_  | refine x_thenR ?_  | refine x_thenE ?_  | refine x_blkN ?_  | refine x_blkR ?_  | refine x_blkE ?_  | refine wp_ret ?_  | refine wp_skip ?_  | refine wp_block ?_  | refine wp_exit ?_  | refine c_condT st rfl ?_  | refine c_condF st rfl ?_  | ((first | refine o_move st rfl rfl ?_  | refine o_assign st rfl rfl ?_); clear st; intro _ st)  | (refine o_alloc st rfl ?_; clear st; intro _ _ _ st)  | ((first | refine o_load3 st rfl (by repeat constructor) rfl ?_ ); clear st; intro _ st)  | ((first | refine o_storeW st rfl rfl (by repeat constructor) rfl rfl rfl ?_); clear st; intro _ _ st)  | ((first | refine o_len st rfl rfl ?_  | refine o_add64 st rfl rfl rfl (by omega) (by omega) ?_  | refine o_notT st rfl rfl ?_  | refine o_notF st rfl rfl ?_); clear st; intro _ st)  | ((first | refine o_lss st rfl rfl rfl ?_ ?_  | refine o_neqI st rfl rfl rfl ?_ ?_) <;> clear st <;> intro _ _ st <;> (try (exfalso; omega)))))
    refine post1 st Try.results116 (rd_t st rfl) ?_
    exact ⟨rfl, st.ex0⟩

set_option maxHeartbeats 4000000 in
theorem implSameSheet_ok (m n m' n' : Int) (bs bs' : List B3) (ss ss' : List S3) (h : IsSL bs ss) (h' : IsSL bs' ss') (base base' : Option Addr) (cap cap' : Nat) (w : World) (hr : RdS w base bs) (hr' : RdS w base' bs') (hlen : bs.length < 1000000000) :
    CV Try.prog 49 [vSh m n base bs.length cap, vSh m' n' base' bs'.length cap'] w (.bool (sameSh m n m' n' ss ss')) := by
  refine enter Try.func49 rfl rfl rfl rfl ?_
  intro a st
  unfold sameSh
  generalize hq : (((ss.length : Int) == (ss'.length : Int)) && sameL ss ss') = q
  have hcall := fun (w : World) hr hr' => equalFuncS_ok bs bs' ss ss' h h' base base' cap cap' w hr hr' hlen
  rw [hq] at hcall
  (repeat' (first | (refine o_callV st rfl (hcall _ (hr.mono st.below) (hr'.mono st.below)) rfl ?_; clear st; intro _ _ st)  | refine c_seq ?_  | refine c_region ?_  | refine l_do ?_  | refine l_doG st rfl rfl ?_  | ((first | refine l_skip st rfl rfl rfl rfl ?_); clear st; intro _ st)  | refine l_nil ?_  | refine x_then ?_  | refine wp_ret ?_  | ((first | refine o_move st rfl rfl ?_  | refine o_assign st rfl rfl ?_  | refine o_pickT st rfl rfl rfl ?_  | refine o_pickF st rfl rfl rfl ?_); clear st; intro _ st)  | ((first | refine o_boxA st rfl rfl ?_ ); clear st; intro _ _ _ st)  | ((first | refine o_fieldAddr st rfl rfl ?_  | refine o_loadS st rfl (by repeat constructor) rfl rfl ?_ ); clear st; intro _ st)  | (refine o_eqlI st rfl rfl rfl ?_ ?_ <;> clear st <;> intro _ _ st <;> (try (exfalso; omega)))))
  all_goals
    refine post1 st Try.results49 (rd_t st rfl) ?_
    refine ⟨?_, st.ex0⟩
    clear st hcall
    simp_all
end Go.Proofs.Ytefnlalldgbcaaa

namespace Go.Proofs.Ytefnlalldgbcaaa
open Go.RowKit
theorem o_flssK {P : Program} {w0 w : World} {N : Nat} {a : Act} {E : List (Nat × Value)} {L : List Ent} {K : Act → World → Prop} {Q : Exit → Act → World → Prop} {d : Nat} {ty : TypeId} {pos : String} {aft : Array Edge} {g : Option (Nat × Bool)}
    {x y : Operand} {t ys : TypeId} {k : FloatKind} {i j : Nat} {ci cj : Option Nat} {r : Bool} (st : St w0 N a w E L) (hx : evE E x = some (.float k i)) (hy : evE E y = some (.float k j)) (hi : Is k i ci) (hj : Is k j cj) (hr : fltB k ci cj = r) (hd : Nat.blt d N = true)
    (h : ∀ a', St w0 N a' w ((d, .bool r) :: E) L → K a' w) : Oper.wp P ⟨some d, .binOp .lss t x y ys, ty, pos, aft, g⟩ a w K Q := by
  cases r
  · exact o_flss st hx hy hi hj hd (fun ht => by rw [hr] at ht; cases ht) fun _ => h
  · exact o_flss st hx hy hi hj hd (fun _ => h) fun ht => by rw [hr] at ht; cases ht

attribute [local irreducible] Code.wp wpList Oper.wp Calls bodyPost Exit.then Exit.inBlock

end Go.Proofs.Ytefnlalldgbcaaa
