/-
  Contracts: lists of spots marked and held; sheets marked and held; lists cloned; sheets owned and given.
-/
import Derived.Test.YtefnlalldgbcaaaP
import Derived.Lib.SliceRun
import Derived.Test.YtefnlalldgbcaaaJ
namespace Go.Proofs.Ytefnlalldgbcaaa
open Go.RowKit
attribute [local irreducible] Code.wp wpList Oper.wp Calls bodyPost Exit.then Exit.inBlock

section
variable {P : Program} {w0 w : World} {N : Nat} {a : Act} {E : List (Nat × Value)} {L Lh : List Ent} {K : Act → World → Prop} {Q : Exit → Act → World → Prop}
variable {d : Nat} {ty : TypeId} {pos : String} {aft : Array Edge} {g : Option (Nat × Bool)}

theorem o_eqlNil {x : Operand} {t ys e : TypeId} {ad : Addr} {n c : Nat} [hs : SliceT P t e] (st : St w0 N a w E L) (hx : evE E x = some (.slice (some ad) n c)) (hd : Nat.blt d N = true)
    (h : ∀ a', St w0 N a' w ((d, .bool false) :: E) L → K a' w) : Oper.wp P ⟨some d, .binOp .eql t x (.const (.slice none 0 0)) ys, ty, pos, aft, g⟩ a w K Q := by
  refine o_val (v := .bool false) (w' := w) ?_ (h _ (st.put d hd _))
  simp only [execOp, evE_eval st hx, eqGuard_at_slice, Sem.run_bind, Sem.run_pure, Result.andThen_ok, show a.eval (.const (.slice none 0 0)) = .slice none 0 0 from rfl, Go.Lib.run_eql_slice_nil w t e (some ad) n c 0 0 hs.u]
  rfl
end

/-! ## marks -/
/-! ## clones -/
set_option maxHeartbeats 4000000 in
theorem clone_ok (bs : List B3) (blk off cap : Nat) (w : World) (hr : RdS w (some ⟨blk, off, none⟩) bs) (h0 : 0 < bs.length) (hlen : bs.length < 1000000000) :
    CM1 Try.prog 147 [.slice (some ⟨blk, off, none⟩) bs.length cap] w fun v b o => ∃ cap pad, v = .slice (some ⟨b, 0, none⟩) bs.length cap ∧ o = oS bs pad ∧ (cS bs ++ pad).length = cap * 3 := by
  refine enter Try.func147 rfl rfl rfl rfl ?_
  intro a st
  (repeat' (first | (refine o_eqlNil st rfl rfl ?_; clear st; intro _ st)  | (refine o_buildSlice0S st rfl ?_; clear st; intro _ _ _ st)  | (refine o_appendFp rfl st rfl rfl (hr.mono st.below) h0 (by omega) rfl ?_; clear st; intro blk1 cap1 pad1 _ _ hp1 st)  | refine c_seq ?_  | refine c_region ?_  | refine l_do ?_  | refine l_nil ?_  | refine x_then ?_  | refine wp_ret ?_  | refine wp_skip ?_  | refine c_condF st rfl ?_  | ((first | refine o_move st rfl rfl ?_  | refine o_assign st rfl rfl ?_); clear st; intro _ st) ))
  refine post1 st Try.results147 (rd_t st rfl) ?_
  exact ⟨_, blk1, _, rfl, ⟨cap1, pad1, rfl, rfl, hp1⟩, st.ex1 (by repeat constructor)⟩

/-- The zero sheet. -/
abbrev vSh0 : Value := vSh 0 0 none 0 0

set_option maxHeartbeats 4000000 in
theorem ifSheet_ok (m n : Int) (bs : List B3) (ss : List S3) (h : IsSL bs ss) (base : Option Addr) (cap : Nat) (w : World) (hr : RdS w base bs) (hlen : bs.length < 1000000000) :
    CV Try.prog 135 [vSh m n base bs.length cap] w (if validC m n ss then .tuple #[vSh m n base bs.length cap, .bool true] else .tuple #[vSh0, .bool false]) := by
  refine enter Try.func135 rfl rfl rfl rfl ?_
  intro a st
  have hc := fun (w : World) hr => implValid_ok m n bs ss h base cap w hr hlen
  generalize validC m n ss = q at hc ⊢
  cases q
  all_goals
    (repeat' (first | (refine o_callV st rfl (hc _ (hr.mono st.below)) rfl ?_; clear st; intro _ _ st)  | refine c_seq ?_  | refine c_region ?_  | refine l_do ?_  | refine l_nil ?_  | refine x_then ?_  | refine x_thenR ?_  | refine wp_ret ?_  | refine wp_skip ?_  | refine c_condT st rfl ?_  | refine c_condF st rfl ?_  | (refine o_assign st rfl rfl ?_; clear st; intro _ st)  | ((first | refine o_alloc st rfl ?_  | refine o_boxA st rfl rfl ?_ ); clear st; intro _ _ _ st)  | ((first | refine o_load3 st rfl (by repeat constructor) rfl ?_ ); clear st; intro _ st)  | ((first | refine o_storeW st rfl rfl (by repeat constructor) rfl rfl rfl ?_); clear st; intro _ _ st)  | ((first | refine o_build0 st rfl ?_  | refine o_notT st rfl rfl ?_  | refine o_notF st rfl rfl ?_); clear st; intro _ st)))
    refine post2 st Try.results135 (rd_c st rfl (by repeat constructor) rfl) (rd_t st rfl) ?_
    exact ⟨rfl, st.ex0⟩

/-! ## the sheet of four spots -/
def crn (s1 s2 s3 s4 : S3) : List S3 := [s1, s2, s3, s4]
theorem IsSL4 {b1 b2 b3 b4 : B3} {s1 s2 s3 s4 : S3} (h1 : IsS b1 s1) (h2 : IsS b2 s2) (h3 : IsS b3 s3) (h4 : IsS b4 s4) : IsSL [b1, b2, b3, b4] (crn s1 s2 s3 s4) := by
  refine ⟨rfl, ?_⟩
  intro i b s hb hs
  match i with
  | 0 => simp [crn] at hb hs; subst hb; subst hs; exact h1
  | 1 => simp [crn] at hb hs; subst hb; subst hs; exact h2
  | 2 => simp [crn] at hb hs; subst hb; subst hs; exact h3
  | 3 => simp [crn] at hb hs; subst hb; subst hs; exact h4
  | i + 4 => simp at hb

set_option maxHeartbeats 4000000 in
theorem implCorner_ok (b1 b2 b3 b4 : B3) (s1 s2 s3 s4 : S3) (h1 : IsS b1 s1) (h2 : IsS b2 s2) (h3 : IsS b3 s3) (h4 : IsS b4 s4) (w : World) :
    CM1 Try.prog 65 [vS b1, vS b2, vS b3, vS b4] w fun v b o => v = (if validC 2 2 (crn s1 s2 s3 s4) then .tuple #[vSh 2 2 (some ⟨b, 0, none⟩) 4 4, .bool true] else .tuple #[vSh0, .bool false]) ∧ o = oS [b1, b2, b3, b4] [] := by
  refine enter Try.func65 rfl rfl rfl rfl ?_
  intro a st
  have hc := fun (w : World) base hr => ifSheet_ok 2 2 [b1, b2, b3, b4] _ (IsSL4 h1 h2 h3 h4) base 4 w hr (by simp)
  generalize validC 2 2 (crn s1 s2 s3 s4) = q at hc ⊢
  cases q
  all_goals
    (repeat' (first | (refine o_buildSliceS [b1, b2, b3, b4] st rfl rfl rfl rfl rfl ?_; clear st; intro blk1 _ _ st)  | (refine o_callV st rfl (hc _ _ (RdS.of (st.heap (by repeat constructor)) (spotsIn0 _))) rfl ?_; clear st; intro _ _ st)  | refine c_seq ?_  | refine c_region ?_  | refine l_do ?_  | refine l_nil ?_  | refine x_then ?_  | refine wp_ret ?_  | (refine o_assign st rfl rfl ?_; clear st; intro _ st)  | ((first | refine o_alloc st rfl ?_  | refine o_boxA st rfl rfl ?_ ); clear st; intro _ _ _ st)  | ((first | refine o_load3 st rfl (by repeat constructor) rfl ?_ ); clear st; intro _ st)  | ((first | refine o_storeW st rfl rfl (by repeat constructor) rfl rfl rfl ?_); clear st; intro _ _ st)  | ((first | refine o_build3 st rfl rfl rfl rfl rfl rfl rfl ?_  | refine o_extract st rfl rfl rfl ?_); clear st; intro _ st)))
    refine post2 st Try.results65 (rd_c st rfl (by repeat constructor) rfl) (rd_t st rfl) ?_
    exact ⟨_, blk1, _, rfl, ⟨rfl, rfl⟩, st.ex1 (by repeat constructor)⟩
end Go.Proofs.Ytefnlalldgbcaaa

namespace Go.Proofs.Ytefnlalldgbcaaa
open Go.RowKit

section
variable {P : Program} {w0 w : World} {N : Nat} {a : Act} {E : List (Nat × Value)} {L Lh : List Ent} {K : Act → World → Prop} {Q : Exit → Act → World → Prop}
variable {ops : Array Oper} {fuel last : Nat} {listed : Array Bool}
variable {d : Nat} {ty : TypeId} {pos : String} {aft : Array Edge} {g : Option (Nat × Bool)}

/-- The first two blocks in the other order. -/
theorem St.swap2 {e1 e2 : Ent} (st : St w0 N a w E (e1 :: e2 :: L)) : St w0 N a w E (e2 :: e1 :: L) := by
  refine ⟨st.env, st.size, st.defers, st.below, fun e he => st.facts e (by simp at he ⊢; rcases he with h | h | h; exact .inr (.inl h); exact .inl h; exact .inr (.inr h)), ?_⟩
  obtain ⟨h1, h2⟩ := List.pairwise_cons.1 st.uniq
  obtain ⟨h3, h4⟩ := List.pairwise_cons.1 h2
  refine List.pairwise_cons.2 ⟨?_, List.pairwise_cons.2 ⟨fun e he => h1 e (List.mem_cons_of_mem _ he), h4⟩⟩
  intro e he ho
  rcases List.mem_cons.1 he with rfl | he
  · exact (h1 e2 List.mem_cons_self ho.symm).symm
  · exact h3 e he ho

/-- The block that a slot points to, first. -/
theorem St.front (i : Nat) {b : Nat} {o : Obj} {Lr : List Ent} (st : St w0 N a w E L) (_ : lk E i = some (.pointer (some ⟨b, 0, none⟩))) (hR : Rem L b o Lr) : St w0 N a w E (⟨b, true, o⟩ :: Lr) := by
  refine ⟨st.env, st.size, st.defers, st.below, ?_, List.pairwise_cons.2 ⟨fun e he _ => (hR.other st.uniq e he).symm, st.uniq.sublist hR.sub⟩⟩
  intro e he
  rcases List.mem_cons.1 he with rfl | he
  · exact st.facts _ hR.at_.mem
  · exact st.facts e (hR.sub.mem he)

/-! quotients and rests of natural numbers -/
theorem run_remN (w : World) (i j : Nat) (hj : 0 < j) : (Op.intDiv .rem .i64 (i : Int) (j : Int)).run P w = .ok (.int .i64 ((i % j : Nat) : Int)) w := by
  have ht : Int.tmod (i : Int) (j : Int) = ((i % j : Nat) : Int) := rfl
  unfold Op.intDiv
  rw [if_neg (by omega)]
  simp only [ht]
  rfl
theorem v_rem64 {x y : Operand} {t ys : TypeId} {i j : Nat} (st : St w0 N a w E L) (hx : evE E x = some (.int .i64 (i : Int))) (hy : evE E y = some (.int .i64 (j : Int))) (hj : 0 < j) : Vl P a Lh (.binOp .rem t x y ys) (.int .i64 ((i % j : Nat) : Int)) := by
  intro d ty pos aft g w' _
  simp only [execOp, evE_eval st hx, evE_eval st hy, binOp_rem, eqGuard_at_int, Sem.run_bind, Sem.run_pure, Result.andThen_ok, run_remN (P := P) w' i j hj]
theorem o_rem64 {x y : Operand} {t ys : TypeId} {i j : Nat} (st : St w0 N a w E L) (hx : evE E x = some (.int .i64 (i : Int))) (hy : evE E y = some (.int .i64 (j : Int))) (hj : 0 < j) (hd : Nat.blt d N = true)
    (h : ∀ a', St w0 N a' w ((d, .int .i64 ((i % j : Nat) : Int)) :: E) L → K a' w) : Oper.wp P ⟨some d, .binOp .rem t x y ys, ty, pos, aft, g⟩ a w K Q :=
  o_val (v := .int .i64 ((i % j : Nat) : Int)) (w' := w) (v_rem64 (P := P) (Lh := []) st hx hy hj d ty pos aft g w (fun _ h => by cases h)) (h _ (st.put d hd _))
end

attribute [local irreducible] Code.wp wpList Oper.wp Calls bodyPost Exit.then Exit.inBlock

/-! ## boxes -/
/-- Are there a few spots. -/
def fewL (ss : List S3) : Bool := (decide ((1 : Int) ≤ (ss.length : Int)) && decide ((ss.length : Int) ≤ 256)) && finL ss
theorem areFew_ok (bs : List B3) (ss : List S3) (h : IsSL bs ss) (base : Option Addr) (cap : Nat) (w : World) (hr : RdS w base bs) (hlen : bs.length < 1000000000) :
    CV Try.prog 120 [.slice base bs.length cap] w (.bool (fewL ss)) := by
  refine enter Try.func120 rfl rfl rfl rfl ?_
  intro a st
  have hl := h.len
  unfold fewL
  rw [← hl]
  (repeat' (first | (refine o_callB st rfl (areSpots_ok bs ss h base cap _ (hr.mono st.below) hlen) rfl ?_ ?_ <;> clear st <;> intro _ _ _ st)  | refine c_seq ?_  | refine c_region ?_  | refine l_do ?_  | refine l_doG st rfl rfl ?_  | ((first | refine l_skip st rfl rfl rfl rfl ?_); clear st; intro _ st)  | refine l_nil ?_  | refine x_then ?_  | refine wp_ret ?_  | ((first | refine o_move st rfl rfl ?_  | refine o_assign st rfl rfl ?_  | refine o_pickT st rfl rfl rfl ?_  | refine o_pickF st rfl rfl rfl ?_  | refine o_len st rfl rfl ?_); clear st; intro _ st)  | ((first | refine o_leq st rfl rfl rfl ?_ ?_  | refine o_geq st rfl rfl rfl ?_ ?_) <;> clear st <;> intro _ _ st <;> (try (exfalso; omega)))))
  all_goals
    refine post1 st Try.results120 (rd_t st rfl) ?_
    refine ⟨?_, st.ex0⟩
    clear st hr
    simp_all <;> omega

abbrev cB (b : B3) : List Value := [.float .f32 b.1, .float .f32 b.2.1, .float .f32 b.2.2]
abbrev oB (b : B3) (t : TypeId) : Obj := .cells (cB b).toArray t (0, 0)
end Go.Proofs.Ytefnlalldgbcaaa
