/-
  Rules: drawn regions that leave out some blocks; quotients and rests of integers. Contracts: the box of spots.
-/
import Derived.Test.YtefnlalldgbcaaaR
import Derived.Test.YtefnlalldgbcaaaJ
namespace Go.Proofs.Ytefnlalldgbcaaa
open Go.RowKit

section
variable {P : Program} {w0 w : World} {N : Nat} {a : Act} {E : List (Nat × Value)} {L Lh : List Ent} {K : Act → World → Prop} {Q : Exit → Act → World → Prop}
variable {ops : Array Oper} {fuel last : Nat} {listed : Array Bool}
variable {d : Nat} {ty : TypeId} {pos : String} {aft : Array Edge} {g : Option (Nat × Bool)}

/-- The first two blocks in the other order. -/
theorem St.swap2 {e1 e2 : Ent} (st : St w0 N a w E (e1 :: e2 :: L)) : St w0 N a w E (e2 :: e1 :: L) := by
  refine ⟨st.env, st.size, st.defers, st.below, fun e he => st.facts e (by simp at he ⊢; rcases he with h | h | h; exact .inr (.inl h); exact .inl h; exact .inr (.inr h)), ?_⟩
  obtain ⟨h1, h2⟩ := List.pairwise_cons.1 st.uniq
  obtain ⟨h3, h4⟩ := List.pairwise_cons.1 h2
  refine List.pairwise_cons.2 ⟨?_, List.pairwise_cons.2 ⟨fun e he => h1 e (List.mem_cons_of_mem _ he), h4⟩⟩
  intro e he ho
  rcases List.mem_cons.1 he with rfl | he
  · exact (h1 e2 List.mem_cons_self ho.symm).symm
  · exact h3 e he ho

/-- The block that a slot points to, first. -/
theorem St.front (i : Nat) {b : Nat} {o : Obj} {Lr : List Ent} (st : St w0 N a w E L) (_ : lk E i = some (.pointer (some ⟨b, 0, none⟩))) (hR : Rem L b o Lr) : St w0 N a w E (⟨b, true, o⟩ :: Lr) := by
  refine ⟨st.env, st.size, st.defers, st.below, ?_, List.pairwise_cons.2 ⟨fun e he _ => (hR.other st.uniq e he).symm, st.uniq.sublist hR.sub⟩⟩
  intro e he
  rcases List.mem_cons.1 he with rfl | he
  · exact st.facts _ hR.at_.mem
  · exact st.facts e (hR.sub.mem he)

/-! quotients and rests of natural numbers -/
theorem run_quoN (w : World) (i j : Nat) (hj : 0 < j) (hi : i ≤ 9223372036854775807) : (Op.intDiv .quo .i64 (i : Int) (j : Int)).run P w = .ok (.int .i64 ((i / j : Nat) : Int)) w := by
  have ht : Int.tdiv (i : Int) (j : Int) = ((i / j : Nat) : Int) := rfl
  have hle : i / j ≤ i := Nat.div_le_self _ _
  unfold Op.intDiv
  rw [if_neg (by omega)]
  simp only [ht]
  generalize i / j = q at hle
  rw [show IntKind.i64.wrap (q : Int) = (q : Int) by rw [IntKind.wrap_i64]; omega]
  rfl
theorem run_remN (w : World) (i j : Nat) (hj : 0 < j) : (Op.intDiv .rem .i64 (i : Int) (j : Int)).run P w = .ok (.int .i64 ((i % j : Nat) : Int)) w := by
  have ht : Int.tmod (i : Int) (j : Int) = ((i % j : Nat) : Int) := rfl
  unfold Op.intDiv
  rw [if_neg (by omega)]
  simp only [ht]
  rfl
theorem v_quo64 {x y : Operand} {t ys : TypeId} {i j : Nat} (st : St w0 N a w E L) (hx : evE E x = some (.int .i64 (i : Int))) (hy : evE E y = some (.int .i64 (j : Int))) (hj : 0 < j) (hi : i ≤ 9223372036854775807) : Vl P a Lh (.binOp .quo t x y ys) (.int .i64 ((i / j : Nat) : Int)) := by
  intro d ty pos aft g w' _
  simp only [execOp, evE_eval st hx, evE_eval st hy, binOp_quo, eqGuard_at_int, Sem.run_bind, Sem.run_pure, Result.andThen_ok, run_quoN (P := P) w' i j hj hi]
theorem v_rem64 {x y : Operand} {t ys : TypeId} {i j : Nat} (st : St w0 N a w E L) (hx : evE E x = some (.int .i64 (i : Int))) (hy : evE E y = some (.int .i64 (j : Int))) (hj : 0 < j) : Vl P a Lh (.binOp .rem t x y ys) (.int .i64 ((i % j : Nat) : Int)) := by
  intro d ty pos aft g w' _
  simp only [execOp, evE_eval st hx, evE_eval st hy, binOp_rem, eqGuard_at_int, Sem.run_bind, Sem.run_pure, Result.andThen_ok, run_remN (P := P) w' i j hj]
theorem o_quo64 {x y : Operand} {t ys : TypeId} {i j : Nat} (st : St w0 N a w E L) (hx : evE E x = some (.int .i64 (i : Int))) (hy : evE E y = some (.int .i64 (j : Int))) (hj : 0 < j) (hi : i ≤ 9223372036854775807) (hd : Nat.blt d N = true)
    (h : ∀ a', St w0 N a' w ((d, .int .i64 ((i / j : Nat) : Int)) :: E) L → K a' w) : Oper.wp P ⟨some d, .binOp .quo t x y ys, ty, pos, aft, g⟩ a w K Q :=
  o_val (v := .int .i64 ((i / j : Nat) : Int)) (w' := w) (v_quo64 (P := P) (Lh := []) st hx hy hj hi d ty pos aft g w (fun _ h => by cases h)) (h _ (st.put d hd _))
theorem o_rem64 {x y : Operand} {t ys : TypeId} {i j : Nat} (st : St w0 N a w E L) (hx : evE E x = some (.int .i64 (i : Int))) (hy : evE E y = some (.int .i64 (j : Int))) (hj : 0 < j) (hd : Nat.blt d N = true)
    (h : ∀ a', St w0 N a' w ((d, .int .i64 ((i % j : Nat) : Int)) :: E) L → K a' w) : Oper.wp P ⟨some d, .binOp .rem t x y ys, ty, pos, aft, g⟩ a w K Q :=
  o_val (v := .int .i64 ((i % j : Nat) : Int)) (w' := w) (v_rem64 (P := P) (Lh := []) st hx hy hj d ty pos aft g w (fun _ h => by cases h)) (h _ (st.put d hd _))
theorem v_mul64 {x y : Operand} {t ys : TypeId} {i j : Int} (st : St w0 N a w E L) (hx : evE E x = some (.int .i64 i)) (hy : evE E y = some (.int .i64 j)) (h0 : -9223372036854775808 ≤ i * j) (h1 : i * j ≤ 9223372036854775807) : Vl P a Lh (.binOp .mul t x y ys) (.int .i64 (i * j)) := by
  have hw : IntKind.i64.wrap (i * j) = i * j := by rw [IntKind.wrap_i64]; omega
  have := v_mulW (P := P) (a := a) (Lh := Lh) (t := t) (ys := ys) st hx hy
  rwa [hw] at this
end

attribute [local irreducible] Code.wp wpList Oper.wp Calls bodyPost Exit.then Exit.inBlock

/-! ## boxes -/
def lowC (a b : Option Nat) : Option Nat := bif fltB .f32 b a then b else a
def highC (a b : Option Nat) : Option Nat := bif fgtB .f32 b a then b else a
theorem lesser_ok (x y : Nat) (c d : Option Nat) (hx : Is .f32 x c) (hy : Is .f32 y d) (w : World) : CF Try.prog 121 [.float .f32 x, .float .f32 y] w .f32 (lowC c d) := by
  refine enter Try.func121 rfl rfl rfl rfl ?_
  intro a st
  unfold lowC
  (repeat' (first | refine c_seq ?_  | refine c_region ?_  | refine l_do ?_  | refine l_nil ?_  | refine x_then ?_  | refine x_thenR ?_  | refine wp_ret ?_  | refine wp_skip ?_  | refine c_condT st rfl ?_  | refine c_condF st rfl ?_  | ((first | refine o_move st rfl rfl ?_  | refine o_assign st rfl rfl ?_); clear st; intro _ st)  | (refine o_flss st rfl rfl (by first | assumption | exact Is_ofInt _ _ | exact Is_lit (by decide +kernel)) (by first | assumption | exact Is_ofInt _ _ | exact Is_lit (by decide +kernel)) rfl ?_ ?_ <;> clear st <;> intro _ _ st <;> (try simp_all))))
  all_goals
    refine post1 st Try.results121 (rd_t st rfl) ?_
    exact ⟨_, rfl, ⟨_, rfl, by simp_all⟩, st.ex0⟩
theorem greater_ok (x y : Nat) (c d : Option Nat) (hx : Is .f32 x c) (hy : Is .f32 y d) (w : World) : CF Try.prog 122 [.float .f32 x, .float .f32 y] w .f32 (highC c d) := by
  refine enter Try.func122 rfl rfl rfl rfl ?_
  intro a st
  unfold highC
  (repeat' (first | refine c_seq ?_  | refine c_region ?_  | refine l_do ?_  | refine l_nil ?_  | refine x_then ?_  | refine x_thenR ?_  | refine wp_ret ?_  | refine wp_skip ?_  | refine c_condT st rfl ?_  | refine c_condF st rfl ?_  | ((first | refine o_move st rfl rfl ?_  | refine o_assign st rfl rfl ?_); clear st; intro _ st)  | (refine o_fgtr st rfl rfl (by first | assumption | exact Is_ofInt _ _ | exact Is_lit (by decide +kernel)) (by first | assumption | exact Is_ofInt _ _ | exact Is_lit (by decide +kernel)) rfl ?_ ?_ <;> clear st <;> intro _ _ st <;> (try simp_all))))
  all_goals
    refine post1 st Try.results122 (rd_t st rfl) ?_
    exact ⟨_, rfl, ⟨_, rfl, by simp_all⟩, st.ex0⟩
/-- Are there a few spots. -/
def fewL (ss : List S3) : Bool := (decide ((1 : Int) ≤ (ss.length : Int)) && decide ((ss.length : Int) ≤ 256)) && finL ss
theorem areFew_ok (bs : List B3) (ss : List S3) (h : IsSL bs ss) (base : Option Addr) (cap : Nat) (w : World) (hr : RdS w base bs) (hlen : bs.length < 1000000000) :
    CV Try.prog 120 [.slice base bs.length cap] w (.bool (fewL ss)) := by
  refine enter Try.func120 rfl rfl rfl rfl ?_
  intro a st
  have hl := h.len
  unfold fewL
  rw [← hl]
  (repeat' (first | (refine o_callB st rfl (areSpots_ok bs ss h base cap _ (hr.mono st.below) hlen) rfl ?_ ?_ <;> clear st <;> intro _ _ _ st)  | refine c_seq ?_  | refine c_region ?_  | refine l_do ?_  | refine l_doG st rfl rfl ?_  | ((first | refine l_skip st rfl rfl rfl rfl ?_); clear st; intro _ st)  | refine l_nil ?_  | refine x_then ?_  | refine wp_ret ?_  | ((first | refine o_move st rfl rfl ?_  | refine o_assign st rfl rfl ?_  | refine o_pickT st rfl rfl rfl ?_  | refine o_pickF st rfl rfl rfl ?_  | refine o_len st rfl rfl ?_); clear st; intro _ st)  | ((first | refine o_leq st rfl rfl rfl ?_ ?_  | refine o_geq st rfl rfl rfl ?_ ?_) <;> clear st <;> intro _ _ st <;> (try (exfalso; omega)))))
  all_goals
    refine post1 st Try.results120 (rd_t st rfl) ?_
    refine ⟨?_, st.ex0⟩
    clear st hr
    simp_all <;> omega

def lowS (s t : S3) : S3 := (lowC s.1 t.1, lowC s.2.1 t.2.1, lowC s.2.2 t.2.2)
def highS (s t : S3) : S3 := (highC s.1 t.1, highC s.2.1 t.2.1, highC s.2.2 t.2.2)
theorem foldl_take {α β : Type} (f : α → β → α) (x : α) (l : List β) (k : Nat) (hk : k < l.length) : (l.take (k + 1)).foldl f x = f ((l.take k).foldl f x) l[k] := by
  rw [List.take_succ_eq_append_getElem hk, List.foldl_append]
  rfl
abbrev cB (b : B3) : List Value := [.float .f32 b.1, .float .f32 b.2.1, .float .f32 b.2.2]
abbrev oB (b : B3) (t : TypeId) : Obj := .cells (cB b).toArray t (0, 0)
end Go.Proofs.Ytefnlalldgbcaaa
