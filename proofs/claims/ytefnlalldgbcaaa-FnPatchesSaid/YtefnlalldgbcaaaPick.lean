/-
  Choices from bytes, further: picks, spots that are drawn, numbers that an input chooses.
-/
import Derived.Test.YtefnlalldgbcaaaBytes
import Derived.Test.YtefnlalldgbcaaaTile
namespace Go.Proofs.Ytefnlalldgbcaaa
open Go.RowKit

/-- The quarter of a number, as a float. -/
def qC (i : Int) : Option Nat := fop .quo .f32 (some (floatOfInt .f32 i)) (some 1082130432)
/-- A spot of quarters. -/
def isQ (s : S3) : Prop := ∃ i j k : Int, s = (qC i, qC j, qC k) ∧ -16 ≤ i ∧ i ≤ 16 ∧ -16 ≤ j ∧ j ≤ 16 ∧ -8 ≤ k ∧ k ≤ 8

section
variable {P : Program} {w0 w : World} {N : Nat} {a : Act} {E : List (Nat × Value)} {L Lh : List Ent} {K : Act → World → Prop} {Q : Exit → Act → World → Prop}
variable {d : Nat} {ty : TypeId} {pos : String} {aft : Array Edge} {g : Option (Nat × Bool)}
/-- A call that changes one block and makes another. -/
def CUM (P : Program) (f : FuncId) (vs : List Value) (w : World) (b : Nat) (R : Value → Nat → Obj → Obj → Prop) : Prop :=
  Calls P f vs.toArray w fun e w' => ∃ v nb no o', e = .returned v ∧ R v nb no o' ∧ Below b w w' ∧ (∀ k, k ≠ b → k < w.heap.size → w'.heap[k]? = w.heap[k]?) ∧ w'.heap[b]? = some o' ∧ w'.heap[nb]? = some no ∧ w.heap.size ≤ nb
theorem St.updNew {w' : World} {b nb : Nat} {o o' no : Obj} {L' : List Ent} (st : St w0 N a w E L) (hu : Upd L b o o' L') (hw : Below b w w') (hb : ∀ k, k ≠ b → k < w.heap.size → w'.heap[k]? = w.heap[k]?) (hn : w'.heap[b]? = some o') (h1 : w'.heap[nb]? = some no) (h2 : w.heap.size ≤ nb) : St w0 N a w' E (⟨nb, true, no⟩ :: L') := by
  have s := st.upd hu hw hb hn
  refine ⟨s.env, s.size, s.defers, s.below, ?_, ?_⟩
  · intro e he
    rcases List.mem_cons.1 he with rfl | he
    · exact ⟨h1, fun _ => Nat.le_trans st.below.size h2⟩
    · exact s.facts e he
  · refine List.pairwise_cons.2 ⟨?_, s.uniq⟩
    intro e he _
    have hlt : e.b < w.heap.size := by
      rcases hu.mem e he with rfl | he
      · exact st.lt hu.old
      · exact (Array.getElem?_eq_some_iff.1 (st.facts e he).1).1
    show nb ≠ e.b
    omega
theorem o_callUM {f : FuncId} {args : List Operand} {tys : Array TypeId} {vs : List Value} {b : Nat} {o : Obj} {R : Value → Nat → Obj → Obj → Prop} {L' : Obj → List Ent} [hf : FnT P f] (st : St w0 N a w E L) (ha : evs E args = some vs)
    (hc : CUM P f vs w b R) (hU : ∀ o', Upd L b o o' (L' o')) (hd : Nat.blt d N = true) (h : ∀ v nb no o', R v nb no o' → ∀ a' w', St w0 N a' w' ((d, v) :: E) (⟨nb, true, no⟩ :: L' o') → K a' w') : Oper.wp P ⟨some d, .call { callee := .value (.func f), args := args.toArray, argTypes := tys }, ty, pos, aft, g⟩ a w K Q :=
  o_call st ha hc fun _ _ ⟨v, nb, no, o', he, hR, hB, ho, hn, h1, h2⟩ => ⟨v, he, h v nb no o' hR _ _ ((st.updNew (hU o') hB ho hn h1 h2).put d hd _)⟩
theorem o_rem64I {x y : Operand} {t ys : TypeId} {i : Nat} {j : Int} (st : St w0 N a w E L) (hx : evE E x = some (.int .i64 (i : Int))) (hy : evE E y = some (.int .i64 j)) (hj : 0 < j) (hd : Nat.blt d N = true)
    (h : ∀ (r : Nat) a', (r : Int) < j → St w0 N a' w ((d, .int .i64 (r : Int)) :: E) L → K a' w) : Oper.wp P ⟨some d, .binOp .rem t x y ys, ty, pos, aft, g⟩ a w K Q := by
  obtain ⟨m, rfl⟩ : ∃ m : Nat, j = (m : Int) := ⟨j.toNat, by omega⟩
  have hlt : i % m < m := Nat.mod_lt _ (by omega)
  exact o_rem64 st hx hy (by omega) hd fun a' st => h (i % m) a' (by omega) st
end

attribute [local irreducible] Code.wp wpList Oper.wp Calls bodyPost Exit.then Exit.inBlock

set_option maxHeartbeats 16000000 in
theorem pick_ok (n : Int) (h1 : 1 < n) (cs : List Int) (hok : okB cs) (hlen : cs.length ≤ 1000000000) (base : Option Addr) (cap at_ : Nat) (hat : at_ ≤ 999999990) (sd : Int) (b : Nat) (w : World) (hr : RdB w base cs) (hb : w.heap[b]? = some (oSrc base cs.length cap at_ sd)) :
    CUX Try.prog 180 [.pointer (some ⟨b, 0, none⟩), .int .i64 n] w b (fun v o' => ∃ (x at' : Nat) (sd' : Int), v = .int .i64 x ∧ (x : Int) < n ∧ at_ ≤ at' ∧ at' ≤ at_ + 2 ∧ o' = oSrc base cs.length cap at' sd') := by
  obtain ⟨Lk, hLk, hcode⟩ := hr.code hb
  refine enterUX Lk hLk hb Try.func180 rfl rfl rfl rfl ?_
  intro a w0 Lf st
  have hrd : ∀ {a : Act} {w : World} {E : List (Nat × Value)} {o : Obj}, St w0 Try.f180.ntmps a w E (⟨b, true, o⟩ :: (Lk ++ Lf)) → RdB w base cs := fun s => hcode _ fun e he => (s.facts e (List.mem_cons_of_mem _ (List.mem_append_left _ he))).1
  (repeat' (first | (refine o_mul64 st rfl rfl rfl (by omega) (by omega) ?_; clear st; intro _ st)  | (refine o_callUX (L' := fun o' => ⟨b, true, o'⟩ :: (Lk ++ Lf)) st rfl (next_ok cs hok hlen base cap at_ (by omega) sd b _ (hrd st) (st.heap (by repeat constructor))) (fun o' => Upd.here) rfl ?_; clear st; rintro _ _ ⟨x, sd1, rfl, hx, rfl⟩ _ _ st)  | refine c_seq ?_  | refine c_region ?_  | refine l_do ?_  | refine l_nil ?_  | refine x_then ?_  | refine wp_ret ?_  | refine wp_skip ?_  | refine c_condT st rfl ?_  | refine c_condF st rfl ?_  | ((first | refine o_move st rfl rfl ?_  | refine o_assign st rfl rfl ?_  | refine o_add64 st rfl rfl rfl (by omega) (by omega) ?_ ); clear st; intro _ st)  | ((first | refine o_leq st rfl rfl rfl ?_ ?_  | refine o_gtr st rfl rfl rfl ?_ ?_) <;> clear st <;> intro _ _ st <;> (try (exfalso; omega)))))
  · (repeat' (first | (refine o_add64 st rfl rfl rfl (by omega) (by omega) ?_; clear st; intro _ st)  | (refine o_callUX (L' := fun o' => ⟨b, true, o'⟩ :: (Lk ++ Lf)) st rfl (next_ok cs hok hlen base cap (at_ + 1) (by omega) sd1 b _ (hrd st) (st.heap (by repeat constructor))) (fun o' => Upd.here) rfl ?_; clear st; rintro _ _ ⟨y, sd2, rfl, hy, rfl⟩ _ _ st)  | refine c_seq ?_  | refine c_region ?_  | refine l_do ?_  | refine l_nil ?_  | refine x_then ?_  | refine wp_ret ?_  | refine wp_skip ?_  | refine c_condT st rfl ?_  | refine c_condF st rfl ?_  | ((first | refine o_move st rfl rfl ?_  | refine o_assign st rfl rfl ?_  | refine o_add64 st rfl rfl rfl (by omega) (by omega) ?_ ); clear st; intro _ st)  | ((first | refine o_leq st rfl rfl rfl ?_ ?_  | refine o_gtr st rfl rfl rfl ?_ ?_) <;> clear st <;> intro _ _ st <;> (try (exfalso; omega)))))
    have e1 : (x : Int) * 256 + (y : Int) = ((x * 256 + y : Nat) : Int) := by omega
    rw [e1] at st
    (repeat' (first | (refine o_rem64I st rfl rfl (by omega) rfl ?_; clear st; intro r _ hr st)  | refine c_seq ?_  | refine c_region ?_  | refine l_do ?_  | refine l_nil ?_  | refine x_then ?_  | refine wp_ret ?_  | refine wp_skip ?_  | refine c_condT st rfl ?_  | refine c_condF st rfl ?_  | ((first | refine o_move st rfl rfl ?_  | refine o_assign st rfl rfl ?_  | refine o_add64 st rfl rfl rfl (by omega) (by omega) ?_ ); clear st; intro _ st)  | ((first | refine o_leq st rfl rfl rfl ?_ ?_  | refine o_gtr st rfl rfl rfl ?_ ?_) <;> clear st <;> intro _ _ st <;> (try (exfalso; omega)))))
    refine post1 st Try.results180 (rd_t st rfl) ?_
    exact ⟨_, _, rfl, ⟨r, _, sd2, rfl, hr, by omega, by omega, rfl⟩, _, (st.fit (E' := []) trivial).subL (List.Sublist.cons_cons _ (List.sublist_append_right _ _))⟩
  · (repeat' (first | (refine o_rem64I st rfl rfl (by omega) rfl ?_; clear st; intro r _ hr st)  | refine c_seq ?_  | refine c_region ?_  | refine l_do ?_  | refine l_nil ?_  | refine x_then ?_  | refine wp_ret ?_  | refine wp_skip ?_  | refine c_condT st rfl ?_  | refine c_condF st rfl ?_  | ((first | refine o_move st rfl rfl ?_  | refine o_assign st rfl rfl ?_  | refine o_add64 st rfl rfl rfl (by omega) (by omega) ?_ ); clear st; intro _ st)  | ((first | refine o_leq st rfl rfl rfl ?_ ?_  | refine o_gtr st rfl rfl rfl ?_ ?_) <;> clear st <;> intro _ _ st <;> (try (exfalso; omega)))))
    refine post1 st Try.results180 (rd_t st rfl) ?_
    exact ⟨_, _, rfl, ⟨r, _, sd1, rfl, hr, by omega, by omega, rfl⟩, _, (st.fit (E' := []) trivial).subL (List.Sublist.cons_cons _ (List.sublist_append_right _ _))⟩
end Go.Proofs.Ytefnlalldgbcaaa
