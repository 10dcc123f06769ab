/-
  FnCircles: numbers that bytes choose; words that are told apart.
-/
import Derived.Test.YtlllekaiickkoaaCl
namespace Go.Proofs.Ytlllekaiickkoaa
open Go.RowKit

/-- A list's memory holds these bytes. -/
def RdB (w : World) (base : Option Addr) (cs : List Int) : Prop := cs = [] ∨ ∃ blk off arr t fr, base = some ⟨blk, off, none⟩ ∧ w.heap[blk]? = some (.cells arr t fr) ∧ ∀ (i : Nat) (c : Int), cs[i]? = some c → arr[off + i]? = some (.int .u8 c)
theorem RdB.mono {w w' : World} {base : Option Addr} {cs : List Int} (h : RdB w base cs) (hb : Below w.heap.size w w') : RdB w' base cs := by
  rcases h with h | ⟨blk, off, arr, t, fr, h1, h2, h3⟩
  · exact .inl h
  · exact .inr ⟨blk, off, arr, t, fr, h1, by rw [hb.block blk (Array.getElem?_eq_some_iff.1 h2).1]; exact h2, h3⟩
/-- Bytes. -/
def okB (cs : List Int) : Prop := ∀ c ∈ cs, 0 ≤ c ∧ c ≤ 255
theorem St.addOld {w0 w : World} {N : Nat} {a : Act} {E : List (Nat × Value)} {L : List Ent} (st : St w0 N a w E L) {b : Nat} {o : Obj} (h : w0.heap[b]? = some o) : St w0 N a w E (⟨b, false, o⟩ :: L) := by
  have hlt : b < w0.heap.size := (Array.getElem?_eq_some_iff.1 h).1
  refine ⟨st.env, st.size, st.defers, st.below, ?_, ?_⟩
  · intro e he
    rcases List.mem_cons.1 he with rfl | he
    · exact ⟨by rw [st.below.block b hlt]; exact h, fun h => by cases h⟩
    · exact st.facts e he
  · refine List.pairwise_cons.2 ⟨?_, st.uniq⟩
    intro y hy ho
    rcases ho with ho | ho
    · cases ho
    · have := (st.facts y hy).2 ho
      show b ≠ y.b
      omega
section
variable {P : Program} {w0 w : World} {N : Nat} {a : Act} {E : List (Nat × Value)} {L Lh : List Ent} {K : Act → World → Prop} {Q : Exit → Act → World → Prop}
variable {d : Nat} {ty : TypeId} {pos : String} {aft : Array Edge} {g : Option (Nat × Bool)}
theorem run_remN (w : World) (i j : Nat) (hj : 0 < j) : (Op.intDiv .rem .i64 (i : Int) (j : Int)).run P w = .ok (.int .i64 ((i % j : Nat) : Int)) w := by
  have ht : Int.tmod (i : Int) (j : Int) = ((i % j : Nat) : Int) := rfl
  unfold Op.intDiv
  rw [if_neg (by omega)]
  simp only [ht]
  rfl
theorem o_rem64 {x y : Operand} {t ys : TypeId} {i j : Nat} (st : St w0 N a w E L) (hx : evE E x = some (.int .i64 (i : Int))) (hy : evE E y = some (.int .i64 (j : Int))) (hj : 0 < j) (hd : Nat.blt d N = true)
    (h : ∀ a', St w0 N a' w ((d, .int .i64 ((i % j : Nat) : Int)) :: E) L → K a' w) : Oper.wp P ⟨some d, .binOp .rem t x y ys, ty, pos, aft, g⟩ a w K Q :=
  o_val (v := .int .i64 ((i % j : Nat) : Int)) (w' := w) (by simp only [execOp, evE_eval st hx, evE_eval st hy, binOp_rem, eqGuard_at_int, Sem.run_bind, Sem.run_pure, Result.andThen_ok, run_remN (P := P) w i j hj]) (h _ (st.put d hd _))
/-- The rest of an integer by a positive one. -/
theorem o_remC {x y : Operand} {t ys : TypeId} {i j r : Int} (st : St w0 N a w E L) (hx : evE E x = some (.int .i64 i)) (hy : evE E y = some (.int .i64 j)) (hr : (if j = 0 then none else some (i.tmod j)) = some r) (hd : Nat.blt d N = true)
    (h : ∀ a', St w0 N a' w ((d, .int .i64 r) :: E) L → K a' w) : Oper.wp P ⟨some d, .binOp .rem t x y ys, ty, pos, aft, g⟩ a w K Q := by
  by_cases hj : j = 0
  · rw [if_pos hj] at hr; cases hr
  rw [if_neg hj] at hr
  have e : i.tmod j = r := Option.some.inj hr
  have hk : (Op.intDiv .rem .i64 i j).run P w = .ok (.int .i64 r) w := by
    unfold Op.intDiv
    rw [if_neg hj]
    simp only [e]
    rfl
  exact o_val (v := .int .i64 r) (w' := w) (by simp only [execOp, evE_eval st hx, evE_eval st hy, binOp_rem, eqGuard_at_int, Sem.run_bind, Sem.run_pure, Result.andThen_ok, hk]) (h _ (st.put d hd _))
theorem o_rem64I {x y : Operand} {t ys : TypeId} {i : Nat} {j : Int} (st : St w0 N a w E L) (hx : evE E x = some (.int .i64 (i : Int))) (hy : evE E y = some (.int .i64 j)) (hj : 0 < j) (hd : Nat.blt d N = true)
    (h : ∀ (r : Nat) a', (r : Int) < j → St w0 N a' w ((d, .int .i64 (r : Int)) :: E) L → K a' w) : Oper.wp P ⟨some d, .binOp .rem t x y ys, ty, pos, aft, g⟩ a w K Q := by
  obtain ⟨m, rfl⟩ : ∃ m : Nat, j = (m : Int) := ⟨j.toNat, by omega⟩
  have hlt : i % m < m := Nat.mod_lt _ (by omega)
  exact o_rem64 st hx hy (by omega) hd fun a' st => h (i % m) a' (by omega) st
end
attribute [local irreducible] Code.wp wpList Oper.wp Calls bodyPost Exit.then Exit.inBlock

theorem b10Long_ok (n m cap cap' : Nat) (base base' : Option Addr) (hn : n ≤ 9223372036854775807) (hm : m ≤ 9223372036854775807) (w : World) : CV Try.prog 4 [.slice base n cap, .slice base' m cap'] w (.bool (decide (1048576 < n) || decide (1048576 < m))) := by
  refine enter Try.func4 rfl rfl rfl rfl ?_
  intro a st
  by_cases h1 : 1048576 < n
  · (repeat' (first | refine c_seq ?_ | refine c_region ?_ | refine l_do ?_ | refine l_doG st rfl rfl ?_ | ((first | refine l_skipU st rfl rfl rfl ?_ | refine l_skip st rfl rfl rfl rfl ?_); clear st; intro _ st) | refine l_nil ?_ | refine x_then ?_ | refine x_thenR ?_ | refine x_thenE ?_ | refine wp_ret ?_ | ((first | refine o_move st rfl rfl ?_ | refine o_assign st rfl rfl ?_ | refine o_pickT st rfl rfl rfl ?_ | refine o_pickF st rfl rfl rfl ?_ | refine o_len st rfl rfl ?_); clear st; intro _ st) | (refine o_gtr st rfl rfl rfl ?_ ?_ <;> clear st <;> intro _ _ st <;> (try (exfalso; omega)))))
    refine post1 st Try.results4 (rd_t st rfl) ?_
    exact ⟨by simp [h1], st.ex0⟩
  · by_cases h2 : 1048576 < m
    · (repeat' (first | refine c_seq ?_ | refine c_region ?_ | refine l_do ?_ | refine l_doG st rfl rfl ?_ | ((first | refine l_skipU st rfl rfl rfl ?_ | refine l_skip st rfl rfl rfl rfl ?_); clear st; intro _ st) | refine l_nil ?_ | refine x_then ?_ | refine x_thenR ?_ | refine x_thenE ?_ | refine wp_ret ?_ | ((first | refine o_move st rfl rfl ?_ | refine o_assign st rfl rfl ?_ | refine o_pickT st rfl rfl rfl ?_ | refine o_pickF st rfl rfl rfl ?_ | refine o_len st rfl rfl ?_); clear st; intro _ st) | (refine o_gtr st rfl rfl rfl ?_ ?_ <;> clear st <;> intro _ _ st <;> (try (exfalso; omega)))))
      refine post1 st Try.results4 (rd_t st rfl) ?_
      exact ⟨by simp [h2], st.ex0⟩
    · (repeat' (first | refine c_seq ?_ | refine c_region ?_ | refine l_do ?_ | refine l_doG st rfl rfl ?_ | ((first | refine l_skipU st rfl rfl rfl ?_ | refine l_skip st rfl rfl rfl rfl ?_); clear st; intro _ st) | refine l_nil ?_ | refine x_then ?_ | refine x_thenR ?_ | refine x_thenE ?_ | refine wp_ret ?_ | ((first | refine o_move st rfl rfl ?_ | refine o_assign st rfl rfl ?_ | refine o_pickT st rfl rfl rfl ?_ | refine o_pickF st rfl rfl rfl ?_ | refine o_len st rfl rfl ?_); clear st; intro _ st) | (refine o_gtr st rfl rfl rfl ?_ ?_ <;> clear st <;> intro _ _ st <;> (try (exfalso; omega)))))
      refine post1 st Try.results4 (rd_t st rfl) ?_
      exact ⟨by simp [h1, h2], st.ex0⟩
theorem b10At_ok (cs : List Int) (hok : okB cs) (hlen : cs.length ≤ 1000000000) (base : Option Addr) (cap k : Nat) (hk : k ≤ 1000) (n : Int) (h1 : 1 < n) (w : World) (hr : RdB w base cs) : CR Try.prog 5 [.slice base cs.length cap, .int .i64 k, .int .i64 n] w fun v => ∃ x : Nat, v = .int .i64 x ∧ (x : Int) < n := by
  refine enter Try.func5 rfl rfl rfl rfl ?_
  intro a st
  by_cases hlt : k < cs.length
  · rcases id hr with rfl | ⟨blk, off, arr, t, fr, rfl, hw, h3⟩
    · simp at hlt
    have st := st.addOld hw
    have hv := h3 k _ (List.getElem?_eq_getElem hlt)
    have hc := hok _ (List.getElem_mem hlt)
    obtain ⟨c, hcc⟩ : ∃ c : Nat, cs[k] = (c : Int) := ⟨cs[k].toNat, by omega⟩
    rw [hcc] at hv hc
    have e1 : off + k = off + ((k : Nat) : Int).toNat * 1 := by simp
    rw [e1] at hv
    have ew : IntKind.i64.wrap ((c : Nat) : Int) = (c : Int) := by rw [IntKind.wrap_i64]; omega
    (repeat' (first | (refine o_indexAddr st rfl rfl (by omega) (by omega) rfl ?_; clear st; intro _ st) | (refine o_loadS st rfl (by repeat constructor) hv rfl ?_; clear st; intro _ st) | (refine o_intInt st rfl ew rfl ?_; clear st; intro _ st) | (refine o_rem64I st rfl rfl (by omega) rfl ?_; clear st; intro r _ hr' st) | refine c_seq ?_ | refine c_region ?_ | refine l_do ?_ | refine l_nil ?_ | refine x_then ?_ | refine x_thenR ?_ | refine x_thenE ?_ | refine wp_ret ?_ | refine wp_skip ?_ | refine c_condT st rfl ?_ | refine c_condF st rfl ?_ | ((first | refine o_move st rfl rfl ?_ | refine o_assign st rfl rfl ?_ | refine o_loadS st rfl (by repeat constructor) rfl rfl ?_ | refine o_load3 st rfl (by repeat constructor) rfl ?_ | refine o_load2 st rfl (by repeat constructor) rfl ?_ | refine o_load4 st rfl (by repeat constructor) rfl ?_ | refine o_len st rfl rfl ?_ | refine o_add64 st rfl rfl rfl (by omega) (by omega) ?_ | refine o_mulW st rfl rfl rfl ?_ | refine o_fcv0 st rfl rfl ?_ | refine o_intFloat st rfl rfl ?_); clear st; intro _ st) | ((first | refine o_lss st rfl rfl rfl ?_ ?_ | refine o_leq st rfl rfl rfl ?_ ?_) <;> clear st <;> intro _ _ st <;> (try (exfalso; omega)))))
    refine post1 st Try.results5 (rd_t st rfl) ?_
    exact ⟨_, rfl, ⟨r, rfl, hr'⟩, st.ex0⟩
  · have e1 : ((k : Nat) : Int) * 37 + 11 = ((k * 37 + 11 : Nat) : Int) := by omega
    (repeat' (first | (refine o_mul64 st rfl rfl rfl (by omega) (by omega) ?_; clear st; intro _ st) | (refine o_add64 st rfl rfl rfl (by omega) (by omega) ?_; clear st; intro _ st; rw [e1] at st) | (refine o_rem64I st rfl rfl (by omega) rfl ?_; clear st; intro r _ hr' st) | refine c_seq ?_ | refine c_region ?_ | refine l_do ?_ | refine l_nil ?_ | refine x_then ?_ | refine x_thenR ?_ | refine x_thenE ?_ | refine wp_ret ?_ | refine wp_skip ?_ | refine c_condT st rfl ?_ | refine c_condF st rfl ?_ | ((first | refine o_move st rfl rfl ?_ | refine o_assign st rfl rfl ?_ | refine o_loadS st rfl (by repeat constructor) rfl rfl ?_ | refine o_load3 st rfl (by repeat constructor) rfl ?_ | refine o_load2 st rfl (by repeat constructor) rfl ?_ | refine o_load4 st rfl (by repeat constructor) rfl ?_ | refine o_len st rfl rfl ?_ | refine o_add64 st rfl rfl rfl (by omega) (by omega) ?_ | refine o_mulW st rfl rfl rfl ?_ | refine o_fcv0 st rfl rfl ?_ | refine o_intFloat st rfl rfl ?_); clear st; intro _ st) | ((first | refine o_lss st rfl rfl rfl ?_ ?_ | refine o_leq st rfl rfl rfl ?_ ?_) <;> clear st <;> intro _ _ st <;> (try (exfalso; omega)))))
    refine post1 st Try.results5 (rd_t st rfl) ?_
    exact ⟨_, rfl, ⟨r, rfl, hr'⟩, st.ex0⟩

theorem ext_bits32 (x : Nat) (w : World) : (callFunc 37 [.float .f32 x].toArray).run Try.prog w = .ok (.value (.int .u32 (x : Int))) w := by
  rw [run_callFunc_extern (fn := Try.f37) (e := Extern.MathFloatBits.float32bits) Try.func37 (by kernel_rfl) (by kernel_rfl) (by kernel_rfl) (by kernel_rfl)]
  rfl
theorem Bits_ok (x : Nat) (ix : Is .f32 x (some x)) (hx : feqB .f32 (some x) (some x) = true) (w : World) : CV Try.prog 32 [.float .f32 x] w (.int .i64 (x : Int)) := by
  have hl : x < 4294967296 := ix.1
  have ew : IntKind.i64.wrap ((x : Nat) : Int) = (x : Int) := by rw [IntKind.wrap_i64]; omega
  refine enter Try.func32 rfl rfl rfl rfl ?_
  intro y st
  (repeat' (first | (refine o_fneq st rfl rfl ix ix rfl (fun ht => by rw [hx] at ht; cases ht) (fun _ => ?_); clear st; intro _ st) | (refine o_extV st rfl (ext_bits32 x _) rfl ?_; clear st; intro _ st) | (refine o_intInt st rfl ew rfl ?_; clear st; intro _ st) | refine c_seq ?_ | refine c_region ?_ | refine l_do ?_ | refine l_nil ?_ | refine x_then ?_ | refine x_thenR ?_ | refine x_thenE ?_ | refine wp_ret ?_ | refine wp_skip ?_ | refine c_condT st rfl ?_ | refine c_condF st rfl ?_ | ((first | refine o_move st rfl rfl ?_ | refine o_assign st rfl rfl ?_ | refine o_fcv0 st rfl rfl ?_ | refine o_intFloat st rfl rfl ?_); clear st; intro _ st) | (refine o_fneq st rfl rfl (by first | assumption | exact Is_ofInt _ _ | exact Is_lit (by decide +kernel)) (by first | assumption | exact Is_ofInt _ _ | exact Is_lit (by decide +kernel)) rfl ?_ ?_ <;> clear st <;> intro _ _ st <;> (try simp_all))))
  refine post1 st Try.results32 (rd_t st rfl) ?_
  exact ⟨rfl, st.ex0⟩
/-- A quarter is not zero. -/
theorem SameNumber_ok (w : World) : CV Try.prog 13 [.float .f32 1048576000, .float .f32 0] w (.bool false) := by
  have c1 := fun w => Bits_ok 1048576000 (Is_lit (by decide +kernel)) (by decide +kernel) w
  have c2 := fun w => Bits_ok 0 (Is_lit (by decide +kernel)) (by decide +kernel) w
  have c3 : ∀ w, CV Try.prog 26 [.float .f32 1048576000, .float .f32 0] w (.bool false) := by
    intro w
    refine enter Try.func26 rfl rfl rfl rfl ?_
    intro y st
    (repeat' (first | (refine o_callV st rfl (c1 _) rfl ?_; clear st; intro _ _ st) | (refine o_callV st rfl (c2 _) rfl ?_; clear st; intro _ _ st) | refine c_seq ?_ | refine c_region ?_ | refine l_do ?_ | refine l_nil ?_ | refine x_then ?_ | refine x_thenR ?_ | refine x_thenE ?_ | refine wp_ret ?_ | ((first | refine o_move st rfl rfl ?_ | refine o_assign st rfl rfl ?_); clear st; intro _ st) | (refine o_eqlI st rfl rfl rfl ?_ ?_ <;> clear st <;> intro _ _ st <;> (try (exfalso; omega)))))
    refine post1 st Try.results26 (rd_t st rfl) ?_
    exact ⟨rfl, st.ex0⟩
  refine enter Try.func13 rfl rfl rfl rfl ?_
  intro y st
  (repeat' (first | (refine o_callV st rfl (c3 _) rfl ?_; clear st; intro _ _ st) | refine c_seq ?_ | refine c_region ?_ | refine l_do ?_ | refine l_nil ?_ | refine x_then ?_ | refine x_thenR ?_ | refine x_thenE ?_ | refine wp_ret ?_ | ((first | refine o_move st rfl rfl ?_ | refine o_assign st rfl rfl ?_); clear st; intro _ st)))
  refine post1 st Try.results13 (rd_t st rfl) ?_
  exact ⟨rfl, st.ex0⟩
end Go.Proofs.Ytlllekaiickkoaa
