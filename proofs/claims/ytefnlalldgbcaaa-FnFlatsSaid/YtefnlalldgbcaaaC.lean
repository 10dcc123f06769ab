/-
  Contracts: the same number, the same spot.
-/
import Derived.Test.YtefnlalldgbcaaaB
import Derived.Test.YtefnlalldgbcaaaNum
import Derived.Test.YtefnlalldgbcaaaDraw
import Derived.Laws.Externs
namespace Go.Proofs.Ytefnlalldgbcaaa
open Go.RowKit
attribute [local irreducible] Code.wp wpList Oper.wp Calls bodyPost Exit.then Exit.inBlock

section
variable {P : Program} {w0 w : World} {N : Nat} {a : Act} {E : List (Nat × Value)} {L : List Ent} {K : Act → World → Prop} {Q : Exit → Act → World → Prop}
/-- A call of a function without a body. -/
theorem o_ext {d : Nat} {ty : TypeId} {pos : String} {aft : Array Edge} {g : Option (Nat × Bool)} {f : FuncId} {args : List Operand} {tys : Array TypeId} {vs : List Value} {v : Value} (st : St w0 N a w E L) (ha : evs E args = some vs)
    (hc : (callFunc f vs.toArray).run P w = .ok (.value v) w) (hd : Nat.blt d N = true) (h : ∀ a', St w0 N a' w ((d, v) :: E) L → K a' w) : Oper.wp P ⟨some d, .call { callee := .value (.func f), args := args.toArray, argTypes := tys }, ty, pos, aft, g⟩ a w K Q := by
  refine o_val (v := v) (w' := w) ?_ (h _ (st.put d hd _))
  simp [execOp, resolve, invoke, Deferred.ofValue, Act.eval, evs_map st ha, hc]
/-- 'x == y' of two bools. -/
theorem o_eqBB {d : Nat} {ty : TypeId} {pos : String} {aft : Array Edge} {g : Option (Nat × Bool)} {x y : Operand} {t ys : TypeId} {i j : Bool} [hb : BoolT P t] (st : St w0 N a w E L) (hx : evE E x = some (.bool i)) (hy : evE E y = some (.bool j)) (hd : Nat.blt d N = true)
    (h : ∀ a', St w0 N a' w ((d, .bool (i == j)) :: E) L → K a' w) : Oper.wp P ⟨some d, .binOp .eql t x y ys, ty, pos, aft, g⟩ a w K Q := o_eqlB st hx hy hd rfl h
theorem o_intIntW {d : Nat} {ty : TypeId} {pos : String} {aft : Array Edge} {g : Option (Nat × Bool)} {x : Operand} {src dst : TypeId} {q q' k : IntKind} {n : Int} [hs : IntT P src q'] [hk : IntT P dst k] (st : St w0 N a w E L) (hx : evE E x = some (.int q n)) (hd : Nat.blt d N = true)
    (h : ∀ a', St w0 N a' w ((d, .int k (k.wrap n)) :: E) L → K a' w) : Oper.wp P ⟨some d, .convert src dst x, ty, pos, aft, g⟩ a w K Q := by
  refine o_val (v := .int k (k.wrap n)) (w' := w) ?_ (h _ (st.put d hd _))
  simp only [execOp, evE_eval st hx, Sem.run_bind, Sem.run_pure]
  simp [convert, run_underlying hs.u, run_underlying hk.u, Conv.intToInt]
end

theorem bits64 (b : Nat) (w : World) : (callFunc 190 [.float .f64 b].toArray).run Try.prog w = .ok (.value (.int .u64 b)) w := by
  rw [run_callFunc_extern (fn := Try.f190) (e := Extern.MathFloatBits.float64bits) Try.func190 (by kernel_rfl) (by kernel_rfl) (by kernel_rfl) (by kernel_rfl)]
  rfl

theorem Is.lt64 {b c} (h : Is .f64 b c) : b < 18446744073709551616 := h.1
theorem Is.some {k b c} (h : Is k b (some c)) : c = b := (cl_some h.2).1

theorem feqB_none (k : FloatKind) : feqB k none none = false := rfl
theorem feqB_self' {k : FloatKind} {b c : Nat} (h : Is k b (some c)) : feqB k (some c) (some c) = true := by simp [feqB, feqB_self k b c h]

theorem Signbit_ok (x : Nat) (c : Option Nat) (hx : Is .f64 x c) (hn : c ≠ none) (w : World) : CV Try.prog 177 [.float .f64 x] w (.bool (csgn .f64 c)) := by
  refine enter Try.func177 rfl rfl rfl rfl ?_
  intro a st
  have hlt := hx.lt64
  cases c with
  | none => exact absurd rfl hn
  | some y =>
    have hy := hx.some
    have hs : csgn .f64 (some y) = decide (9223372036854775808 ≤ x) := by
      rw [hy]
      show (x / 9223372036854775808 % 2 == 1) = _
      by_cases h : 9223372036854775808 ≤ x
      · have : x / 9223372036854775808 = 1 := by omega
        simp [this, h]
      · have : x / 9223372036854775808 = 0 := by omega
        simp [this, h]
    rw [hs]
    (repeat' (first | (refine o_ext st rfl (bits64 _ _) rfl ?_; clear st; intro _ st)  | (refine o_intIntW (k := .i64) st rfl rfl ?_; clear st; intro _ st)  | refine c_seq ?_  | refine c_region ?_  | refine l_do ?_  | refine l_nil ?_  | refine x_then ?_  | refine wp_ret ?_  | ((first | refine o_move st rfl rfl ?_  | refine o_assign st rfl rfl ?_ ); clear st; intro _ st)  | (refine o_lss st rfl rfl rfl ?_ ?_ <;> clear st <;> intro _ _ st <;> (try (exfalso; omega)))))
    all_goals
      refine post1 st Try.results177 (rd_t st rfl) ?_
      refine ⟨?_, st.ex0⟩
      simp only [IntKind.wrap_i64] at *
      simp
      omega

theorem fcvIs {x : Nat} {c : Option Nat} (h : Is .f32 x c) (hn : c ≠ none) : fcv .f32 .f64 c ≠ none := by
  cases c with
  | none => exact absurd rfl hn
  | some y =>
    obtain ⟨r, hr⟩ := fits_widen h y rfl
    simp [fcv, hr]

set_option maxHeartbeats 4000000 in
theorem SameNumber_ok (x y : Nat) (c d : Option Nat) (hx : Is .f32 x c) (hy : Is .f32 y d) (w : World) : CV Try.prog 103 [.float .f32 x, .float .f32 y] w (.bool (c == d)) := by
  refine enter Try.func103 rfl rfl rfl rfl ?_
  intro a st
  cases c with
  | none =>
    cases d with
    | none =>
      (repeat' (first | refine c_seq ?_  | refine c_region ?_  | refine l_do ?_  | refine l_doG st rfl rfl ?_  | ((first | refine l_skip st rfl rfl rfl rfl ?_); clear st; intro _ st)  | refine l_nil ?_  | refine x_then ?_  | refine x_thenR ?_  | refine wp_ret ?_  | refine wp_skip ?_  | refine c_condT st rfl ?_  | refine c_condF st rfl ?_  | ((first | refine o_move st rfl rfl ?_  | refine o_assign st rfl rfl ?_  | refine o_pickT st rfl rfl rfl ?_  | refine o_pickF st rfl rfl rfl ?_ ); clear st; intro _ st)  | ((first | refine o_feql st rfl rfl (by first | assumption | exact Is_ofInt _ _ | exact Is_lit (by decide +kernel)) (by first | assumption | exact Is_ofInt _ _ | exact Is_lit (by decide +kernel)) rfl ?_ ?_  | refine o_fneq st rfl rfl (by first | assumption | exact Is_ofInt _ _ | exact Is_lit (by decide +kernel)) (by first | assumption | exact Is_ofInt _ _ | exact Is_lit (by decide +kernel)) rfl ?_ ?_) <;> clear st <;> intro _ _ st <;> (try simp_all))))
      all_goals first
        | (exfalso; simp_all [feqB_none]; done)
        | (refine post1 st Try.results103 (rd_t st rfl) ?_
           exact ⟨by rfl, st.ex0⟩)
    | some q =>
      have h2 := feqB_self' hy
      (repeat' (first | refine c_seq ?_  | refine c_region ?_  | refine l_do ?_  | refine l_doG st rfl rfl ?_  | ((first | refine l_skip st rfl rfl rfl rfl ?_); clear st; intro _ st)  | refine l_nil ?_  | refine x_then ?_  | refine x_thenR ?_  | refine wp_ret ?_  | refine wp_skip ?_  | refine c_condT st rfl ?_  | refine c_condF st rfl ?_  | ((first | refine o_move st rfl rfl ?_  | refine o_assign st rfl rfl ?_  | refine o_pickT st rfl rfl rfl ?_  | refine o_pickF st rfl rfl rfl ?_ ); clear st; intro _ st)  | ((first | refine o_feql st rfl rfl (by first | assumption | exact Is_ofInt _ _ | exact Is_lit (by decide +kernel)) (by first | assumption | exact Is_ofInt _ _ | exact Is_lit (by decide +kernel)) rfl ?_ ?_  | refine o_fneq st rfl rfl (by first | assumption | exact Is_ofInt _ _ | exact Is_lit (by decide +kernel)) (by first | assumption | exact Is_ofInt _ _ | exact Is_lit (by decide +kernel)) rfl ?_ ?_) <;> clear st <;> intro _ _ st <;> (try simp_all))))
      all_goals first
        | (exfalso; simp_all [feqB_none]; done)
        | (refine post1 st Try.results103 (rd_t st rfl) ?_
           exact ⟨by rfl, st.ex0⟩)
  | some p =>
    have h1 := feqB_self' hx
    cases d with
    | none =>
      (repeat' (first | refine c_seq ?_  | refine c_region ?_  | refine l_do ?_  | refine l_doG st rfl rfl ?_  | ((first | refine l_skip st rfl rfl rfl rfl ?_); clear st; intro _ st)  | refine l_nil ?_  | refine x_then ?_  | refine x_thenR ?_  | refine wp_ret ?_  | refine wp_skip ?_  | refine c_condT st rfl ?_  | refine c_condF st rfl ?_  | ((first | refine o_move st rfl rfl ?_  | refine o_assign st rfl rfl ?_  | refine o_pickT st rfl rfl rfl ?_  | refine o_pickF st rfl rfl rfl ?_ ); clear st; intro _ st)  | ((first | refine o_feql st rfl rfl (by first | assumption | exact Is_ofInt _ _ | exact Is_lit (by decide +kernel)) (by first | assumption | exact Is_ofInt _ _ | exact Is_lit (by decide +kernel)) rfl ?_ ?_  | refine o_fneq st rfl rfl (by first | assumption | exact Is_ofInt _ _ | exact Is_lit (by decide +kernel)) (by first | assumption | exact Is_ofInt _ _ | exact Is_lit (by decide +kernel)) rfl ?_ ?_) <;> clear st <;> intro _ _ st <;> (try simp_all))))
      all_goals first
        | (exfalso; simp_all [feqB_none]; done)
        | (refine post1 st Try.results103 (rd_t st rfl) ?_
           exact ⟨by rfl, st.ex0⟩)
    | some q =>
      have h2 := feqB_self' hy
      have hp := fcvIs hx (by simp)
      have hq := fcvIs hy (by simp)
      have sp := csgn_widen hx
      have sq := csgn_widen hy
      have key : feqB .f32 (some p) (some q) = true → csgn .f32 (some p) = csgn .f32 (some q) → some p = some q := fun he hs => same_of_eq hx hy (by simpa [feqB] using he) hs
      have key2 : feqB .f32 (some p) (some q) = false → some p ≠ some q := fun he hs => by rw [← hs, h1] at he; cases he
      (repeat' (first | (refine o_fcv (by decide) st rfl (by first | assumption | exact Is_ofInt _ _ | exact Is_lit (by decide +kernel)) (fits_widen (by first | assumption | exact Is_ofInt _ _ | exact Is_lit (by decide +kernel))) rfl ?_; clear st; intro _ _ _ _ st)  | (refine o_callV st rfl (Signbit_ok _ _ (by first | assumption | exact Is_ofInt _ _ | exact Is_lit (by decide +kernel)) (by assumption) _) rfl ?_; clear st; intro _ _ st)  | (refine o_eqBB st rfl rfl rfl ?_; clear st; intro _ st)  | refine c_seq ?_  | refine c_region ?_  | refine l_do ?_  | refine l_doG st rfl rfl ?_  | ((first | refine l_skip st rfl rfl rfl rfl ?_); clear st; intro _ st)  | refine l_nil ?_  | refine x_then ?_  | refine x_thenR ?_  | refine wp_ret ?_  | refine wp_skip ?_  | refine c_condT st rfl ?_  | refine c_condF st rfl ?_  | ((first | refine o_move st rfl rfl ?_  | refine o_assign st rfl rfl ?_  | refine o_pickT st rfl rfl rfl ?_  | refine o_pickF st rfl rfl rfl ?_ ); clear st; intro _ st)  | ((first | refine o_feql st rfl rfl (by first | assumption | exact Is_ofInt _ _ | exact Is_lit (by decide +kernel)) (by first | assumption | exact Is_ofInt _ _ | exact Is_lit (by decide +kernel)) rfl ?_ ?_  | refine o_fneq st rfl rfl (by first | assumption | exact Is_ofInt _ _ | exact Is_lit (by decide +kernel)) (by first | assumption | exact Is_ofInt _ _ | exact Is_lit (by decide +kernel)) rfl ?_ ?_) <;> clear st <;> intro _ _ st <;> (try simp_all))))
      all_goals first
        | (exfalso; simp_all; done)
        | (refine post1 st Try.results103 (rd_t st rfl) ?_
           refine ⟨?_, st.ex0⟩
           clear st
           have hne : ¬ p = q := by simpa using key2
           simp [hne]; done)
        | (refine post1 st Try.results103 (rd_t st rfl) ?_
           refine ⟨?_, st.ex0⟩
           clear st
           rw [sp, sq]
           by_cases hpq : p = q
           · subst hpq; simp
           · have h3 : ¬ csgn .f32 (some p) = csgn .f32 (some q) := fun h => hpq (by simpa using key h)
             refine congrArg (fun b => Ending.returned (Value.bool b)) ?_
             rw [beq_eq_false_iff_ne.2 h3, beq_eq_false_iff_ne.2 (by simpa using hpq)])

theorem hm_ : Try.prog.follows .mixedOrders = true := by kernel_rfl

/-- Two spots of the same classes. -/
def sameS (s t : S3) : Bool := s.1 == t.1 && (s.2.1 == t.2.1 && s.2.2 == t.2.2)

set_option maxHeartbeats 4000000 in
theorem implSameSpot_ok (b b' : B3) (s s' : S3) (h : IsS b s) (h' : IsS b' s') (w : World) : CV Try.prog 34 [vS b, vS b'] w (.bool (sameS s s')) := by
  obtain ⟨x, y, z⟩ := b
  obtain ⟨c1, c2, c3⟩ := s
  obtain ⟨h1, h2, h3⟩ := h
  obtain ⟨x', y', z'⟩ := b'
  obtain ⟨d1, d2, d3⟩ := s'
  obtain ⟨h4, h5, h6⟩ := h'
  refine enter Try.func34 rfl rfl rfl rfl ?_
  intro a st
  (repeat' (first | (refine o_callB st rfl (SameNumber_ok _ _ _ _ (by first | assumption | exact Is_ofInt _ _ | exact Is_lit (by decide +kernel)) (by first | assumption | exact Is_ofInt _ _ | exact Is_lit (by decide +kernel)) _) rfl ?_ ?_ <;> clear st <;> intro _ _ _ st)  | refine c_seq ?_  | refine c_region ?_  | refine l_do ?_  | refine l_doG st rfl rfl ?_  | ((first | refine l_skip st rfl rfl rfl rfl ?_); clear st; intro _ st)  | refine l_nil ?_  | refine x_then ?_  | refine wp_ret ?_  | ((first | refine o_move st rfl rfl ?_  | refine o_assign st rfl rfl ?_  | refine o_pickT st rfl rfl rfl ?_  | refine o_pickF st rfl rfl rfl ?_); clear st; intro _ st)  | ((first | refine o_boxA st rfl rfl ?_ ); clear st; intro _ _ _ st)  | ((first | refine o_fieldAddr st rfl rfl ?_  | refine o_loadS st rfl (by repeat constructor) rfl rfl ?_ ); clear st; intro _ st)))
  all_goals
    refine post1 st Try.results34 (rd_t st rfl) ?_
    exact ⟨by simp_all [sameS], st.ex0⟩
end Go.Proofs.Ytefnlalldgbcaaa
