/-
  FnCurves: curves that are the same; how far points are.
-/
import Derived.Test.YtonbcbhnnflohaaYi
import Derived.Test.YtonbcbhnnflohaaNum
import Derived.Laws.ComplexArith
namespace Go.Proofs.Ytonbcbhnnflohaa
open Go.RowKit

section
variable {P : Program} {w0 w : World} {N : Nat} {a : Act} {E : List (Nat × Value)} {L : List Ent} {K : Act → World → Prop} {Q : Exit → Act → World → Prop}
variable {d : Nat} {ty : TypeId} {pos : String} {aft : Array Edge} {g : Option (Nat × Bool)}
theorem o_ext {f : FuncId} {args : List Operand} {tys : Array TypeId} {vs : List Value} {v : Value} (st : St w0 N a w E L) (ha : evs E args = some vs)
    (hc : (callFunc f vs.toArray).run P w = .ok (.value v) w) (hd : Nat.blt d N = true) (h : ∀ a', St w0 N a' w ((d, v) :: E) L → K a' w) : Oper.wp P ⟨some d, .call { callee := .value (.func f), args := args.toArray, argTypes := tys }, ty, pos, aft, g⟩ a w K Q := by
  refine o_val (v := v) (w' := w) ?_ (h _ (st.put d hd _))
  simp [execOp, resolve, invoke, Deferred.ofValue, Act.eval, evs_map st ha, hc]
theorem o_intIntW {x : Operand} {src dst : TypeId} {q q' k : IntKind} {n : Int} [hs : IntT P src q'] [hk : IntT P dst k] (st : St w0 N a w E L) (hx : evE E x = some (.int q n)) (hd : Nat.blt d N = true)
    (h : ∀ a', St w0 N a' w ((d, .int k (k.wrap n)) :: E) L → K a' w) : Oper.wp P ⟨some d, .convert src dst x, ty, pos, aft, g⟩ a w K Q := by
  refine o_val (v := .int k (k.wrap n)) (w' := w) ?_ (h _ (st.put d hd _))
  simp only [execOp, evE_eval st hx, Sem.run_bind, Sem.run_pure]
  simp [convert, run_underlying hs.u, run_underlying hk.u, Conv.intToInt]
theorem o_csub {x y : Operand} {t ys : TypeId} {k : FloatKind} {i j i' j' u v : Nat} (st : St w0 N a w E L) (hx : evE E x = some (.complex k i j)) (hy : evE E y = some (.complex k i' j')) (hu : fop .sub k (some i) (some i') = some u) (hv : fop .sub k (some j) (some j') = some v) (hd : Nat.blt d N = true)
    (h : ∀ a', St w0 N a' w ((d, .complex k u v) :: E) L → K a' w) : Oper.wp P ⟨some d, .binOp .sub t x y ys, ty, pos, aft, g⟩ a w K Q := by
  have hu : floatBits .sub k i i' = some u := hu
  have hv : floatBits .sub k j j' = some v := hv
  refine o_val (v := .complex k u v) (w' := w) ?_ (h _ (st.put d hd _))
  have := run_complex_sum (P := P) w .sub (.inr rfl) t k i j i' j' u v (by simp [cSumBits, hu, hv])
  simp [execOp, evE_eval st hx, evE_eval st hy, eqGuard, this]
end
theorem feqB_self' {k : FloatKind} {b c : Nat} (h : Is k b (some c)) : feqB k (some c) (some c) = true := by simp [feqB, feqB_self k b c h]
theorem bits64 (b : Nat) (w : World) : (callFunc 128 [.float .f64 b].toArray).run Try.prog w = .ok (.value (.int .u64 b)) w := by
  rw [run_callFunc_extern (fn := Try.f128) (e := Extern.MathFloatBits.float64bits) Try.func128 (by kernel_rfl) (by kernel_rfl) (by kernel_rfl) (by kernel_rfl)]
  rfl
def rootW (x : Nat) : Option Nat := FloatKind.f64.format.sqrt x
theorem ext_root (x r : Nat) (h : rootW x = some r) (w : World) : (callFunc 127 [.float .f64 x].toArray).run Try.prog w = .ok (.value (.float .f64 r)) w := by
  rw [run_callFunc_extern (fn := Try.f127) (e := Extern.MathSqrt.sqrt) Try.func127 (by kernel_rfl) (by kernel_rfl) (by kernel_rfl) (by kernel_rfl)]
  have hd : Extern.MathSqrt.sqrt [.float .f64 x].toArray = (match FloatKind.f64.format.sqrt x with
    | some r => pure (.float .f64 r)
    | none => do pure (.float .f64 (← choose (.nanBits .f64 x x)))) := rfl
  have h : FloatKind.f64.format.sqrt x = some r := h
  rw [hd, h]
  rfl
attribute [local irreducible] Code.wp wpList Oper.wp Calls bodyPost Exit.then Exit.inBlock
theorem Sqrt_ok (x r : Nat) (h : rootW x = some r) (w : World) : CV Try.prog 104 [.float .f64 x] w (.float .f64 r) := by
  refine enter Try.func104 rfl rfl rfl rfl ?_
  intro y st
  (repeat' (first | (refine o_ext st rfl (ext_root x r h _) rfl ?_; clear st; intro _ st) | refine c_seq ?_ | refine c_region ?_ | refine l_do ?_ | refine l_nil ?_ | refine x_then ?_ | refine x_thenR ?_ | refine x_thenE ?_ | refine wp_ret ?_ | ((first | refine o_move st rfl rfl ?_ | refine o_assign st rfl rfl ?_); clear st; intro _ st)))
  refine post1 st Try.results104 (rd_t st rfl) ?_
  exact ⟨rfl, st.ex0⟩
/-- Whether a number's sign is set, as the program looks at it. -/
def sgnB (x : Nat) : Bool := decide (IntKind.i64.wrap (x : Int) < 0)
theorem Signbit_ok (x : Nat) (w : World) : CV Try.prog 106 [.float .f64 x] w (.bool (sgnB x)) := by
  refine enter Try.func106 rfl rfl rfl rfl ?_
  intro a st
  (repeat' (first | (refine o_ext st rfl (bits64 _ _) rfl ?_; clear st; intro _ st) | (refine o_intIntW (k := .i64) st rfl rfl ?_; clear st; intro _ st) | refine c_seq ?_ | refine c_region ?_ | refine l_do ?_ | refine l_nil ?_ | refine x_then ?_ | refine x_thenR ?_ | refine x_thenE ?_ | refine wp_ret ?_ | ((first | refine o_move st rfl rfl ?_ | refine o_assign st rfl rfl ?_ | refine o_fcv0 st rfl rfl ?_ | refine o_intFloat st rfl rfl ?_); clear st; intro _ st) | (refine o_lss st rfl rfl rfl ?_ ?_ <;> clear st <;> intro _ _ st <;> (try (exfalso; omega)))))
  all_goals
    refine post1 st Try.results106 (rd_t st rfl) ?_
    refine ⟨?_, st.ex0⟩
    simp_all [sgnB]
theorem SameNumber_ok (x : Nat) (hx : Is .f32 x (some x)) (w : World) : CV Try.prog 57 [.float .f32 x, .float .f32 x] w (.bool true) := by
  obtain ⟨r, hr⟩ := fits_widen hx x rfl
  have c1 := fun w => Signbit_ok r w
  have he := feqB_self' hx
  generalize sgnB r = b at c1
  refine enter Try.func57 rfl rfl rfl rfl ?_
  intro a st
  cases b
  all_goals
    (repeat' (first | (refine o_callV st rfl (c1 _) rfl ?_; clear st; intro _ _ st) | (refine o_fneqW st rfl rfl hx hx he rfl ?_; clear st; intro _ st) | (refine o_feqlW st rfl rfl hx hx he rfl ?_; clear st; intro _ st) | (refine o_fcvW st rfl hr rfl ?_; clear st; intro _ st) | refine c_seq ?_ | refine c_region ?_ | refine l_do ?_ | refine l_doG st rfl rfl ?_ | ((first | refine l_skipU st rfl rfl rfl ?_ | refine l_skip st rfl rfl rfl rfl ?_); clear st; intro _ st) | refine l_nil ?_ | refine x_then ?_ | refine x_thenR ?_ | refine x_thenE ?_ | refine wp_ret ?_ | refine wp_skip ?_ | refine c_condT st rfl ?_ | refine c_condF st rfl ?_ | ((first | refine o_move st rfl rfl ?_ | refine o_assign st rfl rfl ?_ | refine o_pickT st rfl rfl rfl ?_ | refine o_pickF st rfl rfl rfl ?_ | refine o_eqlB st rfl rfl rfl rfl ?_ | refine o_fcv0 st rfl rfl ?_ | refine o_intFloat st rfl rfl ?_); clear st; intro _ st) | ((first | refine o_feql st rfl rfl (by first | assumption | exact Is_ofInt _ _ | exact Is_lit (by decide +kernel)) (by first | assumption | exact Is_ofInt _ _ | exact Is_lit (by decide +kernel)) rfl ?_ ?_ | refine o_fneq st rfl rfl (by first | assumption | exact Is_ofInt _ _ | exact Is_lit (by decide +kernel)) (by first | assumption | exact Is_ofInt _ _ | exact Is_lit (by decide +kernel)) rfl ?_ ?_) <;> clear st <;> intro _ _ st <;> (try simp_all))))
    refine post1 st Try.results57 (rd_t st rfl) ?_
    exact ⟨rfl, st.ex0⟩
theorem SameComplex_ok (x : Nat × Nat) (h1 : Is .f32 x.1 (some x.1)) (h2 : Is .f32 x.2 (some x.2)) (w : World) : CV Try.prog 55 [.complex .f32 x.1 x.2, .complex .f32 x.1 x.2] w (.bool true) := by
  have c1 := fun w => SameNumber_ok x.1 h1 w
  have c2 := fun w => SameNumber_ok x.2 h2 w
  refine enter Try.func55 rfl rfl rfl rfl ?_
  intro a st
  (repeat' (first | (refine o_callV st rfl (c1 _) rfl ?_; clear st; intro _ _ st) | (refine o_callV st rfl (c2 _) rfl ?_; clear st; intro _ _ st) | (refine o_real st rfl rfl ?_; clear st; intro _ st) | (refine o_imag st rfl rfl ?_; clear st; intro _ st) | refine c_seq ?_ | refine c_region ?_ | refine l_do ?_ | refine l_doG st rfl rfl ?_ | ((first | refine l_skipU st rfl rfl rfl ?_ | refine l_skip st rfl rfl rfl rfl ?_); clear st; intro _ st) | refine l_nil ?_ | refine x_then ?_ | refine x_thenR ?_ | refine x_thenE ?_ | refine wp_ret ?_ | ((first | refine o_move st rfl rfl ?_ | refine o_assign st rfl rfl ?_ | refine o_pickT st rfl rfl rfl ?_ | refine o_pickF st rfl rfl rfl ?_); clear st; intro _ st)))
  refine post1 st Try.results55 (rd_t st rfl) ?_
  exact ⟨rfl, st.ex0⟩

theorem EqualP_ok (vs : List Value) (hc : ∀ v ∈ vs, ∀ w, CV Try.prog 55 [v, v] w (.bool true)) (b1 b2 : Option Addr) (n1 n2 : Nat) (hl : vs.length ≤ 1000000) (w : World) (hr1 : RdV w b1 vs) (hr2 : RdV w b2 vs) :
    CV Try.prog 54 [.slice b1 vs.length n1, .slice b2 vs.length n2, .func (.func 55) #[] #[]] w (.bool true) := by
  refine enter Try.func54 rfl rfl rfl rfl ?_
  intro a st
  (repeat' (first | refine c_seq ?_ | refine c_region ?_ | refine l_do ?_ | refine l_nil ?_ | refine x_then ?_ | refine x_thenR ?_ | refine x_thenE ?_ | refine x_blkN ?_ | refine x_blkR ?_ | refine x_blkE ?_ | refine x_blkO rfl ?_ | refine wp_ret ?_ | refine wp_skip ?_ | refine wp_block ?_ | refine wp_exit ?_ | refine c_condT st rfl ?_ | refine c_condF st rfl ?_ | ((first | refine o_move st rfl rfl ?_ | refine o_assign st rfl rfl ?_ | refine o_loadS st rfl (by repeat constructor) rfl rfl ?_ | refine o_load3 st rfl (by repeat constructor) rfl ?_ | refine o_load2 st rfl (by repeat constructor) rfl ?_ | refine o_load4 st rfl (by repeat constructor) rfl ?_ | refine o_len st rfl rfl ?_ | refine o_add64 st rfl rfl rfl (by omega) (by omega) ?_ | refine o_notT st rfl rfl ?_ | refine o_notF st rfl rfl ?_); clear st; intro _ st) | ((first | refine o_lss st rfl rfl rfl ?_ ?_ | refine o_neqI st rfl rfl rfl ?_ ?_) <;> clear st <;> intro _ _ st <;> (try (exfalso; omega)))))
  refine wp_loop_ghost (fun n a w' => ∃ k : Nat, k ≤ vs.length ∧ n = vs.length - k ∧ St w Try.f54.ntmps a w' [(0, .slice b1 vs.length n1), (1, .slice b2 vs.length n2), (2, .func (.func 55) #[] #[]), (15, .slice b1 vs.length n1), (16, .int .i64 vs.length), (17, .int .i64 k)] []) vs.length ⟨0, by omega, by omega, (st.fit (by repeat (first | exact trivial | refine And.intro rfl ?_))).subL (by repeat (first | exact List.Sublist.refl _ | apply List.Sublist.cons_cons | apply List.Sublist.cons | exact List.nil_sublist _))⟩ ?_
  clear st
  rintro n a w' ⟨k, hk, rfl, st⟩
  by_cases hlt : k < vs.length
  · obtain ⟨blk, off, arr, t, fr, rfl, hw, h3⟩ := hr1.get (by intro h; rw [h] at hlt; simp at hlt)
    obtain ⟨blk', off', arr', t', fr', rfl, hw', h3'⟩ := hr2.get (by intro h; rw [h] at hlt; simp at hlt)
    have st := (st.addOld hw).addOld hw'
    have hv := h3 k hlt
    have hv' := h3' k hlt
    have e1 : ∀ off, off + k = off + ((k : Nat) : Int).toNat * 1 := by simp
    rw [e1] at hv hv'
    have c1 := hc vs[k] (List.getElem_mem hlt)
    (repeat' (first | (refine o_indexAddr st rfl rfl (by omega) (by omega) rfl ?_; clear st; intro _ st) | (refine o_loadS st rfl (by repeat constructor) hv rfl ?_; clear st; intro _ st) | (refine o_loadS st rfl (by repeat constructor) hv' rfl ?_; clear st; intro _ st) | (refine o_callF st rfl rfl (c1 _) rfl ?_; clear st; intro _ _ st) | refine c_seq ?_ | refine c_region ?_ | refine l_do ?_ | refine l_nil ?_ | refine x_then ?_ | refine x_thenR ?_ | refine x_thenE ?_ | refine x_blkN ?_ | refine x_blkR ?_ | refine x_blkE ?_ | refine x_blkO rfl ?_ | refine wp_ret ?_ | refine wp_skip ?_ | refine wp_block ?_ | refine wp_exit ?_ | refine c_condT st rfl ?_ | refine c_condF st rfl ?_ | ((first | refine o_move st rfl rfl ?_ | refine o_assign st rfl rfl ?_ | refine o_loadS st rfl (by repeat constructor) rfl rfl ?_ | refine o_load3 st rfl (by repeat constructor) rfl ?_ | refine o_load2 st rfl (by repeat constructor) rfl ?_ | refine o_load4 st rfl (by repeat constructor) rfl ?_ | refine o_len st rfl rfl ?_ | refine o_add64 st rfl rfl rfl (by omega) (by omega) ?_ | refine o_notT st rfl rfl ?_ | refine o_notF st rfl rfl ?_); clear st; intro _ st) | ((first | refine o_lss st rfl rfl rfl ?_ ?_ | refine o_neqI st rfl rfl rfl ?_ ?_) <;> clear st <;> intro _ _ st <;> (try (exfalso; omega)))))
    exact ⟨vs.length - (k + 1), by omega, k + 1, by omega, rfl, (st.fit (by repeat (first | exact trivial | refine And.intro rfl ?_))).subL (by repeat (first | exact List.Sublist.refl _ | apply List.Sublist.cons_cons | apply List.Sublist.cons | exact List.nil_sublist _))⟩
  · obtain rfl : k = vs.length := by omega
    (repeat' (first | refine c_seq ?_ | refine c_region ?_ | refine l_do ?_ | refine l_nil ?_ | refine x_then ?_ | refine x_thenR ?_ | refine x_thenE ?_ | refine x_blkN ?_ | refine x_blkR ?_ | refine x_blkE ?_ | refine x_blkO rfl ?_ | refine wp_ret ?_ | refine wp_skip ?_ | refine wp_block ?_ | refine wp_exit ?_ | refine c_condT st rfl ?_ | refine c_condF st rfl ?_ | ((first | refine o_move st rfl rfl ?_ | refine o_assign st rfl rfl ?_ | refine o_loadS st rfl (by repeat constructor) rfl rfl ?_ | refine o_load3 st rfl (by repeat constructor) rfl ?_ | refine o_load2 st rfl (by repeat constructor) rfl ?_ | refine o_load4 st rfl (by repeat constructor) rfl ?_ | refine o_len st rfl rfl ?_ | refine o_add64 st rfl rfl rfl (by omega) (by omega) ?_ | refine o_notT st rfl rfl ?_ | refine o_notF st rfl rfl ?_); clear st; intro _ st) | ((first | refine o_lss st rfl rfl rfl ?_ ?_ | refine o_neqI st rfl rfl rfl ?_ ?_) <;> clear st <;> intro _ _ st <;> (try (exfalso; omega)))))
    refine post1 st Try.results54 (rd_t st rfl) ?_
    exact ⟨rfl, st.ex0⟩
theorem EqualW_ok (vs : List Value) (hc : ∀ v ∈ vs, ∀ w, CV Try.prog 57 [v, v] w (.bool true)) (b1 b2 : Option Addr) (n1 n2 : Nat) (hl : vs.length ≤ 1000000) (w : World) (hr1 : RdV w b1 vs) (hr2 : RdV w b2 vs) :
    CV Try.prog 56 [.slice b1 vs.length n1, .slice b2 vs.length n2, .func (.func 57) #[] #[]] w (.bool true) := by
  refine enter Try.func56 rfl rfl rfl rfl ?_
  intro a st
  (repeat' (first | refine c_seq ?_ | refine c_region ?_ | refine l_do ?_ | refine l_nil ?_ | refine x_then ?_ | refine x_thenR ?_ | refine x_thenE ?_ | refine x_blkN ?_ | refine x_blkR ?_ | refine x_blkE ?_ | refine x_blkO rfl ?_ | refine wp_ret ?_ | refine wp_skip ?_ | refine wp_block ?_ | refine wp_exit ?_ | refine c_condT st rfl ?_ | refine c_condF st rfl ?_ | ((first | refine o_move st rfl rfl ?_ | refine o_assign st rfl rfl ?_ | refine o_loadS st rfl (by repeat constructor) rfl rfl ?_ | refine o_load3 st rfl (by repeat constructor) rfl ?_ | refine o_load2 st rfl (by repeat constructor) rfl ?_ | refine o_load4 st rfl (by repeat constructor) rfl ?_ | refine o_len st rfl rfl ?_ | refine o_add64 st rfl rfl rfl (by omega) (by omega) ?_ | refine o_notT st rfl rfl ?_ | refine o_notF st rfl rfl ?_); clear st; intro _ st) | ((first | refine o_lss st rfl rfl rfl ?_ ?_ | refine o_neqI st rfl rfl rfl ?_ ?_) <;> clear st <;> intro _ _ st <;> (try (exfalso; omega)))))
  refine wp_loop_ghost (fun n a w' => ∃ k : Nat, k ≤ vs.length ∧ n = vs.length - k ∧ St w Try.f56.ntmps a w' [(0, .slice b1 vs.length n1), (1, .slice b2 vs.length n2), (2, .func (.func 57) #[] #[]), (15, .slice b1 vs.length n1), (16, .int .i64 vs.length), (17, .int .i64 k)] []) vs.length ⟨0, by omega, by omega, (st.fit (by repeat (first | exact trivial | refine And.intro rfl ?_))).subL (by repeat (first | exact List.Sublist.refl _ | apply List.Sublist.cons_cons | apply List.Sublist.cons | exact List.nil_sublist _))⟩ ?_
  clear st
  rintro n a w' ⟨k, hk, rfl, st⟩
  by_cases hlt : k < vs.length
  · obtain ⟨blk, off, arr, t, fr, rfl, hw, h3⟩ := hr1.get (by intro h; rw [h] at hlt; simp at hlt)
    obtain ⟨blk', off', arr', t', fr', rfl, hw', h3'⟩ := hr2.get (by intro h; rw [h] at hlt; simp at hlt)
    have st := (st.addOld hw).addOld hw'
    have hv := h3 k hlt
    have hv' := h3' k hlt
    have e1 : ∀ off, off + k = off + ((k : Nat) : Int).toNat * 1 := by simp
    rw [e1] at hv hv'
    have c1 := hc vs[k] (List.getElem_mem hlt)
    (repeat' (first | (refine o_indexAddr st rfl rfl (by omega) (by omega) rfl ?_; clear st; intro _ st) | (refine o_loadS st rfl (by repeat constructor) hv rfl ?_; clear st; intro _ st) | (refine o_loadS st rfl (by repeat constructor) hv' rfl ?_; clear st; intro _ st) | (refine o_callF st rfl rfl (c1 _) rfl ?_; clear st; intro _ _ st) | refine c_seq ?_ | refine c_region ?_ | refine l_do ?_ | refine l_nil ?_ | refine x_then ?_ | refine x_thenR ?_ | refine x_thenE ?_ | refine x_blkN ?_ | refine x_blkR ?_ | refine x_blkE ?_ | refine x_blkO rfl ?_ | refine wp_ret ?_ | refine wp_skip ?_ | refine wp_block ?_ | refine wp_exit ?_ | refine c_condT st rfl ?_ | refine c_condF st rfl ?_ | ((first | refine o_move st rfl rfl ?_ | refine o_assign st rfl rfl ?_ | refine o_loadS st rfl (by repeat constructor) rfl rfl ?_ | refine o_load3 st rfl (by repeat constructor) rfl ?_ | refine o_load2 st rfl (by repeat constructor) rfl ?_ | refine o_load4 st rfl (by repeat constructor) rfl ?_ | refine o_len st rfl rfl ?_ | refine o_add64 st rfl rfl rfl (by omega) (by omega) ?_ | refine o_notT st rfl rfl ?_ | refine o_notF st rfl rfl ?_); clear st; intro _ st) | ((first | refine o_lss st rfl rfl rfl ?_ ?_ | refine o_neqI st rfl rfl rfl ?_ ?_) <;> clear st <;> intro _ _ st <;> (try (exfalso; omega)))))
    exact ⟨vs.length - (k + 1), by omega, k + 1, by omega, rfl, (st.fit (by repeat (first | exact trivial | refine And.intro rfl ?_))).subL (by repeat (first | exact List.Sublist.refl _ | apply List.Sublist.cons_cons | apply List.Sublist.cons | exact List.nil_sublist _))⟩
  · obtain rfl : k = vs.length := by omega
    (repeat' (first | refine c_seq ?_ | refine c_region ?_ | refine l_do ?_ | refine l_nil ?_ | refine x_then ?_ | refine x_thenR ?_ | refine x_thenE ?_ | refine x_blkN ?_ | refine x_blkR ?_ | refine x_blkE ?_ | refine x_blkO rfl ?_ | refine wp_ret ?_ | refine wp_skip ?_ | refine wp_block ?_ | refine wp_exit ?_ | refine c_condT st rfl ?_ | refine c_condF st rfl ?_ | ((first | refine o_move st rfl rfl ?_ | refine o_assign st rfl rfl ?_ | refine o_loadS st rfl (by repeat constructor) rfl rfl ?_ | refine o_load3 st rfl (by repeat constructor) rfl ?_ | refine o_load2 st rfl (by repeat constructor) rfl ?_ | refine o_load4 st rfl (by repeat constructor) rfl ?_ | refine o_len st rfl rfl ?_ | refine o_add64 st rfl rfl rfl (by omega) (by omega) ?_ | refine o_notT st rfl rfl ?_ | refine o_notF st rfl rfl ?_); clear st; intro _ st) | ((first | refine o_lss st rfl rfl rfl ?_ ?_ | refine o_neqI st rfl rfl rfl ?_ ?_) <;> clear st <;> intro _ _ st <;> (try (exfalso; omega)))))
    refine post1 st Try.results56 (rd_t st rfl) ?_
    exact ⟨rfl, st.ex0⟩
theorem SameCurve_ok (c : List Kn) (hg : GC c) (v1 v2 : Value) (w : World) (h1 : CrV w c v1) (h2 : CrV w c v2) : CV Try.prog 15 [v1, v2] w (.bool true) := by
  have h8 := hg.hi
  obtain ⟨bp, cp, bw, cw, rfl, hp, hw⟩ := h1
  obtain ⟨bp', cp', bw', cw', rfl, hp', hw'⟩ := h2
  have c1 := fun w hr1 hr2 => EqualP_ok (c.map vPt) (by
    intro v hv w
    obtain ⟨k, hk, rfl⟩ := List.mem_map.1 hv
    exact SameComplex_ok (k.1, k.2.1) (hg.pt k hk).1.is (hg.pt k hk).2.is w) bp bp' cp cp' (by rw [List.length_map]; omega) w hr1 hr2
  have c2 := fun w hr1 hr2 => EqualW_ok (c.map vWt) (by
    intro v hv w
    obtain ⟨k, hk, rfl⟩ := List.mem_map.1 hv
    exact SameNumber_ok k.2.2 (hg.wt k hk).gd.is w) bw bw' cw cw' (by rw [List.length_map]; omega) w hr1 hr2
  rw [List.length_map] at c1 c2
  refine enter Try.func15 rfl rfl rfl rfl ?_
  intro a st
  (repeat' (first | (refine o_callV st rfl (c1 _ (hp.mono st.below) (hp'.mono st.below)) rfl ?_; clear st; intro _ _ st) | (refine o_callV st rfl (c2 _ (hw.mono st.below) (hw'.mono st.below)) rfl ?_; clear st; intro _ _ st) | refine c_seq ?_ | refine c_region ?_ | refine l_do ?_ | refine l_doG st rfl rfl ?_ | ((first | refine l_skipU st rfl rfl rfl ?_ | refine l_skip st rfl rfl rfl rfl ?_); clear st; intro _ st) | refine l_nil ?_ | refine x_then ?_ | refine x_thenR ?_ | refine x_thenE ?_ | refine wp_ret ?_ | ((first | refine o_move st rfl rfl ?_ | refine o_assign st rfl rfl ?_ | refine o_pickT st rfl rfl rfl ?_ | refine o_pickF st rfl rfl rfl ?_); clear st; intro _ st) | ((first | refine o_boxA st rfl rfl ?_ | refine o_boxS st rfl rfl rfl ?_); clear st; intro _ _ _ st) | ((first | refine o_fieldAddr st rfl rfl ?_ | refine o_loadS st rfl (by repeat constructor) rfl rfl ?_ | refine o_load3 st rfl (by repeat constructor) rfl ?_ | refine o_load2 st rfl (by repeat constructor) rfl ?_ | refine o_load4 st rfl (by repeat constructor) rfl ?_); clear st; intro _ st)))
  refine post1 st Try.results15 (rd_t st rfl) ?_
  exact ⟨rfl, st.ex0⟩

/-! ## how far -/
/-- A number in other bits. -/
def cvW (s : FloatKind) (x : Nat) (k : FloatKind) : Option Nat := floatToFloatBits s x k
def longW (u v : Nat) : Option Nat :=
  (cvW .f32 u .f64).bind fun x => (cvW .f32 v .f64).bind fun y => (fop .mul .f64 (some x) (some x)).bind fun p => (fop .mul .f64 (some y) (some y)).bind fun q =>
  (fop .add .f64 (some p) (some q)).bind fun s => (rootW s).bind fun r => cvW .f64 r .f32
def farW (a b : Nat × Nat) : Option Nat :=
  (fop .sub .f32 (some a.1) (some b.1)).bind fun u => (fop .sub .f32 (some a.2) (some b.2)).bind fun v => (longW u v).bind fun l => cvW .f32 l .f64
theorem LongOf_ok (u v r : Nat) (h : longW u v = some r) (w : World) : CV Try.prog 53 [.complex .f32 u v] w (.float .f32 r) := by
  obtain ⟨x, hx, h⟩ := ob h
  obtain ⟨y, hy, h⟩ := ob h
  obtain ⟨p, hp, h⟩ := ob h
  obtain ⟨q, hq, h⟩ := ob h
  obtain ⟨s, hs, h⟩ := ob h
  obtain ⟨z, hz, h⟩ := ob h
  have c0 : ∀ w, CV Try.prog 111 [.complex .f32 u v] w (.tuple #[.float .f64 x, .float .f64 y]) := by
    intro w
    refine enter Try.func111 rfl rfl rfl rfl ?_
    intro a st
    (repeat' (first | (refine o_real st rfl rfl ?_; clear st; intro _ st) | (refine o_imag st rfl rfl ?_; clear st; intro _ st) | (refine o_fcvW st rfl hx rfl ?_; clear st; intro _ st) | (refine o_fcvW st rfl hy rfl ?_; clear st; intro _ st) | refine c_seq ?_ | refine c_region ?_ | refine l_do ?_ | refine l_nil ?_ | refine x_then ?_ | refine x_thenR ?_ | refine x_thenE ?_ | refine wp_ret ?_ | ((first | refine o_move st rfl rfl ?_ | refine o_assign st rfl rfl ?_ | refine o_fcv0 st rfl rfl ?_ | refine o_intFloat st rfl rfl ?_); clear st; intro _ st)))
    refine post2 st Try.results111 (rd_t st rfl) (rd_t st rfl) ?_
    exact ⟨rfl, st.ex0⟩
  have c1 : ∀ w, CV Try.prog 105 [.complex .f32 u v] w (.float .f64 s) := by
    intro w
    refine enter Try.func105 rfl rfl rfl rfl ?_
    intro a st
    (repeat' (first | (refine o_callV st rfl (c0 _) rfl ?_; clear st; intro _ _ st) | (refine o_fopK st rfl rfl hp rfl ?_; clear st; intro _ st) | (refine o_fopK st rfl rfl hq rfl ?_; clear st; intro _ st) | (refine o_fopK st rfl rfl hs rfl ?_; clear st; intro _ st) | refine c_seq ?_ | refine c_region ?_ | refine l_do ?_ | refine l_nil ?_ | refine x_then ?_ | refine x_thenR ?_ | refine x_thenE ?_ | refine wp_ret ?_ | ((first | refine o_move st rfl rfl ?_ | refine o_assign st rfl rfl ?_ | refine o_extract st rfl rfl rfl ?_); clear st; intro _ st) | (refine o_fop rfl st rfl rfl (by first | assumption | exact Is_ofInt _ _ | exact Is_lit (by decide +kernel)) (by first | assumption | exact Is_ofInt _ _ | exact Is_lit (by decide +kernel)) rfl ?_; clear st; intro _ _ _ _ st)))
    refine post1 st Try.results105 (rd_t st rfl) ?_
    exact ⟨rfl, st.ex0⟩
  refine enter Try.func53 rfl rfl rfl rfl ?_
  intro a st
  (repeat' (first | (refine o_callV st rfl (c1 _) rfl ?_; clear st; intro _ _ st) | (refine o_callV st rfl (Sqrt_ok _ _ hz _) rfl ?_; clear st; intro _ _ st) | (refine o_fcvW st rfl h rfl ?_; clear st; intro _ st) | refine c_seq ?_ | refine c_region ?_ | refine l_do ?_ | refine l_nil ?_ | refine x_then ?_ | refine x_thenR ?_ | refine x_thenE ?_ | refine wp_ret ?_ | ((first | refine o_move st rfl rfl ?_ | refine o_assign st rfl rfl ?_ | refine o_fcv0 st rfl rfl ?_ | refine o_intFloat st rfl rfl ?_); clear st; intro _ st)))
  refine post1 st Try.results53 (rd_t st rfl) ?_
  exact ⟨rfl, st.ex0⟩
theorem r8Far_ok (a b : Nat × Nat) (r : Nat) (h : farW a b = some r) (w : World) : CV Try.prog 14 [.complex .f32 a.1 a.2, .complex .f32 b.1 b.2] w (.float .f64 r) := by
  obtain ⟨u, hu, h⟩ := ob h
  obtain ⟨v, hv, h⟩ := ob h
  obtain ⟨l, hl, h⟩ := ob h
  have c1 := fun w => LongOf_ok u v l hl w
  refine enter Try.func14 rfl rfl rfl rfl ?_
  intro a st
  (repeat' (first | (refine o_callV st rfl (c1 _) rfl ?_; clear st; intro _ _ st) | (refine o_csub st rfl rfl hu hv rfl ?_; clear st; intro _ st) | (refine o_fcvW st rfl h rfl ?_; clear st; intro _ st) | refine c_seq ?_ | refine c_region ?_ | refine l_do ?_ | refine l_nil ?_ | refine x_then ?_ | refine x_thenR ?_ | refine x_thenE ?_ | refine wp_ret ?_ | ((first | refine o_move st rfl rfl ?_ | refine o_assign st rfl rfl ?_ | refine o_sub64 st rfl rfl rfl (by omega) (by omega) ?_ | refine o_fcv0 st rfl rfl ?_ | refine o_intFloat st rfl rfl ?_); clear st; intro _ st)))
  refine post1 st Try.results14 (rd_t st rfl) ?_
  exact ⟨rfl, st.ex0⟩
end Go.Proofs.Ytonbcbhnnflohaa
