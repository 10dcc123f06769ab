/-
  Contracts: dot, long, numbers given; roots.
-/
import Derived.Test.YtefnlalldgbcaaaG
import Derived.Test.YtefnlalldgbcaaaSq
import Derived.Laws.MakeOwn
namespace Go.Proofs.Ytefnlalldgbcaaa
open Go.RowKit
attribute [local irreducible] Code.wp wpList Oper.wp Calls bodyPost Exit.then Exit.inBlock

/-- A call that gives a number of this class. -/
def CF (P : Program) (f : FuncId) (vs : List Value) (w : World) (k : FloatKind) (c : Option Nat) : Prop := CR P f vs w fun v => ∃ b, v = .float k b ∧ Is k b c
def CFB (P : Program) (f : FuncId) (vs : List Value) (w : World) (k : FloatKind) (c : Option Nat) (ok : Bool) : Prop := CR P f vs w fun v => ∃ b, v = .tuple #[.float k b, .bool ok] ∧ Is k b c

section
variable {P : Program} {w0 w : World} {N : Nat} {a : Act} {E : List (Nat × Value)} {L Lh : List Ent} {K : Act → World → Prop} {Q : Exit → Act → World → Prop}
variable {d : Nat} {ty : TypeId} {pos : String} {aft : Array Edge} {g : Option (Nat × Bool)}
theorem o_callFl {f : FuncId} {args : List Operand} {tys : Array TypeId} {vs : List Value} {k : FloatKind} {c : Option Nat} [hf : FnT P f] (st : St w0 N a w E L) (ha : evs E args = some vs)
    (hc : CF P f vs w k c) (hd : Nat.blt d N = true) (h : ∀ b, Is k b c → ∀ a' w', St w0 N a' w' ((d, .float k b) :: E) L → K a' w') : Oper.wp P ⟨some d, .call { callee := .value (.func f), args := args.toArray, argTypes := tys }, ty, pos, aft, g⟩ a w K Q :=
  o_callR st ha hc hd fun v ⟨b, hv, hb⟩ => by subst hv; exact h b hb
theorem o_callFlB {f : FuncId} {args : List Operand} {tys : Array TypeId} {vs : List Value} {k : FloatKind} {c : Option Nat} {ok : Bool} [hf : FnT P f] (st : St w0 N a w E L) (ha : evs E args = some vs)
    (hc : CFB P f vs w k c ok) (hd : Nat.blt d N = true) (h : ∀ b, Is k b c → ∀ a' w', St w0 N a' w' ((d, .tuple #[.float k b, .bool ok]) :: E) L → K a' w') : Oper.wp P ⟨some d, .call { callee := .value (.func f), args := args.toArray, argTypes := tys }, ty, pos, aft, g⟩ a w K Q :=
  o_callR st ha hc hd fun v ⟨b, hv, hb⟩ => by subst hv; exact h b hb
/-- A call of a function without a body that may draw. -/
theorem o_extN {f : FuncId} {args : List Operand} {tys : Array TypeId} {vs : List Value} {v : Value} {n : Nat} (st : St w0 N a w E L) (ha : evs E args = some vs)
    (hc : (callFunc f vs.toArray).run P w = .ok (.value v) (w.drewN n)) (hd : Nat.blt d N = true) (h : ∀ a' w', St w0 N a' w' ((d, v) :: E) L → K a' w') : Oper.wp P ⟨some d, .call { callee := .value (.func f), args := args.toArray, argTypes := tys }, ty, pos, aft, g⟩ a w K Q := by
  refine o_val (v := v) (w' := w.drewN n) ?_ (h _ _ ((st.drewN n).put d hd _))
  simp [execOp, resolve, invoke, Deferred.ofValue, Act.eval, evs_map st ha, hc]
end

theorem ext_sqrt (x : Nat) (c : Option Nat) (hx : Is .f64 x c) (w : World) : ∃ r n, (callFunc 196 [.float .f64 x].toArray).run Try.prog w = .ok (.value (.float .f64 r)) (w.drewN n) ∧ Is .f64 r (sqrtC c) := by
  rw [run_callFunc_extern (fn := Try.f196) (e := Extern.MathSqrt.sqrt) Try.func196 (by kernel_rfl) (by kernel_rfl) (by kernel_rfl) (by kernel_rfl)]
  have hd : Extern.MathSqrt.sqrt [.float .f64 x].toArray = (match FloatKind.f64.format.sqrt x with
    | some r => pure (.float .f64 r)
    | none => do pure (.float .f64 (← choose (.nanBits .f64 x x)))) := rfl
  rw [← hx.2, sqrtC_cl, hd]
  cases hs : FloatKind.f64.format.sqrt x with
  | some r => exact ⟨r, 0, rfl, FloatKind.f64.format.sqrt_lt hs, sqrt_not_nan hs⟩
  | none =>
    obtain ⟨r, hr, hn⟩ := run_nanBits (P := Try.prog) w .f64 x x
    exact ⟨r, 1, by simp only [Sem.run_bind, hr, Result.andThen_ok, Sem.run_pure], hn⟩

set_option maxRecDepth 10000 in
theorem Sqrt_ok (x : Nat) (c : Option Nat) (hx : Is .f64 x c) (w : World) : CF Try.prog 194 [.float .f64 x] w .f64 (sqrtC c) := by
  refine enter Try.func194 rfl rfl rfl rfl ?_
  intro a st
  obtain ⟨r, n, he, hr⟩ : ∃ r n, (callFunc 196 [.float .f64 x].toArray).run Try.prog w = .ok (.value (.float .f64 r)) (w.drewN n) ∧ Is .f64 r (sqrtC c) := ext_sqrt x c hx w
  (repeat' (first | (refine o_extN st rfl he rfl ?_; clear st; intro _ _ st)  | refine c_seq ?_  | refine c_region ?_  | refine l_do ?_  | refine l_nil ?_  | refine x_then ?_  | refine wp_ret ?_  | ((first | refine o_move st rfl rfl ?_  | refine o_assign st rfl rfl ?_); clear st; intro _ st)))
  refine post1 st Try.results194 (rd_t st rfl) ?_
  exact ⟨_, rfl, ⟨r, rfl, hr⟩, st.ex0⟩

/-- The class of a root in float32. -/
def rootC (c : Option Nat) : Option Nat := fcv .f64 .f32 (sqrtC (fcv .f32 .f64 c))

theorem RootNumber_ok (x : Nat) (c : Option Nat) (hx : Is .f32 x c) (w : World) : CF Try.prog 182 [.float .f32 x] w .f32 (rootC c) := by
  refine enter Try.func182 rfl rfl rfl rfl ?_
  intro a st
  (repeat' (first | (refine o_callFl st rfl (Sqrt_ok _ _ (by first | assumption | exact Is_ofInt _ _ | exact Is_lit (by decide +kernel)) _) rfl ?_; clear st; intro _ _ _ _ st)  | (refine o_fcv (by decide) st rfl (by first | assumption | exact Is_ofInt _ _ | exact Is_lit (by decide +kernel)) (fits_root hx) rfl ?_; clear st; intro _ _ _ _ st)  | (refine o_fcv (by decide) st rfl (by first | assumption | exact Is_ofInt _ _ | exact Is_lit (by decide +kernel)) (fits_widen (by first | assumption | exact Is_ofInt _ _ | exact Is_lit (by decide +kernel))) rfl ?_; clear st; intro _ _ _ _ st)  | refine c_seq ?_  | refine c_region ?_  | refine l_do ?_  | refine l_nil ?_  | refine x_then ?_  | refine wp_ret ?_  | ((first | refine o_move st rfl rfl ?_  | refine o_assign st rfl rfl ?_ ); clear st; intro _ st)))
  refine post1 st Try.results182 (rd_t st rfl) ?_
  exact ⟨_, rfl, ⟨_, rfl, by assumption⟩, st.ex0⟩

/-- The class of a dot product. -/
def dotC (s t : S3) : Option Nat := fop .add .f32 (fop .add .f32 (fop .mul .f32 s.1 t.1) (fop .mul .f32 s.2.1 t.2.1)) (fop .mul .f32 s.2.2 t.2.2)

set_option maxHeartbeats 4000000 in
theorem dot_ok (b b' : B3) (s s' : S3) (h : IsS b s) (h' : IsS b' s') (w : World) : CF Try.prog 161 [vS b, vS b'] w .f32 (dotC s s') := by
  obtain ⟨x, y, z⟩ := b
  obtain ⟨c1, c2, c3⟩ := s
  obtain ⟨h1, h2, h3⟩ := h
  obtain ⟨x', y', z'⟩ := b'
  obtain ⟨d1, d2, d3⟩ := s'
  obtain ⟨h4, h5, h6⟩ := h'
  refine enter Try.func161 rfl rfl rfl rfl ?_
  intro a st
  (repeat' (first | refine c_seq ?_  | refine c_region ?_  | refine l_do ?_  | refine l_nil ?_  | refine x_then ?_  | refine wp_ret ?_  | (refine o_assign st rfl rfl ?_; clear st; intro _ st)  | ((first | refine o_boxA st rfl rfl ?_ ); clear st; intro _ _ _ st)  | ((first | refine o_fieldAddr st rfl rfl ?_  | refine o_loadS st rfl (by repeat constructor) rfl rfl ?_ ); clear st; intro _ st)  | (refine o_fop rfl st rfl rfl (by first | assumption | exact Is_ofInt _ _ | exact Is_lit (by decide +kernel)) (by first | assumption | exact Is_ofInt _ _ | exact Is_lit (by decide +kernel)) rfl ?_; clear st; intro _ _ _ _ st)))
  refine post1 st Try.results161 (rd_t st rfl) ?_
  exact ⟨_, rfl, ⟨_, rfl, by assumption⟩, st.ex0⟩

theorem long_ok (b : B3) (s : S3) (h : IsS b s) (w : World) : CF Try.prog 133 [vS b] w .f32 (rootC (dotC s s)) := by
  refine enter Try.func133 rfl rfl rfl rfl ?_
  intro a st
  (repeat' (first | (refine o_callFl st rfl (dot_ok b b s s h h _) rfl ?_; clear st; intro _ _ _ _ st)  | (refine o_callFl st rfl (RootNumber_ok _ _ (by first | assumption | exact Is_ofInt _ _ | exact Is_lit (by decide +kernel)) _) rfl ?_; clear st; intro _ _ _ _ st)  | refine c_seq ?_  | refine c_region ?_  | refine l_do ?_  | refine l_nil ?_  | refine x_then ?_  | refine wp_ret ?_  | (refine o_assign st rfl rfl ?_; clear st; intro _ st)  | ((first | refine o_boxA st rfl rfl ?_ ); clear st; intro _ _ _ st)  | ((first | refine o_load3 st rfl (by repeat constructor) rfl ?_ ); clear st; intro _ st)))
  refine post1 st Try.results133 (rd_t st rfl) ?_
  exact ⟨_, rfl, ⟨_, rfl, by assumption⟩, st.ex0⟩

/-- A number that is given. -/
def giveC (c : Option Nat) : Option Nat := bif finC c then c else some 0

theorem ifNumber_ok (x : Nat) (c : Option Nat) (hx : Is .f32 x c) (w : World) : CFB Try.prog 132 [.float .f32 x] w .f32 (giveC c) (finC c) := by
  refine enter Try.func132 rfl rfl rfl rfl ?_
  intro a st
  (repeat' (first | (refine o_callB st rfl (IsFinite_ok _ _ hx _) rfl ?_ ?_ <;> clear st <;> intro _ _ _ st)  | refine c_seq ?_  | refine c_region ?_  | refine l_do ?_  | refine l_nil ?_  | refine x_then ?_  | refine x_thenR ?_  | refine wp_ret ?_  | refine wp_skip ?_  | refine c_condT st rfl ?_  | refine c_condF st rfl ?_  | ((first | refine o_move st rfl rfl ?_  | refine o_assign st rfl rfl ?_  | refine o_notT st rfl rfl ?_  | refine o_notF st rfl rfl ?_); clear st; intro _ st)))
  · have hf : finC c = true := by assumption
    refine post2 st Try.results132 (rd_t st rfl) (rd_t st rfl) ?_
    exact ⟨_, rfl, ⟨_, by rw [hf], by simpa [giveC, hf] using hx⟩, st.ex0⟩
  · have hf : finC c = false := by assumption
    refine post2 st Try.results132 (rd_t st rfl) (rd_t st rfl) ?_
    exact ⟨_, rfl, ⟨_, by rw [hf], by simpa [giveC, hf] using Is_z⟩, st.ex0⟩

def longC (s : S3) : Option Nat := bif finS s then giveC (rootC (dotC s s)) else some 0
def longOk (s : S3) : Bool := finS s && finC (rootC (dotC s s))

theorem implLong_ok (b : B3) (s : S3) (h : IsS b s) (w : World) : CFB Try.prog 62 [vS b] w .f32 (longC s) (longOk s) := by
  refine enter Try.func62 rfl rfl rfl rfl ?_
  intro a st
  (repeat' (first | (refine o_callB st rfl (implIsSpot_ok b s h _) rfl ?_ ?_ <;> clear st <;> intro _ _ _ st)  | (refine o_callFl st rfl (long_ok b s h _) rfl ?_; clear st; intro _ _ _ _ st)  | (refine o_callFlB st rfl (ifNumber_ok _ _ (by first | assumption | exact Is_ofInt _ _ | exact Is_lit (by decide +kernel)) _) rfl ?_; clear st; intro _ _ _ _ st)  | refine c_seq ?_  | refine c_region ?_  | refine l_do ?_  | refine l_nil ?_  | refine x_then ?_  | refine x_thenR ?_  | refine wp_ret ?_  | refine wp_skip ?_  | refine c_condT st rfl ?_  | refine c_condF st rfl ?_  | (refine o_assign st rfl rfl ?_; clear st; intro _ st)  | ((first | refine o_boxA st rfl rfl ?_ ); clear st; intro _ _ _ st)  | ((first | refine o_load3 st rfl (by repeat constructor) rfl ?_  | refine o_extract st rfl rfl rfl ?_  | refine o_notT st rfl rfl ?_  | refine o_notF st rfl rfl ?_); clear st; intro _ st)))
  · have hf : finS s = true := by assumption
    refine post2 st Try.results62 (rd_t st rfl) (rd_t st rfl) ?_
    exact ⟨_, rfl, ⟨_, by rw [longOk, hf]; rfl, by rw [longC, hf]; assumption⟩, st.ex0⟩
  · have hf : finS s = false := by assumption
    refine post2 st Try.results62 (rd_t st rfl) (rd_t st rfl) ?_
    exact ⟨_, rfl, ⟨_, by rw [longOk, hf]; rfl, by simpa [longC, hf] using Is_z⟩, st.ex0⟩
end Go.Proofs.Ytefnlalldgbcaaa

namespace Go.Proofs.Ytefnlalldgbcaaa
open Go.RowKit

section
variable {P : Program} {w0 w : World} {N : Nat} {a : Act} {E : List (Nat × Value)} {L Lh : List Ent} {K : Act → World → Prop} {Q : Exit → Act → World → Prop}
variable {ops : Array Oper} {fuel last : Nat} {listed : Array Bool}
variable {d : Nat} {ty : TypeId} {pos : String} {aft : Array Edge} {g : Option (Nat × Bool)}

/-! ## guarded, drawn -/
theorem h_valG {i d j dj : Nat} {b : Bool} {op : Op} {ty : TypeId} {pos : String} {aft : Array Edge} {v : Value} (st : St w0 N a w E L) (hs : List.Sublist Lh L) (hl : waitsAll ops last = true) (hns : Region.noSelect ops = true)
    (hi : ops[i]? = some ⟨some d, op, ty, pos, aft, some (j, b)⟩) (hf : (Region.free .any ops listed i && (Region.ready .any ops listed).contains i) = true) (hd : Nat.blt d N = true)
    (hj : (ops[j]?).bind (·.dst) = some dj) (hg : lk E dj = some (.bool b)) (hv : Vl P a Lh op v)
    (h : ∀ a', St w0 N a' w ((d, v) :: E) L → AnyT P ops (NoPanic Q) (Held Lh) last fuel (listed.setIfInBounds i true) a' w) : AnyT P ops (NoPanic Q) (Held Lh) last (fuel + 1) listed a w := by
  simp only [Bool.and_eq_true] at hf
  refine T_first hl hi (Region.noSelect_spec hns) (fun _ _ _ h => h) fuel listed a w (Region.free_spec hi hf.1) (by simpa using hf.2) (.inl ⟨?_, ?_⟩) (st.held hs) (h _ (st.put d hd v))
  · rw [wanted_of (st := st) hj hg]; simp
  · intro w' hw'
    exact hv d ty pos aft _ w' hw'

/-- Just one operation may come up, guarded and wanted. -/
theorem h_oneG {i j dj : Nat} {b : Bool} {dd : Option Tmp} {op : Op} {ty : TypeId} {pos : String} {aft : Array Edge} (hr : decide (Region.ready .any ops listed = [i]) = true) (hi : ops[i]? = some ⟨dd, op, ty, pos, aft, some (j, b)⟩) (st : St w0 N a w E L)
    (hj : (ops[j]?).bind (·.dst) = some dj) (hg : lk E dj = some (.bool b))
    (h : Oper.wp P ⟨dd, op, ty, pos, aft, some (j, b)⟩ a w (fun a' w' => (i = last ∨ Held Lh w') ∧ AnyT P ops (NoPanic Q) (Held Lh) last fuel (listed.setIfInBounds i true) a' w') (NoPanic Q)) : AnyT P ops (NoPanic Q) (Held Lh) last (fuel + 1) listed a w := by
  have hr' := of_decide_eq_true hr
  refine ⟨fun h0 => (by rw [hr'] at h0; cases h0), ?_⟩
  rw [hr']
  intro k hk
  simp at hk
  subst hk
  unfold wpOp
  simp only [hi]
  rw [if_pos (by rw [wanted_of (st := st) hj hg]; simp)]
  exact .inl h

theorem d_g {d j dj : Nat} {b : Bool} {op : Op} {ty : TypeId} {pos : String} {aft : Array Edge} {v : Value} (i : Nat) (st : St w0 N a w E L) (hs : SL Lh L)
    (hi : ops[i]? = some ⟨some d, op, ty, pos, aft, some (j, b)⟩) (hf : (Region.free .any ops listed i && (Region.ready .any ops listed).contains i) = true) (hd : Nat.blt d N = true)
    (hj : (ops[j]?).bind (·.dst) = some dj) (hg : lk E dj = some (.bool b)) (hv : Vl P a Lh op v)
    (h : ∀ a', St w0 N a' w ((d, v) :: E) L → AnyV P ops (NoPanic Q) (Held Lh) last fuel (listed.setIfInBounds i true) a' w) : AnyV P ops (NoPanic Q) (Held Lh) last (fuel + 1) listed a w :=
  fun hl hns => h_valG st hs.sub hl hns hi hf hd hj hg hv fun a' st => h a' st hl hns
theorem d_oneG {j dj : Nat} {b : Bool} {dd : Option Tmp} {op : Op} {ty : TypeId} {pos : String} {aft : Array Edge} (i : Nat) (hr : decide (Region.ready .any ops listed = [i]) = true) (hi : ops[i]? = some ⟨dd, op, ty, pos, aft, some (j, b)⟩) (st : St w0 N a w E L)
    (hj : (ops[j]?).bind (·.dst) = some dj) (hg : lk E dj = some (.bool b))
    (h : Oper.wp P ⟨dd, op, ty, pos, aft, some (j, b)⟩ a w (fun a' w' => (i = last ∨ Held Lh w') ∧ AnyV P ops (NoPanic Q) (Held Lh) last fuel (listed.setIfInBounds i true) a' w') (NoPanic Q)) : AnyV P ops (NoPanic Q) (Held Lh) last (fuel + 1) listed a w :=
  fun hl hns => h_oneG hr hi st hj hg (Oper.wp_mono (fun _ _ h => k_mono h fun f => f hl hns) h)

theorem v_pickT {c x y : Operand} {v : Value} (st : St w0 N a w E L) (hc : evE E c = some (.bool true)) (hx : evE E x = some v) : Vl P a Lh (.pick c x y) v := by
  intro d ty pos aft g w' _
  simp [execOp, evE_eval st hc, evE_eval st hx, asBool]
theorem v_pickF {c x y : Operand} {v : Value} (st : St w0 N a w E L) (hc : evE E c = some (.bool false)) (hy : evE E y = some v) : Vl P a Lh (.pick c x y) v := by
  intro d ty pos aft g w' _
  simp [execOp, evE_eval st hc, evE_eval st hy, asBool]
theorem v_nilCheck {x : Operand} {ad : Addr} (st : St w0 N a w E L) (hx : evE E x = some (.pointer (some ad))) : Vl P a Lh (.nilCheck x) (.pointer (some ad)) := by
  intro d ty pos aft g w' _
  simp [execOp, evE_eval st hx]

/-! ## plain -/
theorem o_mulW {x y : Operand} {t ys : TypeId} {k : IntKind} {i j : Int} (st : St w0 N a w E L) (hx : evE E x = some (.int k i)) (hy : evE E y = some (.int k j)) (hd : Nat.blt d N = true)
    (h : ∀ a', St w0 N a' w ((d, .int k (k.wrap (i * j))) :: E) L → K a' w) : Oper.wp P ⟨some d, .binOp .mul t x y ys, ty, pos, aft, g⟩ a w K Q :=
  o_val (v := .int k (k.wrap (i * j))) (w' := w) (by simp [execOp, evE_eval st hx, evE_eval st hy, binOp_mul, Op.intArith, eqGuard_mul]) (h _ (st.put d hd _))
theorem o_nilCheck {x : Operand} {ad : Addr} (st : St w0 N a w E L) (hx : evE E x = some (.pointer (some ad))) (hd : Nat.blt d N = true)
    (h : ∀ a', St w0 N a' w ((d, .pointer (some ad)) :: E) L → K a' w) : Oper.wp P ⟨some d, .nilCheck x, ty, pos, aft, g⟩ a w K Q :=
  o_val (v := .pointer (some ad)) (w' := w) (by simp [execOp, evE_eval st hx]) (h _ (st.put d hd _))

/-- A call that gives one new block. -/
def CM1 (P : Program) (f : FuncId) (vs : List Value) (w : World) (R : Value → Nat → Obj → Prop) : Prop := Calls P f vs.toArray w fun e w' => ∃ v b o, e = .returned v ∧ R v b o ∧ Ex w w' [⟨b, true, o⟩]
theorem o_callM1 {f : FuncId} {args : List Operand} {tys : Array TypeId} {vs : List Value} {R : Value → Nat → Obj → Prop} [hf : FnT P f] (st : St w0 N a w E L) (ha : evs E args = some vs)
    (hc : CM1 P f vs w R) (hd : Nat.blt d N = true) (h : ∀ v b o, R v b o → ∀ a' w', St w0 N a' w' ((d, v) :: E) (⟨b, true, o⟩ :: L) → K a' w') : Oper.wp P ⟨some d, .call { callee := .value (.func f), args := args.toArray, argTypes := tys }, ty, pos, aft, g⟩ a w K Q :=
  o_call st ha hc fun _ _ ⟨v, b, o, he, hR, hx⟩ => ⟨v, he, h v b o hR _ _ ((st.ext1 hx).put d hd _)⟩
end
end Go.Proofs.Ytefnlalldgbcaaa

namespace Go.Proofs.Ytefnlalldgbcaaa
open Go.RowKit
attribute [local irreducible] Code.wp wpList Oper.wp Calls bodyPost Exit.then Exit.inBlock

def inB (i lo hi : Int) : Bool := decide (lo ≤ i) && decide (i ≤ hi)

theorem within_ok (i lo hi : Int) (w : World) : CV Try.prog 146 [.int .i64 i, .int .i64 lo, .int .i64 hi] w (.bool (inB i lo hi)) := by
  refine enter Try.func146 rfl rfl rfl rfl ?_
  intro a st
  (repeat' (first | refine c_seq ?_  | refine c_region ?_  | refine l_do ?_  | refine l_doG st rfl rfl ?_  | ((first | refine l_skip st rfl rfl rfl rfl ?_); clear st; intro _ st)  | refine l_nil ?_  | refine x_then ?_  | refine wp_ret ?_  | ((first | refine o_move st rfl rfl ?_  | refine o_assign st rfl rfl ?_  | refine o_pickT st rfl rfl rfl ?_  | refine o_pickF st rfl rfl rfl ?_); clear st; intro _ st)  | ((first | refine o_leq st rfl rfl rfl ?_ ?_  | refine o_geq st rfl rfl rfl ?_ ?_) <;> clear st <;> intro _ _ st <;> (try (exfalso; omega)))))
  all_goals
    refine post1 st Try.results146 (rd_t st rfl) ?_
    exact ⟨by simp [inB]; omega, st.ex0⟩
theorem isAcross_ok (m : Int) (w : World) : CV Try.prog 114 [.int .i64 m] w (.bool (inB m 2 6)) := by
  refine enter Try.func114 rfl rfl rfl rfl ?_
  intro a st
  (repeat' (first | (refine o_callV st rfl (within_ok _ _ _ _) rfl ?_; clear st; intro _ _ st)  | refine c_seq ?_  | refine c_region ?_  | refine l_do ?_  | refine l_nil ?_  | refine x_then ?_  | refine wp_ret ?_  | ((first | refine o_move st rfl rfl ?_  | refine o_assign st rfl rfl ?_); clear st; intro _ st)))
  all_goals
    refine post1 st Try.results114 (rd_t st rfl) ?_
    exact ⟨rfl, st.ex0⟩

/-- A sheet's value. -/
def vSh (m n : Int) (base : Option Addr) (len cap : Nat) : Value := .agg [.int .i64 m, .int .i64 n, .slice base len cap].toArray

end Go.Proofs.Ytefnlalldgbcaaa
