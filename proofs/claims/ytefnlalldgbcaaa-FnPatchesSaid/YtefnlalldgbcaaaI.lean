/-
  Rules: guarded operations of drawn regions, nil checks, products, made slices, calls that give one new block.
-/
import Derived.Test.YtefnlalldgbcaaaH
import Derived.Laws.MakeOwn
namespace Go.Proofs.Ytefnlalldgbcaaa
open Go.RowKit

section
variable {P : Program} {w0 w : World} {N : Nat} {a : Act} {E : List (Nat × Value)} {L Lh : List Ent} {K : Act → World → Prop} {Q : Exit → Act → World → Prop}
variable {ops : Array Oper} {fuel last : Nat} {listed : Array Bool}
variable {d : Nat} {ty : TypeId} {pos : String} {aft : Array Edge} {g : Option (Nat × Bool)}

/-! ## guarded, drawn -/
theorem h_valG {i d j dj : Nat} {b : Bool} {op : Op} {ty : TypeId} {pos : String} {aft : Array Edge} {v : Value} (st : St w0 N a w E L) (hs : List.Sublist Lh L) (hl : waitsAll ops last = true) (hns : Region.noSelect ops = true)
    (hi : ops[i]? = some ⟨some d, op, ty, pos, aft, some (j, b)⟩) (hf : (Region.free .any ops listed i && (Region.ready .any ops listed).contains i) = true) (hd : Nat.blt d N = true)
    (hj : (ops[j]?).bind (·.dst) = some dj) (hg : lk E dj = some (.bool b)) (hv : Vl P a Lh op v)
    (h : ∀ a', St w0 N a' w ((d, v) :: E) L → AnyT P ops (NoPanic Q) (Held Lh) last fuel (listed.setIfInBounds i true) a' w) : AnyT P ops (NoPanic Q) (Held Lh) last (fuel + 1) listed a w := by
  simp only [Bool.and_eq_true] at hf
  refine T_first hl hi (Region.noSelect_spec hns) (fun _ _ _ h => h) fuel listed a w (Region.free_spec hi hf.1) (by simpa using hf.2) (.inl ⟨?_, ?_⟩) (st.held hs) (h _ (st.put d hd v))
  · rw [wanted_of (st := st) hj hg]; simp
  · intro w' hw'
    exact hv d ty pos aft _ w' hw'

/-- Just one operation may come up, guarded and wanted. -/
theorem h_oneG {i j dj : Nat} {b : Bool} {dd : Option Tmp} {op : Op} {ty : TypeId} {pos : String} {aft : Array Edge} (hr : decide (Region.ready .any ops listed = [i]) = true) (hi : ops[i]? = some ⟨dd, op, ty, pos, aft, some (j, b)⟩) (st : St w0 N a w E L)
    (hj : (ops[j]?).bind (·.dst) = some dj) (hg : lk E dj = some (.bool b))
    (h : Oper.wp P ⟨dd, op, ty, pos, aft, some (j, b)⟩ a w (fun a' w' => (i = last ∨ Held Lh w') ∧ AnyT P ops (NoPanic Q) (Held Lh) last fuel (listed.setIfInBounds i true) a' w') (NoPanic Q)) : AnyT P ops (NoPanic Q) (Held Lh) last (fuel + 1) listed a w := by
  have hr' := of_decide_eq_true hr
  refine ⟨fun h0 => (by rw [hr'] at h0; cases h0), ?_⟩
  rw [hr']
  intro k hk
  simp at hk
  subst hk
  unfold wpOp
  simp only [hi]
  rw [if_pos (by rw [wanted_of (st := st) hj hg]; simp)]
  exact .inl h

theorem d_g {d j dj : Nat} {b : Bool} {op : Op} {ty : TypeId} {pos : String} {aft : Array Edge} {v : Value} (i : Nat) (st : St w0 N a w E L) (hs : SL Lh L)
    (hi : ops[i]? = some ⟨some d, op, ty, pos, aft, some (j, b)⟩) (hf : (Region.free .any ops listed i && (Region.ready .any ops listed).contains i) = true) (hd : Nat.blt d N = true)
    (hj : (ops[j]?).bind (·.dst) = some dj) (hg : lk E dj = some (.bool b)) (hv : Vl P a Lh op v)
    (h : ∀ a', St w0 N a' w ((d, v) :: E) L → AnyV P ops (NoPanic Q) (Held Lh) last fuel (listed.setIfInBounds i true) a' w) : AnyV P ops (NoPanic Q) (Held Lh) last (fuel + 1) listed a w :=
  fun hl hns => h_valG st hs.sub hl hns hi hf hd hj hg hv fun a' st => h a' st hl hns
theorem d_oneG {j dj : Nat} {b : Bool} {dd : Option Tmp} {op : Op} {ty : TypeId} {pos : String} {aft : Array Edge} (i : Nat) (hr : decide (Region.ready .any ops listed = [i]) = true) (hi : ops[i]? = some ⟨dd, op, ty, pos, aft, some (j, b)⟩) (st : St w0 N a w E L)
    (hj : (ops[j]?).bind (·.dst) = some dj) (hg : lk E dj = some (.bool b))
    (h : Oper.wp P ⟨dd, op, ty, pos, aft, some (j, b)⟩ a w (fun a' w' => (i = last ∨ Held Lh w') ∧ AnyV P ops (NoPanic Q) (Held Lh) last fuel (listed.setIfInBounds i true) a' w') (NoPanic Q)) : AnyV P ops (NoPanic Q) (Held Lh) last (fuel + 1) listed a w :=
  fun hl hns => h_oneG hr hi st hj hg (Oper.wp_mono (fun _ _ h => k_mono h fun f => f hl hns) h)

theorem v_pickT {c x y : Operand} {v : Value} (st : St w0 N a w E L) (hc : evE E c = some (.bool true)) (hx : evE E x = some v) : Vl P a Lh (.pick c x y) v := by
  intro d ty pos aft g w' _
  simp [execOp, evE_eval st hc, evE_eval st hx, asBool]
theorem v_eqlI {x y : Operand} {t ys : TypeId} {k : IntKind} {i j : Int} {r : Bool} (st : St w0 N a w E L) (hx : evE E x = some (.int k i)) (hy : evE E y = some (.int k j)) (hr : (i == j) = r) : Vl P a Lh (.binOp .eql t x y ys) (.bool r) := by
  subst hr
  intro d ty pos aft g w' _
  simp [execOp, evE_eval st hx, evE_eval st hy, binOp_eql, eqGuard_at_int]
theorem v_mulW {x y : Operand} {t ys : TypeId} {k : IntKind} {i j : Int} (st : St w0 N a w E L) (hx : evE E x = some (.int k i)) (hy : evE E y = some (.int k j)) : Vl P a Lh (.binOp .mul t x y ys) (.int k (k.wrap (i * j))) := by
  intro d ty pos aft g w' _
  simp [execOp, evE_eval st hx, evE_eval st hy, binOp_mul, Op.intArith, eqGuard_mul]
theorem v_nilCheck {x : Operand} {ad : Addr} (st : St w0 N a w E L) (hx : evE E x = some (.pointer (some ad))) : Vl P a Lh (.nilCheck x) (.pointer (some ad)) := by
  intro d ty pos aft g w' _
  simp [execOp, evE_eval st hx]

/-! ## plain -/
theorem o_mulW {x y : Operand} {t ys : TypeId} {k : IntKind} {i j : Int} (st : St w0 N a w E L) (hx : evE E x = some (.int k i)) (hy : evE E y = some (.int k j)) (hd : Nat.blt d N = true)
    (h : ∀ a', St w0 N a' w ((d, .int k (k.wrap (i * j))) :: E) L → K a' w) : Oper.wp P ⟨some d, .binOp .mul t x y ys, ty, pos, aft, g⟩ a w K Q :=
  o_val (v := .int k (k.wrap (i * j))) (w' := w) (by simp [execOp, evE_eval st hx, evE_eval st hy, binOp_mul, Op.intArith, eqGuard_mul]) (h _ (st.put d hd _))
theorem o_nilCheck {x : Operand} {ad : Addr} (st : St w0 N a w E L) (hx : evE E x = some (.pointer (some ad))) (hd : Nat.blt d N = true)
    (h : ∀ a', St w0 N a' w ((d, .pointer (some ad)) :: E) L → K a' w) : Oper.wp P ⟨some d, .nilCheck x, ty, pos, aft, g⟩ a w K Q :=
  o_val (v := .pointer (some ad)) (w' := w) (by simp [execOp, evE_eval st hx]) (h _ (st.put d hd _))

/-- A call that gives one new block. -/
def CM1 (P : Program) (f : FuncId) (vs : List Value) (w : World) (R : Value → Nat → Obj → Prop) : Prop := Calls P f vs.toArray w fun e w' => ∃ v b o, e = .returned v ∧ R v b o ∧ Ex w w' [⟨b, true, o⟩]
theorem o_callM1 {f : FuncId} {args : List Operand} {tys : Array TypeId} {vs : List Value} {R : Value → Nat → Obj → Prop} [hf : FnT P f] (st : St w0 N a w E L) (ha : evs E args = some vs)
    (hc : CM1 P f vs w R) (hd : Nat.blt d N = true) (h : ∀ v b o, R v b o → ∀ a' w', St w0 N a' w' ((d, v) :: E) (⟨b, true, o⟩ :: L) → K a' w') : Oper.wp P ⟨some d, .call { callee := .value (.func f), args := args.toArray, argTypes := tys }, ty, pos, aft, g⟩ a w K Q :=
  o_call st ha hc fun _ _ ⟨v, b, o, he, hR, hx⟩ => ⟨v, he, h v b o hR _ _ ((st.ext1 hx).put d hd _)⟩
end
end Go.Proofs.Ytefnlalldgbcaaa
