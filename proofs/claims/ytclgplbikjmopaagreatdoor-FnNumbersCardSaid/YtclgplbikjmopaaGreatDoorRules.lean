/-
  The engine's rules: one for each operation, over a frame and a memory that are variables.
-/
import Derived.Test.YtclgplbikjmopaaGreatDoorEng
import Derived.Test.YtclgplbikjmopaaGreatDoorFl
namespace Go.Proofs.YtclgplbikjmopaaGreatDoor
open Go.RowKit

/-! ## facts of the types, as classes -/
class AggT (P : Program) (t : TypeId) (n : outParam Nat) : Prop where
  agg : ∀ w, (isAgg t).run P w = .ok true w
  size : ∀ w, (sizeOf t).run P w = .ok n w
class ScaT (P : Program) (t : TypeId) : Prop where
  agg : ∀ w, (isAgg t).run P w = .ok false w
  size : ∀ w, (sizeOf t).run P w = .ok 1 w
class ZeroT (P : Program) (t : TypeId) (cs : outParam (List Value)) : Prop where
  zero : ∃ v, (∀ w, (zeroValue t).run P w = .ok v w) ∧ v.cells = cs.toArray
class FieldT (P : Program) (t : TypeId) (f : Nat) (off : outParam Nat) : Prop where
  at_ : ∀ b o w, (Instr.fieldAt t (.pointer (some ⟨b, o, none⟩)) f).run P w = .ok (.pointer (some ⟨b, o + off, none⟩)) w
  val : ∀ cs v w, cs[off]? = some v → (Instr.field t (.agg cs) f).run P w = .ok v w
class SliceT (P : Program) (t : TypeId) (e : outParam TypeId) : Prop where
  u : P.underlying t = some (.slice e)
class ElemT (P : Program) (e : TypeId) (size bytes : outParam Nat) (zs : outParam (List Value)) : Prop where
  info : ∃ i z, P.info? e = some i ∧ i.zero = some z ∧ i.size = size ∧ i.bytes = bytes ∧ z.cells = zs.toArray ∧ zs.length = size ∧ 0 < size
class FloatT (P : Program) (t : TypeId) (k : outParam FloatKind) : Prop where
  u : P.underlying t = some (.float k)
class CplxT (P : Program) (t : TypeId) (k : outParam FloatKind) : Prop where
  u : P.underlying t = some (.complex k)
class IntT (P : Program) (t : TypeId) (k : outParam IntKind) : Prop where
  u : P.underlying t = some (.int k)
class BoolT (P : Program) (t : TypeId) : Prop where
  u : P.underlying t = some .bool
class FnT (P : Program) (f : FuncId) : Prop where
  call : ∀ args w, (callFunc f args).run P w = .ok (.enter f args) w

section
variable {P : Program} {w0 w : World} {N : Nat} {a : Act} {E : List (Nat × Value)} {L : List Ent} {K : Act → World → Prop} {Q : Exit → Act → World → Prop}
variable {ops : Array Oper} {rest : List Oper} {d : Nat} {ty : TypeId} {pos : String} {aft : Array Edge} {g : Option (Nat × Bool)} {op : Op}

/-! ## code -/
theorem c_seq {x y : Code} (h : x.wp P (Exit.then (y.wp P Q) Q) a w) : (Code.seq x y).wp P Q a w := wp_seq h
theorem c_condT {x : Operand} {c1 c2 : Code} (st : St w0 N a w E L) (hx : evE E x = some (.bool true)) (h : c1.wp P Q a w) : (Code.cond x c1 c2).wp P Q a w := wp_cond_true (evE_eval st hx) h
theorem c_condF {x : Operand} {c1 c2 : Code} (st : St w0 N a w E L) (hx : evE E x = some (.bool false)) (h : c2.wp P Q a w) : (Code.cond x c1 c2).wp P Q a w := wp_cond_false (evE_eval st hx) h
theorem x_then {nx : Act → World → Prop} (h : nx a w) : Exit.then nx Q .normal a w := h
theorem x_thenE {nx : Act → World → Prop} {id : Nat} (h : Q (.exit id) a w) : Exit.then nx Q (.exit id) a w := h
theorem x_thenR {nx : Act → World → Prop} (h : Q .ret a w) : Exit.then nx Q .ret a w := h
theorem x_blkN {id : Nat} (h : Q .normal a w) : Exit.inBlock id Q .normal a w := h
theorem x_blkR {id : Nat} (h : Q .ret a w) : Exit.inBlock id Q .ret a w := h
theorem x_blkE {id : Nat} (h : Q .normal a w) : Exit.inBlock id Q (.exit id) a w := by simpa [Exit.inBlock] using h
theorem x_blkO {id id' : Nat} (hne : Nat.beq id' id = false) (h : Q (.exit id') a w) : Exit.inBlock id Q (.exit id') a w := by
  have : id' ≠ id := Nat.ne_of_beq_eq_false hne
  simpa [Exit.inBlock, this] using h
theorem c_region {id : Nat} {l : List Oper} (h : wpList P l.toArray Q l a w) : (Code.region id l.toArray false).wp P Q a w := wp_region_lit h

/-! ## operations in a list -/
theorem l_do {dd : Option Tmp} (h : Oper.wp P ⟨dd, op, ty, pos, aft, none⟩ a w (wpList P ops Q rest) Q) : wpList P ops Q (⟨dd, op, ty, pos, aft, none⟩ :: rest) a w := by
  unfold wpList
  rw [if_pos (by simp [Region.wanted])]
  exact .inl h

theorem wanted_of {st : St w0 N a w E L} {j dj : Nat} {dd : Option Tmp} {b b' : Bool} (hj : (ops[j]?).bind (·.dst) = some dj) (hv : lk E dj = some (.bool b')) :
    Region.wanted ⟨dd, op, ty, pos, aft, some (j, b)⟩ (yielded ops a.tmps) = (b' == b) := by
  have := st.env dj _ hv
  simp [Region.wanted, yielded, hj, this]

theorem l_doG {dd : Option Tmp} {j dj : Nat} {b : Bool} (st : St w0 N a w E L) (hj : (ops[j]?).bind (·.dst) = some dj) (hv : lk E dj = some (.bool b))
    (h : Oper.wp P ⟨dd, op, ty, pos, aft, some (j, b)⟩ a w (wpList P ops Q rest) Q) : wpList P ops Q (⟨dd, op, ty, pos, aft, some (j, b)⟩ :: rest) a w := by
  unfold wpList
  rw [if_pos (by rw [wanted_of (st := st) hj hv]; simp)]
  exact .inl h

theorem l_skip {j dj : Nat} {b b' : Bool} (st : St w0 N a w E L) (hj : (ops[j]?).bind (·.dst) = some dj) (hv : lk E dj = some (.bool b')) (hb : (b' == b) = false) (hd : Nat.blt d N = true)
    (h : ∀ a', St w0 N a' w ((d, undef) :: E) L → wpList P ops Q rest a' w) : wpList P ops Q (⟨some d, op, ty, pos, aft, some (j, b)⟩ :: rest) a w := by
  unfold wpList
  rw [if_neg (by rw [wanted_of (st := st) hj hv]; simp [hb])]
  exact h _ (st.put d hd undef)

theorem l_skipU {j dj : Nat} {b : Bool} (st : St w0 N a w E L) (hj : (ops[j]?).bind (·.dst) = some dj) (hv : lk E dj = some undef) (hd : Nat.blt d N = true)
    (h : ∀ a', St w0 N a' w ((d, undef) :: E) L → wpList P ops Q rest a' w) : wpList P ops Q (⟨some d, op, ty, pos, aft, some (j, b)⟩ :: rest) a w := by
  have hu := st.env dj _ hv
  unfold wpList
  rw [if_neg (by simp [Region.wanted, yielded, hj, hu, undef])]
  exact h _ (st.put d hd undef)

theorem l_nil (h : Q .normal a w) : wpList P ops Q [] a w := h

/-! ## operations -/
theorem o_val {w' : World} {v : Value} {o : Oper} (hr : (execOp a.eval o).run P w = .ok (.value v) w') (h : K (a.put o.dst v) w') : o.wp P a w K Q := by
  unfold Oper.wp
  rw [hr]
  exact h

theorem o_move {x : Operand} {v : Value} (st : St w0 N a w E L) (hx : evE E x = some v) (hd : Nat.blt d N = true) (h : ∀ a', St w0 N a' w ((d, v) :: E) L → K a' w) :
    Oper.wp P ⟨some d, .move x, ty, pos, aft, g⟩ a w K Q :=
  o_val (v := v) (w' := w) (by simp [execOp, evE_eval st hx]) (h _ (st.put d hd v))

theorem o_assign {x : Operand} {v : Value} (st : St w0 N a w E L) (hx : evE E x = some v) (hd : Nat.blt d N = true) (h : ∀ a', St w0 N a' w ((d, v) :: E) L → K a' w) :
    Oper.wp P ⟨some d, .assign x, ty, pos, aft, g⟩ a w K Q :=
  o_val (v := v) (w' := w) (by simp [execOp, evE_eval st hx]) (h _ (st.put d hd v))

theorem o_pickT {c x y : Operand} {v : Value} (st : St w0 N a w E L) (hc : evE E c = some (.bool true)) (hx : evE E x = some v) (hd : Nat.blt d N = true) (h : ∀ a', St w0 N a' w ((d, v) :: E) L → K a' w) :
    Oper.wp P ⟨some d, .pick c x y, ty, pos, aft, g⟩ a w K Q :=
  o_val (v := v) (w' := w) (by simp [execOp, evE_eval st hx, evE_eval st hc, asBool]) (h _ (st.put d hd v))
theorem o_pickF {c x y : Operand} {v : Value} (st : St w0 N a w E L) (hc : evE E c = some (.bool false)) (hy : evE E y = some v) (hd : Nat.blt d N = true) (h : ∀ a', St w0 N a' w ((d, v) :: E) L → K a' w) :
    Oper.wp P ⟨some d, .pick c x y, ty, pos, aft, g⟩ a w K Q :=
  o_val (v := v) (w' := w) (by simp [execOp, evE_eval st hy, evE_eval st hc, asBool]) (h _ (st.put d hd v))

theorem o_alloc {t : TypeId} {cs : List Value} [hz : ZeroT P t cs] (st : St w0 N a w E L) (hd : Nat.blt d N = true)
    (h : ∀ b a' w', St w0 N a' w' ((d, .pointer (some ⟨b, 0, none⟩)) :: E) (⟨b, true, .cells cs.toArray t (0, 0)⟩ :: L) → K a' w') :
    Oper.wp P ⟨some d, .alloc t, ty, pos, aft, g⟩ a w K Q := by
  obtain ⟨v, hv, hc⟩ := hz.zero
  refine o_val (v := .pointer (some ⟨w.heap.size, 0, none⟩)) (w' := w.alloc (.cells cs.toArray t)) ?_ (h _ _ _ ((st.alloc _).put d hd _))
  simp [execOp, Instr.alloc, hv, newVar, newRow, hc]

theorem o_boxA {t : TypeId} {x : Operand} {cs : List Value} (st : St w0 N a w E L) (hx : evE E x = some (.agg cs.toArray)) (hd : Nat.blt d N = true)
    (h : ∀ b a' w', St w0 N a' w' ((d, .pointer (some ⟨b, 0, none⟩)) :: E) (⟨b, true, .cells cs.toArray t (0, 0)⟩ :: L) → K a' w') :
    Oper.wp P ⟨some d, .box t x, ty, pos, aft, g⟩ a w K Q := by
  refine o_val (v := .pointer (some ⟨w.heap.size, 0, none⟩)) (w' := w.alloc (.cells cs.toArray t)) ?_ (h _ _ _ ((st.alloc _).put d hd _))
  simp [execOp, Instr.box, evE_eval st hx, newVar, newRow, Value.cells]

theorem cells_sca {v : Value} (h : v.oneCell' = true) : v.cells = #[v] := by cases v <;> simp [Value.oneCell'] at h <;> rfl

theorem o_boxS {t : TypeId} {x : Operand} {v : Value} (st : St w0 N a w E L) (hx : evE E x = some v) (hv : v.oneCell' = true) (hd : Nat.blt d N = true)
    (h : ∀ b a' w', St w0 N a' w' ((d, .pointer (some ⟨b, 0, none⟩)) :: E) (⟨b, true, .cells [v].toArray t (0, 0)⟩ :: L) → K a' w') :
    Oper.wp P ⟨some d, .box t x, ty, pos, aft, g⟩ a w K Q := by
  refine o_val (v := .pointer (some ⟨w.heap.size, 0, none⟩)) (w' := w.alloc (.cells #[v] t)) ?_ (h _ _ _ ((st.alloc _).put d hd _))
  simp [execOp, Instr.box, evE_eval st hx, newVar, newRow, cells_sca hv]

theorem cell_known {b own o} (st : St w0 N a w E L) (hA : At L b own o) {cs : Array Value} {t : TypeId} {fr : Nat × Nat} (ho : o = .cells cs t fr) {i : Nat} : w.cell? ⟨b, i, none⟩ = cs[i]? := by
  subst ho
  exact cell_of_row w b i cs t fr (st.heap hA)

theorem o_loadS {t t' : TypeId} {x : Operand} {b off : Nat} {own : Bool} {cs : Array Value} {fr : Nat × Nat} {v : Value} [ht : ScaT P t] (st : St w0 N a w E L)
    (hx : evE E x = some (.pointer (some ⟨b, off, none⟩))) (hA : At L b own (.cells cs t' fr)) (hv : cs[off]? = some v) (hd : Nat.blt d N = true)
    (h : ∀ a', St w0 N a' w ((d, v) :: E) L → K a' w) : Oper.wp P ⟨some d, .load t x, ty, pos, aft, g⟩ a w K Q := by
  refine o_val (v := v) (w' := w) ?_ (h _ (st.put d hd v))
  have hc : w.cell? ⟨b, off, none⟩ = some v := (cell_known st hA rfl).trans hv
  simp only [execOp, evE_eval st hx, Instr.loadAt, Instr.sureAddr, loadVar, Sem.run_bind, Sem.run_pure, Result.andThen_ok, ht.agg, if_false, Bool.false_eq_true, run_load, hc]

/-- A struct read out of a block: 'n' cells from 'off' on. -/
theorem o_loadA {t t' : TypeId} {x : Operand} {b off n : Nat} {own : Bool} {cs : Array Value} {fr : Nat × Nat} (us : List Value) [ht : AggT P t n] (st : St w0 N a w E L)
    (hx : evE E x = some (.pointer (some ⟨b, off, none⟩))) (hA : At L b own (.cells cs t' fr)) (hn : us.length = n) (hv : ∀ j u, us[j]? = some u → cs[off + j]? = some u) (hd : Nat.blt d N = true)
    (h : ∀ a', St w0 N a' w ((d, .agg us.toArray) :: E) L → K a' w) : Oper.wp P ⟨some d, .load t x, ty, pos, aft, g⟩ a w K Q := by
  refine o_val (v := .agg us.toArray) (w' := w) ?_ (h _ (st.put d hd _))
  have hl : (loadCells ⟨b, off, none⟩ n).run P w = .ok us.toArray w := by
    subst hn
    refine run_loadCells_list (P := P) w ⟨b, off, none⟩ us ?_
    intro j u hj
    rw [Addr.add_lit]
    exact (cell_known st hA rfl).trans (hv j u hj)
  simp only [execOp, evE_eval st hx, Instr.loadAt, Instr.sureAddr, loadVar, Sem.run_bind, Sem.run_pure, Result.andThen_ok, ht.agg, ht.size, if_true, hl]

theorem load2 {c0 c1 : Value} : ∀ j u, [c0, c1][j]? = some u → #[c0, c1][0 + j]? = some u := by
  intro j u h; simpa using h
theorem load3 {c0 c1 c2 : Value} : ∀ j u, [c0, c1, c2][j]? = some u → #[c0, c1, c2][0 + j]? = some u := by
  intro j u h; simpa using h
theorem load4 {c0 c1 c2 c3 : Value} : ∀ j u, [c0, c1, c2, c3][j]? = some u → #[c0, c1, c2, c3][0 + j]? = some u := by
  intro j u h; simpa using h

theorem o_load2 {t t' : TypeId} {x : Operand} {b : Nat} {own : Bool} {c0 c1 : Value} {fr : Nat × Nat} [ht : AggT P t 2] (st : St w0 N a w E L)
    (hx : evE E x = some (.pointer (some ⟨b, 0, none⟩))) (hA : At L b own (.cells [c0, c1].toArray t' fr)) (hd : Nat.blt d N = true)
    (h : ∀ a', St w0 N a' w ((d, .agg [c0, c1].toArray) :: E) L → K a' w) : Oper.wp P ⟨some d, .load t x, ty, pos, aft, g⟩ a w K Q := o_loadA [c0, c1] st hx hA rfl load2 hd h
theorem o_load3 {t t' : TypeId} {x : Operand} {b : Nat} {own : Bool} {c0 c1 c2 : Value} {fr : Nat × Nat} [ht : AggT P t 3] (st : St w0 N a w E L)
    (hx : evE E x = some (.pointer (some ⟨b, 0, none⟩))) (hA : At L b own (.cells [c0, c1, c2].toArray t' fr)) (hd : Nat.blt d N = true)
    (h : ∀ a', St w0 N a' w ((d, .agg [c0, c1, c2].toArray) :: E) L → K a' w) : Oper.wp P ⟨some d, .load t x, ty, pos, aft, g⟩ a w K Q := o_loadA [c0, c1, c2] st hx hA rfl load3 hd h
theorem o_load4 {t t' : TypeId} {x : Operand} {b : Nat} {own : Bool} {c0 c1 c2 c3 : Value} {fr : Nat × Nat} [ht : AggT P t 4] (st : St w0 N a w E L)
    (hx : evE E x = some (.pointer (some ⟨b, 0, none⟩))) (hA : At L b own (.cells [c0, c1, c2, c3].toArray t' fr)) (hd : Nat.blt d N = true)
    (h : ∀ a', St w0 N a' w ((d, .agg [c0, c1, c2, c3].toArray) :: E) L → K a' w) : Oper.wp P ⟨some d, .load t x, ty, pos, aft, g⟩ a w K Q := o_loadA [c0, c1, c2, c3] st hx hA rfl load4 hd h

/-! stores -/
theorem o_unit {w' : World} {o : Oper} (hr : (execOp a.eval o).run P w = .ok .skip w') (h : K (a.put o.dst undef) w') : o.wp P a w K Q := by
  unfold Oper.wp
  rw [hr]
  exact h

theorem run_storeCells_mid (bb : Nat) (t : TypeId) : ∀ (vs : List Value) (off i : Nat) (cs : List Value) (wx : World), wx.heap[bb]? = some (.cells cs.toArray t (0, 0)) → off + i + vs.length ≤ cs.length → (∀ v ∈ vs, v.oneCell' = true) →
    ∃ w', (storeCells ⟨bb, off, none⟩ vs i).run P wx = .ok () w' ∧ w'.heap[bb]? = some (.cells (cs.take (off + i) ++ vs ++ cs.drop (off + i + vs.length)).toArray t (0, 0)) ∧ Below bb wx w' ∧ (∀ k, k ≠ bb → k < wx.heap.size → w'.heap[k]? = wx.heap[k]?)
  | [], off, i, cs, wx, hg, hl, _ => by
    refine ⟨wx, rfl, ?_, Below.refl _ _, fun _ _ _ => rfl⟩
    simp [hg]
  | v :: vs, off, i, cs, wx, hg, hl, h1 => by
    have hi : off + i < cs.length := by simp at hl; omega
    have hcell : wx.cell? ⟨bb, off + i, none⟩ = some cs[off + i] := by simp [World.cell?, hg, hi]
    have hfro : wx.frozen? ⟨bb, off + i, none⟩ = false := by simp [World.frozen?, hg]
    have hst : (store ((⟨bb, off, none⟩ : Addr).add i) v).run P wx = .ok () (wx.setCell ⟨bb, off + i, none⟩ v) := by
      rw [Addr.add_lit, run_store P wx _ v _ (h1 v (by simp)), hcell]
      simp [hfro]
    have hg' : (wx.setCell ⟨bb, off + i, none⟩ v).heap[bb]? = some (.cells (cs.set (off + i) v).toArray t (0, 0)) := by
      have := heap_setCell_same wx bb (off + i) cs.toArray t v hg
      simpa using this
    obtain ⟨w', hr, hw, hb, ho⟩ := run_storeCells_mid bb t vs off (i + 1) (cs.set (off + i) v) (wx.setCell ⟨bb, off + i, none⟩ v) hg' (by simp at hl ⊢; omega) (fun x hx => h1 x (by simp [hx]))
    refine ⟨w', ?_, ?_, ?_, ?_⟩
    · simp only [storeCells, Sem.run_bind, hst, Result.andThen_ok, hr]
    · rw [hw, ← Nat.add_assoc, List.take_succ_eq_append_getElem (by simpa using hi), List.getElem_set_self, List.take_set_of_le (Nat.le_refl _), List.drop_set_of_lt (by omega),
        show off + i + 1 + vs.length = off + i + (v :: vs).length from by simp; omega]
      simp
    · exact (Below.setCell (Below.refl bb wx) (Nat.le_refl _) v).trans hb
    · intro k hk hks
      rw [ho k hk (by simpa using hks)]
      exact Below.heap_setCell _ _ _ _ hk

theorem setCells_run {b off : Nat} {t t' : TypeId} {cs vs : List Value} {v : Value} (hg : w.heap[b]? = some (.cells cs.toArray t' (0, 0))) (hvs : v.cells = vs.toArray) (hs : ∀ w, (sizeOf t).run P w = .ok vs.length w)
    (hl : off + vs.length ≤ cs.length) (h1 : ∀ u ∈ vs, u.oneCell' = true) :
    ∃ w', (Instr.storeAt t (.pointer (some ⟨b, off, none⟩)) v).run P w = .ok () w' ∧ w'.heap[b]? = some (.cells (cs.take off ++ vs ++ cs.drop (off + vs.length)).toArray t' (0, 0)) ∧ Below b w w' ∧ (∀ k, k ≠ b → k < w.heap.size → w'.heap[k]? = w.heap[k]?) := by
  obtain ⟨w', hr, hw, hb, ho⟩ := run_storeCells_mid (P := P) b t' vs off 0 cs w hg (by simpa using hl) h1
  refine ⟨w', ?_, by simpa using hw, hb, ho⟩
  simp [Instr.storeAt, Instr.sureAddr, storeVar, hs, hvs, hr]

/-- A store of one cell into an own block. -/
theorem o_storeS {t t' : TypeId} {x y : Operand} {b off : Nat} {cs cs' : List Value} {v : Value} {L' : List Ent} [ht : ScaT P t] (st : St w0 N a w E L)
    (hx : evE E x = some (.pointer (some ⟨b, off, none⟩))) (hy : evE E y = some v) (hv : v.oneCell' = true) (hU : Upd L b (.cells cs.toArray t' (0, 0)) (.cells cs'.toArray t' (0, 0)) L') (hlt : Nat.blt off cs.length = true) (hs : cs.set off v = cs')
    (h : ∀ a' w', St w0 N a' w' E L' → K a' w') : Oper.wp P ⟨none, .store t x y, ty, pos, aft, g⟩ a w K Q := by
  have hlt' : off < cs.length := by simpa [Nat.blt_eq] using hlt
  obtain ⟨w', hr, hw, hb, ho⟩ := setCells_run (P := P) (t := t) (vs := [v]) (v := v) (off := off) (st.heap hU.old) (by rw [cells_sca hv]) ht.size (by simp; omega) (by simp [hv])
  refine o_unit (w' := w') (by simp [execOp, evE_eval st hx, evE_eval st hy, hr]) (h _ _ ?_)
  refine st.upd hU hb ho ?_
  rw [hw, ← hs]
  congr 3
  rw [List.set_eq_take_append_cons_drop, if_pos hlt']
  simp

/-- A store of a whole struct into an own block of just its cells. -/
theorem o_storeW {t t' : TypeId} {x y : Operand} {b n : Nat} {cs vs : List Value} {L' : List Ent} [ht : AggT P t n] (st : St w0 N a w E L)
    (hx : evE E x = some (.pointer (some ⟨b, 0, none⟩))) (hy : evE E y = some (.agg vs.toArray)) (hU : Upd L b (.cells cs.toArray t' (0, 0)) (.cells vs.toArray t' (0, 0)) L') (hc : Nat.beq cs.length n = true) (hn : Nat.beq vs.length n = true) (h1 : vs.all (·.oneCell') = true)
    (h : ∀ a' w', St w0 N a' w' E L' → K a' w') : Oper.wp P ⟨none, .store t x y, ty, pos, aft, g⟩ a w K Q := by
  have hc' := Nat.eq_of_beq_eq_true hc
  have hn' := Nat.eq_of_beq_eq_true hn
  obtain ⟨w', hr, hw, hb, ho⟩ := setCells_run (P := P) (t := t) (vs := vs) (v := .agg vs.toArray) (off := 0) (st.heap hU.old) rfl (by rw [hn']; exact ht.size) (by omega) (by simpa using h1)
  refine o_unit (w' := w') (by simp [execOp, evE_eval st hx, evE_eval st hy, hr]) (h _ _ ?_)
  refine st.upd hU hb ho ?_
  rw [hw]
  congr 3
  simp [hc', hn']

/-- A store of a whole struct into the middle of an own block. -/
theorem o_storeM {t t' : TypeId} {x y : Operand} {b off n : Nat} {cs vs : List Value} {L' : List Ent} [ht : AggT P t n] (st : St w0 N a w E L)
    (hx : evE E x = some (.pointer (some ⟨b, off, none⟩))) (hy : evE E y = some (.agg vs.toArray)) (hU : Upd L b (.cells cs.toArray t' (0, 0)) (.cells (cs.take off ++ vs ++ cs.drop (off + n)).toArray t' (0, 0)) L') (hc : off + n ≤ cs.length) (hn : Nat.beq vs.length n = true) (h1 : vs.all (·.oneCell') = true)
    (h : ∀ a' w', St w0 N a' w' E L' → K a' w') : Oper.wp P ⟨none, .store t x y, ty, pos, aft, g⟩ a w K Q := by
  have hn' := Nat.eq_of_beq_eq_true hn
  obtain ⟨w', hr, hw, hb, ho⟩ := setCells_run (P := P) (t := t) (vs := vs) (v := .agg vs.toArray) (off := off) (st.heap hU.old) rfl (by rw [hn']; exact ht.size) (by omega) (by simpa using h1)
  refine o_unit (w' := w') (by simp [execOp, evE_eval st hx, evE_eval st hy, hr]) (h _ _ ?_)
  refine st.upd hU hb ho ?_
  rw [hw, hn']

theorem o_fieldAddr {s f b off fo : Nat} {x : Operand} [hf : FieldT P s f fo] (st : St w0 N a w E L) (hx : evE E x = some (.pointer (some ⟨b, off, none⟩))) (hd : Nat.blt d N = true)
    (h : ∀ a', St w0 N a' w ((d, .pointer (some ⟨b, off + fo, none⟩)) :: E) L → K a' w) : Oper.wp P ⟨some d, .fieldAddr s x f, ty, pos, aft, g⟩ a w K Q :=
  o_val (v := .pointer (some ⟨b, off + fo, none⟩)) (w' := w) (by simp [execOp, evE_eval st hx, hf.at_]) (h _ (st.put d hd _))

theorem o_field {s f fo : Nat} {x : Operand} {cs : Array Value} {v : Value} [hf : FieldT P s f fo] (st : St w0 N a w E L) (hx : evE E x = some (.agg cs)) (hv : cs[fo]? = some v) (hd : Nat.blt d N = true)
    (h : ∀ a', St w0 N a' w ((d, v) :: E) L → K a' w) : Oper.wp P ⟨some d, .field s x f, ty, pos, aft, g⟩ a w K Q :=
  o_val (v := v) (w' := w) (by simp [execOp, evE_eval st hx, hf.val cs v w hv]) (h _ (st.put d hd _))

theorem o_extract {x : Operand} {vs : Array Value} {ix : Nat} {v : Value} (st : St w0 N a w E L) (hx : evE E x = some (.tuple vs)) (hv : vs[ix]? = some v) (hd : Nat.blt d N = true)
    (h : ∀ a', St w0 N a' w ((d, v) :: E) L → K a' w) : Oper.wp P ⟨some d, .extract x ix, ty, pos, aft, g⟩ a w K Q :=
  o_val (v := v) (w' := w) (by simp [execOp, evE_eval st hx, Instr.extract, hv]) (h _ (st.put d hd _))

theorem o_indexAddr {t e b off len cap sz bz : Nat} {zs : List Value} {x y : Operand} {k : IntKind} {i : Int} [hs : SliceT P t e] [he : ElemT P e sz bz zs] (st : St w0 N a w E L) (hx : evE E x = some (.slice (some ⟨b, off, none⟩) len cap)) (hy : evE E y = some (.int k i))
    (h0 : 0 ≤ i) (h1 : i < len) (hd : Nat.blt d N = true)
    (h : ∀ a', St w0 N a' w ((d, .pointer (some ⟨b, off + i.toNat * sz, none⟩)) :: E) L → K a' w) : Oper.wp P ⟨some d, .indexAddr t x y, ty, pos, aft, g⟩ a w K Q := by
  obtain ⟨i', z, hi, _, hsz, _⟩ := he.info
  have hel : P.elem t = e := by simp [Program.elem, hs.u]
  refine o_val (v := .pointer (some ⟨b, off + i.toNat * sz, none⟩)) (w' := w) ?_ (h _ (st.put d hd _))
  have := run_indexAt_slice (P := P) w t ⟨b, off, none⟩ len cap k i (by rw [hel]; exact hs.u)
  simp only [execOp, evE_eval st hx, evE_eval st hy, Sem.run_bind, this, h0, h1, and_self, if_true, hel, sizeOf, typeInfo, run_program, Result.andThen_ok, hi, Sem.run_pure, hsz, Addr.add_lit]

/-! integers -/
theorem wrap_in {k : IntKind} {n : Int} (h0 : k.min ≤ n) (h1 : n ≤ k.max) : k.wrap n = n := by
  cases k <;> simp [IntKind.min, IntKind.max, IntKind.signed, IntKind.bits] at h0 h1 <;> simp [IntKind.wrap, IntKind.signed, IntKind.bits] <;> omega

theorem o_add64 {x y : Operand} {t : TypeId} {i j : Int} (st : St w0 N a w E L) (hx : evE E x = some (.int .i64 i)) (hy : evE E y = some (.int .i64 j)) (hd : Nat.blt d N = true) (h0 : -9223372036854775808 ≤ i + j) (h1 : i + j ≤ 9223372036854775807) {ys : TypeId}
    (h : ∀ a', St w0 N a' w ((d, .int .i64 (i + j)) :: E) L → K a' w) : Oper.wp P ⟨some d, .binOp .add t x y ys, ty, pos, aft, g⟩ a w K Q := by
  refine o_val (v := .int .i64 (i + j)) (w' := w) ?_ (h _ (st.put d hd _))
  have : IntKind.i64.wrap (i + j) = i + j := by rw [IntKind.wrap_i64]; omega
  simp [execOp, evE_eval st hx, evE_eval st hy, binOp_add, Op.intArith, this, eqGuard_add]

theorem o_sub64 {x y : Operand} {t : TypeId} {i j : Int} (st : St w0 N a w E L) (hx : evE E x = some (.int .i64 i)) (hy : evE E y = some (.int .i64 j)) (hd : Nat.blt d N = true) (h0 : -9223372036854775808 ≤ i - j) (h1 : i - j ≤ 9223372036854775807) {ys : TypeId}
    (h : ∀ a', St w0 N a' w ((d, .int .i64 (i - j)) :: E) L → K a' w) : Oper.wp P ⟨some d, .binOp .sub t x y ys, ty, pos, aft, g⟩ a w K Q := by
  refine o_val (v := .int .i64 (i - j)) (w' := w) ?_ (h _ (st.put d hd _))
  have : IntKind.i64.wrap (i - j) = i - j := by rw [IntKind.wrap_i64]; omega
  simp [execOp, evE_eval st hx, evE_eval st hy, binOp_sub, Op.intArith, this, eqGuard_sub]

theorem o_mul64 {x y : Operand} {t : TypeId} {i j : Int} (st : St w0 N a w E L) (hx : evE E x = some (.int .i64 i)) (hy : evE E y = some (.int .i64 j)) (hd : Nat.blt d N = true) (h0 : -9223372036854775808 ≤ i * j) (h1 : i * j ≤ 9223372036854775807) {ys : TypeId}
    (h : ∀ a', St w0 N a' w ((d, .int .i64 (i * j)) :: E) L → K a' w) : Oper.wp P ⟨some d, .binOp .mul t x y ys, ty, pos, aft, g⟩ a w K Q := by
  refine o_val (v := .int .i64 (i * j)) (w' := w) ?_ (h _ (st.put d hd _))
  have : IntKind.i64.wrap (i * j) = i * j := by rw [IntKind.wrap_i64]; omega
  simp [execOp, evE_eval st hx, evE_eval st hy, binOp_mul, Op.intArith, this, eqGuard_mul]

/-- A comparison of integers: two ways. -/
theorem o_lss {x y : Operand} {t : TypeId} {k : IntKind} {i j : Int} {ys : TypeId} (st : St w0 N a w E L) (hx : evE E x = some (.int k i)) (hy : evE E y = some (.int k j)) (hd : Nat.blt d N = true)
    (hT : i < j → ∀ a', St w0 N a' w ((d, .bool true) :: E) L → K a' w) (hF : j ≤ i → ∀ a', St w0 N a' w ((d, .bool false) :: E) L → K a' w) : Oper.wp P ⟨some d, .binOp .lss t x y ys, ty, pos, aft, g⟩ a w K Q := by
  by_cases hc : i < j
  · exact o_val (v := .bool true) (w' := w) (by simp [execOp, evE_eval st hx, evE_eval st hy, binOp_lss, eqGuard_lss, hc]) (hT hc _ (st.put d hd _))
  · exact o_val (v := .bool false) (w' := w) (by simp [execOp, evE_eval st hx, evE_eval st hy, binOp_lss, eqGuard_lss, hc]) (hF (by omega) _ (st.put d hd _))
theorem o_leq {x y : Operand} {t : TypeId} {k : IntKind} {i j : Int} {ys : TypeId} (st : St w0 N a w E L) (hx : evE E x = some (.int k i)) (hy : evE E y = some (.int k j)) (hd : Nat.blt d N = true)
    (hT : i ≤ j → ∀ a', St w0 N a' w ((d, .bool true) :: E) L → K a' w) (hF : j < i → ∀ a', St w0 N a' w ((d, .bool false) :: E) L → K a' w) : Oper.wp P ⟨some d, .binOp .leq t x y ys, ty, pos, aft, g⟩ a w K Q := by
  by_cases hc : i ≤ j
  · exact o_val (v := .bool true) (w' := w) (by simp [execOp, evE_eval st hx, evE_eval st hy, binOp_leq, eqGuard_leq, hc]) (hT hc _ (st.put d hd _))
  · exact o_val (v := .bool false) (w' := w) (by simp [execOp, evE_eval st hx, evE_eval st hy, binOp_leq, eqGuard_leq, hc]) (hF (by omega) _ (st.put d hd _))
theorem o_gtr {x y : Operand} {t : TypeId} {k : IntKind} {i j : Int} {ys : TypeId} (st : St w0 N a w E L) (hx : evE E x = some (.int k i)) (hy : evE E y = some (.int k j)) (hd : Nat.blt d N = true)
    (hT : j < i → ∀ a', St w0 N a' w ((d, .bool true) :: E) L → K a' w) (hF : i ≤ j → ∀ a', St w0 N a' w ((d, .bool false) :: E) L → K a' w) : Oper.wp P ⟨some d, .binOp .gtr t x y ys, ty, pos, aft, g⟩ a w K Q := by
  by_cases hc : j < i
  · exact o_val (v := .bool true) (w' := w) (by simp [execOp, evE_eval st hx, evE_eval st hy, binOp_gtr, eqGuard_gtr, hc]) (hT hc _ (st.put d hd _))
  · exact o_val (v := .bool false) (w' := w) (by simp [execOp, evE_eval st hx, evE_eval st hy, binOp_gtr, eqGuard_gtr, hc]) (hF (by omega) _ (st.put d hd _))
theorem o_geq {x y : Operand} {t : TypeId} {k : IntKind} {i j : Int} {ys : TypeId} (st : St w0 N a w E L) (hx : evE E x = some (.int k i)) (hy : evE E y = some (.int k j)) (hd : Nat.blt d N = true)
    (hT : j ≤ i → ∀ a', St w0 N a' w ((d, .bool true) :: E) L → K a' w) (hF : i < j → ∀ a', St w0 N a' w ((d, .bool false) :: E) L → K a' w) : Oper.wp P ⟨some d, .binOp .geq t x y ys, ty, pos, aft, g⟩ a w K Q := by
  by_cases hc : j ≤ i
  · exact o_val (v := .bool true) (w' := w) (by simp [execOp, evE_eval st hx, evE_eval st hy, binOp_geq, eqGuard_geq, hc]) (hT hc _ (st.put d hd _))
  · exact o_val (v := .bool false) (w' := w) (by simp [execOp, evE_eval st hx, evE_eval st hy, binOp_geq, eqGuard_geq, hc]) (hF (by omega) _ (st.put d hd _))
theorem o_eqlI {x y : Operand} {t : TypeId} {k : IntKind} {i j : Int} {ys : TypeId} (st : St w0 N a w E L) (hx : evE E x = some (.int k i)) (hy : evE E y = some (.int k j)) (hd : Nat.blt d N = true)
    (hT : i = j → ∀ a', St w0 N a' w ((d, .bool true) :: E) L → K a' w) (hF : i ≠ j → ∀ a', St w0 N a' w ((d, .bool false) :: E) L → K a' w) : Oper.wp P ⟨some d, .binOp .eql t x y ys, ty, pos, aft, g⟩ a w K Q := by
  by_cases hc : i = j
  · exact o_val (v := .bool true) (w' := w) (by simp [execOp, evE_eval st hx, evE_eval st hy, binOp_eql, eqGuard_at_int, hc]) (hT hc _ (st.put d hd _))
  · exact o_val (v := .bool false) (w' := w) (by simp [execOp, evE_eval st hx, evE_eval st hy, binOp_eql, eqGuard_at_int, hc]) (hF hc _ (st.put d hd _))
theorem o_neqI {x y : Operand} {t : TypeId} {k : IntKind} {i j : Int} {ys : TypeId} (st : St w0 N a w E L) (hx : evE E x = some (.int k i)) (hy : evE E y = some (.int k j)) (hd : Nat.blt d N = true)
    (hT : i ≠ j → ∀ a', St w0 N a' w ((d, .bool true) :: E) L → K a' w) (hF : i = j → ∀ a', St w0 N a' w ((d, .bool false) :: E) L → K a' w) : Oper.wp P ⟨some d, .binOp .neq t x y ys, ty, pos, aft, g⟩ a w K Q := by
  by_cases hc : i = j
  · exact o_val (v := .bool false) (w' := w) (by simp [execOp, evE_eval st hx, evE_eval st hy, binOp_neq, eqGuard_at_int, hc]) (hF hc _ (st.put d hd _))
  · exact o_val (v := .bool true) (w' := w) (by simp [execOp, evE_eval st hx, evE_eval st hy, binOp_neq, eqGuard_at_int, hc]) (hT hc _ (st.put d hd _))

/-! bools: both operands known -/
theorem o_eqlB {x y : Operand} {t ys : TypeId} {i j : Bool} [hb : BoolT P t] (st : St w0 N a w E L) (hx : evE E x = some (.bool i)) (hy : evE E y = some (.bool j)) (hd : Nat.blt d N = true) {r : Bool} (hr : (i == j) = r)
    (h : ∀ a', St w0 N a' w ((d, .bool r) :: E) L → K a' w) : Oper.wp P ⟨some d, .binOp .eql t x y ys, ty, pos, aft, g⟩ a w K Q := by
  subst hr
  refine o_val (v := .bool (i == j)) (w' := w) ?_ (h _ (st.put d hd _))
  simp only [execOp, evE_eval st hx, evE_eval st hy, eqGuard_at_bool, Sem.run_bind, Sem.run_pure, Result.andThen_ok, run_eql_bool w t i j hb.u]
theorem o_neqB {x y : Operand} {t ys : TypeId} {i j : Bool} [hb : BoolT P t] (st : St w0 N a w E L) (hx : evE E x = some (.bool i)) (hy : evE E y = some (.bool j)) (hd : Nat.blt d N = true) {r : Bool} (hr : (!(i == j)) = r)
    (h : ∀ a', St w0 N a' w ((d, .bool r) :: E) L → K a' w) : Oper.wp P ⟨some d, .binOp .neq t x y ys, ty, pos, aft, g⟩ a w K Q := by
  subst hr
  refine o_val (v := .bool (!(i == j))) (w' := w) ?_ (h _ (st.put d hd _))
  simp only [execOp, evE_eval st hx, evE_eval st hy, eqGuard_at_bool, Sem.run_bind, Sem.run_pure, Result.andThen_ok, run_neq_bool w t i j hb.u]
theorem o_notT {x : Operand} {t : TypeId} (st : St w0 N a w E L) (hx : evE E x = some (.bool true)) (hd : Nat.blt d N = true)
    (h : ∀ a', St w0 N a' w ((d, .bool false) :: E) L → K a' w) : Oper.wp P ⟨some d, .unOp .not t x, ty, pos, aft, g⟩ a w K Q :=
  o_val (v := .bool false) (w' := w) (by simp [execOp, evE_eval st hx, Op.unary]) (h _ (st.put d hd _))
theorem o_notF {x : Operand} {t : TypeId} (st : St w0 N a w E L) (hx : evE E x = some (.bool false)) (hd : Nat.blt d N = true)
    (h : ∀ a', St w0 N a' w ((d, .bool true) :: E) L → K a' w) : Oper.wp P ⟨some d, .unOp .not t x, ty, pos, aft, g⟩ a w K Q :=
  o_val (v := .bool true) (w' := w) (by simp [execOp, evE_eval st hx, Op.unary]) (h _ (st.put d hd _))

/-! floats -/
theorem Is.order {k x y cx cy} (hx : Is k x cx) (hy : Is k y cy) : k.format.order x y = ford k cx cy := by rw [← hx.2, ← hy.2, ford_cl]

theorem o_fop {op : BinOp} (hop : isArith op = true) {x y : Operand} {t ys : TypeId} {k : FloatKind} {i j : Nat} {ci cj : Option Nat} (st : St w0 N a w E L) (hx : evE E x = some (.float k i)) (hy : evE E y = some (.float k j)) (hi : Is k i ci) (hj : Is k j cj) (hd : Nat.blt d N = true)
    (h : ∀ r a' w', Is k r (fop op k ci cj) → St w0 N a' w' ((d, .float k r) :: E) L → K a' w') : Oper.wp P ⟨some d, .binOp op t x y ys, ty, pos, aft, g⟩ a w K Q := by
  obtain ⟨r, n, hr, hR⟩ := run_fop (P := P) w op hop t k i j
  rw [hi.2, hj.2] at hR
  refine o_val (v := .float k r) (w' := w.drewN n) ?_ (h r _ _ hR ((st.drewN n).put d hd _))
  simp only [execOp, evE_eval st hx, evE_eval st hy, eqGuard_at_float, Sem.run_bind, Sem.run_pure, Result.andThen_ok, hr]

def fltB (k : FloatKind) (x y : Option Nat) : Bool := ford k x y == some .lt
def fleB (k : FloatKind) (x y : Option Nat) : Bool := ford k x y == some .lt || ford k x y == some .eq
def fgtB (k : FloatKind) (x y : Option Nat) : Bool := ford k x y == some .gt
def fgeB (k : FloatKind) (x y : Option Nat) : Bool := ford k x y == some .gt || ford k x y == some .eq
def feqB (k : FloatKind) (x y : Option Nat) : Bool := ford k x y == some .eq

theorem o_flss {x y : Operand} {t ys : TypeId} {k : FloatKind} {i j : Nat} {ci cj : Option Nat} (st : St w0 N a w E L) (hx : evE E x = some (.float k i)) (hy : evE E y = some (.float k j)) (hi : Is k i ci) (hj : Is k j cj) (hd : Nat.blt d N = true)
    (hT : fltB k ci cj = true → ∀ a', St w0 N a' w ((d, .bool true) :: E) L → K a' w) (hF : fltB k ci cj = false → ∀ a', St w0 N a' w ((d, .bool false) :: E) L → K a' w) : Oper.wp P ⟨some d, .binOp .lss t x y ys, ty, pos, aft, g⟩ a w K Q := by
  cases hc : fltB k ci cj
  · exact o_val (v := .bool false) (w' := w) (by simp only [execOp, evE_eval st hx, evE_eval st hy, eqGuard_at_float, Sem.run_bind, Sem.run_pure, Result.andThen_ok, binOp_float_cmp_lss, hi.order hj]; simp [fltB] at hc; simp [hc]) (hF hc _ (st.put d hd _))
  · exact o_val (v := .bool true) (w' := w) (by simp only [execOp, evE_eval st hx, evE_eval st hy, eqGuard_at_float, Sem.run_bind, Sem.run_pure, Result.andThen_ok, binOp_float_cmp_lss, hi.order hj]; simp [fltB] at hc; simp [hc]) (hT hc _ (st.put d hd _))
theorem o_fleq {x y : Operand} {t ys : TypeId} {k : FloatKind} {i j : Nat} {ci cj : Option Nat} (st : St w0 N a w E L) (hx : evE E x = some (.float k i)) (hy : evE E y = some (.float k j)) (hi : Is k i ci) (hj : Is k j cj) (hd : Nat.blt d N = true)
    (hT : fleB k ci cj = true → ∀ a', St w0 N a' w ((d, .bool true) :: E) L → K a' w) (hF : fleB k ci cj = false → ∀ a', St w0 N a' w ((d, .bool false) :: E) L → K a' w) : Oper.wp P ⟨some d, .binOp .leq t x y ys, ty, pos, aft, g⟩ a w K Q := by
  cases hc : fleB k ci cj
  · exact o_val (v := .bool false) (w' := w) (by simp only [execOp, evE_eval st hx, evE_eval st hy, eqGuard_at_float, Sem.run_bind, Sem.run_pure, Result.andThen_ok, binOp_float_cmp_leq, hi.order hj]; rw [fleB] at hc; rw [hc]) (hF hc _ (st.put d hd _))
  · exact o_val (v := .bool true) (w' := w) (by simp only [execOp, evE_eval st hx, evE_eval st hy, eqGuard_at_float, Sem.run_bind, Sem.run_pure, Result.andThen_ok, binOp_float_cmp_leq, hi.order hj]; rw [fleB] at hc; rw [hc]) (hT hc _ (st.put d hd _))
theorem o_fgtr {x y : Operand} {t ys : TypeId} {k : FloatKind} {i j : Nat} {ci cj : Option Nat} (st : St w0 N a w E L) (hx : evE E x = some (.float k i)) (hy : evE E y = some (.float k j)) (hi : Is k i ci) (hj : Is k j cj) (hd : Nat.blt d N = true)
    (hT : fgtB k ci cj = true → ∀ a', St w0 N a' w ((d, .bool true) :: E) L → K a' w) (hF : fgtB k ci cj = false → ∀ a', St w0 N a' w ((d, .bool false) :: E) L → K a' w) : Oper.wp P ⟨some d, .binOp .gtr t x y ys, ty, pos, aft, g⟩ a w K Q := by
  cases hc : fgtB k ci cj
  · exact o_val (v := .bool false) (w' := w) (by simp only [execOp, evE_eval st hx, evE_eval st hy, eqGuard_at_float, Sem.run_bind, Sem.run_pure, Result.andThen_ok, binOp_float_cmp_gtr, hi.order hj]; rw [fgtB] at hc; rw [hc]) (hF hc _ (st.put d hd _))
  · exact o_val (v := .bool true) (w' := w) (by simp only [execOp, evE_eval st hx, evE_eval st hy, eqGuard_at_float, Sem.run_bind, Sem.run_pure, Result.andThen_ok, binOp_float_cmp_gtr, hi.order hj]; rw [fgtB] at hc; rw [hc]) (hT hc _ (st.put d hd _))
theorem o_fgeq {x y : Operand} {t ys : TypeId} {k : FloatKind} {i j : Nat} {ci cj : Option Nat} (st : St w0 N a w E L) (hx : evE E x = some (.float k i)) (hy : evE E y = some (.float k j)) (hi : Is k i ci) (hj : Is k j cj) (hd : Nat.blt d N = true)
    (hT : fgeB k ci cj = true → ∀ a', St w0 N a' w ((d, .bool true) :: E) L → K a' w) (hF : fgeB k ci cj = false → ∀ a', St w0 N a' w ((d, .bool false) :: E) L → K a' w) : Oper.wp P ⟨some d, .binOp .geq t x y ys, ty, pos, aft, g⟩ a w K Q := by
  cases hc : fgeB k ci cj
  · exact o_val (v := .bool false) (w' := w) (by simp only [execOp, evE_eval st hx, evE_eval st hy, eqGuard_at_float, Sem.run_bind, Sem.run_pure, Result.andThen_ok, binOp_float_cmp_geq, hi.order hj]; rw [fgeB] at hc; rw [hc]) (hF hc _ (st.put d hd _))
  · exact o_val (v := .bool true) (w' := w) (by simp only [execOp, evE_eval st hx, evE_eval st hy, eqGuard_at_float, Sem.run_bind, Sem.run_pure, Result.andThen_ok, binOp_float_cmp_geq, hi.order hj]; rw [fgeB] at hc; rw [hc]) (hT hc _ (st.put d hd _))
theorem o_feql {x y : Operand} {t ys : TypeId} {k : FloatKind} {i j : Nat} {ci cj : Option Nat} (st : St w0 N a w E L) (hx : evE E x = some (.float k i)) (hy : evE E y = some (.float k j)) (hi : Is k i ci) (hj : Is k j cj) (hd : Nat.blt d N = true)
    (hT : feqB k ci cj = true → ∀ a', St w0 N a' w ((d, .bool true) :: E) L → K a' w) (hF : feqB k ci cj = false → ∀ a', St w0 N a' w ((d, .bool false) :: E) L → K a' w) : Oper.wp P ⟨some d, .binOp .eql t x y ys, ty, pos, aft, g⟩ a w K Q := by
  cases hc : feqB k ci cj
  · exact o_val (v := .bool false) (w' := w) (by simp only [execOp, evE_eval st hx, evE_eval st hy, eqGuard_at_float, Sem.run_bind, Sem.run_pure, Result.andThen_ok, binOp_float_cmp_eql, hi.order hj]; rw [feqB] at hc; rw [hc]) (hF hc _ (st.put d hd _))
  · exact o_val (v := .bool true) (w' := w) (by simp only [execOp, evE_eval st hx, evE_eval st hy, eqGuard_at_float, Sem.run_bind, Sem.run_pure, Result.andThen_ok, binOp_float_cmp_eql, hi.order hj]; rw [feqB] at hc; rw [hc]) (hT hc _ (st.put d hd _))
theorem o_fneq {x y : Operand} {t ys : TypeId} {k : FloatKind} {i j : Nat} {ci cj : Option Nat} (st : St w0 N a w E L) (hx : evE E x = some (.float k i)) (hy : evE E y = some (.float k j)) (hi : Is k i ci) (hj : Is k j cj) (hd : Nat.blt d N = true)
    (hT : feqB k ci cj = false → ∀ a', St w0 N a' w ((d, .bool true) :: E) L → K a' w) (hF : feqB k ci cj = true → ∀ a', St w0 N a' w ((d, .bool false) :: E) L → K a' w) : Oper.wp P ⟨some d, .binOp .neq t x y ys, ty, pos, aft, g⟩ a w K Q := by
  cases hc : feqB k ci cj
  · exact o_val (v := .bool true) (w' := w) (by simp only [execOp, evE_eval st hx, evE_eval st hy, eqGuard_at_float, Sem.run_bind, Sem.run_pure, Result.andThen_ok, binOp_float_cmp_neq, hi.order hj, bne]; rw [feqB] at hc; rw [hc]; rfl) (hT hc _ (st.put d hd _))
  · exact o_val (v := .bool false) (w' := w) (by simp only [execOp, evE_eval st hx, evE_eval st hy, eqGuard_at_float, Sem.run_bind, Sem.run_pure, Result.andThen_ok, binOp_float_cmp_neq, hi.order hj, bne]; rw [feqB] at hc; rw [hc]; rfl) (hF hc _ (st.put d hd _))

/-- A conversion between the two kinds of floats. -/
theorem o_fcv {x : Operand} {src dst : TypeId} {s k : FloatKind} {i : Nat} {ci : Option Nat} [hs : FloatT P src s] [hk : FloatT P dst k] (hne : s ≠ k) (st : St w0 N a w E L) (hx : evE E x = some (.float s i)) (hi : Is s i ci) (hf : fits s k ci) (hd : Nat.blt d N = true)
    (h : ∀ r a' w', Is k r (fcv s k ci) → St w0 N a' w' ((d, .float k r) :: E) L → K a' w') : Oper.wp P ⟨some d, .convert src dst x, ty, pos, aft, g⟩ a w K Q := by
  obtain ⟨r, n, hr, hR⟩ := run_fcv (P := P) w src dst s k i hne (by simp [hs.u]) hk.u (by rw [hi.2]; exact hf)
  rw [hi.2] at hR
  refine o_val (v := .float k r) (w' := w.drewN n) ?_ (h r _ _ hR ((st.drewN n).put d hd _))
  simp only [execOp, evE_eval st hx, Sem.run_bind, Sem.run_pure, Result.andThen_ok, hr]
/-- A conversion of a float to its own kind. -/
theorem o_fcv0 {x : Operand} {src dst : TypeId} {s : FloatKind} {i : Nat} [hs : FloatT P src s] [hk : FloatT P dst s] (st : St w0 N a w E L) (hx : evE E x = some (.float s i)) (hd : Nat.blt d N = true)
    (h : ∀ a', St w0 N a' w ((d, .float s i) :: E) L → K a' w) : Oper.wp P ⟨some d, .convert src dst x, ty, pos, aft, g⟩ a w K Q := by
  refine o_val (v := .float s i) (w' := w) ?_ (h _ (st.put d hd _))
  simp only [execOp, evE_eval st hx, Sem.run_bind, Sem.run_pure, Result.andThen_ok, run_convert_float_float w src dst s s i i (by simp [hs.u]) hk.u (by simp [floatToFloatBits])]

theorem o_intFloat {x : Operand} {src dst : TypeId} {q q' : IntKind} {k : FloatKind} {n : Int} [hs : IntT P src q'] [hk : FloatT P dst k] (st : St w0 N a w E L) (hx : evE E x = some (.int q n)) (hd : Nat.blt d N = true)
    (h : ∀ a', St w0 N a' w ((d, .float k (floatOfInt k n)) :: E) L → K a' w) : Oper.wp P ⟨some d, .convert src dst x, ty, pos, aft, g⟩ a w K Q := by
  refine o_val (v := .float k (floatOfInt k n)) (w' := w) ?_ (h _ (st.put d hd _))
  simp only [execOp, evE_eval st hx, Sem.run_bind, Sem.run_pure, Result.andThen_ok, run_convert_int_float w src dst q k n (by simp [hs.u]) hk.u]

theorem Is_ofInt (k : FloatKind) (n : Int) : Is k (floatOfInt k n) (some (floatOfInt k n)) := by
  refine ⟨lt_of_wf (floatOfInt_wf k n), ?_⟩
  unfold floatOfInt FloatKind.nearest cl FloatKind.decode FloatKind.encode
  rw [not_nan_write _ _ rfl]
  simp

theorem o_intInt {x : Operand} {src dst : TypeId} {q q' k : IntKind} {n : Int} [hs : IntT P src q'] [hk : IntT P dst k] (st : St w0 N a w E L) (hx : evE E x = some (.int q n)) (hw : k.wrap n = n) (hd : Nat.blt d N = true)
    (h : ∀ a', St w0 N a' w ((d, .int k n) :: E) L → K a' w) : Oper.wp P ⟨some d, .convert src dst x, ty, pos, aft, g⟩ a w K Q := by
  refine o_val (v := .int k n) (w' := w) ?_ (h _ (st.put d hd _))
  have hik : P.intKind dst = k := by simp [Program.intKind, hk.u]
  simp only [execOp, evE_eval st hx, Sem.run_bind, Sem.run_pure]
  simp [convert, run_underlying hs.u, run_underlying hk.u, Conv.intToInt, hw]

/-! calls -/
theorem o_call {f : FuncId} {args : List Operand} {tys : Array TypeId} {vs : List Value} {R : Ending → World → Prop} [hf : FnT P f] (st : St w0 N a w E L) (ha : evs E args = some vs)
    (hc : Calls P f vs.toArray w R) (h : ∀ e w', R e w' → ∃ v, e = .returned v ∧ K (a.put (some d) v) w') : Oper.wp P ⟨some d, .call { callee := .value (.func f), args := args.toArray, argTypes := tys }, ty, pos, aft, g⟩ a w K Q := by
  have he : (execOp a.eval ⟨some d, .call { callee := .value (.func f), args := args.toArray, argTypes := tys }, ty, pos, aft, g⟩).run P w = .ok (.enter f vs.toArray) w := by
    simp [execOp, resolve, invoke, Deferred.ofValue, Act.eval, evs_map st ha, hf.call]
  unfold Oper.wp
  rw [he, Oper.upon_enter]
  refine hc.mono ?_
  intro e w' hR
  obtain ⟨v, rfl, hk⟩ := h e w' hR
  exact hk

/-- The frame behind a call. -/
theorem k_ret {w' : World} {v : Value} {L' : List Ent} (st : St w0 N a w E L) (hd : Nat.blt d N = true) (hs : ∀ {a E}, St w0 N a w E L → St w0 N a w' E L') (h : ∀ a', St w0 N a' w' ((d, v) :: E) L' → K a' w') : K (a.put (some d) v) w' :=
  h _ ((hs st).put d hd v)

theorem o_len {t e : TypeId} {x : Operand} {base : Option Addr} {n c : Nat} [hs : SliceT P t e] (st : St w0 N a w E L) (hx : evE E x = some (.slice base n c)) (hd : Nat.blt d N = true)
    (h : ∀ a', St w0 N a' w ((d, .int .i64 (n : Int)) :: E) L → K a' w) : Oper.wp P ⟨some d, .call { callee := .builtin .len, args := #[x], argTypes := #[t] }, ty, pos, aft, g⟩ a w K Q := by
  have hel : P.elem t = e := by simp [Program.elem, hs.u]
  refine o_val (v := .int .i64 (n : Int)) (w' := w) ?_ (h _ (st.put d hd _))
  simp [execOp, resolve, invoke, builtin, evE_eval st hx, run_len_slice (P := P) w t ty base n c (by rw [hel]; exact hs.u), goInt]

/-- A struct of scalar fields, all given. -/
theorem o_build {t : TypeId} {parts : List (Nat × Operand)} {cs : List Value} (st : St w0 N a w E L) (hb : ∀ w, (Instr.build t (parts.map fun p => (p.1, a.eval p.2)).toArray).run P w = .ok (.agg cs.toArray) w) (hd : Nat.blt d N = true)
    (h : ∀ a', St w0 N a' w ((d, .agg cs.toArray) :: E) L → K a' w) : Oper.wp P ⟨some d, .build t parts.toArray, ty, pos, aft, g⟩ a w K Q := by
  refine o_val (v := .agg cs.toArray) (w' := w) ?_ (h _ (st.put d hd _))
  have := hb w
  simp only [execOp, Sem.run_bind, Sem.run_pure, List.map_toArray] at this ⊢
  simp [this]

end
end Go.Proofs.YtclgplbikjmopaaGreatDoor
