/-
  Rules: struct literals, lists of spots, calls that give a spot.
-/
import Derived.Test.YtefnlalldgbcaaaC
import Derived.Laws.Tables
namespace Go.Proofs.Ytefnlalldgbcaaa
open Go.RowKit

/-- A struct of three single cells at 0, 1, 2. -/
class B3T (P : Program) (t : TypeId) (z0 z1 z2 : outParam Value) : Prop where
  b : ∀ parts, P.built t parts = Instr.fill ([(0, 1), (1, 1), (2, 1)].toArray[·]?) [z0, z1, z2].toArray parts

instance : B3T Try.prog 26 (.float .f32 0) (.float .f32 0) (.float .f32 0) := ⟨fun parts => by kernel_rfl⟩
/-- The cells of a list of spots. -/
def cS : List B3 → List Value
  | [] => []
  | b :: bs => .float .f32 b.1 :: .float .f32 b.2.1 :: .float .f32 b.2.2 :: cS bs

theorem cS_length : ∀ bs : List B3, (cS bs).length = bs.length * 3
  | [] => rfl
  | b :: bs => by simp [cS, cS_length bs]; omega
theorem cS_append : ∀ bs cs : List B3, cS (bs ++ cs) = cS bs ++ cS cs
  | [], cs => rfl
  | b :: bs, cs => by simp [cS, cS_append bs cs]
theorem cS_one : ∀ bs : List B3, ∀ v ∈ cS bs, v.oneCell' = true
  | [], v, h => by simp [cS] at h
  | b :: bs, v, h => by
    simp only [cS, List.mem_cons] at h
    rcases h with rfl | rfl | rfl | h
    · rfl
    · rfl
    · rfl
    · exact cS_one bs v h

/-- The cells hold these spots from 'off' on. -/
def SpotsIn (cs : Array Value) (off : Nat) (bs : List B3) : Prop := ∀ (i : Nat) (b : B3), bs[i]? = some b → cs[off + i * 3]? = some (.float .f32 b.1) ∧ cs[off + i * 3 + 1]? = some (.float .f32 b.2.1) ∧ cs[off + i * 3 + 2]? = some (.float .f32 b.2.2)

theorem cS_get : ∀ (bs : List B3) (i : Nat) (b : B3), bs[i]? = some b → (cS bs)[i * 3]? = some (.float .f32 b.1) ∧ (cS bs)[i * 3 + 1]? = some (.float .f32 b.2.1) ∧ (cS bs)[i * 3 + 2]? = some (.float .f32 b.2.2)
  | [], i, b, h => by simp at h
  | c :: bs, 0, b, h => by simp at h; subst h; simp [cS]
  | c :: bs, i + 1, b, h => by
    have := cS_get bs i b (by simpa using h)
    simp only [cS, show (i + 1) * 3 = i * 3 + 3 by omega]
    exact this

theorem spotsIn_cS (pre : List Value) (bs : List B3) (post : List Value) : SpotsIn (pre ++ cS bs ++ post).toArray pre.length bs := by
  intro i b h
  have hl : i < bs.length := (List.getElem?_eq_some_iff.1 h).1
  have h3 := cS_length bs
  obtain ⟨h0, h1, h2⟩ := cS_get bs i b h
  have key : ∀ j, j < bs.length * 3 → (pre ++ cS bs ++ post).toArray[pre.length + j]? = (cS bs)[j]? := by
    intro j hj
    simp only [List.getElem?_toArray, List.append_assoc]
    rw [List.getElem?_append_right (by omega), List.getElem?_append_left (by omega)]
    congr 1
    omega
  refine ⟨(key _ (by omega)).trans h0, ?_, ?_⟩
  · rw [Nat.add_assoc]; exact (key _ (by omega)).trans h1
  · rw [Nat.add_assoc]; exact (key _ (by omega)).trans h2
theorem spotsIn0 (bs : List B3) : SpotsIn (cS bs).toArray 0 bs := by simpa using spotsIn_cS [] bs []
theorem spotsIn0p (bs : List B3) (post : List Value) : SpotsIn (cS bs ++ post).toArray 0 bs := by simpa using spotsIn_cS [] bs post

/-- A list's memory holds these spots. -/
def RdS (w : World) (base : Option Addr) (bs : List B3) : Prop := bs = [] ∨ ∃ blk off cs t fr, base = some ⟨blk, off, none⟩ ∧ w.heap[blk]? = some (.cells cs t fr) ∧ SpotsIn cs off bs

theorem RdS.mono {w w' : World} {base : Option Addr} {bs : List B3} (h : RdS w base bs) (hb : Below w.heap.size w w') : RdS w' base bs := by
  rcases h with h | ⟨blk, off, cs, t, fr, h1, h2, h3⟩
  · exact .inl h
  · refine .inr ⟨blk, off, cs, t, fr, h1, ?_, h3⟩
    rw [hb.block blk (Array.getElem?_eq_some_iff.1 h2).1]
    exact h2

theorem RdS.of {w : World} {blk off : Nat} {cs : Array Value} {t : TypeId} {fr : Nat × Nat} {bs : List B3} (h : w.heap[blk]? = some (.cells cs t fr)) (hs : SpotsIn cs off bs) : RdS w (some ⟨blk, off, none⟩) bs := .inr ⟨_, _, _, _, _, rfl, h, hs⟩

section
variable {P : Program} {w0 w : World} {N : Nat} {a : Act} {E : List (Nat × Value)} {L Lh : List Ent} {K : Act → World → Prop} {Q : Exit → Act → World → Prop}
variable {d : Nat} {ty : TypeId} {pos : String} {aft : Array Edge} {g : Option (Nat × Bool)}

theorem fill3 {z0 z1 z2 v0 v1 v2 : Value} (h0 : v0.oneCell' = true) (h1 : v1.oneCell' = true) (h2 : v2.oneCell' = true) : Instr.fill ([(0, 1), (1, 1), (2, 1)].toArray[·]?) [z0, z1, z2].toArray [(0, v0), (1, v1), (2, v2)] = some [v0, v1, v2].toArray := by
  have c0 : v0.cells = #[v0] := cells_sca h0
  have c1 : v1.cells = #[v1] := cells_sca h1
  have c2 : v2.cells = #[v2] := cells_sca h2
  simp [Instr.fill, c0, c1, c2]
theorem o_build3 {t : TypeId} {x y z : Operand} {z0 z1 z2 v0 v1 v2 : Value} [hb : B3T P t z0 z1 z2] (st : St w0 N a w E L) (hx : evE E x = some v0) (hy : evE E y = some v1) (hz : evE E z = some v2) (h0 : v0.oneCell' = true) (h1 : v1.oneCell' = true) (h2 : v2.oneCell' = true) (hd : Nat.blt d N = true)
    (h : ∀ a', St w0 N a' w ((d, .agg [v0, v1, v2].toArray) :: E) L → K a' w) : Oper.wp P ⟨some d, .build t #[(0, x), (1, y), (2, z)], ty, pos, aft, g⟩ a w K Q :=
  o_build (parts := [(0, x), (1, y), (2, z)]) (cs := [v0, v1, v2]) st (fun w => run_build w t _ _ (by
    rw [hb.b]
    simp only [List.map_cons, List.map_nil, evE_eval st hx, evE_eval st hy, evE_eval st hz]
    exact fill3 h0 h1 h2)) hd h
theorem o_build0 {t : TypeId} {z0 z1 z2 : Value} [hb : B3T P t z0 z1 z2] (st : St w0 N a w E L) (hd : Nat.blt d N = true)
    (h : ∀ a', St w0 N a' w ((d, .agg [z0, z1, z2].toArray) :: E) L → K a' w) : Oper.wp P ⟨some d, .build t #[], ty, pos, aft, g⟩ a w K Q :=
  o_build (parts := []) (cs := [z0, z1, z2]) st (fun w => run_build w t _ _ (by rw [hb.b]; rfl)) hd h
/-- A load of a spot from memory that stood at the start. -/
theorem o_loadOld {t t' : TypeId} {x : Operand} {blk off : Nat} {cs : Array Value} {fr : Nat × Nat} {b : B3} [ht : AggT P t 3] (st : St w0 N a w E L) (hx : evE E x = some (.pointer (some ⟨blk, off, none⟩))) (hw : w0.heap[blk]? = some (.cells cs t' fr))
    (hv : cs[off]? = some (.float .f32 b.1) ∧ cs[off + 1]? = some (.float .f32 b.2.1) ∧ cs[off + 2]? = some (.float .f32 b.2.2)) (hd : Nat.blt d N = true) (h : ∀ a', St w0 N a' w ((d, vS b) :: E) L → K a' w) : Oper.wp P ⟨some d, .load t x, ty, pos, aft, g⟩ a w K Q := by
  have hb : w.heap[blk]? = some (.cells cs t' fr) := by rw [st.below.block blk (Array.getElem?_eq_some_iff.1 hw).1]; exact hw
  refine o_val (v := vS b) (w' := w) ?_ (h _ (st.put d hd _))
  have hl : (loadCells ⟨blk, off, none⟩ 3).run P w = .ok [Value.float .f32 b.1, .float .f32 b.2.1, .float .f32 b.2.2].toArray w := by
    refine run_loadCells_list (P := P) w ⟨blk, off, none⟩ [Value.float .f32 b.1, .float .f32 b.2.1, .float .f32 b.2.2] ?_
    intro j u hj
    rw [Addr.add_lit]
    refine (cell_of_row w blk (off + j) cs t' fr hb).trans ?_
    match j with
    | 0 => simp at hj; subst hj; exact hv.1
    | 1 => simp at hj; subst hj; exact hv.2.1
    | 2 => simp at hj; subst hj; exact hv.2.2
    | j + 3 => simp at hj
  simp only [execOp, evE_eval st hx, Instr.loadAt, Instr.sureAddr, loadVar, Sem.run_bind, Sem.run_pure, Result.andThen_ok, ht.agg, ht.size, if_true, hl, vS]

/-- A call that gives a spot of these classes. -/
def CS (P : Program) (f : FuncId) (vs : List Value) (w : World) (s : S3) : Prop := CR P f vs w fun v => ∃ b, v = vS b ∧ IsS b s
def CSB (P : Program) (f : FuncId) (vs : List Value) (w : World) (s : S3) (ok : Bool) : Prop := CR P f vs w fun v => ∃ b, v = .tuple #[vS b, .bool ok] ∧ IsS b s

end
end Go.Proofs.Ytefnlalldgbcaaa
