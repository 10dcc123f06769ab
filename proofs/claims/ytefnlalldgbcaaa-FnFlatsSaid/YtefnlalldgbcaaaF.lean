/-
  Rules: struct literals, lists of spots, calls that give a spot.
-/
import Derived.Test.YtefnlalldgbcaaaC
import Derived.Laws.Tables
namespace Go.Proofs.Ytefnlalldgbcaaa
open Go.RowKit

/-- A struct of three single cells at 0, 1, 2. -/
class B3T (P : Program) (t : TypeId) (z0 z1 z2 : outParam Value) : Prop where
  b : ∀ parts, P.built t parts = Instr.fill ([(0, 1), (1, 1), (2, 1)].toArray[·]?) [z0, z1, z2].toArray parts

instance : B3T Try.prog 26 (.float .f32 0) (.float .f32 0) (.float .f32 0) := ⟨fun parts => by kernel_rfl⟩
instance : B3T Try.prog 46 (.int .i64 0) (.int .i64 0) (.slice none 0 0) := ⟨fun parts => by kernel_rfl⟩

/-- The cells of a list of spots. -/
def cS : List B3 → List Value
  | [] => []
  | b :: bs => .float .f32 b.1 :: .float .f32 b.2.1 :: .float .f32 b.2.2 :: cS bs

theorem cS_length : ∀ bs : List B3, (cS bs).length = bs.length * 3
  | [] => rfl
  | b :: bs => by simp [cS, cS_length bs]; omega
theorem cS_append : ∀ bs cs : List B3, cS (bs ++ cs) = cS bs ++ cS cs
  | [], cs => rfl
  | b :: bs, cs => by simp [cS, cS_append bs cs]
theorem cS_one : ∀ bs : List B3, ∀ v ∈ cS bs, v.oneCell' = true
  | [], v, h => by simp [cS] at h
  | b :: bs, v, h => by
    simp only [cS, List.mem_cons] at h
    rcases h with rfl | rfl | rfl | h
    · rfl
    · rfl
    · rfl
    · exact cS_one bs v h

/-- The cells hold these spots from 'off' on. -/
def SpotsIn (cs : Array Value) (off : Nat) (bs : List B3) : Prop := ∀ (i : Nat) (b : B3), bs[i]? = some b → cs[off + i * 3]? = some (.float .f32 b.1) ∧ cs[off + i * 3 + 1]? = some (.float .f32 b.2.1) ∧ cs[off + i * 3 + 2]? = some (.float .f32 b.2.2)

theorem cS_get : ∀ (bs : List B3) (i : Nat) (b : B3), bs[i]? = some b → (cS bs)[i * 3]? = some (.float .f32 b.1) ∧ (cS bs)[i * 3 + 1]? = some (.float .f32 b.2.1) ∧ (cS bs)[i * 3 + 2]? = some (.float .f32 b.2.2)
  | [], i, b, h => by simp at h
  | c :: bs, 0, b, h => by simp at h; subst h; simp [cS]
  | c :: bs, i + 1, b, h => by
    have := cS_get bs i b (by simpa using h)
    simp only [cS, show (i + 1) * 3 = i * 3 + 3 by omega]
    exact this

theorem spotsIn_cS (pre : List Value) (bs : List B3) (post : List Value) : SpotsIn (pre ++ cS bs ++ post).toArray pre.length bs := by
  intro i b h
  have hl : i < bs.length := (List.getElem?_eq_some_iff.1 h).1
  have h3 := cS_length bs
  obtain ⟨h0, h1, h2⟩ := cS_get bs i b h
  have key : ∀ j, j < bs.length * 3 → (pre ++ cS bs ++ post).toArray[pre.length + j]? = (cS bs)[j]? := by
    intro j hj
    simp only [List.getElem?_toArray, List.append_assoc]
    rw [List.getElem?_append_right (by omega), List.getElem?_append_left (by omega)]
    congr 1
    omega
  refine ⟨(key _ (by omega)).trans h0, ?_, ?_⟩
  · rw [Nat.add_assoc]; exact (key _ (by omega)).trans h1
  · rw [Nat.add_assoc]; exact (key _ (by omega)).trans h2
theorem spotsIn0 (bs : List B3) : SpotsIn (cS bs).toArray 0 bs := by simpa using spotsIn_cS [] bs []
theorem spotsIn0p (bs : List B3) (post : List Value) : SpotsIn (cS bs ++ post).toArray 0 bs := by simpa using spotsIn_cS [] bs post

/-- A list's memory holds these spots. -/
def RdS (w : World) (base : Option Addr) (bs : List B3) : Prop := bs = [] ∨ ∃ blk off cs t fr, base = some ⟨blk, off, none⟩ ∧ w.heap[blk]? = some (.cells cs t fr) ∧ SpotsIn cs off bs

theorem RdS.mono {w w' : World} {base : Option Addr} {bs : List B3} (h : RdS w base bs) (hb : Below w.heap.size w w') : RdS w' base bs := by
  rcases h with h | ⟨blk, off, cs, t, fr, h1, h2, h3⟩
  · exact .inl h
  · refine .inr ⟨blk, off, cs, t, fr, h1, ?_, h3⟩
    rw [hb.block blk (Array.getElem?_eq_some_iff.1 h2).1]
    exact h2

theorem RdS.of {w : World} {blk off : Nat} {cs : Array Value} {t : TypeId} {fr : Nat × Nat} {bs : List B3} (h : w.heap[blk]? = some (.cells cs t fr)) (hs : SpotsIn cs off bs) : RdS w (some ⟨blk, off, none⟩) bs := .inr ⟨_, _, _, _, _, rfl, h, hs⟩

section
variable {P : Program} {w0 w : World} {N : Nat} {a : Act} {E : List (Nat × Value)} {L Lh : List Ent} {K : Act → World → Prop} {Q : Exit → Act → World → Prop}
variable {d : Nat} {ty : TypeId} {pos : String} {aft : Array Edge} {g : Option (Nat × Bool)}

theorem fill3 {z0 z1 z2 v0 v1 v2 : Value} (h0 : v0.oneCell' = true) (h1 : v1.oneCell' = true) (h2 : v2.oneCell' = true) : Instr.fill ([(0, 1), (1, 1), (2, 1)].toArray[·]?) [z0, z1, z2].toArray [(0, v0), (1, v1), (2, v2)] = some [v0, v1, v2].toArray := by
  have c0 : v0.cells = #[v0] := cells_sca h0
  have c1 : v1.cells = #[v1] := cells_sca h1
  have c2 : v2.cells = #[v2] := cells_sca h2
  simp [Instr.fill, c0, c1, c2]
theorem fill2 {z0 z1 z2 v0 v1 : Value} (h0 : v0.oneCell' = true) (h1 : v1.oneCell' = true) : Instr.fill ([(0, 1), (1, 1), (2, 1)].toArray[·]?) [z0, z1, z2].toArray [(0, v0), (1, v1)] = some [v0, v1, z2].toArray := by
  have c0 : v0.cells = #[v0] := cells_sca h0
  have c1 : v1.cells = #[v1] := cells_sca h1
  simp [Instr.fill, c0, c1]

theorem o_build3 {t : TypeId} {x y z : Operand} {z0 z1 z2 v0 v1 v2 : Value} [hb : B3T P t z0 z1 z2] (st : St w0 N a w E L) (hx : evE E x = some v0) (hy : evE E y = some v1) (hz : evE E z = some v2) (h0 : v0.oneCell' = true) (h1 : v1.oneCell' = true) (h2 : v2.oneCell' = true) (hd : Nat.blt d N = true)
    (h : ∀ a', St w0 N a' w ((d, .agg [v0, v1, v2].toArray) :: E) L → K a' w) : Oper.wp P ⟨some d, .build t #[(0, x), (1, y), (2, z)], ty, pos, aft, g⟩ a w K Q :=
  o_build (parts := [(0, x), (1, y), (2, z)]) (cs := [v0, v1, v2]) st (fun w => run_build w t _ _ (by
    rw [hb.b]
    simp only [List.map_cons, List.map_nil, evE_eval st hx, evE_eval st hy, evE_eval st hz]
    exact fill3 h0 h1 h2)) hd h
theorem o_build2 {t : TypeId} {x y : Operand} {z0 z1 z2 v0 v1 : Value} [hb : B3T P t z0 z1 z2] (st : St w0 N a w E L) (hx : evE E x = some v0) (hy : evE E y = some v1) (h0 : v0.oneCell' = true) (h1 : v1.oneCell' = true) (hd : Nat.blt d N = true)
    (h : ∀ a', St w0 N a' w ((d, .agg [v0, v1, z2].toArray) :: E) L → K a' w) : Oper.wp P ⟨some d, .build t #[(0, x), (1, y)], ty, pos, aft, g⟩ a w K Q :=
  o_build (parts := [(0, x), (1, y)]) (cs := [v0, v1, z2]) st (fun w => run_build w t _ _ (by
    rw [hb.b]
    simp only [List.map_cons, List.map_nil, evE_eval st hx, evE_eval st hy]
    exact fill2 h0 h1)) hd h
theorem o_build0 {t : TypeId} {z0 z1 z2 : Value} [hb : B3T P t z0 z1 z2] (st : St w0 N a w E L) (hd : Nat.blt d N = true)
    (h : ∀ a', St w0 N a' w ((d, .agg [z0, z1, z2].toArray) :: E) L → K a' w) : Oper.wp P ⟨some d, .build t #[], ty, pos, aft, g⟩ a w K Q :=
  o_build (parts := []) (cs := [z0, z1, z2]) st (fun w => run_build w t _ _ (by rw [hb.b]; rfl)) hd h
/-- A load of a spot from memory that stood at the start. -/
theorem o_loadOld {t t' : TypeId} {x : Operand} {blk off : Nat} {cs : Array Value} {fr : Nat × Nat} {b : B3} [ht : AggT P t 3] (st : St w0 N a w E L) (hx : evE E x = some (.pointer (some ⟨blk, off, none⟩))) (hw : w0.heap[blk]? = some (.cells cs t' fr))
    (hv : cs[off]? = some (.float .f32 b.1) ∧ cs[off + 1]? = some (.float .f32 b.2.1) ∧ cs[off + 2]? = some (.float .f32 b.2.2)) (hd : Nat.blt d N = true) (h : ∀ a', St w0 N a' w ((d, vS b) :: E) L → K a' w) : Oper.wp P ⟨some d, .load t x, ty, pos, aft, g⟩ a w K Q := by
  have hb : w.heap[blk]? = some (.cells cs t' fr) := by rw [st.below.block blk (Array.getElem?_eq_some_iff.1 hw).1]; exact hw
  refine o_val (v := vS b) (w' := w) ?_ (h _ (st.put d hd _))
  have hl : (loadCells ⟨blk, off, none⟩ 3).run P w = .ok [Value.float .f32 b.1, .float .f32 b.2.1, .float .f32 b.2.2].toArray w := by
    refine run_loadCells_list (P := P) w ⟨blk, off, none⟩ [Value.float .f32 b.1, .float .f32 b.2.1, .float .f32 b.2.2] ?_
    intro j u hj
    rw [Addr.add_lit]
    refine (cell_of_row w blk (off + j) cs t' fr hb).trans ?_
    match j with
    | 0 => simp at hj; subst hj; exact hv.1
    | 1 => simp at hj; subst hj; exact hv.2.1
    | 2 => simp at hj; subst hj; exact hv.2.2
    | j + 3 => simp at hj
  simp only [execOp, evE_eval st hx, Instr.loadAt, Instr.sureAddr, loadVar, Sem.run_bind, Sem.run_pure, Result.andThen_ok, ht.agg, ht.size, if_true, hl, vS]

/-- A load of a spot of a known block. -/
theorem o_loadSp {t t' : TypeId} {x : Operand} {blk off : Nat} {own : Bool} {cs : Array Value} {fr : Nat × Nat} {b : B3} [ht : AggT P t 3] (st : St w0 N a w E L) (hx : evE E x = some (.pointer (some ⟨blk, off, none⟩))) (hA : At L blk own (.cells cs t' fr))
    (hv : cs[off]? = some (.float .f32 b.1) ∧ cs[off + 1]? = some (.float .f32 b.2.1) ∧ cs[off + 2]? = some (.float .f32 b.2.2)) (hd : Nat.blt d N = true) (h : ∀ a', St w0 N a' w ((d, vS b) :: E) L → K a' w) : Oper.wp P ⟨some d, .load t x, ty, pos, aft, g⟩ a w K Q := by
  refine o_loadA [Value.float .f32 b.1, .float .f32 b.2.1, .float .f32 b.2.2] st hx hA rfl ?_ hd h
  intro j u hj
  match j with
  | 0 => simp at hj; subst hj; exact hv.1
  | 1 => simp at hj; subst hj; exact hv.2.1
  | 2 => simp at hj; subst hj; exact hv.2.2
  | j + 3 => simp at hj

/-- A call that gives a spot of these classes. -/
def CS (P : Program) (f : FuncId) (vs : List Value) (w : World) (s : S3) : Prop := CR P f vs w fun v => ∃ b, v = vS b ∧ IsS b s
def CSB (P : Program) (f : FuncId) (vs : List Value) (w : World) (s : S3) (ok : Bool) : Prop := CR P f vs w fun v => ∃ b, v = .tuple #[vS b, .bool ok] ∧ IsS b s

theorem o_callS {f : FuncId} {args : List Operand} {tys : Array TypeId} {vs : List Value} {s : S3} [hf : FnT P f] (st : St w0 N a w E L) (ha : evs E args = some vs)
    (hc : CS P f vs w s) (hd : Nat.blt d N = true) (h : ∀ x y z, Is .f32 x s.1 → Is .f32 y s.2.1 → Is .f32 z s.2.2 → ∀ a' w', St w0 N a' w' ((d, vS (x, y, z)) :: E) L → K a' w') : Oper.wp P ⟨some d, .call { callee := .value (.func f), args := args.toArray, argTypes := tys }, ty, pos, aft, g⟩ a w K Q :=
  o_callR st ha hc hd fun v ⟨b, hv, hb⟩ => by subst hv; exact h b.1 b.2.1 b.2.2 hb.x hb.y hb.z
theorem o_callSB {f : FuncId} {args : List Operand} {tys : Array TypeId} {vs : List Value} {s : S3} {ok : Bool} [hf : FnT P f] (st : St w0 N a w E L) (ha : evs E args = some vs)
    (hc : CSB P f vs w s ok) (hd : Nat.blt d N = true) (h : ∀ x y z, Is .f32 x s.1 → Is .f32 y s.2.1 → Is .f32 z s.2.2 → ∀ a' w', St w0 N a' w' ((d, .tuple #[vS (x, y, z), .bool ok]) :: E) L → K a' w') : Oper.wp P ⟨some d, .call { callee := .value (.func f), args := args.toArray, argTypes := tys }, ty, pos, aft, g⟩ a w K Q :=
  o_callR st ha hc hd fun v ⟨b, hv, hb⟩ => by subst hv; exact h b.1 b.2.1 b.2.2 hb.x hb.y hb.z

theorem IsS.mk' {x y z : Nat} {s : S3} (hx : Is .f32 x s.1) (hy : Is .f32 y s.2.1) (hz : Is .f32 z s.2.2) : IsS (x, y, z) s := ⟨hx, hy, hz⟩
end
end Go.Proofs.Ytefnlalldgbcaaa

namespace Go.Proofs.Ytefnlalldgbcaaa
open Go.RowKit
attribute [local irreducible] Code.wp wpList Oper.wp Calls bodyPost Exit.then Exit.inBlock

def z3 : S3 := (some 0, some 0, some 0)
/-- What is given: the spot, if finite; else none. -/
def giveS (s : S3) : S3 := bif finS s then s else z3
theorem Is_z : Is .f32 0 (some 0) := Is_lit (by decide +kernel)
theorem IsS_z : IsS (0, 0, 0) z3 := ⟨Is_z, Is_z, Is_z⟩

theorem ifSpot_ok (b : B3) (s : S3) (h : IsS b s) (w : World) : CSB Try.prog 111 [vS b] w (giveS s) (finS s) := by
  refine enter Try.func111 rfl rfl rfl rfl ?_
  intro a st
  (repeat' (first | (refine o_callB st rfl (implIsSpot_ok b s h _) rfl ?_ ?_ <;> clear st <;> intro _ _ _ st)  | refine c_seq ?_  | refine c_region ?_  | refine l_do ?_  | refine l_nil ?_  | refine x_then ?_  | refine x_thenR ?_  | refine wp_ret ?_  | refine wp_skip ?_  | refine c_condT st rfl ?_  | refine c_condF st rfl ?_  | (refine o_assign st rfl rfl ?_; clear st; intro _ st)  | ((first | refine o_alloc st rfl ?_  | refine o_boxA st rfl rfl ?_ ); clear st; intro _ _ _ st)  | ((first | refine o_load3 st rfl (by repeat constructor) rfl ?_ ); clear st; intro _ st)  | ((first | refine o_storeW st rfl rfl (by repeat constructor) rfl rfl rfl ?_); clear st; intro _ _ st)  | ((first | refine o_build0 st rfl ?_  | refine o_notT st rfl rfl ?_  | refine o_notF st rfl rfl ?_); clear st; intro _ st)))
  · refine post2 st Try.results111 (rd_c st rfl (by repeat constructor) rfl) (rd_t st rfl) ?_
    have hf : finS s = true := by assumption
    exact ⟨_, rfl, ⟨b, by rw [hf]; rfl, by simpa [giveS, hf] using h⟩, st.ex0⟩
  · refine post2 st Try.results111 (rd_c st rfl (by repeat constructor) rfl) (rd_t st rfl) ?_
    have hf : finS s = false := by assumption
    exact ⟨_, rfl, ⟨(0, 0, 0), by rw [hf]; rfl, by simpa [giveS, hf] using IsS_z⟩, st.ex0⟩

/-- The classes of the crossed spot. -/
def crossC (s t : S3) : S3 := (fop .sub .f32 (fop .mul .f32 s.2.1 t.2.2) (fop .mul .f32 s.2.2 t.2.1), fop .sub .f32 (fop .mul .f32 s.2.2 t.1) (fop .mul .f32 s.1 t.2.2), fop .sub .f32 (fop .mul .f32 s.1 t.2.1) (fop .mul .f32 s.2.1 t.1))

set_option maxHeartbeats 4000000 in
theorem crossed_ok (b b' : B3) (s s' : S3) (h : IsS b s) (h' : IsS b' s') (w : World) : CS Try.prog 112 [vS b, vS b'] w (crossC s s') := by
  obtain ⟨x, y, z⟩ := b
  obtain ⟨c1, c2, c3⟩ := s
  obtain ⟨h1, h2, h3⟩ := h
  obtain ⟨x', y', z'⟩ := b'
  obtain ⟨d1, d2, d3⟩ := s'
  obtain ⟨h4, h5, h6⟩ := h'
  refine enter Try.func112 rfl rfl rfl rfl ?_
  intro a st
  (repeat' (first | refine c_seq ?_  | refine c_region ?_  | refine l_do ?_  | refine l_nil ?_  | refine x_then ?_  | refine wp_ret ?_  | ((first | refine o_alloc st rfl ?_  | refine o_boxA st rfl rfl ?_ ); clear st; intro _ _ _ st)  | ((first | refine o_fieldAddr st rfl rfl ?_  | refine o_loadS st rfl (by repeat constructor) rfl rfl ?_ ); clear st; intro _ st)  | ((first | refine o_storeW st rfl rfl (by repeat constructor) rfl rfl rfl ?_); clear st; intro _ _ st)  | ((first | refine o_build3 st rfl rfl rfl rfl rfl rfl rfl ?_ ); clear st; intro _ st)  | (refine o_fop rfl st rfl rfl (by first | assumption | exact Is_ofInt _ _ | exact Is_lit (by decide +kernel)) (by first | assumption | exact Is_ofInt _ _ | exact Is_lit (by decide +kernel)) rfl ?_; clear st; intro _ _ _ _ st)))
  refine post1 st Try.results112 (rd_c st rfl (by repeat constructor) rfl) ?_
  exact ⟨_, rfl, ⟨(_, _, _), rfl, IsS.mk' (by assumption) (by assumption) (by assumption)⟩, st.ex0⟩
end Go.Proofs.Ytefnlalldgbcaaa
