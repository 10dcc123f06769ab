/-
  Contracts: sums, differences and multiples of spots; lists that are cut; is a number a time.
-/
import Derived.Test.YtefnlalldgbcaaaS
namespace Go.Proofs.Ytefnlalldgbcaaa
open Go.RowKit
attribute [local irreducible] Code.wp wpList Oper.wp Calls bodyPost Exit.then Exit.inBlock

def addS (s t : S3) : S3 := (fop .add .f32 s.1 t.1, fop .add .f32 s.2.1 t.2.1, fop .add .f32 s.2.2 t.2.2)
def timesS (s : S3) (x : Option Nat) : S3 := (fop .mul .f32 s.1 x, fop .mul .f32 s.2.1 x, fop .mul .f32 s.2.2 x)

theorem add_ok (b b' : B3) (s s' : S3) (h : IsS b s) (h' : IsS b' s') (w : World) : CS Try.prog 128 [vS b, vS b'] w (addS s s') := by
  obtain ⟨x, y, z⟩ := b
  obtain ⟨x', y', z'⟩ := b'
  obtain ⟨h1, h2, h3⟩ := h
  obtain ⟨k1, k2, k3⟩ := h'
  refine enter Try.func128 rfl rfl rfl rfl ?_
  intro a st
  (repeat' (first | refine c_seq ?_  | refine c_region ?_  | refine l_do ?_  | refine l_nil ?_  | refine x_then ?_  | refine wp_ret ?_  | ((first | refine o_alloc st rfl ?_  | refine o_boxA st rfl rfl ?_ ); clear st; intro _ _ _ st)  | ((first | refine o_fieldAddr st rfl rfl ?_  | refine o_loadS st rfl (by repeat constructor) rfl rfl ?_ ); clear st; intro _ st)  | ((first | refine o_storeW st rfl rfl (by repeat constructor) rfl rfl rfl ?_); clear st; intro _ _ st)  | ((first | refine o_build3 st rfl rfl rfl rfl rfl rfl rfl ?_ ); clear st; intro _ st)  | (refine o_fop rfl st rfl rfl (by first | assumption | exact Is_ofInt _ _ | exact Is_lit (by decide +kernel)) (by first | assumption | exact Is_ofInt _ _ | exact Is_lit (by decide +kernel)) rfl ?_; clear st; intro _ _ _ _ st)))
  refine post1 st Try.results128 (rd_c st rfl (by repeat constructor) rfl) ?_
  exact ⟨_, rfl, ⟨(_, _, _), rfl, ⟨by assumption, by assumption, by assumption⟩⟩, st.ex0⟩
theorem times_ok (b : B3) (s : S3) (h : IsS b s) (x' : Nat) (c : Option Nat) (hx : Is .f32 x' c) (w : World) : CS Try.prog 127 [vS b, .float .f32 x'] w (timesS s c) := by
  obtain ⟨x, y, z⟩ := b
  obtain ⟨h1, h2, h3⟩ := h
  refine enter Try.func127 rfl rfl rfl rfl ?_
  intro a st
  (repeat' (first | refine c_seq ?_  | refine c_region ?_  | refine l_do ?_  | refine l_nil ?_  | refine x_then ?_  | refine wp_ret ?_  | (refine o_move st rfl rfl ?_; clear st; intro _ st)  | ((first | refine o_alloc st rfl ?_  | refine o_boxA st rfl rfl ?_ ); clear st; intro _ _ _ st)  | ((first | refine o_fieldAddr st rfl rfl ?_  | refine o_loadS st rfl (by repeat constructor) rfl rfl ?_ ); clear st; intro _ st)  | ((first | refine o_storeW st rfl rfl (by repeat constructor) rfl rfl rfl ?_); clear st; intro _ _ st)  | ((first | refine o_build3 st rfl rfl rfl rfl rfl rfl rfl ?_ ); clear st; intro _ st)  | (refine o_fop rfl st rfl rfl (by first | assumption | exact Is_ofInt _ _ | exact Is_lit (by decide +kernel)) (by first | assumption | exact Is_ofInt _ _ | exact Is_lit (by decide +kernel)) rfl ?_; clear st; intro _ _ _ _ st)))
  refine post1 st Try.results127 (rd_c st rfl (by repeat constructor) rfl) ?_
  exact ⟨_, rfl, ⟨(_, _, _), rfl, ⟨by assumption, by assumption, by assumption⟩⟩, st.ex0⟩

/-! ## cutting -/
abbrev one32 : Option Nat := some 1065353216
section
variable {P : Program} {w0 w : World} {N : Nat} {a : Act} {E : List (Nat × Value)} {L Lh : List Ent} {K : Act → World → Prop} {Q : Exit → Act → World → Prop}
variable {d : Nat} {ty : TypeId} {pos : String} {aft : Array Edge} {g : Option (Nat × Bool)}

/-- 'append' of one spot to an own list. -/
theorem o_append1 {t cap b ba bz : Nat} {bs : List B3} {b1 : B3} {zs pad : List Value} {x y : Operand} {Lr : List Ent} {ow : Bool} [hs : SliceT P t 26] [he : ElemT P 26 3 bz zs] (hbz : Nat.ble bz 1000 = true) (st : St w0 N a w E L)
    (hx : evE E x = some (.slice (some ⟨b, 0, none⟩) bs.length cap)) (hy : evE E y = some (.slice (some ⟨ba, 0, none⟩) 1 1)) (hR : Rem L b (oS bs pad) Lr)
    (hA : At L ba ow (.cells (cS [b1]).toArray 26 (0, 0))) (hp : (cS bs ++ pad).length = cap * 3) (hlim : bs.length < 10000000000) (hd : Nat.blt d N = true)
    (h : ∀ b' cap' pad' a' w', (cS (bs ++ [b1]) ++ pad').length = cap' * 3 → St w0 N a' w' ((d, .slice (some ⟨b', 0, none⟩) (bs ++ [b1]).length cap') :: E) (⟨b', true, oS (bs ++ [b1]) pad'⟩ :: Lr) → K a' w') :
    Oper.wp P ⟨some d, .call { callee := .builtin .append, args := #[x, y], argTypes := #[t, t] }, ty, pos, aft, g⟩ a w K Q :=
  o_appendSp (cs := [b1]) hbz st hx hy hR (RdS.of (st.heap hA) (spotsIn0 _)) hp (by simp <;> omega) hd h
theorem o_callSb {f : FuncId} {args : List Operand} {tys : Array TypeId} {vs : List Value} {s : S3} [hf : FnT P f] (st : St w0 N a w E L) (ha : evs E args = some vs)
    (hc : CS P f vs w s) (hd : Nat.blt d N = true) (h : ∀ b, IsS b s → ∀ a' w', St w0 N a' w' ((d, vS b) :: E) L → K a' w') : Oper.wp P ⟨some d, .call { callee := .value (.func f), args := args.toArray, argTypes := tys }, ty, pos, aft, g⟩ a w K Q :=
  o_callR st ha hc hd fun v ⟨b, hv, hb⟩ => by subst hv; exact h b hb

/-- A spot out of memory as it is now. -/
theorem o_loadCur {t t' : TypeId} {x : Operand} {blk off : Nat} {cs : Array Value} {fr : Nat × Nat} {b : B3} [ht : AggT P t 3] (st : St w0 N a w E L) (hx : evE E x = some (.pointer (some ⟨blk, off, none⟩))) (hw : w.heap[blk]? = some (.cells cs t' fr))
    (hv : cs[off]? = some (.float .f32 b.1) ∧ cs[off + 1]? = some (.float .f32 b.2.1) ∧ cs[off + 2]? = some (.float .f32 b.2.2)) (hd : Nat.blt d N = true)
    (h : ∀ a', St w0 N a' w ((d, vS b) :: E) L → K a' w) : Oper.wp P ⟨some d, .load t x, ty, pos, aft, g⟩ a w K Q := by
  refine o_val (v := vS b) (w' := w) ?_ (h _ (st.put d hd _))
  have hl : (loadCells ⟨blk, off, none⟩ 3).run P w = .ok [Value.float .f32 b.1, .float .f32 b.2.1, .float .f32 b.2.2].toArray w := by
    refine run_loadCells_list (P := P) w ⟨blk, off, none⟩ [Value.float .f32 b.1, .float .f32 b.2.1, .float .f32 b.2.2] ?_
    intro j u hj
    rw [Addr.add_lit]
    refine (cell_of_row w blk _ cs t' fr hw).trans ?_
    match j with
    | 0 => simp at hj; subst hj; exact hv.1
    | 1 => simp at hj; subst hj; exact hv.2.1
    | 2 => simp at hj; subst hj; exact hv.2.2
    | j + 3 => simp at hj
  simp only [execOp, evE_eval st hx, Instr.loadAt, Instr.sureAddr, loadVar, Sem.run_bind, Sem.run_pure, Result.andThen_ok, ht.agg, ht.size, if_true, hl]
  rfl
end

end Go.Proofs.Ytefnlalldgbcaaa
