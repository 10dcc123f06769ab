/-
  Rules: lists that grow, literals without elements, parts of lists, stores into elements.
-/
import Derived.Test.YtefnlalldgbcaaaO
namespace Go.Proofs.Ytefnlalldgbcaaa
open Go.RowKit

section
variable {P : Program} {w0 w : World} {N : Nat} {a : Act} {E : List (Nat × Value)} {L Lh : List Ent} {K : Act → World → Prop} {Q : Exit → Act → World → Prop}
variable {d : Nat} {ty : TypeId} {pos : String} {aft : Array Edge} {g : Option (Nat × Bool)}

/-! ## spots -/
/-- The block of a list of spots, with room. -/
abbrev oS (bs : List B3) (pad : List Value) : Obj := .cells (cS bs ++ pad).toArray 26 (0, 0)

theorem RdS.cell {w : World} {ba offa : Nat} {cs : List B3} (h : RdS w (some ⟨ba, offa, none⟩) cs) : ∀ j u, (cS cs)[j]? = some u → w.cell? ⟨ba, offa + j, none⟩ = some u := by
  intro j u hj
  rcases h with rfl | ⟨blk, off, c, t, fr, hb, hw, hsp⟩
  · simp [cS] at hj
  · cases hb
    have hlt : j < cs.length * 3 := by
      have := (List.getElem?_eq_some_iff.1 hj).1
      rwa [cS_length] at this
    have hk : j / 3 < cs.length := by omega
    obtain ⟨g0, g1, g2⟩ := hsp (j / 3) cs[j / 3] (by simp [hk])
    obtain ⟨e0, e1, e2⟩ := cS_get cs (j / 3) cs[j / 3] (by simp [hk])
    rw [cell_of_row w ba _ c t fr hw]
    have hm : j % 3 = 0 ∨ j % 3 = 1 ∨ j % 3 = 2 := by omega
    rcases hm with hm | hm | hm
    · have : j = j / 3 * 3 := by omega
      rw [this] at hj ⊢
      rw [e0] at hj; rw [← hj]; exact g0
    · have : j = j / 3 * 3 + 1 := by omega
      rw [this] at hj ⊢
      rw [e1] at hj; rw [← hj, ← Nat.add_assoc]; exact g1
    · have : j = j / 3 * 3 + 2 := by omega
      rw [this] at hj ⊢
      rw [e2] at hj; rw [← hj, ← Nat.add_assoc]; exact g2

theorem o_appendSp {t cap c b ba offa bz : Nat} {bs cs : List B3} {zs pad : List Value} {x y : Operand} {Lr : List Ent} [hs : SliceT P t 26] [he : ElemT P 26 3 bz zs] (hbz : Nat.ble bz 1000 = true) (st : St w0 N a w E L)
    (hx : evE E x = some (.slice (some ⟨b, 0, none⟩) bs.length cap)) (hy : evE E y = some (.slice (some ⟨ba, offa, none⟩) cs.length c)) (hR : Rem L b (oS bs pad) Lr)
    (hA : RdS w (some ⟨ba, offa, none⟩) cs) (hp : (cS bs ++ pad).length = cap * 3) (hlim : bs.length + cs.length ≤ 100000000000) (hd : Nat.blt d N = true)
    (h : ∀ b' cap' pad' a' w', (cS (bs ++ cs) ++ pad').length = cap' * 3 → St w0 N a' w' ((d, .slice (some ⟨b', 0, none⟩) (bs ++ cs).length cap') :: E) (⟨b', true, oS (bs ++ cs) pad'⟩ :: Lr) → K a' w') :
    Oper.wp P ⟨some d, .call { callee := .builtin .append, args := #[x, y], argTypes := #[t, t] }, ty, pos, aft, g⟩ a w K Q := by
  have hbz' : bz ≤ 1000 := Nat.le_of_ble_eq_true hbz
  refine o_append st hx hy hR hA.cell (cS_length _) hp (cS_length _) (cS_one _) (by omega) ?_ hd ?_
  · calc (bs.length + cs.length) * bz ≤ (bs.length + cs.length) * 1000 := Nat.mul_le_mul_left _ hbz'
      _ ≤ 140737488355328 := by omega
  · intro b' cap' pad' a' w' hl st'
    rw [← List.length_append, ← cS_append] at st'
    rw [← cS_append] at hl
    exact h b' cap' pad' a' w' hl st'

/-- A literal without elements. -/
theorem o_buildSlice0 {t e size bz : Nat} {zs : List Value} [hs : SliceT P t e] [he : ElemT P e size bz zs] (st : St w0 N a w E L) (hd : Nat.blt d N = true)
    (h : ∀ b a' w', St w0 N a' w' ((d, .slice (some ⟨b, 0, none⟩) 0 0) :: E) (⟨b, true, .cells (([] : List Value)).toArray e (0, 0)⟩ :: L) → K a' w') : Oper.wp P ⟨some d, .buildSlice t 0 #[], ty, pos, aft, g⟩ a w K Q := by
  obtain ⟨i', z', hi, hz, hsz, _, hzc, _, _⟩ := he.info
  refine o_val (v := .slice (some ⟨w.heap.size, 0, none⟩) 0 0) (w' := w.alloc (.cells (([] : List Value)).toArray e)) ?_ (h _ _ _ ((st.alloc _).put d hd _))
  have hz0 : (Array.map (fun (x : Nat) => (default : Value)) (Array.range 0)) = #[] := by simp
  simp [execOp, Instr.buildSlice, run_underlying hs.u, sizeOf, typeInfo, hi, newRow, Instr.fill, hz0]
theorem o_buildSlice0S {t bz : Nat} {zs : List Value} [hs : SliceT P t 26] [he : ElemT P 26 3 bz zs] (st : St w0 N a w E L) (hd : Nat.blt d N = true)
    (h : ∀ b a' w', St w0 N a' w' ((d, .slice (some ⟨b, 0, none⟩) ([] : List B3).length 0) :: E) (⟨b, true, oS [] []⟩ :: L) → K a' w') : Oper.wp P ⟨some d, .buildSlice t 0 #[], ty, pos, aft, g⟩ a w K Q :=
  o_buildSlice0 st hd h

/-! ## parts of lists -/
theorem elemOf {t e : TypeId} [hs : SliceT P t e] : P.elem t = e := by simp [Program.elem, hs.u]
theorem sizeOfE {e size bz : Nat} {zs : List Value} [he : ElemT P e size bz zs] (w : World) : (sizeOf e).run P w = .ok size w := by
  obtain ⟨i', z', hi, hz, hsz, _⟩ := he.info
  simp [sizeOf, typeInfo, hi, hsz]

theorem o_sliceH {t e size bz len cap : Nat} {zs : List Value} {base : Option Addr} {x h : Operand} {kh : IntKind} {hi : Int} [hs : SliceT P t e] [he : ElemT P e size bz zs] (st : St w0 N a w E L)
    (hx : evE E x = some (.slice base len cap)) (hh : evE E h = some (.int kh hi)) (h0 : 0 ≤ hi) (h2 : hi ≤ cap) (hd : Nat.blt d N = true)
    (hk : ∀ a', St w0 N a' w ((d, .slice (if cap = 0 then base else base.map (·.add (0 * size))) (hi.toNat - 0) (cap - 0)) :: E) L → K a' w) : Oper.wp P ⟨some d, .slice t x none (some h) none, ty, pos, aft, g⟩ a w K Q := by
  have hel : P.elem t = e := elemOf
  have ht : P.underlying t = some (.slice (P.elem t)) := by rw [hel]; exact hs.u
  refine o_val (w' := w) ?_ (hk _ (st.put d hd _))
  simp only [execOp, Option.map_some, Option.map_none, evE_eval st hx, evE_eval st hh, Sem.run_bind, run_sliceAt_slice (P := P) w t _ _ _ _ ht, run_slice_h (P := P) w t base len cap ht kh hi h0 h2, hel, sizeOfE (P := P) (e := e) w, Result.andThen_ok, Sem.run_pure]
  rfl
theorem o_sliceL {t e size bz len cap : Nat} {zs : List Value} {base : Option Addr} {x l : Operand} {kl : IntKind} {lo : Int} [hs : SliceT P t e] [he : ElemT P e size bz zs] (st : St w0 N a w E L)
    (hx : evE E x = some (.slice base len cap)) (hl : evE E l = some (.int kl lo)) (h0 : 0 ≤ lo) (h1 : lo ≤ len) (hd : Nat.blt d N = true)
    (hk : ∀ a', St w0 N a' w ((d, .slice (if cap = lo.toNat then base else base.map (·.add (lo.toNat * size))) (len - lo.toNat) (cap - lo.toNat)) :: E) L → K a' w) : Oper.wp P ⟨some d, .slice t x (some l) none none, ty, pos, aft, g⟩ a w K Q := by
  have hel : P.elem t = e := elemOf
  have ht : P.underlying t = some (.slice (P.elem t)) := by rw [hel]; exact hs.u
  refine o_val (w' := w) ?_ (hk _ (st.put d hd _))
  simp only [execOp, Option.map_some, Option.map_none, evE_eval st hx, evE_eval st hl, Sem.run_bind, run_sliceAt_slice (P := P) w t _ _ _ _ ht, run_slice_l (P := P) w t base len cap ht kl lo h0 h1, hel, sizeOfE (P := P) (e := e) w, Result.andThen_ok, Sem.run_pure]
  rfl
/-! ## classes of lists -/
theorem IsSL.part {bs : List B3} {ss : List S3} (h : IsSL bs ss) (k n : Nat) : IsSL ((bs.drop k).take n) ((ss.drop k).take n) := by
  refine ⟨by simp [h.len], ?_⟩
  intro i b s hb hs
  rw [List.getElem?_take] at hb hs
  split at hb
  · rw [List.getElem?_drop] at hb hs
    simp_all
    exact h.get _ _ _ hb hs
  · cases hb
end
end Go.Proofs.Ytefnlalldgbcaaa
