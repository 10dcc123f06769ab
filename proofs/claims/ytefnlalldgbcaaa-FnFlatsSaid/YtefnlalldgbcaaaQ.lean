/-
  Contracts: patches: are spots a patch, where a spot of a patch lies.
-/
import Derived.Test.YtefnlalldgbcaaaX
import Derived.Test.YtefnlalldgbcaaaP
namespace Go.Proofs.Ytefnlalldgbcaaa
open Go.RowKit
attribute [local irreducible] Code.wp wpList Oper.wp Calls bodyPost Exit.then Exit.inBlock

end Go.Proofs.Ytefnlalldgbcaaa

namespace Go.Proofs.Ytefnlalldgbcaaa
open Go.RowKit

section
variable {P : Program} {w : World} {a : Act} {Q : Exit → Act → World → Prop}
end

end Go.Proofs.Ytefnlalldgbcaaa

namespace Go.Proofs.Ytefnlalldgbcaaa
open Go.RowKit
attribute [local irreducible] Code.wp wpList Oper.wp Calls bodyPost Exit.then Exit.inBlock

abbrev vI (n : Int) : Value := .int .i64 n
/-- The block of a list of integers, with room. -/
abbrev oI (ns : List Int) (pad : List Value) : Obj := .cells (ns.map vI ++ pad).toArray 2 (0, 0)

/-! ## triangles -/
theorem areTiles_ok (m n : Int) (w : World) : CV Try.prog 106 [.int .i64 m, .int .i64 n] w (.bool (inB m 1 12 && inB n 1 12)) := by
  refine enter Try.func106 rfl rfl rfl rfl ?_
  intro a st
  (repeat' (first | (refine o_callB st rfl (within_ok _ _ _ _) rfl ?_ ?_ <;> clear st <;> intro _ _ _ st)  | refine c_seq ?_  | refine c_region ?_  | refine l_do ?_  | refine l_doG st rfl rfl ?_  | ((first | refine l_skip st rfl rfl rfl rfl ?_); clear st; intro _ st)  | refine l_nil ?_  | refine x_then ?_  | refine wp_ret ?_  | ((first | refine o_move st rfl rfl ?_  | refine o_assign st rfl rfl ?_  | refine o_pickT st rfl rfl rfl ?_  | refine o_pickF st rfl rfl rfl ?_); clear st; intro _ st)))
  all_goals
    refine post1 st Try.results106 (rd_t st rfl) ?_
    exact ⟨by simp_all, st.ex0⟩

/-- The corners of the two triangles of a tile. -/
def tri2 (m j i : Int) : List Int := [j * (m + 1) + i, j * (m + 1) + i + 1, j * (m + 1) + i + m + 1, j * (m + 1) + i + 1, j * (m + 1) + i + m + 1 + 1, j * (m + 1) + i + m + 1]
def triRow (m : Int) (j : Nat) (i : Nat) : List Int := (List.range i).flatMap fun (i : Nat) => tri2 m j i
def triM (m : Int) (k : Nat) (j : Nat) : List Int := (List.range j).flatMap fun (j : Nat) => triRow m j k
theorem triRow_succ (m : Int) (j i : Nat) : triRow m j (i + 1) = triRow m j i ++ tri2 m j i := by simp [triRow, List.range_succ]
theorem triM_succ (m : Int) (k j : Nat) : triM m k (j + 1) = triM m k j ++ triRow m j k := by simp [triM, List.range_succ]
theorem triRow_length (m : Int) (j i : Nat) : (triRow m j i).length = i * 6 := by
  induction i with
  | zero => rfl
  | succ i ih => rw [triRow_succ, List.length_append, ih]; simp [tri2]; omega
theorem triM_length (m : Int) (k j : Nat) : (triM m k j).length = j * (k * 6) := by
  induction j with
  | zero => simp [triM]
  | succ j ih => rw [triM_succ, List.length_append, ih, triRow_length, Nat.add_mul]; omega

/-- 'append' of six integers to an own list. -/
theorem o_appendI {P : Program} {w0 w : World} {N : Nat} {a : Act} {E : List (Nat × Value)} {L : List Ent} {K : Act → World → Prop} {Q : Exit → Act → World → Prop} {d : Nat} {ty : TypeId} {pos : String} {aft : Array Edge} {g : Option (Nat × Bool)}
    {t cap m c b ba bz : Nat} {ns ms : List Int} {zs pad pad0 : List Value} {x y : Operand} {Lr : List Ent} {ow : Bool} [hs : SliceT P t 2] [he : ElemT P 2 1 bz zs] (hbz : Nat.ble bz 1000 = true) (st : St w0 N a w E L)
    (hx : evE E x = some (.slice (some ⟨b, 0, none⟩) ns.length cap)) (hy : evE E y = some (.slice (some ⟨ba, 0, none⟩) m c)) (hm : m = ms.length) (hR : Rem L b (oI ns pad) Lr)
    (hA : At L ba ow (oI ms pad0)) (hp : (ns.map vI ++ pad).length = cap) (hlim : ns.length + ms.length ≤ 100000000000) (hd : Nat.blt d N = true)
    (h : ∀ b' cap' pad' a' w', ((ns ++ ms).map vI ++ pad').length = cap' → St w0 N a' w' ((d, .slice (some ⟨b', 0, none⟩) (ns ++ ms).length cap') :: E) (⟨b', true, oI (ns ++ ms) pad'⟩ :: Lr) → K a' w') :
    Oper.wp P ⟨some d, .call { callee := .builtin .append, args := #[x, y], argTypes := #[t, t] }, ty, pos, aft, g⟩ a w K Q := by
  subst hm
  have hbz' : bz ≤ 1000 := Nat.le_of_ble_eq_true hbz
  refine o_append (size := 1) (news := ms.map vI) (olds := ns.map vI) st hx hy hR ?_ (by simp) (by rw [hp]; omega) (by simp) (by simp [Value.oneCell']) (by omega) ?_ hd ?_
  · intro j u hj
    have hlt : j < ms.length := by
      have := (List.getElem?_eq_some_iff.1 hj).1
      simpa using this
    rw [cell_known st hA rfl]
    simp [List.getElem?_append, hlt] at hj ⊢
    exact hj
  · calc (ns.length + ms.length) * bz ≤ (ns.length + ms.length) * 1000 := Nat.mul_le_mul_left _ hbz'
      _ ≤ 140737488355328 := by omega
  · intro b' cap' pad' a' w' hl st'
    rw [← List.length_append, ← List.map_append] at st'
    rw [← List.map_append] at hl
    exact h b' cap' pad' a' w' (by omega) st'

end Go.Proofs.Ytefnlalldgbcaaa
