/-
  FnNumbers: rules for strings, arrays and bits.
-/
import Derived.Test.YtclgplbikjmopaaGreatDoorDh
import Derived.Test.YtclgplbikjmopaaGreatDoorDs
import Derived.Laws.Strings2
import Derived.Laws.Strings3
import Derived.Laws.Concat
import Derived.Laws.IdiomStrings
import Derived.Laws.ShiftsVarLaws
namespace Go.Proofs.YtclgplbikjmopaaGreatDoor
open Go.RowKit
set_option maxRecDepth 100000
class StrT (P : Program) (t : TypeId) : Prop where
  u : P.underlying t = some .string
instance : StrT Tryz.prog 9 := ⟨Tryz.underlying9⟩
/-- A text. -/
abbrev sV (l : List UInt8) : Value := .string ⟨l.toArray⟩
theorem toList_sV (l : List UInt8) : (⟨l.toArray⟩ : ByteArray).toList = l := ByteArray.toList_mk l
theorem size_sV (l : List UInt8) : (⟨l.toArray⟩ : ByteArray).size = l.length := by simp [ByteArray.size]
section
variable {P : Program} {w0 w : World} {N : Nat} {a : Act} {E : List (Nat × Value)} {L Lh : List Ent} {K : Act → World → Prop} {Q : Exit → Act → World → Prop}
variable {d : Nat} {ty : TypeId} {pos : String} {aft : Array Edge} {g : Option (Nat × Bool)}
theorem o_lenS {t : TypeId} {x : Operand} {l : List UInt8} [hs : StrT P t] (st : St w0 N a w E L) (hx : evE E x = some (sV l)) (hd : Nat.blt d N = true)
    (h : ∀ a', St w0 N a' w ((d, .int .i64 (l.length : Int)) :: E) L → K a' w) : Oper.wp P ⟨some d, .call { callee := .builtin .len, args := #[x], argTypes := #[t] }, ty, pos, aft, g⟩ a w K Q := by
  refine o_val (v := .int .i64 (l.length : Int)) (w' := w) ?_ (h _ (st.put d hd _))
  simp [execOp, resolve, invoke, builtin, evE_eval st hx, run_len_string (P := P) w t ty _ hs.u, goInt, ByteArray.size]
theorem o_idxS {t : TypeId} {x y : Operand} {l : List UInt8} {k : IntKind} {i : Int} {b : UInt8} [hs : StrT P t] (st : St w0 N a w E L) (hx : evE E x = some (sV l)) (hy : evE E y = some (.int k i)) (h0 : 0 ≤ i) (hb : l[i.toNat]? = some b) (hd : Nat.blt d N = true)
    (h : ∀ a', St w0 N a' w ((d, .int .u8 (b.toNat : Int)) :: E) L → K a' w) : Oper.wp P ⟨some d, .index t x y, ty, pos, aft, g⟩ a w K Q := by
  obtain ⟨hl, rfl⟩ := List.getElem?_eq_some_iff.1 hb
  refine o_val (v := .int .u8 (l[i.toNat].toNat : Int)) (w' := w) ?_ (h _ (st.put d hd _))
  have hsz := size_sV l
  simp only [execOp, evE_eval st hx, evE_eval st hy, Sem.run_bind, Sem.run_pure]
  rw [run_index_string (P := P) w t _ k i hs.u, dif_pos ⟨h0, by rw [hsz]; omega⟩]
  rfl
theorem o_eqS {t ys : TypeId} {x y : Operand} {l m : List UInt8} {r : Bool} (st : St w0 N a w E L) (hx : evE E x = some (sV l)) (hy : evE E y = some (sV m)) (hr : (l == m) = r) (hd : Nat.blt d N = true)
    (h : ∀ a', St w0 N a' w ((d, .bool r) :: E) L → K a' w) : Oper.wp P ⟨some d, .binOp .eql t x y ys, ty, pos, aft, g⟩ a w K Q := by
  subst hr
  have e : binOp .eql t (sV l) (sV m) = pure (.bool (l == m)) := by rw [binOp_string_eql, toList_sV, toList_sV]
  refine o_val (v := .bool (l == m)) (w' := w) ?_ (h _ (st.put d hd _))
  simp [execOp, evE_eval st hx, evE_eval st hy, eqGuard, e]
theorem o_neqS {t ys : TypeId} {x y : Operand} {l m : List UInt8} {r : Bool} (st : St w0 N a w E L) (hx : evE E x = some (sV l)) (hy : evE E y = some (sV m)) (hr : (!(l == m)) = r) (hd : Nat.blt d N = true)
    (h : ∀ a', St w0 N a' w ((d, .bool r) :: E) L → K a' w) : Oper.wp P ⟨some d, .binOp .neq t x y ys, ty, pos, aft, g⟩ a w K Q := by
  subst hr
  have e : binOp .neq t (sV l) (sV m) = pure (.bool (!(l == m))) := by rw [binOp_string_neq, toList_sV, toList_sV]
  refine o_val (v := .bool (!(l == m))) (w' := w) ?_ (h _ (st.put d hd _))
  simp [execOp, evE_eval st hx, evE_eval st hy, eqGuard, e]
theorem o_addS {t ys : TypeId} {x y : Operand} {l m : List UInt8} (st : St w0 N a w E L) (hx : evE E x = some (sV l)) (hy : evE E y = some (sV m)) (h1 : (l.length : Int) ≤ 8388608) (h2 : (m.length : Int) ≤ 8388608) (hd : Nat.blt d N = true)
    (h : ∀ a', St w0 N a' w ((d, sV (l ++ m)) :: E) L → K a' w) : Oper.wp P ⟨some d, .binOp .add t x y ys, ty, pos, aft, g⟩ a w K Q := by
  refine o_val (v := sV (l ++ m)) (w' := w) ?_ (h _ (st.put d hd _))
  simp only [execOp, evE_eval st hx, evE_eval st hy, eqGuard_add, Sem.run_bind, Sem.run_pure, Result.andThen_ok, binOp_string_add, run_string_add_lists (P := P) (w := w) l m h1 h2]
theorem o_subW {x y : Operand} {t ys : TypeId} {k : IntKind} {i j : Int} (st : St w0 N a w E L) (hx : evE E x = some (.int k i)) (hy : evE E y = some (.int k j)) (hd : Nat.blt d N = true)
    (h : ∀ a', St w0 N a' w ((d, .int k (k.wrap (i - j))) :: E) L → K a' w) : Oper.wp P ⟨some d, .binOp .sub t x y ys, ty, pos, aft, g⟩ a w K Q :=
  o_val (v := .int k (k.wrap (i - j))) (w' := w) (by simp [execOp, evE_eval st hx, evE_eval st hy, binOp_sub, Op.intArith, eqGuard_sub]) (h _ (st.put d hd _))
theorem o_shrU {x y : Operand} {t ys : TypeId} {k q : IntKind} {i j : Int} (st : St w0 N a w E L) (hx : evE E x = some (.int k i)) (hy : evE E y = some (.int q j)) (hj : 0 ≤ j) (hd : Nat.blt d N = true)
    (h : ∀ a', St w0 N a' w ((d, .int k (i / 2 ^ min j.toNat k.bits)) :: E) L → K a' w) : Oper.wp P ⟨some d, .binOp .shr t x y ys, ty, pos, aft, g⟩ a w K Q :=
  o_val (v := .int k (i / 2 ^ min j.toNat k.bits)) (w' := w) (by simp [execOp, evE_eval st hx, evE_eval st hy, binOp_shr, shift_shr_any, hj, eqGuard]) (h _ (st.put d hd _))
/-- An operation on bits, of whatever kind. -/
def bitW (k : IntKind) (i j : Int) : Int := k.wrap ((BitVec.ofInt k.bits i &&& BitVec.ofInt k.bits j).toNat : Int)
theorem o_andK {x y : Operand} {t ys : TypeId} {k : IntKind} {i j : Int} (st : St w0 N a w E L) (hx : evE E x = some (.int k i)) (hy : evE E y = some (.int k j)) (hd : Nat.blt d N = true)
    (h : ∀ a', St w0 N a' w ((d, .int k (bitW k i j)) :: E) L → K a' w) : Oper.wp P ⟨some d, .binOp .and t x y ys, ty, pos, aft, g⟩ a w K Q := by
  have e : (Op.intBits .and k i j : Sem Value) = pure (.int k (bitW k i j)) := rfl
  exact o_val (v := .int k (bitW k i j)) (w' := w) (by simp [execOp, evE_eval st hx, evE_eval st hy, binOp_and, e, eqGuard]) (h _ (st.put d hd _))
def borW (k : IntKind) (i j : Int) : Int := k.wrap ((BitVec.ofInt k.bits i ||| BitVec.ofInt k.bits j).toNat : Int)
theorem o_orK {x y : Operand} {t ys : TypeId} {k : IntKind} {i j : Int} (st : St w0 N a w E L) (hx : evE E x = some (.int k i)) (hy : evE E y = some (.int k j)) (hd : Nat.blt d N = true)
    (h : ∀ a', St w0 N a' w ((d, .int k (borW k i j)) :: E) L → K a' w) : Oper.wp P ⟨some d, .binOp .or t x y ys, ty, pos, aft, g⟩ a w K Q := by
  have e : (Op.intBits .or k i j : Sem Value) = pure (.int k (borW k i j)) := rfl
  exact o_val (v := .int k (borW k i j)) (w' := w) (by simp [execOp, evE_eval st hx, evE_eval st hy, binOp_or, e, eqGuard]) (h _ (st.put d hd _))
theorem o_negW {x : Operand} {t : TypeId} {k : IntKind} {i : Int} (st : St w0 N a w E L) (hx : evE E x = some (.int k i)) (hd : Nat.blt d N = true)
    (h : ∀ a', St w0 N a' w ((d, .int k (k.wrap (-i))) :: E) L → K a' w) : Oper.wp P ⟨some d, .unOp .neg t x, ty, pos, aft, g⟩ a w K Q :=
  o_val (v := .int k (k.wrap (-i))) (w' := w) (by simp [execOp, evE_eval st hx, Op.unary, Op.intArith]) (h _ (st.put d hd _))
theorem o_intIntW {x : Operand} {src dst : TypeId} {q q' k : IntKind} {n : Int} [hs : IntT P src q'] [hk : IntT P dst k] (st : St w0 N a w E L) (hx : evE E x = some (.int q n)) (hd : Nat.blt d N = true)
    (h : ∀ a', St w0 N a' w ((d, .int k (k.wrap n)) :: E) L → K a' w) : Oper.wp P ⟨some d, .convert src dst x, ty, pos, aft, g⟩ a w K Q := by
  refine o_val (v := .int k (k.wrap n)) (w' := w) ?_ (h _ (st.put d hd _))
  simp only [execOp, evE_eval st hx, Sem.run_bind, Sem.run_pure]
  simp [convert, run_underlying hs.u, run_underlying hk.u, Conv.intToInt]
/-- The bytes of a text, as a list in memory. -/
theorem o_convSB {src dst e : TypeId} {x : Operand} {l : List UInt8} [hs : StrT P src] [hk : SliceT P dst e] (he : P.underlying e = some (.int .u8)) (st : St w0 N a w E L) (hx : evE E x = some (sV l)) (hd : Nat.blt d N = true)
    (h : ∀ b cap arr fr a' w', (∀ i (hi : i < l.length), arr[i]? = some (Value.int .u8 (l[i].toNat : Int))) → St w0 N a' w' ((d, .slice (some ⟨b, 0, none⟩) l.length cap) :: E) (⟨b, true, .cells arr e fr⟩ :: L) → K a' w') :
    Oper.wp P ⟨some d, .convert src dst x, ty, pos, aft, g⟩ a w K Q := by
  have hr := run_bytes_of_string (P := P) w src dst e ⟨l.toArray⟩ hs.u hk.u he
  rw [size_sV] at hr
  refine o_val ?_ (h w.heap.size (grownCap w l.length 0 e) (bytesRow ⟨l.toArray⟩ (grownCap w l.length 0 e)) ((bytesRow ⟨l.toArray⟩ (grownCap w l.length 0 e)).size, (bytesRow ⟨l.toArray⟩ (grownCap w l.length 0 e)).size + 1) _ _ ?_ (((st.drewN 1).alloc (.cells (bytesRow ⟨l.toArray⟩ (grownCap w l.length 0 e)) e ((bytesRow ⟨l.toArray⟩ (grownCap w l.length 0 e)).size, (bytesRow ⟨l.toArray⟩ (grownCap w l.length 0 e)).size + 1))).put d hd _))
  · simp only [execOp, evE_eval st hx, Sem.run_bind, Sem.run_pure, Result.andThen_ok, hr]
    rfl
  · intro i hi
    have := bytesRow_at ⟨l.toArray⟩ (grownCap w l.length 0 e) i (by simpa using hi)
    simpa using this
/-- A text out of bytes in memory. -/
theorem o_convBS {src dst e : TypeId} {x : Operand} {b off len cap : Nat} {l : List UInt8} {own : Bool} {cs : Array Value} {t' : TypeId} {fr : Nat × Nat} [hs : StrT P dst] [hk : SliceT P src e] (he : P.underlying e = some (.int .u8)) (st : St w0 N a w E L) (hx : evE E x = some (.slice (some ⟨b, off, none⟩) len cap)) (hA : At L b own (.cells cs t' fr)) (hl : l.length = len)
    (hc : ∀ i (hi : i < l.length), cs[off + i]? = some (Value.int .u8 (l[i].toNat : Int))) (hd : Nat.blt d N = true)
    (h : ∀ a', St w0 N a' w ((d, sV l) :: E) L → K a' w) : Oper.wp P ⟨some d, .convert src dst x, ty, pos, aft, g⟩ a w K Q := by
  subst hl
  have hr := run_convert_bytes_back (P := P) w src dst e ⟨b, off, none⟩ cap l hk.u he hs.u (fun j hj => by rw [Addr.add_lit, cell_known st hA rfl]; exact hc j hj)
  refine o_val (v := sV l) (w' := w) ?_ (h _ (st.put d hd _))
  simp only [execOp, evE_eval st hx, Sem.run_bind, Sem.run_pure, Result.andThen_ok, hr]
/-- A place of an array. -/
theorem o_indexArr {t e n b off sz bz : Nat} {zs : List Value} {x y : Operand} {k : IntKind} {i : Int} [he : ElemT P e sz bz zs] (ha : P.underlying t = some (.array n e)) (st : St w0 N a w E L) (hx : evE E x = some (.pointer (some ⟨b, off, none⟩))) (hy : evE E y = some (.int k i))
    (h0 : 0 ≤ i) (h1 : i < n) (hd : Nat.blt d N = true)
    (h : ∀ a', St w0 N a' w ((d, .pointer (some ⟨b, off + i.toNat * sz, none⟩)) :: E) L → K a' w) : Oper.wp P ⟨some d, .indexAddr t x y, ty, pos, aft, g⟩ a w K Q := by
  have hel : P.elem t = e := by simp [Program.elem, ha]
  have hal : P.arrayLen t = n := by simp [Program.arrayLen, ha]
  have hr := run_indexAt_array (P := P) w t ⟨b, off, none⟩ k i (by rw [hel, hal]; exact ha)
  rw [hel, hal, if_pos ⟨h0, h1⟩, sizeOfE w, Result.andThen_ok, Addr.add_lit] at hr
  exact o_val (v := .pointer (some ⟨b, off + i.toNat * sz, none⟩)) (w' := w) (by simp only [execOp, evE_eval st hx, evE_eval st hy, Sem.run_bind, Sem.run_pure, Result.andThen_ok, hr]) (h _ (st.put d hd _))
/-- The end of an array, as a list. -/
theorem o_sliceArr {t e n b sz bz : Nat} {zs : List Value} {x y : Operand} {k : IntKind} {i : Int} [he : ElemT P e sz bz zs] (ha : P.underlying t = some (.array n e)) (st : St w0 N a w E L) (hx : evE E x = some (.pointer (some ⟨b, 0, none⟩))) (hy : evE E y = some (.int k i))
    (h0 : 0 ≤ i) (h1 : i < n) (hd : Nat.blt d N = true)
    (h : ∀ a', St w0 N a' w ((d, .slice (some ⟨b, i.toNat * sz, none⟩) (n - i.toNat) (n - i.toNat)) :: E) L → K a' w) : Oper.wp P ⟨some d, .slice t x (some y) none none, ty, pos, aft, g⟩ a w K Q := by
  have hel : P.elem t = e := by simp [Program.elem, ha]
  have hal : P.arrayLen t = n := by simp [Program.arrayLen, ha]
  have hr := run_sliceAt_array_l (P := P) w t ⟨b, 0, none⟩ (by rw [hel, hal]; exact ha) k i h0 (by rw [hal]; omega)
  rw [hel, hal, sizeOfE w, Result.andThen_ok] at hr
  have e1 : slicedAt ⟨b, 0, none⟩ i.toNat n n sz = .slice (some ⟨b, i.toNat * sz, none⟩) (n - i.toNat) (n - i.toNat) := by
    unfold slicedAt
    rw [if_neg (by omega), Addr.add_lit, Nat.zero_add]
  rw [e1] at hr
  exact o_val (v := .slice (some ⟨b, i.toNat * sz, none⟩) (n - i.toNat) (n - i.toNat)) (w' := w) (by simp only [execOp, evE_eval st hx, evE_eval st hy, Option.map_some, Option.map_none, Sem.run_bind, Sem.run_pure, Result.andThen_ok, hr]) (h _ (st.put d hd _))
end
end Go.Proofs.YtclgplbikjmopaaGreatDoor
