/-
  Contracts: lists of spots marked and held; sheets marked and held; lists cloned; sheets owned and given.
-/
import Derived.Test.YtefnlalldgbcaaaP
import Derived.Lib.SliceRun
namespace Go.Proofs.Ytefnlalldgbcaaa
open Go.RowKit
attribute [local irreducible] Code.wp wpList Oper.wp Calls bodyPost Exit.then Exit.inBlock

section
variable {P : Program} {w0 w : World} {N : Nat} {a : Act} {E : List (Nat × Value)} {L Lh : List Ent} {K : Act → World → Prop} {Q : Exit → Act → World → Prop}
variable {d : Nat} {ty : TypeId} {pos : String} {aft : Array Edge} {g : Option (Nat × Bool)}

/-- A store of one cell into an own block, said by a list. -/
theorem o_storeC {t t' : TypeId} {x y : Operand} {b off : Nat} {cs : List Value} (cs' : List Value) {v : Value} {L' : List Ent} [ht : ScaT P t] (st : St w0 N a w E L)
    (hx : evE E x = some (.pointer (some ⟨b, off, none⟩))) (hy : evE E y = some v) (hv : v.oneCell' = true) (hU : Upd L b (.cells cs.toArray t' (0, 0)) (.cells cs'.toArray t' (0, 0)) L') (hlt : off < cs.length) (hs : cs.set off v = cs')
    (h : ∀ a' w', St w0 N a' w' E L' → K a' w') : Oper.wp P ⟨none, .store t x y, ty, pos, aft, g⟩ a w K Q :=
  o_storeS st hx hy hv hU (by simpa [Nat.blt_eq] using hlt) hs h

/-- 'x != y' of one and the same number. -/
theorem o_fneqS {x y : Operand} {t ys : TypeId} {k : FloatKind} {i : Nat} (st : St w0 N a w E L) (hx : evE E x = some (.float k i)) (hy : evE E y = some (.float k i)) (hi : Is k i (some i)) (hd : Nat.blt d N = true)
    (h : ∀ a', St w0 N a' w ((d, .bool false) :: E) L → K a' w) : Oper.wp P ⟨some d, .binOp .neq t x y ys, ty, pos, aft, g⟩ a w K Q :=
  o_fneq st hx hy hi hi hd (fun hf => by rw [feqB_self' hi] at hf; cases hf) fun _ => h

theorem o_eqlNil {x : Operand} {t ys e : TypeId} {ad : Addr} {n c : Nat} [hs : SliceT P t e] (st : St w0 N a w E L) (hx : evE E x = some (.slice (some ad) n c)) (hd : Nat.blt d N = true)
    (h : ∀ a', St w0 N a' w ((d, .bool false) :: E) L → K a' w) : Oper.wp P ⟨some d, .binOp .eql t x (.const (.slice none 0 0)) ys, ty, pos, aft, g⟩ a w K Q := by
  refine o_val (v := .bool false) (w' := w) ?_ (h _ (st.put d hd _))
  simp only [execOp, evE_eval st hx, eqGuard_at_slice, Sem.run_bind, Sem.run_pure, Result.andThen_ok, show a.eval (.const (.slice none 0 0)) = .slice none 0 0 from rfl, Go.Lib.run_eql_slice_nil w t e (some ad) n c 0 0 hs.u]
  rfl
end

/-! ## marks -/
def fI (k : Int) : Nat := floatOfInt .f32 k
def mS (k : Int) (i : Nat) : B3 := (floatOfInt .f32 (k + 3 * (i : Int)), floatOfInt .f32 (k + 3 * (i : Int) + 1), floatOfInt .f32 (k + 3 * (i : Int) + 1 + 1))
def marksS (k : Int) (n : Nat) : List B3 := (List.range n).map (mS k)
theorem marksS_length (k : Int) (n : Nat) : (marksS k n).length = n := by simp [marksS]
theorem marksS_succ (k : Int) (n : Nat) : marksS k (n + 1) = marksS k n ++ [mS k n] := by simp [marksS, List.range_succ]
theorem marksS_get (k : Int) (n i : Nat) (h : i < n) : (marksS k n)[i]? = some (mS k i) := by simp [marksS, h]

theorem cS_set0 (pre post : List B3) (b : B3) (pad : List Value) (x : Nat) : (cS (pre ++ b :: post) ++ pad).set (pre.length * 3) (.float .f32 x) = cS (pre ++ (x, b.2.1, b.2.2) :: post) ++ pad := by
  rw [cS_append, cS_append, List.append_assoc, List.append_assoc, List.set_append_right _ _ (by rw [cS_length]; omega), cS_length, Nat.sub_self]
  simp [cS]
theorem cS_set1 (pre post : List B3) (b : B3) (pad : List Value) (x : Nat) : (cS (pre ++ b :: post) ++ pad).set (pre.length * 3 + 1) (.float .f32 x) = cS (pre ++ (b.1, x, b.2.2) :: post) ++ pad := by
  rw [cS_append, cS_append, List.append_assoc, List.append_assoc, List.set_append_right _ _ (by rw [cS_length]; omega), cS_length, Nat.add_sub_cancel_left]
  simp [cS]
theorem cS_set2 (pre post : List B3) (b : B3) (pad : List Value) (x : Nat) : (cS (pre ++ b :: post) ++ pad).set (pre.length * 3 + 2) (.float .f32 x) = cS (pre ++ (b.1, b.2.1, x) :: post) ++ pad := by
  rw [cS_append, cS_append, List.append_assoc, List.append_assoc, List.set_append_right _ _ (by rw [cS_length]; omega), cS_length, Nat.add_sub_cancel_left]
  simp [cS]

set_option maxHeartbeats 8000000 in
theorem markSpotS_ok (bs : List B3) (k : Int) (b cap : Nat) (pad : List Value) (w : World) (hb : w.heap[b]? = some (oS bs pad)) (hlen : bs.length < 1000000000) (hk0 : 0 ≤ k) (hk1 : k ≤ 4000000000) :
    CU Try.prog 76 [.slice (some ⟨b, 0, none⟩) bs.length cap, .int .i64 k] w (.int .i64 (k + 3 * (bs.length : Int))) b (oS (marksS k bs.length) pad) := by
  refine enterU hb Try.func76 rfl rfl rfl rfl ?_
  intro a w0 Lf st
  (repeat' (first | (refine c_seq ?_) | (refine c_region ?_) | (refine l_do ?_) | (refine l_nil ?_) | (refine x_then ?_) | (refine x_thenR ?_) | (refine x_thenE ?_) | (refine x_blkN ?_) | (refine x_blkR ?_) | (refine x_blkE ?_) | (refine x_blkO rfl ?_) | (refine wp_ret ?_) | (refine wp_skip ?_) | (refine wp_block ?_) | (refine wp_exit ?_) | (refine c_condT st rfl ?_) | (refine c_condF st rfl ?_) | (refine o_move st rfl rfl ?_; clear st; intro _ st) | (refine o_assign st rfl rfl ?_; clear st; intro _ st) | (refine o_fieldAddr st rfl rfl ?_; clear st; intro _ st) | (refine o_storeS st rfl rfl rfl (by repeat (first | exact Upd.here | apply Upd.there)) rfl (by dsimp only [List.set]) ?_; clear st; intro _ _ st) | (refine o_storeW st rfl rfl (by repeat (first | exact Upd.here | apply Upd.there)) rfl rfl rfl ?_; clear st; intro _ _ st) | (refine o_len st rfl rfl ?_; clear st; intro _ st) | (refine o_add64 st rfl rfl rfl (by omega) (by omega) ?_; clear st; intro _ st) | (refine o_fcv0 st rfl rfl ?_; clear st; intro _ st) | (refine o_intFloat st rfl rfl ?_; clear st; intro _ st) | (refine o_lss st rfl rfl rfl ?_ ?_ <;> clear st <;> intro _ _ st <;> (try (exfalso; omega)))))
  refine wp_loop_ghost (fun n a w' => ∃ i : Nat, i ≤ bs.length ∧ n = bs.length - i ∧ St w0 Try.f76.ntmps a w' [(0, .slice (some ⟨b, 0, none⟩) bs.length cap), (1, .int .i64 (k + 3 * (i : Int))), (5, .int .i64 i)] (⟨b, true, oS (marksS k i ++ bs.drop i) pad⟩ :: Lf)) bs.length ⟨0, by omega, by omega, by simpa [marksS] using st.fit (by repeat (first | exact trivial | refine And.intro rfl ?_))⟩ ?_
  clear st
  rintro n a w' ⟨i, hi, rfl, st⟩
  by_cases hlt : i < bs.length
  · rw [List.drop_eq_getElem_cons hlt] at st
    have hl : ∀ (b' : B3) (f : Nat), f < 3 → 0 + (i : Int).toNat * 3 + f < (cS (marksS k i ++ b' :: bs.drop (i + 1)) ++ pad).length := by
      intro b' f hf
      simp only [List.length_append, cS_length, List.length_cons, marksS_length, List.length_drop, Int.toNat_natCast]
      omega
    have h0 : ∀ (b' : B3) (x : Nat), (cS (marksS k i ++ b' :: bs.drop (i + 1)) ++ pad).set (0 + (i : Int).toNat * 3 + 0) (.float .f32 x) = cS (marksS k i ++ (x, b'.2.1, b'.2.2) :: bs.drop (i + 1)) ++ pad := by
      intro b' x
      have := cS_set0 (marksS k i) (bs.drop (i + 1)) b' pad x
      simpa [marksS_length] using this
    have h1 : ∀ (b' : B3) (x : Nat), (cS (marksS k i ++ b' :: bs.drop (i + 1)) ++ pad).set (0 + (i : Int).toNat * 3 + 1) (.float .f32 x) = cS (marksS k i ++ (b'.1, x, b'.2.2) :: bs.drop (i + 1)) ++ pad := by
      intro b' x
      have := cS_set1 (marksS k i) (bs.drop (i + 1)) b' pad x
      simpa [marksS_length] using this
    have h2 : ∀ (b' : B3) (x : Nat), (cS (marksS k i ++ b' :: bs.drop (i + 1)) ++ pad).set (0 + (i : Int).toNat * 3 + 2) (.float .f32 x) = cS (marksS k i ++ (b'.1, b'.2.1, x) :: bs.drop (i + 1)) ++ pad := by
      intro b' x
      have := cS_set2 (marksS k i) (bs.drop (i + 1)) b' pad x
      simpa [marksS_length] using this
    (repeat' (first | (refine o_indexAddr st rfl rfl (by omega) (by omega) rfl ?_; clear st; intro _ st) | (refine o_storeC _ st rfl rfl rfl (by repeat (first | exact Upd.here | apply Upd.there)) (hl _ 0 (by decide)) (h0 _ _) ?_; clear st; intro _ _ st) | (refine o_storeC _ st rfl rfl rfl (by repeat (first | exact Upd.here | apply Upd.there)) (hl _ 1 (by decide)) (h1 _ _) ?_; clear st; intro _ _ st) | (refine o_storeC _ st rfl rfl rfl (by repeat (first | exact Upd.here | apply Upd.there)) (hl _ 2 (by decide)) (h2 _ _) ?_; clear st; intro _ _ st) | (refine c_seq ?_) | (refine c_region ?_) | (refine l_do ?_) | (refine l_nil ?_) | (refine x_then ?_) | (refine x_thenR ?_) | (refine x_thenE ?_) | (refine x_blkN ?_) | (refine x_blkR ?_) | (refine x_blkE ?_) | (refine x_blkO rfl ?_) | (refine wp_ret ?_) | (refine wp_skip ?_) | (refine wp_block ?_) | (refine wp_exit ?_) | (refine c_condT st rfl ?_) | (refine c_condF st rfl ?_) | (refine o_move st rfl rfl ?_; clear st; intro _ st) | (refine o_assign st rfl rfl ?_; clear st; intro _ st) | (refine o_fieldAddr st rfl rfl ?_; clear st; intro _ st) | (refine o_storeS st rfl rfl rfl (by repeat (first | exact Upd.here | apply Upd.there)) rfl (by dsimp only [List.set]) ?_; clear st; intro _ _ st) | (refine o_storeW st rfl rfl (by repeat (first | exact Upd.here | apply Upd.there)) rfl rfl rfl ?_; clear st; intro _ _ st) | (refine o_len st rfl rfl ?_; clear st; intro _ st) | (refine o_add64 st rfl rfl rfl (by omega) (by omega) ?_; clear st; intro _ st) | (refine o_fcv0 st rfl rfl ?_; clear st; intro _ st) | (refine o_intFloat st rfl rfl ?_; clear st; intro _ st) | (refine o_lss st rfl rfl rfl ?_ ?_ <;> clear st <;> intro _ _ st <;> (try (exfalso; omega)))))
    refine ⟨bs.length - (i + 1), by omega, i + 1, by omega, rfl, ?_⟩
    have e : k + 3 * ((i + 1 : Nat) : Int) = k + 3 * (i : Int) + 1 + 1 + 1 := by omega
    rw [e, marksS_succ, List.append_assoc]
    exact st.fit (by repeat (first | exact trivial | refine And.intro rfl ?_))
  · have hk' : i = bs.length := by omega
    (repeat' (first | (refine c_seq ?_) | (refine c_region ?_) | (refine l_do ?_) | (refine l_nil ?_) | (refine x_then ?_) | (refine x_thenR ?_) | (refine x_thenE ?_) | (refine x_blkN ?_) | (refine x_blkR ?_) | (refine x_blkE ?_) | (refine x_blkO rfl ?_) | (refine wp_ret ?_) | (refine wp_skip ?_) | (refine wp_block ?_) | (refine wp_exit ?_) | (refine c_condT st rfl ?_) | (refine c_condF st rfl ?_) | (refine o_move st rfl rfl ?_; clear st; intro _ st) | (refine o_assign st rfl rfl ?_; clear st; intro _ st) | (refine o_fieldAddr st rfl rfl ?_; clear st; intro _ st) | (refine o_storeS st rfl rfl rfl (by repeat (first | exact Upd.here | apply Upd.there)) rfl (by dsimp only [List.set]) ?_; clear st; intro _ _ st) | (refine o_storeW st rfl rfl (by repeat (first | exact Upd.here | apply Upd.there)) rfl rfl rfl ?_; clear st; intro _ _ st) | (refine o_len st rfl rfl ?_; clear st; intro _ st) | (refine o_add64 st rfl rfl rfl (by omega) (by omega) ?_; clear st; intro _ st) | (refine o_fcv0 st rfl rfl ?_; clear st; intro _ st) | (refine o_intFloat st rfl rfl ?_; clear st; intro _ st) | (refine o_lss st rfl rfl rfl ?_ ?_ <;> clear st <;> intro _ _ st <;> (try (exfalso; omega)))))
    refine post1 st Try.results76 (rd_t st rfl) ?_
    subst hk'
    rw [List.drop_length, List.append_nil] at st
    exact ⟨rfl, _, st.fit (E' := []) trivial⟩

theorem markSpotS_nil (base : Option Addr) (cap : Nat) (k : Int) (w : World) : CV Try.prog 76 [.slice base 0 cap, .int .i64 k] w (.int .i64 k) := by
  refine enter Try.func76 rfl rfl rfl rfl ?_
  intro a st
  (repeat' (first | (refine c_seq ?_) | (refine c_region ?_) | (refine l_do ?_) | (refine l_nil ?_) | (refine x_then ?_) | (refine x_thenR ?_) | (refine x_thenE ?_) | (refine x_blkN ?_) | (refine x_blkR ?_) | (refine x_blkE ?_) | (refine x_blkO rfl ?_) | (refine wp_ret ?_) | (refine wp_skip ?_) | (refine wp_block ?_) | (refine wp_exit ?_) | (refine c_condT st rfl ?_) | (refine c_condF st rfl ?_) | (refine o_move st rfl rfl ?_; clear st; intro _ st) | (refine o_assign st rfl rfl ?_; clear st; intro _ st) | (refine o_fieldAddr st rfl rfl ?_; clear st; intro _ st) | (refine o_storeS st rfl rfl rfl (by repeat (first | exact Upd.here | apply Upd.there)) rfl (by dsimp only [List.set]) ?_; clear st; intro _ _ st) | (refine o_storeW st rfl rfl (by repeat (first | exact Upd.here | apply Upd.there)) rfl rfl rfl ?_; clear st; intro _ _ st) | (refine o_len st rfl rfl ?_; clear st; intro _ st) | (refine o_add64 st rfl rfl rfl (by omega) (by omega) ?_; clear st; intro _ st) | (refine o_fcv0 st rfl rfl ?_; clear st; intro _ st) | (refine o_intFloat st rfl rfl ?_; clear st; intro _ st) | (refine o_lss st rfl rfl rfl ?_ ?_ <;> clear st <;> intro _ _ st <;> (try (exfalso; omega)))))
  refine wp_loop_ghost (fun n a w' => n = 0 ∧ St w Try.f76.ntmps a w' [(0, .slice base 0 cap), (1, .int .i64 k), (5, .int .i64 0)] []) 0 ⟨rfl, st.fit (by repeat (first | exact trivial | refine And.intro rfl ?_))⟩ ?_
  clear st
  rintro n a w' ⟨rfl, st⟩
  (repeat' (first | (refine c_seq ?_) | (refine c_region ?_) | (refine l_do ?_) | (refine l_nil ?_) | (refine x_then ?_) | (refine x_thenR ?_) | (refine x_thenE ?_) | (refine x_blkN ?_) | (refine x_blkR ?_) | (refine x_blkE ?_) | (refine x_blkO rfl ?_) | (refine wp_ret ?_) | (refine wp_skip ?_) | (refine wp_block ?_) | (refine wp_exit ?_) | (refine c_condT st rfl ?_) | (refine c_condF st rfl ?_) | (refine o_move st rfl rfl ?_; clear st; intro _ st) | (refine o_assign st rfl rfl ?_; clear st; intro _ st) | (refine o_fieldAddr st rfl rfl ?_; clear st; intro _ st) | (refine o_storeS st rfl rfl rfl (by repeat (first | exact Upd.here | apply Upd.there)) rfl (by dsimp only [List.set]) ?_; clear st; intro _ _ st) | (refine o_storeW st rfl rfl (by repeat (first | exact Upd.here | apply Upd.there)) rfl rfl rfl ?_; clear st; intro _ _ st) | (refine o_len st rfl rfl ?_; clear st; intro _ st) | (refine o_add64 st rfl rfl rfl (by omega) (by omega) ?_; clear st; intro _ st) | (refine o_fcv0 st rfl rfl ?_; clear st; intro _ st) | (refine o_intFloat st rfl rfl ?_; clear st; intro _ st) | (refine o_lss st rfl rfl rfl ?_ ?_ <;> clear st <;> intro _ _ st <;> (try (exfalso; omega)))))
  refine post1 st Try.results76 (rd_t st rfl) ?_
  exact ⟨rfl, st.ex0⟩

set_option maxHeartbeats 8000000 in
theorem heldSpotS_ok (m : Nat) (k : Int) (b cap : Nat) (pad : List Value) (w : World) (hb : w.heap[b]? = some (oS (marksS k m) pad)) (hlen : m < 1000000000) (hk0 : 0 ≤ k) (hk1 : k ≤ 4000000000) :
    CV Try.prog 77 [.slice (some ⟨b, 0, none⟩) m cap, .int .i64 k] w (.int .i64 (k + 3 * (m : Int))) := by
  refine enterL [⟨b, false, oS (marksS k m) pad⟩] (by simp [hb]) Try.func77 rfl rfl rfl rfl ?_
  intro a st
  (repeat' (first | (refine c_seq ?_) | (refine c_region ?_) | (refine l_do ?_) | (refine l_nil ?_) | (refine x_then ?_) | (refine x_thenR ?_) | (refine x_thenE ?_) | (refine x_blkN ?_) | (refine x_blkR ?_) | (refine x_blkE ?_) | (refine x_blkO rfl ?_) | (refine wp_ret ?_) | (refine wp_skip ?_) | (refine wp_block ?_) | (refine wp_exit ?_) | (refine c_condT st rfl ?_) | (refine c_condF st rfl ?_) | (refine o_move st rfl rfl ?_; clear st; intro _ st) | (refine o_assign st rfl rfl ?_; clear st; intro _ st) | (refine o_fieldAddr st rfl rfl ?_; clear st; intro _ st) | (refine o_loadS st rfl (by repeat (first | exact At.here | apply At.there)) rfl rfl ?_; clear st; intro _ st) | (refine o_load3 st rfl (by repeat (first | exact At.here | apply At.there)) rfl ?_; clear st; intro _ st) | (refine o_load2 st rfl (by repeat (first | exact At.here | apply At.there)) rfl ?_; clear st; intro _ st) | (refine o_load4 st rfl (by repeat (first | exact At.here | apply At.there)) rfl ?_; clear st; intro _ st) | (refine o_len st rfl rfl ?_; clear st; intro _ st) | (refine o_add64 st rfl rfl rfl (by omega) (by omega) ?_; clear st; intro _ st) | (refine o_fcv0 st rfl rfl ?_; clear st; intro _ st) | (refine o_intFloat st rfl rfl ?_; clear st; intro _ st) | (refine o_lss st rfl rfl rfl ?_ ?_ <;> clear st <;> intro _ _ st <;> (try (exfalso; omega))) | (refine o_fneq st rfl rfl (by first | assumption | exact Is_ofInt _ _ | exact Is_lit (by decide +kernel)) (by first | assumption | exact Is_ofInt _ _ | exact Is_lit (by decide +kernel)) rfl ?_ ?_ <;> clear st <;> intro _ _ st <;> (try simp_all))))
  refine wp_loop_ghost (fun n a w' => ∃ i : Nat, i ≤ m ∧ n = m - i ∧ St w Try.f77.ntmps a w' [(0, .slice (some ⟨b, 0, none⟩) m cap), (1, .int .i64 (k + 3 * (i : Int))), (5, .int .i64 i)] [⟨b, false, oS (marksS k m) pad⟩]) m ⟨0, by omega, by omega, by simpa using st.fit (by repeat (first | exact trivial | refine And.intro rfl ?_))⟩ ?_
  clear st
  rintro n a w' ⟨i, hi, rfl, st⟩
  by_cases hlt : i < m
  · have hv := spotsIn0p (marksS k m) pad i _ (marksS_get k m i hlt)
    have hv0 : (cS (marksS k m) ++ pad).toArray[0 + (i : Int).toNat * 3 + 0]? = some (.float .f32 (floatOfInt .f32 (k + 3 * (i : Int)))) := hv.1
    have hv1 : (cS (marksS k m) ++ pad).toArray[0 + (i : Int).toNat * 3 + 1]? = some (.float .f32 (floatOfInt .f32 (k + 3 * (i : Int) + 1))) := hv.2.1
    have hv2 : (cS (marksS k m) ++ pad).toArray[0 + (i : Int).toNat * 3 + 2]? = some (.float .f32 (floatOfInt .f32 (k + 3 * (i : Int) + 1 + 1))) := hv.2.2
    clear hv
    (repeat' (first | (refine o_indexAddr st rfl rfl (by omega) (by omega) rfl ?_; clear st; intro _ st) | (refine o_loadS st rfl (by repeat (first | exact At.here | apply At.there)) hv0 rfl ?_; clear st; intro _ st) | (refine o_loadS st rfl (by repeat (first | exact At.here | apply At.there)) hv1 rfl ?_; clear st; intro _ st) | (refine o_loadS st rfl (by repeat (first | exact At.here | apply At.there)) hv2 rfl ?_; clear st; intro _ st) | (refine o_fneqS st rfl rfl (Is_ofInt _ _) rfl ?_; clear st; intro _ st) | (refine c_seq ?_) | (refine c_region ?_) | (refine l_do ?_) | (refine l_nil ?_) | (refine x_then ?_) | (refine x_thenR ?_) | (refine x_thenE ?_) | (refine x_blkN ?_) | (refine x_blkR ?_) | (refine x_blkE ?_) | (refine x_blkO rfl ?_) | (refine wp_ret ?_) | (refine wp_skip ?_) | (refine wp_block ?_) | (refine wp_exit ?_) | (refine c_condT st rfl ?_) | (refine c_condF st rfl ?_) | (refine o_move st rfl rfl ?_; clear st; intro _ st) | (refine o_assign st rfl rfl ?_; clear st; intro _ st) | (refine o_fieldAddr st rfl rfl ?_; clear st; intro _ st) | (refine o_loadS st rfl (by repeat (first | exact At.here | apply At.there)) rfl rfl ?_; clear st; intro _ st) | (refine o_load3 st rfl (by repeat (first | exact At.here | apply At.there)) rfl ?_; clear st; intro _ st) | (refine o_load2 st rfl (by repeat (first | exact At.here | apply At.there)) rfl ?_; clear st; intro _ st) | (refine o_load4 st rfl (by repeat (first | exact At.here | apply At.there)) rfl ?_; clear st; intro _ st) | (refine o_len st rfl rfl ?_; clear st; intro _ st) | (refine o_add64 st rfl rfl rfl (by omega) (by omega) ?_; clear st; intro _ st) | (refine o_fcv0 st rfl rfl ?_; clear st; intro _ st) | (refine o_intFloat st rfl rfl ?_; clear st; intro _ st) | (refine o_lss st rfl rfl rfl ?_ ?_ <;> clear st <;> intro _ _ st <;> (try (exfalso; omega))) | (refine o_fneq st rfl rfl (by first | assumption | exact Is_ofInt _ _ | exact Is_lit (by decide +kernel)) (by first | assumption | exact Is_ofInt _ _ | exact Is_lit (by decide +kernel)) rfl ?_ ?_ <;> clear st <;> intro _ _ st <;> (try simp_all))))
    refine ⟨m - (i + 1), by omega, i + 1, by omega, rfl, ?_⟩
    have e : k + 3 * ((i + 1 : Nat) : Int) = k + 3 * (i : Int) + 1 + 1 + 1 := by omega
    rw [e]
    exact st.fit (by repeat (first | exact trivial | refine And.intro rfl ?_))
  · have hk' : i = m := by omega
    (repeat' (first | (refine c_seq ?_) | (refine c_region ?_) | (refine l_do ?_) | (refine l_nil ?_) | (refine x_then ?_) | (refine x_thenR ?_) | (refine x_thenE ?_) | (refine x_blkN ?_) | (refine x_blkR ?_) | (refine x_blkE ?_) | (refine x_blkO rfl ?_) | (refine wp_ret ?_) | (refine wp_skip ?_) | (refine wp_block ?_) | (refine wp_exit ?_) | (refine c_condT st rfl ?_) | (refine c_condF st rfl ?_) | (refine o_move st rfl rfl ?_; clear st; intro _ st) | (refine o_assign st rfl rfl ?_; clear st; intro _ st) | (refine o_fieldAddr st rfl rfl ?_; clear st; intro _ st) | (refine o_loadS st rfl (by repeat (first | exact At.here | apply At.there)) rfl rfl ?_; clear st; intro _ st) | (refine o_load3 st rfl (by repeat (first | exact At.here | apply At.there)) rfl ?_; clear st; intro _ st) | (refine o_load2 st rfl (by repeat (first | exact At.here | apply At.there)) rfl ?_; clear st; intro _ st) | (refine o_load4 st rfl (by repeat (first | exact At.here | apply At.there)) rfl ?_; clear st; intro _ st) | (refine o_len st rfl rfl ?_; clear st; intro _ st) | (refine o_add64 st rfl rfl rfl (by omega) (by omega) ?_; clear st; intro _ st) | (refine o_fcv0 st rfl rfl ?_; clear st; intro _ st) | (refine o_intFloat st rfl rfl ?_; clear st; intro _ st) | (refine o_lss st rfl rfl rfl ?_ ?_ <;> clear st <;> intro _ _ st <;> (try (exfalso; omega))) | (refine o_fneq st rfl rfl (by first | assumption | exact Is_ofInt _ _ | exact Is_lit (by decide +kernel)) (by first | assumption | exact Is_ofInt _ _ | exact Is_lit (by decide +kernel)) rfl ?_ ?_ <;> clear st <;> intro _ _ st <;> (try simp_all))))
    refine post1 st Try.results77 (rd_t st rfl) ?_
    subst hk'
    exact ⟨rfl, st.ex0⟩

theorem heldSpotS_nil (base : Option Addr) (cap : Nat) (k : Int) (w : World) : CV Try.prog 77 [.slice base 0 cap, .int .i64 k] w (.int .i64 k) := by
  refine enter Try.func77 rfl rfl rfl rfl ?_
  intro a st
  (repeat' (first | (refine c_seq ?_) | (refine c_region ?_) | (refine l_do ?_) | (refine l_nil ?_) | (refine x_then ?_) | (refine x_thenR ?_) | (refine x_thenE ?_) | (refine x_blkN ?_) | (refine x_blkR ?_) | (refine x_blkE ?_) | (refine x_blkO rfl ?_) | (refine wp_ret ?_) | (refine wp_skip ?_) | (refine wp_block ?_) | (refine wp_exit ?_) | (refine c_condT st rfl ?_) | (refine c_condF st rfl ?_) | (refine o_move st rfl rfl ?_; clear st; intro _ st) | (refine o_assign st rfl rfl ?_; clear st; intro _ st) | (refine o_fieldAddr st rfl rfl ?_; clear st; intro _ st) | (refine o_loadS st rfl (by repeat (first | exact At.here | apply At.there)) rfl rfl ?_; clear st; intro _ st) | (refine o_load3 st rfl (by repeat (first | exact At.here | apply At.there)) rfl ?_; clear st; intro _ st) | (refine o_load2 st rfl (by repeat (first | exact At.here | apply At.there)) rfl ?_; clear st; intro _ st) | (refine o_load4 st rfl (by repeat (first | exact At.here | apply At.there)) rfl ?_; clear st; intro _ st) | (refine o_len st rfl rfl ?_; clear st; intro _ st) | (refine o_add64 st rfl rfl rfl (by omega) (by omega) ?_; clear st; intro _ st) | (refine o_fcv0 st rfl rfl ?_; clear st; intro _ st) | (refine o_intFloat st rfl rfl ?_; clear st; intro _ st) | (refine o_lss st rfl rfl rfl ?_ ?_ <;> clear st <;> intro _ _ st <;> (try (exfalso; omega))) | (refine o_fneq st rfl rfl (by first | assumption | exact Is_ofInt _ _ | exact Is_lit (by decide +kernel)) (by first | assumption | exact Is_ofInt _ _ | exact Is_lit (by decide +kernel)) rfl ?_ ?_ <;> clear st <;> intro _ _ st <;> (try simp_all))))
  refine wp_loop_ghost (fun n a w' => n = 0 ∧ St w Try.f77.ntmps a w' [(0, .slice base 0 cap), (1, .int .i64 k), (5, .int .i64 0)] []) 0 ⟨rfl, st.fit (by repeat (first | exact trivial | refine And.intro rfl ?_))⟩ ?_
  clear st
  rintro n a w' ⟨rfl, st⟩
  (repeat' (first | (refine c_seq ?_) | (refine c_region ?_) | (refine l_do ?_) | (refine l_nil ?_) | (refine x_then ?_) | (refine x_thenR ?_) | (refine x_thenE ?_) | (refine x_blkN ?_) | (refine x_blkR ?_) | (refine x_blkE ?_) | (refine x_blkO rfl ?_) | (refine wp_ret ?_) | (refine wp_skip ?_) | (refine wp_block ?_) | (refine wp_exit ?_) | (refine c_condT st rfl ?_) | (refine c_condF st rfl ?_) | (refine o_move st rfl rfl ?_; clear st; intro _ st) | (refine o_assign st rfl rfl ?_; clear st; intro _ st) | (refine o_fieldAddr st rfl rfl ?_; clear st; intro _ st) | (refine o_loadS st rfl (by repeat (first | exact At.here | apply At.there)) rfl rfl ?_; clear st; intro _ st) | (refine o_load3 st rfl (by repeat (first | exact At.here | apply At.there)) rfl ?_; clear st; intro _ st) | (refine o_load2 st rfl (by repeat (first | exact At.here | apply At.there)) rfl ?_; clear st; intro _ st) | (refine o_load4 st rfl (by repeat (first | exact At.here | apply At.there)) rfl ?_; clear st; intro _ st) | (refine o_len st rfl rfl ?_; clear st; intro _ st) | (refine o_add64 st rfl rfl rfl (by omega) (by omega) ?_; clear st; intro _ st) | (refine o_fcv0 st rfl rfl ?_; clear st; intro _ st) | (refine o_intFloat st rfl rfl ?_; clear st; intro _ st) | (refine o_lss st rfl rfl rfl ?_ ?_ <;> clear st <;> intro _ _ st <;> (try (exfalso; omega))) | (refine o_fneq st rfl rfl (by first | assumption | exact Is_ofInt _ _ | exact Is_lit (by decide +kernel)) (by first | assumption | exact Is_ofInt _ _ | exact Is_lit (by decide +kernel)) rfl ?_ ?_ <;> clear st <;> intro _ _ st <;> (try simp_all))))
  refine post1 st Try.results77 (rd_t st rfl) ?_
  exact ⟨rfl, st.ex0⟩

set_option maxHeartbeats 4000000 in
theorem markSheet_ok (m n : Int) (bs : List B3) (k : Int) (b cap : Nat) (pad : List Value) (w : World) (hb : w.heap[b]? = some (oS bs pad)) (hlen : bs.length < 1000000000) (hk0 : 0 ≤ k) (hk1 : k ≤ 4000000000) :
    CU Try.prog 66 [vSh m n (some ⟨b, 0, none⟩) bs.length cap, .int .i64 k] w (.int .i64 (k + 3 * (bs.length : Int))) b (oS (marksS k bs.length) pad) := by
  refine enterU hb Try.func66 rfl rfl rfl rfl ?_
  intro a w0 Lf st
  (repeat' (first | (refine o_callU st rfl (markSpotS_ok bs k b cap pad _ (st.heap (by repeat (first | exact At.here | apply At.there))) hlen hk0 hk1) (by repeat (first | exact Upd.here | apply Upd.there)) rfl ?_; clear st; intro _ _ st) | (refine c_seq ?_) | (refine c_region ?_) | (refine l_do ?_) | (refine l_nil ?_) | (refine x_then ?_) | (refine x_thenR ?_) | (refine x_thenE ?_) | (refine wp_ret ?_) | (refine o_move st rfl rfl ?_; clear st; intro _ st) | (refine o_assign st rfl rfl ?_; clear st; intro _ st) | (refine o_boxA st rfl rfl ?_; clear st; intro _ _ _ st) | (refine o_boxS st rfl rfl rfl ?_; clear st; intro _ _ _ st) | (refine o_fieldAddr st rfl rfl ?_; clear st; intro _ st) | (refine o_loadS st rfl (by repeat (first | exact At.here | apply At.there)) rfl rfl ?_; clear st; intro _ st) | (refine o_load3 st rfl (by repeat (first | exact At.here | apply At.there)) rfl ?_; clear st; intro _ st) | (refine o_load2 st rfl (by repeat (first | exact At.here | apply At.there)) rfl ?_; clear st; intro _ st) | (refine o_load4 st rfl (by repeat (first | exact At.here | apply At.there)) rfl ?_; clear st; intro _ st)))
  refine post1 st Try.results66 (rd_t st rfl) ?_
  exact ⟨rfl, _, (st.fit (E' := []) trivial).subL (by repeat (first | exact List.Sublist.refl _ | apply List.Sublist.cons_cons | apply List.Sublist.cons | exact List.nil_sublist _))⟩
theorem markSheet_nil (m n : Int) (base : Option Addr) (cap : Nat) (k : Int) (w : World) : CV Try.prog 66 [vSh m n base 0 cap, .int .i64 k] w (.int .i64 k) := by
  refine enter Try.func66 rfl rfl rfl rfl ?_
  intro a st
  (repeat' (first | (refine o_callV st rfl (markSpotS_nil _ _ _ _) rfl ?_; clear st; intro _ _ st) | (refine c_seq ?_) | (refine c_region ?_) | (refine l_do ?_) | (refine l_nil ?_) | (refine x_then ?_) | (refine x_thenR ?_) | (refine x_thenE ?_) | (refine wp_ret ?_) | (refine o_move st rfl rfl ?_; clear st; intro _ st) | (refine o_assign st rfl rfl ?_; clear st; intro _ st) | (refine o_boxA st rfl rfl ?_; clear st; intro _ _ _ st) | (refine o_boxS st rfl rfl rfl ?_; clear st; intro _ _ _ st) | (refine o_fieldAddr st rfl rfl ?_; clear st; intro _ st) | (refine o_loadS st rfl (by repeat (first | exact At.here | apply At.there)) rfl rfl ?_; clear st; intro _ st) | (refine o_load3 st rfl (by repeat (first | exact At.here | apply At.there)) rfl ?_; clear st; intro _ st) | (refine o_load2 st rfl (by repeat (first | exact At.here | apply At.there)) rfl ?_; clear st; intro _ st) | (refine o_load4 st rfl (by repeat (first | exact At.here | apply At.there)) rfl ?_; clear st; intro _ st)))
  refine post1 st Try.results66 (rd_t st rfl) ?_
  exact ⟨rfl, st.ex0⟩
set_option maxHeartbeats 4000000 in
theorem heldSheet_ok (m n : Int) (q : Nat) (k : Int) (b cap : Nat) (pad : List Value) (w : World) (hb : w.heap[b]? = some (oS (marksS k q) pad)) (hlen : q < 1000000000) (hk0 : 0 ≤ k) (hk1 : k ≤ 4000000000) :
    CV Try.prog 67 [vSh m n (some ⟨b, 0, none⟩) q cap, .int .i64 k] w (.int .i64 (k + 3 * (q : Int))) := by
  refine enterL [⟨b, false, oS (marksS k q) pad⟩] (by simp [hb]) Try.func67 rfl rfl rfl rfl ?_
  intro a st
  (repeat' (first | (refine o_callV st rfl (heldSpotS_ok q k b cap pad _ (st.heap (by repeat (first | exact At.here | apply At.there))) hlen hk0 hk1) rfl ?_; clear st; intro _ _ st) | (refine c_seq ?_) | (refine c_region ?_) | (refine l_do ?_) | (refine l_nil ?_) | (refine x_then ?_) | (refine x_thenR ?_) | (refine x_thenE ?_) | (refine wp_ret ?_) | (refine wp_skip ?_) | (refine c_condT st rfl ?_) | (refine c_condF st rfl ?_) | (refine o_move st rfl rfl ?_; clear st; intro _ st) | (refine o_assign st rfl rfl ?_; clear st; intro _ st) | (refine o_boxA st rfl rfl ?_; clear st; intro _ _ _ st) | (refine o_boxS st rfl rfl rfl ?_; clear st; intro _ _ _ st) | (refine o_fieldAddr st rfl rfl ?_; clear st; intro _ st) | (refine o_loadS st rfl (by repeat (first | exact At.here | apply At.there)) rfl rfl ?_; clear st; intro _ st) | (refine o_load3 st rfl (by repeat (first | exact At.here | apply At.there)) rfl ?_; clear st; intro _ st) | (refine o_load2 st rfl (by repeat (first | exact At.here | apply At.there)) rfl ?_; clear st; intro _ st) | (refine o_load4 st rfl (by repeat (first | exact At.here | apply At.there)) rfl ?_; clear st; intro _ st) | (refine o_lss st rfl rfl rfl ?_ ?_ <;> clear st <;> intro _ _ st <;> (try (exfalso; omega)))))
  refine post1 st Try.results67 (rd_t st rfl) ?_
  exact ⟨rfl, st.ex0⟩
theorem heldSheet_nil (m n : Int) (base : Option Addr) (cap : Nat) (k : Int) (hk0 : 0 ≤ k) (w : World) : CV Try.prog 67 [vSh m n base 0 cap, .int .i64 k] w (.int .i64 k) := by
  refine enter Try.func67 rfl rfl rfl rfl ?_
  intro a st
  (repeat' (first | (refine o_callV st rfl (heldSpotS_nil _ _ _ _) rfl ?_; clear st; intro _ _ st) | (refine c_seq ?_) | (refine c_region ?_) | (refine l_do ?_) | (refine l_nil ?_) | (refine x_then ?_) | (refine x_thenR ?_) | (refine x_thenE ?_) | (refine wp_ret ?_) | (refine wp_skip ?_) | (refine c_condT st rfl ?_) | (refine c_condF st rfl ?_) | (refine o_move st rfl rfl ?_; clear st; intro _ st) | (refine o_assign st rfl rfl ?_; clear st; intro _ st) | (refine o_boxA st rfl rfl ?_; clear st; intro _ _ _ st) | (refine o_boxS st rfl rfl rfl ?_; clear st; intro _ _ _ st) | (refine o_fieldAddr st rfl rfl ?_; clear st; intro _ st) | (refine o_loadS st rfl (by repeat (first | exact At.here | apply At.there)) rfl rfl ?_; clear st; intro _ st) | (refine o_load3 st rfl (by repeat (first | exact At.here | apply At.there)) rfl ?_; clear st; intro _ st) | (refine o_load2 st rfl (by repeat (first | exact At.here | apply At.there)) rfl ?_; clear st; intro _ st) | (refine o_load4 st rfl (by repeat (first | exact At.here | apply At.there)) rfl ?_; clear st; intro _ st) | (refine o_lss st rfl rfl rfl ?_ ?_ <;> clear st <;> intro _ _ st <;> (try (exfalso; omega)))))
  refine post1 st Try.results67 (rd_t st rfl) ?_
  exact ⟨rfl, st.ex0⟩

/-! ## clones -/
set_option maxHeartbeats 4000000 in
theorem clone_ok (bs : List B3) (blk off cap : Nat) (w : World) (hr : RdS w (some ⟨blk, off, none⟩) bs) (h0 : 0 < bs.length) (hlen : bs.length < 1000000000) :
    CM1 Try.prog 147 [.slice (some ⟨blk, off, none⟩) bs.length cap] w fun v b o => ∃ cap pad, v = .slice (some ⟨b, 0, none⟩) bs.length cap ∧ o = oS bs pad ∧ (cS bs ++ pad).length = cap * 3 := by
  refine enter Try.func147 rfl rfl rfl rfl ?_
  intro a st
  (repeat' (first | (refine o_eqlNil st rfl rfl ?_; clear st; intro _ st) | (refine o_buildSlice0S st rfl ?_; clear st; intro _ _ _ st) | (refine o_appendFp rfl st rfl rfl (hr.mono st.below) h0 (by omega) rfl ?_; clear st; intro blk1 cap1 pad1 _ _ hp1 st) | (refine c_seq ?_) | (refine c_region ?_) | (refine l_do ?_) | (refine l_nil ?_) | (refine x_then ?_) | (refine x_thenR ?_) | (refine x_thenE ?_) | (refine wp_ret ?_) | (refine wp_skip ?_) | (refine c_condT st rfl ?_) | (refine c_condF st rfl ?_) | (refine o_move st rfl rfl ?_; clear st; intro _ st) | (refine o_assign st rfl rfl ?_; clear st; intro _ st) | (refine o_eqlI st rfl rfl rfl ?_ ?_ <;> clear st <;> intro _ _ st <;> (try (exfalso; omega)))))
  refine post1 st Try.results147 (rd_t st rfl) ?_
  exact ⟨_, blk1, _, rfl, ⟨cap1, pad1, rfl, rfl, hp1⟩, st.ex1 (by repeat (first | exact At.here | apply At.there))⟩

/-- The zero sheet. -/
abbrev vSh0 : Value := vSh 0 0 none 0 0

set_option maxHeartbeats 4000000 in
theorem l04Give_ok (m n : Int) (bs : List B3) (ss : List S3) (h : IsSL bs ss) (base : Option Addr) (cap : Nat) (w : World) (hr : RdS w base bs) (hlen : bs.length < 1000000000) :
    CV Try.prog 134 [vSh m n base bs.length cap] w (if validC m n ss then .tuple #[vSh m n base bs.length cap, .bool true] else .tuple #[vSh0, .bool false]) := by
  refine enter Try.func134 rfl rfl rfl rfl ?_
  intro a st
  have hc := fun (w : World) pb t fr hp hr => l04Is_ok m n bs ss h base cap pb t fr w hp hr hlen
  generalize validC m n ss = q at hc ⊢
  cases q
  all_goals
    (repeat' (first | (refine o_callV st rfl (hc _ _ _ _ (st.heap (by repeat (first | exact At.here | apply At.there))) (hr.mono st.below)) rfl ?_; clear st; intro _ _ st) | (refine c_seq ?_) | (refine c_region ?_) | (refine l_do ?_) | (refine l_nil ?_) | (refine x_then ?_) | (refine x_thenR ?_) | (refine x_thenE ?_) | (refine wp_ret ?_) | (refine wp_skip ?_) | (refine c_condT st rfl ?_) | (refine c_condF st rfl ?_) | (refine o_assign st rfl rfl ?_; clear st; intro _ st) | (refine o_alloc st rfl ?_; clear st; intro _ _ _ st) | (refine o_boxA st rfl rfl ?_; clear st; intro _ _ _ st) | (refine o_boxS st rfl rfl rfl ?_; clear st; intro _ _ _ st) | (refine o_loadS st rfl (by repeat (first | exact At.here | apply At.there)) rfl rfl ?_; clear st; intro _ st) | (refine o_load3 st rfl (by repeat (first | exact At.here | apply At.there)) rfl ?_; clear st; intro _ st) | (refine o_load2 st rfl (by repeat (first | exact At.here | apply At.there)) rfl ?_; clear st; intro _ st) | (refine o_load4 st rfl (by repeat (first | exact At.here | apply At.there)) rfl ?_; clear st; intro _ st) | (refine o_storeS st rfl rfl rfl (by repeat (first | exact Upd.here | apply Upd.there)) rfl (by dsimp only [List.set]) ?_; clear st; intro _ _ st) | (refine o_storeW st rfl rfl (by repeat (first | exact Upd.here | apply Upd.there)) rfl rfl rfl ?_; clear st; intro _ _ st) | (refine o_build3 st rfl rfl rfl rfl rfl rfl rfl ?_; clear st; intro _ st) | (refine o_build2 st rfl rfl rfl rfl rfl ?_; clear st; intro _ st) | (refine o_build0 st rfl ?_; clear st; intro _ st) | (refine o_notT st rfl rfl ?_; clear st; intro _ st) | (refine o_notF st rfl rfl ?_; clear st; intro _ st)))
    refine post2 st Try.results134 (rd_c st rfl (by repeat (first | exact At.here | apply At.there)) rfl) (rd_t st rfl) ?_
    exact ⟨rfl, st.ex0⟩
set_option maxHeartbeats 4000000 in
theorem ifSheet_ok (m n : Int) (bs : List B3) (ss : List S3) (h : IsSL bs ss) (base : Option Addr) (cap : Nat) (w : World) (hr : RdS w base bs) (hlen : bs.length < 1000000000) :
    CV Try.prog 135 [vSh m n base bs.length cap] w (if validC m n ss then .tuple #[vSh m n base bs.length cap, .bool true] else .tuple #[vSh0, .bool false]) := by
  refine enter Try.func135 rfl rfl rfl rfl ?_
  intro a st
  have hc := fun (w : World) hr => implValid_ok m n bs ss h base cap w hr hlen
  generalize validC m n ss = q at hc ⊢
  cases q
  all_goals
    (repeat' (first | (refine o_callV st rfl (hc _ (hr.mono st.below)) rfl ?_; clear st; intro _ _ st) | (refine c_seq ?_) | (refine c_region ?_) | (refine l_do ?_) | (refine l_nil ?_) | (refine x_then ?_) | (refine x_thenR ?_) | (refine x_thenE ?_) | (refine wp_ret ?_) | (refine wp_skip ?_) | (refine c_condT st rfl ?_) | (refine c_condF st rfl ?_) | (refine o_assign st rfl rfl ?_; clear st; intro _ st) | (refine o_alloc st rfl ?_; clear st; intro _ _ _ st) | (refine o_boxA st rfl rfl ?_; clear st; intro _ _ _ st) | (refine o_boxS st rfl rfl rfl ?_; clear st; intro _ _ _ st) | (refine o_loadS st rfl (by repeat (first | exact At.here | apply At.there)) rfl rfl ?_; clear st; intro _ st) | (refine o_load3 st rfl (by repeat (first | exact At.here | apply At.there)) rfl ?_; clear st; intro _ st) | (refine o_load2 st rfl (by repeat (first | exact At.here | apply At.there)) rfl ?_; clear st; intro _ st) | (refine o_load4 st rfl (by repeat (first | exact At.here | apply At.there)) rfl ?_; clear st; intro _ st) | (refine o_storeS st rfl rfl rfl (by repeat (first | exact Upd.here | apply Upd.there)) rfl (by dsimp only [List.set]) ?_; clear st; intro _ _ st) | (refine o_storeW st rfl rfl (by repeat (first | exact Upd.here | apply Upd.there)) rfl rfl rfl ?_; clear st; intro _ _ st) | (refine o_build3 st rfl rfl rfl rfl rfl rfl rfl ?_; clear st; intro _ st) | (refine o_build2 st rfl rfl rfl rfl rfl ?_; clear st; intro _ st) | (refine o_build0 st rfl ?_; clear st; intro _ st) | (refine o_notT st rfl rfl ?_; clear st; intro _ st) | (refine o_notF st rfl rfl ?_; clear st; intro _ st)))
    refine post2 st Try.results135 (rd_c st rfl (by repeat (first | exact At.here | apply At.there)) rfl) (rd_t st rfl) ?_
    exact ⟨rfl, st.ex0⟩

set_option maxHeartbeats 8000000 in
theorem l04Own_ok (m n : Int) (bs : List B3) (blk off cap : Nat) (pb : Nat) (t : TypeId) (fr : Nat × Nat) (w : World) (hp : w.heap[pb]? = some (.cells [.int .i64 m, .int .i64 n, .slice (some ⟨blk, off, none⟩) bs.length cap].toArray t fr)) (hr : RdS w (some ⟨blk, off, none⟩) bs) (h0 : 0 < bs.length) (hlen : bs.length < 1000000000) :
    CM1 Try.prog 145 [.pointer (some ⟨pb, 0, none⟩)] w fun v b o => ∃ cap pad, v = vSh m n (some ⟨b, 0, none⟩) bs.length cap ∧ o = oS bs pad ∧ (cS bs ++ pad).length = cap * 3 := by
  refine enterL [⟨pb, false, .cells [.int .i64 m, .int .i64 n, .slice (some ⟨blk, off, none⟩) bs.length cap].toArray t fr⟩] (by simp [hp]) Try.func145 rfl rfl rfl rfl ?_
  intro a st
  (repeat' (first | (refine c_seq ?_) | (refine c_region ?_) | (refine l_do ?_) | (refine l_nil ?_) | (refine x_then ?_) | (refine x_thenR ?_) | (refine x_thenE ?_) | (refine wp_ret ?_) | (refine o_move st rfl rfl ?_; clear st; intro _ st) | (refine o_alloc st rfl ?_; clear st; intro _ _ _ st) | (refine o_fieldAddr st rfl rfl ?_; clear st; intro _ st) | (refine o_loadS st rfl (by repeat (first | exact At.here | apply At.there)) rfl rfl ?_; clear st; intro _ st) | (refine o_load3 st rfl (by repeat (first | exact At.here | apply At.there)) rfl ?_; clear st; intro _ st) | (refine o_load2 st rfl (by repeat (first | exact At.here | apply At.there)) rfl ?_; clear st; intro _ st) | (refine o_load4 st rfl (by repeat (first | exact At.here | apply At.there)) rfl ?_; clear st; intro _ st) | (refine o_storeS st rfl rfl rfl (by repeat (first | exact Upd.here | apply Upd.there)) rfl (by dsimp only [List.set]) ?_; clear st; intro _ _ st) | (refine o_storeW st rfl rfl (by repeat (first | exact Upd.here | apply Upd.there)) rfl rfl rfl ?_; clear st; intro _ _ st) | (refine o_build3 st rfl rfl rfl rfl rfl rfl rfl ?_; clear st; intro _ st) | (refine o_build2 st rfl rfl rfl rfl rfl ?_; clear st; intro _ st) | (refine o_build0 st rfl ?_; clear st; intro _ st) | (refine o_nilCheck st rfl rfl ?_; clear st; intro _ st)))
  refine c_drawA (last := 15) hm_ (by decide +kernel) (by decide +kernel) st ?_; clear st; intro _ st
  refine h_val (i := 0) st (by repeat (first | exact List.Sublist.refl _ | apply List.Sublist.cons_cons | apply List.Sublist.cons | exact List.nil_sublist _)) (by decide +kernel) (by decide +kernel) rfl (by decide +kernel) rfl (v_move st rfl) ?_; clear st; intro _ st
  refine h_val (i := 1) st (by repeat (first | exact List.Sublist.refl _ | apply List.Sublist.cons_cons | apply List.Sublist.cons | exact List.nil_sublist _)) (by decide +kernel) (by decide +kernel) rfl (by decide +kernel) rfl (v_nilCheck st rfl) ?_; clear st; intro _ st
  refine h_val (i := 2) st (by repeat (first | exact List.Sublist.refl _ | apply List.Sublist.cons_cons | apply List.Sublist.cons | exact List.nil_sublist _)) (by decide +kernel) (by decide +kernel) rfl (by decide +kernel) rfl (v_fieldAddr st rfl) ?_; clear st; intro _ st
  refine h_val (i := 3) st (by repeat (first | exact List.Sublist.refl _ | apply List.Sublist.cons_cons | apply List.Sublist.cons | exact List.nil_sublist _)) (by decide +kernel) (by decide +kernel) rfl (by decide +kernel) rfl (by first | exact v_load3 st rfl (by repeat (first | exact At.here | apply At.there)) | exact v_loadS st rfl (by repeat (first | exact At.here | apply At.there)) rfl) ?_; clear st; intro _ st
  refine h_val (i := 4) st (by repeat (first | exact List.Sublist.refl _ | apply List.Sublist.cons_cons | apply List.Sublist.cons | exact List.nil_sublist _)) (by decide +kernel) (by decide +kernel) rfl (by decide +kernel) rfl (v_move st rfl) ?_; clear st; intro _ st
  refine h_val (i := 5) st (by repeat (first | exact List.Sublist.refl _ | apply List.Sublist.cons_cons | apply List.Sublist.cons | exact List.nil_sublist _)) (by decide +kernel) (by decide +kernel) rfl (by decide +kernel) rfl (v_nilCheck st rfl) ?_; clear st; intro _ st
  refine h_val (i := 6) st (by repeat (first | exact List.Sublist.refl _ | apply List.Sublist.cons_cons | apply List.Sublist.cons | exact List.nil_sublist _)) (by decide +kernel) (by decide +kernel) rfl (by decide +kernel) rfl (v_fieldAddr st rfl) ?_; clear st; intro _ st
  refine h_val (i := 7) st (by repeat (first | exact List.Sublist.refl _ | apply List.Sublist.cons_cons | apply List.Sublist.cons | exact List.nil_sublist _)) (by decide +kernel) (by decide +kernel) rfl (by decide +kernel) rfl (by first | exact v_load3 st rfl (by repeat (first | exact At.here | apply At.there)) | exact v_loadS st rfl (by repeat (first | exact At.here | apply At.there)) rfl) ?_; clear st; intro _ st
  refine h_val (i := 9) st (by repeat (first | exact List.Sublist.refl _ | apply List.Sublist.cons_cons | apply List.Sublist.cons | exact List.nil_sublist _)) (by decide +kernel) (by decide +kernel) rfl (by decide +kernel) rfl (v_move st rfl) ?_; clear st; intro _ st
  refine h_val (i := 10) st (by repeat (first | exact List.Sublist.refl _ | apply List.Sublist.cons_cons | apply List.Sublist.cons | exact List.nil_sublist _)) (by decide +kernel) (by decide +kernel) rfl (by decide +kernel) rfl (v_nilCheck st rfl) ?_; clear st; intro _ st
  refine h_val (i := 11) st (by repeat (first | exact List.Sublist.refl _ | apply List.Sublist.cons_cons | apply List.Sublist.cons | exact List.nil_sublist _)) (by decide +kernel) (by decide +kernel) rfl (by decide +kernel) rfl (v_fieldAddr st rfl) ?_; clear st; intro _ st
  refine h_val (i := 12) st (by repeat (first | exact List.Sublist.refl _ | apply List.Sublist.cons_cons | apply List.Sublist.cons | exact List.nil_sublist _)) (by decide +kernel) (by decide +kernel) rfl (by decide +kernel) rfl (by first | exact v_load3 st rfl (by repeat (first | exact At.here | apply At.there)) | exact v_loadS st rfl (by repeat (first | exact At.here | apply At.there)) rfl) ?_; clear st; intro _ st
  refine h_one (i := 8) (by decide +kernel) rfl ?_
  refine o_buildSlice0S st rfl ?_; clear st; intro _ _ _ st
  refine k_held st (by repeat (first | exact List.Sublist.refl _ | apply List.Sublist.cons_cons | apply List.Sublist.cons | exact List.nil_sublist _)) ?_
  refine h_one (i := 13) (by decide +kernel) rfl ?_
  refine o_appendFp rfl st rfl rfl (hr.mono st.below) h0 (by omega) rfl ?_; clear st; intro blk1 cap1 pad1 _ _ hp1 st
  refine k_held st (by repeat (first | exact List.Sublist.refl _ | apply List.Sublist.cons_cons | apply List.Sublist.cons | exact List.nil_sublist _)) ?_
  refine h_val (i := 14) st (by repeat (first | exact List.Sublist.refl _ | apply List.Sublist.cons_cons | apply List.Sublist.cons | exact List.nil_sublist _)) (by decide +kernel) (by decide +kernel) rfl (by decide +kernel) rfl (by first | exact v_build3 st rfl rfl rfl rfl rfl rfl | exact v_build2 st rfl rfl rfl rfl) ?_; clear st; intro _ st
  refine h_one (i := 15) (by decide +kernel) rfl ?_
  (first | (refine o_storeS st rfl rfl rfl (by repeat (first | exact Upd.here | apply Upd.there)) rfl (by dsimp only [List.set]) ?_; clear st; intro _ _ st) | (refine o_storeW st rfl rfl (by repeat (first | exact Upd.here | apply Upd.there)) rfl rfl rfl ?_; clear st; intro _ _ st))
  refine k_last ?_
  refine h_done (by decide +kernel) ?_
  (repeat' (first | (refine c_seq ?_) | (refine c_region ?_) | (refine l_do ?_) | (refine l_nil ?_) | (refine x_then ?_) | (refine x_thenR ?_) | (refine x_thenE ?_) | (refine wp_ret ?_) | (refine o_move st rfl rfl ?_; clear st; intro _ st) | (refine o_alloc st rfl ?_; clear st; intro _ _ _ st) | (refine o_fieldAddr st rfl rfl ?_; clear st; intro _ st) | (refine o_loadS st rfl (by repeat (first | exact At.here | apply At.there)) rfl rfl ?_; clear st; intro _ st) | (refine o_load3 st rfl (by repeat (first | exact At.here | apply At.there)) rfl ?_; clear st; intro _ st) | (refine o_load2 st rfl (by repeat (first | exact At.here | apply At.there)) rfl ?_; clear st; intro _ st) | (refine o_load4 st rfl (by repeat (first | exact At.here | apply At.there)) rfl ?_; clear st; intro _ st) | (refine o_storeS st rfl rfl rfl (by repeat (first | exact Upd.here | apply Upd.there)) rfl (by dsimp only [List.set]) ?_; clear st; intro _ _ st) | (refine o_storeW st rfl rfl (by repeat (first | exact Upd.here | apply Upd.there)) rfl rfl rfl ?_; clear st; intro _ _ st) | (refine o_build3 st rfl rfl rfl rfl rfl rfl rfl ?_; clear st; intro _ st) | (refine o_build2 st rfl rfl rfl rfl rfl ?_; clear st; intro _ st) | (refine o_build0 st rfl ?_; clear st; intro _ st) | (refine o_nilCheck st rfl rfl ?_; clear st; intro _ st)))
  refine post1 st Try.results145 (rd_c st rfl (by repeat (first | exact At.here | apply At.there)) rfl) ?_
  exact ⟨_, blk1, _, rfl, ⟨cap1, pad1, rfl, rfl, hp1⟩, st.ex1 (by repeat (first | exact At.here | apply At.there))⟩

/-! ## the sheet of four spots -/
def crn (s1 s2 s3 s4 : S3) : List S3 := [s1, s2, s3, s4]
theorem IsSL4 {b1 b2 b3 b4 : B3} {s1 s2 s3 s4 : S3} (h1 : IsS b1 s1) (h2 : IsS b2 s2) (h3 : IsS b3 s3) (h4 : IsS b4 s4) : IsSL [b1, b2, b3, b4] (crn s1 s2 s3 s4) := by
  refine ⟨rfl, ?_⟩
  intro i b s hb hs
  match i with
  | 0 => simp [crn] at hb hs; subst hb; subst hs; exact h1
  | 1 => simp [crn] at hb hs; subst hb; subst hs; exact h2
  | 2 => simp [crn] at hb hs; subst hb; subst hs; exact h3
  | 3 => simp [crn] at hb hs; subst hb; subst hs; exact h4
  | i + 4 => simp at hb

set_option maxHeartbeats 4000000 in
theorem specCorner_ok (b1 b2 b3 b4 : B3) (s1 s2 s3 s4 : S3) (h1 : IsS b1 s1) (h2 : IsS b2 s2) (h3 : IsS b3 s3) (h4 : IsS b4 s4) (w : World) :
    CM1 Try.prog 64 [vS b1, vS b2, vS b3, vS b4] w fun v b o => v = (if validC 2 2 (crn s1 s2 s3 s4) then .tuple #[vSh 2 2 (some ⟨b, 0, none⟩) 4 4, .bool true] else .tuple #[vSh0, .bool false]) ∧ o = oS [b1, b2, b3, b4] [] := by
  refine enter Try.func64 rfl rfl rfl rfl ?_
  intro a st
  have hc := fun (w : World) base hr => l04Give_ok 2 2 [b1, b2, b3, b4] _ (IsSL4 h1 h2 h3 h4) base 4 w hr (by simp)
  generalize validC 2 2 (crn s1 s2 s3 s4) = q at hc ⊢
  cases q
  all_goals
    (repeat' (first | (refine o_buildSliceS [b1, b2, b3, b4] st rfl rfl rfl rfl rfl ?_; clear st; intro blk1 _ _ st) | (refine o_callV st rfl (hc _ _ (RdS.of (st.heap (by repeat (first | exact At.here | apply At.there))) (spotsIn0 _))) rfl ?_; clear st; intro _ _ st) | (refine c_seq ?_) | (refine c_region ?_) | (refine l_do ?_) | (refine l_nil ?_) | (refine x_then ?_) | (refine x_thenR ?_) | (refine x_thenE ?_) | (refine wp_ret ?_) | (refine o_assign st rfl rfl ?_; clear st; intro _ st) | (refine o_alloc st rfl ?_; clear st; intro _ _ _ st) | (refine o_boxA st rfl rfl ?_; clear st; intro _ _ _ st) | (refine o_boxS st rfl rfl rfl ?_; clear st; intro _ _ _ st) | (refine o_loadS st rfl (by repeat (first | exact At.here | apply At.there)) rfl rfl ?_; clear st; intro _ st) | (refine o_load3 st rfl (by repeat (first | exact At.here | apply At.there)) rfl ?_; clear st; intro _ st) | (refine o_load2 st rfl (by repeat (first | exact At.here | apply At.there)) rfl ?_; clear st; intro _ st) | (refine o_load4 st rfl (by repeat (first | exact At.here | apply At.there)) rfl ?_; clear st; intro _ st) | (refine o_storeS st rfl rfl rfl (by repeat (first | exact Upd.here | apply Upd.there)) rfl (by dsimp only [List.set]) ?_; clear st; intro _ _ st) | (refine o_storeW st rfl rfl (by repeat (first | exact Upd.here | apply Upd.there)) rfl rfl rfl ?_; clear st; intro _ _ st) | (refine o_build3 st rfl rfl rfl rfl rfl rfl rfl ?_; clear st; intro _ st) | (refine o_build2 st rfl rfl rfl rfl rfl ?_; clear st; intro _ st) | (refine o_build0 st rfl ?_; clear st; intro _ st) | (refine o_extract st rfl rfl rfl ?_; clear st; intro _ st)))
    refine post2 st Try.results64 (rd_c st rfl (by repeat (first | exact At.here | apply At.there)) rfl) (rd_t st rfl) ?_
    exact ⟨_, blk1, _, rfl, ⟨rfl, rfl⟩, st.ex1 (by repeat (first | exact At.here | apply At.there))⟩
set_option maxHeartbeats 4000000 in
theorem implCorner_ok (b1 b2 b3 b4 : B3) (s1 s2 s3 s4 : S3) (h1 : IsS b1 s1) (h2 : IsS b2 s2) (h3 : IsS b3 s3) (h4 : IsS b4 s4) (w : World) :
    CM1 Try.prog 65 [vS b1, vS b2, vS b3, vS b4] w fun v b o => v = (if validC 2 2 (crn s1 s2 s3 s4) then .tuple #[vSh 2 2 (some ⟨b, 0, none⟩) 4 4, .bool true] else .tuple #[vSh0, .bool false]) ∧ o = oS [b1, b2, b3, b4] [] := by
  refine enter Try.func65 rfl rfl rfl rfl ?_
  intro a st
  have hc := fun (w : World) base hr => ifSheet_ok 2 2 [b1, b2, b3, b4] _ (IsSL4 h1 h2 h3 h4) base 4 w hr (by simp)
  generalize validC 2 2 (crn s1 s2 s3 s4) = q at hc ⊢
  cases q
  all_goals
    (repeat' (first | (refine o_buildSliceS [b1, b2, b3, b4] st rfl rfl rfl rfl rfl ?_; clear st; intro blk1 _ _ st) | (refine o_callV st rfl (hc _ _ (RdS.of (st.heap (by repeat (first | exact At.here | apply At.there))) (spotsIn0 _))) rfl ?_; clear st; intro _ _ st) | (refine c_seq ?_) | (refine c_region ?_) | (refine l_do ?_) | (refine l_nil ?_) | (refine x_then ?_) | (refine x_thenR ?_) | (refine x_thenE ?_) | (refine wp_ret ?_) | (refine o_assign st rfl rfl ?_; clear st; intro _ st) | (refine o_alloc st rfl ?_; clear st; intro _ _ _ st) | (refine o_boxA st rfl rfl ?_; clear st; intro _ _ _ st) | (refine o_boxS st rfl rfl rfl ?_; clear st; intro _ _ _ st) | (refine o_loadS st rfl (by repeat (first | exact At.here | apply At.there)) rfl rfl ?_; clear st; intro _ st) | (refine o_load3 st rfl (by repeat (first | exact At.here | apply At.there)) rfl ?_; clear st; intro _ st) | (refine o_load2 st rfl (by repeat (first | exact At.here | apply At.there)) rfl ?_; clear st; intro _ st) | (refine o_load4 st rfl (by repeat (first | exact At.here | apply At.there)) rfl ?_; clear st; intro _ st) | (refine o_storeS st rfl rfl rfl (by repeat (first | exact Upd.here | apply Upd.there)) rfl (by dsimp only [List.set]) ?_; clear st; intro _ _ st) | (refine o_storeW st rfl rfl (by repeat (first | exact Upd.here | apply Upd.there)) rfl rfl rfl ?_; clear st; intro _ _ st) | (refine o_build3 st rfl rfl rfl rfl rfl rfl rfl ?_; clear st; intro _ st) | (refine o_build2 st rfl rfl rfl rfl rfl ?_; clear st; intro _ st) | (refine o_build0 st rfl ?_; clear st; intro _ st) | (refine o_extract st rfl rfl rfl ?_; clear st; intro _ st)))
    refine post2 st Try.results65 (rd_c st rfl (by repeat (first | exact At.here | apply At.there)) rfl) (rd_t st rfl) ?_
    exact ⟨_, blk1, _, rfl, ⟨rfl, rfl⟩, st.ex1 (by repeat (first | exact At.here | apply At.there))⟩
end Go.Proofs.Ytefnlalldgbcaaa
