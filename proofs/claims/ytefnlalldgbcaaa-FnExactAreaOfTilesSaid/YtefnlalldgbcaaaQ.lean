/-
  Contracts: lists of integers: compared, marked, held; the corners of triangles.
-/
import Derived.Test.YtefnlalldgbcaaaP
namespace Go.Proofs.Ytefnlalldgbcaaa
open Go.RowKit
attribute [local irreducible] Code.wp wpList Oper.wp Calls bodyPost Exit.then Exit.inBlock

abbrev vI (n : Int) : Value := .int .i64 n
/-- The block of a list of integers, with room. -/
abbrev oI (ns : List Int) (pad : List Value) : Obj := .cells (ns.map vI ++ pad).toArray 2 (0, 0)

theorem oI_get (ns : List Int) (pad : List Value) (k : Nat) (h : k < ns.length) : (ns.map vI ++ pad).toArray[0 + (k : Int).toNat * 1]? = some (vI ns[k]) := by
  simp [List.getElem?_append, h]

set_option maxHeartbeats 4000000 in
theorem eqInt64S_ok (ns : List Int) (b b' cap cap' : Nat) (pad pad' : List Value) (w : World) (hb : w.heap[b]? = some (oI ns pad)) (hb' : w.heap[b']? = some (oI ns pad')) (hlen : ns.length < 1000000000) :
    CV Try.prog 37 [.slice (some ⟨b, 0, none⟩) ns.length cap, .slice (some ⟨b', 0, none⟩) ns.length cap'] w (.bool true) := by
  refine enterL [⟨b, false, oI ns pad⟩, ⟨b', false, oI ns pad'⟩] (by simp [hb, hb']) Try.func37 rfl rfl rfl rfl ?_
  intro a st
  (repeat' (first | (refine c_seq ?_) | (refine c_region ?_) | (refine l_do ?_) | (refine l_nil ?_) | (refine x_then ?_) | (refine x_thenR ?_) | (refine x_thenE ?_) | (refine x_blkN ?_) | (refine x_blkR ?_) | (refine x_blkE ?_) | (refine x_blkO rfl ?_) | (refine wp_ret ?_) | (refine wp_skip ?_) | (refine wp_block ?_) | (refine wp_exit ?_) | (refine c_condT st rfl ?_) | (refine c_condF st rfl ?_) | (refine o_move st rfl rfl ?_; clear st; intro _ st) | (refine o_assign st rfl rfl ?_; clear st; intro _ st) | (refine o_loadS st rfl (by repeat (first | exact At.here | apply At.there)) rfl rfl ?_; clear st; intro _ st) | (refine o_load3 st rfl (by repeat (first | exact At.here | apply At.there)) rfl ?_; clear st; intro _ st) | (refine o_load2 st rfl (by repeat (first | exact At.here | apply At.there)) rfl ?_; clear st; intro _ st) | (refine o_load4 st rfl (by repeat (first | exact At.here | apply At.there)) rfl ?_; clear st; intro _ st) | (refine o_len st rfl rfl ?_; clear st; intro _ st) | (refine o_add64 st rfl rfl rfl (by omega) (by omega) ?_; clear st; intro _ st) | (refine o_lss st rfl rfl rfl ?_ ?_ <;> clear st <;> intro _ _ st <;> (try (exfalso; omega))) | (refine o_neqI st rfl rfl rfl ?_ ?_ <;> clear st <;> intro _ _ st <;> (try (exfalso; omega)))))
  refine wp_loop_ghost (fun n a w' => ∃ k : Nat, k ≤ ns.length ∧ n = ns.length - k ∧ St w Try.f37.ntmps a w' [(0, .slice (some ⟨b, 0, none⟩) ns.length cap), (1, .slice (some ⟨b', 0, none⟩) ns.length cap'), (5, .int .i64 k)] [⟨b, false, oI ns pad⟩, ⟨b', false, oI ns pad'⟩]) ns.length ⟨0, by omega, by omega, st.fit (by repeat (first | exact trivial | refine And.intro rfl ?_))⟩ ?_
  clear st
  rintro n a w' ⟨k, hk, rfl, st⟩
  by_cases hlt : k < ns.length
  · have hv := oI_get ns pad k hlt
    have hv' := oI_get ns pad' k hlt
    (repeat' (first | (refine c_seq ?_) | (refine c_region ?_) | (refine l_do ?_) | (refine l_nil ?_) | (refine x_then ?_) | (refine x_thenR ?_) | (refine x_thenE ?_) | (refine x_blkN ?_) | (refine x_blkR ?_) | (refine x_blkE ?_) | (refine x_blkO rfl ?_) | (refine wp_ret ?_) | (refine wp_skip ?_) | (refine wp_block ?_) | (refine wp_exit ?_) | (refine c_condT st rfl ?_) | (refine c_condF st rfl ?_) | (refine o_move st rfl rfl ?_; clear st; intro _ st) | (refine o_assign st rfl rfl ?_; clear st; intro _ st) | (refine o_loadS st rfl (by repeat (first | exact At.here | apply At.there)) rfl rfl ?_; clear st; intro _ st) | (refine o_load3 st rfl (by repeat (first | exact At.here | apply At.there)) rfl ?_; clear st; intro _ st) | (refine o_load2 st rfl (by repeat (first | exact At.here | apply At.there)) rfl ?_; clear st; intro _ st) | (refine o_load4 st rfl (by repeat (first | exact At.here | apply At.there)) rfl ?_; clear st; intro _ st) | (refine o_len st rfl rfl ?_; clear st; intro _ st) | (refine o_add64 st rfl rfl rfl (by omega) (by omega) ?_; clear st; intro _ st) | (refine o_lss st rfl rfl rfl ?_ ?_ <;> clear st <;> intro _ _ st <;> (try (exfalso; omega))) | (refine o_neqI st rfl rfl rfl ?_ ?_ <;> clear st <;> intro _ _ st <;> (try (exfalso; omega)))))
    refine c_drawA (last := 9) hm_ (by decide +kernel) (by decide +kernel) st ?_; clear st; intro _ st
    refine h_val (i := 0) st (by repeat (first | exact List.Sublist.refl _ | apply List.Sublist.cons_cons | apply List.Sublist.cons | exact List.nil_sublist _)) (by decide +kernel) (by decide +kernel) rfl (by decide +kernel) rfl (v_move st rfl) ?_; clear st; intro _ st
    refine h_val (i := 1) st (by repeat (first | exact List.Sublist.refl _ | apply List.Sublist.cons_cons | apply List.Sublist.cons | exact List.nil_sublist _)) (by decide +kernel) (by decide +kernel) rfl (by decide +kernel) rfl (v_move st rfl) ?_; clear st; intro _ st
    refine h_val (i := 2) st (by repeat (first | exact List.Sublist.refl _ | apply List.Sublist.cons_cons | apply List.Sublist.cons | exact List.nil_sublist _)) (by decide +kernel) (by decide +kernel) rfl (by decide +kernel) rfl (v_indexAddr st rfl rfl (by omega) (by omega)) ?_; clear st; intro _ st
    refine h_val (i := 3) st (by repeat (first | exact List.Sublist.refl _ | apply List.Sublist.cons_cons | apply List.Sublist.cons | exact List.nil_sublist _)) (by decide +kernel) (by decide +kernel) rfl (by decide +kernel) rfl (v_loadS st rfl (by repeat (first | exact At.here | apply At.there)) hv) ?_; clear st; intro _ st
    refine h_val (i := 4) st (by repeat (first | exact List.Sublist.refl _ | apply List.Sublist.cons_cons | apply List.Sublist.cons | exact List.nil_sublist _)) (by decide +kernel) (by decide +kernel) rfl (by decide +kernel) rfl (v_move st rfl) ?_; clear st; intro _ st
    refine h_val (i := 5) st (by repeat (first | exact List.Sublist.refl _ | apply List.Sublist.cons_cons | apply List.Sublist.cons | exact List.nil_sublist _)) (by decide +kernel) (by decide +kernel) rfl (by decide +kernel) rfl (v_move st rfl) ?_; clear st; intro _ st
    refine h_val (i := 6) st (by repeat (first | exact List.Sublist.refl _ | apply List.Sublist.cons_cons | apply List.Sublist.cons | exact List.nil_sublist _)) (by decide +kernel) (by decide +kernel) rfl (by decide +kernel) rfl (v_indexAddr st rfl rfl (by omega) (by omega)) ?_; clear st; intro _ st
    refine h_val (i := 7) st (by repeat (first | exact List.Sublist.refl _ | apply List.Sublist.cons_cons | apply List.Sublist.cons | exact List.nil_sublist _)) (by decide +kernel) (by decide +kernel) rfl (by decide +kernel) rfl (v_loadS st rfl (by repeat (first | exact At.here | apply At.there)) hv') ?_; clear st; intro _ st
    refine h_val (i := 8) st (by repeat (first | exact List.Sublist.refl _ | apply List.Sublist.cons_cons | apply List.Sublist.cons | exact List.nil_sublist _)) (by decide +kernel) (by decide +kernel) rfl (by decide +kernel) rfl (v_neqIr st rfl rfl (bne_self_eq_false _)) ?_; clear st; intro _ st
    refine h_done (by decide +kernel) ?_
    (repeat' (first | (refine c_seq ?_) | (refine c_region ?_) | (refine l_do ?_) | (refine l_nil ?_) | (refine x_then ?_) | (refine x_thenR ?_) | (refine x_thenE ?_) | (refine x_blkN ?_) | (refine x_blkR ?_) | (refine x_blkE ?_) | (refine x_blkO rfl ?_) | (refine wp_ret ?_) | (refine wp_skip ?_) | (refine wp_block ?_) | (refine wp_exit ?_) | (refine c_condT st rfl ?_) | (refine c_condF st rfl ?_) | (refine o_move st rfl rfl ?_; clear st; intro _ st) | (refine o_assign st rfl rfl ?_; clear st; intro _ st) | (refine o_loadS st rfl (by repeat (first | exact At.here | apply At.there)) rfl rfl ?_; clear st; intro _ st) | (refine o_load3 st rfl (by repeat (first | exact At.here | apply At.there)) rfl ?_; clear st; intro _ st) | (refine o_load2 st rfl (by repeat (first | exact At.here | apply At.there)) rfl ?_; clear st; intro _ st) | (refine o_load4 st rfl (by repeat (first | exact At.here | apply At.there)) rfl ?_; clear st; intro _ st) | (refine o_len st rfl rfl ?_; clear st; intro _ st) | (refine o_add64 st rfl rfl rfl (by omega) (by omega) ?_; clear st; intro _ st) | (refine o_lss st rfl rfl rfl ?_ ?_ <;> clear st <;> intro _ _ st <;> (try (exfalso; omega))) | (refine o_neqI st rfl rfl rfl ?_ ?_ <;> clear st <;> intro _ _ st <;> (try (exfalso; omega)))))
    exact ⟨ns.length - (k + 1), by omega, k + 1, by omega, rfl, st.fit (by repeat (first | exact trivial | refine And.intro rfl ?_))⟩
  · (repeat' (first | (refine c_seq ?_) | (refine c_region ?_) | (refine l_do ?_) | (refine l_nil ?_) | (refine x_then ?_) | (refine x_thenR ?_) | (refine x_thenE ?_) | (refine x_blkN ?_) | (refine x_blkR ?_) | (refine x_blkE ?_) | (refine x_blkO rfl ?_) | (refine wp_ret ?_) | (refine wp_skip ?_) | (refine wp_block ?_) | (refine wp_exit ?_) | (refine c_condT st rfl ?_) | (refine c_condF st rfl ?_) | (refine o_move st rfl rfl ?_; clear st; intro _ st) | (refine o_assign st rfl rfl ?_; clear st; intro _ st) | (refine o_loadS st rfl (by repeat (first | exact At.here | apply At.there)) rfl rfl ?_; clear st; intro _ st) | (refine o_load3 st rfl (by repeat (first | exact At.here | apply At.there)) rfl ?_; clear st; intro _ st) | (refine o_load2 st rfl (by repeat (first | exact At.here | apply At.there)) rfl ?_; clear st; intro _ st) | (refine o_load4 st rfl (by repeat (first | exact At.here | apply At.there)) rfl ?_; clear st; intro _ st) | (refine o_len st rfl rfl ?_; clear st; intro _ st) | (refine o_add64 st rfl rfl rfl (by omega) (by omega) ?_; clear st; intro _ st) | (refine o_lss st rfl rfl rfl ?_ ?_ <;> clear st <;> intro _ _ st <;> (try (exfalso; omega))) | (refine o_neqI st rfl rfl rfl ?_ ?_ <;> clear st <;> intro _ _ st <;> (try (exfalso; omega)))))
    refine post1 st Try.results37 (rd_t st rfl) ?_
    exact ⟨rfl, st.ex0⟩

theorem eqInt64S_nil (w : World) : CV Try.prog 37 [.slice none 0 0, .slice none 0 0] w (.bool true) := by
  refine enter Try.func37 rfl rfl rfl rfl ?_
  intro a st
  (repeat' (first | (refine c_seq ?_) | (refine c_region ?_) | (refine l_do ?_) | (refine l_nil ?_) | (refine x_then ?_) | (refine x_thenR ?_) | (refine x_thenE ?_) | (refine x_blkN ?_) | (refine x_blkR ?_) | (refine x_blkE ?_) | (refine x_blkO rfl ?_) | (refine wp_ret ?_) | (refine wp_skip ?_) | (refine wp_block ?_) | (refine wp_exit ?_) | (refine c_condT st rfl ?_) | (refine c_condF st rfl ?_) | (refine o_move st rfl rfl ?_; clear st; intro _ st) | (refine o_assign st rfl rfl ?_; clear st; intro _ st) | (refine o_loadS st rfl (by repeat (first | exact At.here | apply At.there)) rfl rfl ?_; clear st; intro _ st) | (refine o_load3 st rfl (by repeat (first | exact At.here | apply At.there)) rfl ?_; clear st; intro _ st) | (refine o_load2 st rfl (by repeat (first | exact At.here | apply At.there)) rfl ?_; clear st; intro _ st) | (refine o_load4 st rfl (by repeat (first | exact At.here | apply At.there)) rfl ?_; clear st; intro _ st) | (refine o_len st rfl rfl ?_; clear st; intro _ st) | (refine o_add64 st rfl rfl rfl (by omega) (by omega) ?_; clear st; intro _ st) | (refine o_lss st rfl rfl rfl ?_ ?_ <;> clear st <;> intro _ _ st <;> (try (exfalso; omega))) | (refine o_neqI st rfl rfl rfl ?_ ?_ <;> clear st <;> intro _ _ st <;> (try (exfalso; omega)))))
  refine wp_loop_ghost (fun n a w' => n = 0 ∧ St w Try.f37.ntmps a w' [(0, .slice none 0 0), (1, .slice none 0 0), (5, .int .i64 0)] []) 0 ⟨rfl, st.fit (by repeat (first | exact trivial | refine And.intro rfl ?_))⟩ ?_
  clear st
  rintro n a w' ⟨rfl, st⟩
  (repeat' (first | (refine c_seq ?_) | (refine c_region ?_) | (refine l_do ?_) | (refine l_nil ?_) | (refine x_then ?_) | (refine x_thenR ?_) | (refine x_thenE ?_) | (refine x_blkN ?_) | (refine x_blkR ?_) | (refine x_blkE ?_) | (refine x_blkO rfl ?_) | (refine wp_ret ?_) | (refine wp_skip ?_) | (refine wp_block ?_) | (refine wp_exit ?_) | (refine c_condT st rfl ?_) | (refine c_condF st rfl ?_) | (refine o_move st rfl rfl ?_; clear st; intro _ st) | (refine o_assign st rfl rfl ?_; clear st; intro _ st) | (refine o_loadS st rfl (by repeat (first | exact At.here | apply At.there)) rfl rfl ?_; clear st; intro _ st) | (refine o_load3 st rfl (by repeat (first | exact At.here | apply At.there)) rfl ?_; clear st; intro _ st) | (refine o_load2 st rfl (by repeat (first | exact At.here | apply At.there)) rfl ?_; clear st; intro _ st) | (refine o_load4 st rfl (by repeat (first | exact At.here | apply At.there)) rfl ?_; clear st; intro _ st) | (refine o_len st rfl rfl ?_; clear st; intro _ st) | (refine o_add64 st rfl rfl rfl (by omega) (by omega) ?_; clear st; intro _ st) | (refine o_lss st rfl rfl rfl ?_ ?_ <;> clear st <;> intro _ _ st <;> (try (exfalso; omega))) | (refine o_neqI st rfl rfl rfl ?_ ?_ <;> clear st <;> intro _ _ st <;> (try (exfalso; omega)))))
  refine post1 st Try.results37 (rd_t st rfl) ?_
  exact ⟨rfl, st.ex0⟩

/-- n integers from k on. -/
def marks (k : Int) (n : Nat) : List Int := (List.range n).map fun (j : Nat) => k + (j : Int)
theorem marks_length (k : Int) (n : Nat) : (marks k n).length = n := by simp [marks]
theorem marks_succ (k : Int) (n : Nat) : marks k (n + 1) = marks k n ++ [k + n] := by simp [marks, List.range_succ]
theorem marks_get (k : Int) (n i : Nat) (h : i < (marks k n).length) : (marks k n)[i] = k + i := by simp [marks]

/-- A store of one cell into an own block, said by a list. -/
theorem o_storeL {P : Program} {w0 w : World} {N : Nat} {a : Act} {E : List (Nat × Value)} {L : List Ent} {K : Act → World → Prop} {Q : Exit → Act → World → Prop} {ty : TypeId} {pos : String} {aft : Array Edge} {g : Option (Nat × Bool)}
    {t t' : TypeId} {x y : Operand} {b off : Nat} {cs : List Value} (cs' : List Value) {v : Value} {L' : List Ent} [ht : ScaT P t] (st : St w0 N a w E L)
    (hx : evE E x = some (.pointer (some ⟨b, off, none⟩))) (hy : evE E y = some v) (hv : v.oneCell' = true) (hU : Upd L b (.cells cs.toArray t' (0, 0)) (.cells cs'.toArray t' (0, 0)) L') (hlt : off < cs.length) (hs : cs.set off v = cs')
    (h : ∀ a' w', St w0 N a' w' E L' → K a' w') : Oper.wp P ⟨none, .store t x y, ty, pos, aft, g⟩ a w K Q :=
  o_storeS st hx hy hv hU (by simpa [Nat.blt_eq] using hlt) hs h

theorem marks_set (k : Int) (ns : List Int) (pad : List Value) (i : Nat) (h : i < ns.length) :
    ((marks k i ++ ns.drop i).map vI ++ pad).set (0 + (i : Int).toNat * 1) (vI (k + i)) = (marks k (i + 1) ++ ns.drop (i + 1)).map vI ++ pad := by
  rw [marks_succ, List.drop_eq_getElem_cons h]
  simp only [List.map_append, List.map_cons, List.map_nil, List.append_assoc, Nat.zero_add, Nat.mul_one, Int.toNat_natCast]
  rw [List.set_append_right _ _ (by simp [marks_length])]
  simp [marks_length]

set_option maxHeartbeats 4000000 in
theorem markInt64S_ok (ns : List Int) (k : Int) (b cap : Nat) (pad : List Value) (w : World) (hb : w.heap[b]? = some (oI ns pad)) (hlen : ns.length < 1000000000) (hk0 : 0 ≤ k) (hk1 : k ≤ 1000000000) :
    CU Try.prog 38 [.slice (some ⟨b, 0, none⟩) ns.length cap, .int .i64 k] w (.int .i64 (k + ns.length)) b (oI (marks k ns.length) pad) := by
  refine enterU hb Try.func38 rfl rfl rfl rfl ?_
  intro a w0 Lf st
  (repeat' (first | (refine c_seq ?_) | (refine c_region ?_) | (refine l_do ?_) | (refine l_nil ?_) | (refine x_then ?_) | (refine x_thenR ?_) | (refine x_thenE ?_) | (refine x_blkN ?_) | (refine x_blkR ?_) | (refine x_blkE ?_) | (refine x_blkO rfl ?_) | (refine wp_ret ?_) | (refine wp_skip ?_) | (refine wp_block ?_) | (refine wp_exit ?_) | (refine c_condT st rfl ?_) | (refine c_condF st rfl ?_) | (refine o_move st rfl rfl ?_; clear st; intro _ st) | (refine o_assign st rfl rfl ?_; clear st; intro _ st) | (refine o_storeS st rfl rfl rfl (by repeat (first | exact Upd.here | apply Upd.there)) rfl (by dsimp only [List.set]) ?_; clear st; intro _ _ st) | (refine o_storeW st rfl rfl (by repeat (first | exact Upd.here | apply Upd.there)) rfl rfl rfl ?_; clear st; intro _ _ st) | (refine o_len st rfl rfl ?_; clear st; intro _ st) | (refine o_add64 st rfl rfl rfl (by omega) (by omega) ?_; clear st; intro _ st) | (refine o_lss st rfl rfl rfl ?_ ?_ <;> clear st <;> intro _ _ st <;> (try (exfalso; omega)))))
  refine wp_loop_ghost (fun n a w' => ∃ i : Nat, i ≤ ns.length ∧ n = ns.length - i ∧ St w0 Try.f38.ntmps a w' [(0, .slice (some ⟨b, 0, none⟩) ns.length cap), (1, .int .i64 (k + i)), (5, .int .i64 i)] (⟨b, true, oI (marks k i ++ ns.drop i) pad⟩ :: Lf)) ns.length ⟨0, by omega, by omega, by simpa [marks] using st.fit (by repeat (first | exact trivial | refine And.intro rfl ?_))⟩ ?_
  clear st
  rintro n a w' ⟨i, hi, rfl, st⟩
  by_cases hlt : i < ns.length
  · have hs := marks_set k ns pad i hlt
    have hl : 0 + (i : Int).toNat * 1 < ((marks k i ++ ns.drop i).map vI ++ pad).length := by simp [marks_length]; omega
    (repeat' (first | (refine o_indexAddr st rfl rfl (by omega) (by omega) rfl ?_; clear st; intro _ st) | (refine o_intIntW st rfl rfl ?_; clear st; intro _ st) | (refine o_storeL ((marks k (i + 1) ++ ns.drop (i + 1)).map vI ++ pad) st rfl rfl rfl (by repeat (first | exact Upd.here | apply Upd.there)) hl hs ?_; clear st; intro _ _ st) | (refine c_seq ?_) | (refine c_region ?_) | (refine l_do ?_) | (refine l_nil ?_) | (refine x_then ?_) | (refine x_thenR ?_) | (refine x_thenE ?_) | (refine x_blkN ?_) | (refine x_blkR ?_) | (refine x_blkE ?_) | (refine x_blkO rfl ?_) | (refine wp_ret ?_) | (refine wp_skip ?_) | (refine wp_block ?_) | (refine wp_exit ?_) | (refine c_condT st rfl ?_) | (refine c_condF st rfl ?_) | (refine o_move st rfl rfl ?_; clear st; intro _ st) | (refine o_assign st rfl rfl ?_; clear st; intro _ st) | (refine o_storeS st rfl rfl rfl (by repeat (first | exact Upd.here | apply Upd.there)) rfl (by dsimp only [List.set]) ?_; clear st; intro _ _ st) | (refine o_storeW st rfl rfl (by repeat (first | exact Upd.here | apply Upd.there)) rfl rfl rfl ?_; clear st; intro _ _ st) | (refine o_len st rfl rfl ?_; clear st; intro _ st) | (refine o_add64 st rfl rfl rfl (by omega) (by omega) ?_; clear st; intro _ st) | (refine o_lss st rfl rfl rfl ?_ ?_ <;> clear st <;> intro _ _ st <;> (try (exfalso; omega)))))
    refine ⟨ns.length - (i + 1), by omega, i + 1, by omega, rfl, ?_⟩
    have e : k + ((i + 1 : Nat) : Int) = k + i + 1 := by omega
    rw [e]
    exact st.fit (by repeat (first | exact trivial | refine And.intro rfl ?_))
  · have hk' : i = ns.length := by omega
    (repeat' (first | (refine c_seq ?_) | (refine c_region ?_) | (refine l_do ?_) | (refine l_nil ?_) | (refine x_then ?_) | (refine x_thenR ?_) | (refine x_thenE ?_) | (refine x_blkN ?_) | (refine x_blkR ?_) | (refine x_blkE ?_) | (refine x_blkO rfl ?_) | (refine wp_ret ?_) | (refine wp_skip ?_) | (refine wp_block ?_) | (refine wp_exit ?_) | (refine c_condT st rfl ?_) | (refine c_condF st rfl ?_) | (refine o_move st rfl rfl ?_; clear st; intro _ st) | (refine o_assign st rfl rfl ?_; clear st; intro _ st) | (refine o_storeS st rfl rfl rfl (by repeat (first | exact Upd.here | apply Upd.there)) rfl (by dsimp only [List.set]) ?_; clear st; intro _ _ st) | (refine o_storeW st rfl rfl (by repeat (first | exact Upd.here | apply Upd.there)) rfl rfl rfl ?_; clear st; intro _ _ st) | (refine o_len st rfl rfl ?_; clear st; intro _ st) | (refine o_add64 st rfl rfl rfl (by omega) (by omega) ?_; clear st; intro _ st) | (refine o_lss st rfl rfl rfl ?_ ?_ <;> clear st <;> intro _ _ st <;> (try (exfalso; omega)))))
    refine post1 st Try.results38 (rd_t st rfl) ?_
    subst hk'
    rw [List.drop_length, List.append_nil] at st
    exact ⟨rfl, _, st.fit trivial⟩

theorem markInt64S_nil (k : Int) (w : World) : CV Try.prog 38 [.slice none 0 0, .int .i64 k] w (.int .i64 k) := by
  refine enter Try.func38 rfl rfl rfl rfl ?_
  intro a st
  (repeat' (first | (refine c_seq ?_) | (refine c_region ?_) | (refine l_do ?_) | (refine l_nil ?_) | (refine x_then ?_) | (refine x_thenR ?_) | (refine x_thenE ?_) | (refine x_blkN ?_) | (refine x_blkR ?_) | (refine x_blkE ?_) | (refine x_blkO rfl ?_) | (refine wp_ret ?_) | (refine wp_skip ?_) | (refine wp_block ?_) | (refine wp_exit ?_) | (refine c_condT st rfl ?_) | (refine c_condF st rfl ?_) | (refine o_move st rfl rfl ?_; clear st; intro _ st) | (refine o_assign st rfl rfl ?_; clear st; intro _ st) | (refine o_storeS st rfl rfl rfl (by repeat (first | exact Upd.here | apply Upd.there)) rfl (by dsimp only [List.set]) ?_; clear st; intro _ _ st) | (refine o_storeW st rfl rfl (by repeat (first | exact Upd.here | apply Upd.there)) rfl rfl rfl ?_; clear st; intro _ _ st) | (refine o_len st rfl rfl ?_; clear st; intro _ st) | (refine o_add64 st rfl rfl rfl (by omega) (by omega) ?_; clear st; intro _ st) | (refine o_lss st rfl rfl rfl ?_ ?_ <;> clear st <;> intro _ _ st <;> (try (exfalso; omega)))))
  refine wp_loop_ghost (fun n a w' => n = 0 ∧ St w Try.f38.ntmps a w' [(0, .slice none 0 0), (1, .int .i64 k), (5, .int .i64 0)] []) 0 ⟨rfl, st.fit (by repeat (first | exact trivial | refine And.intro rfl ?_))⟩ ?_
  clear st
  rintro n a w' ⟨rfl, st⟩
  (repeat' (first | (refine c_seq ?_) | (refine c_region ?_) | (refine l_do ?_) | (refine l_nil ?_) | (refine x_then ?_) | (refine x_thenR ?_) | (refine x_thenE ?_) | (refine x_blkN ?_) | (refine x_blkR ?_) | (refine x_blkE ?_) | (refine x_blkO rfl ?_) | (refine wp_ret ?_) | (refine wp_skip ?_) | (refine wp_block ?_) | (refine wp_exit ?_) | (refine c_condT st rfl ?_) | (refine c_condF st rfl ?_) | (refine o_move st rfl rfl ?_; clear st; intro _ st) | (refine o_assign st rfl rfl ?_; clear st; intro _ st) | (refine o_storeS st rfl rfl rfl (by repeat (first | exact Upd.here | apply Upd.there)) rfl (by dsimp only [List.set]) ?_; clear st; intro _ _ st) | (refine o_storeW st rfl rfl (by repeat (first | exact Upd.here | apply Upd.there)) rfl rfl rfl ?_; clear st; intro _ _ st) | (refine o_len st rfl rfl ?_; clear st; intro _ st) | (refine o_add64 st rfl rfl rfl (by omega) (by omega) ?_; clear st; intro _ st) | (refine o_lss st rfl rfl rfl ?_ ?_ <;> clear st <;> intro _ _ st <;> (try (exfalso; omega)))))
  refine post1 st Try.results38 (rd_t st rfl) ?_
  exact ⟨rfl, st.ex0⟩

set_option maxHeartbeats 4000000 in
theorem heldInt64S_ok (m : Nat) (k : Int) (b cap : Nat) (pad : List Value) (w : World) (hb : w.heap[b]? = some (oI (marks k m) pad)) (hlen : m < 1000000000) (hk0 : 0 ≤ k) (hk1 : k ≤ 1000000000) :
    CV Try.prog 39 [.slice (some ⟨b, 0, none⟩) m cap, .int .i64 k] w (.int .i64 (k + m)) := by
  refine enterL [⟨b, false, oI (marks k m) pad⟩] (by simp [hb]) Try.func39 rfl rfl rfl rfl ?_
  intro a st
  (repeat' (first | (refine c_seq ?_) | (refine c_region ?_) | (refine l_do ?_) | (refine l_nil ?_) | (refine x_then ?_) | (refine x_thenR ?_) | (refine x_thenE ?_) | (refine x_blkN ?_) | (refine x_blkR ?_) | (refine x_blkE ?_) | (refine x_blkO rfl ?_) | (refine wp_ret ?_) | (refine wp_skip ?_) | (refine wp_block ?_) | (refine wp_exit ?_) | (refine c_condT st rfl ?_) | (refine c_condF st rfl ?_) | (refine o_move st rfl rfl ?_; clear st; intro _ st) | (refine o_assign st rfl rfl ?_; clear st; intro _ st) | (refine o_loadS st rfl (by repeat (first | exact At.here | apply At.there)) rfl rfl ?_; clear st; intro _ st) | (refine o_load3 st rfl (by repeat (first | exact At.here | apply At.there)) rfl ?_; clear st; intro _ st) | (refine o_load2 st rfl (by repeat (first | exact At.here | apply At.there)) rfl ?_; clear st; intro _ st) | (refine o_load4 st rfl (by repeat (first | exact At.here | apply At.there)) rfl ?_; clear st; intro _ st) | (refine o_len st rfl rfl ?_; clear st; intro _ st) | (refine o_add64 st rfl rfl rfl (by omega) (by omega) ?_; clear st; intro _ st) | (refine o_lss st rfl rfl rfl ?_ ?_ <;> clear st <;> intro _ _ st <;> (try (exfalso; omega))) | (refine o_neqI st rfl rfl rfl ?_ ?_ <;> clear st <;> intro _ _ st <;> (try (exfalso; omega)))))
  refine wp_loop_ghost (fun n a w' => ∃ i : Nat, i ≤ m ∧ n = m - i ∧ St w Try.f39.ntmps a w' [(0, .slice (some ⟨b, 0, none⟩) m cap), (1, .int .i64 (k + i)), (5, .int .i64 i)] [⟨b, false, oI (marks k m) pad⟩]) m ⟨0, by omega, by omega, by simpa using st.fit (by repeat (first | exact trivial | refine And.intro rfl ?_))⟩ ?_
  clear st
  rintro n a w' ⟨i, hi, rfl, st⟩
  by_cases hlt : i < m
  · have hv := oI_get (marks k m) pad i (by rw [marks_length]; exact hlt)
    rw [marks_get] at hv
    (repeat' (first | (refine o_indexAddr st rfl rfl (by omega) (by omega) rfl ?_; clear st; intro _ st) | (refine o_loadS st rfl (by repeat (first | exact At.here | apply At.there)) hv rfl ?_; clear st; intro _ st) | (refine c_seq ?_) | (refine c_region ?_) | (refine l_do ?_) | (refine l_nil ?_) | (refine x_then ?_) | (refine x_thenR ?_) | (refine x_thenE ?_) | (refine x_blkN ?_) | (refine x_blkR ?_) | (refine x_blkE ?_) | (refine x_blkO rfl ?_) | (refine wp_ret ?_) | (refine wp_skip ?_) | (refine wp_block ?_) | (refine wp_exit ?_) | (refine c_condT st rfl ?_) | (refine c_condF st rfl ?_) | (refine o_move st rfl rfl ?_; clear st; intro _ st) | (refine o_assign st rfl rfl ?_; clear st; intro _ st) | (refine o_loadS st rfl (by repeat (first | exact At.here | apply At.there)) rfl rfl ?_; clear st; intro _ st) | (refine o_load3 st rfl (by repeat (first | exact At.here | apply At.there)) rfl ?_; clear st; intro _ st) | (refine o_load2 st rfl (by repeat (first | exact At.here | apply At.there)) rfl ?_; clear st; intro _ st) | (refine o_load4 st rfl (by repeat (first | exact At.here | apply At.there)) rfl ?_; clear st; intro _ st) | (refine o_len st rfl rfl ?_; clear st; intro _ st) | (refine o_add64 st rfl rfl rfl (by omega) (by omega) ?_; clear st; intro _ st) | (refine o_lss st rfl rfl rfl ?_ ?_ <;> clear st <;> intro _ _ st <;> (try (exfalso; omega))) | (refine o_neqI st rfl rfl rfl ?_ ?_ <;> clear st <;> intro _ _ st <;> (try (exfalso; omega)))))
    refine ⟨m - (i + 1), by omega, i + 1, by omega, rfl, ?_⟩
    have e : k + ((i + 1 : Nat) : Int) = k + i + 1 := by omega
    rw [e]
    exact st.fit (by repeat (first | exact trivial | refine And.intro rfl ?_))
  · have hk' : i = m := by omega
    (repeat' (first | (refine c_seq ?_) | (refine c_region ?_) | (refine l_do ?_) | (refine l_nil ?_) | (refine x_then ?_) | (refine x_thenR ?_) | (refine x_thenE ?_) | (refine x_blkN ?_) | (refine x_blkR ?_) | (refine x_blkE ?_) | (refine x_blkO rfl ?_) | (refine wp_ret ?_) | (refine wp_skip ?_) | (refine wp_block ?_) | (refine wp_exit ?_) | (refine c_condT st rfl ?_) | (refine c_condF st rfl ?_) | (refine o_move st rfl rfl ?_; clear st; intro _ st) | (refine o_assign st rfl rfl ?_; clear st; intro _ st) | (refine o_loadS st rfl (by repeat (first | exact At.here | apply At.there)) rfl rfl ?_; clear st; intro _ st) | (refine o_load3 st rfl (by repeat (first | exact At.here | apply At.there)) rfl ?_; clear st; intro _ st) | (refine o_load2 st rfl (by repeat (first | exact At.here | apply At.there)) rfl ?_; clear st; intro _ st) | (refine o_load4 st rfl (by repeat (first | exact At.here | apply At.there)) rfl ?_; clear st; intro _ st) | (refine o_len st rfl rfl ?_; clear st; intro _ st) | (refine o_add64 st rfl rfl rfl (by omega) (by omega) ?_; clear st; intro _ st) | (refine o_lss st rfl rfl rfl ?_ ?_ <;> clear st <;> intro _ _ st <;> (try (exfalso; omega))) | (refine o_neqI st rfl rfl rfl ?_ ?_ <;> clear st <;> intro _ _ st <;> (try (exfalso; omega)))))
    refine post1 st Try.results39 (rd_t st rfl) ?_
    subst hk'
    exact ⟨rfl, st.ex0⟩

theorem heldInt64S_nil (k : Int) (w : World) : CV Try.prog 39 [.slice none 0 0, .int .i64 k] w (.int .i64 k) := by
  refine enter Try.func39 rfl rfl rfl rfl ?_
  intro a st
  (repeat' (first | (refine c_seq ?_) | (refine c_region ?_) | (refine l_do ?_) | (refine l_nil ?_) | (refine x_then ?_) | (refine x_thenR ?_) | (refine x_thenE ?_) | (refine x_blkN ?_) | (refine x_blkR ?_) | (refine x_blkE ?_) | (refine x_blkO rfl ?_) | (refine wp_ret ?_) | (refine wp_skip ?_) | (refine wp_block ?_) | (refine wp_exit ?_) | (refine c_condT st rfl ?_) | (refine c_condF st rfl ?_) | (refine o_move st rfl rfl ?_; clear st; intro _ st) | (refine o_assign st rfl rfl ?_; clear st; intro _ st) | (refine o_loadS st rfl (by repeat (first | exact At.here | apply At.there)) rfl rfl ?_; clear st; intro _ st) | (refine o_load3 st rfl (by repeat (first | exact At.here | apply At.there)) rfl ?_; clear st; intro _ st) | (refine o_load2 st rfl (by repeat (first | exact At.here | apply At.there)) rfl ?_; clear st; intro _ st) | (refine o_load4 st rfl (by repeat (first | exact At.here | apply At.there)) rfl ?_; clear st; intro _ st) | (refine o_len st rfl rfl ?_; clear st; intro _ st) | (refine o_add64 st rfl rfl rfl (by omega) (by omega) ?_; clear st; intro _ st) | (refine o_lss st rfl rfl rfl ?_ ?_ <;> clear st <;> intro _ _ st <;> (try (exfalso; omega))) | (refine o_neqI st rfl rfl rfl ?_ ?_ <;> clear st <;> intro _ _ st <;> (try (exfalso; omega)))))
  refine wp_loop_ghost (fun n a w' => n = 0 ∧ St w Try.f39.ntmps a w' [(0, .slice none 0 0), (1, .int .i64 k), (5, .int .i64 0)] []) 0 ⟨rfl, st.fit (by repeat (first | exact trivial | refine And.intro rfl ?_))⟩ ?_
  clear st
  rintro n a w' ⟨rfl, st⟩
  (repeat' (first | (refine c_seq ?_) | (refine c_region ?_) | (refine l_do ?_) | (refine l_nil ?_) | (refine x_then ?_) | (refine x_thenR ?_) | (refine x_thenE ?_) | (refine x_blkN ?_) | (refine x_blkR ?_) | (refine x_blkE ?_) | (refine x_blkO rfl ?_) | (refine wp_ret ?_) | (refine wp_skip ?_) | (refine wp_block ?_) | (refine wp_exit ?_) | (refine c_condT st rfl ?_) | (refine c_condF st rfl ?_) | (refine o_move st rfl rfl ?_; clear st; intro _ st) | (refine o_assign st rfl rfl ?_; clear st; intro _ st) | (refine o_loadS st rfl (by repeat (first | exact At.here | apply At.there)) rfl rfl ?_; clear st; intro _ st) | (refine o_load3 st rfl (by repeat (first | exact At.here | apply At.there)) rfl ?_; clear st; intro _ st) | (refine o_load2 st rfl (by repeat (first | exact At.here | apply At.there)) rfl ?_; clear st; intro _ st) | (refine o_load4 st rfl (by repeat (first | exact At.here | apply At.there)) rfl ?_; clear st; intro _ st) | (refine o_len st rfl rfl ?_; clear st; intro _ st) | (refine o_add64 st rfl rfl rfl (by omega) (by omega) ?_; clear st; intro _ st) | (refine o_lss st rfl rfl rfl ?_ ?_ <;> clear st <;> intro _ _ st <;> (try (exfalso; omega))) | (refine o_neqI st rfl rfl rfl ?_ ?_ <;> clear st <;> intro _ _ st <;> (try (exfalso; omega)))))
  refine post1 st Try.results39 (rd_t st rfl) ?_
  exact ⟨rfl, st.ex0⟩

/-! ## triangles -/
theorem l04Sizes_ok (m n : Int) (w : World) : CV Try.prog 104 [.int .i64 m, .int .i64 n] w (.bool (inB m 1 12 && inB n 1 12)) := by
  refine enter Try.func104 rfl rfl rfl rfl ?_
  intro a st
  (repeat' (first | (refine o_callB st rfl (l00In_ok _ _ _ _) rfl ?_ ?_ <;> clear st <;> intro _ _ _ st) | (refine c_seq ?_) | (refine c_region ?_) | (refine l_do ?_) | (refine l_doG st rfl rfl ?_) | (refine l_skipU st rfl rfl rfl ?_; clear st; intro _ st) | (refine l_skip st rfl rfl rfl rfl ?_; clear st; intro _ st) | (refine l_nil ?_) | (refine x_then ?_) | (refine x_thenR ?_) | (refine x_thenE ?_) | (refine wp_ret ?_) | (refine o_move st rfl rfl ?_; clear st; intro _ st) | (refine o_assign st rfl rfl ?_; clear st; intro _ st) | (refine o_pickT st rfl rfl rfl ?_; clear st; intro _ st) | (refine o_pickF st rfl rfl rfl ?_; clear st; intro _ st)))
  all_goals
    refine post1 st Try.results104 (rd_t st rfl) ?_
    exact ⟨by simp_all, st.ex0⟩
theorem areTiles_ok (m n : Int) (w : World) : CV Try.prog 106 [.int .i64 m, .int .i64 n] w (.bool (inB m 1 12 && inB n 1 12)) := by
  refine enter Try.func106 rfl rfl rfl rfl ?_
  intro a st
  (repeat' (first | (refine o_callB st rfl (within_ok _ _ _ _) rfl ?_ ?_ <;> clear st <;> intro _ _ _ st) | (refine c_seq ?_) | (refine c_region ?_) | (refine l_do ?_) | (refine l_doG st rfl rfl ?_) | (refine l_skipU st rfl rfl rfl ?_; clear st; intro _ st) | (refine l_skip st rfl rfl rfl rfl ?_; clear st; intro _ st) | (refine l_nil ?_) | (refine x_then ?_) | (refine x_thenR ?_) | (refine x_thenE ?_) | (refine wp_ret ?_) | (refine o_move st rfl rfl ?_; clear st; intro _ st) | (refine o_assign st rfl rfl ?_; clear st; intro _ st) | (refine o_pickT st rfl rfl rfl ?_; clear st; intro _ st) | (refine o_pickF st rfl rfl rfl ?_; clear st; intro _ st)))
  all_goals
    refine post1 st Try.results106 (rd_t st rfl) ?_
    exact ⟨by simp_all, st.ex0⟩

/-- The corners of the two triangles of a tile. -/
def tri2 (m j i : Int) : List Int := [j * (m + 1) + i, j * (m + 1) + i + 1, j * (m + 1) + i + m + 1, j * (m + 1) + i + 1, j * (m + 1) + i + m + 1 + 1, j * (m + 1) + i + m + 1]
def triRow (m : Int) (j : Nat) (i : Nat) : List Int := (List.range i).flatMap fun (i : Nat) => tri2 m j i
def triM (m : Int) (k : Nat) (j : Nat) : List Int := (List.range j).flatMap fun (j : Nat) => triRow m j k
theorem triRow_succ (m : Int) (j i : Nat) : triRow m j (i + 1) = triRow m j i ++ tri2 m j i := by simp [triRow, List.range_succ]
theorem triM_succ (m : Int) (k j : Nat) : triM m k (j + 1) = triM m k j ++ triRow m j k := by simp [triM, List.range_succ]
theorem triRow_length (m : Int) (j i : Nat) : (triRow m j i).length = i * 6 := by
  induction i with
  | zero => rfl
  | succ i ih => rw [triRow_succ, List.length_append, ih]; simp [tri2]; omega
theorem triM_length (m : Int) (k j : Nat) : (triM m k j).length = j * (k * 6) := by
  induction j with
  | zero => simp [triM]
  | succ j ih => rw [triM_succ, List.length_append, ih, triRow_length, Nat.add_mul]; omega

/-- 'append' of six integers to an own list. -/
theorem o_appendI {P : Program} {w0 w : World} {N : Nat} {a : Act} {E : List (Nat × Value)} {L : List Ent} {K : Act → World → Prop} {Q : Exit → Act → World → Prop} {d : Nat} {ty : TypeId} {pos : String} {aft : Array Edge} {g : Option (Nat × Bool)}
    {t cap m c b ba bz : Nat} {ns ms : List Int} {zs pad pad0 : List Value} {x y : Operand} {Lr : List Ent} {ow : Bool} [hs : SliceT P t 2] [he : ElemT P 2 1 bz zs] (hbz : Nat.ble bz 1000 = true) (st : St w0 N a w E L)
    (hx : evE E x = some (.slice (some ⟨b, 0, none⟩) ns.length cap)) (hy : evE E y = some (.slice (some ⟨ba, 0, none⟩) m c)) (hm : m = ms.length) (hR : Rem L b (oI ns pad) Lr)
    (hA : At L ba ow (oI ms pad0)) (hp : (ns.map vI ++ pad).length = cap) (hlim : ns.length + ms.length ≤ 100000000000) (hd : Nat.blt d N = true)
    (h : ∀ b' cap' pad' a' w', ((ns ++ ms).map vI ++ pad').length = cap' → St w0 N a' w' ((d, .slice (some ⟨b', 0, none⟩) (ns ++ ms).length cap') :: E) (⟨b', true, oI (ns ++ ms) pad'⟩ :: Lr) → K a' w') :
    Oper.wp P ⟨some d, .call { callee := .builtin .append, args := #[x, y], argTypes := #[t, t] }, ty, pos, aft, g⟩ a w K Q := by
  subst hm
  have hbz' : bz ≤ 1000 := Nat.le_of_ble_eq_true hbz
  refine o_append (size := 1) (news := ms.map vI) (olds := ns.map vI) st hx hy hR ?_ (by simp) (by rw [hp]; omega) (by simp) (by simp [Value.oneCell']) (by omega) ?_ hd ?_
  · intro j u hj
    have hlt : j < ms.length := by
      have := (List.getElem?_eq_some_iff.1 hj).1
      simpa using this
    rw [cell_known st hA rfl]
    simp [List.getElem?_append, hlt] at hj ⊢
    exact hj
  · calc (ns.length + ms.length) * bz ≤ (ns.length + ms.length) * 1000 := Nat.mul_le_mul_left _ hbz'
      _ ≤ 140737488355328 := by omega
  · intro b' cap' pad' a' w' hl st'
    rw [← List.length_append, ← List.map_append] at st'
    rw [← List.map_append] at hl
    exact h b' cap' pad' a' w' (by omega) st'

set_option maxHeartbeats 8000000 in
theorem l04Triangles_ok (m n : Nat) (hm : m ≤ 12) (hn : n ≤ 12) (w : World) :
    CM1 Try.prog 105 [.int .i64 m, .int .i64 n] w fun v b o => ∃ cap pad, v = .slice (some ⟨b, 0, none⟩) (triM m m n).length cap ∧ o = oI (triM m m n) pad := by
  refine enter Try.func105 rfl rfl rfl rfl ?_
  intro a st
  (repeat' (first | (refine o_buildSlice0 st rfl ?_; clear st; intro blk0 _ _ st) | (refine c_seq ?_) | (refine c_region ?_) | (refine l_do ?_) | (refine l_nil ?_) | (refine x_then ?_) | (refine x_thenR ?_) | (refine x_thenE ?_) | (refine x_blkN ?_) | (refine x_blkR ?_) | (refine x_blkE ?_) | (refine x_blkO rfl ?_) | (refine wp_ret ?_) | (refine wp_skip ?_) | (refine wp_block ?_) | (refine wp_exit ?_) | (refine c_condT st rfl ?_) | (refine c_condF st rfl ?_) | (refine o_move st rfl rfl ?_; clear st; intro _ st) | (refine o_assign st rfl rfl ?_; clear st; intro _ st) | (refine o_add64 st rfl rfl rfl (by omega) (by omega) ?_; clear st; intro _ st) | (refine o_mulW st rfl rfl rfl ?_; clear st; intro _ st) | (refine o_lss st rfl rfl rfl ?_ ?_ <;> clear st <;> intro _ _ st <;> (try (exfalso; omega)))))
  refine wp_loop_ghost (fun q a w' => ∃ (j blk cap : Nat) (pad : List Value), j ≤ n ∧ q = n - j ∧ ((triM m m j).map vI ++ pad).length = cap ∧ St w Try.f105.ntmps a w' [(0, .int .i64 m), (1, .int .i64 n), (5, .slice (some ⟨blk, 0, none⟩) (triM m m j).length cap), (6, .int .i64 j)] [⟨blk, true, oI (triM m m j) pad⟩]) n ⟨0, blk0, 0, [], by omega, by omega, rfl, st.fit (by repeat (first | exact trivial | refine And.intro rfl ?_))⟩ ?_
  clear st
  rintro q a w' ⟨j, blk, cap, pad, hj, rfl, hp, st⟩
  by_cases hlt : j < n
  · (repeat' (first | (refine c_seq ?_) | (refine c_region ?_) | (refine l_do ?_) | (refine l_nil ?_) | (refine x_then ?_) | (refine x_thenR ?_) | (refine x_thenE ?_) | (refine x_blkN ?_) | (refine x_blkR ?_) | (refine x_blkE ?_) | (refine x_blkO rfl ?_) | (refine wp_ret ?_) | (refine wp_skip ?_) | (refine wp_block ?_) | (refine wp_exit ?_) | (refine c_condT st rfl ?_) | (refine c_condF st rfl ?_) | (refine o_move st rfl rfl ?_; clear st; intro _ st) | (refine o_assign st rfl rfl ?_; clear st; intro _ st) | (refine o_add64 st rfl rfl rfl (by omega) (by omega) ?_; clear st; intro _ st) | (refine o_mulW st rfl rfl rfl ?_; clear st; intro _ st) | (refine o_lss st rfl rfl rfl ?_ ?_ <;> clear st <;> intro _ _ st <;> (try (exfalso; omega)))))
    refine wp_loop_ghost (fun q a w' => ∃ (i blk cap : Nat) (pad : List Value), i ≤ m ∧ q = m - i ∧ ((triM m m j ++ triRow m j i).map vI ++ pad).length = cap ∧ St w Try.f105.ntmps a w' [(0, .int .i64 m), (1, .int .i64 n), (5, .slice (some ⟨blk, 0, none⟩) (triM m m j ++ triRow m j i).length cap), (6, .int .i64 j), (7, .int .i64 i)] [⟨blk, true, oI (triM m m j ++ triRow m j i) pad⟩]) m ⟨0, blk, cap, pad, by omega, by omega, by simpa [triRow] using hp, by simpa [triRow] using st.fit (by repeat (first | exact trivial | refine And.intro rfl ?_))⟩ ?_
    clear st hp blk cap pad
    rintro q a w' ⟨i, blk, cap, pad, hi, rfl, hp, st⟩
    have hb1 : (j : Int) * ((m : Int) + 1) ≤ 12 * 13 := Int.mul_le_mul (by omega) (by omega) (by omega) (by omega)
    have hb0 : 0 ≤ (j : Int) * ((m : Int) + 1) := Int.mul_nonneg (by omega) (by omega)
    by_cases hlt' : i < m
    · have hlim : (triM m m j ++ triRow m j i).length + (tri2 m j i).length ≤ 100000000000 := by
        have h1 : j * (m * 6) ≤ 12 * (12 * 6) := Nat.mul_le_mul (by omega) (by omega)
        simp only [List.length_append, triM_length, triRow_length, tri2, List.length_cons, List.length_nil]
        omega
      (repeat' (first | (refine o_mul64 st rfl rfl rfl (by omega) (by omega) ?_; clear st; intro _ st) | (refine o_buildSlice st rfl rfl rfl rfl rfl rfl ?_; clear st; intro _ _ _ st) | (refine o_appendI (ms := tri2 m j i) (pad0 := []) rfl st rfl rfl rfl (by repeat (first | exact Rem.here | apply Rem.there)) (by repeat (first | exact At.here | apply At.there)) hp hlim rfl ?_; clear st; intro blk1 cap1 pad1 _ _ hp1 st) | (refine c_seq ?_) | (refine c_region ?_) | (refine l_do ?_) | (refine l_nil ?_) | (refine x_then ?_) | (refine x_thenR ?_) | (refine x_thenE ?_) | (refine x_blkN ?_) | (refine x_blkR ?_) | (refine x_blkE ?_) | (refine x_blkO rfl ?_) | (refine wp_ret ?_) | (refine wp_skip ?_) | (refine wp_block ?_) | (refine wp_exit ?_) | (refine c_condT st rfl ?_) | (refine c_condF st rfl ?_) | (refine o_move st rfl rfl ?_; clear st; intro _ st) | (refine o_assign st rfl rfl ?_; clear st; intro _ st) | (refine o_add64 st rfl rfl rfl (by omega) (by omega) ?_; clear st; intro _ st) | (refine o_mulW st rfl rfl rfl ?_; clear st; intro _ st) | (refine o_lss st rfl rfl rfl ?_ ?_ <;> clear st <;> intro _ _ st <;> (try (exfalso; omega)))))
      refine ⟨m - (i + 1), by omega, i + 1, blk1, cap1, pad1, by omega, rfl, by rw [triRow_succ, ← List.append_assoc]; exact hp1, ?_⟩
      rw [triRow_succ, ← List.append_assoc]
      exact (st.fit (by repeat (first | exact trivial | refine And.intro rfl ?_))).subL (by repeat (first | exact List.Sublist.refl _ | apply List.Sublist.cons_cons | apply List.Sublist.cons | exact List.nil_sublist _))
    · have hi' : i = m := by omega
      subst hi'
      rw [← triM_succ] at st hp
      (repeat' (first | (refine c_seq ?_) | (refine c_region ?_) | (refine l_do ?_) | (refine l_nil ?_) | (refine x_then ?_) | (refine x_thenR ?_) | (refine x_thenE ?_) | (refine x_blkN ?_) | (refine x_blkR ?_) | (refine x_blkE ?_) | (refine x_blkO rfl ?_) | (refine wp_ret ?_) | (refine wp_skip ?_) | (refine wp_block ?_) | (refine wp_exit ?_) | (refine c_condT st rfl ?_) | (refine c_condF st rfl ?_) | (refine o_move st rfl rfl ?_; clear st; intro _ st) | (refine o_assign st rfl rfl ?_; clear st; intro _ st) | (refine o_add64 st rfl rfl rfl (by omega) (by omega) ?_; clear st; intro _ st) | (refine o_mulW st rfl rfl rfl ?_; clear st; intro _ st) | (refine o_lss st rfl rfl rfl ?_ ?_ <;> clear st <;> intro _ _ st <;> (try (exfalso; omega)))))
      exact ⟨n - (j + 1), by omega, j + 1, blk, cap, pad, by omega, rfl, hp, st.fit (by repeat (first | exact trivial | refine And.intro rfl ?_))⟩
  · have hj' : j = n := by omega
    subst hj'
    (repeat' (first | (refine c_seq ?_) | (refine c_region ?_) | (refine l_do ?_) | (refine l_nil ?_) | (refine x_then ?_) | (refine x_thenR ?_) | (refine x_thenE ?_) | (refine x_blkN ?_) | (refine x_blkR ?_) | (refine x_blkE ?_) | (refine x_blkO rfl ?_) | (refine wp_ret ?_) | (refine wp_skip ?_) | (refine wp_block ?_) | (refine wp_exit ?_) | (refine c_condT st rfl ?_) | (refine c_condF st rfl ?_) | (refine o_move st rfl rfl ?_; clear st; intro _ st) | (refine o_assign st rfl rfl ?_; clear st; intro _ st) | (refine o_add64 st rfl rfl rfl (by omega) (by omega) ?_; clear st; intro _ st) | (refine o_mulW st rfl rfl rfl ?_; clear st; intro _ st) | (refine o_lss st rfl rfl rfl ?_ ?_ <;> clear st <;> intro _ _ st <;> (try (exfalso; omega)))))
    refine post1 st Try.results105 (rd_t st rfl) ?_
    exact ⟨_, blk, _, rfl, ⟨cap, pad, rfl, rfl⟩, st.ex1 (by repeat (first | exact At.here | apply At.there))⟩

set_option maxHeartbeats 8000000 in
theorem triangles_ok (m n : Nat) (hm : m ≤ 12) (hn : n ≤ 12) (w : World) :
    CM1 Try.prog 107 [.int .i64 m, .int .i64 n] w fun v b o => ∃ cap pad, v = .slice (some ⟨b, 0, none⟩) (triM m m n).length cap ∧ o = oI (triM m m n) pad := by
  refine enter Try.func107 rfl rfl rfl rfl ?_
  intro a st
  (repeat' (first | (refine o_buildSlice0 st rfl ?_; clear st; intro blk0 _ _ st) | (refine c_seq ?_) | (refine c_region ?_) | (refine l_do ?_) | (refine l_nil ?_) | (refine x_then ?_) | (refine x_thenR ?_) | (refine x_thenE ?_) | (refine x_blkN ?_) | (refine x_blkR ?_) | (refine x_blkE ?_) | (refine x_blkO rfl ?_) | (refine wp_ret ?_) | (refine wp_skip ?_) | (refine wp_block ?_) | (refine wp_exit ?_) | (refine c_condT st rfl ?_) | (refine c_condF st rfl ?_) | (refine o_move st rfl rfl ?_; clear st; intro _ st) | (refine o_assign st rfl rfl ?_; clear st; intro _ st) | (refine o_add64 st rfl rfl rfl (by omega) (by omega) ?_; clear st; intro _ st) | (refine o_mulW st rfl rfl rfl ?_; clear st; intro _ st) | (refine o_lss st rfl rfl rfl ?_ ?_ <;> clear st <;> intro _ _ st <;> (try (exfalso; omega)))))
  refine wp_loop_ghost (fun q a w' => ∃ (j blk cap : Nat) (pad : List Value), j ≤ n ∧ q = n - j ∧ ((triM m m j).map vI ++ pad).length = cap ∧ St w Try.f107.ntmps a w' [(0, .int .i64 m), (1, .int .i64 n), (5, .slice (some ⟨blk, 0, none⟩) (triM m m j).length cap), (11, .int .i64 n), (12, .int .i64 j)] [⟨blk, true, oI (triM m m j) pad⟩]) n ⟨0, blk0, 0, [], by omega, by omega, rfl, st.fit (by repeat (first | exact trivial | refine And.intro rfl ?_))⟩ ?_
  clear st
  rintro q a w' ⟨j, blk, cap, pad, hj, rfl, hp, st⟩
  by_cases hlt : j < n
  · (repeat' (first | (refine c_seq ?_) | (refine c_region ?_) | (refine l_do ?_) | (refine l_nil ?_) | (refine x_then ?_) | (refine x_thenR ?_) | (refine x_thenE ?_) | (refine x_blkN ?_) | (refine x_blkR ?_) | (refine x_blkE ?_) | (refine x_blkO rfl ?_) | (refine wp_ret ?_) | (refine wp_skip ?_) | (refine wp_block ?_) | (refine wp_exit ?_) | (refine c_condT st rfl ?_) | (refine c_condF st rfl ?_) | (refine o_move st rfl rfl ?_; clear st; intro _ st) | (refine o_assign st rfl rfl ?_; clear st; intro _ st) | (refine o_add64 st rfl rfl rfl (by omega) (by omega) ?_; clear st; intro _ st) | (refine o_mulW st rfl rfl rfl ?_; clear st; intro _ st) | (refine o_lss st rfl rfl rfl ?_ ?_ <;> clear st <;> intro _ _ st <;> (try (exfalso; omega)))))
    refine wp_loop_ghost (fun q a w' => ∃ (i blk cap : Nat) (pad : List Value), i ≤ m ∧ q = m - i ∧ ((triM m m j ++ triRow m j i).map vI ++ pad).length = cap ∧ St w Try.f107.ntmps a w' [(0, .int .i64 m), (1, .int .i64 n), (5, .slice (some ⟨blk, 0, none⟩) (triM m m j ++ triRow m j i).length cap), (6, .int .i64 j), (11, .int .i64 n), (12, .int .i64 j), (15, .int .i64 m), (16, .int .i64 i)] [⟨blk, true, oI (triM m m j ++ triRow m j i) pad⟩]) m ⟨0, blk, cap, pad, by omega, by omega, by simpa [triRow] using hp, by simpa [triRow] using st.fit (by repeat (first | exact trivial | refine And.intro rfl ?_))⟩ ?_
    clear st hp blk cap pad
    rintro q a w' ⟨i, blk, cap, pad, hi, rfl, hp, st⟩
    have hb1 : (j : Int) * ((m : Int) + 1) ≤ 12 * 13 := Int.mul_le_mul (by omega) (by omega) (by omega) (by omega)
    have hb0 : 0 ≤ (j : Int) * ((m : Int) + 1) := Int.mul_nonneg (by omega) (by omega)
    by_cases hlt' : i < m
    · have hlim : (triM m m j ++ triRow m j i).length + (tri2 m j i).length ≤ 100000000000 := by
        have h1 : j * (m * 6) ≤ 12 * (12 * 6) := Nat.mul_le_mul (by omega) (by omega)
        simp only [List.length_append, triM_length, triRow_length, tri2, List.length_cons, List.length_nil]
        omega
      (repeat' (first | (refine o_mul64 st rfl rfl rfl (by omega) (by omega) ?_; clear st; intro _ st) | (refine o_buildSlice st rfl rfl rfl rfl rfl rfl ?_; clear st; intro _ _ _ st) | (refine o_appendI (ms := tri2 m j i) (pad0 := []) rfl st rfl rfl rfl (by repeat (first | exact Rem.here | apply Rem.there)) (by repeat (first | exact At.here | apply At.there)) hp hlim rfl ?_; clear st; intro blk1 cap1 pad1 _ _ hp1 st) | (refine c_seq ?_) | (refine c_region ?_) | (refine l_do ?_) | (refine l_nil ?_) | (refine x_then ?_) | (refine x_thenR ?_) | (refine x_thenE ?_) | (refine x_blkN ?_) | (refine x_blkR ?_) | (refine x_blkE ?_) | (refine x_blkO rfl ?_) | (refine wp_ret ?_) | (refine wp_skip ?_) | (refine wp_block ?_) | (refine wp_exit ?_) | (refine c_condT st rfl ?_) | (refine c_condF st rfl ?_) | (refine o_move st rfl rfl ?_; clear st; intro _ st) | (refine o_assign st rfl rfl ?_; clear st; intro _ st) | (refine o_add64 st rfl rfl rfl (by omega) (by omega) ?_; clear st; intro _ st) | (refine o_mulW st rfl rfl rfl ?_; clear st; intro _ st) | (refine o_lss st rfl rfl rfl ?_ ?_ <;> clear st <;> intro _ _ st <;> (try (exfalso; omega)))))
      refine ⟨m - (i + 1), by omega, i + 1, blk1, cap1, pad1, by omega, rfl, by rw [triRow_succ, ← List.append_assoc]; exact hp1, ?_⟩
      rw [triRow_succ, ← List.append_assoc]
      exact (st.fit (by repeat (first | exact trivial | refine And.intro rfl ?_))).subL (by repeat (first | exact List.Sublist.refl _ | apply List.Sublist.cons_cons | apply List.Sublist.cons | exact List.nil_sublist _))
    · have hi' : i = m := by omega
      subst hi'
      rw [← triM_succ] at st hp
      (repeat' (first | (refine c_seq ?_) | (refine c_region ?_) | (refine l_do ?_) | (refine l_nil ?_) | (refine x_then ?_) | (refine x_thenR ?_) | (refine x_thenE ?_) | (refine x_blkN ?_) | (refine x_blkR ?_) | (refine x_blkE ?_) | (refine x_blkO rfl ?_) | (refine wp_ret ?_) | (refine wp_skip ?_) | (refine wp_block ?_) | (refine wp_exit ?_) | (refine c_condT st rfl ?_) | (refine c_condF st rfl ?_) | (refine o_move st rfl rfl ?_; clear st; intro _ st) | (refine o_assign st rfl rfl ?_; clear st; intro _ st) | (refine o_add64 st rfl rfl rfl (by omega) (by omega) ?_; clear st; intro _ st) | (refine o_mulW st rfl rfl rfl ?_; clear st; intro _ st) | (refine o_lss st rfl rfl rfl ?_ ?_ <;> clear st <;> intro _ _ st <;> (try (exfalso; omega)))))
      exact ⟨n - (j + 1), by omega, j + 1, blk, cap, pad, by omega, rfl, hp, st.fit (by repeat (first | exact trivial | refine And.intro rfl ?_))⟩
  · have hj' : j = n := by omega
    subst hj'
    (repeat' (first | (refine c_seq ?_) | (refine c_region ?_) | (refine l_do ?_) | (refine l_nil ?_) | (refine x_then ?_) | (refine x_thenR ?_) | (refine x_thenE ?_) | (refine x_blkN ?_) | (refine x_blkR ?_) | (refine x_blkE ?_) | (refine x_blkO rfl ?_) | (refine wp_ret ?_) | (refine wp_skip ?_) | (refine wp_block ?_) | (refine wp_exit ?_) | (refine c_condT st rfl ?_) | (refine c_condF st rfl ?_) | (refine o_move st rfl rfl ?_; clear st; intro _ st) | (refine o_assign st rfl rfl ?_; clear st; intro _ st) | (refine o_add64 st rfl rfl rfl (by omega) (by omega) ?_; clear st; intro _ st) | (refine o_mulW st rfl rfl rfl ?_; clear st; intro _ st) | (refine o_lss st rfl rfl rfl ?_ ?_ <;> clear st <;> intro _ _ st <;> (try (exfalso; omega)))))
    refine post1 st Try.results107 (rd_t st rfl) ?_
    exact ⟨_, blk, _, rfl, ⟨cap, pad, rfl, rfl⟩, st.ex1 (by repeat (first | exact At.here | apply At.there))⟩

end Go.Proofs.Ytefnlalldgbcaaa
