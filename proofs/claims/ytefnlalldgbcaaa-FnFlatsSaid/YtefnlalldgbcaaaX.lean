/-
  Contracts: the spot at a place of a sheet.
-/
import Derived.Test.YtefnlalldgbcaaaW
namespace Go.Proofs.Ytefnlalldgbcaaa
open Go.RowKit

section
variable {P : Program} {w0 w : World} {N : Nat} {a : Act} {E : List (Nat × Value)} {L Lh : List Ent} {K : Act → World → Prop} {Q : Exit → Act → World → Prop}
variable {d : Nat} {ty : TypeId} {pos : String} {aft : Array Edge} {g : Option (Nat × Bool)}
/-- A call that gives a list that is not empty. -/
theorem o_callRdN {f : FuncId} {args : List Operand} {tys : Array TypeId} {vs : List Value} {ss : List S3} [hf : FnT P f] (hpos : 0 < ss.length) (st : St w0 N a w E L) (ha : evs E args = some vs)
    (hc : CRd P f vs w ss) (hd : Nat.blt d N = true) (h : ∀ blk off bs cap cs t fr, IsSL bs ss → bs.length = ss.length → ∀ a' w', w'.heap[blk]? = some (.cells cs t fr) → SpotsIn cs off bs → Below w.heap.size w w' → St w0 N a' w' ((d, .slice (some ⟨blk, off, none⟩) bs.length cap) :: E) L → K a' w') : Oper.wp P ⟨some d, .call { callee := .value (.func f), args := args.toArray, argTypes := tys }, ty, pos, aft, g⟩ a w K Q := by
  refine o_callRd st ha hc hd ?_
  intro base bs cap hI a' w' hr hb st'
  have hl := hI.len
  rcases hr with rfl | ⟨blk, off, cs, t, fr, rfl, hw, hsp⟩
  · simp at hl; omega
  · exact h blk off bs cap cs t fr hI hl a' w' hw hsp hb st'
theorem o_callSBb {f : FuncId} {args : List Operand} {tys : Array TypeId} {vs : List Value} {s : S3} {ok : Bool} [hf : FnT P f] (st : St w0 N a w E L) (ha : evs E args = some vs)
    (hc : CSB P f vs w s ok) (hd : Nat.blt d N = true) (h : ∀ b, IsS b s → ∀ a' w', St w0 N a' w' ((d, .tuple #[vS b, .bool ok]) :: E) L → K a' w') : Oper.wp P ⟨some d, .call { callee := .value (.func f), args := args.toArray, argTypes := tys }, ty, pos, aft, g⟩ a w K Q :=
  o_callR st ha hc hd fun v ⟨b, hv, hb⟩ => by subst hv; exact h b hb
end
theorem IsSL.head {bs : List B3} {ss : List S3} (h : IsSL bs ss) (h0 : 0 < bs.length) : IsS bs[0] (ss.headD z3) := by
  have hl := h.len
  have h1 : 0 < ss.length := by omega
  have := h.get 0 bs[0] ss[0] (by simp [h0]) (by simp [h1])
  cases ss with
  | nil => simp at h1
  | cons s ss => exact this

attribute [local irreducible] Code.wp wpList Oper.wp Calls bodyPost Exit.then Exit.inBlock

/-- Is a number from 0 to 1. -/
def shareC (c : Option Nat) : Bool := fgeB .f32 c (some 0) && fleB .f32 c one32
theorem isTime_ok (x : Nat) (c : Option Nat) (hx : Is .f32 x c) (w : World) : CV Try.prog 185 [.float .f32 x] w (.bool (shareC c)) := by
  refine enter Try.func185 rfl rfl rfl rfl ?_
  intro a st
  unfold shareC
  (repeat' (first | refine c_seq ?_  | refine c_region ?_  | refine l_do ?_  | refine l_doG st rfl rfl ?_  | ((first | refine l_skip st rfl rfl rfl rfl ?_); clear st; intro _ st)  | refine l_nil ?_  | refine x_then ?_  | refine wp_ret ?_  | ((first | refine o_move st rfl rfl ?_  | refine o_assign st rfl rfl ?_  | refine o_pickT st rfl rfl rfl ?_  | refine o_pickF st rfl rfl rfl ?_); clear st; intro _ st)  | ((first | refine o_fleq st rfl rfl (by first | assumption | exact Is_ofInt _ _ | exact Is_lit (by decide +kernel)) (by first | assumption | exact Is_ofInt _ _ | exact Is_lit (by decide +kernel)) rfl ?_ ?_  | refine o_fgeq st rfl rfl (by first | assumption | exact Is_ofInt _ _ | exact Is_lit (by decide +kernel)) (by first | assumption | exact Is_ofInt _ _ | exact Is_lit (by decide +kernel)) rfl ?_ ?_) <;> clear st <;> intro _ _ st <;> (try simp_all))))
  all_goals
    refine post1 st Try.results185 (rd_t st rfl) ?_
    exact ⟨by simp_all, st.ex0⟩
def onC (m n : Int) (ss : List S3) (u v : Option Nat) : Bool := validC m n ss && (shareC u && shareC v)
theorem isOn_ok (m n : Int) (bs : List B3) (ss : List S3) (h : IsSL bs ss) (base : Option Addr) (cap : Nat) (x y : Nat) (u v : Option Nat) (hx : Is .f32 x u) (hy : Is .f32 y v) (w : World) (hr : RdS w base bs) (hlen : bs.length < 1000000000) :
    CV Try.prog 154 [vSh m n base bs.length cap, .float .f32 x, .float .f32 y] w (.bool (onC m n ss u v)) := by
  refine enter Try.func154 rfl rfl rfl rfl ?_
  intro a st
  have hc := fun (w : World) hr => implValid_ok m n bs ss h base cap w hr hlen
  have h1 := fun w => isTime_ok x u hx w
  have h2 := fun w => isTime_ok y v hy w
  unfold onC
  generalize validC m n ss = q1 at hc ⊢
  generalize shareC u = q2 at h1 ⊢
  generalize shareC v = q3 at h2 ⊢
  cases q1 <;> cases q2 <;> cases q3
  all_goals
    (repeat' (first | (refine o_callV st rfl (hc _ (hr.mono st.below)) rfl ?_; clear st; intro _ _ st)  | (refine o_callV st rfl (h1 _) rfl ?_; clear st; intro _ _ st)  | (refine o_callV st rfl (h2 _) rfl ?_; clear st; intro _ _ st)  | refine c_seq ?_  | refine c_region ?_  | refine l_do ?_  | refine l_doG st rfl rfl ?_  | ((first | refine l_skip st rfl rfl rfl rfl ?_); clear st; intro _ st)  | refine l_nil ?_  | refine x_then ?_  | refine wp_ret ?_  | ((first | refine o_move st rfl rfl ?_  | refine o_assign st rfl rfl ?_  | refine o_pickT st rfl rfl rfl ?_  | refine o_pickF st rfl rfl rfl ?_); clear st; intro _ st)  | ((first | refine o_boxA st rfl rfl ?_ ); clear st; intro _ _ _ st)  | ((first | refine o_load3 st rfl (by repeat constructor) rfl ?_ ); clear st; intro _ st)))
    refine post1 st Try.results154 (rd_t st rfl) ?_
    exact ⟨rfl, st.ex0⟩

/-! ## rows and columns, cut -/
def rowsL (ss : List S3) (M K : Nat) (t : Option Nat) : List S3 := (List.range K).map fun j => (cutL t 1 (rowL ss M j)).headD z3
def colsL (ss : List S3) (M K : Nat) (t : Option Nat) : List S3 := (List.range M).map fun i => (cutL t 1 (colL ss M K i)).headD z3
theorem rowsL_length (ss : List S3) (M K : Nat) (t : Option Nat) : (rowsL ss M K t).length = K := by simp [rowsL]
theorem colsL_length (ss : List S3) (M K : Nat) (t : Option Nat) : (colsL ss M K t).length = M := by simp [colsL]
def atL (ss : List S3) (M K : Nat) (u v : Option Nat) : S3 := (cutL v 1 (rowsL ss M K u)).headD z3

set_option maxHeartbeats 8000000 in
theorem rowsAt_ok (M K : Nat) (bs : List B3) (ss : List S3) (h : IsSL bs ss) (base : Option Addr) (cap : Nat) (hl : ss.length = M * K) (hM : 2 ≤ M) (hK : 2 ≤ K) (h36 : M * K ≤ 36) (hcap : bs.length ≤ cap) (x : Nat) (c : Option Nat) (hx : Is .f32 x c) (w : World) (hr : RdS w base bs) :
    COw Try.prog 167 [vSh M K base bs.length cap, .float .f32 x] w (rowsL ss M K c) := by
  refine enter Try.func167 rfl rfl rfl rfl ?_
  intro a st
  have hcl := rowsL_length ss M K c
  have hKM : 1 * K ≤ M * K := Nat.mul_le_mul_right _ (by omega)
  have hMK : M * 1 ≤ M * K := Nat.mul_le_mul_left _ (by omega)
  (repeat' (first | (refine o_buildSlice0S st rfl ?_; clear st; intro blk0 _ _ st)  | refine c_seq ?_  | refine c_region ?_  | refine l_do ?_  | refine l_nil ?_  | refine x_then ?_  | refine x_thenE ?_  | refine x_blkN ?_  | refine x_blkE ?_  | refine wp_ret ?_  | refine wp_skip ?_  | refine wp_block ?_  | refine wp_exit ?_  | refine c_condT st rfl ?_  | refine c_condF st rfl ?_  | ((first | refine o_move st rfl rfl ?_  | refine o_assign st rfl rfl ?_); clear st; intro _ st)  | ((first | refine o_boxA st rfl rfl ?_ ); clear st; intro _ _ _ st)  | ((first | refine o_fieldAddr st rfl rfl ?_  | refine o_loadS st rfl (by repeat constructor) rfl rfl ?_  | refine o_load3 st rfl (by repeat constructor) rfl ?_  | refine o_add64 st rfl rfl rfl (by omega) (by omega) ?_); clear st; intro _ st)  | (refine o_lss st rfl rfl rfl ?_ ?_ <;> clear st <;> intro _ _ st <;> (try (exfalso; omega)))))
  refine wp_loop_ghost (fun n a w' => ∃ (k blk cp pb : Nat) (os : List B3) (pad : List Value), os.length = k ∧ k ≤ K ∧ n = K - k ∧ IsSL os ((rowsL ss M K c).take os.length) ∧ (cS os ++ pad).length = cp * 3 ∧ St w Try.f167.ntmps a w' [(1, .float .f32 x), (2, .pointer (some ⟨pb, 0, none⟩)), (5, .slice (some ⟨blk, 0, none⟩) os.length cp), (9, .int .i64 K), (10, .int .i64 (k : Int))] [⟨blk, true, oS os pad⟩, ⟨pb, true, .cells [.int .i64 M, .int .i64 K, .slice base bs.length cap].toArray 46 (0, 0)⟩]) K ⟨0, blk0, 0, _, [], [], rfl, by omega, by omega, IsSL.nil _, rfl, (st.fit (by repeat (first | exact trivial  | refine And.intro rfl ?_))).subL (by repeat (first | exact List.Sublist.refl _  | apply List.Sublist.cons_cons  | apply List.Sublist.cons  | exact List.nil_sublist _))⟩ ?_
  clear st
  rintro n a w' ⟨k, blk, cp, pb, os, pad, hos, hk, rfl, hI, hp, st⟩
  by_cases hlt : k < K
  · have hrl := rowL_length ss M K k hl hlt
    have hcut := cutL_length c 1 (rowL ss M k) (by omega)
    have hg : (rowsL ss M K c)[k]? = some ((cutL c 1 (rowL ss M k)).headD z3) := by simp [rowsL, hlt]
    (repeat' (first | (refine o_callOw st rfl (row_ok M K k bs ss h base cap hl hM h36 hlt hcap _ (hr.mono st.below)) rfl ?_; clear st; intro blkr osr capr padr hIr hpr _ _ _ st; have hlr := hIr.len)  | (refine o_callRdN (by omega) st rfl (cutTo_ok osr _ hIr _ capr x c hx 1 _ (RdS.of (st.heap (by repeat constructor)) (spotsIn0p _ _)) (by omega)) rfl ?_; clear st; intro blkc offc osc capc cc tc frc hIc hlc _ _ hwc hspc _ st)  | (refine o_indexAddr st rfl rfl (by omega) (by omega) rfl ?_; clear st; intro _ st)  | (refine o_loadCur st rfl hwc (hspc 0 _ (List.getElem?_eq_getElem (show 0 < osc.length by omega))) rfl ?_; clear st; intro _ st)  | (refine o_buildSliceS [_] st rfl rfl rfl rfl rfl ?_; clear st; intro _ _ _ st)  | (refine o_append1 rfl st rfl rfl (by repeat constructor) (by repeat constructor) hp (by omega) rfl ?_; clear st; intro blk1 cap1 pad1 _ _ hp1 st)  | refine c_seq ?_  | refine c_region ?_  | refine l_do ?_  | refine l_nil ?_  | refine x_then ?_  | refine x_thenE ?_  | refine x_blkN ?_  | refine x_blkE ?_  | refine wp_ret ?_  | refine wp_skip ?_  | refine wp_block ?_  | refine wp_exit ?_  | refine c_condT st rfl ?_  | refine c_condF st rfl ?_  | ((first | refine o_move st rfl rfl ?_  | refine o_assign st rfl rfl ?_); clear st; intro _ st)  | ((first | refine o_boxA st rfl rfl ?_ ); clear st; intro _ _ _ st)  | ((first | refine o_fieldAddr st rfl rfl ?_  | refine o_loadS st rfl (by repeat constructor) rfl rfl ?_  | refine o_load3 st rfl (by repeat constructor) rfl ?_  | refine o_add64 st rfl rfl rfl (by omega) (by omega) ?_); clear st; intro _ st)  | (refine o_lss st rfl rfl rfl ?_ ?_ <;> clear st <;> intro _ _ st <;> (try (exfalso; omega)))))
    refine ⟨K - (k + 1), by omega, k + 1, blk1, cap1, pb, os ++ [osc[0]'(by omega)], pad1, by simp [hos], by omega, rfl, hI.snoc (by rw [hos]; exact hg) (hIc.head (by omega)), hp1, ?_⟩
    exact (st.fit (by repeat (first | exact trivial  | refine And.intro rfl ?_))).subL (by repeat (first | exact List.Sublist.refl _  | apply List.Sublist.cons_cons  | apply List.Sublist.cons  | exact List.nil_sublist _))
  · (repeat' (first | refine c_seq ?_  | refine c_region ?_  | refine l_do ?_  | refine l_nil ?_  | refine x_then ?_  | refine x_thenE ?_  | refine x_blkN ?_  | refine x_blkE ?_  | refine wp_ret ?_  | refine wp_skip ?_  | refine wp_block ?_  | refine wp_exit ?_  | refine c_condT st rfl ?_  | refine c_condF st rfl ?_  | ((first | refine o_move st rfl rfl ?_  | refine o_assign st rfl rfl ?_); clear st; intro _ st)  | ((first | refine o_boxA st rfl rfl ?_ ); clear st; intro _ _ _ st)  | ((first | refine o_fieldAddr st rfl rfl ?_  | refine o_loadS st rfl (by repeat constructor) rfl rfl ?_  | refine o_load3 st rfl (by repeat constructor) rfl ?_  | refine o_add64 st rfl rfl rfl (by omega) (by omega) ?_); clear st; intro _ st)  | (refine o_lss st rfl rfl rfl ?_ ?_ <;> clear st <;> intro _ _ st <;> (try (exfalso; omega)))))
    refine post1 st Try.results167 (rd_t st rfl) ?_
    exact ⟨_, blk, _, rfl, ⟨os, cp, pad, rfl, rfl, hp, hI.all (by omega)⟩, st.ex1 (by repeat constructor)⟩

set_option maxHeartbeats 8000000 in
theorem columnsAt_ok (M K : Nat) (bs : List B3) (ss : List S3) (h : IsSL bs ss) (base : Option Addr) (cap : Nat) (hl : ss.length = M * K) (hM : 2 ≤ M) (hK : 2 ≤ K) (h36 : M * K ≤ 36) (x : Nat) (c : Option Nat) (hx : Is .f32 x c) (w : World) (hr : RdS w base bs) :
    COw Try.prog 166 [vSh M K base bs.length cap, .float .f32 x] w (colsL ss M K c) := by
  refine enter Try.func166 rfl rfl rfl rfl ?_
  intro a st
  have hcl := colsL_length ss M K c
  have hKM : 1 * K ≤ M * K := Nat.mul_le_mul_right _ (by omega)
  have hMK : M * 1 ≤ M * K := Nat.mul_le_mul_left _ (by omega)
  (repeat' (first | (refine o_buildSlice0S st rfl ?_; clear st; intro blk0 _ _ st)  | refine c_seq ?_  | refine c_region ?_  | refine l_do ?_  | refine l_nil ?_  | refine x_then ?_  | refine x_thenE ?_  | refine x_blkN ?_  | refine x_blkE ?_  | refine wp_ret ?_  | refine wp_skip ?_  | refine wp_block ?_  | refine wp_exit ?_  | refine c_condT st rfl ?_  | refine c_condF st rfl ?_  | ((first | refine o_move st rfl rfl ?_  | refine o_assign st rfl rfl ?_); clear st; intro _ st)  | ((first | refine o_boxA st rfl rfl ?_ ); clear st; intro _ _ _ st)  | ((first | refine o_fieldAddr st rfl rfl ?_  | refine o_loadS st rfl (by repeat constructor) rfl rfl ?_  | refine o_load3 st rfl (by repeat constructor) rfl ?_  | refine o_add64 st rfl rfl rfl (by omega) (by omega) ?_); clear st; intro _ st)  | (refine o_lss st rfl rfl rfl ?_ ?_ <;> clear st <;> intro _ _ st <;> (try (exfalso; omega)))))
  refine wp_loop_ghost (fun n a w' => ∃ (k blk cp pb : Nat) (os : List B3) (pad : List Value), os.length = k ∧ k ≤ M ∧ n = M - k ∧ IsSL os ((colsL ss M K c).take os.length) ∧ (cS os ++ pad).length = cp * 3 ∧ St w Try.f166.ntmps a w' [(1, .float .f32 x), (2, .pointer (some ⟨pb, 0, none⟩)), (5, .slice (some ⟨blk, 0, none⟩) os.length cp), (9, .int .i64 M), (10, .int .i64 (k : Int))] [⟨blk, true, oS os pad⟩, ⟨pb, true, .cells [.int .i64 M, .int .i64 K, .slice base bs.length cap].toArray 46 (0, 0)⟩]) M ⟨0, blk0, 0, _, [], [], rfl, by omega, by omega, IsSL.nil _, rfl, (st.fit (by repeat (first | exact trivial  | refine And.intro rfl ?_))).subL (by repeat (first | exact List.Sublist.refl _  | apply List.Sublist.cons_cons  | apply List.Sublist.cons  | exact List.nil_sublist _))⟩ ?_
  clear st
  rintro n a w' ⟨k, blk, cp, pb, os, pad, hos, hk, rfl, hI, hp, st⟩
  by_cases hlt : k < M
  · have hrl := colL_length ss M K k
    have hcut := cutL_length c 1 (colL ss M K k) (by omega)
    have hg : (colsL ss M K c)[k]? = some ((cutL c 1 (colL ss M K k)).headD z3) := by simp [colsL, hlt]
    (repeat' (first | (refine o_callOw st rfl (column_ok M K k bs ss h base cap hl hlt hK h36 _ (hr.mono st.below)) rfl ?_; clear st; intro blkr osr capr padr hIr hpr _ _ _ st; have hlr := hIr.len)  | (refine o_callRdN (by omega) st rfl (cutTo_ok osr _ hIr _ capr x c hx 1 _ (RdS.of (st.heap (by repeat constructor)) (spotsIn0p _ _)) (by omega)) rfl ?_; clear st; intro blkc offc osc capc cc tc frc hIc hlc _ _ hwc hspc _ st)  | (refine o_indexAddr st rfl rfl (by omega) (by omega) rfl ?_; clear st; intro _ st)  | (refine o_loadCur st rfl hwc (hspc 0 _ (List.getElem?_eq_getElem (show 0 < osc.length by omega))) rfl ?_; clear st; intro _ st)  | (refine o_buildSliceS [_] st rfl rfl rfl rfl rfl ?_; clear st; intro _ _ _ st)  | (refine o_append1 rfl st rfl rfl (by repeat constructor) (by repeat constructor) hp (by omega) rfl ?_; clear st; intro blk1 cap1 pad1 _ _ hp1 st)  | refine c_seq ?_  | refine c_region ?_  | refine l_do ?_  | refine l_nil ?_  | refine x_then ?_  | refine x_thenE ?_  | refine x_blkN ?_  | refine x_blkE ?_  | refine wp_ret ?_  | refine wp_skip ?_  | refine wp_block ?_  | refine wp_exit ?_  | refine c_condT st rfl ?_  | refine c_condF st rfl ?_  | ((first | refine o_move st rfl rfl ?_  | refine o_assign st rfl rfl ?_); clear st; intro _ st)  | ((first | refine o_boxA st rfl rfl ?_ ); clear st; intro _ _ _ st)  | ((first | refine o_fieldAddr st rfl rfl ?_  | refine o_loadS st rfl (by repeat constructor) rfl rfl ?_  | refine o_load3 st rfl (by repeat constructor) rfl ?_  | refine o_add64 st rfl rfl rfl (by omega) (by omega) ?_); clear st; intro _ st)  | (refine o_lss st rfl rfl rfl ?_ ?_ <;> clear st <;> intro _ _ st <;> (try (exfalso; omega)))))
    refine ⟨M - (k + 1), by omega, k + 1, blk1, cap1, pb, os ++ [osc[0]'(by omega)], pad1, by simp [hos], by omega, rfl, hI.snoc (by rw [hos]; exact hg) (hIc.head (by omega)), hp1, ?_⟩
    exact (st.fit (by repeat (first | exact trivial  | refine And.intro rfl ?_))).subL (by repeat (first | exact List.Sublist.refl _  | apply List.Sublist.cons_cons  | apply List.Sublist.cons  | exact List.nil_sublist _))
  · (repeat' (first | refine c_seq ?_  | refine c_region ?_  | refine l_do ?_  | refine l_nil ?_  | refine x_then ?_  | refine x_thenE ?_  | refine x_blkN ?_  | refine x_blkE ?_  | refine wp_ret ?_  | refine wp_skip ?_  | refine wp_block ?_  | refine wp_exit ?_  | refine c_condT st rfl ?_  | refine c_condF st rfl ?_  | ((first | refine o_move st rfl rfl ?_  | refine o_assign st rfl rfl ?_); clear st; intro _ st)  | ((first | refine o_boxA st rfl rfl ?_ ); clear st; intro _ _ _ st)  | ((first | refine o_fieldAddr st rfl rfl ?_  | refine o_loadS st rfl (by repeat constructor) rfl rfl ?_  | refine o_load3 st rfl (by repeat constructor) rfl ?_  | refine o_add64 st rfl rfl rfl (by omega) (by omega) ?_); clear st; intro _ st)  | (refine o_lss st rfl rfl rfl ?_ ?_ <;> clear st <;> intro _ _ st <;> (try (exfalso; omega)))))
    refine post1 st Try.results166 (rd_t st rfl) ?_
    exact ⟨_, blk, _, rfl, ⟨os, cp, pad, rfl, rfl, hp, hI.all (by omega)⟩, st.ex1 (by repeat constructor)⟩

set_option maxHeartbeats 8000000 in
theorem at_ok (M K : Nat) (bs : List B3) (ss : List S3) (h : IsSL bs ss) (base : Option Addr) (cap : Nat) (hl : ss.length = M * K) (hM : 2 ≤ M) (hK : 2 ≤ K) (h36 : M * K ≤ 36) (hcap : bs.length ≤ cap) (x y : Nat) (u v : Option Nat) (hx : Is .f32 x u) (hy : Is .f32 y v) (w : World) (hr : RdS w base bs) :
    CS Try.prog 155 [vSh M K base bs.length cap, .float .f32 x, .float .f32 y] w (atL ss M K u v) := by
  refine enter Try.func155 rfl rfl rfl rfl ?_
  intro a st
  have hcl := rowsL_length ss M K u
  have hcut := cutL_length v 1 (rowsL ss M K u) (by omega)
  have hKM : 1 * K ≤ M * K := Nat.mul_le_mul_right _ (by omega)
  (repeat' (first | (refine o_callOw st rfl (rowsAt_ok M K bs ss h base cap hl hM hK h36 hcap x u hx _ (hr.mono st.below)) rfl ?_; clear st; intro blkr osr capr padr hIr hpr _ _ _ st; have hlr := hIr.len)  | (refine o_callRdN (by omega) st rfl (cutTo_ok osr _ hIr _ capr y v hy 1 _ (RdS.of (st.heap (by repeat constructor)) (spotsIn0p _ _)) (by omega)) rfl ?_; clear st; intro blkc offc osc capc cc tc frc hIc hlc _ _ hwc hspc _ st)  | (refine o_indexAddr st rfl rfl (by omega) (by omega) rfl ?_; clear st; intro _ st)  | (refine o_loadCur st rfl hwc (hspc 0 _ (List.getElem?_eq_getElem (show 0 < osc.length by omega))) rfl ?_; clear st; intro _ st)  | refine c_seq ?_  | refine c_region ?_  | refine l_do ?_  | refine l_nil ?_  | refine x_then ?_  | refine wp_ret ?_  | (refine o_move st rfl rfl ?_; clear st; intro _ st)  | ((first | refine o_alloc st rfl ?_  | refine o_boxA st rfl rfl ?_ ); clear st; intro _ _ _ st)  | ((first | refine o_load3 st rfl (by repeat constructor) rfl ?_ ); clear st; intro _ st)  | ((first | refine o_storeW st rfl rfl (by repeat constructor) rfl rfl rfl ?_); clear st; intro _ _ st)))
  refine post1 st Try.results155 (rd_c st rfl (by repeat constructor) rfl) ?_
  exact ⟨_, rfl, ⟨_, rfl, hIc.head (by omega)⟩, st.ex0⟩

def sheetAtC (m n : Int) (ss : List S3) (u v : Option Nat) : S3 := bif onC m n ss u v then giveS (atL ss m.toNat n.toNat u v) else z3
def sheetAtOk (m n : Int) (ss : List S3) (u v : Option Nat) : Bool := onC m n ss u v && finS (atL ss m.toNat n.toNat u v)
set_option maxHeartbeats 8000000 in
theorem implAt_ok (m n : Int) (bs : List B3) (ss : List S3) (h : IsSL bs ss) (base : Option Addr) (cap : Nat) (hcap : bs.length ≤ cap) (x y : Nat) (u v : Option Nat) (hx : Is .f32 x u) (hy : Is .f32 y v) (w : World) (hr : RdS w base bs) (hlen : bs.length < 1000000000) :
    CSB Try.prog 81 [vSh m n base bs.length cap, .float .f32 x, .float .f32 y] w (sheetAtC m n ss u v) (sheetAtOk m n ss u v) := by
  refine enter Try.func81 rfl rfl rfl rfl ?_
  intro a st
  have hc := fun (w : World) hr => isOn_ok m n bs ss h base cap x y u v hx hy w hr hlen
  unfold sheetAtC sheetAtOk
  cases hq : onC m n ss u v
  · rw [hq] at hc
    (repeat' (first | (refine o_callV st rfl (hc _ (hr.mono st.below)) rfl ?_; clear st; intro _ _ st)  | refine c_seq ?_  | refine c_region ?_  | refine l_do ?_  | refine l_nil ?_  | refine x_then ?_  | refine x_thenR ?_  | refine wp_ret ?_  | refine wp_skip ?_  | refine c_condT st rfl ?_  | refine c_condF st rfl ?_  | ((first | refine o_move st rfl rfl ?_  | refine o_assign st rfl rfl ?_); clear st; intro _ st)  | ((first | refine o_alloc st rfl ?_  | refine o_boxA st rfl rfl ?_ ); clear st; intro _ _ _ st)  | ((first | refine o_load3 st rfl (by repeat constructor) rfl ?_ ); clear st; intro _ st)  | ((first | refine o_storeW st rfl rfl (by repeat constructor) rfl rfl rfl ?_); clear st; intro _ _ st)  | ((first | refine o_build0 st rfl ?_  | refine o_extract st rfl rfl rfl ?_  | refine o_notT st rfl rfl ?_  | refine o_notF st rfl rfl ?_); clear st; intro _ st)))
    refine post2 st Try.results81 (rd_c st rfl (by repeat constructor) rfl) (rd_t st rfl) ?_
    exact ⟨_, rfl, ⟨(0, 0, 0), rfl, IsS_z⟩, st.ex0⟩
  · rw [hq] at hc
    have hv : validC m n ss = true := by unfold onC at hq; rw [Bool.and_eq_true] at hq; exact hq.1
    obtain ⟨M, K, rfl, rfl, hm0, hm1, hn0, hn1, hl, h36, _⟩ := valid_nums hv
    (repeat' (first | (refine o_callV st rfl (hc _ (hr.mono st.below)) rfl ?_; clear st; intro _ _ st)  | (refine o_callSb st rfl (at_ok M K bs ss h base cap hl hm0 hn0 h36 hcap x y u v hx hy _ (hr.mono st.below)) rfl ?_; clear st; intro b1 hb1 _ _ st)  | (refine o_callSBb st rfl (ifSpot_ok b1 _ hb1 _) rfl ?_; clear st; intro b2 hb2 _ _ st)  | refine c_seq ?_  | refine c_region ?_  | refine l_do ?_  | refine l_nil ?_  | refine x_then ?_  | refine x_thenR ?_  | refine wp_ret ?_  | refine wp_skip ?_  | refine c_condT st rfl ?_  | refine c_condF st rfl ?_  | ((first | refine o_move st rfl rfl ?_  | refine o_assign st rfl rfl ?_); clear st; intro _ st)  | ((first | refine o_alloc st rfl ?_  | refine o_boxA st rfl rfl ?_ ); clear st; intro _ _ _ st)  | ((first | refine o_load3 st rfl (by repeat constructor) rfl ?_ ); clear st; intro _ st)  | ((first | refine o_storeW st rfl rfl (by repeat constructor) rfl rfl rfl ?_); clear st; intro _ _ st)  | ((first | refine o_build0 st rfl ?_  | refine o_extract st rfl rfl rfl ?_  | refine o_notT st rfl rfl ?_  | refine o_notF st rfl rfl ?_); clear st; intro _ st)))
    refine post2 st Try.results81 (rd_c st rfl (by repeat constructor) rfl) (rd_t st rfl) ?_
    exact ⟨_, rfl, ⟨b2, rfl, hb2⟩, st.ex0⟩
end Go.Proofs.Ytefnlalldgbcaaa
