/-
  Contracts: sums, differences and multiples of spots; lists that are cut; is a number a time.
-/
import Derived.Test.YtefnlalldgbcaaaS
namespace Go.Proofs.Ytefnlalldgbcaaa
open Go.RowKit
attribute [local irreducible] Code.wp wpList Oper.wp Calls bodyPost Exit.then Exit.inBlock

def addS (s t : S3) : S3 := (fop .add .f32 s.1 t.1, fop .add .f32 s.2.1 t.2.1, fop .add .f32 s.2.2 t.2.2)
def lessS (s t : S3) : S3 := (fop .sub .f32 s.1 t.1, fop .sub .f32 s.2.1 t.2.1, fop .sub .f32 s.2.2 t.2.2)
def timesS (s : S3) (x : Option Nat) : S3 := (fop .mul .f32 s.1 x, fop .mul .f32 s.2.1 x, fop .mul .f32 s.2.2 x)

theorem add_ok (b b' : B3) (s s' : S3) (h : IsS b s) (h' : IsS b' s') (w : World) : CS Try.prog 128 [vS b, vS b'] w (addS s s') := by
  obtain ⟨x, y, z⟩ := b
  obtain ⟨x', y', z'⟩ := b'
  obtain ⟨h1, h2, h3⟩ := h
  obtain ⟨k1, k2, k3⟩ := h'
  refine enter Try.func128 rfl rfl rfl rfl ?_
  intro a st
  (repeat' (first | refine c_seq ?_  | refine c_region ?_  | refine l_do ?_  | refine l_nil ?_  | refine x_then ?_  | refine wp_ret ?_  | ((first | refine o_alloc st rfl ?_  | refine o_boxA st rfl rfl ?_ ); clear st; intro _ _ _ st)  | ((first | refine o_fieldAddr st rfl rfl ?_  | refine o_loadS st rfl (by repeat constructor) rfl rfl ?_ ); clear st; intro _ st)  | ((first | refine o_storeW st rfl rfl (by repeat constructor) rfl rfl rfl ?_); clear st; intro _ _ st)  | ((first | refine o_build3 st rfl rfl rfl rfl rfl rfl rfl ?_ ); clear st; intro _ st)  | (refine o_fop rfl st rfl rfl (by first | assumption | exact Is_ofInt _ _ | exact Is_lit (by decide +kernel)) (by first | assumption | exact Is_ofInt _ _ | exact Is_lit (by decide +kernel)) rfl ?_; clear st; intro _ _ _ _ st)))
  refine post1 st Try.results128 (rd_c st rfl (by repeat constructor) rfl) ?_
  exact ⟨_, rfl, ⟨(_, _, _), rfl, ⟨by assumption, by assumption, by assumption⟩⟩, st.ex0⟩
theorem less_ok (b b' : B3) (s s' : S3) (h : IsS b s) (h' : IsS b' s') (w : World) : CS Try.prog 163 [vS b, vS b'] w (lessS s s') := by
  obtain ⟨x, y, z⟩ := b
  obtain ⟨x', y', z'⟩ := b'
  obtain ⟨h1, h2, h3⟩ := h
  obtain ⟨k1, k2, k3⟩ := h'
  refine enter Try.func163 rfl rfl rfl rfl ?_
  intro a st
  (repeat' (first | refine c_seq ?_  | refine c_region ?_  | refine l_do ?_  | refine l_nil ?_  | refine x_then ?_  | refine wp_ret ?_  | ((first | refine o_alloc st rfl ?_  | refine o_boxA st rfl rfl ?_ ); clear st; intro _ _ _ st)  | ((first | refine o_fieldAddr st rfl rfl ?_  | refine o_loadS st rfl (by repeat constructor) rfl rfl ?_ ); clear st; intro _ st)  | ((first | refine o_storeW st rfl rfl (by repeat constructor) rfl rfl rfl ?_); clear st; intro _ _ st)  | ((first | refine o_build3 st rfl rfl rfl rfl rfl rfl rfl ?_ ); clear st; intro _ st)  | (refine o_fop rfl st rfl rfl (by first | assumption | exact Is_ofInt _ _ | exact Is_lit (by decide +kernel)) (by first | assumption | exact Is_ofInt _ _ | exact Is_lit (by decide +kernel)) rfl ?_; clear st; intro _ _ _ _ st)))
  refine post1 st Try.results163 (rd_c st rfl (by repeat constructor) rfl) ?_
  exact ⟨_, rfl, ⟨(_, _, _), rfl, ⟨by assumption, by assumption, by assumption⟩⟩, st.ex0⟩
theorem times_ok (b : B3) (s : S3) (h : IsS b s) (x' : Nat) (c : Option Nat) (hx : Is .f32 x' c) (w : World) : CS Try.prog 127 [vS b, .float .f32 x'] w (timesS s c) := by
  obtain ⟨x, y, z⟩ := b
  obtain ⟨h1, h2, h3⟩ := h
  refine enter Try.func127 rfl rfl rfl rfl ?_
  intro a st
  (repeat' (first | refine c_seq ?_  | refine c_region ?_  | refine l_do ?_  | refine l_nil ?_  | refine x_then ?_  | refine wp_ret ?_  | (refine o_move st rfl rfl ?_; clear st; intro _ st)  | ((first | refine o_alloc st rfl ?_  | refine o_boxA st rfl rfl ?_ ); clear st; intro _ _ _ st)  | ((first | refine o_fieldAddr st rfl rfl ?_  | refine o_loadS st rfl (by repeat constructor) rfl rfl ?_ ); clear st; intro _ st)  | ((first | refine o_storeW st rfl rfl (by repeat constructor) rfl rfl rfl ?_); clear st; intro _ _ st)  | ((first | refine o_build3 st rfl rfl rfl rfl rfl rfl rfl ?_ ); clear st; intro _ st)  | (refine o_fop rfl st rfl rfl (by first | assumption | exact Is_ofInt _ _ | exact Is_lit (by decide +kernel)) (by first | assumption | exact Is_ofInt _ _ | exact Is_lit (by decide +kernel)) rfl ?_; clear st; intro _ _ _ _ st)))
  refine post1 st Try.results127 (rd_c st rfl (by repeat constructor) rfl) ?_
  exact ⟨_, rfl, ⟨(_, _, _), rfl, ⟨by assumption, by assumption, by assumption⟩⟩, st.ex0⟩

/-! ## cutting -/
abbrev one32 : Option Nat := some 1065353216
/-- What stands between two spots. -/
def midS (t : Option Nat) (s s' : S3) : S3 := addS (timesS s (fop .sub .f32 one32 t)) (timesS s' t)
/-- The next step of a cutting. -/
def nextL (t : Option Nat) : List S3 → List S3
  | s :: s' :: ss => midS t s s' :: nextL t (s' :: ss)
  | _ => []
theorem nextL_length (t : Option Nat) : ∀ ss : List S3, (nextL t ss).length = ss.length - 1
  | [] => rfl
  | [_] => rfl
  | s :: s' :: ss => by simp [nextL, nextL_length t (s' :: ss)]
theorem nextL_get (t : Option Nat) : ∀ (ss : List S3) (i : Nat) (h : i + 1 < ss.length), (nextL t ss)[i]? = some (midS t (ss[i]'(by omega)) ss[i + 1])
  | [], i, h => by simp at h
  | [_], i, h => by simp at h
  | s :: s' :: ss, 0, _ => by simp [nextL]
  | s :: s' :: ss, i + 1, h => by
    have := nextL_get t (s' :: ss) i (by simpa using h)
    simpa [nextL] using this
/-- A list that is cut n times. -/
def cutN (t : Option Nat) : Nat → List S3 → List S3
  | 0, ss => ss
  | n + 1, ss => cutN t n (nextL t ss)
/-- A list that is cut until 'left' spots are left. -/
def cutL (t : Option Nat) (left : Nat) (ss : List S3) : List S3 := cutN t (ss.length - left) ss
theorem cutL_step (t : Option Nat) (left : Nat) (ss : List S3) (h : left < ss.length) : cutL t left (nextL t ss) = cutL t left ss := by
  unfold cutL
  rw [nextL_length, show ss.length - left = (ss.length - 1 - left) + 1 by omega]
  rfl
theorem cutL_done (t : Option Nat) (left : Nat) (ss : List S3) (h : ss.length ≤ left) : cutL t left ss = ss := by
  unfold cutL
  rw [show ss.length - left = 0 by omega]
  rfl
theorem cutN_length (t : Option Nat) : ∀ (n : Nat) (ss : List S3), (cutN t n ss).length = ss.length - n
  | 0, ss => rfl
  | n + 1, ss => by rw [cutN, cutN_length t n, nextL_length]; omega
theorem cutL_length (t : Option Nat) (left : Nat) (ss : List S3) (h : left ≤ ss.length) : (cutL t left ss).length = left := by
  unfold cutL
  rw [cutN_length]
  omega

section
variable {P : Program} {w0 w : World} {N : Nat} {a : Act} {E : List (Nat × Value)} {L Lh : List Ent} {K : Act → World → Prop} {Q : Exit → Act → World → Prop}
variable {d : Nat} {ty : TypeId} {pos : String} {aft : Array Edge} {g : Option (Nat × Bool)}

/-- 'append' of one spot to an own list. -/
theorem o_append1 {t cap b ba bz : Nat} {bs : List B3} {b1 : B3} {zs pad : List Value} {x y : Operand} {Lr : List Ent} {ow : Bool} [hs : SliceT P t 26] [he : ElemT P 26 3 bz zs] (hbz : Nat.ble bz 1000 = true) (st : St w0 N a w E L)
    (hx : evE E x = some (.slice (some ⟨b, 0, none⟩) bs.length cap)) (hy : evE E y = some (.slice (some ⟨ba, 0, none⟩) 1 1)) (hR : Rem L b (oS bs pad) Lr)
    (hA : At L ba ow (.cells (cS [b1]).toArray 26 (0, 0))) (hp : (cS bs ++ pad).length = cap * 3) (hlim : bs.length < 10000000000) (hd : Nat.blt d N = true)
    (h : ∀ b' cap' pad' a' w', (cS (bs ++ [b1]) ++ pad').length = cap' * 3 → St w0 N a' w' ((d, .slice (some ⟨b', 0, none⟩) (bs ++ [b1]).length cap') :: E) (⟨b', true, oS (bs ++ [b1]) pad'⟩ :: Lr) → K a' w') :
    Oper.wp P ⟨some d, .call { callee := .builtin .append, args := #[x, y], argTypes := #[t, t] }, ty, pos, aft, g⟩ a w K Q :=
  o_appendSp (cs := [b1]) hbz st hx hy hR (RdS.of (st.heap hA) (spotsIn0 _)) hp (by simp <;> omega) hd h
/-- The same, to a list without room. -/
theorem o_append1F {t ba bz : Nat} {base : Option Addr} {b1 : B3} {zs : List Value} {x y : Operand} {ow : Bool} [hs : SliceT P t 26] [he : ElemT P 26 3 bz zs] (hbz : Nat.ble bz 1000 = true) (st : St w0 N a w E L)
    (hx : evE E x = some (.slice base 0 0)) (hy : evE E y = some (.slice (some ⟨ba, 0, none⟩) 1 1)) (hA : At L ba ow (.cells (cS [b1]).toArray 26 (0, 0))) (hd : Nat.blt d N = true)
    (h : ∀ b' cap' pad' a' w', (cS [b1] ++ pad').length = cap' * 3 → St w0 N a' w' ((d, .slice (some ⟨b', 0, none⟩) [b1].length cap') :: E) (⟨b', true, oS [b1] pad'⟩ :: L) → K a' w') :
    Oper.wp P ⟨some d, .call { callee := .builtin .append, args := #[x, y], argTypes := #[t, t] }, ty, pos, aft, g⟩ a w K Q :=
  o_appendFp (cs := [b1]) hbz st hx hy (RdS.of (st.heap hA) (spotsIn0 _)) (by simp) (by simp) hd h

/-- A call that gives a list of spots that can be read, its own or another's. -/
def CRd (P : Program) (f : FuncId) (vs : List Value) (w : World) (ss : List S3) : Prop := Calls P f vs.toArray w fun e w' => ∃ base bs cap, e = .returned (.slice base bs.length cap) ∧ IsSL bs ss ∧ RdS w' base bs ∧ Ex w w' []
theorem o_callRd {f : FuncId} {args : List Operand} {tys : Array TypeId} {vs : List Value} {ss : List S3} [hf : FnT P f] (st : St w0 N a w E L) (ha : evs E args = some vs)
    (hc : CRd P f vs w ss) (hd : Nat.blt d N = true) (h : ∀ base bs cap, IsSL bs ss → ∀ a' w', RdS w' base bs → Below w.heap.size w w' → St w0 N a' w' ((d, .slice base bs.length cap) :: E) L → K a' w') : Oper.wp P ⟨some d, .call { callee := .value (.func f), args := args.toArray, argTypes := tys }, ty, pos, aft, g⟩ a w K Q :=
  o_call st ha hc fun _ _ ⟨base, bs, cap, he, hI, hr, hx⟩ => ⟨_, he, h base bs cap hI _ _ hr hx.below ((st.ext0 hx).put d hd _)⟩
/-- A call that gives an own list of spots. -/
def COw (P : Program) (f : FuncId) (vs : List Value) (w : World) (ss : List S3) : Prop := CM1 P f vs w fun v b o => OwnL ss v b o
theorem o_callOw {f : FuncId} {args : List Operand} {tys : Array TypeId} {vs : List Value} {ss : List S3} [hf : FnT P f] (st : St w0 N a w E L) (ha : evs E args = some vs)
    (hc : COw P f vs w ss) (hd : Nat.blt d N = true) (h : ∀ b bs cap pad, IsSL bs ss → (cS bs ++ pad).length = cap * 3 → ∀ a' w', Below w.heap.size w w' → St w0 N a' w' ((d, .slice (some ⟨b, 0, none⟩) bs.length cap) :: E) (⟨b, true, oS bs pad⟩ :: L) → K a' w') : Oper.wp P ⟨some d, .call { callee := .value (.func f), args := args.toArray, argTypes := tys }, ty, pos, aft, g⟩ a w K Q :=
  o_call st ha hc fun _ _ ⟨_, b, _, he, ⟨bs, cap, pad, hv, ho, hl, hI⟩, hx⟩ => ⟨_, he, by subst hv; subst ho; exact h b bs cap pad hI hl _ _ hx.below ((st.ext1 hx).put d hd _)⟩

theorem o_callSb {f : FuncId} {args : List Operand} {tys : Array TypeId} {vs : List Value} {s : S3} [hf : FnT P f] (st : St w0 N a w E L) (ha : evs E args = some vs)
    (hc : CS P f vs w s) (hd : Nat.blt d N = true) (h : ∀ b, IsS b s → ∀ a' w', St w0 N a' w' ((d, vS b) :: E) L → K a' w') : Oper.wp P ⟨some d, .call { callee := .value (.func f), args := args.toArray, argTypes := tys }, ty, pos, aft, g⟩ a w K Q :=
  o_callR st ha hc hd fun v ⟨b, hv, hb⟩ => by subst hv; exact h b hb

/-- A spot out of memory as it is now. -/
theorem o_loadCur {t t' : TypeId} {x : Operand} {blk off : Nat} {cs : Array Value} {fr : Nat × Nat} {b : B3} [ht : AggT P t 3] (st : St w0 N a w E L) (hx : evE E x = some (.pointer (some ⟨blk, off, none⟩))) (hw : w.heap[blk]? = some (.cells cs t' fr))
    (hv : cs[off]? = some (.float .f32 b.1) ∧ cs[off + 1]? = some (.float .f32 b.2.1) ∧ cs[off + 2]? = some (.float .f32 b.2.2)) (hd : Nat.blt d N = true)
    (h : ∀ a', St w0 N a' w ((d, vS b) :: E) L → K a' w) : Oper.wp P ⟨some d, .load t x, ty, pos, aft, g⟩ a w K Q := by
  refine o_val (v := vS b) (w' := w) ?_ (h _ (st.put d hd _))
  have hl : (loadCells ⟨blk, off, none⟩ 3).run P w = .ok [Value.float .f32 b.1, .float .f32 b.2.1, .float .f32 b.2.2].toArray w := by
    refine run_loadCells_list (P := P) w ⟨blk, off, none⟩ [Value.float .f32 b.1, .float .f32 b.2.1, .float .f32 b.2.2] ?_
    intro j u hj
    rw [Addr.add_lit]
    refine (cell_of_row w blk _ cs t' fr hw).trans ?_
    match j with
    | 0 => simp at hj; subst hj; exact hv.1
    | 1 => simp at hj; subst hj; exact hv.2.1
    | 2 => simp at hj; subst hj; exact hv.2.2
    | j + 3 => simp at hj
  simp only [execOp, evE_eval st hx, Instr.loadAt, Instr.sureAddr, loadVar, Sem.run_bind, Sem.run_pure, Result.andThen_ok, ht.agg, ht.size, if_true, hl]
  rfl
end

set_option maxHeartbeats 8000000 in
theorem nextSpots_ok (bs : List B3) (ss : List S3) (h : IsSL bs ss) (base : Option Addr) (cap : Nat) (x : Nat) (c : Option Nat) (hx : Is .f32 x c) (w : World) (hr : RdS w base bs) (hlen : bs.length < 1000000000) :
    COw Try.prog 170 [.slice base bs.length cap, .float .f32 x] w (nextL c ss) := by
  refine enter Try.func170 rfl rfl rfl rfl ?_
  intro a st
  have hl := h.len
  have hnl := nextL_length c ss
  (repeat' (first | (refine o_buildSlice0S st rfl ?_; clear st; intro blk0 _ _ st)  | refine c_seq ?_  | refine c_region ?_  | refine l_do ?_  | refine l_nil ?_  | refine x_then ?_  | refine x_thenE ?_  | refine x_blkN ?_  | refine x_blkE ?_  | refine wp_ret ?_  | refine wp_skip ?_  | refine wp_block ?_  | refine wp_exit ?_  | refine c_condT st rfl ?_  | refine c_condF st rfl ?_  | ((first | refine o_move st rfl rfl ?_  | refine o_assign st rfl rfl ?_  | refine o_len st rfl rfl ?_  | refine o_add64 st rfl rfl rfl (by omega) (by omega) ?_ ); clear st; intro _ st)  | (refine o_fop rfl st rfl rfl (by first | assumption | exact Is_ofInt _ _ | exact Is_lit (by decide +kernel)) (by first | assumption | exact Is_ofInt _ _ | exact Is_lit (by decide +kernel)) rfl ?_; clear st; intro _ _ _ _ st)  | (refine o_lss st rfl rfl rfl ?_ ?_ <;> clear st <;> intro _ _ st <;> (try (exfalso; omega)))))
  refine wp_loop_ghost (fun n a w' => ∃ (k blk cp : Nat) (os : List B3) (pad : List Value), os.length = k ∧ (0 < bs.length → k + 1 ≤ bs.length) ∧ n = bs.length - (k + 1) ∧ IsSL os ((nextL c ss).take os.length) ∧ (bs.length = 0 → k = 0) ∧ (cS os ++ pad).length = cp * 3 ∧ St w Try.f170.ntmps a w' [(0, .slice base bs.length cap), (1, .float .f32 x), (5, .slice (some ⟨blk, 0, none⟩) os.length cp), (6, .int .i64 ((k + 1 : Nat) : Int))] [⟨blk, true, oS os pad⟩]) (bs.length - 1) ⟨0, blk0, 0, [], [], rfl, by omega, by omega, IsSL.nil _, by omega, rfl, st.fit (by repeat (first | exact trivial  | refine And.intro rfl ?_))⟩ ?_
  clear st
  rintro n a w' ⟨k, blk, cp, os, pad, hos, hk, rfl, hI, hz, hp, st⟩
  by_cases hlt : k + 1 < bs.length
  · rcases id hr with rfl | ⟨b0, off, cs, t, fr, rfl, hw, hsp⟩
    · simp at hlt
    have e : (((k + 1 : Nat) : Int) - 1).toNat = k := by omega
    have hv0 : cs[off + (((k + 1 : Nat) : Int) - 1).toNat * 3]? = some (.float .f32 bs[k].1) ∧ cs[off + (((k + 1 : Nat) : Int) - 1).toNat * 3 + 1]? = some (.float .f32 bs[k].2.1) ∧ cs[off + (((k + 1 : Nat) : Int) - 1).toNat * 3 + 2]? = some (.float .f32 bs[k].2.2) := by
      rw [e]; exact hsp k _ (by simp <;> omega)
    have hv1 := hsp (k + 1) bs[k + 1] (by simp [hlt])
    have hI0 : IsS bs[k] (ss[k]'(by omega)) := h.get k _ _ (by simp <;> omega) (by simp <;> omega)
    have hI1 : IsS bs[k + 1] (ss[k + 1]'(by omega)) := h.get (k + 1) _ _ (by simp [hlt]) (by simp <;> omega)
    have hg := nextL_get c ss k (by omega)
    have st := st.addOld hw
    (repeat' (first | refine c_seq ?_  | refine c_region ?_  | refine l_do ?_  | refine l_nil ?_  | refine x_then ?_  | refine x_thenE ?_  | refine x_blkN ?_  | refine x_blkE ?_  | refine wp_ret ?_  | refine wp_skip ?_  | refine wp_block ?_  | refine wp_exit ?_  | refine c_condT st rfl ?_  | refine c_condF st rfl ?_  | ((first | refine o_move st rfl rfl ?_  | refine o_assign st rfl rfl ?_  | refine o_len st rfl rfl ?_  | refine o_add64 st rfl rfl rfl (by omega) (by omega) ?_ ); clear st; intro _ st)  | (refine o_fop rfl st rfl rfl (by first | assumption | exact Is_ofInt _ _ | exact Is_lit (by decide +kernel)) (by first | assumption | exact Is_ofInt _ _ | exact Is_lit (by decide +kernel)) rfl ?_; clear st; intro _ _ _ _ st)  | (refine o_lss st rfl rfl rfl ?_ ?_ <;> clear st <;> intro _ _ st <;> (try (exfalso; omega)))))
    refine c_draw (Lh := [⟨b0, false, .cells cs t fr⟩]) (last := 18) hm_ (by decide +kernel) (by decide +kernel) st ?_; clear st; intro _ st
    refine d_v 0 st (by repeat constructor) rfl (by decide +kernel) rfl (v_move st rfl) ?_; clear st; intro _ st
    refine d_v 1 st (by repeat constructor) rfl (by decide +kernel) rfl (v_move st rfl) ?_; clear st; intro _ st
    refine d_v 2 st (by repeat constructor) rfl (by decide +kernel) rfl (v_move st rfl) ?_; clear st; intro _ st
    refine d_v 3 st (by repeat constructor) rfl (by decide +kernel) rfl (v_sub64 st rfl rfl (by omega) (by omega)) ?_; clear st; intro _ st
    refine d_v 4 st (by repeat constructor) rfl (by decide +kernel) rfl (v_indexAddr st rfl rfl (by omega) (by omega)) ?_; clear st; intro _ st
    refine d_v 5 st (by repeat constructor) rfl (by decide +kernel) rfl (v_loadSp st rfl (by repeat constructor) hv0) ?_; clear st; intro _ st
    refine d_v 6 st (by repeat constructor) rfl (by decide +kernel) rfl (v_move st rfl) ?_; clear st; intro _ st
    refine d_v 9 st (by repeat constructor) rfl (by decide +kernel) rfl (v_move st rfl) ?_; clear st; intro _ st
    refine d_v 10 st (by repeat constructor) rfl (by decide +kernel) rfl (v_move st rfl) ?_; clear st; intro _ st
    refine d_v 11 st (by repeat constructor) rfl (by decide +kernel) rfl (v_indexAddr st rfl rfl (by omega) (by omega)) ?_; clear st; intro _ st
    refine d_v 12 st (by repeat constructor) rfl (by decide +kernel) rfl (v_loadSp st rfl (by repeat constructor) hv1) ?_; clear st; intro _ st
    refine d_v 13 st (by repeat constructor) rfl (by decide +kernel) rfl (v_move st rfl) ?_; clear st; intro _ st
    refine d_one 7 (by decide +kernel) rfl ?_
    (first | (refine o_fop rfl st rfl rfl (by first | assumption | exact Is_ofInt _ _ | exact Is_lit (by decide +kernel)) (by first | assumption | exact Is_ofInt _ _ | exact Is_lit (by decide +kernel)) rfl ?_; clear st; intro _ _ _ _ st))
    refine kh st (by repeat constructor) ?_
    refine d_one 8 (by decide +kernel) rfl ?_
    refine o_callSb st rfl (times_ok _ _ (by assumption) _ _ (by first | assumption | exact Is_ofInt _ _ | exact Is_lit (by decide +kernel)) _) rfl ?_; clear st; intro _ _ _ _ st
    refine kh st (by repeat constructor) ?_
    refine d_one 14 (by decide +kernel) rfl ?_
    refine o_callSb st rfl (times_ok _ _ (by assumption) _ _ (by first | assumption | exact Is_ofInt _ _ | exact Is_lit (by decide +kernel)) _) rfl ?_; clear st; intro _ _ _ _ st
    refine kh st (by repeat constructor) ?_
    refine d_one 15 (by decide +kernel) rfl ?_
    refine o_callSb st rfl (add_ok _ _ _ _ (by assumption) (by assumption) _) rfl ?_; clear st; intro b1 hb1 _ _ st
    refine kh st (by repeat constructor) ?_
    refine d_one 16 (by decide +kernel) rfl ?_
    refine o_buildSliceS [_] st rfl rfl rfl rfl rfl ?_; clear st; intro _ _ _ st
    refine kh st (by repeat constructor) ?_
    refine d_one 17 (by decide +kernel) rfl ?_
    refine o_append1 rfl st rfl rfl (by repeat (first | exact Rem.here  | apply Rem.there)) (by repeat constructor) hp (by omega) rfl ?_; clear st; intro blk1 cap1 pad1 _ _ hp1 st
    refine kh st (by repeat constructor) ?_
    refine d_one 18 (by decide +kernel) rfl ?_
    (first | (refine o_assign st rfl rfl ?_; clear st; intro _ st))
    refine k_last ?_
    refine d_done (by decide +kernel) ?_
    (repeat' (first | refine c_seq ?_  | refine c_region ?_  | refine l_do ?_  | refine l_nil ?_  | refine x_then ?_  | refine x_thenE ?_  | refine x_blkN ?_  | refine x_blkE ?_  | refine wp_ret ?_  | refine wp_skip ?_  | refine wp_block ?_  | refine wp_exit ?_  | refine c_condT st rfl ?_  | refine c_condF st rfl ?_  | ((first | refine o_move st rfl rfl ?_  | refine o_assign st rfl rfl ?_  | refine o_len st rfl rfl ?_  | refine o_add64 st rfl rfl rfl (by omega) (by omega) ?_ ); clear st; intro _ st)  | (refine o_fop rfl st rfl rfl (by first | assumption | exact Is_ofInt _ _ | exact Is_lit (by decide +kernel)) (by first | assumption | exact Is_ofInt _ _ | exact Is_lit (by decide +kernel)) rfl ?_; clear st; intro _ _ _ _ st)  | (refine o_lss st rfl rfl rfl ?_ ?_ <;> clear st <;> intro _ _ st <;> (try (exfalso; omega)))))
    refine ⟨bs.length - (k + 1 + 1), by omega, k + 1, blk1, cap1, os ++ [b1], pad1, by simp [hos], by omega, by omega, hI.snoc (by rw [hos]; exact hg) hb1, by omega, hp1, (st.fit (by repeat (first | exact trivial  | refine And.intro rfl ?_))).subL (by repeat (first | exact List.Sublist.refl _  | apply List.Sublist.cons_cons  | apply List.Sublist.cons  | exact List.nil_sublist _))⟩
  · (repeat' (first | refine c_seq ?_  | refine c_region ?_  | refine l_do ?_  | refine l_nil ?_  | refine x_then ?_  | refine x_thenE ?_  | refine x_blkN ?_  | refine x_blkE ?_  | refine wp_ret ?_  | refine wp_skip ?_  | refine wp_block ?_  | refine wp_exit ?_  | refine c_condT st rfl ?_  | refine c_condF st rfl ?_  | ((first | refine o_move st rfl rfl ?_  | refine o_assign st rfl rfl ?_  | refine o_len st rfl rfl ?_  | refine o_add64 st rfl rfl rfl (by omega) (by omega) ?_ ); clear st; intro _ st)  | (refine o_fop rfl st rfl rfl (by first | assumption | exact Is_ofInt _ _ | exact Is_lit (by decide +kernel)) (by first | assumption | exact Is_ofInt _ _ | exact Is_lit (by decide +kernel)) rfl ?_; clear st; intro _ _ _ _ st)  | (refine o_lss st rfl rfl rfl ?_ ?_ <;> clear st <;> intro _ _ st <;> (try (exfalso; omega)))))
    refine post1 st Try.results170 (rd_t st rfl) ?_
    exact ⟨_, blk, _, rfl, ⟨os, cp, pad, rfl, rfl, hp, hI.all (by omega)⟩, st.ex1 (by repeat constructor)⟩

set_option maxHeartbeats 8000000 in
theorem cutTo_ok (bs : List B3) (ss : List S3) (h : IsSL bs ss) (base : Option Addr) (cap : Nat) (x : Nat) (c : Option Nat) (hx : Is .f32 x c) (left : Nat) (w : World) (hr : RdS w base bs) (hlen : bs.length < 1000000000) :
    CRd Try.prog 165 [.slice base bs.length cap, .float .f32 x, .int .i64 left] w (cutL c left ss) := by
  refine enter Try.func165 rfl rfl rfl rfl ?_
  intro a st
  (repeat' (first | refine c_seq ?_  | refine c_region ?_  | refine l_do ?_  | refine l_nil ?_  | refine x_then ?_  | refine x_thenE ?_  | refine x_blkN ?_  | refine x_blkE ?_  | refine wp_ret ?_  | refine wp_skip ?_  | refine wp_block ?_  | refine wp_exit ?_  | refine c_condT st rfl ?_  | refine c_condF st rfl ?_  | ((first | refine o_move st rfl rfl ?_  | refine o_assign st rfl rfl ?_  | refine o_len st rfl rfl ?_); clear st; intro _ st)  | (refine o_gtr st rfl rfl rfl ?_ ?_ <;> clear st <;> intro _ _ st <;> (try (exfalso; omega)))))
  refine wp_loop_ghost (fun n a w' => ∃ (base' : Option Addr) (cp : Nat) (os : List B3) (cur : List S3), n = os.length ∧ os.length ≤ bs.length ∧ IsSL os cur ∧ cutL c left cur = cutL c left ss ∧ RdS w' base' os ∧ St w Try.f165.ntmps a w' [(0, .slice base' os.length cp), (1, .float .f32 x), (2, .int .i64 left)] []) bs.length ⟨base, cap, bs, ss, rfl, Nat.le_refl _, h, rfl, hr.mono st.below, st.fit (by repeat (first | exact trivial  | refine And.intro rfl ?_))⟩ ?_
  clear st
  rintro n a w' ⟨base', cp, os, cur, rfl, hle, hI, hc, hr', st⟩
  have hl := hI.len
  by_cases hlt : left < os.length
  · (repeat' (first | (refine o_callOw st rfl (nextSpots_ok os cur hI base' cp x c hx _ hr' (by omega)) rfl ?_; clear st; intro blk1 os1 cap1 pad1 hI1 hp1 _ _ _ st)  | refine c_seq ?_  | refine c_region ?_  | refine l_do ?_  | refine l_nil ?_  | refine x_then ?_  | refine x_thenE ?_  | refine x_blkN ?_  | refine x_blkE ?_  | refine wp_ret ?_  | refine wp_skip ?_  | refine wp_block ?_  | refine wp_exit ?_  | refine c_condT st rfl ?_  | refine c_condF st rfl ?_  | ((first | refine o_move st rfl rfl ?_  | refine o_assign st rfl rfl ?_  | refine o_len st rfl rfl ?_); clear st; intro _ st)  | (refine o_gtr st rfl rfl rfl ?_ ?_ <;> clear st <;> intro _ _ st <;> (try (exfalso; omega)))))
    have hl1 := hI1.len
    rw [nextL_length] at hl1
    refine ⟨os1.length, by omega, some ⟨blk1, 0, none⟩, cap1, os1, nextL c cur, rfl, by omega, hI1, by rw [cutL_step c left cur (by omega)]; exact hc, RdS.of (st.heap (by repeat constructor)) (spotsIn0p _ _), (st.fit (by repeat (first | exact trivial  | refine And.intro rfl ?_))).subL (by repeat (first | exact List.Sublist.refl _  | apply List.Sublist.cons_cons  | apply List.Sublist.cons  | exact List.nil_sublist _))⟩
  · (repeat' (first | refine c_seq ?_  | refine c_region ?_  | refine l_do ?_  | refine l_nil ?_  | refine x_then ?_  | refine x_thenE ?_  | refine x_blkN ?_  | refine x_blkE ?_  | refine wp_ret ?_  | refine wp_skip ?_  | refine wp_block ?_  | refine wp_exit ?_  | refine c_condT st rfl ?_  | refine c_condF st rfl ?_  | ((first | refine o_move st rfl rfl ?_  | refine o_assign st rfl rfl ?_  | refine o_len st rfl rfl ?_); clear st; intro _ st)  | (refine o_gtr st rfl rfl rfl ?_ ?_ <;> clear st <;> intro _ _ st <;> (try (exfalso; omega)))))
    refine post1 st Try.results165 (rd_t st rfl) ?_
    refine ⟨base', os, cp, rfl, ?_, hr', st.ex0⟩
    rw [← hc, cutL_done c left cur (by omega)]
    exact hI
end Go.Proofs.Ytefnlalldgbcaaa
