/-
  Contracts: both slopes at a place of a sheet.
-/
import Derived.Test.YtefnlalldgbcaaaX
import Derived.Test.YtefnlalldgbcaaaCut
import Derived.Test.YtefnlalldgbcaaaG
namespace Go.Proofs.Ytefnlalldgbcaaa
open Go.RowKit

/-- A list that is cut is the same one, or a new one. -/
def CCut (P : Program) (f : FuncId) (vs : List Value) (w : World) (v0 : Value) (n left : Nat) (ss : List S3) : Prop :=
  Calls P f vs.toArray w fun e w' => (n ≤ left ∧ e = .returned v0 ∧ Ex w w' []) ∨ (left < n ∧ ∃ v b o, e = .returned v ∧ OwnL ss v b o ∧ Ex w w' [⟨b, true, o⟩])

section
variable {P : Program} {w0 w : World} {N : Nat} {a : Act} {E : List (Nat × Value)} {L Lh : List Ent} {K : Act → World → Prop} {Q : Exit → Act → World → Prop}
variable {d : Nat} {ty : TypeId} {pos : String} {aft : Array Edge} {g : Option (Nat × Bool)}
/-- A call that cuts the first block's list. -/
theorem o_callCut {f : FuncId} {args : List Operand} {tys : Array TypeId} {vs : List Value} {b left cap : Nat} {bs : List B3} {pad : List Value} {c : Option Nat} {ss : List S3} [hf : FnT P f] (st : St w0 N a w E (⟨b, true, oS bs pad⟩ :: L)) (ha : evs E args = some vs)
    (hI : IsSL bs ss) (hle : left ≤ bs.length) (hc : CCut P f vs w (.slice (some ⟨b, 0, none⟩) bs.length cap) bs.length left (cutL c left ss)) (hd : Nat.blt d N = true)
    (h : ∀ b' bs' cap' pad', IsSL bs' (cutL c left ss) → bs'.length = left → ∀ a' w', St w0 N a' w' ((d, .slice (some ⟨b', 0, none⟩) bs'.length cap') :: E) (⟨b', true, oS bs' pad'⟩ :: L) → K a' w') : Oper.wp P ⟨some d, .call { callee := .value (.func f), args := args.toArray, argTypes := tys }, ty, pos, aft, g⟩ a w K Q := by
  have hl := hI.len
  refine o_call st ha hc fun e w' hcase => ?_
  rcases hcase with ⟨hn, he, hx⟩ | ⟨_, v, b', o, he, ⟨bs', cap', pad', hv, ho, _, hI'⟩, hx⟩
  · refine ⟨_, he, h b bs cap pad ?_ (by omega) _ _ ((st.ext0 hx).put d hd _)⟩
    rw [cutL_done c left ss (by omega)]
    exact hI
  · subst hv
    subst ho
    refine ⟨_, he, h b' bs' cap' pad' hI' ?_ _ _ (((st.ext1 hx).put d hd _).subL (List.Sublist.cons_cons _ (List.Sublist.cons _ (List.Sublist.refl _))))⟩
    rw [hI'.len, cutL_length c left ss (by omega)]
end

attribute [local irreducible] Code.wp wpList Oper.wp Calls bodyPost Exit.then Exit.inBlock

set_option maxHeartbeats 8000000 in
theorem cutTo_own (bs : List B3) (ss : List S3) (h : IsSL bs ss) (base : Option Addr) (cap : Nat) (x : Nat) (c : Option Nat) (hx : Is .f32 x c) (left : Nat) (w : World) (hr : RdS w base bs) (hlen : bs.length < 1000000000) :
    CCut Try.prog 165 [.slice base bs.length cap, .float .f32 x, .int .i64 left] w (.slice base bs.length cap) bs.length left (cutL c left ss) := by
  refine enter Try.func165 rfl rfl rfl rfl ?_
  intro a st
  (repeat' (first | refine c_seq ?_  | refine c_region ?_  | refine l_do ?_  | refine l_nil ?_  | refine x_then ?_  | refine x_thenE ?_  | refine x_blkN ?_  | refine x_blkE ?_  | refine wp_ret ?_  | refine wp_skip ?_  | refine wp_block ?_  | refine wp_exit ?_  | refine c_condT st rfl ?_  | refine c_condF st rfl ?_  | ((first | refine o_move st rfl rfl ?_  | refine o_assign st rfl rfl ?_  | refine o_len st rfl rfl ?_); clear st; intro _ st)  | (refine o_gtr st rfl rfl rfl ?_ ?_ <;> clear st <;> intro _ _ st <;> (try (exfalso; omega)))))
  refine wp_loop_ghost (fun n a w' => ∃ (os : List B3) (cur : List S3), n = os.length ∧ os.length ≤ bs.length ∧ IsSL os cur ∧ cutL c left cur = cutL c left ss ∧ ((os = bs ∧ St w Try.f165.ntmps a w' [(0, .slice base bs.length cap), (1, .float .f32 x), (2, .int .i64 left)] []) ∨ (left < bs.length ∧ left ≤ os.length ∧ ∃ blk cp pad, (cS os ++ pad).length = cp * 3 ∧ St w Try.f165.ntmps a w' [(0, .slice (some ⟨blk, 0, none⟩) os.length cp), (1, .float .f32 x), (2, .int .i64 left)] [⟨blk, true, oS os pad⟩]))) bs.length ⟨bs, ss, rfl, Nat.le_refl _, h, rfl, .inl ⟨rfl, st.fit (by repeat (first | exact trivial  | refine And.intro rfl ?_))⟩⟩ ?_
  clear st
  rintro n a w' ⟨os, cur, rfl, hle, hI, hc, hst⟩
  have hl := hI.len
  by_cases hlt : left < os.length
  · rcases hst with ⟨rfl, st⟩ | ⟨_, _, blk, cp, pad, hp, st⟩
    · (repeat' (first | (refine o_callOw st rfl (nextSpots_ok os cur hI base cap x c hx _ (hr.mono st.below) (by omega)) rfl ?_; clear st; intro blk1 os1 cap1 pad1 hI1 hp1 _ _ _ st)  | refine c_seq ?_  | refine c_region ?_  | refine l_do ?_  | refine l_nil ?_  | refine x_then ?_  | refine x_thenE ?_  | refine x_blkN ?_  | refine x_blkE ?_  | refine wp_ret ?_  | refine wp_skip ?_  | refine wp_block ?_  | refine wp_exit ?_  | refine c_condT st rfl ?_  | refine c_condF st rfl ?_  | ((first | refine o_move st rfl rfl ?_  | refine o_assign st rfl rfl ?_  | refine o_len st rfl rfl ?_); clear st; intro _ st)  | (refine o_gtr st rfl rfl rfl ?_ ?_ <;> clear st <;> intro _ _ st <;> (try (exfalso; omega)))))
      have hl1 := hI1.len
      rw [nextL_length] at hl1
      exact ⟨os1.length, by omega, os1, nextL c cur, rfl, by omega, hI1, by rw [cutL_step c left cur (by omega)]; exact hc, .inr ⟨hlt, by omega, blk1, cap1, pad1, hp1, (st.fit (by repeat (first | exact trivial  | refine And.intro rfl ?_))).subL (by repeat (first | exact List.Sublist.refl _  | apply List.Sublist.cons_cons  | apply List.Sublist.cons  | exact List.nil_sublist _))⟩⟩
    · (repeat' (first | (refine o_callOw st rfl (nextSpots_ok os cur hI _ cp x c hx _ (RdS.of (st.heap (by repeat constructor)) (spotsIn0p _ _)) (by omega)) rfl ?_; clear st; intro blk1 os1 cap1 pad1 hI1 hp1 _ _ _ st)  | refine c_seq ?_  | refine c_region ?_  | refine l_do ?_  | refine l_nil ?_  | refine x_then ?_  | refine x_thenE ?_  | refine x_blkN ?_  | refine x_blkE ?_  | refine wp_ret ?_  | refine wp_skip ?_  | refine wp_block ?_  | refine wp_exit ?_  | refine c_condT st rfl ?_  | refine c_condF st rfl ?_  | ((first | refine o_move st rfl rfl ?_  | refine o_assign st rfl rfl ?_  | refine o_len st rfl rfl ?_); clear st; intro _ st)  | (refine o_gtr st rfl rfl rfl ?_ ?_ <;> clear st <;> intro _ _ st <;> (try (exfalso; omega)))))
      have hl1 := hI1.len
      rw [nextL_length] at hl1
      exact ⟨os1.length, by omega, os1, nextL c cur, rfl, by omega, hI1, by rw [cutL_step c left cur (by omega)]; exact hc, .inr ⟨by omega, by omega, blk1, cap1, pad1, hp1, (st.fit (by repeat (first | exact trivial  | refine And.intro rfl ?_))).subL (by repeat (first | exact List.Sublist.refl _  | apply List.Sublist.cons_cons  | apply List.Sublist.cons  | exact List.nil_sublist _))⟩⟩
  · rcases hst with ⟨rfl, st⟩ | ⟨hlb, hlo, blk, cp, pad, hp, st⟩
    · (repeat' (first | refine c_seq ?_  | refine c_region ?_  | refine l_do ?_  | refine l_nil ?_  | refine x_then ?_  | refine x_thenE ?_  | refine x_blkN ?_  | refine x_blkE ?_  | refine wp_ret ?_  | refine wp_skip ?_  | refine wp_block ?_  | refine wp_exit ?_  | refine c_condT st rfl ?_  | refine c_condF st rfl ?_  | ((first | refine o_move st rfl rfl ?_  | refine o_assign st rfl rfl ?_  | refine o_len st rfl rfl ?_); clear st; intro _ st)  | (refine o_gtr st rfl rfl rfl ?_ ?_ <;> clear st <;> intro _ _ st <;> (try (exfalso; omega)))))
      refine post1 st Try.results165 (rd_t st rfl) ?_
      exact .inl ⟨by omega, rfl, st.ex0⟩
    · (repeat' (first | refine c_seq ?_  | refine c_region ?_  | refine l_do ?_  | refine l_nil ?_  | refine x_then ?_  | refine x_thenE ?_  | refine x_blkN ?_  | refine x_blkE ?_  | refine wp_ret ?_  | refine wp_skip ?_  | refine wp_block ?_  | refine wp_exit ?_  | refine c_condT st rfl ?_  | refine c_condF st rfl ?_  | ((first | refine o_move st rfl rfl ?_  | refine o_assign st rfl rfl ?_  | refine o_len st rfl rfl ?_); clear st; intro _ st)  | (refine o_gtr st rfl rfl rfl ?_ ?_ <;> clear st <;> intro _ _ st <;> (try (exfalso; omega)))))
      refine post1 st Try.results165 (rd_t st rfl) ?_
      refine .inr ⟨hlb, _, blk, _, rfl, ⟨os, cp, pad, rfl, rfl, hp, ?_⟩, st.ex1 (by repeat constructor)⟩
      rw [← hc, cutL_done c left cur (by omega)]
      exact hI
/-! ## slopes -/
def slopeOf (ss : List S3) (m : Int) : S3 := timesS (lessS (ss.getD 1 z3) (ss.getD 0 z3)) (some (floatOfInt .f32 (m - 1)))
def slope1 (ss : List S3) (M K : Nat) (u v : Option Nat) : S3 := slopeOf (cutL u 2 (colsL ss M K v)) M
def slope2 (ss : List S3) (M K : Nat) (u v : Option Nat) : S3 := slopeOf (cutL v 2 (rowsL ss M K u)) K
theorem IsSL.two {bs : List B3} {ss : List S3} (h : IsSL bs ss) (hl : bs.length = 2) : ∃ b0 b1, bs = [b0, b1] ∧ IsS b0 (ss.getD 0 z3) ∧ IsS b1 (ss.getD 1 z3) := by
  have hls := h.len
  match bs, hl with
  | [b0, b1], _ =>
    match ss, hls with
    | [s0, s1], _ => exact ⟨b0, b1, rfl, h.get 0 b0 s0 rfl rfl, h.get 1 b1 s1 rfl rfl⟩
    | [], h => simp at h
    | [_], h => simp at h
    | _ :: _ :: _ :: _, h => simp at h

def slopesOk (m n : Int) (ss : List S3) (u v : Option Nat) : Bool := onC m n ss u v && (finS (slope1 ss m.toNat n.toNat u v) && finS (slope2 ss m.toNat n.toNat u v))
def slopesA (m n : Int) (ss : List S3) (u v : Option Nat) : S3 := bif slopesOk m n ss u v then slope1 ss m.toNat n.toNat u v else z3
def slopesB (m n : Int) (ss : List S3) (u v : Option Nat) : S3 := bif slopesOk m n ss u v then slope2 ss m.toNat n.toNat u v else z3

set_option maxRecDepth 100000 in
set_option maxHeartbeats 32000000 in
theorem implSlopes_ok (m n : Int) (bs : List B3) (ss : List S3) (h : IsSL bs ss) (base : Option Addr) (cap : Nat) (hcap : bs.length ≤ cap) (x y : Nat) (u v : Option Nat) (hx : Is .f32 x u) (hy : Is .f32 y v) (w : World) (hr : RdS w base bs) (hlen : bs.length < 1000000000) :
    CSSB Try.prog 87 [vSh m n base bs.length cap, .float .f32 x, .float .f32 y] w (slopesA m n ss u v) (slopesB m n ss u v) (slopesOk m n ss u v) := by
  refine enter Try.func87 rfl rfl rfl rfl ?_
  intro a st
  have hc := fun (w : World) hr => isOn_ok m n bs ss h base cap x y u v hx hy w hr hlen
  unfold slopesA slopesB slopesOk
  cases hq : onC m n ss u v
  · rw [hq] at hc
    (repeat' (first | (refine o_callV st rfl (hc _ (hr.mono st.below)) rfl ?_; clear st; intro _ _ st)  | refine c_seq ?_  | refine c_region ?_  | refine l_do ?_  | refine l_nil ?_  | refine x_then ?_  | refine x_thenR ?_  | refine wp_ret ?_  | refine wp_skip ?_  | refine c_condT st rfl ?_  | refine c_condF st rfl ?_  | ((first | refine o_move st rfl rfl ?_  | refine o_assign st rfl rfl ?_); clear st; intro _ st)  | ((first | refine o_alloc st rfl ?_  | refine o_boxA st rfl rfl ?_ ); clear st; intro _ _ _ st)  | ((first | refine o_load3 st rfl (by repeat constructor) rfl ?_ ); clear st; intro _ st)  | ((first | refine o_storeW st rfl rfl (by repeat constructor) rfl rfl rfl ?_); clear st; intro _ _ st)  | ((first | refine o_build0 st rfl ?_  | refine o_notT st rfl rfl ?_  | refine o_notF st rfl rfl ?_ ); clear st; intro _ st)))
    refine post3 st Try.results87 (rd_c st rfl (by repeat constructor) rfl) (rd_c st rfl (by repeat constructor) rfl) (rd_t st rfl) ?_
    exact ⟨_, rfl, ⟨(0, 0, 0), (0, 0, 0), rfl, IsS_z, IsS_z⟩, st.ex0⟩
  · rw [hq] at hc
    have hv : validC m n ss = true := by unfold onC at hq; rw [Bool.and_eq_true] at hq; exact hq.1
    obtain ⟨M, K, rfl, rfl, hm0, hm1, hn0, hn1, hl, h36, _⟩ := valid_nums hv
    have hc1 := colsL_length ss M K v
    have hc2 := rowsL_length ss M K u
    simp only [Int.toNat_natCast]
    (repeat' (first | (refine o_callV st rfl (hc _ (hr.mono st.below)) rfl ?_; clear st; intro _ _ st)  | refine c_seq ?_  | refine c_region ?_  | refine l_do ?_  | refine l_nil ?_  | refine x_then ?_  | refine x_thenR ?_  | refine wp_ret ?_  | refine wp_skip ?_  | refine c_condT st rfl ?_  | refine c_condF st rfl ?_  | ((first | refine o_move st rfl rfl ?_  | refine o_assign st rfl rfl ?_); clear st; intro _ st)  | ((first | refine o_alloc st rfl ?_  | refine o_boxA st rfl rfl ?_ ); clear st; intro _ _ _ st)  | ((first | refine o_load3 st rfl (by repeat constructor) rfl ?_ ); clear st; intro _ st)  | ((first | refine o_storeW st rfl rfl (by repeat constructor) rfl rfl rfl ?_); clear st; intro _ _ st)  | ((first | refine o_build0 st rfl ?_  | refine o_notT st rfl rfl ?_  | refine o_notF st rfl rfl ?_ ); clear st; intro _ st)))
    refine c_drawA (last := 11) hm_ (by decide +kernel) (by decide +kernel) st ?_; clear st; intro _ st
    refine d_v 0 st (by repeat constructor) rfl (by decide +kernel) rfl (by first | exact v_load3 st rfl (by repeat constructor) | exact v_loadS st rfl (by repeat constructor) rfl) ?_; clear st; intro _ st
    refine d_v 1 st (by repeat constructor) rfl (by decide +kernel) rfl (v_move st rfl) ?_; clear st; intro _ st
    refine d_v 3 st (by repeat constructor) rfl (by decide +kernel) rfl (v_move st rfl) ?_; clear st; intro _ st
    refine d_v 5 st (by repeat constructor) rfl (by decide +kernel) rfl (by first | exact v_load3 st rfl (by repeat constructor) | exact v_loadS st rfl (by repeat constructor) rfl) ?_; clear st; intro _ st
    refine d_v 6 st (by repeat constructor) rfl (by decide +kernel) rfl (v_move st rfl) ?_; clear st; intro _ st
    refine d_v 8 st (by repeat constructor) rfl (by decide +kernel) rfl (v_move st rfl) ?_; clear st; intro _ st
    refine d_one 2 (by decide +kernel) rfl ?_
    refine o_callOw st rfl (columnsAt_ok M K bs ss h base cap hl hm0 hn0 h36 y v hy _ (hr.mono st.below)) rfl ?_; clear st; intro xb xs xcap xpad hX hXp _ _ _ st; have hXl := hX.len
    refine kh st (by repeat constructor) ?_
    refine d_one 4 (by decide +kernel) rfl ?_
    refine o_callCut st rfl hX (by omega) (cutTo_own xs _ hX _ _ x u hx 2 _ (RdS.of (st.heap (by repeat constructor)) (spotsIn0p _ _)) (by omega)) rfl ?_; clear st; intro xb2 xs2 xcap2 xpad2 hX2 hXl2 _ _ st
    refine kh st (by repeat constructor) ?_
    refine d_one 7 (by decide +kernel) rfl ?_
    refine o_callOw st rfl (rowsAt_ok M K bs ss h base cap hl hm0 hn0 h36 hcap x u hx _ (hr.mono st.below)) rfl ?_; clear st; intro yb ys ycap ypad hY hYp _ _ _ st; have hYl := hY.len
    refine kh st (by repeat constructor) ?_
    refine d_one 9 (by decide +kernel) rfl ?_
    refine o_callCut st rfl hY (by omega) (cutTo_own ys _ hY _ _ y v hy 2 _ (RdS.of (st.heap (by repeat constructor)) (spotsIn0p _ _)) (by omega)) rfl ?_; clear st; intro yb2 ys2 ycap2 ypad2 hY2 hYl2 _ _ st
    refine kh st (by repeat constructor) ?_
    refine d_v 10 st (by repeat constructor) rfl (by decide +kernel) rfl (v_assign st rfl) ?_; clear st; intro _ st
    refine d_one 11 (by decide +kernel) rfl ?_
    (first | (refine o_assign st rfl rfl ?_; clear st; intro _ st))
    refine k_last ?_
    refine d_done (by decide +kernel) ?_
    (repeat' (first | refine c_seq ?_  | refine c_region ?_  | refine l_do ?_  | refine l_nil ?_  | refine x_then ?_  | refine x_thenR ?_  | refine wp_ret ?_  | refine wp_skip ?_  | refine c_condT st rfl ?_  | refine c_condF st rfl ?_  | ((first | refine o_move st rfl rfl ?_  | refine o_assign st rfl rfl ?_); clear st; intro _ st)  | ((first | refine o_alloc st rfl ?_  | refine o_boxA st rfl rfl ?_ ); clear st; intro _ _ _ st)  | ((first | refine o_load3 st rfl (by repeat constructor) rfl ?_ ); clear st; intro _ st)  | ((first | refine o_storeW st rfl rfl (by repeat constructor) rfl rfl rfl ?_); clear st; intro _ _ st)  | ((first | refine o_build0 st rfl ?_  | refine o_notT st rfl rfl ?_  | refine o_notF st rfl rfl ?_ ); clear st; intro _ st)))
    obtain ⟨x0, x1, rfl, hx0, hx1⟩ := hX2.two hXl2
    obtain ⟨y0, y1, rfl, hy0, hy1⟩ := hY2.two hYl2
    have lx0 := spotsIn0p [x0, x1] xpad2 0 x0 rfl
    have lx1 := spotsIn0p [x0, x1] xpad2 1 x1 rfl
    have ly0 := spotsIn0p [y0, y1] ypad2 0 y0 rfl
    have ly1 := spotsIn0p [y0, y1] ypad2 1 y1 rfl
    clear hX hY hX2 hY2
    obtain ⟨p3, p6, p7, st⟩ : ∃ p3 p6 p7, St w Try.f87.ntmps _ _ [(3, .pointer (some ⟨p3, 0, none⟩)), (6, .pointer (some ⟨p6, 0, none⟩)), (7, .pointer (some ⟨p7, 0, none⟩)), (9, .slice (some ⟨xb2, 0, none⟩) [x0, x1].length xcap2), (10, .slice (some ⟨yb2, 0, none⟩) [y0, y1].length ycap2)] [⟨yb2, true, oS [y0, y1] ypad2⟩, ⟨xb2, true, oS [x0, x1] xpad2⟩, ⟨p7, true, oB (0, 0, 0) 26⟩, ⟨p6, true, oB (0, 0, 0) 26⟩, ⟨p3, true, .cells [.int .i64 M, .int .i64 K, .slice base bs.length cap].toArray 46 (0, 0)⟩] := ⟨_, _, _, (st.fit (by repeat (first | exact trivial  | refine And.intro rfl ?_))).subL (by repeat (first | exact List.Sublist.refl _  | apply List.Sublist.cons_cons  | apply List.Sublist.cons  | exact List.nil_sublist _))⟩
    refine c_drawCA (F := (fun _ _ a w' => ∃ (b1 b2 : B3) (p11 p12 : Nat), IsS b1 (slope1 ss M K u v) ∧ IsS b2 (slope2 ss M K u v) ∧ St w Try.f87.ntmps a w' [(6, .pointer (some ⟨p6, 0, none⟩)), (7, .pointer (some ⟨p7, 0, none⟩)), (11, .pointer (some ⟨p11, 0, none⟩)), (12, .pointer (some ⟨p12, 0, none⟩))] [⟨p12, true, oB b2 26⟩, ⟨p11, true, oB b1 26⟩, ⟨p7, true, oB (0, 0, 0) 26⟩, ⟨p6, true, oB (0, 0, 0) 26⟩])) (last := 27) hm_ (by decide +kernel) (by decide +kernel) st ?_ ?_
    · clear st; intro _ st
      refine d_v 0 st (by repeat constructor) rfl (by decide +kernel) rfl (v_move st rfl) ?_; clear st; intro _ st
      refine d_v 1 st (by repeat constructor) rfl (by decide +kernel) rfl (v_indexAddr st rfl rfl (by decide) (by simp)) ?_; clear st; intro _ st
      refine d_v 2 st (by repeat constructor) rfl (by decide +kernel) rfl (v_loadSp st rfl (by repeat constructor) lx1) ?_; clear st; intro _ st
      refine d_v 3 st (by repeat constructor) rfl (by decide +kernel) rfl (v_move st rfl) ?_; clear st; intro _ st
      refine d_v 4 st (by repeat constructor) rfl (by decide +kernel) rfl (v_indexAddr st rfl rfl (by decide) (by simp)) ?_; clear st; intro _ st
      refine d_v 5 st (by repeat constructor) rfl (by decide +kernel) rfl (v_loadSp st rfl (by repeat constructor) lx0) ?_; clear st; intro _ st
      refine d_v 7 st (by repeat constructor) rfl (by decide +kernel) rfl (v_fieldAddr st rfl) ?_; clear st; intro _ st
      refine d_v 8 st (by repeat constructor) rfl (by decide +kernel) rfl (by first | exact v_load3 st rfl (by repeat constructor) | exact v_loadS st rfl (by repeat constructor) rfl) ?_; clear st; intro _ st
      refine d_v 9 st (by repeat constructor) rfl (by decide +kernel) rfl (v_sub64 st rfl rfl (by omega) (by omega)) ?_; clear st; intro _ st
      refine d_v 10 st (by repeat constructor) rfl (by decide +kernel) rfl (v_intFloat st rfl) ?_; clear st; intro _ st
      refine d_v 12 st (by repeat constructor) rfl (by decide +kernel) rfl (v_move st rfl) ?_; clear st; intro _ st
      refine d_v 13 st (by repeat constructor) rfl (by decide +kernel) rfl (v_indexAddr st rfl rfl (by decide) (by simp)) ?_; clear st; intro _ st
      refine d_v 14 st (by repeat constructor) rfl (by decide +kernel) rfl (v_loadSp st rfl (by repeat constructor) ly1) ?_; clear st; intro _ st
      refine d_v 15 st (by repeat constructor) rfl (by decide +kernel) rfl (v_move st rfl) ?_; clear st; intro _ st
      refine d_v 16 st (by repeat constructor) rfl (by decide +kernel) rfl (v_indexAddr st rfl rfl (by decide) (by simp)) ?_; clear st; intro _ st
      refine d_v 17 st (by repeat constructor) rfl (by decide +kernel) rfl (v_loadSp st rfl (by repeat constructor) ly0) ?_; clear st; intro _ st
      refine d_v 19 st (by repeat constructor) rfl (by decide +kernel) rfl (v_fieldAddr st rfl) ?_; clear st; intro _ st
      refine d_v 20 st (by repeat constructor) rfl (by decide +kernel) rfl (by first | exact v_load3 st rfl (by repeat constructor) | exact v_loadS st rfl (by repeat constructor) rfl) ?_; clear st; intro _ st
      refine d_v 21 st (by repeat constructor) rfl (by decide +kernel) rfl (v_sub64 st rfl rfl (by omega) (by omega)) ?_; clear st; intro _ st
      refine d_v 22 st (by repeat constructor) rfl (by decide +kernel) rfl (v_intFloat st rfl) ?_; clear st; intro _ st
      refine d_three 6 24 25 (by decide +kernel) rfl rfl rfl ?_ ?_ ?_
      · skip
        refine o_callSb st rfl (less_ok _ _ _ _ hx1 hx0 _) rfl ?_; clear st; intro _ hd1 _ _ st
        refine kh st (by repeat constructor) ?_
        refine d_three 11 24 25 (by decide +kernel) rfl rfl rfl ?_ ?_ ?_
        · skip
          refine o_callSb st rfl (times_ok _ _ hd1 _ _ (Is_ofInt _ _) _) rfl ?_; clear st; intro _ hb1 _ _ st
          refine kh st (by repeat constructor) ?_
          refine d_three 18 24 25 (by decide +kernel) rfl rfl rfl ?_ ?_ ?_
          · skip
            refine o_callSb st rfl (less_ok _ _ _ _ hy1 hy0 _) rfl ?_; clear st; intro _ hd2 _ _ st
            refine kh st (by repeat constructor) ?_
            refine d_three 23 24 25 (by decide +kernel) rfl rfl rfl ?_ ?_ ?_
            · skip
              refine o_callSb st rfl (times_ok _ _ hd2 _ _ (Is_ofInt _ _) _) rfl ?_; clear st; intro _ hb2 _ _ st
              refine kh st (by repeat constructor) ?_
              refine d_two 24 25 (by decide +kernel) rfl rfl ?_ ?_
              · skip
                refine o_alloc st rfl ?_; clear st; intro _ _ _ st
                refine kh st (by repeat constructor) ?_
                refine d_one 25 (by decide +kernel) rfl ?_
                refine o_alloc st rfl ?_; clear st; intro _ _ _ st
                refine kh st (by repeat constructor) ?_
                refine d_one 26 (by decide +kernel) rfl ?_
                (first | ((first | refine o_storeW st rfl rfl (by repeat constructor) rfl rfl rfl ?_); clear st; intro _ _ st))
                refine kh st (by repeat constructor) ?_
                refine d_one 27 (by decide +kernel) rfl ?_
                (first | ((first | refine o_storeW st rfl rfl (by repeat constructor) rfl rfl rfl ?_); clear st; intro _ _ st))
                refine k_last ?_
                refine d_done (by decide +kernel) ?_
                refine ⟨rfl, ?_⟩
                have st := St.front 11 st rfl (by repeat constructor)
                have st := St.front 12 st rfl (by repeat constructor)
                exact ⟨_, _, _, _, hb1, hb2, (st.fit (by repeat (first | exact trivial  | refine And.intro rfl ?_))).subL (by repeat (first | exact List.Sublist.refl _  | apply List.Sublist.cons_cons  | apply List.Sublist.cons  | exact List.nil_sublist _))⟩
              · skip
                refine o_alloc st rfl ?_; clear st; intro _ _ _ st
                refine kh st (by repeat constructor) ?_
                refine d_one 24 (by decide +kernel) rfl ?_
                refine o_alloc st rfl ?_; clear st; intro _ _ _ st
                refine kh st (by repeat constructor) ?_
                refine d_one 26 (by decide +kernel) rfl ?_
                (first | ((first | refine o_storeW st rfl rfl (by repeat constructor) rfl rfl rfl ?_); clear st; intro _ _ st))
                refine kh st (by repeat constructor) ?_
                refine d_one 27 (by decide +kernel) rfl ?_
                (first | ((first | refine o_storeW st rfl rfl (by repeat constructor) rfl rfl rfl ?_); clear st; intro _ _ st))
                refine k_last ?_
                refine d_done (by decide +kernel) ?_
                refine ⟨rfl, ?_⟩
                have st := St.front 11 st rfl (by repeat constructor)
                have st := St.front 12 st rfl (by repeat constructor)
                exact ⟨_, _, _, _, hb1, hb2, (st.fit (by repeat (first | exact trivial  | refine And.intro rfl ?_))).subL (by repeat (first | exact List.Sublist.refl _  | apply List.Sublist.cons_cons  | apply List.Sublist.cons  | exact List.nil_sublist _))⟩
            · skip
              refine o_alloc st rfl ?_; clear st; intro _ _ _ st
              refine kh st (by repeat constructor) ?_
              refine d_two 23 25 (by decide +kernel) rfl rfl ?_ ?_
              · skip
                refine o_callSb st rfl (times_ok _ _ hd2 _ _ (Is_ofInt _ _) _) rfl ?_; clear st; intro _ hb2 _ _ st
                refine kh st (by repeat constructor) ?_
                refine d_one 25 (by decide +kernel) rfl ?_
                refine o_alloc st rfl ?_; clear st; intro _ _ _ st
                refine kh st (by repeat constructor) ?_
                refine d_one 26 (by decide +kernel) rfl ?_
                (first | ((first | refine o_storeW st rfl rfl (by repeat constructor) rfl rfl rfl ?_); clear st; intro _ _ st))
                refine kh st (by repeat constructor) ?_
                refine d_one 27 (by decide +kernel) rfl ?_
                (first | ((first | refine o_storeW st rfl rfl (by repeat constructor) rfl rfl rfl ?_); clear st; intro _ _ st))
                refine k_last ?_
                refine d_done (by decide +kernel) ?_
                refine ⟨rfl, ?_⟩
                have st := St.front 11 st rfl (by repeat constructor)
                have st := St.front 12 st rfl (by repeat constructor)
                exact ⟨_, _, _, _, hb1, hb2, (st.fit (by repeat (first | exact trivial  | refine And.intro rfl ?_))).subL (by repeat (first | exact List.Sublist.refl _  | apply List.Sublist.cons_cons  | apply List.Sublist.cons  | exact List.nil_sublist _))⟩
              · skip
                refine o_alloc st rfl ?_; clear st; intro _ _ _ st
                refine kh st (by repeat constructor) ?_
                refine d_one 23 (by decide +kernel) rfl ?_
                refine o_callSb st rfl (times_ok _ _ hd2 _ _ (Is_ofInt _ _) _) rfl ?_; clear st; intro _ hb2 _ _ st
                refine kh st (by repeat constructor) ?_
                refine d_one 26 (by decide +kernel) rfl ?_
                (first | ((first | refine o_storeW st rfl rfl (by repeat constructor) rfl rfl rfl ?_); clear st; intro _ _ st))
                refine kh st (by repeat constructor) ?_
                refine d_one 27 (by decide +kernel) rfl ?_
                (first | ((first | refine o_storeW st rfl rfl (by repeat constructor) rfl rfl rfl ?_); clear st; intro _ _ st))
                refine k_last ?_
                refine d_done (by decide +kernel) ?_
                refine ⟨rfl, ?_⟩
                have st := St.front 11 st rfl (by repeat constructor)
                have st := St.front 12 st rfl (by repeat constructor)
                exact ⟨_, _, _, _, hb1, hb2, (st.fit (by repeat (first | exact trivial  | refine And.intro rfl ?_))).subL (by repeat (first | exact List.Sublist.refl _  | apply List.Sublist.cons_cons  | apply List.Sublist.cons  | exact List.nil_sublist _))⟩
            · skip
              refine o_alloc st rfl ?_; clear st; intro _ _ _ st
              refine kh st (by repeat constructor) ?_
              refine d_two 23 24 (by decide +kernel) rfl rfl ?_ ?_
              · skip
                refine o_callSb st rfl (times_ok _ _ hd2 _ _ (Is_ofInt _ _) _) rfl ?_; clear st; intro _ hb2 _ _ st
                refine kh st (by repeat constructor) ?_
                refine d_one 24 (by decide +kernel) rfl ?_
                refine o_alloc st rfl ?_; clear st; intro _ _ _ st
                refine kh st (by repeat constructor) ?_
                refine d_one 26 (by decide +kernel) rfl ?_
                (first | ((first | refine o_storeW st rfl rfl (by repeat constructor) rfl rfl rfl ?_); clear st; intro _ _ st))
                refine kh st (by repeat constructor) ?_
                refine d_one 27 (by decide +kernel) rfl ?_
                (first | ((first | refine o_storeW st rfl rfl (by repeat constructor) rfl rfl rfl ?_); clear st; intro _ _ st))
                refine k_last ?_
                refine d_done (by decide +kernel) ?_
                refine ⟨rfl, ?_⟩
                have st := St.front 11 st rfl (by repeat constructor)
                have st := St.front 12 st rfl (by repeat constructor)
                exact ⟨_, _, _, _, hb1, hb2, (st.fit (by repeat (first | exact trivial  | refine And.intro rfl ?_))).subL (by repeat (first | exact List.Sublist.refl _  | apply List.Sublist.cons_cons  | apply List.Sublist.cons  | exact List.nil_sublist _))⟩
              · skip
                refine o_alloc st rfl ?_; clear st; intro _ _ _ st
                refine kh st (by repeat constructor) ?_
                refine d_one 23 (by decide +kernel) rfl ?_
                refine o_callSb st rfl (times_ok _ _ hd2 _ _ (Is_ofInt _ _) _) rfl ?_; clear st; intro _ hb2 _ _ st
                refine kh st (by repeat constructor) ?_
                refine d_one 26 (by decide +kernel) rfl ?_
                (first | ((first | refine o_storeW st rfl rfl (by repeat constructor) rfl rfl rfl ?_); clear st; intro _ _ st))
                refine kh st (by repeat constructor) ?_
                refine d_one 27 (by decide +kernel) rfl ?_
                (first | ((first | refine o_storeW st rfl rfl (by repeat constructor) rfl rfl rfl ?_); clear st; intro _ _ st))
                refine k_last ?_
                refine d_done (by decide +kernel) ?_
                refine ⟨rfl, ?_⟩
                have st := St.front 11 st rfl (by repeat constructor)
                have st := St.front 12 st rfl (by repeat constructor)
                exact ⟨_, _, _, _, hb1, hb2, (st.fit (by repeat (first | exact trivial  | refine And.intro rfl ?_))).subL (by repeat (first | exact List.Sublist.refl _  | apply List.Sublist.cons_cons  | apply List.Sublist.cons  | exact List.nil_sublist _))⟩
          · skip
            refine o_alloc st rfl ?_; clear st; intro _ _ _ st
            refine kh st (by repeat constructor) ?_
            refine d_two 18 25 (by decide +kernel) rfl rfl ?_ ?_
            · skip
              refine o_callSb st rfl (less_ok _ _ _ _ hy1 hy0 _) rfl ?_; clear st; intro _ hd2 _ _ st
              refine kh st (by repeat constructor) ?_
              refine d_two 23 25 (by decide +kernel) rfl rfl ?_ ?_
              · skip
                refine o_callSb st rfl (times_ok _ _ hd2 _ _ (Is_ofInt _ _) _) rfl ?_; clear st; intro _ hb2 _ _ st
                refine kh st (by repeat constructor) ?_
                refine d_one 25 (by decide +kernel) rfl ?_
                refine o_alloc st rfl ?_; clear st; intro _ _ _ st
                refine kh st (by repeat constructor) ?_
                refine d_one 26 (by decide +kernel) rfl ?_
                (first | ((first | refine o_storeW st rfl rfl (by repeat constructor) rfl rfl rfl ?_); clear st; intro _ _ st))
                refine kh st (by repeat constructor) ?_
                refine d_one 27 (by decide +kernel) rfl ?_
                (first | ((first | refine o_storeW st rfl rfl (by repeat constructor) rfl rfl rfl ?_); clear st; intro _ _ st))
                refine k_last ?_
                refine d_done (by decide +kernel) ?_
                refine ⟨rfl, ?_⟩
                have st := St.front 11 st rfl (by repeat constructor)
                have st := St.front 12 st rfl (by repeat constructor)
                exact ⟨_, _, _, _, hb1, hb2, (st.fit (by repeat (first | exact trivial  | refine And.intro rfl ?_))).subL (by repeat (first | exact List.Sublist.refl _  | apply List.Sublist.cons_cons  | apply List.Sublist.cons  | exact List.nil_sublist _))⟩
              · skip
                refine o_alloc st rfl ?_; clear st; intro _ _ _ st
                refine kh st (by repeat constructor) ?_
                refine d_one 23 (by decide +kernel) rfl ?_
                refine o_callSb st rfl (times_ok _ _ hd2 _ _ (Is_ofInt _ _) _) rfl ?_; clear st; intro _ hb2 _ _ st
                refine kh st (by repeat constructor) ?_
                refine d_one 26 (by decide +kernel) rfl ?_
                (first | ((first | refine o_storeW st rfl rfl (by repeat constructor) rfl rfl rfl ?_); clear st; intro _ _ st))
                refine kh st (by repeat constructor) ?_
                refine d_one 27 (by decide +kernel) rfl ?_
                (first | ((first | refine o_storeW st rfl rfl (by repeat constructor) rfl rfl rfl ?_); clear st; intro _ _ st))
                refine k_last ?_
                refine d_done (by decide +kernel) ?_
                refine ⟨rfl, ?_⟩
                have st := St.front 11 st rfl (by repeat constructor)
                have st := St.front 12 st rfl (by repeat constructor)
                exact ⟨_, _, _, _, hb1, hb2, (st.fit (by repeat (first | exact trivial  | refine And.intro rfl ?_))).subL (by repeat (first | exact List.Sublist.refl _  | apply List.Sublist.cons_cons  | apply List.Sublist.cons  | exact List.nil_sublist _))⟩
            · skip
              refine o_alloc st rfl ?_; clear st; intro _ _ _ st
              refine kh st (by repeat constructor) ?_
              refine d_one 18 (by decide +kernel) rfl ?_
              refine o_callSb st rfl (less_ok _ _ _ _ hy1 hy0 _) rfl ?_; clear st; intro _ hd2 _ _ st
              refine kh st (by repeat constructor) ?_
              refine d_one 23 (by decide +kernel) rfl ?_
              refine o_callSb st rfl (times_ok _ _ hd2 _ _ (Is_ofInt _ _) _) rfl ?_; clear st; intro _ hb2 _ _ st
              refine kh st (by repeat constructor) ?_
              refine d_one 26 (by decide +kernel) rfl ?_
              (first | ((first | refine o_storeW st rfl rfl (by repeat constructor) rfl rfl rfl ?_); clear st; intro _ _ st))
              refine kh st (by repeat constructor) ?_
              refine d_one 27 (by decide +kernel) rfl ?_
              (first | ((first | refine o_storeW st rfl rfl (by repeat constructor) rfl rfl rfl ?_); clear st; intro _ _ st))
              refine k_last ?_
              refine d_done (by decide +kernel) ?_
              refine ⟨rfl, ?_⟩
              have st := St.front 11 st rfl (by repeat constructor)
              have st := St.front 12 st rfl (by repeat constructor)
              exact ⟨_, _, _, _, hb1, hb2, (st.fit (by repeat (first | exact trivial  | refine And.intro rfl ?_))).subL (by repeat (first | exact List.Sublist.refl _  | apply List.Sublist.cons_cons  | apply List.Sublist.cons  | exact List.nil_sublist _))⟩
          · skip
            refine o_alloc st rfl ?_; clear st; intro _ _ _ st
            refine kh st (by repeat constructor) ?_
            refine d_two 18 24 (by decide +kernel) rfl rfl ?_ ?_
            · skip
              refine o_callSb st rfl (less_ok _ _ _ _ hy1 hy0 _) rfl ?_; clear st; intro _ hd2 _ _ st
              refine kh st (by repeat constructor) ?_
              refine d_two 23 24 (by decide +kernel) rfl rfl ?_ ?_
              · skip
                refine o_callSb st rfl (times_ok _ _ hd2 _ _ (Is_ofInt _ _) _) rfl ?_; clear st; intro _ hb2 _ _ st
                refine kh st (by repeat constructor) ?_
                refine d_one 24 (by decide +kernel) rfl ?_
                refine o_alloc st rfl ?_; clear st; intro _ _ _ st
                refine kh st (by repeat constructor) ?_
                refine d_one 26 (by decide +kernel) rfl ?_
                (first | ((first | refine o_storeW st rfl rfl (by repeat constructor) rfl rfl rfl ?_); clear st; intro _ _ st))
                refine kh st (by repeat constructor) ?_
                refine d_one 27 (by decide +kernel) rfl ?_
                (first | ((first | refine o_storeW st rfl rfl (by repeat constructor) rfl rfl rfl ?_); clear st; intro _ _ st))
                refine k_last ?_
                refine d_done (by decide +kernel) ?_
                refine ⟨rfl, ?_⟩
                have st := St.front 11 st rfl (by repeat constructor)
                have st := St.front 12 st rfl (by repeat constructor)
                exact ⟨_, _, _, _, hb1, hb2, (st.fit (by repeat (first | exact trivial  | refine And.intro rfl ?_))).subL (by repeat (first | exact List.Sublist.refl _  | apply List.Sublist.cons_cons  | apply List.Sublist.cons  | exact List.nil_sublist _))⟩
              · skip
                refine o_alloc st rfl ?_; clear st; intro _ _ _ st
                refine kh st (by repeat constructor) ?_
                refine d_one 23 (by decide +kernel) rfl ?_
                refine o_callSb st rfl (times_ok _ _ hd2 _ _ (Is_ofInt _ _) _) rfl ?_; clear st; intro _ hb2 _ _ st
                refine kh st (by repeat constructor) ?_
                refine d_one 26 (by decide +kernel) rfl ?_
                (first | ((first | refine o_storeW st rfl rfl (by repeat constructor) rfl rfl rfl ?_); clear st; intro _ _ st))
                refine kh st (by repeat constructor) ?_
                refine d_one 27 (by decide +kernel) rfl ?_
                (first | ((first | refine o_storeW st rfl rfl (by repeat constructor) rfl rfl rfl ?_); clear st; intro _ _ st))
                refine k_last ?_
                refine d_done (by decide +kernel) ?_
                refine ⟨rfl, ?_⟩
                have st := St.front 11 st rfl (by repeat constructor)
                have st := St.front 12 st rfl (by repeat constructor)
                exact ⟨_, _, _, _, hb1, hb2, (st.fit (by repeat (first | exact trivial  | refine And.intro rfl ?_))).subL (by repeat (first | exact List.Sublist.refl _  | apply List.Sublist.cons_cons  | apply List.Sublist.cons  | exact List.nil_sublist _))⟩
            · skip
              refine o_alloc st rfl ?_; clear st; intro _ _ _ st
              refine kh st (by repeat constructor) ?_
              refine d_one 18 (by decide +kernel) rfl ?_
              refine o_callSb st rfl (less_ok _ _ _ _ hy1 hy0 _) rfl ?_; clear st; intro _ hd2 _ _ st
              refine kh st (by repeat constructor) ?_
              refine d_one 23 (by decide +kernel) rfl ?_
              refine o_callSb st rfl (times_ok _ _ hd2 _ _ (Is_ofInt _ _) _) rfl ?_; clear st; intro _ hb2 _ _ st
              refine kh st (by repeat constructor) ?_
              refine d_one 26 (by decide +kernel) rfl ?_
              (first | ((first | refine o_storeW st rfl rfl (by repeat constructor) rfl rfl rfl ?_); clear st; intro _ _ st))
              refine kh st (by repeat constructor) ?_
              refine d_one 27 (by decide +kernel) rfl ?_
              (first | ((first | refine o_storeW st rfl rfl (by repeat constructor) rfl rfl rfl ?_); clear st; intro _ _ st))
              refine k_last ?_
              refine d_done (by decide +kernel) ?_
              refine ⟨rfl, ?_⟩
              have st := St.front 11 st rfl (by repeat constructor)
              have st := St.front 12 st rfl (by repeat constructor)
              exact ⟨_, _, _, _, hb1, hb2, (st.fit (by repeat (first | exact trivial  | refine And.intro rfl ?_))).subL (by repeat (first | exact List.Sublist.refl _  | apply List.Sublist.cons_cons  | apply List.Sublist.cons  | exact List.nil_sublist _))⟩
        · skip
          refine o_alloc st rfl ?_; clear st; intro _ _ _ st
          refine kh st (by repeat constructor) ?_
          refine d_two 11 25 (by decide +kernel) rfl rfl ?_ ?_
          · skip
            refine o_callSb st rfl (times_ok _ _ hd1 _ _ (Is_ofInt _ _) _) rfl ?_; clear st; intro _ hb1 _ _ st
            refine kh st (by repeat constructor) ?_
            refine d_two 18 25 (by decide +kernel) rfl rfl ?_ ?_
            · skip
              refine o_callSb st rfl (less_ok _ _ _ _ hy1 hy0 _) rfl ?_; clear st; intro _ hd2 _ _ st
              refine kh st (by repeat constructor) ?_
              refine d_two 23 25 (by decide +kernel) rfl rfl ?_ ?_
              · skip
                refine o_callSb st rfl (times_ok _ _ hd2 _ _ (Is_ofInt _ _) _) rfl ?_; clear st; intro _ hb2 _ _ st
                refine kh st (by repeat constructor) ?_
                refine d_one 25 (by decide +kernel) rfl ?_
                refine o_alloc st rfl ?_; clear st; intro _ _ _ st
                refine kh st (by repeat constructor) ?_
                refine d_one 26 (by decide +kernel) rfl ?_
                (first | ((first | refine o_storeW st rfl rfl (by repeat constructor) rfl rfl rfl ?_); clear st; intro _ _ st))
                refine kh st (by repeat constructor) ?_
                refine d_one 27 (by decide +kernel) rfl ?_
                (first | ((first | refine o_storeW st rfl rfl (by repeat constructor) rfl rfl rfl ?_); clear st; intro _ _ st))
                refine k_last ?_
                refine d_done (by decide +kernel) ?_
                refine ⟨rfl, ?_⟩
                have st := St.front 11 st rfl (by repeat constructor)
                have st := St.front 12 st rfl (by repeat constructor)
                exact ⟨_, _, _, _, hb1, hb2, (st.fit (by repeat (first | exact trivial  | refine And.intro rfl ?_))).subL (by repeat (first | exact List.Sublist.refl _  | apply List.Sublist.cons_cons  | apply List.Sublist.cons  | exact List.nil_sublist _))⟩
              · skip
                refine o_alloc st rfl ?_; clear st; intro _ _ _ st
                refine kh st (by repeat constructor) ?_
                refine d_one 23 (by decide +kernel) rfl ?_
                refine o_callSb st rfl (times_ok _ _ hd2 _ _ (Is_ofInt _ _) _) rfl ?_; clear st; intro _ hb2 _ _ st
                refine kh st (by repeat constructor) ?_
                refine d_one 26 (by decide +kernel) rfl ?_
                (first | ((first | refine o_storeW st rfl rfl (by repeat constructor) rfl rfl rfl ?_); clear st; intro _ _ st))
                refine kh st (by repeat constructor) ?_
                refine d_one 27 (by decide +kernel) rfl ?_
                (first | ((first | refine o_storeW st rfl rfl (by repeat constructor) rfl rfl rfl ?_); clear st; intro _ _ st))
                refine k_last ?_
                refine d_done (by decide +kernel) ?_
                refine ⟨rfl, ?_⟩
                have st := St.front 11 st rfl (by repeat constructor)
                have st := St.front 12 st rfl (by repeat constructor)
                exact ⟨_, _, _, _, hb1, hb2, (st.fit (by repeat (first | exact trivial  | refine And.intro rfl ?_))).subL (by repeat (first | exact List.Sublist.refl _  | apply List.Sublist.cons_cons  | apply List.Sublist.cons  | exact List.nil_sublist _))⟩
            · skip
              refine o_alloc st rfl ?_; clear st; intro _ _ _ st
              refine kh st (by repeat constructor) ?_
              refine d_one 18 (by decide +kernel) rfl ?_
              refine o_callSb st rfl (less_ok _ _ _ _ hy1 hy0 _) rfl ?_; clear st; intro _ hd2 _ _ st
              refine kh st (by repeat constructor) ?_
              refine d_one 23 (by decide +kernel) rfl ?_
              refine o_callSb st rfl (times_ok _ _ hd2 _ _ (Is_ofInt _ _) _) rfl ?_; clear st; intro _ hb2 _ _ st
              refine kh st (by repeat constructor) ?_
              refine d_one 26 (by decide +kernel) rfl ?_
              (first | ((first | refine o_storeW st rfl rfl (by repeat constructor) rfl rfl rfl ?_); clear st; intro _ _ st))
              refine kh st (by repeat constructor) ?_
              refine d_one 27 (by decide +kernel) rfl ?_
              (first | ((first | refine o_storeW st rfl rfl (by repeat constructor) rfl rfl rfl ?_); clear st; intro _ _ st))
              refine k_last ?_
              refine d_done (by decide +kernel) ?_
              refine ⟨rfl, ?_⟩
              have st := St.front 11 st rfl (by repeat constructor)
              have st := St.front 12 st rfl (by repeat constructor)
              exact ⟨_, _, _, _, hb1, hb2, (st.fit (by repeat (first | exact trivial  | refine And.intro rfl ?_))).subL (by repeat (first | exact List.Sublist.refl _  | apply List.Sublist.cons_cons  | apply List.Sublist.cons  | exact List.nil_sublist _))⟩
          · skip
            refine o_alloc st rfl ?_; clear st; intro _ _ _ st
            refine kh st (by repeat constructor) ?_
            refine d_one 11 (by decide +kernel) rfl ?_
            refine o_callSb st rfl (times_ok _ _ hd1 _ _ (Is_ofInt _ _) _) rfl ?_; clear st; intro _ hb1 _ _ st
            refine kh st (by repeat constructor) ?_
            refine d_one 18 (by decide +kernel) rfl ?_
            refine o_callSb st rfl (less_ok _ _ _ _ hy1 hy0 _) rfl ?_; clear st; intro _ hd2 _ _ st
            refine kh st (by repeat constructor) ?_
            refine d_one 23 (by decide +kernel) rfl ?_
            refine o_callSb st rfl (times_ok _ _ hd2 _ _ (Is_ofInt _ _) _) rfl ?_; clear st; intro _ hb2 _ _ st
            refine kh st (by repeat constructor) ?_
            refine d_one 26 (by decide +kernel) rfl ?_
            (first | ((first | refine o_storeW st rfl rfl (by repeat constructor) rfl rfl rfl ?_); clear st; intro _ _ st))
            refine kh st (by repeat constructor) ?_
            refine d_one 27 (by decide +kernel) rfl ?_
            (first | ((first | refine o_storeW st rfl rfl (by repeat constructor) rfl rfl rfl ?_); clear st; intro _ _ st))
            refine k_last ?_
            refine d_done (by decide +kernel) ?_
            refine ⟨rfl, ?_⟩
            have st := St.front 11 st rfl (by repeat constructor)
            have st := St.front 12 st rfl (by repeat constructor)
            exact ⟨_, _, _, _, hb1, hb2, (st.fit (by repeat (first | exact trivial  | refine And.intro rfl ?_))).subL (by repeat (first | exact List.Sublist.refl _  | apply List.Sublist.cons_cons  | apply List.Sublist.cons  | exact List.nil_sublist _))⟩
        · skip
          refine o_alloc st rfl ?_; clear st; intro _ _ _ st
          refine kh st (by repeat constructor) ?_
          refine d_two 11 24 (by decide +kernel) rfl rfl ?_ ?_
          · skip
            refine o_callSb st rfl (times_ok _ _ hd1 _ _ (Is_ofInt _ _) _) rfl ?_; clear st; intro _ hb1 _ _ st
            refine kh st (by repeat constructor) ?_
            refine d_two 18 24 (by decide +kernel) rfl rfl ?_ ?_
            · skip
              refine o_callSb st rfl (less_ok _ _ _ _ hy1 hy0 _) rfl ?_; clear st; intro _ hd2 _ _ st
              refine kh st (by repeat constructor) ?_
              refine d_two 23 24 (by decide +kernel) rfl rfl ?_ ?_
              · skip
                refine o_callSb st rfl (times_ok _ _ hd2 _ _ (Is_ofInt _ _) _) rfl ?_; clear st; intro _ hb2 _ _ st
                refine kh st (by repeat constructor) ?_
                refine d_one 24 (by decide +kernel) rfl ?_
                refine o_alloc st rfl ?_; clear st; intro _ _ _ st
                refine kh st (by repeat constructor) ?_
                refine d_one 26 (by decide +kernel) rfl ?_
                (first | ((first | refine o_storeW st rfl rfl (by repeat constructor) rfl rfl rfl ?_); clear st; intro _ _ st))
                refine kh st (by repeat constructor) ?_
                refine d_one 27 (by decide +kernel) rfl ?_
                (first | ((first | refine o_storeW st rfl rfl (by repeat constructor) rfl rfl rfl ?_); clear st; intro _ _ st))
                refine k_last ?_
                refine d_done (by decide +kernel) ?_
                refine ⟨rfl, ?_⟩
                have st := St.front 11 st rfl (by repeat constructor)
                have st := St.front 12 st rfl (by repeat constructor)
                exact ⟨_, _, _, _, hb1, hb2, (st.fit (by repeat (first | exact trivial  | refine And.intro rfl ?_))).subL (by repeat (first | exact List.Sublist.refl _  | apply List.Sublist.cons_cons  | apply List.Sublist.cons  | exact List.nil_sublist _))⟩
              · skip
                refine o_alloc st rfl ?_; clear st; intro _ _ _ st
                refine kh st (by repeat constructor) ?_
                refine d_one 23 (by decide +kernel) rfl ?_
                refine o_callSb st rfl (times_ok _ _ hd2 _ _ (Is_ofInt _ _) _) rfl ?_; clear st; intro _ hb2 _ _ st
                refine kh st (by repeat constructor) ?_
                refine d_one 26 (by decide +kernel) rfl ?_
                (first | ((first | refine o_storeW st rfl rfl (by repeat constructor) rfl rfl rfl ?_); clear st; intro _ _ st))
                refine kh st (by repeat constructor) ?_
                refine d_one 27 (by decide +kernel) rfl ?_
                (first | ((first | refine o_storeW st rfl rfl (by repeat constructor) rfl rfl rfl ?_); clear st; intro _ _ st))
                refine k_last ?_
                refine d_done (by decide +kernel) ?_
                refine ⟨rfl, ?_⟩
                have st := St.front 11 st rfl (by repeat constructor)
                have st := St.front 12 st rfl (by repeat constructor)
                exact ⟨_, _, _, _, hb1, hb2, (st.fit (by repeat (first | exact trivial  | refine And.intro rfl ?_))).subL (by repeat (first | exact List.Sublist.refl _  | apply List.Sublist.cons_cons  | apply List.Sublist.cons  | exact List.nil_sublist _))⟩
            · skip
              refine o_alloc st rfl ?_; clear st; intro _ _ _ st
              refine kh st (by repeat constructor) ?_
              refine d_one 18 (by decide +kernel) rfl ?_
              refine o_callSb st rfl (less_ok _ _ _ _ hy1 hy0 _) rfl ?_; clear st; intro _ hd2 _ _ st
              refine kh st (by repeat constructor) ?_
              refine d_one 23 (by decide +kernel) rfl ?_
              refine o_callSb st rfl (times_ok _ _ hd2 _ _ (Is_ofInt _ _) _) rfl ?_; clear st; intro _ hb2 _ _ st
              refine kh st (by repeat constructor) ?_
              refine d_one 26 (by decide +kernel) rfl ?_
              (first | ((first | refine o_storeW st rfl rfl (by repeat constructor) rfl rfl rfl ?_); clear st; intro _ _ st))
              refine kh st (by repeat constructor) ?_
              refine d_one 27 (by decide +kernel) rfl ?_
              (first | ((first | refine o_storeW st rfl rfl (by repeat constructor) rfl rfl rfl ?_); clear st; intro _ _ st))
              refine k_last ?_
              refine d_done (by decide +kernel) ?_
              refine ⟨rfl, ?_⟩
              have st := St.front 11 st rfl (by repeat constructor)
              have st := St.front 12 st rfl (by repeat constructor)
              exact ⟨_, _, _, _, hb1, hb2, (st.fit (by repeat (first | exact trivial  | refine And.intro rfl ?_))).subL (by repeat (first | exact List.Sublist.refl _  | apply List.Sublist.cons_cons  | apply List.Sublist.cons  | exact List.nil_sublist _))⟩
          · skip
            refine o_alloc st rfl ?_; clear st; intro _ _ _ st
            refine kh st (by repeat constructor) ?_
            refine d_one 11 (by decide +kernel) rfl ?_
            refine o_callSb st rfl (times_ok _ _ hd1 _ _ (Is_ofInt _ _) _) rfl ?_; clear st; intro _ hb1 _ _ st
            refine kh st (by repeat constructor) ?_
            refine d_one 18 (by decide +kernel) rfl ?_
            refine o_callSb st rfl (less_ok _ _ _ _ hy1 hy0 _) rfl ?_; clear st; intro _ hd2 _ _ st
            refine kh st (by repeat constructor) ?_
            refine d_one 23 (by decide +kernel) rfl ?_
            refine o_callSb st rfl (times_ok _ _ hd2 _ _ (Is_ofInt _ _) _) rfl ?_; clear st; intro _ hb2 _ _ st
            refine kh st (by repeat constructor) ?_
            refine d_one 26 (by decide +kernel) rfl ?_
            (first | ((first | refine o_storeW st rfl rfl (by repeat constructor) rfl rfl rfl ?_); clear st; intro _ _ st))
            refine kh st (by repeat constructor) ?_
            refine d_one 27 (by decide +kernel) rfl ?_
            (first | ((first | refine o_storeW st rfl rfl (by repeat constructor) rfl rfl rfl ?_); clear st; intro _ _ st))
            refine k_last ?_
            refine d_done (by decide +kernel) ?_
            refine ⟨rfl, ?_⟩
            have st := St.front 11 st rfl (by repeat constructor)
            have st := St.front 12 st rfl (by repeat constructor)
            exact ⟨_, _, _, _, hb1, hb2, (st.fit (by repeat (first | exact trivial  | refine And.intro rfl ?_))).subL (by repeat (first | exact List.Sublist.refl _  | apply List.Sublist.cons_cons  | apply List.Sublist.cons  | exact List.nil_sublist _))⟩
      · skip
        refine o_alloc st rfl ?_; clear st; intro _ _ _ st
        refine kh st (by repeat constructor) ?_
        refine d_two 6 25 (by decide +kernel) rfl rfl ?_ ?_
        · skip
          refine o_callSb st rfl (less_ok _ _ _ _ hx1 hx0 _) rfl ?_; clear st; intro _ hd1 _ _ st
          refine kh st (by repeat constructor) ?_
          refine d_two 11 25 (by decide +kernel) rfl rfl ?_ ?_
          · skip
            refine o_callSb st rfl (times_ok _ _ hd1 _ _ (Is_ofInt _ _) _) rfl ?_; clear st; intro _ hb1 _ _ st
            refine kh st (by repeat constructor) ?_
            refine d_two 18 25 (by decide +kernel) rfl rfl ?_ ?_
            · skip
              refine o_callSb st rfl (less_ok _ _ _ _ hy1 hy0 _) rfl ?_; clear st; intro _ hd2 _ _ st
              refine kh st (by repeat constructor) ?_
              refine d_two 23 25 (by decide +kernel) rfl rfl ?_ ?_
              · skip
                refine o_callSb st rfl (times_ok _ _ hd2 _ _ (Is_ofInt _ _) _) rfl ?_; clear st; intro _ hb2 _ _ st
                refine kh st (by repeat constructor) ?_
                refine d_one 25 (by decide +kernel) rfl ?_
                refine o_alloc st rfl ?_; clear st; intro _ _ _ st
                refine kh st (by repeat constructor) ?_
                refine d_one 26 (by decide +kernel) rfl ?_
                (first | ((first | refine o_storeW st rfl rfl (by repeat constructor) rfl rfl rfl ?_); clear st; intro _ _ st))
                refine kh st (by repeat constructor) ?_
                refine d_one 27 (by decide +kernel) rfl ?_
                (first | ((first | refine o_storeW st rfl rfl (by repeat constructor) rfl rfl rfl ?_); clear st; intro _ _ st))
                refine k_last ?_
                refine d_done (by decide +kernel) ?_
                refine ⟨rfl, ?_⟩
                have st := St.front 11 st rfl (by repeat constructor)
                have st := St.front 12 st rfl (by repeat constructor)
                exact ⟨_, _, _, _, hb1, hb2, (st.fit (by repeat (first | exact trivial  | refine And.intro rfl ?_))).subL (by repeat (first | exact List.Sublist.refl _  | apply List.Sublist.cons_cons  | apply List.Sublist.cons  | exact List.nil_sublist _))⟩
              · skip
                refine o_alloc st rfl ?_; clear st; intro _ _ _ st
                refine kh st (by repeat constructor) ?_
                refine d_one 23 (by decide +kernel) rfl ?_
                refine o_callSb st rfl (times_ok _ _ hd2 _ _ (Is_ofInt _ _) _) rfl ?_; clear st; intro _ hb2 _ _ st
                refine kh st (by repeat constructor) ?_
                refine d_one 26 (by decide +kernel) rfl ?_
                (first | ((first | refine o_storeW st rfl rfl (by repeat constructor) rfl rfl rfl ?_); clear st; intro _ _ st))
                refine kh st (by repeat constructor) ?_
                refine d_one 27 (by decide +kernel) rfl ?_
                (first | ((first | refine o_storeW st rfl rfl (by repeat constructor) rfl rfl rfl ?_); clear st; intro _ _ st))
                refine k_last ?_
                refine d_done (by decide +kernel) ?_
                refine ⟨rfl, ?_⟩
                have st := St.front 11 st rfl (by repeat constructor)
                have st := St.front 12 st rfl (by repeat constructor)
                exact ⟨_, _, _, _, hb1, hb2, (st.fit (by repeat (first | exact trivial  | refine And.intro rfl ?_))).subL (by repeat (first | exact List.Sublist.refl _  | apply List.Sublist.cons_cons  | apply List.Sublist.cons  | exact List.nil_sublist _))⟩
            · skip
              refine o_alloc st rfl ?_; clear st; intro _ _ _ st
              refine kh st (by repeat constructor) ?_
              refine d_one 18 (by decide +kernel) rfl ?_
              refine o_callSb st rfl (less_ok _ _ _ _ hy1 hy0 _) rfl ?_; clear st; intro _ hd2 _ _ st
              refine kh st (by repeat constructor) ?_
              refine d_one 23 (by decide +kernel) rfl ?_
              refine o_callSb st rfl (times_ok _ _ hd2 _ _ (Is_ofInt _ _) _) rfl ?_; clear st; intro _ hb2 _ _ st
              refine kh st (by repeat constructor) ?_
              refine d_one 26 (by decide +kernel) rfl ?_
              (first | ((first | refine o_storeW st rfl rfl (by repeat constructor) rfl rfl rfl ?_); clear st; intro _ _ st))
              refine kh st (by repeat constructor) ?_
              refine d_one 27 (by decide +kernel) rfl ?_
              (first | ((first | refine o_storeW st rfl rfl (by repeat constructor) rfl rfl rfl ?_); clear st; intro _ _ st))
              refine k_last ?_
              refine d_done (by decide +kernel) ?_
              refine ⟨rfl, ?_⟩
              have st := St.front 11 st rfl (by repeat constructor)
              have st := St.front 12 st rfl (by repeat constructor)
              exact ⟨_, _, _, _, hb1, hb2, (st.fit (by repeat (first | exact trivial  | refine And.intro rfl ?_))).subL (by repeat (first | exact List.Sublist.refl _  | apply List.Sublist.cons_cons  | apply List.Sublist.cons  | exact List.nil_sublist _))⟩
          · skip
            refine o_alloc st rfl ?_; clear st; intro _ _ _ st
            refine kh st (by repeat constructor) ?_
            refine d_one 11 (by decide +kernel) rfl ?_
            refine o_callSb st rfl (times_ok _ _ hd1 _ _ (Is_ofInt _ _) _) rfl ?_; clear st; intro _ hb1 _ _ st
            refine kh st (by repeat constructor) ?_
            refine d_one 18 (by decide +kernel) rfl ?_
            refine o_callSb st rfl (less_ok _ _ _ _ hy1 hy0 _) rfl ?_; clear st; intro _ hd2 _ _ st
            refine kh st (by repeat constructor) ?_
            refine d_one 23 (by decide +kernel) rfl ?_
            refine o_callSb st rfl (times_ok _ _ hd2 _ _ (Is_ofInt _ _) _) rfl ?_; clear st; intro _ hb2 _ _ st
            refine kh st (by repeat constructor) ?_
            refine d_one 26 (by decide +kernel) rfl ?_
            (first | ((first | refine o_storeW st rfl rfl (by repeat constructor) rfl rfl rfl ?_); clear st; intro _ _ st))
            refine kh st (by repeat constructor) ?_
            refine d_one 27 (by decide +kernel) rfl ?_
            (first | ((first | refine o_storeW st rfl rfl (by repeat constructor) rfl rfl rfl ?_); clear st; intro _ _ st))
            refine k_last ?_
            refine d_done (by decide +kernel) ?_
            refine ⟨rfl, ?_⟩
            have st := St.front 11 st rfl (by repeat constructor)
            have st := St.front 12 st rfl (by repeat constructor)
            exact ⟨_, _, _, _, hb1, hb2, (st.fit (by repeat (first | exact trivial  | refine And.intro rfl ?_))).subL (by repeat (first | exact List.Sublist.refl _  | apply List.Sublist.cons_cons  | apply List.Sublist.cons  | exact List.nil_sublist _))⟩
        · skip
          refine o_alloc st rfl ?_; clear st; intro _ _ _ st
          refine kh st (by repeat constructor) ?_
          refine d_one 6 (by decide +kernel) rfl ?_
          refine o_callSb st rfl (less_ok _ _ _ _ hx1 hx0 _) rfl ?_; clear st; intro _ hd1 _ _ st
          refine kh st (by repeat constructor) ?_
          refine d_one 11 (by decide +kernel) rfl ?_
          refine o_callSb st rfl (times_ok _ _ hd1 _ _ (Is_ofInt _ _) _) rfl ?_; clear st; intro _ hb1 _ _ st
          refine kh st (by repeat constructor) ?_
          refine d_one 18 (by decide +kernel) rfl ?_
          refine o_callSb st rfl (less_ok _ _ _ _ hy1 hy0 _) rfl ?_; clear st; intro _ hd2 _ _ st
          refine kh st (by repeat constructor) ?_
          refine d_one 23 (by decide +kernel) rfl ?_
          refine o_callSb st rfl (times_ok _ _ hd2 _ _ (Is_ofInt _ _) _) rfl ?_; clear st; intro _ hb2 _ _ st
          refine kh st (by repeat constructor) ?_
          refine d_one 26 (by decide +kernel) rfl ?_
          (first | ((first | refine o_storeW st rfl rfl (by repeat constructor) rfl rfl rfl ?_); clear st; intro _ _ st))
          refine kh st (by repeat constructor) ?_
          refine d_one 27 (by decide +kernel) rfl ?_
          (first | ((first | refine o_storeW st rfl rfl (by repeat constructor) rfl rfl rfl ?_); clear st; intro _ _ st))
          refine k_last ?_
          refine d_done (by decide +kernel) ?_
          refine ⟨rfl, ?_⟩
          have st := St.front 11 st rfl (by repeat constructor)
          have st := St.front 12 st rfl (by repeat constructor)
          exact ⟨_, _, _, _, hb1, hb2, (st.fit (by repeat (first | exact trivial  | refine And.intro rfl ?_))).subL (by repeat (first | exact List.Sublist.refl _  | apply List.Sublist.cons_cons  | apply List.Sublist.cons  | exact List.nil_sublist _))⟩
      · skip
        refine o_alloc st rfl ?_; clear st; intro _ _ _ st
        refine kh st (by repeat constructor) ?_
        refine d_two 6 24 (by decide +kernel) rfl rfl ?_ ?_
        · skip
          refine o_callSb st rfl (less_ok _ _ _ _ hx1 hx0 _) rfl ?_; clear st; intro _ hd1 _ _ st
          refine kh st (by repeat constructor) ?_
          refine d_two 11 24 (by decide +kernel) rfl rfl ?_ ?_
          · skip
            refine o_callSb st rfl (times_ok _ _ hd1 _ _ (Is_ofInt _ _) _) rfl ?_; clear st; intro _ hb1 _ _ st
            refine kh st (by repeat constructor) ?_
            refine d_two 18 24 (by decide +kernel) rfl rfl ?_ ?_
            · skip
              refine o_callSb st rfl (less_ok _ _ _ _ hy1 hy0 _) rfl ?_; clear st; intro _ hd2 _ _ st
              refine kh st (by repeat constructor) ?_
              refine d_two 23 24 (by decide +kernel) rfl rfl ?_ ?_
              · skip
                refine o_callSb st rfl (times_ok _ _ hd2 _ _ (Is_ofInt _ _) _) rfl ?_; clear st; intro _ hb2 _ _ st
                refine kh st (by repeat constructor) ?_
                refine d_one 24 (by decide +kernel) rfl ?_
                refine o_alloc st rfl ?_; clear st; intro _ _ _ st
                refine kh st (by repeat constructor) ?_
                refine d_one 26 (by decide +kernel) rfl ?_
                (first | ((first | refine o_storeW st rfl rfl (by repeat constructor) rfl rfl rfl ?_); clear st; intro _ _ st))
                refine kh st (by repeat constructor) ?_
                refine d_one 27 (by decide +kernel) rfl ?_
                (first | ((first | refine o_storeW st rfl rfl (by repeat constructor) rfl rfl rfl ?_); clear st; intro _ _ st))
                refine k_last ?_
                refine d_done (by decide +kernel) ?_
                refine ⟨rfl, ?_⟩
                have st := St.front 11 st rfl (by repeat constructor)
                have st := St.front 12 st rfl (by repeat constructor)
                exact ⟨_, _, _, _, hb1, hb2, (st.fit (by repeat (first | exact trivial  | refine And.intro rfl ?_))).subL (by repeat (first | exact List.Sublist.refl _  | apply List.Sublist.cons_cons  | apply List.Sublist.cons  | exact List.nil_sublist _))⟩
              · skip
                refine o_alloc st rfl ?_; clear st; intro _ _ _ st
                refine kh st (by repeat constructor) ?_
                refine d_one 23 (by decide +kernel) rfl ?_
                refine o_callSb st rfl (times_ok _ _ hd2 _ _ (Is_ofInt _ _) _) rfl ?_; clear st; intro _ hb2 _ _ st
                refine kh st (by repeat constructor) ?_
                refine d_one 26 (by decide +kernel) rfl ?_
                (first | ((first | refine o_storeW st rfl rfl (by repeat constructor) rfl rfl rfl ?_); clear st; intro _ _ st))
                refine kh st (by repeat constructor) ?_
                refine d_one 27 (by decide +kernel) rfl ?_
                (first | ((first | refine o_storeW st rfl rfl (by repeat constructor) rfl rfl rfl ?_); clear st; intro _ _ st))
                refine k_last ?_
                refine d_done (by decide +kernel) ?_
                refine ⟨rfl, ?_⟩
                have st := St.front 11 st rfl (by repeat constructor)
                have st := St.front 12 st rfl (by repeat constructor)
                exact ⟨_, _, _, _, hb1, hb2, (st.fit (by repeat (first | exact trivial  | refine And.intro rfl ?_))).subL (by repeat (first | exact List.Sublist.refl _  | apply List.Sublist.cons_cons  | apply List.Sublist.cons  | exact List.nil_sublist _))⟩
            · skip
              refine o_alloc st rfl ?_; clear st; intro _ _ _ st
              refine kh st (by repeat constructor) ?_
              refine d_one 18 (by decide +kernel) rfl ?_
              refine o_callSb st rfl (less_ok _ _ _ _ hy1 hy0 _) rfl ?_; clear st; intro _ hd2 _ _ st
              refine kh st (by repeat constructor) ?_
              refine d_one 23 (by decide +kernel) rfl ?_
              refine o_callSb st rfl (times_ok _ _ hd2 _ _ (Is_ofInt _ _) _) rfl ?_; clear st; intro _ hb2 _ _ st
              refine kh st (by repeat constructor) ?_
              refine d_one 26 (by decide +kernel) rfl ?_
              (first | ((first | refine o_storeW st rfl rfl (by repeat constructor) rfl rfl rfl ?_); clear st; intro _ _ st))
              refine kh st (by repeat constructor) ?_
              refine d_one 27 (by decide +kernel) rfl ?_
              (first | ((first | refine o_storeW st rfl rfl (by repeat constructor) rfl rfl rfl ?_); clear st; intro _ _ st))
              refine k_last ?_
              refine d_done (by decide +kernel) ?_
              refine ⟨rfl, ?_⟩
              have st := St.front 11 st rfl (by repeat constructor)
              have st := St.front 12 st rfl (by repeat constructor)
              exact ⟨_, _, _, _, hb1, hb2, (st.fit (by repeat (first | exact trivial  | refine And.intro rfl ?_))).subL (by repeat (first | exact List.Sublist.refl _  | apply List.Sublist.cons_cons  | apply List.Sublist.cons  | exact List.nil_sublist _))⟩
          · skip
            refine o_alloc st rfl ?_; clear st; intro _ _ _ st
            refine kh st (by repeat constructor) ?_
            refine d_one 11 (by decide +kernel) rfl ?_
            refine o_callSb st rfl (times_ok _ _ hd1 _ _ (Is_ofInt _ _) _) rfl ?_; clear st; intro _ hb1 _ _ st
            refine kh st (by repeat constructor) ?_
            refine d_one 18 (by decide +kernel) rfl ?_
            refine o_callSb st rfl (less_ok _ _ _ _ hy1 hy0 _) rfl ?_; clear st; intro _ hd2 _ _ st
            refine kh st (by repeat constructor) ?_
            refine d_one 23 (by decide +kernel) rfl ?_
            refine o_callSb st rfl (times_ok _ _ hd2 _ _ (Is_ofInt _ _) _) rfl ?_; clear st; intro _ hb2 _ _ st
            refine kh st (by repeat constructor) ?_
            refine d_one 26 (by decide +kernel) rfl ?_
            (first | ((first | refine o_storeW st rfl rfl (by repeat constructor) rfl rfl rfl ?_); clear st; intro _ _ st))
            refine kh st (by repeat constructor) ?_
            refine d_one 27 (by decide +kernel) rfl ?_
            (first | ((first | refine o_storeW st rfl rfl (by repeat constructor) rfl rfl rfl ?_); clear st; intro _ _ st))
            refine k_last ?_
            refine d_done (by decide +kernel) ?_
            refine ⟨rfl, ?_⟩
            have st := St.front 11 st rfl (by repeat constructor)
            have st := St.front 12 st rfl (by repeat constructor)
            exact ⟨_, _, _, _, hb1, hb2, (st.fit (by repeat (first | exact trivial  | refine And.intro rfl ?_))).subL (by repeat (first | exact List.Sublist.refl _  | apply List.Sublist.cons_cons  | apply List.Sublist.cons  | exact List.nil_sublist _))⟩
        · skip
          refine o_alloc st rfl ?_; clear st; intro _ _ _ st
          refine kh st (by repeat constructor) ?_
          refine d_one 6 (by decide +kernel) rfl ?_
          refine o_callSb st rfl (less_ok _ _ _ _ hx1 hx0 _) rfl ?_; clear st; intro _ hd1 _ _ st
          refine kh st (by repeat constructor) ?_
          refine d_one 11 (by decide +kernel) rfl ?_
          refine o_callSb st rfl (times_ok _ _ hd1 _ _ (Is_ofInt _ _) _) rfl ?_; clear st; intro _ hb1 _ _ st
          refine kh st (by repeat constructor) ?_
          refine d_one 18 (by decide +kernel) rfl ?_
          refine o_callSb st rfl (less_ok _ _ _ _ hy1 hy0 _) rfl ?_; clear st; intro _ hd2 _ _ st
          refine kh st (by repeat constructor) ?_
          refine d_one 23 (by decide +kernel) rfl ?_
          refine o_callSb st rfl (times_ok _ _ hd2 _ _ (Is_ofInt _ _) _) rfl ?_; clear st; intro _ hb2 _ _ st
          refine kh st (by repeat constructor) ?_
          refine d_one 26 (by decide +kernel) rfl ?_
          (first | ((first | refine o_storeW st rfl rfl (by repeat constructor) rfl rfl rfl ?_); clear st; intro _ _ st))
          refine kh st (by repeat constructor) ?_
          refine d_one 27 (by decide +kernel) rfl ?_
          (first | ((first | refine o_storeW st rfl rfl (by repeat constructor) rfl rfl rfl ?_); clear st; intro _ _ st))
          refine k_last ?_
          refine d_done (by decide +kernel) ?_
          refine ⟨rfl, ?_⟩
          have st := St.front 11 st rfl (by repeat constructor)
          have st := St.front 12 st rfl (by repeat constructor)
          exact ⟨_, _, _, _, hb1, hb2, (st.fit (by repeat (first | exact trivial  | refine And.intro rfl ?_))).subL (by repeat (first | exact List.Sublist.refl _  | apply List.Sublist.cons_cons  | apply List.Sublist.cons  | exact List.nil_sublist _))⟩
    clear st
    rintro _ _ ⟨b1, b2, p11, p12, hb1, hb2, st⟩
    clear lx0 lx1 ly0 ly1 hx0 hx1 hy0 hy1
    generalize slope1 ss M K u v = s1 at hb1 ⊢
    generalize slope2 ss M K u v = s2 at hb2 ⊢
    have f2 := fun (w : World) base hr => areSpots_ok [b1, b2] [s1, s2] (IsSL2 hb1 hb2) base 2 w hr (by simp)
    have hff : finL [s1, s2] = (finS s1 && finS s2) := by simp [finL]
    rw [hff] at f2
    generalize (finS s1 && finS s2) = q at f2 ⊢
    cases q
    · (repeat' (first | (refine o_buildSliceS [b1, b2] st rfl rfl rfl rfl rfl ?_; clear st; intro _ _ _ st)  | (refine o_callV st rfl (f2 _ _ (RdS.of (st.heap (by repeat constructor)) (spotsIn0 _))) rfl ?_; clear st; intro _ _ st)  | refine c_seq ?_  | refine c_region ?_  | refine l_do ?_  | refine l_nil ?_  | refine x_then ?_  | refine x_thenR ?_  | refine wp_ret ?_  | refine wp_skip ?_  | refine c_condT st rfl ?_  | refine c_condF st rfl ?_  | ((first | refine o_move st rfl rfl ?_  | refine o_assign st rfl rfl ?_); clear st; intro _ st)  | ((first | refine o_alloc st rfl ?_  | refine o_boxA st rfl rfl ?_ ); clear st; intro _ _ _ st)  | ((first | refine o_load3 st rfl (by repeat constructor) rfl ?_ ); clear st; intro _ st)  | ((first | refine o_storeW st rfl rfl (by repeat constructor) rfl rfl rfl ?_); clear st; intro _ _ st)  | ((first | refine o_build0 st rfl ?_  | refine o_notT st rfl rfl ?_  | refine o_notF st rfl rfl ?_ ); clear st; intro _ st)))
      refine post3 st Try.results87 (rd_c st rfl (by repeat constructor) rfl) (rd_c st rfl (by repeat constructor) rfl) (rd_t st rfl) ?_
      exact ⟨_, rfl, ⟨(0, 0, 0), (0, 0, 0), rfl, IsS_z, IsS_z⟩, st.ex0⟩
    · (repeat' (first | (refine o_buildSliceS [b1, b2] st rfl rfl rfl rfl rfl ?_; clear st; intro _ _ _ st)  | (refine o_callV st rfl (f2 _ _ (RdS.of (st.heap (by repeat constructor)) (spotsIn0 _))) rfl ?_; clear st; intro _ _ st)  | refine c_seq ?_  | refine c_region ?_  | refine l_do ?_  | refine l_nil ?_  | refine x_then ?_  | refine x_thenR ?_  | refine wp_ret ?_  | refine wp_skip ?_  | refine c_condT st rfl ?_  | refine c_condF st rfl ?_  | ((first | refine o_move st rfl rfl ?_  | refine o_assign st rfl rfl ?_); clear st; intro _ st)  | ((first | refine o_alloc st rfl ?_  | refine o_boxA st rfl rfl ?_ ); clear st; intro _ _ _ st)  | ((first | refine o_load3 st rfl (by repeat constructor) rfl ?_ ); clear st; intro _ st)  | ((first | refine o_storeW st rfl rfl (by repeat constructor) rfl rfl rfl ?_); clear st; intro _ _ st)  | ((first | refine o_build0 st rfl ?_  | refine o_notT st rfl rfl ?_  | refine o_notF st rfl rfl ?_ ); clear st; intro _ st)))
      refine c_draw (Lh := [⟨p12, true, oB b2 26⟩, ⟨p11, true, oB b1 26⟩]) (last := 4) hm_ (by decide +kernel) (by decide +kernel) st ?_; clear st; intro _ st
      refine d_v 0 st (by repeat constructor) rfl (by decide +kernel) rfl (by first | exact v_load3 st rfl (by repeat constructor) | exact v_loadS st rfl (by repeat constructor) rfl) ?_; clear st; intro _ st
      refine d_v 1 st (by repeat constructor) rfl (by decide +kernel) rfl (by first | exact v_load3 st rfl (by repeat constructor) | exact v_loadS st rfl (by repeat constructor) rfl) ?_; clear st; intro _ st
      refine d_one 2 (by decide +kernel) rfl ?_
      (first | ((first | refine o_storeW st rfl rfl (by repeat constructor) rfl rfl rfl ?_); clear st; intro _ _ st))
      refine kh st (by repeat constructor) ?_
      refine d_one 3 (by decide +kernel) rfl ?_
      (first | ((first | refine o_storeW st rfl rfl (by repeat constructor) rfl rfl rfl ?_); clear st; intro _ _ st))
      refine kh st (by repeat constructor) ?_
      refine d_one 4 (by decide +kernel) rfl ?_
      (first | (refine o_assign st rfl rfl ?_; clear st; intro _ st))
      refine k_last ?_
      refine d_done (by decide +kernel) ?_
      (repeat' (first | refine c_seq ?_  | refine c_region ?_  | refine l_do ?_  | refine l_nil ?_  | refine x_then ?_  | refine x_thenR ?_  | refine wp_ret ?_  | refine wp_skip ?_  | refine c_condT st rfl ?_  | refine c_condF st rfl ?_  | ((first | refine o_move st rfl rfl ?_  | refine o_assign st rfl rfl ?_); clear st; intro _ st)  | ((first | refine o_alloc st rfl ?_  | refine o_boxA st rfl rfl ?_ ); clear st; intro _ _ _ st)  | ((first | refine o_load3 st rfl (by repeat constructor) rfl ?_ ); clear st; intro _ st)  | ((first | refine o_storeW st rfl rfl (by repeat constructor) rfl rfl rfl ?_); clear st; intro _ _ st)  | ((first | refine o_build0 st rfl ?_  | refine o_notT st rfl rfl ?_  | refine o_notF st rfl rfl ?_ ); clear st; intro _ st)))
      refine post3 st Try.results87 (rd_c st rfl (by repeat constructor) rfl) (rd_c st rfl (by repeat constructor) rfl) (rd_t st rfl) ?_
      exact ⟨_, rfl, ⟨b1, b2, rfl, hb1, hb2⟩, st.ex0⟩
end Go.Proofs.Ytefnlalldgbcaaa
