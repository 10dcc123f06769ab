/-
  FnLoops: products, absolute values, angles (turned from FnCircles' texts).
-/
import Derived.Test.YtonbcbhnnflohaaTypes
import Derived.Test.YtonbcbhnnflohaaYm
namespace Go.Proofs.Ytonbcbhnnflohaa
open Go.RowKit
attribute [local irreducible] Code.wp wpList Oper.wp Calls bodyPost Exit.then Exit.inBlock

theorem o_fneg {P : Program} {w0 w : World} {N : Nat} {a : Act} {E : List (Nat × Value)} {L : List Ent} {K : Act → World → Prop} {Q : Exit → Act → World → Prop} {d : Nat} {ty : TypeId} {pos : String} {aft : Array Edge} {g : Option (Nat × Bool)}
    {x : Operand} {t : TypeId} {k : FloatKind} {i : Nat} (st : St w0 N a w E L) (hx : evE E x = some (.float k i)) (hd : Nat.blt d N = true)
    (h : ∀ a', St w0 N a' w ((d, .float k (Op.negFloat k i)) :: E) L → K a' w) : Oper.wp P ⟨some d, .unOp .neg t x, ty, pos, aft, g⟩ a w K Q :=
  o_val (v := .float k (Op.negFloat k i)) (w' := w) (by simp [execOp, evE_eval st hx, Op.unary]) (h _ (st.put d hd _))
theorem ext_bits (x : Nat) (w : World) : (callFunc 128 [.float .f64 x].toArray).run Try.prog w = .ok (.value (.int .u64 (x : Int))) w := by
  rw [run_callFunc_extern (fn := Try.f128) (e := Extern.MathFloatBits.float64bits) Try.func128 (by kernel_rfl) (by kernel_rfl) (by kernel_rfl) (by kernel_rfl)]
  rfl
theorem ext_from (n : Int) (w : World) : (callFunc 137 [.int .u64 n].toArray).run Try.prog w = .ok (.value (.float .f64 n.toNat)) w := by
  rw [run_callFunc_extern (fn := Try.f137) (e := Extern.MathFloatBits.float64frombits) Try.func137 (by kernel_rfl) (by kernel_rfl) (by kernel_rfl) (by kernel_rfl)]
  rfl
def andN (x y : Int) : Int := IntKind.u64.wrap ((BitVec.ofInt IntKind.u64.bits x &&& ~~~ BitVec.ofInt IntKind.u64.bits y).toNat : Int)
theorem o_andNot {P : Program} {w0 w : World} {N : Nat} {a : Act} {E : List (Nat × Value)} {L : List Ent} {K : Act → World → Prop} {Q : Exit → Act → World → Prop} {d : Nat} {ty : TypeId} {pos : String} {aft : Array Edge} {g : Option (Nat × Bool)}
    {x y : Operand} {t ys : TypeId} {i j : Int} (st : St w0 N a w E L) (hx : evE E x = some (.int .u64 i)) (hy : evE E y = some (.int .u64 j)) (hd : Nat.blt d N = true)
    (h : ∀ a', St w0 N a' w ((d, .int .u64 (andN i j)) :: E) L → K a' w) : Oper.wp P ⟨some d, .binOp .andNot t x y ys, ty, pos, aft, g⟩ a w K Q := by
  have e : (Op.intBits .andNot .u64 i j : Sem Value) = pure (.int .u64 (andN i j)) := rfl
  exact o_val (v := .int .u64 (andN i j)) (w' := w) (by simp [execOp, evE_eval st hx, evE_eval st hy, binOp_andNot, e, eqGuard]) (h _ (st.put d hd _))
def absW (x : Nat) : Nat := (andN x 9223372036854775808).toNat
theorem Abs_ok (x : Nat) (w : World) : CV Try.prog 131 [.float .f64 x] w (.float .f64 (absW x)) := by
  refine enter Try.func131 rfl rfl rfl rfl ?_
  intro y st
  (repeat' (first | (refine o_ext (f := 128) st rfl (ext_bits x _) rfl ?_; clear st; intro _ st)  | (refine o_ext (f := 137) st rfl (ext_from _ _) rfl ?_; clear st; intro _ st)  | (refine o_andNot st rfl rfl rfl ?_; clear st; intro _ st)  | refine c_seq ?_  | refine c_region ?_  | refine l_do ?_  | refine l_nil ?_  | refine x_then ?_  | refine wp_ret ?_  | ((first | refine o_move st rfl rfl ?_  | refine o_assign st rfl rfl ?_); clear st; intro _ st)))
  refine post1 st Try.results131 (rd_t st rfl) ?_
  exact ⟨rfl, st.ex0⟩
theorem parts_ok (i j a b : Nat) (ha : wid i = some a) (hb : wid j = some b) (w : World) : CV Try.prog 111 [.complex .f32 i j] w (.tuple #[.float .f64 a, .float .f64 b]) := by
  have ha : floatToFloatBits .f32 i .f64 = some a := ha
  have hb : floatToFloatBits .f32 j .f64 = some b := hb
  refine enter Try.func111 rfl rfl rfl rfl ?_
  intro x st
  (repeat' (first | (refine o_real st rfl rfl ?_; clear st; intro _ st)  | (refine o_imag st rfl rfl ?_; clear st; intro _ st)  | (refine o_fcvW st rfl ha rfl ?_; clear st; intro _ st)  | (refine o_fcvW st rfl hb rfl ?_; clear st; intro _ st)  | refine c_seq ?_  | refine c_region ?_  | refine l_do ?_  | refine l_nil ?_  | refine x_then ?_  | refine wp_ret ?_  | ((first | refine o_move st rfl rfl ?_  | refine o_assign st rfl rfl ?_ ); clear st; intro _ st)))
  refine post2 st Try.results111 (rd_t st rfl) (rd_t st rfl) ?_
  exact ⟨rfl, st.ex0⟩
theorem times_ok (a b c d p q u r s v : Nat) (hp : fop .mul .f64 (some a) (some c) = some p) (hq : fop .mul .f64 (some b) (some d) = some q) (hu : fop .sub .f64 (some p) (some q) = some u) (hr : fop .mul .f64 (some a) (some d) = some r) (hs : fop .mul .f64 (some b) (some c) = some s) (hv : fop .add .f64 (some r) (some s) = some v) (w : World) :
    CV Try.prog 112 [.float .f64 a, .float .f64 b, .float .f64 c, .float .f64 d] w (.tuple #[.float .f64 u, .float .f64 v]) := by
  refine enter Try.func112 rfl rfl rfl rfl ?_
  intro x st
  (repeat' (first | (refine o_fopK st rfl rfl hp rfl ?_; clear st; intro _ st)  | (refine o_fopK st rfl rfl hq rfl ?_; clear st; intro _ st)  | (refine o_fopK st rfl rfl hu rfl ?_; clear st; intro _ st)  | (refine o_fopK st rfl rfl hr rfl ?_; clear st; intro _ st)  | (refine o_fopK st rfl rfl hs rfl ?_; clear st; intro _ st)  | (refine o_fopK st rfl rfl hv rfl ?_; clear st; intro _ st)  | refine c_seq ?_  | refine c_region ?_  | refine l_do ?_  | refine l_nil ?_  | refine x_then ?_  | refine wp_ret ?_  | ((first | refine o_move st rfl rfl ?_  | refine o_assign st rfl rfl ?_); clear st; intro _ st) ))
  refine post2 st Try.results112 (rd_t st rfl) (rd_t st rfl) ?_
  exact ⟨rfl, st.ex0⟩
theorem MulComplex_ok (x y r : Nat × Nat) (h : mulC x y = some r) (w : World) : CV Try.prog 63 [.complex .f32 x.1 x.2, .complex .f32 y.1 y.2] w (.complex .f32 r.1 r.2) := by
  unfold mulC at h
  obtain ⟨a, ha, h⟩ := bw_some h
  obtain ⟨b, hb, h⟩ := bw_some h
  obtain ⟨c, hc, h⟩ := bw_some h
  obtain ⟨d, hd, h⟩ := bw_some h
  obtain ⟨p, hp, h⟩ := bw_some h
  obtain ⟨q, hq, h⟩ := bw_some h
  obtain ⟨u, hu, h⟩ := bw_some h
  obtain ⟨r1, hr, h⟩ := bw_some h
  obtain ⟨s, hs, h⟩ := bw_some h
  obtain ⟨v, hv, h⟩ := bw_some h
  obtain ⟨u', hu', h⟩ := bw_some h
  obtain ⟨v', hv', h⟩ := bw_some h
  have hu' : floatToFloatBits .f64 u .f32 = some u' := hu'
  have hv' : floatToFloatBits .f64 v .f32 = some v' := hv'
  have h : (u', v') = r := Option.some.inj h
  subst h
  have c1 := fun w => parts_ok x.1 x.2 a b ha hb w
  have c2 := fun w => parts_ok y.1 y.2 c d hc hd w
  have c3 := fun w => times_ok a b c d p q u r1 s v (mulF_some hp) (mulF_some hq) (subF_some hu) (mulF_some hr) (mulF_some hs) (addF_some hv) w
  refine enter Try.func63 rfl rfl rfl rfl ?_
  intro z st
  (repeat' (first | (refine o_callV st rfl (c1 _) rfl ?_; clear st; intro _ _ st)  | (refine o_callV st rfl (c2 _) rfl ?_; clear st; intro _ _ st)  | (refine o_callV st rfl (c3 _) rfl ?_; clear st; intro _ _ st)  | (refine o_fcvW st rfl hu' rfl ?_; clear st; intro _ st)  | (refine o_fcvW st rfl hv' rfl ?_; clear st; intro _ st)  | (refine o_complex st rfl rfl rfl ?_; clear st; intro _ st)  | refine c_seq ?_  | refine c_region ?_  | refine l_do ?_  | refine l_nil ?_  | refine x_then ?_  | refine wp_ret ?_  | ((first | refine o_move st rfl rfl ?_  | refine o_assign st rfl rfl ?_  | refine o_extract st rfl rfl rfl ?_ ); clear st; intro _ st)))
  refine post1 st Try.results63 (rd_t st rfl) ?_
  exact ⟨rfl, st.ex0⟩
def fin32 (x : Nat) : Option Bool := bw (fop .sub .f32 (some x) (some x)) fun z => some (feqB .f32 (some z) (some 0))
theorem IsFiniteW_ok (x : Nat) (r : Bool) (h : fin32 x = some r) (w : World) : CV Try.prog 78 [.float .f32 x] w (.bool r) := by
  unfold fin32 at h
  obtain ⟨z, hz, h⟩ := bw_some h
  have h : feqB .f32 (some z) (some 0) = r := Option.some.inj h
  refine enter Try.func78 rfl rfl rfl rfl ?_
  intro y st
  (repeat' (first | (refine o_fopK st rfl rfl hz rfl ?_; clear st; intro _ st)  | (refine o_feqlW st rfl rfl (fop_is hz) (Is_lit (by decide +kernel)) h rfl ?_; clear st; intro _ st)  | refine c_seq ?_  | refine c_region ?_  | refine l_do ?_  | refine l_nil ?_  | refine x_then ?_  | refine wp_ret ?_  | ((first | refine o_move st rfl rfl ?_  | refine o_assign st rfl rfl ?_); clear st; intro _ st) ))
  refine post1 st Try.results78 (rd_t st rfl) ?_
  exact ⟨rfl, st.ex0⟩
def chk (k : FloatKind) (b : Nat) : Bool := decide (b < 2 ^ k.format.width) && !(k.decode b).isNaN
theorem chk_is {k : FloatKind} {b : Nat} (h : chk k b = true) : Is k b (some b) := Is_lit h
def absO (x : Nat) : Wd := force (absW x) fun n => if chk .f64 n then some n else none
theorem absO_some {x a : Nat} (h : absO x = some a) : absW x = a ∧ Is .f64 a (some a) := by
  unfold absO at h
  rw [force_eq] at h
  cases hc : chk .f64 (absW x)
  · rw [hc] at h; cases h
  · rw [hc] at h
    obtain rfl : absW x = a := Option.some.inj h
    exact ⟨rfl, chk_is hc⟩
def angStp (t : Nat) : Wd :=
  bw (mulW t t) fun m =>
  bw (addW w1 m) fun a =>
  bw (rootW a) fun r =>
  bw (addW w1 r) fun d =>
  quoW t d
def angIter : Nat → Nat → Wd
  | 0, t => some t
  | n + 1, t => bw (angStp t) fun t' => angIter n t'
def angSum (u : Nat) : Nat → Nat → Nat → Wd
  | 0, _, _ => none
  | n + 1, p, k => if geW k w1 then
      bw (quoW w1 k) fun a =>
      bw (mulW u p) fun b =>
      bw (subW a b) fun p' =>
      bw (subW k w2) fun k' =>
      angSum u n p' k'
    else some p
def lt0 (x : Nat) : Bool := fltB .f32 (some x) (some 0)
def angleW (y x : Nat) : Wd :=
  bw (wid y) fun yy =>
  bw (wid x) fun xx =>
  bw (absO yy) fun a =>
  bw (absO xx) fun b =>
  bw (quoW a b) fun t0 =>
  bw (if gtW a b then quoW b a else some t0) fun t1 =>
  bw (angIter 3 t1) fun t =>
  bw (mulW t t) fun u =>
  bw (angSum u 9 0 w15) fun p =>
  bw (mulW t p) fun m =>
  bw (mulW w8 m) fun m8 =>
  bw (quoW m8 wTau) fun g0 =>
  bw (if gtW a b then subW w025 g0 else some g0) fun g1 =>
  bw (if lt0 x then subW w05 g1 else some g1) fun g2 =>
  nar (if lt0 y then Op.negFloat .f64 g2 else g2)

set_option maxHeartbeats 16000000 in
theorem AngleTurns_ok (y x r : Nat) (iy : Is .f32 y (some y)) (ix : Is .f32 x (some x)) (fy : fin32 y = some true) (fx : fin32 x = some true)
    (hz : feqB .f32 (some x) (some 0) = false ∨ feqB .f32 (some x) (some 0) = true ∧ feqB .f32 (some y) (some 0) = false)
    (h : angleW y x = some r) (w : World) : CV Try.prog 110 [.float .f32 y, .float .f32 x] w (.float .f32 r) := by
  unfold angleW at h
  obtain ⟨yy, hyy, h⟩ := bw_some h
  obtain ⟨xx, hxx, h⟩ := bw_some h
  obtain ⟨a, ha, h⟩ := bw_some h
  obtain ⟨b, hb, h⟩ := bw_some h
  obtain ⟨t0, h0, h⟩ := bw_some h
  obtain ⟨t1, h1, h⟩ := bw_some h
  obtain ⟨t, ht, h⟩ := bw_some h
  obtain ⟨u, hu, h⟩ := bw_some h
  obtain ⟨p, hp, h⟩ := bw_some h
  obtain ⟨m, hm, h⟩ := bw_some h
  obtain ⟨m8, hm8, h⟩ := bw_some h
  obtain ⟨g0, hg0, h⟩ := bw_some h
  obtain ⟨g1, hg1, h⟩ := bw_some h
  obtain ⟨g2, hg2, h⟩ := bw_some h
  obtain ⟨ea, ia⟩ := absO_some ha
  obtain ⟨eb, ib⟩ := absO_some hb
  clear ha hb
  have hyy : floatToFloatBits .f32 y .f64 = some yy := hyy
  have hxx : floatToFloatBits .f32 x .f64 = some xx := hxx
  have h0 := quoW_some h0
  have hu := mulF_some hu
  have hm := mulF_some hm
  have hm8 := mulF_some hm8
  have hg0 := quoW_some hg0
  have h : floatToFloatBits .f64 (if lt0 y then Op.negFloat .f64 g2 else g2) .f32 = some r := h
  have k1 := fun w => IsFiniteW_ok x true fx w
  have k2 := fun w => IsFiniteW_ok y true fy w
  have k3 : ∀ w, CV Try.prog 131 [.float .f64 yy] w (.float .f64 a) := fun w => by rw [← ea]; exact Abs_ok yy w
  have k4 : ∀ w, CV Try.prog 131 [.float .f64 xx] w (.float .f64 b) := fun w => by rw [← eb]; exact Abs_ok xx w
  have i0 : Is .f32 0 (some 0) := Is_lit (by decide +kernel)
  refine enter Try.func110 rfl rfl rfl rfl ?_
  intro z st
  (repeat' (first | (refine c_meet (c1 := Code.seq (Code.region 3 _ _) _) (fun a w' => St w Try.f110.ntmps a w' [(0, .float .f32 y), (1, .float .f32 x)] []) ?_ ?_)  | (refine o_callV st rfl (k1 _) rfl ?_; clear st; intro _ _ st)  | (refine o_callV st rfl (k2 _) rfl ?_; clear st; intro _ _ st)  | refine c_seq ?_  | refine c_region ?_  | refine l_do ?_  | refine l_doG st rfl rfl ?_  | ((first | refine l_skip st rfl rfl rfl rfl ?_); clear st; intro _ st)  | refine l_nil ?_  | refine x_then ?_  | refine x_thenE ?_  | refine x_blkN ?_  | refine x_blkE ?_  | refine wp_ret ?_  | refine wp_skip ?_  | refine wp_block ?_  | refine wp_exit ?_  | refine c_condT st rfl ?_  | refine c_condF st rfl ?_  | ((first | refine o_move st rfl rfl ?_  | refine o_assign st rfl rfl ?_  | refine o_pickT st rfl rfl rfl ?_  | refine o_pickF st rfl rfl rfl ?_  | refine o_add64 st rfl rfl rfl (by omega) (by omega) ?_  | refine o_notT st rfl rfl ?_ ); clear st; intro _ st)  | (refine o_lss st rfl rfl rfl ?_ ?_ <;> clear st <;> intro _ _ st <;> (try (exfalso; omega))) ))
  · refine ⟨?_⟩
    rcases hz with hz | ⟨hz, hz'⟩
    · (repeat' (first | (refine o_feqlW st rfl rfl ix i0 hz rfl ?_; clear st; intro _ st)  | (refine ⟨rfl, (st.fit (by repeat (first | exact trivial  | refine And.intro rfl ?_))).subL (by repeat (first | exact List.Sublist.refl _  | apply List.Sublist.cons_cons  | apply List.Sublist.cons  | exact List.nil_sublist _))⟩)  | refine c_seq ?_  | refine c_region ?_  | refine l_do ?_  | refine l_doG st rfl rfl ?_  | ((first | refine l_skip st rfl rfl rfl rfl ?_); clear st; intro _ st)  | refine l_nil ?_  | refine x_then ?_  | refine x_thenE ?_  | refine x_blkN ?_  | refine x_blkE ?_  | refine wp_ret ?_  | refine wp_skip ?_  | refine wp_block ?_  | refine wp_exit ?_  | refine c_condT st rfl ?_  | refine c_condF st rfl ?_  | ((first | refine o_move st rfl rfl ?_  | refine o_assign st rfl rfl ?_  | refine o_pickT st rfl rfl rfl ?_  | refine o_pickF st rfl rfl rfl ?_  | refine o_add64 st rfl rfl rfl (by omega) (by omega) ?_  | refine o_notT st rfl rfl ?_ ); clear st; intro _ st)  | (refine o_lss st rfl rfl rfl ?_ ?_ <;> clear st <;> intro _ _ st <;> (try (exfalso; omega))) ))
    · (repeat' (first | (refine o_feqlW st rfl rfl ix i0 hz rfl ?_; clear st; intro _ st)  | (refine o_feqlW st rfl rfl iy i0 hz' rfl ?_; clear st; intro _ st)  | (refine ⟨rfl, (st.fit (by repeat (first | exact trivial  | refine And.intro rfl ?_))).subL (by repeat (first | exact List.Sublist.refl _  | apply List.Sublist.cons_cons  | apply List.Sublist.cons  | exact List.nil_sublist _))⟩)  | refine c_seq ?_  | refine c_region ?_  | refine l_do ?_  | refine l_doG st rfl rfl ?_  | ((first | refine l_skip st rfl rfl rfl rfl ?_); clear st; intro _ st)  | refine l_nil ?_  | refine x_then ?_  | refine x_thenE ?_  | refine x_blkN ?_  | refine x_blkE ?_  | refine wp_ret ?_  | refine wp_skip ?_  | refine wp_block ?_  | refine wp_exit ?_  | refine c_condT st rfl ?_  | refine c_condF st rfl ?_  | ((first | refine o_move st rfl rfl ?_  | refine o_assign st rfl rfl ?_  | refine o_pickT st rfl rfl rfl ?_  | refine o_pickF st rfl rfl rfl ?_  | refine o_add64 st rfl rfl rfl (by omega) (by omega) ?_  | refine o_notT st rfl rfl ?_ ); clear st; intro _ st)  | (refine o_lss st rfl rfl rfl ?_ ?_ <;> clear st <;> intro _ _ st <;> (try (exfalso; omega))) ))
  clear st
  intro z w' st
  (repeat' (first | (refine c_meet (c1 := Code.seq (Code.region 7 _ _) _) (fun z w' => St w Try.f110.ntmps z w' [(0, .float .f32 y), (1, .float .f32 x), (5, .float .f64 a), (6, .float .f64 b), (7, .float .f64 t1)] []) ?_ ?_)  | (refine o_callV st rfl (k3 _) rfl ?_; clear st; intro _ _ st)  | (refine o_callV st rfl (k4 _) rfl ?_; clear st; intro _ _ st)  | (refine o_fcvW st rfl hyy rfl ?_; clear st; intro _ st)  | (refine o_fcvW st rfl hxx rfl ?_; clear st; intro _ st)  | (refine o_fopK st rfl rfl h0 rfl ?_; clear st; intro _ st)  | refine c_seq ?_  | refine c_region ?_  | refine l_do ?_  | refine l_doG st rfl rfl ?_  | ((first | refine l_skip st rfl rfl rfl rfl ?_); clear st; intro _ st)  | refine l_nil ?_  | refine x_then ?_  | refine x_thenE ?_  | refine x_blkN ?_  | refine x_blkE ?_  | refine wp_ret ?_  | refine wp_skip ?_  | refine wp_block ?_  | refine wp_exit ?_  | refine c_condT st rfl ?_  | refine c_condF st rfl ?_  | ((first | refine o_move st rfl rfl ?_  | refine o_assign st rfl rfl ?_  | refine o_pickT st rfl rfl rfl ?_  | refine o_pickF st rfl rfl rfl ?_  | refine o_add64 st rfl rfl rfl (by omega) (by omega) ?_  | refine o_notT st rfl rfl ?_ ); clear st; intro _ st)  | (refine o_lss st rfl rfl rfl ?_ ?_ <;> clear st <;> intro _ _ st <;> (try (exfalso; omega))) ))
  · refine ⟨?_⟩
    cases hab : gtW a b
    · have h1 : t0 = t1 := by rw [hab] at h1; simpa using h1
      subst h1
      (repeat' (first | (refine o_fgtrW st rfl rfl ia ib hab rfl ?_; clear st; intro _ st)  | (refine ⟨rfl, (st.fit (by repeat (first | exact trivial  | refine And.intro rfl ?_))).subL (by repeat (first | exact List.Sublist.refl _  | apply List.Sublist.cons_cons  | apply List.Sublist.cons  | exact List.nil_sublist _))⟩)  | refine c_seq ?_  | refine c_region ?_  | refine l_do ?_  | refine l_doG st rfl rfl ?_  | ((first | refine l_skip st rfl rfl rfl rfl ?_); clear st; intro _ st)  | refine l_nil ?_  | refine x_then ?_  | refine x_thenE ?_  | refine x_blkN ?_  | refine x_blkE ?_  | refine wp_ret ?_  | refine wp_skip ?_  | refine wp_block ?_  | refine wp_exit ?_  | refine c_condT st rfl ?_  | refine c_condF st rfl ?_  | ((first | refine o_move st rfl rfl ?_  | refine o_assign st rfl rfl ?_  | refine o_pickT st rfl rfl rfl ?_  | refine o_pickF st rfl rfl rfl ?_  | refine o_add64 st rfl rfl rfl (by omega) (by omega) ?_  | refine o_notT st rfl rfl ?_ ); clear st; intro _ st)  | (refine o_lss st rfl rfl rfl ?_ ?_ <;> clear st <;> intro _ _ st <;> (try (exfalso; omega))) ))
    · have h1 : quoW b a = some t1 := by rw [hab] at h1; simpa using h1
      have h1 := quoW_some h1
      (repeat' (first | (refine o_fgtrW st rfl rfl ia ib hab rfl ?_; clear st; intro _ st)  | (refine o_fopK st rfl rfl h1 rfl ?_; clear st; intro _ st)  | (refine ⟨rfl, (st.fit (by repeat (first | exact trivial  | refine And.intro rfl ?_))).subL (by repeat (first | exact List.Sublist.refl _  | apply List.Sublist.cons_cons  | apply List.Sublist.cons  | exact List.nil_sublist _))⟩)  | refine c_seq ?_  | refine c_region ?_  | refine l_do ?_  | refine l_doG st rfl rfl ?_  | ((first | refine l_skip st rfl rfl rfl rfl ?_); clear st; intro _ st)  | refine l_nil ?_  | refine x_then ?_  | refine x_thenE ?_  | refine x_blkN ?_  | refine x_blkE ?_  | refine wp_ret ?_  | refine wp_skip ?_  | refine wp_block ?_  | refine wp_exit ?_  | refine c_condT st rfl ?_  | refine c_condF st rfl ?_  | ((first | refine o_move st rfl rfl ?_  | refine o_assign st rfl rfl ?_  | refine o_pickT st rfl rfl rfl ?_  | refine o_pickF st rfl rfl rfl ?_  | refine o_add64 st rfl rfl rfl (by omega) (by omega) ?_  | refine o_notT st rfl rfl ?_ ); clear st; intro _ st)  | (refine o_lss st rfl rfl rfl ?_ ?_ <;> clear st <;> intro _ _ st <;> (try (exfalso; omega))) ))
  clear st
  intro z w' st
  (repeat' (first | (refine c_meet (c1 := Code.seq (Code.region 9 _ _) _) (fun z w' => St w Try.f110.ntmps z w' [(0, .float .f32 y), (1, .float .f32 x), (5, .float .f64 a), (6, .float .f64 b), (7, .float .f64 t)] []) ?_ ?_)  | refine c_seq ?_  | refine c_region ?_  | refine l_do ?_  | refine l_doG st rfl rfl ?_  | ((first | refine l_skip st rfl rfl rfl rfl ?_); clear st; intro _ st)  | refine l_nil ?_  | refine x_then ?_  | refine x_thenE ?_  | refine x_blkN ?_  | refine x_blkE ?_  | refine wp_ret ?_  | refine wp_skip ?_  | refine wp_block ?_  | refine wp_exit ?_  | refine c_condT st rfl ?_  | refine c_condF st rfl ?_  | ((first | refine o_move st rfl rfl ?_  | refine o_assign st rfl rfl ?_  | refine o_pickT st rfl rfl rfl ?_  | refine o_pickF st rfl rfl rfl ?_  | refine o_add64 st rfl rfl rfl (by omega) (by omega) ?_  | refine o_notT st rfl rfl ?_ ); clear st; intro _ st)  | (refine o_lss st rfl rfl rfl ?_ ?_ <;> clear st <;> intro _ _ st <;> (try (exfalso; omega))) ))
  · refine ⟨?_⟩
    (repeat' (first | refine c_seq ?_  | refine c_region ?_  | refine l_do ?_  | refine l_doG st rfl rfl ?_  | ((first | refine l_skip st rfl rfl rfl rfl ?_); clear st; intro _ st)  | refine l_nil ?_  | refine x_then ?_  | refine x_thenE ?_  | refine x_blkN ?_  | refine x_blkE ?_  | refine wp_ret ?_  | refine wp_skip ?_  | refine wp_block ?_  | refine wp_exit ?_  | refine c_condT st rfl ?_  | refine c_condF st rfl ?_  | ((first | refine o_move st rfl rfl ?_  | refine o_assign st rfl rfl ?_  | refine o_pickT st rfl rfl rfl ?_  | refine o_pickF st rfl rfl rfl ?_  | refine o_add64 st rfl rfl rfl (by omega) (by omega) ?_  | refine o_notT st rfl rfl ?_ ); clear st; intro _ st)  | (refine o_lss st rfl rfl rfl ?_ ?_ <;> clear st <;> intro _ _ st <;> (try (exfalso; omega))) ))
    refine wp_loop_ghost (fun n z w' => ∃ (t' : Nat) (j : Nat), angIter n t' = some t ∧ j + n = 3 ∧ St w Try.f110.ntmps z w' [(0, .float .f32 y), (1, .float .f32 x), (5, .float .f64 a), (6, .float .f64 b), (7, .float .f64 t'), (43, .int .i64 (j : Int))] []) 3 ⟨t1, 0, ht, rfl, (st.fit (by repeat (first | exact trivial  | refine And.intro rfl ?_))).subL (by repeat (first | exact List.Sublist.refl _  | apply List.Sublist.cons_cons  | apply List.Sublist.cons  | exact List.nil_sublist _))⟩ ?_
    clear st
    rintro n z w' ⟨t', j, hs, hj, st⟩
    cases n with
    | zero =>
      have ht' : t' = t := Option.some.inj hs
      subst ht'
      obtain rfl : j = 3 := by omega
      (repeat' (first | (refine ⟨rfl, (st.fit (by repeat (first | exact trivial  | refine And.intro rfl ?_))).subL (by repeat (first | exact List.Sublist.refl _  | apply List.Sublist.cons_cons  | apply List.Sublist.cons  | exact List.nil_sublist _))⟩)  | refine c_seq ?_  | refine c_region ?_  | refine l_do ?_  | refine l_doG st rfl rfl ?_  | ((first | refine l_skip st rfl rfl rfl rfl ?_); clear st; intro _ st)  | refine l_nil ?_  | refine x_then ?_  | refine x_thenE ?_  | refine x_blkN ?_  | refine x_blkE ?_  | refine wp_ret ?_  | refine wp_skip ?_  | refine wp_block ?_  | refine wp_exit ?_  | refine c_condT st rfl ?_  | refine c_condF st rfl ?_  | ((first | refine o_move st rfl rfl ?_  | refine o_assign st rfl rfl ?_  | refine o_pickT st rfl rfl rfl ?_  | refine o_pickF st rfl rfl rfl ?_  | refine o_add64 st rfl rfl rfl (by omega) (by omega) ?_  | refine o_notT st rfl rfl ?_ ); clear st; intro _ st)  | (refine o_lss st rfl rfl rfl ?_ ?_ <;> clear st <;> intro _ _ st <;> (try (exfalso; omega))) ))
    | succ n =>
      rw [angIter] at hs
      obtain ⟨t2, h2, hs⟩ := bw_some hs
      unfold angStp at h2
      obtain ⟨e1, q1, h2⟩ := bw_some h2
      obtain ⟨e2, q2, h2⟩ := bw_some h2
      obtain ⟨e3, q3, h2⟩ := bw_some h2
      obtain ⟨e4, q4, h2⟩ := bw_some h2
      have q1 := mulF_some q1
      have q2 := addF_some q2
      have q4 := addF_some q4
      have h2 := quoW_some h2
      have k5 := fun w => Sqrt_ok e2 e3 q3 w
      (repeat' (first | (refine o_callV st rfl (k5 _) rfl ?_; clear st; intro _ _ st)  | (refine o_fopK st rfl rfl q1 rfl ?_; clear st; intro _ st)  | (refine o_fopK st rfl rfl q2 rfl ?_; clear st; intro _ st)  | (refine o_fopK st rfl rfl q4 rfl ?_; clear st; intro _ st)  | (refine o_fopK st rfl rfl h2 rfl ?_; clear st; intro _ st)  | refine c_seq ?_  | refine c_region ?_  | refine l_do ?_  | refine l_doG st rfl rfl ?_  | ((first | refine l_skip st rfl rfl rfl rfl ?_); clear st; intro _ st)  | refine l_nil ?_  | refine x_then ?_  | refine x_thenE ?_  | refine x_blkN ?_  | refine x_blkE ?_  | refine wp_ret ?_  | refine wp_skip ?_  | refine wp_block ?_  | refine wp_exit ?_  | refine c_condT st rfl ?_  | refine c_condF st rfl ?_  | ((first | refine o_move st rfl rfl ?_  | refine o_assign st rfl rfl ?_  | refine o_pickT st rfl rfl rfl ?_  | refine o_pickF st rfl rfl rfl ?_  | refine o_add64 st rfl rfl rfl (by omega) (by omega) ?_  | refine o_notT st rfl rfl ?_ ); clear st; intro _ st)  | (refine o_lss st rfl rfl rfl ?_ ?_ <;> clear st <;> intro _ _ st <;> (try (exfalso; omega))) ))
      exact ⟨n, by omega, t2, j + 1, hs, by omega, (st.fit (by repeat (first | exact trivial  | refine And.intro rfl ?_))).subL (by repeat (first | exact List.Sublist.refl _  | apply List.Sublist.cons_cons  | apply List.Sublist.cons  | exact List.nil_sublist _))⟩
  clear st
  intro z w' st
  (repeat' (first | (refine o_fopK st rfl rfl hu rfl ?_; clear st; intro _ st)  | (refine c_meet (c1 := Code.seq (Code.region 15 _ _) _) (fun z w' => St w Try.f110.ntmps z w' [(0, .float .f32 y), (1, .float .f32 x), (5, .float .f64 a), (6, .float .f64 b), (7, .float .f64 t), (9, .float .f64 p)] []) ?_ ?_)  | refine c_seq ?_  | refine c_region ?_  | refine l_do ?_  | refine l_doG st rfl rfl ?_  | ((first | refine l_skip st rfl rfl rfl rfl ?_); clear st; intro _ st)  | refine l_nil ?_  | refine x_then ?_  | refine x_thenE ?_  | refine x_blkN ?_  | refine x_blkE ?_  | refine wp_ret ?_  | refine wp_skip ?_  | refine wp_block ?_  | refine wp_exit ?_  | refine c_condT st rfl ?_  | refine c_condF st rfl ?_  | ((first | refine o_move st rfl rfl ?_  | refine o_assign st rfl rfl ?_  | refine o_pickT st rfl rfl rfl ?_  | refine o_pickF st rfl rfl rfl ?_  | refine o_add64 st rfl rfl rfl (by omega) (by omega) ?_  | refine o_notT st rfl rfl ?_ ); clear st; intro _ st)  | (refine o_lss st rfl rfl rfl ?_ ?_ <;> clear st <;> intro _ _ st <;> (try (exfalso; omega))) ))
  · refine ⟨?_⟩
    (repeat' (first | refine c_seq ?_  | refine c_region ?_  | refine l_do ?_  | refine l_doG st rfl rfl ?_  | ((first | refine l_skip st rfl rfl rfl rfl ?_); clear st; intro _ st)  | refine l_nil ?_  | refine x_then ?_  | refine x_thenE ?_  | refine x_blkN ?_  | refine x_blkE ?_  | refine wp_ret ?_  | refine wp_skip ?_  | refine wp_block ?_  | refine wp_exit ?_  | refine c_condT st rfl ?_  | refine c_condF st rfl ?_  | ((first | refine o_move st rfl rfl ?_  | refine o_assign st rfl rfl ?_  | refine o_pickT st rfl rfl rfl ?_  | refine o_pickF st rfl rfl rfl ?_  | refine o_add64 st rfl rfl rfl (by omega) (by omega) ?_  | refine o_notT st rfl rfl ?_ ); clear st; intro _ st)  | (refine o_lss st rfl rfl rfl ?_ ?_ <;> clear st <;> intro _ _ st <;> (try (exfalso; omega))) ))
    have i1 : Is .f64 w1 (some w1) := Is_lit (by decide +kernel)
    refine wp_loop_ghost (fun n z w' => ∃ (q k : Nat), angSum u n q k = some p ∧ Is .f64 k (some k) ∧ St w Try.f110.ntmps z w' [(0, .float .f32 y), (1, .float .f32 x), (5, .float .f64 a), (6, .float .f64 b), (7, .float .f64 t), (8, .float .f64 u), (9, .float .f64 q), (10, .float .f64 k)] []) 9 ⟨0, w15, hp, Is_lit (by decide +kernel), (st.fit (by repeat (first | exact trivial  | refine And.intro rfl ?_))).subL (by repeat (first | exact List.Sublist.refl _  | apply List.Sublist.cons_cons  | apply List.Sublist.cons  | exact List.nil_sublist _))⟩ ?_
    clear st
    rintro n z w' ⟨q, k, hs, ik, st⟩
    cases n with
    | zero => cases hs
    | succ n =>
      rw [angSum] at hs
      cases hge : geW k w1
      · rw [hge] at hs
        have hqp : q = p := by simpa using hs
        subst hqp
        (repeat' (first | (refine o_fgeqW st rfl rfl ik i1 hge rfl ?_; clear st; intro _ st)  | (refine ⟨rfl, (st.fit (by repeat (first | exact trivial  | refine And.intro rfl ?_))).subL (by repeat (first | exact List.Sublist.refl _  | apply List.Sublist.cons_cons  | apply List.Sublist.cons  | exact List.nil_sublist _))⟩)  | refine c_seq ?_  | refine c_region ?_  | refine l_do ?_  | refine l_doG st rfl rfl ?_  | ((first | refine l_skip st rfl rfl rfl rfl ?_); clear st; intro _ st)  | refine l_nil ?_  | refine x_then ?_  | refine x_thenE ?_  | refine x_blkN ?_  | refine x_blkE ?_  | refine wp_ret ?_  | refine wp_skip ?_  | refine wp_block ?_  | refine wp_exit ?_  | refine c_condT st rfl ?_  | refine c_condF st rfl ?_  | ((first | refine o_move st rfl rfl ?_  | refine o_assign st rfl rfl ?_  | refine o_pickT st rfl rfl rfl ?_  | refine o_pickF st rfl rfl rfl ?_  | refine o_add64 st rfl rfl rfl (by omega) (by omega) ?_  | refine o_notT st rfl rfl ?_ ); clear st; intro _ st)  | (refine o_lss st rfl rfl rfl ?_ ?_ <;> clear st <;> intro _ _ st <;> (try (exfalso; omega))) ))
      · rw [hge] at hs
        simp only [if_true] at hs
        obtain ⟨e1, q1, hs⟩ := bw_some hs
        obtain ⟨e2, q2, hs⟩ := bw_some hs
        obtain ⟨e3, q3, hs⟩ := bw_some hs
        obtain ⟨e4, q4, hs⟩ := bw_some hs
        have q1 := quoW_some q1
        have q2 := mulF_some q2
        have q3 := subF_some q3
        have q4 := subF_some q4
        (repeat' (first | (refine o_fgeqW st rfl rfl ik i1 hge rfl ?_; clear st; intro _ st)  | (refine o_fopK st rfl rfl q1 rfl ?_; clear st; intro _ st)  | (refine o_fopK st rfl rfl q2 rfl ?_; clear st; intro _ st)  | (refine o_fopK st rfl rfl q3 rfl ?_; clear st; intro _ st)  | (refine o_fopK st rfl rfl q4 rfl ?_; clear st; intro _ st)  | refine c_seq ?_  | refine c_region ?_  | refine l_do ?_  | refine l_doG st rfl rfl ?_  | ((first | refine l_skip st rfl rfl rfl rfl ?_); clear st; intro _ st)  | refine l_nil ?_  | refine x_then ?_  | refine x_thenE ?_  | refine x_blkN ?_  | refine x_blkE ?_  | refine wp_ret ?_  | refine wp_skip ?_  | refine wp_block ?_  | refine wp_exit ?_  | refine c_condT st rfl ?_  | refine c_condF st rfl ?_  | ((first | refine o_move st rfl rfl ?_  | refine o_assign st rfl rfl ?_  | refine o_pickT st rfl rfl rfl ?_  | refine o_pickF st rfl rfl rfl ?_  | refine o_add64 st rfl rfl rfl (by omega) (by omega) ?_  | refine o_notT st rfl rfl ?_ ); clear st; intro _ st)  | (refine o_lss st rfl rfl rfl ?_ ?_ <;> clear st <;> intro _ _ st <;> (try (exfalso; omega))) ))
        exact ⟨n, by omega, e3, e4, hs, fop_is q4, (st.fit (by repeat (first | exact trivial  | refine And.intro rfl ?_))).subL (by repeat (first | exact List.Sublist.refl _  | apply List.Sublist.cons_cons  | apply List.Sublist.cons  | exact List.nil_sublist _))⟩
  clear st
  intro z w' st
  (repeat' (first | (refine o_fopK st rfl rfl hm rfl ?_; clear st; intro _ st)  | (refine o_fopK st rfl rfl hm8 rfl ?_; clear st; intro _ st)  | (refine o_fopK st rfl rfl hg0 rfl ?_; clear st; intro _ st)  | (refine c_meet (c1 := Code.seq (Code.region 20 _ _) _) (fun z w' => St w Try.f110.ntmps z w' [(0, .float .f32 y), (1, .float .f32 x), (11, .float .f64 g1)] []) ?_ ?_)  | refine c_seq ?_  | refine c_region ?_  | refine l_do ?_  | refine l_doG st rfl rfl ?_  | ((first | refine l_skip st rfl rfl rfl rfl ?_); clear st; intro _ st)  | refine l_nil ?_  | refine x_then ?_  | refine x_thenE ?_  | refine x_blkN ?_  | refine x_blkE ?_  | refine wp_ret ?_  | refine wp_skip ?_  | refine wp_block ?_  | refine wp_exit ?_  | refine c_condT st rfl ?_  | refine c_condF st rfl ?_  | ((first | refine o_move st rfl rfl ?_  | refine o_assign st rfl rfl ?_  | refine o_pickT st rfl rfl rfl ?_  | refine o_pickF st rfl rfl rfl ?_  | refine o_add64 st rfl rfl rfl (by omega) (by omega) ?_  | refine o_notT st rfl rfl ?_ ); clear st; intro _ st)  | (refine o_lss st rfl rfl rfl ?_ ?_ <;> clear st <;> intro _ _ st <;> (try (exfalso; omega))) ))
  · refine ⟨?_⟩
    cases hab : gtW a b
    · have h1 : g0 = g1 := by rw [hab] at hg1; simpa using hg1
      subst h1
      (repeat' (first | (refine o_fgtrW st rfl rfl ia ib hab rfl ?_; clear st; intro _ st)  | (refine ⟨rfl, (st.fit (by repeat (first | exact trivial  | refine And.intro rfl ?_))).subL (by repeat (first | exact List.Sublist.refl _  | apply List.Sublist.cons_cons  | apply List.Sublist.cons  | exact List.nil_sublist _))⟩)  | refine c_seq ?_  | refine c_region ?_  | refine l_do ?_  | refine l_doG st rfl rfl ?_  | ((first | refine l_skip st rfl rfl rfl rfl ?_); clear st; intro _ st)  | refine l_nil ?_  | refine x_then ?_  | refine x_thenE ?_  | refine x_blkN ?_  | refine x_blkE ?_  | refine wp_ret ?_  | refine wp_skip ?_  | refine wp_block ?_  | refine wp_exit ?_  | refine c_condT st rfl ?_  | refine c_condF st rfl ?_  | ((first | refine o_move st rfl rfl ?_  | refine o_assign st rfl rfl ?_  | refine o_pickT st rfl rfl rfl ?_  | refine o_pickF st rfl rfl rfl ?_  | refine o_add64 st rfl rfl rfl (by omega) (by omega) ?_  | refine o_notT st rfl rfl ?_ ); clear st; intro _ st)  | (refine o_lss st rfl rfl rfl ?_ ?_ <;> clear st <;> intro _ _ st <;> (try (exfalso; omega))) ))
    · have h1 : subW w025 g0 = some g1 := by rw [hab] at hg1; simpa using hg1
      have h1 := subF_some h1
      (repeat' (first | (refine o_fgtrW st rfl rfl ia ib hab rfl ?_; clear st; intro _ st)  | (refine o_fopK st rfl rfl h1 rfl ?_; clear st; intro _ st)  | (refine ⟨rfl, (st.fit (by repeat (first | exact trivial  | refine And.intro rfl ?_))).subL (by repeat (first | exact List.Sublist.refl _  | apply List.Sublist.cons_cons  | apply List.Sublist.cons  | exact List.nil_sublist _))⟩)  | refine c_seq ?_  | refine c_region ?_  | refine l_do ?_  | refine l_doG st rfl rfl ?_  | ((first | refine l_skip st rfl rfl rfl rfl ?_); clear st; intro _ st)  | refine l_nil ?_  | refine x_then ?_  | refine x_thenE ?_  | refine x_blkN ?_  | refine x_blkE ?_  | refine wp_ret ?_  | refine wp_skip ?_  | refine wp_block ?_  | refine wp_exit ?_  | refine c_condT st rfl ?_  | refine c_condF st rfl ?_  | ((first | refine o_move st rfl rfl ?_  | refine o_assign st rfl rfl ?_  | refine o_pickT st rfl rfl rfl ?_  | refine o_pickF st rfl rfl rfl ?_  | refine o_add64 st rfl rfl rfl (by omega) (by omega) ?_  | refine o_notT st rfl rfl ?_ ); clear st; intro _ st)  | (refine o_lss st rfl rfl rfl ?_ ?_ <;> clear st <;> intro _ _ st <;> (try (exfalso; omega))) ))
  clear st
  intro z w' st
  (repeat' (first | (refine c_meet (c1 := Code.seq (Code.region 22 _ _) _) (fun z w' => St w Try.f110.ntmps z w' [(0, .float .f32 y), (11, .float .f64 g2)] []) ?_ ?_)  | refine c_seq ?_  | refine c_region ?_  | refine l_do ?_  | refine l_doG st rfl rfl ?_  | ((first | refine l_skip st rfl rfl rfl rfl ?_); clear st; intro _ st)  | refine l_nil ?_  | refine x_then ?_  | refine x_thenE ?_  | refine x_blkN ?_  | refine x_blkE ?_  | refine wp_ret ?_  | refine wp_skip ?_  | refine wp_block ?_  | refine wp_exit ?_  | refine c_condT st rfl ?_  | refine c_condF st rfl ?_  | ((first | refine o_move st rfl rfl ?_  | refine o_assign st rfl rfl ?_  | refine o_pickT st rfl rfl rfl ?_  | refine o_pickF st rfl rfl rfl ?_  | refine o_add64 st rfl rfl rfl (by omega) (by omega) ?_  | refine o_notT st rfl rfl ?_ ); clear st; intro _ st)  | (refine o_lss st rfl rfl rfl ?_ ?_ <;> clear st <;> intro _ _ st <;> (try (exfalso; omega))) ))
  · refine ⟨?_⟩
    cases hab : lt0 x
    · have h1 : g1 = g2 := by rw [hab] at hg2; simpa using hg2
      subst h1
      (repeat' (first | (refine o_flssW st rfl rfl ix i0 hab rfl ?_; clear st; intro _ st)  | (refine ⟨rfl, (st.fit (by repeat (first | exact trivial  | refine And.intro rfl ?_))).subL (by repeat (first | exact List.Sublist.refl _  | apply List.Sublist.cons_cons  | apply List.Sublist.cons  | exact List.nil_sublist _))⟩)  | refine c_seq ?_  | refine c_region ?_  | refine l_do ?_  | refine l_doG st rfl rfl ?_  | ((first | refine l_skip st rfl rfl rfl rfl ?_); clear st; intro _ st)  | refine l_nil ?_  | refine x_then ?_  | refine x_thenE ?_  | refine x_blkN ?_  | refine x_blkE ?_  | refine wp_ret ?_  | refine wp_skip ?_  | refine wp_block ?_  | refine wp_exit ?_  | refine c_condT st rfl ?_  | refine c_condF st rfl ?_  | ((first | refine o_move st rfl rfl ?_  | refine o_assign st rfl rfl ?_  | refine o_pickT st rfl rfl rfl ?_  | refine o_pickF st rfl rfl rfl ?_  | refine o_add64 st rfl rfl rfl (by omega) (by omega) ?_  | refine o_notT st rfl rfl ?_ ); clear st; intro _ st)  | (refine o_lss st rfl rfl rfl ?_ ?_ <;> clear st <;> intro _ _ st <;> (try (exfalso; omega))) ))
    · have h1 : subW w05 g1 = some g2 := by rw [hab] at hg2; simpa using hg2
      have h1 := subF_some h1
      (repeat' (first | (refine o_flssW st rfl rfl ix i0 hab rfl ?_; clear st; intro _ st)  | (refine o_fopK st rfl rfl h1 rfl ?_; clear st; intro _ st)  | (refine ⟨rfl, (st.fit (by repeat (first | exact trivial  | refine And.intro rfl ?_))).subL (by repeat (first | exact List.Sublist.refl _  | apply List.Sublist.cons_cons  | apply List.Sublist.cons  | exact List.nil_sublist _))⟩)  | refine c_seq ?_  | refine c_region ?_  | refine l_do ?_  | refine l_doG st rfl rfl ?_  | ((first | refine l_skip st rfl rfl rfl rfl ?_); clear st; intro _ st)  | refine l_nil ?_  | refine x_then ?_  | refine x_thenE ?_  | refine x_blkN ?_  | refine x_blkE ?_  | refine wp_ret ?_  | refine wp_skip ?_  | refine wp_block ?_  | refine wp_exit ?_  | refine c_condT st rfl ?_  | refine c_condF st rfl ?_  | ((first | refine o_move st rfl rfl ?_  | refine o_assign st rfl rfl ?_  | refine o_pickT st rfl rfl rfl ?_  | refine o_pickF st rfl rfl rfl ?_  | refine o_add64 st rfl rfl rfl (by omega) (by omega) ?_  | refine o_notT st rfl rfl ?_ ); clear st; intro _ st)  | (refine o_lss st rfl rfl rfl ?_ ?_ <;> clear st <;> intro _ _ st <;> (try (exfalso; omega))) ))
  clear st
  intro z w' st
  cases hab : lt0 y
  all_goals
    rw [hab] at h
    simp only [Bool.false_eq_true, if_false, if_true] at h
    (repeat' (first | (refine o_flssW st rfl rfl iy i0 hab rfl ?_; clear st; intro _ st)  | (refine o_fneg st rfl rfl ?_; clear st; intro _ st)  | (refine o_fcvW st rfl h rfl ?_; clear st; intro _ st)  | refine c_seq ?_  | refine c_region ?_  | refine l_do ?_  | refine l_doG st rfl rfl ?_  | ((first | refine l_skip st rfl rfl rfl rfl ?_); clear st; intro _ st)  | refine l_nil ?_  | refine x_then ?_  | refine x_thenE ?_  | refine x_blkN ?_  | refine x_blkE ?_  | refine wp_ret ?_  | refine wp_skip ?_  | refine wp_block ?_  | refine wp_exit ?_  | refine c_condT st rfl ?_  | refine c_condF st rfl ?_  | ((first | refine o_move st rfl rfl ?_  | refine o_assign st rfl rfl ?_  | refine o_pickT st rfl rfl rfl ?_  | refine o_pickF st rfl rfl rfl ?_  | refine o_add64 st rfl rfl rfl (by omega) (by omega) ?_  | refine o_notT st rfl rfl ?_ ); clear st; intro _ st)  | (refine o_lss st rfl rfl rfl ?_ ?_ <;> clear st <;> intro _ _ st <;> (try (exfalso; omega))) ))
    refine post1 st Try.results110 (rd_t st rfl) ?_
    exact ⟨rfl, st.ex0⟩
/-- A complex number whose angle is asked. -/
theorem AngleOf_ok (x : Nat × Nat) (r : Nat) (h : ∀ w, CV Try.prog 110 [.float .f32 x.2, .float .f32 x.1] w (.float .f32 r)) (w : World) : CV Try.prog 62 [.complex .f32 x.1 x.2] w (.float .f32 r) := by
  refine enter Try.func62 rfl rfl rfl rfl ?_
  intro z st
  (repeat' (first | (refine o_callV st rfl (h _) rfl ?_; clear st; intro _ _ st)  | (refine o_real st rfl rfl ?_; clear st; intro _ st)  | (refine o_imag st rfl rfl ?_; clear st; intro _ st)  | refine c_seq ?_  | refine c_region ?_  | refine l_do ?_  | refine l_nil ?_  | refine x_then ?_  | refine wp_ret ?_  | ((first | refine o_move st rfl rfl ?_  | refine o_assign st rfl rfl ?_); clear st; intro _ st)))
  refine post1 st Try.results62 (rd_t st rfl) ?_
  exact ⟨rfl, st.ex0⟩
end Go.Proofs.Ytonbcbhnnflohaa
