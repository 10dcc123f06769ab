/-
  FnLoops: loops of points over words (walks).
-/
import Derived.Test.YtonbcbhnnflohaaPa
import Derived.Test.YtonbcbhnnflohaaPb
namespace Go.Proofs.Ytonbcbhnnflohaa
open Go.RowKit
section
variable {P : Program} {w0 w : World} {N : Nat} {a : Act} {E : List (Nat × Value)} {L Lh : List Ent} {K : Act → World → Prop} {Q : Exit → Act → World → Prop}
variable {d : Nat} {ty : TypeId} {pos : String} {aft : Array Edge} {g : Option (Nat × Bool)}
theorem o_remJ {x y : Operand} {t ys : TypeId} {a' b' : Int} (i j : Nat) (st : St w0 N a w E L) (hx : evE E x = some (.int .i64 a')) (hy : evE E y = some (.int .i64 b')) (ha : a' = (i : Int)) (hb : b' = (j : Int)) (hj : 0 < j) (hd : Nat.blt d N = true)
    (h : ∀ a', St w0 N a' w ((d, .int .i64 ((i % j : Nat) : Int)) :: E) L → K a' w) : Oper.wp P ⟨some d, .binOp .rem t x y ys, ty, pos, aft, g⟩ a w K Q := by
  subst ha
  subst hb
  exact o_rem64 st hx hy hj hd h
end
/-- The points of a loop. -/
def pAt (ps : List Kn) (i : Nat) : Nat × Nat := ((ps.getD i (0, 0, 0)).1, (ps.getD i (0, 0, 0)).2.1)
theorem pAt_eq {ps : List Kn} {i : Nat} (h : i < ps.length) : pAt ps i = (ps[i].1, ps[i].2.1) := by
  unfold pAt
  rw [List.getD_eq_getElem?_getD, List.getElem?_eq_getElem h]
  rfl
structure LoopOk (ps : List Kn) : Prop where
  lo : 3 ≤ ps.length
  hi : ps.length ≤ 64
  gd : ∀ k ∈ ps, Gd k.1 ∧ Gd k.2.1
def crossW (p q : Nat × Nat) : Wd :=
  bw (fop .mul .f32 (some p.1) (some q.2)) fun u =>
  bw (fop .mul .f32 (some p.2) (some q.1)) fun v =>
  fop .sub .f32 (some u) (some v)
/-- The sum of the cross products, from number i on. -/
def areaL (f : Nat → Nat × Nat) (n : Nat) : Nat → Nat → Nat → Wd
  | 0, _, s => some s
  | k + 1, i, s => bw (crossW (f i) (f ((i + 1) % n))) fun c => bw (fop .add .f32 (some s) (some c)) fun s' => areaL f n k (i + 1) s'
def areaS (ps : List Kn) : Wd := bw (areaL (pAt ps) ps.length ps.length 0 0) fun s => fop .quo .f32 (some s) (some 1073741824)
def gdB (x : Nat) : Bool := chk .f32 x && (match fop .sub .f32 (some x) (some x) with
  | none => false
  | some z => feqB .f32 (some z) (some 0))
theorem Gd_lit {x : Nat} (h : gdB x = true) : Gd x := by
  unfold gdB at h
  simp only [Bool.and_eq_true] at h
  obtain ⟨h1, h2⟩ := h
  refine ⟨chk_is h1, ?_⟩
  split at h2
  · cases h2
  · rename_i z hz
    exact ⟨z, hz, h2⟩
attribute [local irreducible] Code.wp wpList Oper.wp Calls bodyPost Exit.then Exit.inBlock
attribute [local irreducible] fop fltB fgtB feqB fgeB fleB floatOfInt floatToFloatBits floatToIntVal

theorem isLoop_ok (ps : List Kn) (h : LoopOk ps) (base : Option Addr) (cap : Nat) (w : World) (hr : RdV w base (ps.map vPt)) : CV Try.prog 60 [.slice base ps.length cap] w (.bool true) := by
  have h3 := h.lo
  have h64 := h.hi
  have c3 := fun w hp => arePoints_ok (ps.map vPt) (by
    intro v hv w
    obtain ⟨k, hk', rfl⟩ := List.mem_map.1 hv
    exact arePoints1_ok (k.1, k.2.1) (h.gd k hk').1 (h.gd k hk').2 w) base cap (by rw [List.length_map]; omega) w hp
  rw [List.length_map] at c3
  refine enter Try.func60 rfl rfl rfl rfl ?_
  intro a st
  (repeat' (first | (refine o_callV st rfl (c3 _ (hr.mono st.below)) rfl ?_; clear st; intro _ _ st)  | refine c_seq ?_  | refine c_region ?_  | refine l_do ?_  | refine l_doG st rfl rfl ?_  | refine l_nil ?_  | refine x_then ?_  | refine wp_ret ?_  | ((first | refine o_move st rfl rfl ?_  | refine o_assign st rfl rfl ?_  | refine o_pickT st rfl rfl rfl ?_  | refine o_len st rfl rfl ?_); clear st; intro _ st)  | ((first | refine o_leq st rfl rfl rfl ?_ ?_  | refine o_geq st rfl rfl rfl ?_ ?_) <;> clear st <;> intro _ _ st <;> (try (exfalso; omega)))))
  refine post1 st Try.results60 (rd_t st rfl) ?_
  exact ⟨rfl, st.ex0⟩
theorem cross_ok (p q : Nat × Nat) (r : Nat) (h : crossW p q = some r) (w : World) : CV Try.prog 67 [.complex .f32 p.1 p.2, .complex .f32 q.1 q.2] w (.float .f32 r) := by
  unfold crossW at h
  obtain ⟨u, hu, h⟩ := bw_some h
  obtain ⟨v, hv, h⟩ := bw_some h
  refine enter Try.func67 rfl rfl rfl rfl ?_
  intro a st
  (repeat' (first | (refine o_real st rfl rfl ?_; clear st; intro _ st)  | (refine o_imag st rfl rfl ?_; clear st; intro _ st)  | (refine o_fopK st rfl rfl hu rfl ?_; clear st; intro _ st)  | (refine o_fopK st rfl rfl hv rfl ?_; clear st; intro _ st)  | (refine o_fopK st rfl rfl h rfl ?_; clear st; intro _ st)  | refine c_seq ?_  | refine c_region ?_  | refine l_do ?_  | refine l_nil ?_  | refine x_then ?_  | refine wp_ret ?_  | ((first | refine o_move st rfl rfl ?_  | refine o_assign st rfl rfl ?_); clear st; intro _ st) ))
  refine post1 st Try.results67 (rd_t st rfl) ?_
  exact ⟨rfl, st.ex0⟩
theorem ifNumber_ok (x : Nat) (h : Gd x) (w : World) : CV Try.prog 65 [.float .f32 x] w (.tuple #[.float .f32 x, .bool true]) := by
  have c1 := fun w => IsFinite_ok x h w
  refine enter Try.func65 rfl rfl rfl rfl ?_
  intro y st
  (repeat' (first | (refine o_callV st rfl (c1 _) rfl ?_; clear st; intro _ _ st)  | refine c_seq ?_  | refine c_region ?_  | refine l_do ?_  | refine l_nil ?_  | refine x_then ?_  | refine wp_ret ?_  | refine wp_skip ?_  | refine c_condF st rfl ?_  | ((first | refine o_move st rfl rfl ?_  | refine o_assign st rfl rfl ?_  | refine o_notT st rfl rfl ?_ ); clear st; intro _ st)))
  refine post2 st Try.results65 (rd_t st rfl) (rd_t st rfl) ?_
  exact ⟨rfl, st.ex0⟩
theorem areaOf_ok (ps : List Kn) (hl : LoopOk ps) (r : Nat) (h : areaS ps = some r) (base : Option Addr) (cap : Nat) (w : World) (hr : RdV w base (ps.map vPt)) : CV Try.prog 68 [.slice base ps.length cap] w (.float .f32 r) := by
  have h3 := hl.lo
  have h64 := hl.hi
  unfold areaS at h
  obtain ⟨s0, hs0, h⟩ := bw_some h
  obtain ⟨blk, off, arr, t, fr, rfl, hw, hg⟩ := hr.get (by intro h; have := congrArg List.length h; rw [List.length_map] at this; simp at this; subst this; simp at h3)
  have gt : ∀ (j : Nat) (hj : j < ps.length), arr[off + ((j : Nat) : Int).toNat * 1]? = some (vPt ps[j]) := by
    intro j hj
    have := hg j (by rw [List.length_map]; exact hj)
    rw [List.getElem_map] at this
    simpa using this
  refine enter Try.func68 rfl rfl rfl rfl ?_
  intro a st
  have st := st.addOld hw
  (repeat' (first | refine c_seq ?_  | refine c_region ?_  | refine l_do ?_  | refine l_nil ?_  | refine x_then ?_  | refine x_thenE ?_  | refine x_blkN ?_  | refine x_blkE ?_  | refine wp_ret ?_  | refine wp_skip ?_  | refine wp_block ?_  | refine wp_exit ?_  | refine c_condT st rfl ?_  | refine c_condF st rfl ?_  | ((first | refine o_move st rfl rfl ?_  | refine o_assign st rfl rfl ?_  | refine o_loadS st rfl (by repeat constructor) rfl rfl ?_  | refine o_len st rfl rfl ?_  | refine o_add64 st rfl rfl rfl (by omega) (by omega) ?_); clear st; intro _ st)  | (refine o_lss st rfl rfl rfl ?_ ?_ <;> clear st <;> intro _ _ st <;> (try (exfalso; omega)))))
  refine wp_loop_ghost (fun z a w' => ∃ i s : Nat, i + z = ps.length ∧ areaL (pAt ps) ps.length z i s = some s0 ∧ St w Try.f68.ntmps a w' [(0, .slice (some ⟨blk, off, none⟩) ps.length cap), (3, .float .f32 s), (6, .slice (some ⟨blk, off, none⟩) ps.length cap), (7, .int .i64 ps.length), (8, .int .i64 (i : Nat))] [⟨blk, false, .cells arr t fr⟩]) ps.length ⟨0, 0, by omega, hs0, (st.fit (by repeat (first | exact trivial  | refine And.intro rfl ?_))).subL (by repeat (first | exact List.Sublist.refl _  | apply List.Sublist.cons_cons  | apply List.Sublist.cons  | exact List.nil_sublist _))⟩ ?_
  clear st
  rintro z a w' ⟨i, s, hi, hs, st⟩
  cases z with
  | zero =>
    obtain rfl := Option.some.inj hs
    obtain rfl : i = ps.length := by omega
    (repeat' (first | (refine o_fopK st rfl rfl h rfl ?_; clear st; intro _ st)  | refine c_seq ?_  | refine c_region ?_  | refine l_do ?_  | refine l_nil ?_  | refine x_then ?_  | refine x_thenE ?_  | refine x_blkN ?_  | refine x_blkE ?_  | refine wp_ret ?_  | refine wp_skip ?_  | refine wp_block ?_  | refine wp_exit ?_  | refine c_condT st rfl ?_  | refine c_condF st rfl ?_  | ((first | refine o_move st rfl rfl ?_  | refine o_assign st rfl rfl ?_  | refine o_loadS st rfl (by repeat constructor) rfl rfl ?_  | refine o_len st rfl rfl ?_  | refine o_add64 st rfl rfl rfl (by omega) (by omega) ?_); clear st; intro _ st)  | (refine o_lss st rfl rfl rfl ?_ ?_ <;> clear st <;> intro _ _ st <;> (try (exfalso; omega)))))
    refine post1 st Try.results68 (rd_t st rfl) ?_
    exact ⟨rfl, st.ex0⟩
  | succ z =>
    have hlt : i < ps.length := by omega
    have hmod : (i + 1) % ps.length < ps.length := Nat.mod_lt _ (by omega)
    obtain ⟨c, hc, hs⟩ := bw_some hs
    obtain ⟨s', hs', hs⟩ := bw_some hs
    rw [pAt_eq hlt, pAt_eq hmod] at hc
    have c1 := fun w => cross_ok _ _ c hc w
    have g1 := gt i hlt
    have g2 := gt ((i + 1) % ps.length) hmod
    (repeat' (first | (refine o_indexAddr st rfl rfl (by omega) (by omega) rfl ?_; clear st; intro _ st)  | (refine o_loadS st rfl (by repeat constructor) g1 rfl ?_; clear st; intro _ st)  | (refine o_loadS st rfl (by repeat constructor) g2 rfl ?_; clear st; intro _ st)  | (refine o_remJ (i + 1) ps.length st rfl rfl (by omega) rfl (by omega) rfl ?_; clear st; intro _ st)  | (refine o_callV st rfl (c1 _) rfl ?_; clear st; intro _ _ st)  | (refine o_fopK st rfl rfl hs' rfl ?_; clear st; intro _ st)  | refine c_seq ?_  | refine c_region ?_  | refine l_do ?_  | refine l_nil ?_  | refine x_then ?_  | refine x_thenE ?_  | refine x_blkN ?_  | refine x_blkE ?_  | refine wp_ret ?_  | refine wp_skip ?_  | refine wp_block ?_  | refine wp_exit ?_  | refine c_condT st rfl ?_  | refine c_condF st rfl ?_  | ((first | refine o_move st rfl rfl ?_  | refine o_assign st rfl rfl ?_  | refine o_loadS st rfl (by repeat constructor) rfl rfl ?_  | refine o_len st rfl rfl ?_  | refine o_add64 st rfl rfl rfl (by omega) (by omega) ?_); clear st; intro _ st)  | (refine o_lss st rfl rfl rfl ?_ ?_ <;> clear st <;> intro _ _ st <;> (try (exfalso; omega)))))
    exact ⟨z, by omega, i + 1, s', by omega, hs, (st.fit (by repeat (first | exact trivial  | refine And.intro rfl ?_))).subL (by repeat (first | exact List.Sublist.refl _  | apply List.Sublist.cons_cons  | apply List.Sublist.cons  | exact List.nil_sublist _))⟩
theorem AreaOfLoop_ok (ps : List Kn) (hl : LoopOk ps) (r : Nat) (h : areaS ps = some r) (hg : Gd r) (base : Option Addr) (cap : Nat) (w : World) (hr : RdV w base (ps.map vPt)) : CV Try.prog 23 [.slice base ps.length cap] w (.tuple #[.float .f32 r, .bool true]) := by
  have c1 := fun w hr => isLoop_ok ps hl base cap w hr
  have c2 := fun w hr => areaOf_ok ps hl r h base cap w hr
  have c3 := fun w => ifNumber_ok r hg w
  refine enter Try.func23 rfl rfl rfl rfl ?_
  intro a st
  (repeat' (first | (refine o_callV st rfl (c1 _ (hr.mono st.below)) rfl ?_; clear st; intro _ _ st)  | (refine o_callV st rfl (c2 _ (hr.mono st.below)) rfl ?_; clear st; intro _ _ st)  | (refine o_callV st rfl (c3 _) rfl ?_; clear st; intro _ _ st)  | refine c_seq ?_  | refine c_region ?_  | refine l_do ?_  | refine l_nil ?_  | refine x_then ?_  | refine wp_ret ?_  | refine wp_skip ?_  | refine c_condF st rfl ?_  | ((first | refine o_move st rfl rfl ?_  | refine o_assign st rfl rfl ?_  | refine o_extract st rfl rfl rfl ?_  | refine o_notT st rfl rfl ?_ ); clear st; intro _ st)))
  refine post2 st Try.results23 (rd_t st rfl) (rd_t st rfl) ?_
  exact ⟨rfl, st.ex0⟩
end Go.Proofs.Ytonbcbhnnflohaa

namespace Go.Proofs.Ytonbcbhnnflohaa
open Go.RowKit

def wstep (b1 b2 b3 b4 b5 b6 : Bool) (c : Int) : Int := cond (b1 && b2 && b3) (c + 1) (cond (b4 && b5 && b6) (c - 1) c)
/-- The count of windings, from number i on. -/
def windL (f : Nat → Nat × Nat) (n : Nat) (z : Nat × Nat) : Nat → Nat → Int → Option Int
  | 0, _, c => some c
  | k + 1, i, c => (minusW (f ((i + 1) % n)) (f i)).bind fun a => (minusW z (f i)).bind fun b => bw (crossW a b) fun s =>
    windL f n z k (i + 1) (wstep (fleB .f32 (some (f i).2) (some z.2)) (fgtB .f32 (some (f ((i + 1) % n)).2) (some z.2)) (fgtB .f32 (some s) (some 0)) (fgtB .f32 (some (f i).2) (some z.2)) (fleB .f32 (some (f ((i + 1) % n)).2) (some z.2)) (fltB .f32 (some s) (some 0)) c)
/-- What is told about a loop's turns. -/
structure TurnsOk (ps qs : List Kn) (l : Nat → Nat) (m : Nat → Nat × Nat) (g s : Nat → Nat) : Prop where
  lk : qs.length = ps.length
  hq : ∀ i (_ : i < ps.length), minusW (pAt ps ((i + 1) % ps.length)) (pAt ps i) = some (pAt qs i)
  hl : ∀ i (_ : i < ps.length), longW (pAt qs i).1 (pAt qs i).2 = some (l i) ∧ Is .f32 (l i) (some (l i)) ∧ fgtB .f32 (some (l i)) (some 0) = true
  hm : ∀ i (_ : i < ps.length), mulC (pAt qs i) ((pAt qs ((i + ps.length - 1) % ps.length)).1, Op.negFloat .f32 (pAt qs ((i + ps.length - 1) % ps.length)).2) = some (m i)
  ha : ∀ i (_ : i < ps.length), Is .f32 (m i).2 (some (m i).2) ∧ Is .f32 (m i).1 (some (m i).1) ∧ fin32 (m i).2 = some true ∧ fin32 (m i).1 = some true ∧ (feqB .f32 (some (m i).1) (some 0) = false ∨ feqB .f32 (some (m i).1) (some 0) = true ∧ feqB .f32 (some (m i).2) (some 0) = false) ∧ angleW (m i).2 (m i).1 = some (g i)
  s0 : s 0 = 0
  hs : ∀ i (_ : i < ps.length), fop .add .f32 (some (s i)) (some (g i)) = some (s (i + 1))
  gs : Gd (s ps.length)
attribute [local irreducible] Code.wp wpList Oper.wp Calls bodyPost Exit.then Exit.inBlock
attribute [local irreducible] fop fltB fgtB feqB fgeB fleB floatOfInt floatToFloatBits floatToIntVal longW

theorem Conj_ok (x : Nat × Nat) (w : World) : CV Try.prog 64 [.complex .f32 x.1 x.2] w (.complex .f32 x.1 (Op.negFloat .f32 x.2)) := by
  refine enter Try.func64 rfl rfl rfl rfl ?_
  intro a st
  (repeat' (first | (refine o_real st rfl rfl ?_; clear st; intro _ st)  | (refine o_imag st rfl rfl ?_; clear st; intro _ st)  | (refine o_complex st rfl rfl rfl ?_; clear st; intro _ st)  | (refine o_fneg st rfl rfl ?_; clear st; intro _ st)  | refine c_seq ?_  | refine c_region ?_  | refine l_do ?_  | refine l_nil ?_  | refine x_then ?_  | refine wp_ret ?_  | ((first | refine o_move st rfl rfl ?_  | refine o_assign st rfl rfl ?_); clear st; intro _ st)))
  refine post1 st Try.results64 (rd_t st rfl) ?_
  exact ⟨rfl, st.ex0⟩
theorem three_b (b1 b2 b3 : Bool) : (b1 = true ∧ b2 = true ∧ b3 = true) ∨ (b1 = false) ∨ (b1 = true ∧ b2 = false) ∨ (b1 = true ∧ b2 = true ∧ b3 = false) := by
  cases b1 <;> cases b2 <;> cases b3 <;> simp
set_option maxHeartbeats 32000000 in
theorem WindingAt_ok (ps : List Kn) (hl : LoopOk ps) (z : Nat × Nat) (hz : Gd z.1 ∧ Gd z.2) (r : Int) (h : windL (pAt ps) ps.length z ps.length 0 0 = some r) (base : Option Addr) (cap : Nat) (w : World) (hr : RdV w base (ps.map vPt)) : CV Try.prog 22 [.slice base ps.length cap, .complex .f32 z.1 z.2] w (.tuple #[.int .i64 r, .bool true]) := by
  have h3 := hl.lo
  have h64 := hl.hi
  have c1 := fun w hr => isLoop_ok ps hl base cap w hr
  have c2 := fun w => IsFiniteComplex_ok z hz.1 hz.2 w
  have hr0 := hr
  obtain ⟨blk, off, arr, t, fr, rfl, hw, hg⟩ := hr.get (by intro h; have := congrArg List.length h; rw [List.length_map] at this; simp at this; subst this; simp at h3)
  have gt : ∀ (j : Nat) (hj : j < ps.length), arr[off + ((j : Nat) : Int).toNat * 1]? = some (vPt ps[j]) := by
    intro j hj
    have := hg j (by rw [List.length_map]; exact hj)
    rw [List.getElem_map] at this
    simpa using this
  refine enter Try.func22 rfl rfl rfl rfl ?_
  intro a st
  have st := st.addOld hw
  (repeat' (first | (refine o_callV st rfl (c1 _ (hr0.mono st.below)) rfl ?_; clear st; intro _ _ st)  | (refine o_callV st rfl (c2 _) rfl ?_; clear st; intro _ _ st)  | refine c_seq ?_  | refine c_region ?_  | refine l_do ?_  | refine l_doG st rfl rfl ?_  | ((first | refine l_skip st rfl rfl rfl rfl ?_); clear st; intro _ st)  | refine l_nil ?_  | refine x_then ?_  | refine x_thenE ?_  | refine x_blkN ?_  | refine x_blkE ?_  | refine wp_ret ?_  | refine wp_skip ?_  | refine wp_block ?_  | refine wp_exit ?_  | refine c_condT st rfl ?_  | refine c_condF st rfl ?_  | ((first | refine o_move st rfl rfl ?_  | refine o_assign st rfl rfl ?_  | refine o_pickT st rfl rfl rfl ?_  | refine o_pickF st rfl rfl rfl ?_  | refine o_loadS st rfl (by repeat constructor) rfl rfl ?_  | refine o_len st rfl rfl ?_  | refine o_add64 st rfl rfl rfl (by omega) (by omega) ?_  | refine o_sub64 st rfl rfl rfl (by omega) (by omega) ?_  | refine o_notT st rfl rfl ?_ ); clear st; intro _ st)  | (refine o_lss st rfl rfl rfl ?_ ?_ <;> clear st <;> intro _ _ st <;> (try (exfalso; omega))) ))
  refine wp_loop_ghost (fun y a w' => ∃ (i : Nat) (c : Int), i + y = ps.length ∧ windL (pAt ps) ps.length z y i c = some r ∧ -(i : Int) ≤ c ∧ c ≤ (i : Int) ∧ St w Try.f22.ntmps a w' [(0, .slice (some ⟨blk, off, none⟩) ps.length cap), (1, .complex .f32 z.1 z.2), (6, .int .i64 c), (19, .slice (some ⟨blk, off, none⟩) ps.length cap), (20, .int .i64 ps.length), (21, .int .i64 (i : Nat))] [⟨blk, false, .cells arr t fr⟩]) ps.length ⟨0, 0, by omega, h, by omega, by omega, (st.fit (by repeat (first | exact trivial  | refine And.intro rfl ?_))).subL (by repeat (first | exact List.Sublist.refl _  | apply List.Sublist.cons_cons  | apply List.Sublist.cons  | exact List.nil_sublist _))⟩ ?_
  clear st
  rintro y a w' ⟨i, c, hi, hs, hc1, hc2, st⟩
  cases y with
  | zero =>
    obtain rfl := Option.some.inj hs
    obtain rfl : i = ps.length := by omega
    (repeat' (first | refine c_seq ?_  | refine c_region ?_  | refine l_do ?_  | refine l_doG st rfl rfl ?_  | ((first | refine l_skip st rfl rfl rfl rfl ?_); clear st; intro _ st)  | refine l_nil ?_  | refine x_then ?_  | refine x_thenE ?_  | refine x_blkN ?_  | refine x_blkE ?_  | refine wp_ret ?_  | refine wp_skip ?_  | refine wp_block ?_  | refine wp_exit ?_  | refine c_condT st rfl ?_  | refine c_condF st rfl ?_  | ((first | refine o_move st rfl rfl ?_  | refine o_assign st rfl rfl ?_  | refine o_pickT st rfl rfl rfl ?_  | refine o_pickF st rfl rfl rfl ?_  | refine o_loadS st rfl (by repeat constructor) rfl rfl ?_  | refine o_len st rfl rfl ?_  | refine o_add64 st rfl rfl rfl (by omega) (by omega) ?_  | refine o_sub64 st rfl rfl rfl (by omega) (by omega) ?_  | refine o_notT st rfl rfl ?_ ); clear st; intro _ st)  | (refine o_lss st rfl rfl rfl ?_ ?_ <;> clear st <;> intro _ _ st <;> (try (exfalso; omega))) ))
    refine post2 st Try.results22 (rd_t st rfl) (rd_t st rfl) ?_
    exact ⟨rfl, st.ex0⟩
  | succ y =>
    have hlt : i < ps.length := by omega
    have hmod : (i + 1) % ps.length < ps.length := Nat.mod_lt _ (by omega)
    obtain ⟨e, he, hs⟩ := ob hs
    obtain ⟨f, hf, hs⟩ := ob hs
    obtain ⟨s, hcs, hs⟩ := bw_some hs
    have is : Is .f32 s (some s) := by
      unfold crossW at hcs
      obtain ⟨_, _, hcs⟩ := bw_some hcs
      obtain ⟨_, _, hcs⟩ := bw_some hcs
      exact fop_is hcs
    rw [pAt_eq hlt, pAt_eq hmod] at he hs
    rw [pAt_eq hlt] at hf
    have k1 := fun w => minus_ok _ _ e he w
    have k2 := fun w => minus_ok _ _ f hf w
    have k3 := fun w => cross_ok e f s hcs w
    have g1 := gt i hlt
    have g2 := gt ((i + 1) % ps.length) hmod
    have ip := (hl.gd _ (List.getElem_mem hlt)).2.is
    have iq := (hl.gd _ (List.getElem_mem hmod)).2.is
    have iz := hz.2.is
    generalize hb1 : fleB .f32 (some ps[i].2.1) (some z.2) = b1 at hs
    generalize hb2 : fgtB .f32 (some ps[(i + 1) % ps.length].2.1) (some z.2) = b2 at hs
    generalize hb3 : fgtB .f32 (some s) (some 0) = b3 at hs
    generalize hb4 : fgtB .f32 (some ps[i].2.1) (some z.2) = b4 at hs
    generalize hb5 : fleB .f32 (some ps[(i + 1) % ps.length].2.1) (some z.2) = b5 at hs
    generalize hb6 : fltB .f32 (some s) (some 0) = b6 at hs
    rcases three_b b1 b2 b3 with ⟨rfl, rfl, rfl⟩ | hcase
    · (repeat' (first | (refine o_indexAddr st rfl rfl (by omega) (by omega) rfl ?_; clear st; intro _ st)  | (refine o_loadS st rfl (by repeat constructor) g1 rfl ?_; clear st; intro _ st)  | (refine o_loadS st rfl (by repeat constructor) g2 rfl ?_; clear st; intro _ st)  | (refine o_remJ (i + 1) ps.length st rfl rfl (by omega) rfl (by omega) rfl ?_; clear st; intro _ st)  | (refine o_callV st rfl (k1 _) rfl ?_; clear st; intro _ _ st)  | (refine o_callV st rfl (k2 _) rfl ?_; clear st; intro _ _ st)  | (refine o_callV st rfl (k3 _) rfl ?_; clear st; intro _ _ st)  | (refine o_imag st rfl rfl ?_; clear st; intro _ st)  | (refine o_fleqW st rfl rfl ip iz hb1 rfl ?_; clear st; intro _ st)  | (refine o_fgtrW st rfl rfl iq iz hb2 rfl ?_; clear st; intro _ st)  | (refine o_fgtrW st rfl rfl is i32_0 hb3 rfl ?_; clear st; intro _ st)  | refine c_seq ?_  | refine c_region ?_  | refine l_do ?_  | refine l_doG st rfl rfl ?_  | ((first | refine l_skip st rfl rfl rfl rfl ?_); clear st; intro _ st)  | refine l_nil ?_  | refine x_then ?_  | refine x_thenE ?_  | refine x_blkN ?_  | refine x_blkE ?_  | refine wp_ret ?_  | refine wp_skip ?_  | refine wp_block ?_  | refine wp_exit ?_  | refine c_condT st rfl ?_  | refine c_condF st rfl ?_  | ((first | refine o_move st rfl rfl ?_  | refine o_assign st rfl rfl ?_  | refine o_pickT st rfl rfl rfl ?_  | refine o_pickF st rfl rfl rfl ?_  | refine o_loadS st rfl (by repeat constructor) rfl rfl ?_  | refine o_len st rfl rfl ?_  | refine o_add64 st rfl rfl rfl (by omega) (by omega) ?_  | refine o_sub64 st rfl rfl rfl (by omega) (by omega) ?_  | refine o_notT st rfl rfl ?_ ); clear st; intro _ st)  | (refine o_lss st rfl rfl rfl ?_ ?_ <;> clear st <;> intro _ _ st <;> (try (exfalso; omega))) ))
      exact ⟨y, by omega, i + 1, c + 1, by omega, hs, by omega, by omega, (st.fit (by repeat (first | exact trivial  | refine And.intro rfl ?_))).subL (by repeat (first | exact List.Sublist.refl _  | apply List.Sublist.cons_cons  | apply List.Sublist.cons  | exact List.nil_sublist _))⟩
    · have e1 : (b1 && b2 && b3) = false := by
        rcases hcase with rfl | ⟨rfl, rfl⟩ | ⟨rfl, rfl, rfl⟩ <;> simp
      unfold wstep at hs
      rw [e1] at hs
      have hs : windL (pAt ps) ps.length z y (i + 1) (cond (b4 && b5 && b6) (c - 1) c) = some r := hs
      rcases hcase with rfl | ⟨rfl, rfl⟩ | ⟨rfl, rfl, rfl⟩
      all_goals
        rcases three_b b4 b5 b6 with ⟨rfl, rfl, rfl⟩ | rfl | ⟨rfl, rfl⟩ | ⟨rfl, rfl, rfl⟩
        all_goals
          (repeat' (first | (refine o_indexAddr st rfl rfl (by omega) (by omega) rfl ?_; clear st; intro _ st)  | (refine o_loadS st rfl (by repeat constructor) g1 rfl ?_; clear st; intro _ st)  | (refine o_loadS st rfl (by repeat constructor) g2 rfl ?_; clear st; intro _ st)  | (refine o_remJ (i + 1) ps.length st rfl rfl (by omega) rfl (by omega) rfl ?_; clear st; intro _ st)  | (refine o_callV st rfl (k1 _) rfl ?_; clear st; intro _ _ st)  | (refine o_callV st rfl (k2 _) rfl ?_; clear st; intro _ _ st)  | (refine o_callV st rfl (k3 _) rfl ?_; clear st; intro _ _ st)  | (refine o_imag st rfl rfl ?_; clear st; intro _ st)  | (refine o_fleqW st rfl rfl ip iz hb1 rfl ?_; clear st; intro _ st)  | (refine o_fgtrW st rfl rfl iq iz hb2 rfl ?_; clear st; intro _ st)  | (refine o_fgtrW st rfl rfl is i32_0 hb3 rfl ?_; clear st; intro _ st)  | (refine o_fgtrW st rfl rfl ip iz hb4 rfl ?_; clear st; intro _ st)  | (refine o_fleqW st rfl rfl iq iz hb5 rfl ?_; clear st; intro _ st)  | (refine o_flssW st rfl rfl is i32_0 hb6 rfl ?_; clear st; intro _ st)  | refine c_seq ?_  | refine c_region ?_  | refine l_do ?_  | refine l_doG st rfl rfl ?_  | ((first | refine l_skip st rfl rfl rfl rfl ?_); clear st; intro _ st)  | refine l_nil ?_  | refine x_then ?_  | refine x_thenE ?_  | refine x_blkN ?_  | refine x_blkE ?_  | refine wp_ret ?_  | refine wp_skip ?_  | refine wp_block ?_  | refine wp_exit ?_  | refine c_condT st rfl ?_  | refine c_condF st rfl ?_  | ((first | refine o_move st rfl rfl ?_  | refine o_assign st rfl rfl ?_  | refine o_pickT st rfl rfl rfl ?_  | refine o_pickF st rfl rfl rfl ?_  | refine o_loadS st rfl (by repeat constructor) rfl rfl ?_  | refine o_len st rfl rfl ?_  | refine o_add64 st rfl rfl rfl (by omega) (by omega) ?_  | refine o_sub64 st rfl rfl rfl (by omega) (by omega) ?_  | refine o_notT st rfl rfl ?_ ); clear st; intro _ st)  | (refine o_lss st rfl rfl rfl ?_ ?_ <;> clear st <;> intro _ _ st <;> (try (exfalso; omega))) ))
          first
            | exact ⟨y, by omega, i + 1, c - 1, by omega, hs, by omega, by omega, (st.fit (by repeat (first | exact trivial  | refine And.intro rfl ?_))).subL (by repeat (first | exact List.Sublist.refl _  | apply List.Sublist.cons_cons  | apply List.Sublist.cons  | exact List.nil_sublist _))⟩
            | exact ⟨y, by omega, i + 1, c, by omega, by simpa using hs, by omega, by omega, (st.fit (by repeat (first | exact trivial  | refine And.intro rfl ?_))).subL (by repeat (first | exact List.Sublist.refl _  | apply List.Sublist.cons_cons  | apply List.Sublist.cons  | exact List.nil_sublist _))⟩
end Go.Proofs.Ytonbcbhnnflohaa
