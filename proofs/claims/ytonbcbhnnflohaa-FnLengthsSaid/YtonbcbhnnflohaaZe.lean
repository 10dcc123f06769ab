/-
  FnCurves: curves that are valid, cut, turned, raised. (printed by a program)
-/
import Derived.Test.YtonbcbhnnflohaaYh
import Derived.Test.YtonbcbhnnflohaaZa
import Derived.Test.YtonbcbhnnflohaaSq
import Derived.Laws.ComplexArith
namespace Go.Proofs.Ytonbcbhnnflohaa
open Go.RowKit
section
variable {w0 w : World} {N : Nat} {a : Act} {E : List (Nat × Value)} {L : List Ent}
end
/-- The shares of a raised curve. -/
def shareW (i m : Int) : Option Nat := fop .quo .f32 (some (floatOfInt .f32 i)) (some (floatOfInt .f32 m))
attribute [local irreducible] Code.wp wpList Oper.wp Calls bodyPost Exit.then Exit.inBlock

theorem CutCurve_ok (c : List Kn) (t : Nat) (l r : List Kn) (h : cutC (c.length - 1) c t = some (l, r)) (hg : GC c) (ht : Tm t) (hgl : GC l) (hgr : GC r.reverse) (v : Value) (w : World) (hv : CrV w c v) :
    CM4 Try.prog 11 [v, .float .f32 t] w (fun va vb => .tuple #[va, vb, .bool true]) l r.reverse := by
  have h2 := hg.lo
  have h8 := hg.hi
  have c1 := fun w hv => ValidCurve_ok c v hg w hv
  have c2 := fun w => isTime_ok t ht w
  have c3 := fun w hv => cut_ok c t l r h (by omega) (by omega) v w hv
  have c4 := fun v w hv => ValidCurve_ok l v hgl w hv
  have c5 := fun v w hv => ValidCurve_ok r.reverse v hgr w hv
  have hv0 := hv
  obtain ⟨bp, cp, bw, cw, rfl, hp, hw⟩ := hv
  refine enter Try.func11 rfl rfl rfl rfl ?_
  intro a st
  (repeat' (first | (refine o_alloc (d := 7) st rfl ?_; clear st; intro p7 _ _ st)  | (refine o_alloc (d := 8) st rfl ?_; clear st; intro p8 _ _ st)  | (refine o_callV st rfl (c1 _ (hv0.mono st.below)) rfl ?_; clear st; intro _ _ st)  | (refine o_callV st rfl (c2 _) rfl ?_; clear st; intro _ _ st)  | (refine o_callM4 st rfl (c3 _ (hv0.mono st.below)) rfl ?_; clear st; rintro _ _ b1 _ b2 _ b3 _ b4 _ ⟨cap1, cap2, pad1, pad2, rfl, rfl, rfl⟩ ⟨cap3, cap4, pad3, pad4, rfl, rfl, rfl⟩ _ _ st)  | (refine o_callV st rfl (c4 _ _ (crv_own (st.heap (by repeat constructor)) (st.heap (by repeat constructor)))) rfl ?_; clear st; intro _ _ st)  | (refine o_callV st rfl (c5 _ _ (crv_own (st.heap (by repeat constructor)) (st.heap (by repeat constructor)))) rfl ?_; clear st; intro _ _ st)  | refine c_seq ?_  | refine c_region ?_  | refine l_do ?_  | refine l_doG st rfl rfl ?_  | refine l_nil ?_  | refine x_then ?_  | refine wp_ret ?_  | refine wp_skip ?_  | refine c_condF st rfl ?_  | ((first | refine o_move st rfl rfl ?_  | refine o_assign st rfl rfl ?_  | refine o_pickF st rfl rfl rfl ?_); clear st; intro _ st)  | ((first | refine o_alloc st rfl ?_  | refine o_boxA st rfl rfl ?_ ); clear st; intro _ _ _ st)  | ((first | refine o_load2 st rfl (by repeat constructor) rfl ?_ ); clear st; intro _ st)  | ((first | refine o_storeW st rfl rfl (by repeat constructor) rfl rfl rfl ?_); clear st; intro _ _ st)  | ((first | refine o_build3 st rfl rfl rfl rfl rfl rfl rfl ?_  | refine o_extract st rfl rfl rfl ?_  | refine o_notT st rfl rfl ?_ ); clear st; intro _ st)))
  refine c_draw (Lh := [eP p8 (.slice (some ⟨b3, 0, none⟩) r.reverse.length cap3) (.slice (some ⟨b4, 0, none⟩) r.reverse.length cap4), eP p7 (.slice (some ⟨b1, 0, none⟩) l.length cap1) (.slice (some ⟨b2, 0, none⟩) l.length cap2)]) (last := 4) hm_ (by decide +kernel) (by decide +kernel) st ?_; clear st; intro _ st
  refine d_v 0 st (by repeat constructor) rfl (by decide +kernel) rfl (v_load2 st rfl (by repeat constructor)) ?_; clear st; intro _ st
  refine d_v 1 st (by repeat constructor) rfl (by decide +kernel) rfl (v_load2 st rfl (by repeat constructor)) ?_; clear st; intro _ st
  refine d_one 2 (by decide +kernel) rfl ?_
  (first | ((first | refine o_storeW st rfl rfl (by repeat constructor) rfl rfl rfl ?_); clear st; intro _ _ st))
  refine kh st (by repeat constructor) ?_
  refine d_one 3 (by decide +kernel) rfl ?_
  (first | ((first | refine o_storeW st rfl rfl (by repeat constructor) rfl rfl rfl ?_); clear st; intro _ _ st))
  refine kh st (by repeat constructor) ?_
  refine d_one 4 (by decide +kernel) rfl ?_
  (first | (refine o_assign st rfl rfl ?_; clear st; intro _ st))
  refine k_last ?_
  refine d_done (by decide +kernel) ?_
  (repeat' (first | refine c_seq ?_  | refine c_region ?_  | refine l_do ?_  | refine l_doG st rfl rfl ?_  | refine l_nil ?_  | refine x_then ?_  | refine wp_ret ?_  | refine wp_skip ?_  | refine c_condF st rfl ?_  | ((first | refine o_move st rfl rfl ?_  | refine o_assign st rfl rfl ?_  | refine o_pickF st rfl rfl rfl ?_); clear st; intro _ st)  | ((first | refine o_alloc st rfl ?_  | refine o_boxA st rfl rfl ?_ ); clear st; intro _ _ _ st)  | ((first | refine o_load2 st rfl (by repeat constructor) rfl ?_ ); clear st; intro _ st)  | ((first | refine o_storeW st rfl rfl (by repeat constructor) rfl rfl rfl ?_); clear st; intro _ _ st)  | ((first | refine o_build3 st rfl rfl rfl rfl rfl rfl rfl ?_  | refine o_extract st rfl rfl rfl ?_  | refine o_notT st rfl rfl ?_ ); clear st; intro _ st)))
  refine post3 st Try.results11 (rd_c st rfl (by repeat constructor) rfl) (rd_c st rfl (by repeat constructor) rfl) (rd_t st rfl) ?_
  have st : St w _ _ _ _ (⟨b1, true, _⟩ :: ⟨b2, true, _⟩ :: ⟨b3, true, _⟩ :: ⟨b4, true, _⟩ :: []) := st.subL (by repeat (first | exact List.Sublist.refl _  | apply List.Sublist.cons_cons  | apply List.Sublist.cons  | exact List.nil_sublist _))
  exact ⟨_, _, b1, _, b2, _, b3, _, b4, _, rfl, ⟨cap1, cap2, pad1, pad2, rfl, rfl, rfl⟩, ⟨cap3, cap4, pad3, pad4, rfl, rfl, rfl⟩, st.ex4⟩
end Go.Proofs.Ytonbcbhnnflohaa

namespace Go.Proofs.Ytonbcbhnnflohaa
open Go.RowKit

theorem one3 : rF 1065353216 = 1 := by decide +kernel
theorem G1 : G 1065353216 := by show rung FloatKind.f32.format 1065353216 < _; decide +kernel
theorem times {x y Y z q p : Rat} (h : Ab (x - y * z) q) (hy : Ab y 3) (hz : Ab (z - Y) p) : Ab (x - y * Y) (q + 3 * p) :=
  (h.add (hy.mul hz)).to (by grind) (by grind)
end Go.Proofs.Ytonbcbhnnflohaa

namespace Go.Proofs.Ytonbcbhnnflohaa
open Go.RowKit

/-! ## the exact rows -/
def nextS : List Rat → Rat → List Rat
  | a :: b :: r, s => (a * (1 - s) + b * s) :: nextS (b :: r) s
  | _, _ => []
def sAt : Nat → List Rat → Rat → Rat
  | 0, xs, _ => xs.headD 0
  | n + 1, xs, s => sAt n (nextS xs s) s
theorem nextS_len (s : Rat) : ∀ xs : List Rat, (nextS xs s).length = xs.length - 1
  | [] => rfl
  | [a] => rfl
  | a :: b :: r => by
    have := nextS_len s (b :: r)
    simp only [nextS, List.length_cons] at this ⊢
    omega
theorem getLastD_cons2 (a b : Rat) (l : List Rat) : (a :: b :: l).getLastD 0 = (b :: l).getLastD 0 := by simp
/-! ## curves that are good -/
theorem cv0 : cv .f32 (some 0) = 0 := by decide +kernel
theorem G0 : G 0 := by show rung FloatKind.f32.format 0 < _; decide +kernel
end Go.Proofs.Ytonbcbhnnflohaa

namespace Go.Proofs.Ytonbcbhnnflohaa
open Go.RowKit

theorem sAt0 : ∀ (m : Nat) (xs : List Rat), xs.length = m + 1 → sAt m xs 0 = xs.headD 0
  | 0, xs, _ => rfl
  | m + 1, [], h => by simp at h
  | m + 1, [a], h => by simp at h
  | m + 1, a :: b :: r, h => by
    unfold sAt
    rw [sAt0 m _ (by rw [nextS_len]; simp at h ⊢; omega)]
    simp only [nextS, List.headD_cons]
    grind
theorem sAt1 : ∀ (m : Nat) (xs : List Rat), xs.length = m + 1 → sAt m xs 1 = xs.getLastD 0
  | 0, [], h => by simp at h
  | 0, [a], _ => rfl
  | 0, a :: b :: r, h => by simp at h
  | m + 1, xs, h => by
    unfold sAt
    rw [sAt1 m _ (by rw [nextS_len, h]; rfl)]
    have key : ∀ l : List Rat, 2 ≤ l.length → (nextS l 1).getLastD 0 = l.getLastD 0 := by
      intro l
      induction l with
      | nil => intro h; simp at h
      | cons a l ih =>
        intro hl
        cases l with
        | nil => simp at hl
        | cons b r =>
          cases r with
          | nil => simp [nextS]; grind
          | cons c r' =>
            have := ih (by simp)
            rw [getLastD_cons2, ← this]
            simp only [nextS]
            rw [getLastD_cons2]
    exact key xs (by omega)
end Go.Proofs.Ytonbcbhnnflohaa

namespace Go.Proofs.Ytonbcbhnnflohaa
open Go.RowKit

section
variable {P : Program} {w0 w : World} {N : Nat} {a : Act} {E : List (Nat × Value)} {L : List Ent} {K : Act → World → Prop} {Q : Exit → Act → World → Prop}
variable {d : Nat} {ty : TypeId} {pos : String} {aft : Array Edge} {g : Option (Nat × Bool)}
theorem o_ext {f : FuncId} {args : List Operand} {tys : Array TypeId} {vs : List Value} {v : Value} (st : St w0 N a w E L) (ha : evs E args = some vs)
    (hc : (callFunc f vs.toArray).run P w = .ok (.value v) w) (hd : Nat.blt d N = true) (h : ∀ a', St w0 N a' w ((d, v) :: E) L → K a' w) : Oper.wp P ⟨some d, .call { callee := .value (.func f), args := args.toArray, argTypes := tys }, ty, pos, aft, g⟩ a w K Q := by
  refine o_val (v := v) (w' := w) ?_ (h _ (st.put d hd _))
  simp [execOp, resolve, invoke, Deferred.ofValue, Act.eval, evs_map st ha, hc]
theorem o_csub {x y : Operand} {t ys : TypeId} {k : FloatKind} {i j i' j' u v : Nat} (st : St w0 N a w E L) (hx : evE E x = some (.complex k i j)) (hy : evE E y = some (.complex k i' j')) (hu : fop .sub k (some i) (some i') = some u) (hv : fop .sub k (some j) (some j') = some v) (hd : Nat.blt d N = true)
    (h : ∀ a', St w0 N a' w ((d, .complex k u v) :: E) L → K a' w) : Oper.wp P ⟨some d, .binOp .sub t x y ys, ty, pos, aft, g⟩ a w K Q := by
  have hu : floatBits .sub k i i' = some u := hu
  have hv : floatBits .sub k j j' = some v := hv
  refine o_val (v := .complex k u v) (w' := w) ?_ (h _ (st.put d hd _))
  have := run_complex_sum (P := P) w .sub (.inr rfl) t k i j i' j' u v (by simp [cSumBits, hu, hv])
  simp [execOp, evE_eval st hx, evE_eval st hy, eqGuard, this]
end
theorem feqB_self' {k : FloatKind} {b c : Nat} (h : Is k b (some c)) : feqB k (some c) (some c) = true := by simp [feqB, feqB_self k b c h]
def rootW (x : Nat) : Option Nat := FloatKind.f64.format.sqrt x
theorem ext_root (x r : Nat) (h : rootW x = some r) (w : World) : (callFunc 127 [.float .f64 x].toArray).run Try.prog w = .ok (.value (.float .f64 r)) w := by
  rw [run_callFunc_extern (fn := Try.f127) (e := Extern.MathSqrt.sqrt) Try.func127 (by kernel_rfl) (by kernel_rfl) (by kernel_rfl) (by kernel_rfl)]
  have hd : Extern.MathSqrt.sqrt [.float .f64 x].toArray = (match FloatKind.f64.format.sqrt x with
    | some r => pure (.float .f64 r)
    | none => do pure (.float .f64 (← choose (.nanBits .f64 x x)))) := rfl
  have h : FloatKind.f64.format.sqrt x = some r := h
  rw [hd, h]
  rfl
attribute [local irreducible] Code.wp wpList Oper.wp Calls bodyPost Exit.then Exit.inBlock
theorem Sqrt_ok (x r : Nat) (h : rootW x = some r) (w : World) : CV Try.prog 104 [.float .f64 x] w (.float .f64 r) := by
  refine enter Try.func104 rfl rfl rfl rfl ?_
  intro y st
  (repeat' (first | (refine o_ext st rfl (ext_root x r h _) rfl ?_; clear st; intro _ st)  | refine c_seq ?_  | refine c_region ?_  | refine l_do ?_  | refine l_nil ?_  | refine x_then ?_  | refine wp_ret ?_  | ((first | refine o_move st rfl rfl ?_  | refine o_assign st rfl rfl ?_); clear st; intro _ st)))
  refine post1 st Try.results104 (rd_t st rfl) ?_
  exact ⟨rfl, st.ex0⟩
/-! ## how far -/
/-- A number in other bits. -/
def cvW (s : FloatKind) (x : Nat) (k : FloatKind) : Option Nat := floatToFloatBits s x k
def longW (u v : Nat) : Option Nat :=
  (cvW .f32 u .f64).bind fun x => (cvW .f32 v .f64).bind fun y => (fop .mul .f64 (some x) (some x)).bind fun p => (fop .mul .f64 (some y) (some y)).bind fun q =>
  (fop .add .f64 (some p) (some q)).bind fun s => (rootW s).bind fun r => cvW .f64 r .f32
theorem LongOf_ok (u v r : Nat) (h : longW u v = some r) (w : World) : CV Try.prog 53 [.complex .f32 u v] w (.float .f32 r) := by
  obtain ⟨x, hx, h⟩ := ob h
  obtain ⟨y, hy, h⟩ := ob h
  obtain ⟨p, hp, h⟩ := ob h
  obtain ⟨q, hq, h⟩ := ob h
  obtain ⟨s, hs, h⟩ := ob h
  obtain ⟨z, hz, h⟩ := ob h
  have c0 : ∀ w, CV Try.prog 111 [.complex .f32 u v] w (.tuple #[.float .f64 x, .float .f64 y]) := by
    intro w
    refine enter Try.func111 rfl rfl rfl rfl ?_
    intro a st
    (repeat' (first | (refine o_real st rfl rfl ?_; clear st; intro _ st)  | (refine o_imag st rfl rfl ?_; clear st; intro _ st)  | (refine o_fcvW st rfl hx rfl ?_; clear st; intro _ st)  | (refine o_fcvW st rfl hy rfl ?_; clear st; intro _ st)  | refine c_seq ?_  | refine c_region ?_  | refine l_do ?_  | refine l_nil ?_  | refine x_then ?_  | refine wp_ret ?_  | ((first | refine o_move st rfl rfl ?_  | refine o_assign st rfl rfl ?_ ); clear st; intro _ st)))
    refine post2 st Try.results111 (rd_t st rfl) (rd_t st rfl) ?_
    exact ⟨rfl, st.ex0⟩
  have c1 : ∀ w, CV Try.prog 105 [.complex .f32 u v] w (.float .f64 s) := by
    intro w
    refine enter Try.func105 rfl rfl rfl rfl ?_
    intro a st
    (repeat' (first | (refine o_callV st rfl (c0 _) rfl ?_; clear st; intro _ _ st)  | (refine o_fopK st rfl rfl hp rfl ?_; clear st; intro _ st)  | (refine o_fopK st rfl rfl hq rfl ?_; clear st; intro _ st)  | (refine o_fopK st rfl rfl hs rfl ?_; clear st; intro _ st)  | refine c_seq ?_  | refine c_region ?_  | refine l_do ?_  | refine l_nil ?_  | refine x_then ?_  | refine wp_ret ?_  | ((first | refine o_move st rfl rfl ?_  | refine o_assign st rfl rfl ?_  | refine o_extract st rfl rfl rfl ?_); clear st; intro _ st) ))
    refine post1 st Try.results105 (rd_t st rfl) ?_
    exact ⟨rfl, st.ex0⟩
  refine enter Try.func53 rfl rfl rfl rfl ?_
  intro a st
  (repeat' (first | (refine o_callV st rfl (c1 _) rfl ?_; clear st; intro _ _ st)  | (refine o_callV st rfl (Sqrt_ok _ _ hz _) rfl ?_; clear st; intro _ _ st)  | (refine o_fcvW st rfl h rfl ?_; clear st; intro _ st)  | refine c_seq ?_  | refine c_region ?_  | refine l_do ?_  | refine l_nil ?_  | refine x_then ?_  | refine wp_ret ?_  | ((first | refine o_move st rfl rfl ?_  | refine o_assign st rfl rfl ?_ ); clear st; intro _ st)))
  refine post1 st Try.results53 (rd_t st rfl) ?_
  exact ⟨rfl, st.ex0⟩
end Go.Proofs.Ytonbcbhnnflohaa

namespace Go.Proofs.Ytonbcbhnnflohaa
open Go.RowKit

theorem write_nn (k : FloatKind) {s : Bool} {m : Nat} {p : Int} (h0 : 0 ≤ dv (.number s m p)) (hu : dv (.number s m p) < p2 127) : 0 ≤ rv k (k.format.write (.number s m p)) := by
  by_cases hr0 : m = 0
  · subst hr0
    rw [(write_zero k s p).2]
    exact Rat.le_refl
  · have hsf : s = false := by
      cases s with
      | false => rfl
      | true =>
        have h4 := Rat.mul_pos (natPos hr0) (p2_pos p)
        have h5 : 0 ≤ sg true * ((m : Rat) * p2 p) := h0
        simp only [sg, if_true] at h5
        grind
    subst hsf
    obtain ⟨last, kept, _, _, _, _, _, _, _, _, hv2⟩ := write_shape k false m p hr0 (by rw [← dv_mag h0]; exact hu)
    rw [hv2]
    simp only [sg, Bool.false_eq_true, if_false, Rat.one_mul]
    exact q_nn kept last
theorem mul_nn {k : FloatKind} {a b : Nat} (ha : Fin k (some a)) (hb : Fin k (some b)) (h0 : 0 ≤ rv k a * rv k b) (hu : rv k a * rv k b < p2 127) : 0 ≤ cv k (fop .mul k (some a) (some b)) := by
  obtain ⟨s, m, p, hr⟩ := fin_read ha
  obtain ⟨t, n, q, hs⟩ := fin_read hb
  have e : fop .mul k (some a) (some b) = (Ieee.Datum.product (.number s m p) (.number t n q)).map k.format.write := by
    show (Ieee.Datum.product (k.format.read a) (k.format.read b)).map _ = _
    rw [hr, hs]
  rw [e]
  cases hd : Ieee.Datum.product (.number s m p) (.number t n q) with
  | none => simp [Ieee.Datum.product] at hd
  | some d =>
    obtain ⟨u, r, i, rfl, hv⟩ := prod_val hd
    have hv' : dv (.number u r i) = rv k a * rv k b := by rw [hv]; unfold rv; rw [hr, hs]
    exact write_nn k (by rw [hv']; exact h0) (by rw [hv']; exact hu)
theorem add_nn {k : FloatKind} {a b : Nat} (ha : Fin k (some a)) (hb : Fin k (some b)) (h0 : 0 ≤ rv k a + rv k b) (hu : rv k a + rv k b < p2 127) : 0 ≤ cv k (fop .add k (some a) (some b)) := by
  obtain ⟨s, m, p, hr⟩ := fin_read ha
  obtain ⟨t, n, q, hs⟩ := fin_read hb
  have e : fop .add k (some a) (some b) = (Ieee.Datum.sum (.number s m p) (.number t n q)).map k.format.write := by
    show (Ieee.Datum.sum (k.format.read a) (k.format.read b)).map _ = _
    rw [hr, hs]
  rw [e]
  cases hd : Ieee.Datum.sum (.number s m p) (.number t n q) with
  | none => simp [Ieee.Datum.sum] at hd
  | some d =>
    obtain ⟨u, r, i, rfl, hv⟩ := sum_val hd
    have hv' : dv (.number u r i) = rv k a + rv k b := by rw [hv]; unfold rv; rw [hr, hs]
    exact write_nn k (by rw [hv']; exact h0) (by rw [hv']; exact hu)
abbrev E64 : Rat := 1 / 9007199254740992
theorem u64 : uk .f64 = E64 := by show p2 (-53) = _; decide +kernel
theorem one127 : (1 : Rat) < p2 127 := by decide +kernel
theorem big126 : (4096 : Rat) ≤ p2 126 := by decide +kernel
theorem small126 : p2 (-126) ≤ 1 / 100000000 := by decide +kernel
/-- The same number, wide. -/
theorem wide {x : Nat} (hx : G x) (hi : Is .f32 x (some x)) (hb : Ab (rF x) 4096) : ∃ z, cvW .f32 x .f64 = some z ∧ Fin .f64 (some z) ∧ rv .f64 z = rF x ∧ Is .f64 z (some z) := by
  have := big126
  obtain ⟨h1, h2⟩ := widen_val hx (hb.to rfl this)
  obtain ⟨z, hz⟩ := fin_some' h1
  rw [hz] at h1 h2
  have hz : floatToFloatBits .f32 x .f64 = some z := hz
  obtain ⟨s, m, p, hr⟩ := fin_read hx
  refine ⟨z, hz, h1, h2, lt_of_wf (floatToFloatBits_wf (wf_of_lt _ _ hi.1) hz), floatToFloatBits_not_nan hz ?_⟩
  show (FloatKind.f32.format.read x).isNaN = false
  rw [hr]
  rfl
/-- Bounds of the law. -/
theorem F001 : Fin .f64 (some 4562254508917369340) := by show rung FloatKind.f64.format 4562254508917369340 < _; decide +kernel
theorem v001 : 99999 / 100000000 ≤ rv .f64 4562254508917369340 ∧ rv .f64 4562254508917369340 ≤ 100001 / 100000000 := by decide +kernel
end Go.Proofs.Ytonbcbhnnflohaa
