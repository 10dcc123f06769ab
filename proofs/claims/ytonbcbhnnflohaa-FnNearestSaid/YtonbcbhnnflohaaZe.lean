/-
  FnCurves: distances of words that are near.
-/
import Derived.Test.YtonbcbhnnflohaaZd
import Derived.Test.YtonbcbhnnflohaaYj
namespace Go.Proofs.Ytonbcbhnnflohaa
open Go.RowKit

theorem write_nn (k : FloatKind) {s : Bool} {m : Nat} {p : Int} (h0 : 0 ≤ dv (.number s m p)) (hu : dv (.number s m p) < p2 127) : 0 ≤ rv k (k.format.write (.number s m p)) := by
  by_cases hr0 : m = 0
  · subst hr0
    rw [(write_zero k s p).2]
    exact Rat.le_refl
  · have hsf : s = false := by
      cases s with
      | false => rfl
      | true =>
        have h4 := Rat.mul_pos (natPos hr0) (p2_pos p)
        have h5 : 0 ≤ sg true * ((m : Rat) * p2 p) := h0
        simp only [sg, if_true] at h5
        grind
    subst hsf
    obtain ⟨last, kept, _, _, _, _, _, _, _, _, hv2⟩ := write_shape k false m p hr0 (by rw [← dv_mag h0]; exact hu)
    rw [hv2]
    simp only [sg, Bool.false_eq_true, if_false, Rat.one_mul]
    exact q_nn kept last
theorem mul_nn {k : FloatKind} {a b : Nat} (ha : Fin k (some a)) (hb : Fin k (some b)) (h0 : 0 ≤ rv k a * rv k b) (hu : rv k a * rv k b < p2 127) : 0 ≤ cv k (fop .mul k (some a) (some b)) := by
  obtain ⟨s, m, p, hr⟩ := fin_read ha
  obtain ⟨t, n, q, hs⟩ := fin_read hb
  have e : fop .mul k (some a) (some b) = (Ieee.Datum.product (.number s m p) (.number t n q)).map k.format.write := by
    show (Ieee.Datum.product (k.format.read a) (k.format.read b)).map _ = _
    rw [hr, hs]
  rw [e]
  cases hd : Ieee.Datum.product (.number s m p) (.number t n q) with
  | none => simp [Ieee.Datum.product] at hd
  | some d =>
    obtain ⟨u, r, i, rfl, hv⟩ := prod_val hd
    have hv' : dv (.number u r i) = rv k a * rv k b := by rw [hv]; unfold rv; rw [hr, hs]
    exact write_nn k (by rw [hv']; exact h0) (by rw [hv']; exact hu)
theorem add_nn {k : FloatKind} {a b : Nat} (ha : Fin k (some a)) (hb : Fin k (some b)) (h0 : 0 ≤ rv k a + rv k b) (hu : rv k a + rv k b < p2 127) : 0 ≤ cv k (fop .add k (some a) (some b)) := by
  obtain ⟨s, m, p, hr⟩ := fin_read ha
  obtain ⟨t, n, q, hs⟩ := fin_read hb
  have e : fop .add k (some a) (some b) = (Ieee.Datum.sum (.number s m p) (.number t n q)).map k.format.write := by
    show (Ieee.Datum.sum (k.format.read a) (k.format.read b)).map _ = _
    rw [hr, hs]
  rw [e]
  cases hd : Ieee.Datum.sum (.number s m p) (.number t n q) with
  | none => simp [Ieee.Datum.sum] at hd
  | some d =>
    obtain ⟨u, r, i, rfl, hv⟩ := sum_val hd
    have hv' : dv (.number u r i) = rv k a + rv k b := by rw [hv]; unfold rv; rw [hr, hs]
    exact write_nn k (by rw [hv']; exact h0) (by rw [hv']; exact hu)
abbrev E64 : Rat := 1 / 9007199254740992
theorem u64 : uk .f64 = E64 := by show p2 (-53) = _; decide +kernel
theorem one127 : (1 : Rat) < p2 127 := by decide +kernel
theorem one126 : (1 : Rat) ≤ p2 126 := by decide +kernel
theorem big126 : (4096 : Rat) ≤ p2 126 := by decide +kernel
theorem small126 : p2 (-126) ≤ 1 / 100000000 := by decide +kernel
/-- The same number, wide. -/
theorem wide {x : Nat} (hx : G x) (hi : Is .f32 x (some x)) (hb : Ab (rF x) 4096) : ∃ z, cvW .f32 x .f64 = some z ∧ Fin .f64 (some z) ∧ rv .f64 z = rF x ∧ Is .f64 z (some z) := by
  have := big126
  obtain ⟨h1, h2⟩ := widen_val hx (hb.to rfl this)
  obtain ⟨z, hz⟩ := fin_some' h1
  rw [hz] at h1 h2
  have hz : floatToFloatBits .f32 x .f64 = some z := hz
  obtain ⟨s, m, p, hr⟩ := fin_read hx
  refine ⟨z, hz, h1, h2, lt_of_wf (floatToFloatBits_wf (wf_of_lt _ _ hi.1) hz), floatToFloatBits_not_nan hz ?_⟩
  show (FloatKind.f32.format.read x).isNaN = false
  rw [hr]
  rfl
theorem long_near {u v : Nat} (hu : G u) (hv : G v) (iu : Is .f32 u (some u)) (iv : Is .f32 v (some v)) {D : Rat} (b1 : Ab (rF u) D) (b2 : Ab (rF v) D) (d0 : 1 / 10000 ≤ D) (d1 : D ≤ 1 / 5) :
    ∃ l, longW u v = some l ∧ G l ∧ Is .f32 l (some l) ∧ 0 ≤ rF l ∧ rF l ≤ 29 / 20 * D := by
  have hp := one127
  have hs1 := small126
  obtain ⟨x, hx, fx, vx, _⟩ := wide hu iu (b1.to rfl (by grind))
  obtain ⟨y, hy, fy, vy, _⟩ := wide hv iv (b2.to rfl (by grind))
  have q0 := Rat.mul_nonneg (a := D - 1 / 10000) (b := D) (by grind) (by grind)
  have q1 := Rat.mul_nonneg (a := 1 / 5 - D) (b := D) (by grind) (by grind)
  have sq : ∀ {w : Rat}, Ab w D → 0 ≤ w * w ∧ w * w ≤ D * D := by
    intro w hw
    refine ⟨?_, (hw.mul hw).le⟩
    rcases (Rat.le_total : 0 ≤ w ∨ w ≤ 0) with h | h
    · exact Rat.mul_nonneg h h
    · have := Rat.mul_nonneg (a := -w) (b := -w) (by grind) (by grind)
      grind
  obtain ⟨x0, x1⟩ := sq b1
  obtain ⟨y0, y1⟩ := sq b2
  rw [← vx] at x0 x1
  rw [← vy] at y0 y1
  obtain ⟨fp, np⟩ := mul_near fx fx (M := 1) ⟨by grind, by grind⟩ (by grind) hp
  have zp := mul_nn fx fx x0 (by grind)
  obtain ⟨p, hpp⟩ := fin_some' fp
  rw [hpp] at fp np zp
  obtain ⟨fq, nq⟩ := mul_near fy fy (M := 1) ⟨by grind, by grind⟩ (by grind) hp
  have zq := mul_nn fy fy y0 (by grind)
  obtain ⟨q, hqq⟩ := fin_some' fq
  rw [hqq] at fq nq zq
  rw [u64] at np nq
  obtain ⟨np1, np2⟩ := np
  obtain ⟨nq1, nq2⟩ := nq
  simp only [cv] at np1 np2 nq1 nq2 zp zq
  obtain ⟨fs, ns⟩ := add_near fp fq (M := 1) ⟨by grind, by grind⟩ (by grind) hp
  have zs := add_nn fp fq (by grind) (by grind)
  obtain ⟨s, hss⟩ := fin_some' fs
  rw [hss] at fs ns zs
  rw [u64] at ns
  obtain ⟨ns1, ns2⟩ := ns
  simp only [cv] at ns1 ns2 zs
  obtain ⟨fr, r0, _, r1⟩ := sqrt_near fs zs (L := 0) (U := 143 / 100 * D) (by grind) (by grind) (by grind) (by grind)
  obtain ⟨r, hrr⟩ := fin_some' fr
  rw [hrr] at fr r0 r1
  rw [u64] at r1
  simp only [cv] at r0 r1
  obtain ⟨fl, nl, l0⟩ := narrow_near fr (M := 1) ⟨by grind, by grind⟩ (by grind) hp
  obtain ⟨l, hll⟩ := fin_some' fl
  rw [hll] at fl nl l0
  rw [u32] at nl
  obtain ⟨nl1, nl2⟩ := nl
  have l0 := l0 r0
  simp only [cv] at nl1 nl2 l0
  refine ⟨l, ?_, fl, ?_, l0, by show rv .f32 l ≤ _; grind⟩
  · unfold longW
    have e1 : rootW s = some r := hrr
    have e2 : cvW .f64 r .f32 = some l := hll
    rw [hx, Option.bind_some, hy, Option.bind_some, hpp, Option.bind_some, hqq, Option.bind_some, hss, Option.bind_some, e1, Option.bind_some, e2]
  · have hll : floatToFloatBits .f64 r .f32 = some l := hll
    obtain ⟨s', m', p', hr'⟩ := fin_read fr
    refine ⟨lt_of_wf (floatToFloatBits_wf (wf_of_lt _ _ (FloatKind.f64.format.sqrt_lt hrr)) hll), floatToFloatBits_not_nan hll ?_⟩
    show (FloatKind.f64.format.read r).isNaN = false
    rw [hr']
    rfl
theorem far_near {a b : Nat × Nat} (h1 : G a.1) (h2 : G a.2) (h3 : G b.1) (h4 : G b.2) {D : Rat} (b1 : Ab (rF a.1 - rF b.1) D) (b2 : Ab (rF a.2 - rF b.2) D) (d0 : 1 / 10000 ≤ D) (d1 : D ≤ 1 / 10) :
    ∃ z, farW a b = some z ∧ Fin .f64 (some z) ∧ Is .f64 z (some z) ∧ rv .f64 z ≤ 3 / 2 * D := by
  obtain ⟨u, hu, gu, du⟩ := s32 (M := 1) h1 h3 (b1.to rfl (by grind)) (by grind) (by grind)
  obtain ⟨v, hv, gv, dv⟩ := s32 (M := 1) h2 h4 (b2.to rfl (by grind)) (by grind) (by grind)
  obtain ⟨l, hl, gl, il, l0, l1⟩ := long_near gu gv (fop_is hu) (fop_is hv) (D := D + U) ((du.add b1).to (by grind) (by grind)) ((dv.add b2).to (by grind) (by grind)) (by grind) (by grind)
  obtain ⟨z, hz, fz, vz, iz⟩ := wide gl il ⟨by grind, by grind⟩
  refine ⟨z, ?_, fz, iz, by rw [vz]; grind⟩
  unfold farW
  rw [hu, Option.bind_some, hv, Option.bind_some, hl, Option.bind_some, hz]
/-- Bounds of the law. -/
theorem F001 : Fin .f64 (some 4562254508917369340) := by show rung FloatKind.f64.format 4562254508917369340 < _; decide +kernel
theorem F01 : Fin .f64 (some 4576918229304087675) := by show rung FloatKind.f64.format 4576918229304087675 < _; decide +kernel
theorem v001 : 99999 / 100000000 ≤ rv .f64 4562254508917369340 ∧ rv .f64 4562254508917369340 ≤ 100001 / 100000000 := by decide +kernel
theorem v01 : 9999 / 1000000 ≤ rv .f64 4576918229304087675 := by decide +kernel
/-- Two knots of the same place. -/
theorem near_far {n m : Nat} {k q : Kn} {X Y W : Rat} (h : KK n k X Y W) (h' : KK m q X Y W) {D : Rat} (d0 : 1 / 10000 ≤ D) (d1 : D ≤ 1 / 10) (hD : Ex_ n + Ex_ m ≤ D) :
    ∃ z, farW (k.1, k.2.1) (q.1, q.2.1) = some z ∧ Fin .f64 (some z) ∧ Is .f64 z (some z) ∧ rv .f64 z ≤ 3 / 2 * D := by
  have lo := h.lo
  refine far_near h.g1 h.g2 h'.g1 h'.g2 ?_ ?_ d0 d1
  · exact (ab_of_mul (w := W) (c := Ex_ n + Ex_ m) (by grind) ((h.x.sub h'.x).to (by grind) (by grind))).to rfl hD
  · exact (ab_of_mul (w := W) (c := Ex_ n + Ex_ m) (by grind) ((h.y.sub h'.y).to (by grind) (by grind))).to rfl hD
end Go.Proofs.Ytonbcbhnnflohaa
