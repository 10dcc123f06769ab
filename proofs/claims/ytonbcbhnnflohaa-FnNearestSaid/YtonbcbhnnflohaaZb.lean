/-
  FnCurves: knots near to exact ones, through all that is done to them.
-/
import Derived.Test.YtonbcbhnnflohaaZa
import Derived.Test.YtonbcbhnnflohaaYi
namespace Go.Proofs.Ytonbcbhnnflohaa
open Go.RowKit

theorem one3 : rF 1065353216 = 1 := by decide +kernel
theorem G1 : G 1065353216 := by show rung FloatKind.f32.format 1065353216 < _; decide +kernel
/-- A knot near to an exact one. -/
structure NK (k : Kn) (X Y W e' e : Rat) : Prop where
  g1 : G k.1
  g2 : G k.2.1
  g3 : G k.2.2
  i1 : Is .f32 k.1 (some k.1)
  i2 : Is .f32 k.2.1 (some k.2.1)
  i3 : Is .f32 k.2.2 (some k.2.2)
  lo : 1 / 4 ≤ W
  hi : W ≤ 2
  ax : Ab X (4 * W)
  ay : Ab Y (4 * W)
  w : Ab (rF k.2.2 - W) e'
  x : Ab (rF k.1 * W - X) (e * W)
  y : Ab (rF k.2.1 * W - Y) (e * W)
/-- A time. -/
structure TM (t : Nat) (s q : Rat) : Prop where
  g : G t
  h0 : 0 ≤ s
  h1 : s ≤ 1
  tt : Ab (rF t - s) q
  o : ∃ o, fop .sub .f32 (some 1065353216) (some t) = some o ∧ G o ∧ Ab (rF o - (1 - s)) q
theorem times {x y Y z q p : Rat} (h : Ab (x - y * z) q) (hy : Ab y 3) (hz : Ab (z - Y) p) : Ab (x - y * Y) (q + 3 * p) :=
  (h.add (hy.mul hz)).to (by grind) (by grind)
theorem scaled_near {a : Nat × Nat} {x : Nat} (h1 : G a.1) (h2 : G a.2) (h3 : G x) {M : Rat} (b1 : Ab (rF a.1 * rF x) M) (b2 : Ab (rF a.2 * rF x) M) (m1 : 1 ≤ M) (m2 : M ≤ 4096) :
    ∃ r, scaledC a x = some r ∧ G r.1 ∧ G r.2 ∧ Is .f32 r.1 (some r.1) ∧ Is .f32 r.2 (some r.2) ∧ Ab (rF r.1 - rF a.1 * rF x) (M * U) ∧ Ab (rF r.2 - rF a.2 * rF x) (M * U) := by
  obtain ⟨u, hu, gu, du⟩ := m32 h1 h3 b1 m1 m2
  obtain ⟨v, hv, gv, dv⟩ := m32 h2 h3 b2 m1 m2
  exact ⟨(u, v), by unfold scaledC; rw [hu, Option.bind_some, hv, Option.bind_some], gu, gv, fop_is hu, fop_is hv, du, dv⟩
theorem plus_near {a b : Nat × Nat} (h1 : G a.1) (h2 : G a.2) (h3 : G b.1) (h4 : G b.2) {M : Rat} (b1 : Ab (rF a.1 + rF b.1) M) (b2 : Ab (rF a.2 + rF b.2) M) (m1 : 1 ≤ M) (m2 : M ≤ 4096) :
    ∃ r, plusC a b = some r ∧ G r.1 ∧ G r.2 ∧ Ab (rF r.1 - (rF a.1 + rF b.1)) (M * U) ∧ Ab (rF r.2 - (rF a.2 + rF b.2)) (M * U) := by
  obtain ⟨u, hu, gu, du⟩ := a32 h1 h3 b1 m1 m2
  obtain ⟨v, hv, gv, dv⟩ := a32 h2 h4 b2 m1 m2
  exact ⟨(u, v), by unfold plusC; rw [hu, Option.bind_some, hv, Option.bind_some], gu, gv, du, dv⟩
theorem four_of {x W X e : Rat} (hW : 1 / 4 ≤ W) (hX : Ab X (4 * W)) (hx : Ab (x * W - X) (e * W)) (he : e ≤ 1 / 100) : Ab x (401 / 100) :=
  ab_of_mul (w := W) (by grind) ((hx.add hX).to (by grind) (by
    have := Rat.mul_nonneg (a := 1 / 100 - e) (b := W) (by grind) (by grind)
    grind))
/-- A part of a weight. -/
theorem wpart {wa WA e' o s q f : Rat} (h1 : 0 ≤ s) (h2 : s ≤ 1) (lo : 1 / 4 ≤ WA) (hi : WA ≤ 2) (hw : Ab (wa - WA) e') (he : e' ≤ 1 / 1000) (ho : Ab (o - s) q) (hq : q ≤ 4 * U) : Ab (wa * o) (21 / 10) ∧ Ab wa 3 ∧ (Ab (f - wa * o) (3 * U) → Ab f (22 / 10)) := by
  obtain ⟨a1, a2⟩ := hw
  obtain ⟨b1, b2⟩ := ho
  have hA : Ab wa (2001 / 1000) := ⟨by grind, by grind⟩
  have hO : Ab o (1 + 4 * U) := ⟨by grind, by grind⟩
  have h3 := (hA.mul hO).to (Y := 21 / 10) rfl (by grind)
  exact ⟨h3, hA.to rfl (by grind), fun h => (h.add h3).to (by grind) (by grind)⟩
set_option maxHeartbeats 1000000 in
theorem blend_near {a b : Kn} {t : Nat} {XA YA WA XB YB WB e' e s q : Rat} (ha : NK a XA YA WA e' e) (hb : NK b XB YB WB e' e) (ht : TM t s q) (hq : q ≤ 4 * U) (he : e ≤ 1 / 100) (he' : e' ≤ 1 / 1000) :
    ∃ r, blendC a b t = some r ∧ NK r (XA * (1 - s) + XB * s) (YA * (1 - s) + YB * s) (WA * (1 - s) + WB * s) (e' + 2 * (3 * U + 3 * q) + 3 * U) (e + 36 * e' + 72 * (3 * U + 3 * q) + 1700 * U) := by
  obtain ⟨o, ho, go, do_⟩ := ht.o
  have h0 := ht.h0
  have h1 := ht.h1
  have hq0 := do_.nonneg
  obtain ⟨A1, A2, A3⟩ := wpart (f := 0) (by grind) (by grind) ha.lo ha.hi ha.w he' do_ hq
  obtain ⟨B1, B2, B3⟩ := wpart (f := 0) h0 h1 hb.lo hb.hi hb.w he' ht.tt hq
  obtain ⟨f, hf, gf, df⟩ := m32 (M := 3) ha.g3 go (A1.to rfl (by grind)) (by grind) (by grind)
  obtain ⟨v, hv, gv, dv⟩ := m32 (M := 3) hb.g3 ht.g (B1.to rfl (by grind)) (by grind) (by grind)
  have hfb : Ab (rF f) (22 / 10) := (df.add A1).to (by grind) (by grind)
  have hvb : Ab (rF v) (22 / 10) := (dv.add B1).to (by grind) (by grind)
  have hf' := times df A2 do_
  have hv' := times dv B2 ht.tt
  have hp : 3 * U + 3 * q ≤ 16 * U := by grind
  have hW1 := cvx_ge ha.lo hb.lo h0 h1
  have hW2 := cvx_le ha.hi hb.hi h0 h1
  -- the new weight
  have hfv : Ab (rF f + rF v) (21 / 10) := by
    have h2 := cvx ha.w hb.w h0 h1
    have h3 := (hf'.add hv').add h2
    obtain ⟨g1, g2⟩ := h3
    constructor <;> grind
  obtain ⟨w, hw, gw, dw⟩ := a32 (M := 3) gf gv (hfv.to rfl (by grind)) (by grind) (by grind)
  have hww := blend_w h0 h1 ha.w hb.w hf' hv' dw
  have xa4 := four_of ha.lo ha.ax ha.x he
  have xb4 := four_of hb.lo hb.ax hb.x he
  have ya4 := four_of ha.lo ha.ay ha.y he
  have yb4 := four_of hb.lo hb.ay hb.y he
  obtain ⟨p, hpp, gp1, gp2, _, _, dp1, dp2⟩ := scaled_near (a := (a.1, a.2.1)) (M := 9) ha.g1 ha.g2 gf ((xa4.mul hfb).to rfl (by grind)) ((ya4.mul hfb).to rfl (by grind)) (by grind) (by grind)
  obtain ⟨z, hzz, gz1, gz2, _, _, dz1, dz2⟩ := scaled_near (a := (b.1, b.2.1)) (M := 9) hb.g1 hb.g2 gv ((xb4.mul hvb).to rfl (by grind)) ((yb4.mul hvb).to rfl (by grind)) (by grind) (by grind)
  have hf0 : -(16 * U) ≤ rF f := by
    have hwa0 : 0 ≤ rF a.2.2 := by have := ha.w.ge; have := ha.lo; grind
    have := Rat.mul_nonneg (a := rF a.2.2) (b := 1 - s) hwa0 (by grind)
    have := hf'.ge
    grind
  have hv0 : -(16 * U) ≤ rF v := by
    have hwb0 : 0 ≤ rF b.2.2 := by have := hb.w.ge; have := hb.lo; grind
    have := Rat.mul_nonneg (a := rF b.2.2) (b := s) hwb0 h0
    have := hv'.ge
    grind
  have hu0 : (0 : Rat) ≤ 16 * U := by grind
  have nx := ((part xa4 hf0 hu0).add (part xb4 hv0 hu0)).to (Y := 85 / 10) rfl (by have := hfv.le; grind)
  have ny := ((part ya4 hf0 hu0).add (part yb4 hv0 hu0)).to (Y := 85 / 10) rfl (by have := hfv.le; grind)
  obtain ⟨m, hm, gm1, gm2, dm1, dm2⟩ := plus_near (M := 9) gp1 gp2 gz1 gz2 (((dp1.add dz1).add nx).to (by grind) (by grind)) (((dp2.add dz2).add ny).to (by grind) (by grind)) (by grind) (by grind)
  have em1 : Ab (rF m.1 - (rF a.1 * rF f + rF b.1 * rF v)) (27 * U) := ((dm1.add dp1).add dz1).to (by grind) (by grind)
  have em2 : Ab (rF m.2 - (rF a.2.1 * rF f + rF b.2.1 * rF v)) (27 * U) := ((dm2.add dp2).add dz2).to (by grind) (by grind)
  have hwl : 1 / 5 ≤ rF w ∧ rF w ≤ 21 / 10 := by
    obtain ⟨g1, g2⟩ := hww
    exact ⟨by grind, by grind⟩
  have hwne : rF w ≠ 0 := by have := hwl.1; grind
  have hinv : Ab (rF 1065353216 / rF w) 5 := by
    refine ab_of_mul (w := rF w) (by have := hwl.1; grind) ?_
    rw [Rat.div_mul_cancel hwne, one3]
    have := hwl.1
    constructor <;> grind
  obtain ⟨i, hi, gi, di⟩ := q32 (M := 5) G1 gw hwne hinv (by grind) (by grind)
  have hiw : Ab (rF i * rF w - 1) (32 * U) := by
    have h2 := di.mul (Y := 21 / 10) (y := rF w) ⟨hwl.2, by have := hwl.1; grind⟩
    have h3 : rF 1065353216 / rF w * rF w = 1 := by rw [Rat.div_mul_cancel hwne, one3]
    generalize rF 1065353216 / rF w = z at h2 h3
    exact h2.to (by grind) (by grind)
  have hi5 : Ab (rF i) (501 / 100) := (di.add hinv).to (by grind) (by grind)
  have hm1 : Ab (rF m.1) (86 / 10) := (em1.add nx).to (by grind) (by grind)
  have hm2 : Ab (rF m.2) (86 / 10) := (em2.add ny).to (by grind) (by grind)
  obtain ⟨r, hr, gr1, gr2, ir1, ir2, dr1, dr2⟩ := scaled_near (a := m) (M := 45) gm1 gm2 gi ((hm1.mul hi5).to rfl (by grind)) ((hm2.mul hi5).to rfl (by grind)) (by grind) (by grind)
  have bx := blend_x h0 h1 ha.lo hb.lo ha.hi hb.hi ha.ax hb.ax ha.x hb.x ha.w hb.w he he' hp hf' hv' dw em1 hiw dr1
  have bY := blend_x h0 h1 ha.lo hb.lo ha.hi hb.hi ha.ay hb.ay ha.y hb.y ha.w hb.w he he' hp hf' hv' dw em2 hiw dr2
  have four : ∀ {P Q : Rat}, Ab P (4 * WA) → Ab Q (4 * WB) → Ab (P * (1 - s) + Q * s) (4 * (WA * (1 - s) + WB * s)) := by
    intro P Q hP hQ
    obtain ⟨p1, p2⟩ := hP
    obtain ⟨q1, q2⟩ := hQ
    have e1 := Rat.mul_nonneg (a := 4 * WA - P) (b := 1 - s) (by grind) (by grind)
    have e2 := Rat.mul_nonneg (a := 4 * WA + P) (b := 1 - s) (by grind) (by grind)
    have e3 := Rat.mul_nonneg (a := 4 * WB - Q) (b := s) (by grind) h0
    have e4 := Rat.mul_nonneg (a := 4 * WB + Q) (b := s) (by grind) h0
    constructor <;> grind
  refine ⟨(r.1, r.2, w), ?_, gr1, gr2, gw, ir1, ir2, fop_is hw, hW1, hW2, four ha.ax hb.ax, four ha.ay hb.ay, hww, bx, bY⟩
  unfold blendC
  simp only [ho, hf, hv, hw, hpp, hzz, hm, hi, hr, Option.bind_some]
end Go.Proofs.Ytonbcbhnnflohaa
