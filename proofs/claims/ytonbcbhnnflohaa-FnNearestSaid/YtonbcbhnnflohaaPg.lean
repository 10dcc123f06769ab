/-
  FnNearest: plain curves, near to exact ones; lengths of any points.
-/
import Derived.Test.YtonbcbhnnflohaaZg
import Derived.Test.YtonbcbhnnflohaaPe
namespace Go.Proofs.Ytonbcbhnnflohaa
open Go.RowKit

/-- Points of a blend of plain knots. -/
theorem pblend_x {xa xb XA XB wa wb t f s w m i r e e' p : Rat} (h0 : 0 ≤ t) (h1 : t ≤ 1) (hXA : Ab XA 8) (hXB : Ab XB 8) (hxa : Ab (xa - XA) e) (hxb : Ab (xb - XB) e) (hwa : Ab (wa - 1) e') (hwb : Ab (wb - 1) e')
    (he : e ≤ 1 / 100) (he' : e' ≤ 1 / 1000) (hp : p ≤ 8 * U)
    (hf : Ab (f - wa * (1 - t)) p) (hs : Ab (s - wb * t) p) (hw : Ab (w - (f + s)) (2 * U)) (hm : Ab (m - (xa * f + xb * s)) (27 * U)) (hi : Ab (i * w - 1) (7 * U)) (hr : Ab (r - m * i) (10 * U)) :
    Ab (r - (XA * (1 - t) + XB * t)) (e + 18 * e' + 36 * p + 140 * U) := by
  have hxa' : Ab xa (801 / 100) := (hxa.add hXA).to (by grind) (by grind)
  have hxb' : Ab xb (801 / 100) := (hxb.add hXB).to (by grind) (by grind)
  have hp0 := hf.nonneg
  have he0 := hwa.nonneg
  have hww : Ab (w - (1 * (1 - t) + 1 * t)) (e' + 2 * p + 3 * U) := blend_w h0 h1 hwa hwb hf hs (hw.to rfl (by grind))
  have hwa0 : 0 ≤ wa := by have := hwa.ge; grind
  have hwb0 : 0 ≤ wb := by have := hwb.ge; grind
  have hf0 : -p ≤ f := by
    have := Rat.mul_nonneg (a := wa) (b := 1 - t) hwa0 (by grind)
    have := hf.ge
    grind
  have hs0 : -p ≤ s := by
    have := Rat.mul_nonneg (a := wb) (b := t) hwb0 h0
    have := hs.ge
    grind
  have hwl : 9 / 10 ≤ w ∧ w ≤ 11 / 10 := by
    obtain ⟨g1, g2⟩ := hww
    exact ⟨by grind, by grind⟩
  have hfs : f + s ≤ 101 / 100 := by
    obtain ⟨g1, g2⟩ := hww
    obtain ⟨g3, g4⟩ := hw
    grind
  have hN : Ab (xa * f + xb * s) (801 / 100 * (f + s) + 34 * p) := ((part hxa' hf0 hp0).add (part hxb' hs0 hp0)).to rfl (by grind)
  have hm9 : Ab m 9 := (hm.add hN).to (by grind) (by grind)
  have d1 := hm9.mul hi
  have d2 := hr.mul (Y := 11 / 10) (y := w) ⟨hwl.2, by grind⟩
  have hd : Ab (r * w - (xa * f + xb * s)) (101 * U) := ((hm.add d1).add d2).to (by grind) (by grind)
  have hr9 : Ab r 9 := by
    refine ab_of_mul (w := w) (by grind) ((hd.add hN).to (by grind) ?_)
    grind
  have k1 := hr9.mul hw
  have ka : Ab (r - xa) 18 := (hr9.sub hxa').to rfl (by grind)
  have kb : Ab (r - xb) 18 := (hr9.sub hxb').to rfl (by grind)
  have k2 := cvx (ka.mul hwa) (kb.mul hwb) h0 h1
  have k3 := ka.mul hf
  have k4 := kb.mul hs
  have k5 := cvx hxa hxb h0 h1
  exact (((((hd.sub k1).sub k2).sub k3).sub k4).add k5).to (by grind) (by grind)
/-- A plain knot near to an exact one. -/
structure NP (k : Kn) (X Y e' e : Rat) : Prop where
  g1 : G k.1
  g2 : G k.2.1
  g3 : G k.2.2
  i1 : Is .f32 k.1 (some k.1)
  i2 : Is .f32 k.2.1 (some k.2.1)
  i3 : Is .f32 k.2.2 (some k.2.2)
  ax : Ab X 8
  ay : Ab Y 8
  w : Ab (rF k.2.2 - 1) e'
  x : Ab (rF k.1 - X) e
  y : Ab (rF k.2.1 - Y) e
theorem wpart1 {wa e' o s q : Rat} (h1 : 0 ≤ s) (h2 : s ≤ 1) (hw : Ab (wa - 1) e') (he : e' ≤ 1 / 1000) (ho : Ab (o - s) q) (hq : q ≤ 4 * U) : Ab (wa * o) (11 / 10) ∧ Ab wa 2 := by
  obtain ⟨a1, a2⟩ := hw
  obtain ⟨b1, b2⟩ := ho
  have hA : Ab wa (1001 / 1000) := ⟨by grind, by grind⟩
  have hO : Ab o (1 + 4 * U) := ⟨by grind, by grind⟩
  exact ⟨(hA.mul hO).to rfl (by grind), hA.to rfl (by grind)⟩
set_option maxHeartbeats 1000000 in
theorem pblend_near {a b : Kn} {t : Nat} {XA YA XB YB e' e s q : Rat} (ha : NP a XA YA e' e) (hb : NP b XB YB e' e) (ht : TM t s q) (hq : q ≤ U) (he : e ≤ 1 / 100) (he' : e' ≤ 1 / 1000) :
    ∃ r, blendC a b t = some r ∧ NP r (XA * (1 - s) + XB * s) (YA * (1 - s) + YB * s) (e' + 20 * U) (e + 18 * e' + 400 * U) := by
  obtain ⟨o, ho, go, do_⟩ := ht.o
  have h0 := ht.h0
  have h1 := ht.h1
  have hq0 := do_.nonneg
  obtain ⟨A1, A2⟩ := wpart1 (by grind) (by grind) ha.w he' do_ (by grind)
  obtain ⟨B1, B2⟩ := wpart1 h0 h1 hb.w he' ht.tt (by grind)
  obtain ⟨f, hf, gf, df⟩ := m32 (M := 2) ha.g3 go (A1.to rfl (by grind)) (by grind) (by grind)
  obtain ⟨v, hv, gv, dv⟩ := m32 (M := 2) hb.g3 ht.g (B1.to rfl (by grind)) (by grind) (by grind)
  have hfb : Ab (rF f) (111 / 100) := (df.add A1).to (by grind) (by grind)
  have hvb : Ab (rF v) (111 / 100) := (dv.add B1).to (by grind) (by grind)
  have hf' := (times df (A2.to rfl (by grind)) do_).to (Y := 5 * U) rfl (by grind)
  have hv' := (times dv (B2.to rfl (by grind)) ht.tt).to (Y := 5 * U) rfl (by grind)
  have hfv : Ab (rF f + rF v) (101 / 100) := by
    have h2 := cvx ha.w hb.w h0 h1
    have h3 := (hf'.add hv').add h2
    obtain ⟨g1, g2⟩ := h3
    constructor <;> grind
  obtain ⟨w, hw, gw, dw⟩ := a32 (M := 2) gf gv (hfv.to rfl (by grind)) (by grind) (by grind)
  have hww : Ab (rF w - (1 * (1 - s) + 1 * s)) (e' + 2 * (5 * U) + 3 * U) := blend_w h0 h1 ha.w hb.w hf' hv' (dw.to rfl (by grind))
  have xa4 : Ab (rF a.1) (801 / 100) := (ha.x.add ha.ax).to (by grind) (by grind)
  have xb4 : Ab (rF b.1) (801 / 100) := (hb.x.add hb.ax).to (by grind) (by grind)
  have ya4 : Ab (rF a.2.1) (801 / 100) := (ha.y.add ha.ay).to (by grind) (by grind)
  have yb4 : Ab (rF b.2.1) (801 / 100) := (hb.y.add hb.ay).to (by grind) (by grind)
  obtain ⟨p, hpp, gp1, gp2, _, _, dp1, dp2⟩ := scaled_near (a := (a.1, a.2.1)) (M := 9) ha.g1 ha.g2 gf ((xa4.mul hfb).to rfl (by grind)) ((ya4.mul hfb).to rfl (by grind)) (by grind) (by grind)
  obtain ⟨z, hzz, gz1, gz2, _, _, dz1, dz2⟩ := scaled_near (a := (b.1, b.2.1)) (M := 9) hb.g1 hb.g2 gv ((xb4.mul hvb).to rfl (by grind)) ((yb4.mul hvb).to rfl (by grind)) (by grind) (by grind)
  have hf0 : -(5 * U) ≤ rF f := by
    have hwa0 : 0 ≤ rF a.2.2 := by have := ha.w.ge; grind
    have := Rat.mul_nonneg (a := rF a.2.2) (b := 1 - s) hwa0 (by grind)
    have := hf'.ge
    grind
  have hv0 : -(5 * U) ≤ rF v := by
    have hwb0 : 0 ≤ rF b.2.2 := by have := hb.w.ge; grind
    have := Rat.mul_nonneg (a := rF b.2.2) (b := s) hwb0 h0
    have := hv'.ge
    grind
  have hu0 : (0 : Rat) ≤ 5 * U := by grind
  have nx := ((part xa4 hf0 hu0).add (part xb4 hv0 hu0)).to (Y := 82 / 10) rfl (by have := hfv.le; grind)
  have ny := ((part ya4 hf0 hu0).add (part yb4 hv0 hu0)).to (Y := 82 / 10) rfl (by have := hfv.le; grind)
  obtain ⟨m, hm, gm1, gm2, dm1, dm2⟩ := plus_near (M := 9) gp1 gp2 gz1 gz2 (((dp1.add dz1).add nx).to (by grind) (by grind)) (((dp2.add dz2).add ny).to (by grind) (by grind)) (by grind) (by grind)
  have em1 : Ab (rF m.1 - (rF a.1 * rF f + rF b.1 * rF v)) (27 * U) := ((dm1.add dp1).add dz1).to (by grind) (by grind)
  have em2 : Ab (rF m.2 - (rF a.2.1 * rF f + rF b.2.1 * rF v)) (27 * U) := ((dm2.add dp2).add dz2).to (by grind) (by grind)
  have hwl : 9 / 10 ≤ rF w ∧ rF w ≤ 11 / 10 := by
    obtain ⟨g1, g2⟩ := hww
    exact ⟨by grind, by grind⟩
  have hwne : rF w ≠ 0 := by have := hwl.1; grind
  have hinv : Ab (rF 1065353216 / rF w) (12 / 10) := by
    refine ab_of_mul (w := rF w) (by have := hwl.1; grind) ?_
    rw [Rat.div_mul_cancel hwne, one3]
    have := hwl.1
    constructor <;> grind
  obtain ⟨i, hi, gi, di⟩ := q32 (M := 2) G1 gw hwne (hinv.to rfl (by grind)) (by grind) (by grind)
  have hiw : Ab (rF i * rF w - 1) (7 * U) := by
    have h2 := di.mul (Y := 11 / 10) (y := rF w) ⟨hwl.2, by have := hwl.1; grind⟩
    have h3 : rF 1065353216 / rF w * rF w = 1 := by rw [Rat.div_mul_cancel hwne, one3]
    generalize rF 1065353216 / rF w = z at h2 h3
    exact h2.to (by grind) (by grind)
  have hi2 : Ab (rF i) (12 / 10) := by
    have h4 := hiw.le
    have h5 := hiw.ge
    refine ab_of_mul (w := rF w) (by have := hwl.1; grind) ⟨by have := hwl.1; grind, by have := hwl.1; grind⟩
  have hm1 : Ab (rF m.1) (83 / 10) := (em1.add nx).to (by grind) (by grind)
  have hm2 : Ab (rF m.2) (83 / 10) := (em2.add ny).to (by grind) (by grind)
  obtain ⟨r, hr, gr1, gr2, ir1, ir2, dr1, dr2⟩ := scaled_near (a := m) (M := 10) gm1 gm2 gi ((hm1.mul hi2).to rfl (by grind)) ((hm2.mul hi2).to rfl (by grind)) (by grind) (by grind)
  have bx := pblend_x h0 h1 ha.ax hb.ax ha.x hb.x ha.w hb.w he he' (by grind) hf' hv' dw em1 hiw dr1
  have bY := pblend_x h0 h1 ha.ay hb.ay ha.y hb.y ha.w hb.w he he' (by grind) hf' hv' dw em2 hiw dr2
  refine ⟨(r.1, r.2, w), ?_, gr1, gr2, gw, ir1, ir2, fop_is hw, cvx ha.ax hb.ax h0 h1, cvx ha.ay hb.ay h0 h1, hww.to (by grind) (by grind), bx.to rfl (by grind), bY.to rfl (by grind)⟩
  unfold blendC
  simp only [ho, hf, hv, hw, hpp, hzz, hm, hi, hr, Option.bind_some]
end Go.Proofs.Ytonbcbhnnflohaa
