/-
  FnCurves: distances of words that are near.
-/
import Derived.Test.YtonbcbhnnflohaaZd
import Derived.Test.YtonbcbhnnflohaaYj
import Derived.Test.YtonbcbhnnflohaaPe
import Derived.Deep.Slices
namespace Go.Proofs.Ytonbcbhnnflohaa
open Go.RowKit

abbrev E64 : Rat := 1 / 9007199254740992
theorem u64 : uk .f64 = E64 := by show p2 (-53) = _; decide +kernel
theorem one127 : (1 : Rat) < p2 127 := by decide +kernel
theorem big126 : (4096 : Rat) ≤ p2 126 := by decide +kernel
theorem small126 : p2 (-126) ≤ 1 / 100000000 := by decide +kernel
/-- The same number, wide. -/
theorem wide {x : Nat} (hx : G x) (hi : Is .f32 x (some x)) (hb : Ab (rF x) 4096) : ∃ z, cvW .f32 x .f64 = some z ∧ Fin .f64 (some z) ∧ rv .f64 z = rF x ∧ Is .f64 z (some z) := by
  have := big126
  obtain ⟨h1, h2⟩ := widen_val hx (hb.to rfl this)
  obtain ⟨z, hz⟩ := fin_some' h1
  rw [hz] at h1 h2
  have hz : floatToFloatBits .f32 x .f64 = some z := hz
  obtain ⟨s, m, p, hr⟩ := fin_read hx
  refine ⟨z, hz, h1, h2, lt_of_wf (floatToFloatBits_wf (wf_of_lt _ _ hi.1) hz), floatToFloatBits_not_nan hz ?_⟩
  show (FloatKind.f32.format.read x).isNaN = false
  rw [hr]
  rfl
theorem F01 : Fin .f64 (some 4576918229304087675) := by show rung FloatKind.f64.format 4576918229304087675 < _; decide +kernel
theorem v01 : 9999 / 1000000 ≤ rv .f64 4576918229304087675 := by decide +kernel
end Go.Proofs.Ytonbcbhnnflohaa

namespace Go.Proofs.Ytonbcbhnnflohaa
open Go.RowKit

/-! ## quarters, sixteenths, shares -/
/-! ## the smaller, the greater number -/
end Go.Proofs.Ytonbcbhnnflohaa

namespace Go.Proofs.Ytonbcbhnnflohaa
open Go.RowKit

end Go.Proofs.Ytonbcbhnnflohaa

namespace Go.Proofs.Ytonbcbhnnflohaa
open Go.RowKit

/-- A plain knot near to an exact one. -/
structure NP (k : Kn) (X Y e' e : Rat) : Prop where
  g1 : G k.1
  g2 : G k.2.1
  g3 : G k.2.2
  i1 : Is .f32 k.1 (some k.1)
  i2 : Is .f32 k.2.1 (some k.2.1)
  i3 : Is .f32 k.2.2 (some k.2.2)
  ax : Ab X 8
  ay : Ab Y 8
  w : Ab (rF k.2.2 - 1) e'
  x : Ab (rF k.1 - X) e
  y : Ab (rF k.2.1 - Y) e
end Go.Proofs.Ytonbcbhnnflohaa

namespace Go.Proofs.Ytonbcbhnnflohaa
open Go.RowKit

/-- What k steps may cost. -/
def enN : Nat → Nat
  | 0 => 0
  | k + 1 => enN k + 360 * k + 400
def Pw (k : Nat) : Rat := (20 * k : Nat) * U
def Px (k : Nat) : Rat := (enN k : Nat) * U
theorem P_lim : ∀ k, k < 7 → Pw k ≤ 1 / 1000 ∧ Px k ≤ 1 / 1000 := by decide +kernel
abbrev KP (n : Nat) (k : Kn) (X Y : Rat) : Prop := NP k X Y (Pw n) (Px n)
inductive PL (n : Nat) : List Kn → List Rat → List Rat → Prop
  | nil : PL n [] [] []
  | cons {k c x X y Y} : KP n k x y → PL n c X Y → PL n (k :: c) (x :: X) (y :: Y)
theorem PL.all {n c X Y} (h : PL n c X Y) : ∀ k ∈ c, ∃ x y, KP n k x y := by
  induction h with
  | nil => intro k hk; cases hk
  | cons h _ ih =>
    intro k hk
    rcases List.mem_cons.1 hk with rfl | hk
    · exact ⟨_, _, h⟩
    · exact ih k hk
theorem gd_of' {x : Nat} (h : G x) (hi : Is .f32 x (some x)) (hb : Ab (rF x) 40) : Gd x := by
  have h1 := fin_finC (c := some x) h
  obtain ⟨z, hz, _, _⟩ := s32 (M := 80) h h ((hb.sub hb).to rfl (by grind)) (by grind) (by grind)
  rw [hz] at h1
  exact ⟨hi, z, hz, h1⟩
theorem KP.b1 {n : Nat} {k : Kn} {X Y : Rat} (h : KP n k X Y) (hn : n < 7) : Ab (rF k.1) (81 / 10) := by
  obtain ⟨l1, l2⟩ := P_lim n hn
  exact (h.x.add h.ax).to (by grind) (by grind)
theorem KP.b2 {n : Nat} {k : Kn} {X Y : Rat} (h : KP n k X Y) (hn : n < 7) : Ab (rF k.2.1) (81 / 10) := by
  obtain ⟨l1, l2⟩ := P_lim n hn
  exact (h.y.add h.ay).to (by grind) (by grind)
theorem KP.gd {n : Nat} {k : Kn} {X Y : Rat} (h : KP n k X Y) (hn : n < 7) : Gd k.1 ∧ Gd k.2.1 :=
  ⟨gd_of' h.g1 h.i1 ((h.b1 hn).to rfl (by grind)), gd_of' h.g2 h.i2 ((h.b2 hn).to rfl (by grind))⟩
theorem KP.wt {n : Nat} {k : Kn} {X Y : Rat} (h : KP n k X Y) (hn : n < 7) : Wt k.2.2 := by
  obtain ⟨l1, l2⟩ := P_lim n hn
  obtain ⟨a1, a2⟩ := h.w
  refine ⟨gd_of' h.g3 h.i3 ⟨by grind, by grind⟩, ?_⟩
  have hg0 : Fin .f32 (some 0) := G0
  have hg3 : Fin .f32 (some k.2.2) := h.g3
  rw [fgt_iff hg3 hg0, cv0]
  refine decide_eq_true ?_
  show 0 < rF k.2.2
  grind
theorem PL.gc {n c X Y} (h : PL n c X Y) (hn : n < 7) (h2 : 2 ≤ c.length) (h8 : c.length ≤ 8) : GC c := by
  refine ⟨h2, h8, ?_, ?_⟩
  · intro k hk
    obtain ⟨x, y, hK⟩ := h.all k hk
    exact hK.gd hn
  · intro k hk
    obtain ⟨x, y, hK⟩ := h.all k hk
    exact hK.wt hn
/-- Any time from 0 to 1. -/
structure T01 (t : Nat) : Prop where
  g : G t
  i : Is .f32 t (some t)
  h0 : 0 ≤ rF t
  h1 : rF t ≤ 1
theorem T01.tm {t : Nat} (h : T01 t) : TM t (rF t) U := by
  have h0 := h.h0
  have h1 := h.h1
  obtain ⟨o, ho, go, do_⟩ := s32 (M := 1) G1 h.g (by rw [one3]; exact ⟨by grind, by grind⟩) (by grind) (by grind)
  rw [one3] at do_
  exact ⟨h.g, h0, h1, ⟨by grind, by grind⟩, o, ho, go, do_.to rfl (by grind)⟩
theorem T01.Tm {t : Nat} (h : T01 t) : Tm t := by
  have hg0 : Fin .f32 (some 0) := G0
  have hg1 : Fin .f32 (some 1065353216) := G1
  have hg : Fin .f32 (some t) := h.g
  refine ⟨h.i, ?_, ?_⟩
  · rw [fge_iff hg hg0, cv0]
    exact decide_eq_true h.h0
  · rw [fle_iff hg hg1]
    refine decide_eq_true ?_
    show rF t ≤ rF 1065353216
    rw [one3]
    exact h.h1
/-! ## lengths -/
/-- The difference of a number and itself. -/
theorem sub_self {k : FloatKind} {x : Nat} (h : Fin k (some x)) : fop .sub k (some x) (some x) = some 0 := by
  obtain ⟨s, m, p, hr⟩ := fin_read h
  have e : fop .sub k (some x) (some x) = (Ieee.Datum.sum (.number s m p) (.number (!s) m p)).map k.format.write := by
    show (Ieee.Datum.sum (k.format.read x) (k.format.read x).opposite).map _ = _
    rw [hr]
    rfl
  rw [e]
  have z1 : (m : Int) + -(m : Int) = 0 := by omega
  have z2 : -(m : Int) + (m : Int) = 0 := by omega
  have e2 : Ieee.Datum.sum (.number s m p) (.number (!s) m p) = some (.number false 0 p) := by
    cases s <;> simp [Ieee.Datum.sum, Ieee.signed, z1, z2]
  rw [e2]
  cases k <;> (show some (Ieee.Format.write _ (.number false 0 p)) = some 0; simp [Ieee.Format.write, Ieee.Format.nearest]; decide +kernel)
end Go.Proofs.Ytonbcbhnnflohaa

namespace Go.Proofs.Ytonbcbhnnflohaa
open Go.RowKit

theorem Pw0 : Pw 0 = 0 := by decide +kernel
theorem Px0 : Px 0 = 0 := by decide +kernel
/-! ## what is drawn -/
theorem qvB_table : ∀ x : Nat, x < 64 → rung FloatKind.f32.format (qv ((x : Int) - 16)) < FloatKind.f32.format.infRung ∧ rF (qv ((x : Int) - 16)) = (((x : Int) - 16 : Int) : Rat) / 4 := by decide +kernel
theorem qvB_ok {i : Int} (h1 : -16 ≤ i) (h2 : i ≤ 47) : G (qv i) ∧ rF (qv i) = (i : Rat) / 4 ∧ Is .f32 (qv i) (some (qv i)) := by
  have h := qvB_table (i + 16).toNat (by omega)
  rw [show (((i + 16).toNat : Nat) : Int) - 16 = i by omega] at h
  exact ⟨h.1, h.2, fop_is (qB_ok h1 h2)⟩
theorem quarterB {i : Int} (h1 : -32 ≤ i) (h2 : i ≤ 32) : Ab ((i : Rat) / 4) 8 := by
  have a := Rat.intCast_le_intCast.2 h1
  have b := Rat.intCast_le_intCast.2 h2
  have e1 : ((-32 : Int) : Rat) = -32 := rfl
  have e2 : ((32 : Int) : Rat) = 32 := rfl
  rw [e1] at a
  rw [e2] at b
  constructor <;> grind
theorem i32_1' : Is .f32 1065353216 (some 1065353216) := Is_lit (by decide +kernel)
theorem exact_KP {x y : Nat} (gx : G x) (gy : G y) (ix : Is .f32 x (some x)) (iy : Is .f32 y (some y)) (bx : Ab (rF x) 8) (by_ : Ab (rF y) 8) : KP 0 (x, y, 1065353216) (rF x) (rF y) := by
  refine ⟨gx, gy, G1, ix, iy, i32_1', bx, by_, ?_, ?_, ?_⟩
  · rw [Pw0]; show Ab (rF 1065353216 - 1) 0; rw [one3]; constructor <;> grind
  · rw [Px0]; constructor <;> grind
  · rw [Px0]; constructor <;> grind
theorem base_P : ∀ (c : List Kn), (∀ k ∈ c, BK 19 k) → PL 0 c (c.map fun k => rF k.1) (c.map fun k => rF k.2.1)
  | [], _ => .nil
  | k :: c, h => by
    refine .cons ?_ (base_P c fun q hq => h q (List.mem_cons_of_mem _ hq))
    obtain ⟨i, j, a1, a2, b1, b2, rfl⟩ := h k List.mem_cons_self
    obtain ⟨g1, v1, i1⟩ := qvB_ok (i := i) (by omega) (by omega)
    obtain ⟨g2, v2, i2⟩ := qvB_ok (i := j) (by omega) (by omega)
    exact exact_KP g1 g2 i1 i2 (by rw [v1]; exact quarterB (by omega) (by omega)) (by rw [v2]; exact quarterB (by omega) (by omega))
/-! ## distances -/
/-! ## the search -/
theorem two2 : rF 1073741824 = 2 := by decide +kernel
theorem G2' : G 1073741824 := by show rung FloatKind.f32.format 1073741824 < _; decide +kernel
end Go.Proofs.Ytonbcbhnnflohaa

namespace Go.Proofs.Ytonbcbhnnflohaa
open Go.RowKit

theorem rF0' : rF 0 = 0 := by decide +kernel
/-- Points of a blend of plain knots. -/
theorem qblend_x {xa xb XA XB wa wb t f s w m i r e e' p : Rat} (h0 : 0 ≤ t) (h1 : t ≤ 1) (hXA : Ab XA (19 / 4)) (hXB : Ab XB (19 / 4)) (hxa : Ab (xa - XA) e) (hxb : Ab (xb - XB) e) (hwa : Ab (wa - 1) e') (hwb : Ab (wb - 1) e')
    (he : e ≤ 1 / 1000) (he' : e' ≤ 1 / 10000) (hp : p ≤ 3 * U)
    (hf : Ab (f - wa * (1 - t)) p) (hs : Ab (s - wb * t) p) (hw : Ab (w - (f + s)) (11 / 10 * U)) (hm : Ab (m - (xa * f + xb * s)) (15 * U)) (hi : Ab (i * w - 1) (7 / 2 * U)) (hr : Ab (r - m * i) (5 * U)) :
    Ab (r - (XA * (1 - t) + XB * t)) (e + 10 * e' + 20 * p + 46 * U) := by
  have hxa' : Ab xa (476 / 100) := (hxa.add hXA).to (by grind) (by grind)
  have hxb' : Ab xb (476 / 100) := (hxb.add hXB).to (by grind) (by grind)
  have hp0 := hf.nonneg
  have he0 := hwa.nonneg
  have hww : Ab (w - (1 * (1 - t) + 1 * t)) (e' + 2 * p + 3 * U) := blend_w h0 h1 hwa hwb hf hs (hw.to rfl (by grind))
  have hwa0 : 0 ≤ wa := by have := hwa.ge; grind
  have hwb0 : 0 ≤ wb := by have := hwb.ge; grind
  have hf0 : -p ≤ f := by
    have := Rat.mul_nonneg (a := wa) (b := 1 - t) hwa0 (by grind)
    have := hf.ge
    grind
  have hs0 : -p ≤ s := by
    have := Rat.mul_nonneg (a := wb) (b := t) hwb0 h0
    have := hs.ge
    grind
  have hwl : 999 / 1000 ≤ w ∧ w ≤ 1001 / 1000 := by
    obtain ⟨g1, g2⟩ := hww
    exact ⟨by grind, by grind⟩
  have hfs : f + s ≤ 1002 / 1000 := by
    obtain ⟨g1, g2⟩ := hww
    obtain ⟨g3, g4⟩ := hw
    grind
  have hN : Ab (xa * f + xb * s) (476 / 100 * (f + s) + 20 * p) := ((part hxa' hf0 hp0).add (part hxb' hs0 hp0)).to rfl (by grind)
  have hm9 : Ab m (48 / 10) := (hm.add hN).to (by grind) (by grind)
  have d1 := hm9.mul hi
  have d2 := hr.mul (Y := 1001 / 1000) (y := w) ⟨hwl.2, by grind⟩
  have hd : Ab (r * w - (xa * f + xb * s)) (38 * U) := ((hm.add d1).add d2).to (by grind) (by grind)
  have hr9 : Ab r (49 / 10) := by
    refine ab_of_mul (w := w) (by grind) ((hd.add hN).to (by grind) ?_)
    grind
  have k1 := hr9.mul hw
  have ka : Ab (r - xa) (97 / 10) := (hr9.sub hxa').to rfl (by grind)
  have kb : Ab (r - xb) (97 / 10) := (hr9.sub hxb').to rfl (by grind)
  have k2 := cvx (ka.mul hwa) (kb.mul hwb) h0 h1
  have k3 := ka.mul hf
  have k4 := kb.mul hs
  have k5 := cvx hxa hxb h0 h1
  exact (((((hd.sub k1).sub k2).sub k3).sub k4).add k5).to (by grind) (by grind)
/-- A plain knot near to an exact one. -/
structure NQ (k : Kn) (X Y e' e : Rat) : Prop where
  g1 : G k.1
  g2 : G k.2.1
  g3 : G k.2.2
  i1 : Is .f32 k.1 (some k.1)
  i2 : Is .f32 k.2.1 (some k.2.1)
  i3 : Is .f32 k.2.2 (some k.2.2)
  ax : Ab X (19 / 4)
  ay : Ab Y 2
  w : Ab (rF k.2.2 - 1) e'
  x : Ab (rF k.1 - X) e
  y : Ab (rF k.2.1 - Y) e
theorem wpart2 {wa e' o s q : Rat} (h1 : 0 ≤ s) (h2 : s ≤ 1) (hw : Ab (wa - 1) e') (he : e' ≤ 1 / 10000) (ho : Ab (o - s) q) (hq : q ≤ U) : Ab (wa * o) (10005 / 10000) ∧ Ab wa (10001 / 10000) := by
  obtain ⟨a1, a2⟩ := hw
  obtain ⟨b1, b2⟩ := ho
  have hA : Ab wa (10001 / 10000) := ⟨by grind, by grind⟩
  have hO : Ab o (1 + U) := ⟨by grind, by grind⟩
  exact ⟨(hA.mul hO).to rfl (by grind), hA⟩
theorem times2 {x y Y z q p : Rat} (h : Ab (x - y * z) q) (hy : Ab y (10001 / 10000)) (hz : Ab (z - Y) p) : Ab (x - y * Y) (q + 10001 / 10000 * p) :=
  (h.add (hy.mul hz)).to (by grind) (by grind)
set_option maxHeartbeats 1000000 in
theorem qblend_near {a b : Kn} {t : Nat} {XA YA XB YB e' e s q : Rat} (ha : NQ a XA YA e' e) (hb : NQ b XB YB e' e) (ht : TM t s q) (hq : q ≤ U) (he : e ≤ 1 / 1000) (he' : e' ≤ 1 / 10000) :
    ∃ r, blendC a b t = some r ∧ NQ r (XA * (1 - s) + XB * s) (YA * (1 - s) + YB * s) (e' + 6 * U) (e + 10 * e' + 90 * U) := by
  obtain ⟨o, ho, go, do_⟩ := ht.o
  have h0 := ht.h0
  have h1 := ht.h1
  have hq0 := do_.nonneg
  have do1 : Ab (rF o - (1 - s)) U := do_.to rfl hq
  have tt1 : Ab (rF t - s) U := ht.tt.to rfl hq
  obtain ⟨A1, A2⟩ := wpart2 (by grind) (by grind) ha.w he' do1 (by grind)
  obtain ⟨B1, B2⟩ := wpart2 h0 h1 hb.w he' tt1 (by grind)
  obtain ⟨f, hf, gf, df⟩ := m32 (M := 101 / 100) ha.g3 go (A1.to rfl (by grind)) (by grind) (by grind)
  obtain ⟨v, hv, gv, dv⟩ := m32 (M := 101 / 100) hb.g3 ht.g (B1.to rfl (by grind)) (by grind) (by grind)
  have hfb : Ab (rF f) (1002 / 1000) := (df.add A1).to (by grind) (by grind)
  have hvb : Ab (rF v) (1002 / 1000) := (dv.add B1).to (by grind) (by grind)
  have hf' := (times2 df A2 do1).to (Y := 21 / 10 * U) rfl (by grind)
  have hv' := (times2 dv B2 tt1).to (Y := 21 / 10 * U) rfl (by grind)
  have hfv : Ab (rF f + rF v) (1002 / 1000) := by
    have h2 := cvx ha.w hb.w h0 h1
    have h3 := (hf'.add hv').add h2
    obtain ⟨g1, g2⟩ := h3
    constructor <;> grind
  obtain ⟨w, hw, gw, dw⟩ := a32 (M := 101 / 100) gf gv (hfv.to rfl (by grind)) (by grind) (by grind)
  have hww : Ab (rF w - (1 * (1 - s) + 1 * s)) (e' + 6 * U) := (((dw.add hf').add hv').add (cvx ha.w hb.w h0 h1)).to (by grind) (by grind)
  have xa4 : Ab (rF a.1) (476 / 100) := (ha.x.add ha.ax).to (by grind) (by grind)
  have xb4 : Ab (rF b.1) (476 / 100) := (hb.x.add hb.ax).to (by grind) (by grind)
  have ya4 : Ab (rF a.2.1) (476 / 100) := (ha.y.add ha.ay).to (by grind) (by grind)
  have yb4 : Ab (rF b.2.1) (476 / 100) := (hb.y.add hb.ay).to (by grind) (by grind)
  obtain ⟨p, hpp, gp1, gp2, _, _, dp1, dp2⟩ := scaled_near (a := (a.1, a.2.1)) (M := 5) ha.g1 ha.g2 gf ((xa4.mul hfb).to rfl (by grind)) ((ya4.mul hfb).to rfl (by grind)) (by grind) (by grind)
  obtain ⟨z, hzz, gz1, gz2, _, _, dz1, dz2⟩ := scaled_near (a := (b.1, b.2.1)) (M := 5) hb.g1 hb.g2 gv ((xb4.mul hvb).to rfl (by grind)) ((yb4.mul hvb).to rfl (by grind)) (by grind) (by grind)
  have hf0 : -(5 * U) ≤ rF f := by
    have hwa0 : 0 ≤ rF a.2.2 := by have := ha.w.ge; grind
    have := Rat.mul_nonneg (a := rF a.2.2) (b := 1 - s) hwa0 (by grind)
    have := hf'.ge
    grind
  have hv0 : -(5 * U) ≤ rF v := by
    have hwb0 : 0 ≤ rF b.2.2 := by have := hb.w.ge; grind
    have := Rat.mul_nonneg (a := rF b.2.2) (b := s) hwb0 h0
    have := hv'.ge
    grind
  have hu0 : (0 : Rat) ≤ 5 * U := by grind
  have nx := ((part xa4 hf0 hu0).add (part xb4 hv0 hu0)).to (Y := 48 / 10) rfl (by have := hfv.le; grind)
  have ny := ((part ya4 hf0 hu0).add (part yb4 hv0 hu0)).to (Y := 48 / 10) rfl (by have := hfv.le; grind)
  obtain ⟨m, hm, gm1, gm2, dm1, dm2⟩ := plus_near (M := 5) gp1 gp2 gz1 gz2 (((dp1.add dz1).add nx).to (by grind) (by grind)) (((dp2.add dz2).add ny).to (by grind) (by grind)) (by grind) (by grind)
  have em1 : Ab (rF m.1 - (rF a.1 * rF f + rF b.1 * rF v)) (15 * U) := ((dm1.add dp1).add dz1).to (by grind) (by grind)
  have em2 : Ab (rF m.2 - (rF a.2.1 * rF f + rF b.2.1 * rF v)) (15 * U) := ((dm2.add dp2).add dz2).to (by grind) (by grind)
  have hwl : 999 / 1000 ≤ rF w ∧ rF w ≤ 1001 / 1000 := by
    obtain ⟨g1, g2⟩ := hww
    exact ⟨by grind, by grind⟩
  have hwne : rF w ≠ 0 := by have := hwl.1; grind
  have hinv : Ab (rF 1065353216 / rF w) (101 / 100) := by
    refine ab_of_mul (w := rF w) (by have := hwl.1; grind) ?_
    rw [Rat.div_mul_cancel hwne, one3]
    have := hwl.1
    constructor <;> grind
  obtain ⟨i, hi, gi, di⟩ := q32 (M := 101 / 100) G1 gw hwne hinv (by grind) (by grind)
  have hiw : Ab (rF i * rF w - 1) (7 / 2 * U) := by
    have h2 := di.mul (Y := 1001 / 1000) (y := rF w) ⟨hwl.2, by have := hwl.1; grind⟩
    have h3 : rF 1065353216 / rF w * rF w = 1 := by rw [Rat.div_mul_cancel hwne, one3]
    generalize rF 1065353216 / rF w = z at h2 h3
    exact h2.to (by grind) (by grind)
  have hi2 : Ab (rF i) (102 / 100) := by
    have h4 := hiw.le
    have h5 := hiw.ge
    refine ab_of_mul (w := rF w) (by have := hwl.1; grind) ⟨by have := hwl.1; grind, by have := hwl.1; grind⟩
  have hm1 : Ab (rF m.1) (481 / 100) := (em1.add nx).to (by grind) (by grind)
  have hm2 : Ab (rF m.2) (481 / 100) := (em2.add ny).to (by grind) (by grind)
  obtain ⟨r, hr, gr1, gr2, ir1, ir2, dr1, dr2⟩ := scaled_near (a := m) (M := 5) gm1 gm2 gi ((hm1.mul hi2).to rfl (by grind)) ((hm2.mul hi2).to rfl (by grind)) (by grind) (by grind)
  have bx := qblend_x h0 h1 ha.ax hb.ax ha.x hb.x ha.w hb.w he he' (by grind) hf' hv' (dw.to rfl (by grind)) em1 hiw dr1
  have bY := qblend_x h0 h1 (ha.ay.to rfl (by grind)) (hb.ay.to rfl (by grind)) ha.y hb.y ha.w hb.w he he' (by grind) hf' hv' (dw.to rfl (by grind)) em2 hiw dr2
  refine ⟨(r.1, r.2, w), ?_, gr1, gr2, gw, ir1, ir2, fop_is hw, cvx ha.ax hb.ax h0 h1, cvx ha.ay hb.ay h0 h1, hww.to (by grind) (by grind), bx.to rfl (by grind), bY.to rfl (by grind)⟩
  unfold blendC
  simp only [ho, hf, hv, hw, hpp, hzz, hm, hi, hr, Option.bind_some]
/-- What k steps may cost. -/
def enQ : Nat → Nat
  | 0 => 0
  | k + 1 => enQ k + 60 * k + 90
def Qw (k : Nat) : Rat := (6 * k : Nat) * U
def Qx (k : Nat) : Rat := (enQ k : Nat) * U
theorem Qw_succ (k : Nat) : Qw (k + 1) = Qw k + 6 * U := by
  unfold Qw
  rw [show 6 * (k + 1) = 6 * k + 6 by omega, Rat.natCast_add]
  grind
theorem Qx_succ (k : Nat) : Qx (k + 1) = Qx k + 10 * Qw k + 90 * U := by
  unfold Qx Qw
  rw [show enQ (k + 1) = enQ k + 10 * (6 * k) + 90 by rw [enQ]; omega, Rat.natCast_add, Rat.natCast_add, Rat.natCast_mul]
  grind
theorem Q_lim : ∀ k, k < 7 → Qw k ≤ 1 / 10000 ∧ Qx k ≤ 1 / 1000 := by decide +kernel
theorem Qx4 : ∀ k, k < 5 → Qx k ≤ 44 / 1000000 := by decide +kernel
abbrev KQ (n : Nat) (k : Kn) (X Y : Rat) : Prop := NQ k X Y (Qw n) (Qx n)
theorem KQ.blend {n : Nat} {a b : Kn} {t : Nat} {XA YA XB YB s q : Rat} (ha : KQ n a XA YA) (hb : KQ n b XB YB) (ht : TM t s q) (hq : q ≤ U) (hn : n < 7) :
    ∃ r, blendC a b t = some r ∧ KQ (n + 1) r (XA * (1 - s) + XB * s) (YA * (1 - s) + YB * s) := by
  obtain ⟨l1, l2⟩ := Q_lim n hn
  obtain ⟨r, hr, h⟩ := qblend_near ha hb ht hq l2 l1
  have e1 := Qw_succ n
  have e2 := Qx_succ n
  exact ⟨r, hr, by unfold KQ; rw [e1, e2]; exact h⟩
inductive QL (n : Nat) : List Kn → List Rat → List Rat → Prop
  | nil : QL n [] [] []
  | cons {k c x X y Y} : KQ n k x y → QL n c X Y → QL n (k :: c) (x :: X) (y :: Y)
theorem QL.next {n c X Y} {t : Nat} {s q : Rat} (h : QL n c X Y) (ht : TM t s q) (hq : q ≤ U) (hn : n < 7) : ∃ d, nextC c t = some d ∧ QL (n + 1) d (nextS X s) (nextS Y s) := by
  induction h with
  | nil => exact ⟨[], rfl, .nil⟩
  | cons h1 h2 ih =>
    cases h2 with
    | nil => exact ⟨[], rfl, .nil⟩
    | cons h3 h4 =>
      obtain ⟨d, hd, hN⟩ := ih
      obtain ⟨r, hr, hK⟩ := h1.blend h3 ht hq hn
      refine ⟨r :: d, ?_, .cons hK hN⟩
      unfold nextC
      rw [hr, Option.bind_some, hd]
      rfl
theorem QL.head {n c X Y} (h : QL n c X Y) (h0 : 0 < c.length) : ∃ k, c.head? = some k ∧ KQ n k (X.headD 0) (Y.headD 0) := by
  cases h with
  | nil => simp at h0
  | cons h1 _ => exact ⟨_, rfl, h1⟩
theorem QL.at_ {t : Nat} {s q : Rat} (ht : TM t s q) (hq : q ≤ U) : ∀ (m : Nat) {n : Nat} {c : List Kn} {X Y : List Rat}, QL n c X Y → c.length = m + 1 → n + m < 7 → ∃ k, atK m c t = some k ∧ KQ (n + m) k (sAt m X s) (sAt m Y s)
  | 0, n, c, X, Y, h, hl, hn => h.head (by omega)
  | m + 1, n, c, X, Y, h, hl, hn => by
    obtain ⟨d, hd, hN⟩ := h.next ht hq (by omega)
    obtain ⟨hdl, _⟩ := nextC_get t c d hd
    obtain ⟨k, hk, hK⟩ := QL.at_ ht hq m hN (by omega) (by omega)
    refine ⟨k, by unfold atK; rw [hd]; exact hk, ?_⟩
    rw [show n + (m + 1) = n + 1 + m by omega]
    exact hK
theorem exact_KQ {x y : Nat} (gx : G x) (gy : G y) (ix : Is .f32 x (some x)) (iy : Is .f32 y (some y)) (bx : Ab (rF x) (19 / 4)) (by_ : Ab (rF y) 2) : KQ 0 (x, y, 1065353216) (rF x) (rF y) := by
  have w0 : Qw 0 = 0 := by decide +kernel
  have x0 : Qx 0 = 0 := by decide +kernel
  refine ⟨gx, gy, G1, ix, iy, i32_1', bx, by_, ?_, ?_, ?_⟩
  · rw [w0]; show Ab (rF 1065353216 - 1) 0; rw [one3]; constructor <;> grind
  · rw [x0]; constructor <;> grind
  · rw [x0]; constructor <;> grind
theorem base_Q : ∀ (c : List Kn), (∀ k ∈ c, BK 19 k) → QL 0 c (c.map fun k => rF k.1) (c.map fun k => rF k.2.1)
  | [], _ => .nil
  | k :: c, h => by
    refine .cons ?_ (base_Q c fun q hq => h q (List.mem_cons_of_mem _ hq))
    obtain ⟨i, j, a1, a2, b1, b2, rfl⟩ := h k List.mem_cons_self
    obtain ⟨g1, v1, i1⟩ := qvB_ok (i := i) (by omega) (by omega)
    obtain ⟨g2, v2, i2⟩ := qvB_ok (i := j) (by omega) (by omega)
    have i0 : ((0 : Int) : Rat) ≤ (i : Rat) := Rat.intCast_le_intCast.2 a1
    have i19 : (i : Rat) ≤ ((19 : Int) : Rat) := Rat.intCast_le_intCast.2 a2
    have j0 : ((-8 : Int) : Rat) ≤ (j : Rat) := Rat.intCast_le_intCast.2 b1
    have j8 : (j : Rat) ≤ ((8 : Int) : Rat) := Rat.intCast_le_intCast.2 b2
    rw [show ((0 : Int) : Rat) = 0 from rfl] at i0
    rw [show ((19 : Int) : Rat) = 19 from rfl] at i19
    rw [show ((-8 : Int) : Rat) = -8 from rfl] at j0
    rw [show ((8 : Int) : Rat) = 8 from rfl] at j8
    exact exact_KQ g1 g2 i1 i2 (by rw [v1]; constructor <;> grind) (by rw [v2]; constructor <;> grind)
end Go.Proofs.Ytonbcbhnnflohaa
