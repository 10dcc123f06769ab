/-
  FnCurves: single operations in single precision, near to rational numbers; the blend of two knots, in plain numbers.
-/
import Derived.Test.YtonbcbhnnflohaaQr
namespace Go.Proofs.Ytonbcbhnnflohaa
open Go.RowKit

abbrev G (x : Nat) : Prop := Fin .f32 (some x)
abbrev rF (x : Nat) : Rat := rv .f32 x
abbrev U : Rat := 1 / 16777216
theorem u32 : uk .f32 = U := by show p2 (-24) = _; decide +kernel
theorem low1 {M : Rat} (h : 1 ≤ M) : p2 (-126) ≤ M := by
  have : p2 (-126) ≤ 1 := by decide +kernel
  grind
theorem high1 {M : Rat} (h : M ≤ 4096) : 2 * M < p2 127 := by
  have : (2 * 4096 : Rat) < p2 127 := by decide +kernel
  grind
theorem fin_some' {k : FloatKind} {c : Option Nat} (h : Fin k c) : ∃ r, c = some r := by
  cases c with
  | none => exact h.elim
  | some r => exact ⟨r, rfl⟩
theorem m32 {a b : Nat} (ha : G a) (hb : G b) {M : Rat} (h : Ab (rF a * rF b) M) (h0 : 1 ≤ M) (h1 : M ≤ 4096) : ∃ r, fop .mul .f32 (some a) (some b) = some r ∧ G r ∧ Ab (rF r - rF a * rF b) (M * U) := by
  have hp := high1 h1
  obtain ⟨g1, g2⟩ := mul_near ha hb h (low1 h0) (by grind)
  obtain ⟨r, hr⟩ := fin_some' g1
  rw [hr] at g1 g2
  rw [u32] at g2
  exact ⟨r, hr, g1, g2.ab⟩
theorem a32 {a b : Nat} (ha : G a) (hb : G b) {M : Rat} (h : Ab (rF a + rF b) M) (h0 : 1 ≤ M) (h1 : M ≤ 4096) : ∃ r, fop .add .f32 (some a) (some b) = some r ∧ G r ∧ Ab (rF r - (rF a + rF b)) (M * U) := by
  have hp := high1 h1
  obtain ⟨g1, g2⟩ := add_near ha hb h (low1 h0) (by grind)
  obtain ⟨r, hr⟩ := fin_some' g1
  rw [hr] at g1 g2
  rw [u32] at g2
  exact ⟨r, hr, g1, g2.ab⟩
theorem s32 {a b : Nat} (ha : G a) (hb : G b) {M : Rat} (h : Ab (rF a - rF b) M) (h0 : 1 ≤ M) (h1 : M ≤ 4096) : ∃ r, fop .sub .f32 (some a) (some b) = some r ∧ G r ∧ Ab (rF r - (rF a - rF b)) (M * U) := by
  have hp := high1 h1
  obtain ⟨g1, g2⟩ := sub_near ha hb h (low1 h0) (by grind)
  obtain ⟨r, hr⟩ := fin_some' g1
  rw [hr] at g1 g2
  rw [u32] at g2
  exact ⟨r, hr, g1, g2.ab⟩
theorem q32 {a b : Nat} (ha : G a) (hb : G b) (hz : rF b ≠ 0) {M : Rat} (h : Ab (rF a / rF b) M) (h0 : 1 ≤ M) (h1 : M ≤ 4096) : ∃ r, fop .quo .f32 (some a) (some b) = some r ∧ G r ∧ Ab (rF r - rF a / rF b) (3 * M * U) := by
  obtain ⟨g1, g2⟩ := quo_near ha hb hz h (low1 h0) (high1 h1)
  obtain ⟨r, hr⟩ := fin_some' g1
  rw [hr] at g1 g2
  rw [u32] at g2
  exact ⟨r, hr, g1, g2.ab⟩

/-! ## the blend in plain numbers -/
theorem cvx {x y X t : Rat} (hx : Ab x X) (hy : Ab y X) (h0 : 0 ≤ t) (h1 : t ≤ 1) : Ab (x * (1 - t) + y * t) X := by
  obtain ⟨a1, a2⟩ := hx
  obtain ⟨b1, b2⟩ := hy
  have e1 := Rat.mul_nonneg (a := X - x) (b := 1 - t) (by grind) (by grind)
  have e2 := Rat.mul_nonneg (a := X + x) (b := 1 - t) (by grind) (by grind)
  have e3 := Rat.mul_nonneg (a := X - y) (b := t) (by grind) h0
  have e4 := Rat.mul_nonneg (a := X + y) (b := t) (by grind) h0
  constructor <;> grind
theorem cvx_le {x y X t : Rat} (hx : x ≤ X) (hy : y ≤ X) (h0 : 0 ≤ t) (h1 : t ≤ 1) : x * (1 - t) + y * t ≤ X := by
  have e1 := Rat.mul_nonneg (a := X - x) (b := 1 - t) (by grind) (by grind)
  have e3 := Rat.mul_nonneg (a := X - y) (b := t) (by grind) h0
  grind
theorem cvx_ge {x y X t : Rat} (hx : X ≤ x) (hy : X ≤ y) (h0 : 0 ≤ t) (h1 : t ≤ 1) : X ≤ x * (1 - t) + y * t := by
  have e1 := Rat.mul_nonneg (a := x - X) (b := 1 - t) (by grind) (by grind)
  have e3 := Rat.mul_nonneg (a := y - X) (b := t) (by grind) h0
  grind
theorem ab_of_mul {x c w : Rat} (hw : 0 < w) (h : Ab (x * w) (c * w)) : Ab x c := by
  obtain ⟨h1, h2⟩ := h
  constructor
  · apply Rat.not_lt.1
    intro hlt
    have := Rat.mul_pos (a := x - c) (b := w) (by grind) hw
    grind
  · apply Rat.not_lt.1
    intro hlt
    have := Rat.mul_pos (a := -c - x) (b := w) (by grind) hw
    grind
/-- What a product with a number that is hardly below 0 comes to. -/
theorem part {x f X p : Rat} (hx : Ab x X) (hf : -p ≤ f) (hp : 0 ≤ p) : Ab (x * f) (X * f + 2 * (X * p)) := by
  obtain ⟨a1, a2⟩ := hx
  have e1 := Rat.mul_nonneg (a := X - x) (b := f + p) (by grind) (by grind)
  have e2 := Rat.mul_nonneg (a := X + x) (b := f + p) (by grind) (by grind)
  have e3 := Rat.mul_nonneg (a := X - x) (b := p) (by grind) hp
  have e4 := Rat.mul_nonneg (a := X + x) (b := p) (by grind) hp
  constructor <;> grind
theorem Ab.add {x y X Y : Rat} (hx : Ab x X) (hy : Ab y Y) : Ab (x + y) (X + Y) := by
  obtain ⟨a1, a2⟩ := hx
  obtain ⟨b1, b2⟩ := hy
  constructor <;> grind
theorem Ab.sub {x y X Y : Rat} (hx : Ab x X) (hy : Ab y Y) : Ab (x - y) (X + Y) := by
  obtain ⟨a1, a2⟩ := hx
  obtain ⟨b1, b2⟩ := hy
  constructor <;> grind
theorem Ab.to {x y X Y : Rat} (hx : Ab x X) (h : x = y) (hX : X ≤ Y) : Ab y Y := by
  subst h
  obtain ⟨a1, a2⟩ := hx
  constructor <;> grind
/-- Weights. -/
theorem blend_w {WA WB wa wb t f s w e' p : Rat} (h0 : 0 ≤ t) (h1 : t ≤ 1) (hwa : Ab (wa - WA) e') (hwb : Ab (wb - WB) e')
    (hf : Ab (f - wa * (1 - t)) p) (hs : Ab (s - wb * t) p) (hw : Ab (w - (f + s)) (3 * U)) : Ab (w - (WA * (1 - t) + WB * t)) (e' + 2 * p + 3 * U) := by
  have h2 := cvx hwa hwb h0 h1
  exact (((hw.add hf).add hs).add h2).to (by grind) (by grind)
/-- Points. -/
theorem blend_x {xa xb XA XB WA WB wa wb t f s w m i r e e' p : Rat} (h0 : 0 ≤ t) (h1 : t ≤ 1) (hWA : 1 / 4 ≤ WA) (hWB : 1 / 4 ≤ WB) (hWA2 : WA ≤ 2) (hWB2 : WB ≤ 2)
    (hXA : Ab XA (4 * WA)) (hXB : Ab XB (4 * WB)) (hxa : Ab (xa * WA - XA) (e * WA)) (hxb : Ab (xb * WB - XB) (e * WB)) (hwa : Ab (wa - WA) e') (hwb : Ab (wb - WB) e')
    (he : e ≤ 1 / 100) (he' : e' ≤ 1 / 1000) (hp : p ≤ 16 * U)
    (hf : Ab (f - wa * (1 - t)) p) (hs : Ab (s - wb * t) p) (hw : Ab (w - (f + s)) (3 * U)) (hm : Ab (m - (xa * f + xb * s)) (27 * U)) (hi : Ab (i * w - 1) (32 * U)) (hr : Ab (r - m * i) (45 * U)) :
    Ab (r * (WA * (1 - t) + WB * t) - (XA * (1 - t) + XB * t)) ((e + 36 * e' + 72 * p + 1700 * U) * (WA * (1 - t) + WB * t)) := by
  have hxa' : Ab xa (401 / 100) := ab_of_mul (w := WA) (by grind) ((hxa.add hXA).to (by grind) (by
    have := Rat.mul_nonneg (a := 1 / 100 - e) (b := WA) (by grind) (by grind)
    grind))
  have hxb' : Ab xb (401 / 100) := ab_of_mul (w := WB) (by grind) ((hxb.add hXB).to (by grind) (by
    have := Rat.mul_nonneg (a := 1 / 100 - e) (b := WB) (by grind) (by grind)
    grind))
  have hp0 := hf.nonneg
  have he0 := hwa.nonneg
  have hW1 := cvx_ge hWA hWB h0 h1
  have hW2 := cvx_le hWA2 hWB2 h0 h1
  have hww := blend_w h0 h1 hwa hwb hf hs hw
  have hwa0 : 0 ≤ wa := by have := hwa.ge; grind
  have hwb0 : 0 ≤ wb := by have := hwb.ge; grind
  have hf0 : -p ≤ f := by
    have := Rat.mul_nonneg (a := wa) (b := 1 - t) hwa0 (by grind)
    have := hf.ge
    grind
  have hs0 : -p ≤ s := by
    have := Rat.mul_nonneg (a := wb) (b := t) hwb0 h0
    have := hs.ge
    grind
  generalize hW : WA * (1 - t) + WB * t = W at *
  have hwl : 0 < w ∧ w ≤ 21 / 10 := by
    obtain ⟨g1, g2⟩ := hww
    exact ⟨by grind, by grind⟩
  have hfs : f + s ≤ 205 / 100 := by
    obtain ⟨g1, g2⟩ := hww
    obtain ⟨g3, g4⟩ := hw
    grind
  have hN : Ab (xa * f + xb * s) (401 / 100 * (f + s) + 18 * p) := ((part hxa' hf0 hp0).add (part hxb' hs0 hp0)).to rfl (by grind)
  have hm9 : Ab m 9 := (hm.add hN).to (by grind) (by grind)
  have d1 := hm9.mul hi
  have d2 := hr.mul (Y := 21 / 10) (y := w) ⟨hwl.2, by grind⟩
  -- r * w is near to the sum
  have hd : Ab (r * w - (xa * f + xb * s)) (410 * U) := ((hm.add d1).add d2).to (by grind) (by grind)
  have hr5 : Ab r (42 / 10) := by
    refine ab_of_mul hwl.1 ((hd.add hN).to (by grind) ?_)
    obtain ⟨g1, g2⟩ := hww
    obtain ⟨g3, g4⟩ := hw
    grind
  have k1 := hr5.mul hw
  have ka : Ab (r - xa) 9 := (hr5.sub hxa').to rfl (by grind)
  have kb : Ab (r - xb) 9 := (hr5.sub hxb').to rfl (by grind)
  have k2 := cvx (ka.mul hwa) (kb.mul hwb) h0 h1
  have k3 := ka.mul hf
  have k4 := kb.mul hs
  have k5 : Ab ((xa * WA - XA) * (1 - t) + (xb * WB - XB) * t) (e * W) := by
    have e1 := Rat.mul_nonneg (a := e * WA - (xa * WA - XA)) (b := 1 - t) (by have := hxa.le; grind) (by grind)
    have e2 := Rat.mul_nonneg (a := e * WA + (xa * WA - XA)) (b := 1 - t) (by have := hxa.ge; grind) (by grind)
    have e3 := Rat.mul_nonneg (a := e * WB - (xb * WB - XB)) (b := t) (by have := hxb.le; grind) h0
    have e4 := Rat.mul_nonneg (a := e * WB + (xb * WB - XB)) (b := t) (by have := hxb.ge; grind) h0
    rw [← hW]
    constructor <;> grind
  have hsum := ((((hd.sub k1).sub k2).sub k3).sub k4).add k5
  refine hsum.to ?_ ?_
  · rw [← hW]; grind
  · have := Rat.mul_nonneg (a := 36 * e' + 72 * p + 1700 * U) (b := W - 1 / 4) (by grind) (by grind)
    grind
end Go.Proofs.Ytonbcbhnnflohaa
