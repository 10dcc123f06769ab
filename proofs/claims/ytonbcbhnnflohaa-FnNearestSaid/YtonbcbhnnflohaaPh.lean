/-
  FnNearest: rows of plain knots; lengths of any points; numbers that are the same.
-/
import Derived.Test.YtonbcbhnnflohaaPg
namespace Go.Proofs.Ytonbcbhnnflohaa
open Go.RowKit

/-- What k steps may cost. -/
def enN : Nat → Nat
  | 0 => 0
  | k + 1 => enN k + 360 * k + 400
def Pw (k : Nat) : Rat := (20 * k : Nat) * U
def Px (k : Nat) : Rat := (enN k : Nat) * U
theorem Pw_succ (k : Nat) : Pw (k + 1) = Pw k + 20 * U := by
  unfold Pw
  rw [show 20 * (k + 1) = 20 * k + 20 by omega, Rat.natCast_add]
  grind
theorem Px_succ (k : Nat) : Px (k + 1) = Px k + 18 * Pw k + 400 * U := by
  unfold Px Pw
  rw [show enN (k + 1) = enN k + 18 * (20 * k) + 400 by rw [enN]; omega, Rat.natCast_add, Rat.natCast_add, Rat.natCast_mul]
  grind
theorem P_lim : ∀ k, k < 7 → Pw k ≤ 1 / 1000 ∧ Px k ≤ 1 / 1000 := by decide +kernel
theorem Px4 : ∀ k, k < 5 → Px k ≤ 3 / 10000 := by decide +kernel
abbrev KP (n : Nat) (k : Kn) (X Y : Rat) : Prop := NP k X Y (Pw n) (Px n)
theorem KP.blend {n : Nat} {a b : Kn} {t : Nat} {XA YA XB YB s q : Rat} (ha : KP n a XA YA) (hb : KP n b XB YB) (ht : TM t s q) (hq : q ≤ U) (hn : n < 7) :
    ∃ r, blendC a b t = some r ∧ KP (n + 1) r (XA * (1 - s) + XB * s) (YA * (1 - s) + YB * s) := by
  obtain ⟨l1, l2⟩ := P_lim n hn
  obtain ⟨r, hr, h⟩ := pblend_near ha hb ht hq (by grind) l1
  have e1 := Pw_succ n
  have e2 := Px_succ n
  exact ⟨r, hr, by unfold KP; rw [e1, e2]; exact h⟩
inductive PL (n : Nat) : List Kn → List Rat → List Rat → Prop
  | nil : PL n [] [] []
  | cons {k c x X y Y} : KP n k x y → PL n c X Y → PL n (k :: c) (x :: X) (y :: Y)
theorem PL.len {n c X Y} (h : PL n c X Y) : X.length = c.length ∧ Y.length = c.length := by
  induction h with
  | nil => exact ⟨rfl, rfl⟩
  | cons _ _ ih => simp [ih]
theorem PL.all {n c X Y} (h : PL n c X Y) : ∀ k ∈ c, ∃ x y, KP n k x y := by
  induction h with
  | nil => intro k hk; cases hk
  | cons h _ ih =>
    intro k hk
    rcases List.mem_cons.1 hk with rfl | hk
    · exact ⟨_, _, h⟩
    · exact ih k hk
theorem PL.next {n c X Y} {t : Nat} {s q : Rat} (h : PL n c X Y) (ht : TM t s q) (hq : q ≤ U) (hn : n < 7) : ∃ d, nextC c t = some d ∧ PL (n + 1) d (nextS X s) (nextS Y s) := by
  induction h with
  | nil => exact ⟨[], rfl, .nil⟩
  | cons h1 h2 ih =>
    cases h2 with
    | nil => exact ⟨[], rfl, .nil⟩
    | cons h3 h4 =>
      obtain ⟨d, hd, hN⟩ := ih
      obtain ⟨r, hr, hK⟩ := h1.blend h3 ht hq hn
      refine ⟨r :: d, ?_, .cons hK hN⟩
      unfold nextC
      rw [hr, Option.bind_some, hd]
      rfl
theorem PL.head {n c X Y} (h : PL n c X Y) (h0 : 0 < c.length) : ∃ k, c.head? = some k ∧ KP n k (X.headD 0) (Y.headD 0) := by
  cases h with
  | nil => simp at h0
  | cons h1 _ => exact ⟨_, rfl, h1⟩
theorem PL.at_ {t : Nat} {s q : Rat} (ht : TM t s q) (hq : q ≤ U) : ∀ (m : Nat) {n : Nat} {c : List Kn} {X Y : List Rat}, PL n c X Y → c.length = m + 1 → n + m < 7 → ∃ k, atK m c t = some k ∧ KP (n + m) k (sAt m X s) (sAt m Y s)
  | 0, n, c, X, Y, h, hl, hn => h.head (by omega)
  | m + 1, n, c, X, Y, h, hl, hn => by
    obtain ⟨d, hd, hN⟩ := h.next ht hq (by omega)
    obtain ⟨hdl, _⟩ := nextC_get t c d hd
    obtain ⟨k, hk, hK⟩ := PL.at_ ht hq m hN (by omega) (by omega)
    refine ⟨k, by unfold atK; rw [hd]; exact hk, ?_⟩
    rw [show n + (m + 1) = n + 1 + m by omega]
    exact hK
theorem gd_of' {x : Nat} (h : G x) (hi : Is .f32 x (some x)) (hb : Ab (rF x) 40) : Gd x := by
  have h1 := fin_finC (c := some x) h
  obtain ⟨z, hz, _, _⟩ := s32 (M := 80) h h ((hb.sub hb).to rfl (by grind)) (by grind) (by grind)
  rw [hz] at h1
  exact ⟨hi, z, hz, h1⟩
theorem KP.b1 {n : Nat} {k : Kn} {X Y : Rat} (h : KP n k X Y) (hn : n < 7) : Ab (rF k.1) (81 / 10) := by
  obtain ⟨l1, l2⟩ := P_lim n hn
  exact (h.x.add h.ax).to (by grind) (by grind)
theorem KP.b2 {n : Nat} {k : Kn} {X Y : Rat} (h : KP n k X Y) (hn : n < 7) : Ab (rF k.2.1) (81 / 10) := by
  obtain ⟨l1, l2⟩ := P_lim n hn
  exact (h.y.add h.ay).to (by grind) (by grind)
theorem KP.gd {n : Nat} {k : Kn} {X Y : Rat} (h : KP n k X Y) (hn : n < 7) : Gd k.1 ∧ Gd k.2.1 :=
  ⟨gd_of' h.g1 h.i1 ((h.b1 hn).to rfl (by grind)), gd_of' h.g2 h.i2 ((h.b2 hn).to rfl (by grind))⟩
theorem KP.wt {n : Nat} {k : Kn} {X Y : Rat} (h : KP n k X Y) (hn : n < 7) : Wt k.2.2 := by
  obtain ⟨l1, l2⟩ := P_lim n hn
  obtain ⟨a1, a2⟩ := h.w
  refine ⟨gd_of' h.g3 h.i3 ⟨by grind, by grind⟩, ?_⟩
  have hg0 : Fin .f32 (some 0) := G0
  have hg3 : Fin .f32 (some k.2.2) := h.g3
  rw [fgt_iff hg3 hg0, cv0]
  refine decide_eq_true ?_
  show 0 < rF k.2.2
  grind
theorem PL.gc {n c X Y} (h : PL n c X Y) (hn : n < 7) (h2 : 2 ≤ c.length) (h8 : c.length ≤ 8) : GC c := by
  refine ⟨h2, h8, ?_, ?_⟩
  · intro k hk
    obtain ⟨x, y, hK⟩ := h.all k hk
    exact hK.gd hn
  · intro k hk
    obtain ⟨x, y, hK⟩ := h.all k hk
    exact hK.wt hn
/-- Any time from 0 to 1. -/
structure T01 (t : Nat) : Prop where
  g : G t
  i : Is .f32 t (some t)
  h0 : 0 ≤ rF t
  h1 : rF t ≤ 1
theorem T01.tm {t : Nat} (h : T01 t) : TM t (rF t) U := by
  have h0 := h.h0
  have h1 := h.h1
  obtain ⟨o, ho, go, do_⟩ := s32 (M := 1) G1 h.g (by rw [one3]; exact ⟨by grind, by grind⟩) (by grind) (by grind)
  rw [one3] at do_
  exact ⟨h.g, h0, h1, ⟨by grind, by grind⟩, o, ho, go, do_.to rfl (by grind)⟩
theorem T01.Tm {t : Nat} (h : T01 t) : Tm t := by
  have hg0 : Fin .f32 (some 0) := G0
  have hg1 : Fin .f32 (some 1065353216) := G1
  have hg : Fin .f32 (some t) := h.g
  refine ⟨h.i, ?_, ?_⟩
  · rw [fge_iff hg hg0, cv0]
    exact decide_eq_true h.h0
  · rw [fle_iff hg hg1]
    refine decide_eq_true ?_
    show rF t ≤ rF 1065353216
    rw [one3]
    exact h.h1
/-- A point of a plain curve at any time. -/
theorem pat {c : List Kn} {X Y : List Rat} (h : PL 0 c X Y) (h2 : 2 ≤ c.length) (h5 : c.length ≤ 5) {t : Nat} (ht : T01 t) :
    ∃ k, AtOk c t k ∧ KP (c.length - 1) k (sAt (c.length - 1) X (rF t)) (sAt (c.length - 1) Y (rF t)) := by
  obtain ⟨k, hk, hK⟩ := h.at_ ht.tm (by grind) (c.length - 1) (by omega) (by omega)
  rw [Nat.zero_add] at hK
  exact ⟨k, ⟨ht.Tm, hk, hK.gd (by omega)⟩, hK⟩

/-! ## lengths -/
theorem long_gen {u v : Nat} (hu : G u) (hv : G v) (iu : Is .f32 u (some u)) (iv : Is .f32 v (some v)) (b1 : Ab (rF u) 20) (b2 : Ab (rF v) 20) {Lo R : Rat} (h0 : 0 ≤ Lo) (hL : Lo = 0 ∨ Lo * Lo ≤ rF u * rF u + rF v * rF v - 1 / 1000000000) (hR : rF u * rF u + rF v * rF v + 1 / 1000000000 ≤ R * R) (r0 : 1 / 1000 ≤ R) (r1 : R ≤ 40) (hLR : Lo ≤ R) :
    ∃ l, longW u v = some l ∧ G l ∧ Is .f32 l (some l) ∧ 0 ≤ rF l ∧ Lo - 50 * U ≤ rF l ∧ rF l ≤ R + 50 * U := by
  have hp : (4096 : Rat) < p2 127 := by decide +kernel
  have hs1 := small126
  obtain ⟨x, hx, fx, vx, _⟩ := wide hu iu (b1.to rfl (by grind))
  obtain ⟨y, hy, fy, vy, _⟩ := wide hv iv (b2.to rfl (by grind))
  have sq : ∀ {w : Rat}, Ab w 20 → 0 ≤ w * w ∧ w * w ≤ 400 := by
    intro w hw
    refine ⟨?_, by have := (hw.mul hw).le; grind⟩
    rcases (Rat.le_total : 0 ≤ w ∨ w ≤ 0) with h | h
    · exact Rat.mul_nonneg h h
    · have := Rat.mul_nonneg (a := -w) (b := -w) (by grind) (by grind)
      grind
  obtain ⟨x0, x1⟩ := sq b1
  obtain ⟨y0, y1⟩ := sq b2
  rw [← vx] at x0 x1 hL hR
  rw [← vy] at y0 y1 hL hR
  obtain ⟨fp, np⟩ := mul_near fx fx (M := 400) ⟨by grind, by grind⟩ (by grind) (by grind)
  have zp := mul_nn fx fx x0 (by grind)
  obtain ⟨p, hpp⟩ := fin_some' fp
  rw [hpp] at fp np zp
  obtain ⟨fq, nq⟩ := mul_near fy fy (M := 400) ⟨by grind, by grind⟩ (by grind) (by grind)
  have zq := mul_nn fy fy y0 (by grind)
  obtain ⟨q, hqq⟩ := fin_some' fq
  rw [hqq] at fq nq zq
  rw [u64] at np nq
  obtain ⟨np1, np2⟩ := np
  obtain ⟨nq1, nq2⟩ := nq
  simp only [cv] at np1 np2 nq1 nq2 zp zq
  obtain ⟨fs, ns⟩ := add_near fp fq (M := 1000) ⟨by grind, by grind⟩ (by grind) (by grind)
  have zs := add_nn fp fq (by grind) (by grind)
  obtain ⟨s, hss⟩ := fin_some' fs
  rw [hss] at fs ns zs
  rw [u64] at ns
  obtain ⟨ns1, ns2⟩ := ns
  simp only [cv] at ns1 ns2 zs
  obtain ⟨fr, r0', r2, r3⟩ := sqrt_near fs zs (L := Lo) (U := R) (by
    rcases hL with rfl | hL
    · grind
    · grind) (by grind) (by grind) (by grind)
  obtain ⟨r, hrr⟩ := fin_some' fr
  rw [hrr] at fr r0' r2 r3
  rw [u64] at r2 r3
  simp only [cv] at r0' r2 r3
  obtain ⟨fl, nl, l0⟩ := narrow_near fr (M := 41) ⟨by grind, by grind⟩ (by grind) (by grind)
  obtain ⟨l, hll⟩ := fin_some' fl
  rw [hll] at fl nl l0
  rw [u32] at nl
  obtain ⟨nl1, nl2⟩ := nl
  have l0 := l0 r0'
  simp only [cv] at nl1 nl2 l0
  refine ⟨l, ?_, fl, ?_, l0, by show _ ≤ rv .f32 l; grind, by show rv .f32 l ≤ _; grind⟩
  · unfold longW
    have e1 : rootW s = some r := hrr
    have e2 : cvW .f64 r .f32 = some l := hll
    rw [hx, Option.bind_some, hy, Option.bind_some, hpp, Option.bind_some, hqq, Option.bind_some, hss, Option.bind_some, e1, Option.bind_some, e2]
  · have hll : floatToFloatBits .f64 r .f32 = some l := hll
    obtain ⟨s', m', p', hr'⟩ := fin_read fr
    refine ⟨lt_of_wf (floatToFloatBits_wf (wf_of_lt _ _ (FloatKind.f64.format.sqrt_lt hrr)) hll), floatToFloatBits_not_nan hll ?_⟩
    show (FloatKind.f64.format.read r).isNaN = false
    rw [hr']
    rfl
/-- The difference of a number and itself. -/
theorem sub_self {k : FloatKind} {x : Nat} (h : Fin k (some x)) : fop .sub k (some x) (some x) = some 0 := by
  obtain ⟨s, m, p, hr⟩ := fin_read h
  have e : fop .sub k (some x) (some x) = (Ieee.Datum.sum (.number s m p) (.number (!s) m p)).map k.format.write := by
    show (Ieee.Datum.sum (k.format.read x) (k.format.read x).opposite).map _ = _
    rw [hr]
    rfl
  rw [e]
  have z1 : (m : Int) + -(m : Int) = 0 := by omega
  have z2 : -(m : Int) + (m : Int) = 0 := by omega
  have e2 : Ieee.Datum.sum (.number s m p) (.number (!s) m p) = some (.number false 0 p) := by
    cases s <;> simp [Ieee.Datum.sum, Ieee.signed, z1, z2]
  rw [e2]
  cases k <;> (show some (Ieee.Format.write _ (.number false 0 p)) = some 0; simp [Ieee.Format.write, Ieee.Format.nearest]; decide +kernel)
end Go.Proofs.Ytonbcbhnnflohaa
