/-
  FnCurves: every choice of an input keeps the law.
-/
import Derived.Test.YtonbcbhnnflohaaZf
namespace Go.Proofs.Ytonbcbhnnflohaa
open Go.RowKit

def pX (k : Kn) : Rat := rF k.1 * rF k.2.2
def pY (k : Kn) : Rat := rF k.2.1 * rF k.2.2
def pW (k : Kn) : Rat := rF k.2.2
theorem Ew0 : Ew 0 = 0 := by decide +kernel
theorem Ex0 : Ex_ 0 = 0 := by decide +kernel
theorem quarter {i : Int} (h1 : -16 ≤ i) (h2 : i ≤ 16) : Ab ((i : Rat) / 4) 4 := by
  have a := Rat.intCast_le_intCast.2 h1
  have b := Rat.intCast_le_intCast.2 h2
  have e1 : ((-16 : Int) : Rat) = -16 := rfl
  have e2 : ((16 : Int) : Rat) = 16 := rfl
  rw [e1] at a
  rw [e2] at b
  constructor <;> grind
theorem qk_facts {k : Kn} (h : QK k) : (G k.1 ∧ Is .f32 k.1 (some k.1) ∧ Ab (rF k.1) 4) ∧ (G k.2.1 ∧ Is .f32 k.2.1 (some k.2.1) ∧ Ab (rF k.2.1) 4) ∧ (G k.2.2 ∧ Is .f32 k.2.2 (some k.2.2) ∧ 1 / 4 ≤ rF k.2.2 ∧ rF k.2.2 ≤ 2) := by
  obtain ⟨i, j, m, a1, a2, b1, b2, c1, c2, rfl⟩ := h
  obtain ⟨g1, v1, i1⟩ := qv_ok a1 a2
  obtain ⟨g2, v2, i2⟩ := qv_ok b1 b2
  obtain ⟨g3, v3, i3⟩ := qv_ok (i := m) (by omega) (by omega)
  have e1 := Rat.intCast_le_intCast.2 c1
  have e2 := Rat.intCast_le_intCast.2 c2
  have f1 : ((1 : Int) : Rat) = 1 := rfl
  have f2 : ((8 : Int) : Rat) = 8 := rfl
  rw [f1] at e1
  rw [f2] at e2
  refine ⟨⟨g1, i1, ?_⟩, ⟨g2, i2, ?_⟩, g3, i3, ?_, ?_⟩
  · rw [v1]; exact quarter a1 a2
  · rw [v2]; exact quarter b1 b2
  · rw [v3]; grind
  · rw [v3]; grind
theorem base_K {k : Kn} (h : QK k) : KK 0 k (pX k) (pY k) (pW k) := by
  obtain ⟨⟨g1, i1, b1⟩, ⟨g2, i2, b2⟩, g3, i3, lo, hi⟩ := qk_facts h
  have four : ∀ {x w : Rat}, Ab x 4 → 1 / 4 ≤ w → Ab (x * w) (4 * w) := by
    intro x w hx hw
    obtain ⟨p1, p2⟩ := hx
    have e1 := Rat.mul_nonneg (a := 4 - x) (b := w) (by grind) (by grind)
    have e2 := Rat.mul_nonneg (a := 4 + x) (b := w) (by grind) (by grind)
    constructor <;> grind
  refine ⟨g1, g2, g3, i1, i2, i3, lo, hi, four b1 lo, four b2 lo, ?_, ?_, ?_⟩
  · rw [Ew0]; unfold pW; constructor <;> grind
  · rw [Ex0]; unfold pW pX; constructor <;> grind
  · rw [Ex0]; unfold pW pY; constructor <;> grind
theorem base_N : ∀ (c : List Kn), (∀ k ∈ c, QK k) → NL 0 c (c.map pX) (c.map pY) (c.map pW)
  | [], _ => .nil
  | k :: c, h => .cons (base_K (h k List.mem_cons_self)) (base_N c fun q hq => h q (List.mem_cons_of_mem _ hq))
theorem lo_P {q : Rat} : ∀ (c : List Kn), (∀ k ∈ c, q ≤ rF k.1 ∧ 0 ≤ rF k.2.2) → PB q (c.map pX) (c.map pW)
  | [], _ => .nil
  | k :: c, h => by
    refine .cons ?_ (lo_P c fun q hq => h q (List.mem_cons_of_mem _ hq))
    obtain ⟨h1, h2⟩ := h k List.mem_cons_self
    have := Rat.mul_nonneg (a := rF k.1 - q) (b := rF k.2.2) (by grind) h2
    unfold pX pW
    grind
/-- Bounds from above. -/
inductive PU (q : Rat) : List Rat → List Rat → Prop
  | nil : PU q [] []
  | cons {x w X W} : x ≤ q * w → PU q X W → PU q (x :: X) (w :: W)
theorem PU.next {q X W s} (h : PU q X W) (h0 : 0 ≤ s) (h1 : s ≤ 1) : PU q (nextS X s) (nextS W s) := by
  induction h with
  | nil => exact .nil
  | @cons x w X W ha hb ih =>
    cases hb with
    | nil => exact .nil
    | @cons x' w' X' W' hc hd =>
      refine .cons ?_ ih
      have e1 := Rat.mul_nonneg (a := q * w - x) (b := 1 - s) (by grind) (by grind)
      have e2 := Rat.mul_nonneg (a := q * w' - x') (b := s) (by grind) h0
      grind
theorem PU.at_ {q s} (h0 : 0 ≤ s) (h1 : s ≤ 1) : ∀ (m : Nat) {X W : List Rat}, PU q X W → sAt m X s ≤ q * sAt m W s
  | 0, _, _, h => by
    cases h with
    | nil => show 0 ≤ q * 0; grind
    | cons h _ => exact h
  | m + 1, _, _, h => PU.at_ h0 h1 m (h.next h0 h1)
theorem hi_P {q : Rat} : ∀ (c : List Kn), (∀ k ∈ c, rF k.1 ≤ q ∧ 0 ≤ rF k.2.2) → PU q (c.map pX) (c.map pW)
  | [], _ => .nil
  | k :: c, h => by
    refine .cons ?_ (hi_P c fun q hq => h q (List.mem_cons_of_mem _ hq))
    obtain ⟨h1, h2⟩ := h k List.mem_cons_self
    have := Rat.mul_nonneg (a := q - rF k.1) (b := rF k.2.2) (by grind) h2
    unfold pX pW
    grind
theorem KK.lift {n : Nat} {k : Kn} {X Y W : Rat} (h : KK n k X Y W) {m : Nat} (hm : n ≤ m) : KK m k X Y W := by
  have := h.steps (m - n)
  rwa [show n + (m - n) = m by omega] at this
/-- A point of a good curve. -/
theorem at_good {n : Nat} {c : List Kn} {X Y W : List Rat} {t : Nat} {s : Rat} (h : NL n c X Y W) (ht : TM t s 0) (hi : Is .f32 t (some t)) (h1 : 1 ≤ c.length) (hn : n + (c.length - 1) ≤ 9) :
    ∃ k, AtOk c t k ∧ KK (n + (c.length - 1)) k (sAt (c.length - 1) X s) (sAt (c.length - 1) Y s) (sAt (c.length - 1) W s) := by
  obtain ⟨k, hk, hK⟩ := h.at_ ht (c.length - 1) (by omega) (by omega)
  exact ⟨k, ⟨ht.tm hi, hk, hK.gd (by omega)⟩, hK⟩
theorem leD {z b : Nat} {D : Rat} (hf : Fin .f64 (some z)) (hi : Is .f64 z (some z)) (hb : Fin .f64 (some b)) (h : rv .f64 z ≤ 3 / 2 * D) (hD : 3 / 2 * D ≤ rv .f64 b) : LeD z b := by
  refine ⟨hi, ?_⟩
  rw [fgt_iff hf hb]
  refine decide_eq_false ?_
  show ¬ rv .f64 b < rv .f64 z
  grind
theorem ltD {z b : Nat} {D : Rat} (hf : Fin .f64 (some z)) (hi : Is .f64 z (some z)) (hb : Fin .f64 (some b)) (h : rv .f64 z ≤ 3 / 2 * D) (hD : 3 / 2 * D < rv .f64 b) : LtD z b := by
  refine ⟨hi, ?_⟩
  rw [flt_iff hf hb]
  refine decide_eq_true ?_
  show rv .f64 z < rv .f64 b
  grind
theorem Ex9 : Ex_ 9 + Ex_ 9 ≤ 66 / 10000 := by decide +kernel
theorem Ex4 : Ex_ 4 + Ex_ 0 ≤ 66 / 100000 := by decide +kernel
theorem near9 {n m : Nat} {k q : Kn} {X Y W : Rat} (h : KK n k X Y W) (h' : KK m q X Y W) (hn : n ≤ 9) (hm : m ≤ 9) : ∃ z, farW (pt k) (pt q) = some z ∧ LeD z 4576918229304087675 ∧ LtD z 4576918229304087675 := by
  obtain ⟨z, hz, fz, iz, bz⟩ := near_far (h.lift hn) (h'.lift hm) (D := 66 / 10000) (by grind) (by grind) Ex9
  have := v01
  exact ⟨z, hz, leD fz iz F01 bz (by grind), ltD fz iz F01 bz (by grind)⟩
theorem near4 {n : Nat} {k q : Kn} {X Y W : Rat} (h : KK n k X Y W) (h' : KK 0 q X Y W) (hn : n ≤ 4) : ∃ z, farW (pt k) (pt q) = some z ∧ LeD z 4562254508917369340 := by
  obtain ⟨z, hz, fz, iz, bz⟩ := near_far (h.lift hn) h' (D := 66 / 100000) (by grind) (by grind) Ex4
  have := v001
  exact ⟨z, hz, leD fz iz F001 bz (by grind)⟩
theorem mulT {a b : Nat} {i j : Int} (ha : Ex' .f32 (some a) i (-4)) (hb : Ex' .f32 (some b) j (-4)) (hj : (i * j).natAbs < 2 ^ 24) : ∃ w, fop .mul .f32 (some a) (some b) = some w ∧ Ex' .f32 (some w) (i * j) (-8) := by
  have h := ha.mul hb hj (by omega) (by omega)
  obtain ⟨w, hw, _, _⟩ := h.ex
  rw [hw] at h
  exact ⟨w, hw, h⟩
theorem subT {a b : Nat} {i j : Int} (ha : Ex' .f32 (some a) i (-8)) (hb : Ex' .f32 (some b) j (-8)) (hj : (i - j).natAbs < 2 ^ 24) : ∃ w, fop .sub .f32 (some a) (some b) = some w ∧ Ex' .f32 (some w) (i - j) (-8) := by
  have h := ha.sub hb hj (by omega) (by omega)
  obtain ⟨w, hw, _, _⟩ := h.ex
  rw [hw] at h
  exact ⟨w, hw, h⟩
theorem addT {a b : Nat} {i j : Int} (ha : Ex' .f32 (some a) i (-8)) (hb : Ex' .f32 (some b) j (-8)) (hj : (i + j).natAbs < 2 ^ 24) : ∃ w, fop .add .f32 (some a) (some b) = some w ∧ Ex' .f32 (some w) (i + j) (-8) := by
  have h := ha.add hb hj (by omega) (by omega)
  obtain ⟨w, hw, _, _⟩ := h.ex
  rw [hw] at h
  exact ⟨w, hw, h⟩
theorem zero_ex : Ex' .f32 (some 0) 0 (-8) := exOf G0 (by decide +kernel)
set_option maxHeartbeats 4000000 in
theorem fc_all (c : List Kn) (h2 : 2 ≤ c.length) (h5 : c.length ≤ 5) (hQ : ∀ k ∈ c, QK k) (x y : Nat) (hx : x < 15) (hy : y < 17) : ∃ d, FcOk c (sv (1 + (x : Int))) (sv (y : Int)) d := by
  have hN := base_N c hQ
  -- times
  have et := sv_ex (i := 1 + (x : Int)) (by omega) (by omega)
  have eu := sv_ex (i := (y : Int)) (by omega) (by omega)
  have it : Is .f32 (sv (1 + (x : Int))) (some (sv (1 + (x : Int)))) := fop_is (sW_ok (by omega) (by omega))
  have iu : Is .f32 (sv (y : Int)) (some (sv (y : Int))) := fop_is (sW_ok (by omega) (by omega))
  generalize hI : 1 + (x : Int) = i at et it
  generalize hJ : (y : Int) = j at eu iu
  have hi0 : 1 ≤ i := by omega
  have hi1 : i ≤ 15 := by omega
  have hj0 : 0 ≤ j := by omega
  have hj1 : j ≤ 16 := by omega
  generalize sv i = t at *
  generalize sv j = u at *
  have n1 := Int.mul_le_mul hj1 (show i ≤ 16 by omega) (by omega) (by omega)
  have n2 := Int.mul_nonneg hj0 (show (0 : Int) ≤ i by omega)
  have n3 := Int.mul_le_mul_of_nonneg_right hj1 (show (0 : Int) ≤ 16 - i by omega)
  have n4 := Int.mul_nonneg hj0 (show (0 : Int) ≤ 16 - i by omega)
  obtain ⟨ut, hut, eut⟩ := mulT (coarse eu) (coarse et) (by omega)
  obtain ⟨o1, ho1, eo1⟩ := subT one_ex et (by omega)
  obtain ⟨o2, ho2, eo2⟩ := subT one_ex eu (by omega)
  rw [show 256 - i * 16 = (16 - i) * 16 by omega] at eo1
  obtain ⟨v1, hv1, ev1⟩ := mulT (coarse eu) (coarse eo1) (by omega)
  obtain ⟨v, hv, ev⟩ := addT et ev1 (by omega)
  have Tt := time_of et (by omega) (by omega)
  have Tu := time_of eu (by omega) (by omega)
  have Tut := time_of eut (by omega) (by omega)
  have To2 := time_of eo2 (by omega) (by omega)
  have Tv := time_of ev (by omega) (by omega)
  have T0 := time_of zero_ex (by omega) (by omega)
  have T1 := time_of one_ex (by omega) (by omega)
  -- as numbers
  have c16 : ((16 : Int) : Rat) = 16 := rfl
  have c256 : ((256 : Int) : Rat) = 256 := rfl
  have z0 : ((0 : Int) : Rat) / 256 = 0 := by decide +kernel
  have z1 : ((256 : Int) : Rat) / 256 = 1 := by decide +kernel
  have qut : ((j * i : Int) : Rat) / 256 = ((j * 16 : Int) : Rat) / 256 * (((i * 16 : Int) : Rat) / 256) := by
    rw [Rat.intCast_mul, Rat.intCast_mul, Rat.intCast_mul, c16]; grind
  have qo2 : ((256 - j * 16 : Int) : Rat) / 256 = 1 - ((j * 16 : Int) : Rat) / 256 := by
    rw [Rat.intCast_sub, c256]; grind
  have qv' : ((i * 16 + j * (16 - i) : Int) : Rat) / 256 = ((i * 16 : Int) : Rat) / 256 + ((j * 16 : Int) : Rat) / 256 * (1 - ((i * 16 : Int) : Rat) / 256) := by
    rw [Rat.intCast_add, Rat.intCast_mul, Rat.intCast_mul, Rat.intCast_mul, Rat.intCast_sub, c16]; grind
  rw [qut] at Tut
  rw [qo2] at To2
  rw [qv'] at Tv
  rw [z0] at T0
  rw [z1] at T1
  generalize ((i * 16 : Int) : Rat) / 256 = s at *
  generalize ((j * 16 : Int) : Rat) / 256 = w at *
  -- the curves
  obtain ⟨m, hm⟩ : ∃ m, c.length = m + 1 := ⟨c.length - 1, by omega⟩
  have hm1 : c.length - 1 = m := by omega
  obtain ⟨l, r, hcut, hll, hrl, hL, hR⟩ := hN.cut Tt m hm (by omega)
  rw [Nat.zero_add] at hL hR
  have hRr := hR.rev
  have hrrl : r.reverse.length = m + 1 := by rw [List.length_reverse]; exact hrl
  obtain ⟨rc, hrc, hrcl, hRc⟩ := hN.raise (fun a h1 h2 => share_ok h1 h2 (by omega)) (by omega)
  have hB := hN.rev
  have hbl : c.reverse.length = m + 1 := by rw [List.length_reverse]; exact hm
  obtain ⟨eX, eY, eW⟩ := hN.len
  rw [hm] at eX eY eW
  have m1 : 1 ≤ m := by omega
  have m4 : m ≤ 4 := by omega
  obtain ⟨k0, A0, K0⟩ := at_good hN T0 i32_0 (by omega) (by omega)
  obtain ⟨k1, A1, K1⟩ := at_good hN T1 i32_1 (by omega) (by omega)
  obtain ⟨kc, Ac, Kc⟩ := at_good hN Tu iu (by omega) (by omega)
  obtain ⟨ka, Aa, Ka⟩ := at_good hL Tu iu (by omega) (by omega)
  obtain ⟨kb, Ab', Kb⟩ := at_good hN Tut (fop_is hut) (by omega) (by omega)
  obtain ⟨ke, Ae, Ke⟩ := at_good hRr Tu iu (by omega) (by omega)
  obtain ⟨kf, Af, Kf⟩ := at_good hN Tv (fop_is hv) (by omega) (by omega)
  obtain ⟨kg, Ag, Kg⟩ := at_good hRc Tu iu (by omega) (by omega)
  obtain ⟨kh, Ah, Kh⟩ := at_good hB To2 (fop_is ho2) (by omega) (by omega)
  obtain ⟨km, Am, Km⟩ := at_good hL T1 i32_1 (by omega) (by omega)
  obtain ⟨ks, As, Ks⟩ := at_good hRr T0 i32_0 (by omega) (by omega)
  obtain ⟨kt, At', Kt⟩ := at_good hN Tt it (by omega) (by omega)
  rw [hm1] at K0 K1 Kc Kb Kf Kt
  rw [show l.length - 1 = m by omega] at Ka Km
  rw [show r.reverse.length - 1 = m by omega] at Ke Ks
  rw [show rc.length - 1 = m + 1 by omega] at Kg
  rw [show c.reverse.length - 1 = m by omega] at Kh
  rw [sAt0 m _ eX, sAt0 m _ eY, sAt0 m _ eW] at K0
  rw [sAt1 m _ eX, sAt1 m _ eY, sAt1 m _ eW] at K1
  rw [s_left eX m1 m4, s_left eY m1 m4, s_left eW m1 m4] at Ka
  rw [s_right eX m1 m4, s_right eY m1 m4, s_right eW m1 m4] at Ke
  rw [s_raise eX m1 m4, s_raise eY m1 m4, s_raise eW m1 m4] at Kg
  rw [s_back eX m1 m4, s_back eY m1 m4, s_back eW m1 m4] at Kh
  rw [s_mid eX m1 m4, s_mid eY m1 m4, s_mid eW m1 m4] at Km
  rw [s_start eX m1 m4, s_start eY m1 m4, s_start eW m1 m4] at Ks
  obtain ⟨kF, hkF, KF⟩ := hN.head (by omega)
  obtain ⟨kL, hkL, KL⟩ := hN.last (by omega)
  rw [List.head?_eq_getElem?, List.getElem?_eq_getElem (by omega)] at hkF
  rw [List.getLast?_eq_getElem?, List.getElem?_eq_getElem (by omega)] at hkL
  obtain rfl := Option.some.inj hkF
  obtain rfl := Option.some.inj hkL
  obtain ⟨z0', hz0, f0⟩ := near4 K0 KF (by omega)
  obtain ⟨z1', hz1, f1⟩ := near4 K1 KL (by omega)
  obtain ⟨z2, hz2, f2, _⟩ := near9 Kg Kc (by omega) (by omega)
  obtain ⟨z3, hz3, f3, _⟩ := near9 Kh Kc (by omega) (by omega)
  obtain ⟨z4, hz4, f4, _⟩ := near9 Ka Kb (by omega) (by omega)
  obtain ⟨z5, hz5, f5, _⟩ := near9 Ke Kf (by omega) (by omega)
  obtain ⟨z6, hz6, _, f6⟩ := near9 Km Kt (by omega) (by omega)
  obtain ⟨z7, hz7, _, f7⟩ := near9 Ks Kt (by omega) (by omega)
  -- the bounds
  have hc : ∀ k ∈ c, G k.1 ∧ Is .f32 k.1 (some k.1) ∧ Ab (rF k.1) 4 := fun k hk => (qk_facts (hQ k hk)).1
  have h0 : 0 < c.length := by omega
  obtain ⟨lg, li, lb, lall, _⟩ := lo_ok hc h0 c.length (Nat.le_refl _)
  obtain ⟨ug, ui, ub, uall, _⟩ := hi_ok hc h0 c.length (Nat.le_refl _)
  have hlo : rF (loF c c[0].1 c.length) * sAt m (c.map pW) w ≤ sAt m (c.map pX) w := PB.at_ Tu.h0 Tu.h1 m (lo_P c (fun k hk => by
    obtain ⟨n, hn, rfl⟩ := List.mem_iff_getElem.1 hk
    have := (qk_facts (hQ _ hk)).2.2.2.2.1
    exact ⟨lall n hn hn, by grind⟩))
  have hhi : sAt m (c.map pX) w ≤ rF (hiF c c[0].1 c.length) * sAt m (c.map pW) w := PU.at_ Tu.h0 Tu.h1 m (hi_P c (fun k hk => by
    obtain ⟨n, hn, rfl⟩ := List.mem_iff_getElem.1 hk
    have := (qk_facts (hQ _ hk)).2.2.2.2.1
    exact ⟨uall n hn hn, by grind⟩))
  have Kc4 := Kc.lift (m := 4) (by omega)
  have hE4 : Ex_ 4 ≤ 66 / 100000 := by decide +kernel
  have hwp : 0 < sAt m (c.map pW) w := by have := Kc4.lo; grind
  have hxl : rF (loF c c[0].1 c.length) - Ex_ 4 ≤ rF kc.1 := by
    apply Rat.not_lt.1
    intro hlt
    have := Rat.mul_pos (a := rF (loF c c[0].1 c.length) - Ex_ 4 - rF kc.1) (b := sAt m (c.map pW) w) (by grind) hwp
    have := Kc4.x.ge
    grind
  have hxh : rF kc.1 ≤ rF (hiF c c[0].1 c.length) + Ex_ 4 := by
    apply Rat.not_lt.1
    intro hlt
    have := Rat.mul_pos (a := rF kc.1 - (rF (hiF c c[0].1 c.length) + Ex_ 4)) (b := sAt m (c.map pW) w) (by grind) hwp
    have := Kc4.x.le
    grind
  have kcb : Ab (rF kc.1) (401 / 100) := four_of Kc4.lo Kc4.ax Kc4.x (by grind)
  obtain ⟨aw, haw, faw, vaw, iaw⟩ := wide Kc4.g1 Kc4.i1 (kcb.to rfl (by grind))
  obtain ⟨lw, hlw, flw, vlw, _⟩ := wide lg li (lb.to rfl (by grind))
  obtain ⟨hw, hhw, fhw, vhw, _⟩ := wide ug ui (ub.to rfl (by grind))
  have v1' := v001
  have sm := small126
  have big : (8 : Rat) < p2 127 := by decide +kernel
  obtain ⟨lb1, lb2⟩ := lb
  obtain ⟨ub1, ub2⟩ := ub
  obtain ⟨fls, nls⟩ := sub_near flw F001 (M := 8) ⟨by grind, by grind⟩ (by grind) big
  obtain ⟨fhs, nhs⟩ := add_near fhw F001 (M := 8) ⟨by grind, by grind⟩ (by grind) big
  obtain ⟨ls, hls⟩ := fin_some' fls
  obtain ⟨hs, hhs⟩ := fin_some' fhs
  rw [hls, u64] at nls
  rw [hhs, u64] at nhs
  rw [hls] at fls
  rw [hhs] at fhs
  obtain ⟨nl1, nl2⟩ := nls
  obtain ⟨nh1, nh2⟩ := nhs
  simp only [cv] at nl1 nl2 nh1 nh2
  refine ⟨⟨k0, k1, kc, l, r, rc, ka, kb, ke, kf, kg, kh, km, ks, kt, ut, o1, v1, v, o2, fun n => match n with | 0 => z0' | 1 => z1' | 2 => z2 | 3 => z3 | 4 => z4 | 5 => z5 | 6 => z6 | _ => z7, loF c c[0].1, hiF c c[0].1, plF c, aw, lw, hw, ls, hs⟩, ?_⟩
  have gcc := hN.gc (by omega) h2 (by omega)
  have gl := hL.gc (by omega) (by omega) (by omega)
  have gr := hRr.gc (by omega) (by omega) (by omega)
  refine { gc := gcc, le7 := by omega, tm := Tt.tm it, pos := ?_, h0 := A0, h1 := A1, hc := Ac, cut := by rw [hm1]; exact hcut, gl := gl, gr := gr, ll := by show l.length = c.length; omega, lr := by show r.reverse.length = c.length; omega, raise := hrc, grc := hRc.gc (by omega) (by omega) (by omega), lrc := hrcl, gb := hB.gc (by omega) (by omega) (by omega), fst := fun _ => hz0, f0 := f0, lst := fun _ => hz1, f1 := f1, ha := Aa, ut := hut, hb := Ab', he := Ae, o1 := ho1, v1 := hv1, v := hv, hf := Af, hg := Ag, o2 := ho2, hh := Ah, z2 := hz2, f2 := f2, z3 := hz3, f3 := f3, lo0 := fun _ => rfl, hi0 := fun _ => rfl, pl0 := rfl, loS := ?_, hiS := ?_, plS := ?_, aw := haw, lw := hlw, hw := hhw, ls := hls, hs := hhs, awI := iaw, geL := ?_, leH := ?_, z4 := fun _ => ⟨hz4, f4⟩, z5 := fun _ => ⟨hz5, f5⟩, hm := Am, hs0 := As, ht := At', z6 := hz6, f6 := f6, z7 := hz7, f7 := f7 }
  · have hg0 : Fin .f32 (some 0) := G0
    have hgt : Fin .f32 (some t) := Tt.g
    rw [flt_iff hg0 hgt, cv0]
    refine decide_eq_true ?_
    obtain ⟨b, hb, _, vt⟩ := et.ex
    obtain rfl := Option.some.inj hb
    show 0 < rv .f32 t
    rw [vt, p2m8]
    have := Rat.intCast_le_intCast.2 (show (16 : Int) ≤ i * 16 by omega)
    rw [c16] at this
    grind
  · intro n hn
    exact (lo_ok hc h0 n (by omega)).2.2.2.2 hn
  · intro n hn
    exact (hi_ok hc h0 n (by omega)).2.2.2.2 hn
  · intro n hn
    show (plF c n && _) = _
    rw [getD_eq hn]
  · rw [flt_iff faw fls]
    refine decide_eq_false ?_
    show ¬ rv .f64 aw < rv .f64 ls
    grind
  · rw [fgt_iff faw fhs]
    refine decide_eq_false ?_
    show ¬ rv .f64 hs < rv .f64 aw
    grind
end Go.Proofs.Ytonbcbhnnflohaa
