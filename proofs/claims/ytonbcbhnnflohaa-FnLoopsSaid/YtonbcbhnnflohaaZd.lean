/-
  Classes of floats, near to rational numbers; classes that stand for few digits exactly.
-/
import Derived.Test.YtonbcbhnnflohaaErr
import Derived.Test.YtonbcbhnnflohaaRules
import Derived.Test.YtonbcbhnnflohaaYj
namespace Go.Proofs.Ytonbcbhnnflohaa
open Go.RowKit

/-- What a class stands for. -/
def cv (k : FloatKind) : Option Nat → Rat
  | none => 0
  | some b => rv k b
/-- The class of a finite number. -/
def Fin (k : FloatKind) : Option Nat → Prop
  | none => False
  | some b => rung k.format b < k.format.infRung

theorem fin_read {k : FloatKind} {b : Nat} (h : Fin k (some b)) : ∃ s m p, k.format.read b = .number s m p := by
  obtain ⟨m, j, hr, _, _⟩ := read_fin k.format b h
  exact ⟨_, _, _, hr⟩

/-- Within a bound. -/
structure Ab (v V : Rat) : Prop where
  le : v ≤ V
  ge : -V ≤ v
theorem Ab.mul {x X y Y : Rat} (hx : Ab x X) (hy : Ab y Y) : Ab (x * y) (X * Y) := by
  obtain ⟨a1, a2⟩ := hx
  obtain ⟨b1, b2⟩ := hy
  have h1 := Rat.mul_nonneg (a := X - x) (b := Y + y) (by grind) (by grind)
  have h2 := Rat.mul_nonneg (a := X + x) (b := Y - y) (by grind) (by grind)
  have h3 := Rat.mul_nonneg (a := X - x) (b := Y - y) (by grind) (by grind)
  have h4 := Rat.mul_nonneg (a := X + x) (b := Y + y) (by grind) (by grind)
  constructor <;> grind
theorem Ab.nonneg {x X : Rat} (h : Ab x X) : 0 ≤ X := by obtain ⟨a, b⟩ := h; grind
theorem Near.ab {x y e : Rat} (h : Near x y e) : Ab (x - y) e := by obtain ⟨a, b⟩ := h; constructor <;> grind

theorem mag_of_ab {s : Bool} {x M : Rat} (h : Ab (sg s * x) M) : x ≤ M := by
  obtain ⟨a, b⟩ := h
  cases s <;> simp only [sg, Bool.false_eq_true, if_true, if_false] at a b <;> grind

theorem dv_opp (d : Ieee.Datum) : dv d.opposite = -dv d := by
  cases d with
  | number s m p => cases s <;> simp only [Ieee.Datum.opposite, dv, sg, Bool.not_true, Bool.not_false, Bool.false_eq_true, if_true, if_false] <;> grind
  | infinity s => simp [Ieee.Datum.opposite, dv]
  | nan s t => simp [Ieee.Datum.opposite, dv]

theorem write_ab {k : FloatKind} {s : Bool} {m : Nat} {p : Int} {M X : Rat} (hX : dv (.number s m p) = X) (hM : Ab X M) (h0 : p2 (-126) ≤ M) (h1 : M < p2 127) :
    Fin k (some (k.format.write (.number s m p))) ∧ Near (rv k (k.format.write (.number s m p))) X (M * uk k) := by
  subst hX
  exact write_near k s m p M (mag_of_ab hM) h0 h1

theorem add_near {k : FloatKind} {a b : Nat} (ha : Fin k (some a)) (hb : Fin k (some b)) {M : Rat} (hM : Ab (rv k a + rv k b) M) (h0 : p2 (-126) ≤ M) (h1 : M < p2 127) :
    Fin k (fop .add k (some a) (some b)) ∧ Near (cv k (fop .add k (some a) (some b))) (rv k a + rv k b) (M * uk k) := by
  obtain ⟨s, m, p, hr⟩ := fin_read ha
  obtain ⟨t, n, q, hs⟩ := fin_read hb
  have e : fop .add k (some a) (some b) = (Ieee.Datum.sum (.number s m p) (.number t n q)).map k.format.write := by
    show (Ieee.Datum.sum (k.format.read a) (k.format.read b)).map _ = _
    rw [hr, hs]
  rw [e]
  cases hd : Ieee.Datum.sum (.number s m p) (.number t n q) with
  | none => simp [Ieee.Datum.sum] at hd
  | some d =>
    obtain ⟨u, r, i, rfl, hv⟩ := sum_val hd
    have hv' : dv (.number u r i) = rv k a + rv k b := by rw [hv]; unfold rv; rw [hr, hs]
    exact write_ab hv' hM h0 h1
theorem sub_near {k : FloatKind} {a b : Nat} (ha : Fin k (some a)) (hb : Fin k (some b)) {M : Rat} (hM : Ab (rv k a - rv k b) M) (h0 : p2 (-126) ≤ M) (h1 : M < p2 127) :
    Fin k (fop .sub k (some a) (some b)) ∧ Near (cv k (fop .sub k (some a) (some b))) (rv k a - rv k b) (M * uk k) := by
  obtain ⟨s, m, p, hr⟩ := fin_read ha
  obtain ⟨t, n, q, hs⟩ := fin_read hb
  have e : fop .sub k (some a) (some b) = (Ieee.Datum.sum (.number s m p) (.number (!t) n q)).map k.format.write := by
    show (Ieee.Datum.sum (k.format.read a) (k.format.read b).opposite).map _ = _
    rw [hr, hs]
    rfl
  rw [e]
  cases hd : Ieee.Datum.sum (.number s m p) (.number (!t) n q) with
  | none => simp [Ieee.Datum.sum] at hd
  | some d =>
    obtain ⟨u, r, i, rfl, hv⟩ := sum_val hd
    have hv' : dv (.number u r i) = rv k a - rv k b := by
      have ho := dv_opp (.number t n q)
      simp only [Ieee.Datum.opposite] at ho
      rw [hv, ho]
      unfold rv
      rw [hr, hs]
      grind
    exact write_ab hv' hM h0 h1
theorem mul_near {k : FloatKind} {a b : Nat} (ha : Fin k (some a)) (hb : Fin k (some b)) {M : Rat} (hM : Ab (rv k a * rv k b) M) (h0 : p2 (-126) ≤ M) (h1 : M < p2 127) :
    Fin k (fop .mul k (some a) (some b)) ∧ Near (cv k (fop .mul k (some a) (some b))) (rv k a * rv k b) (M * uk k) := by
  obtain ⟨s, m, p, hr⟩ := fin_read ha
  obtain ⟨t, n, q, hs⟩ := fin_read hb
  have e : fop .mul k (some a) (some b) = (Ieee.Datum.product (.number s m p) (.number t n q)).map k.format.write := by
    show (Ieee.Datum.product (k.format.read a) (k.format.read b)).map _ = _
    rw [hr, hs]
  rw [e]
  cases hd : Ieee.Datum.product (.number s m p) (.number t n q) with
  | none => simp [Ieee.Datum.product] at hd
  | some d =>
    obtain ⟨u, r, i, rfl, hv⟩ := prod_val hd
    have hv' : dv (.number u r i) = rv k a * rv k b := by rw [hv]; unfold rv; rw [hr, hs]
    exact write_ab hv' hM h0 h1

/-! ## near to a number, up to an error -/
/-! ## exact -/
/-! ## widening -/
theorem widen_val {b : Nat} (h : Fin .f32 (some b)) (hv : Ab (rv .f32 b) (p2 126)) : Fin .f64 (fcv .f32 .f64 (some b)) ∧ cv .f64 (fcv .f32 .f64 (some b)) = rv .f32 b := by
  obtain ⟨m, j, hr, hm, hj⟩ := read_fin FloatKind.f32.format b h
  have hlp : FloatKind.f32.format.leastPlace = -149 := by decide
  have hmlt : m < 2 ^ 24 := by
    have hr2 : FloatKind.f32.format.read b = .number (sgn FloatKind.f32.format b) m (FloatKind.f32.format.leastPlace + j) := hr
    have hbin : FloatKind.f32.format.binade = 8388608 := by decide
    unfold Ieee.Format.read at hr2
    dsimp only at hr2
    split at hr2
    · simp only [Ieee.Datum.number.injEq] at hr2
      omega
    · split at hr2
      · have := Nat.mod_lt (b % FloatKind.f32.format.signWeight) (binade_pos FloatKind.f32.format)
        simp only [Ieee.Datum.number.injEq] at hr2
        omega
      · split at hr2 <;> cases hr2
  have hval : rv .f32 b = dv (.number (sgn FloatKind.f32.format b) m (FloatKind.f32.format.leastPlace + j)) := by unfold rv; rw [hr]
  rw [hval] at hv ⊢
  have hmag := mag_of_ab hv
  have hlt : (m : Rat) * p2 (FloatKind.f32.format.leastPlace + j) < p2 127 := by
    have h2 : p2 126 < p2 127 := by
      have e : p2 127 = p2 1 * p2 126 := by rw [← p2_add]; rfl
      have e1 : p2 1 = 2 := by decide +kernel
      have := p2_pos 126
      rw [e, e1]; grind
    exact rlt_of_le_of_lt hmag h2
  obtain ⟨h1, h2⟩ := write_exact .f64 (sgn FloatKind.f32.format b) m _ m _ rfl hmlt (by omega) hlt
  have hd : FloatKind.f32.decode b = .number (sgn FloatKind.f32.format b) m (FloatKind.f32.format.leastPlace + j) := hr
  have e : fcv .f32 .f64 (some b) = some (FloatKind.f64.format.write (.number (sgn FloatKind.f32.format b) m (FloatKind.f32.format.leastPlace + j))) := by
    show floatToFloatBits .f32 b .f64 = _
    unfold floatToFloatBits
    rw [if_neg (by decide)]
    simp only [hd]
    have hni : (FloatKind.f64.decode (FloatKind.f64.encode (.number (sgn FloatKind.f32.format b) m (FloatKind.f32.format.leastPlace + j)))).isInfinity = false := by
      obtain ⟨_, _, hr', _⟩ := read_fin FloatKind.f64.format _ h1
      show (FloatKind.f64.format.read (FloatKind.f64.format.write _)).isInfinity = false
      rw [hr']
      rfl
    rw [if_neg (by rw [hni]; decide)]
    rfl
  rw [e]
  exact ⟨h1, h2⟩
/-! ## order -/
theorem rv_val {k : FloatKind} {b : Nat} (h : Fin k (some b)) : rv k b = ((Go.Proofs.Ytonbcbhnnflohaa.val k.format b : Int) : Rat) * p2 k.format.leastPlace := by
  rw [rv_fin k b h]
  unfold Go.Proofs.Ytonbcbhnnflohaa.val
  cases sgn k.format b
  · simp only [sg, Bool.false_eq_true, if_false]
    rw [Rat.intCast_natCast, Rat.one_mul]
  · simp only [sg, if_true]
    rw [Rat.intCast_neg, Rat.intCast_natCast]
    grind
theorem ford_fin {k : FloatKind} {a b : Nat} (ha : Fin k (some a)) (hb : Fin k (some b)) : ford k (some a) (some b) = some (compare (Go.Proofs.Ytonbcbhnnflohaa.val k.format a) (Go.Proofs.Ytonbcbhnnflohaa.val k.format b)) := by
  show k.format.order a b = _
  exact order_fin k.format a b ha hb
theorem rv_lt {k : FloatKind} {a b : Nat} (ha : Fin k (some a)) (hb : Fin k (some b)) : rv k a < rv k b ↔ Go.Proofs.Ytonbcbhnnflohaa.val k.format a < Go.Proofs.Ytonbcbhnnflohaa.val k.format b := by
  rw [rv_val ha, rv_val hb, Rat.mul_lt_mul_right (p2_pos _), Rat.intCast_lt_intCast]
theorem cmp_lt (x y : Int) : (some (compare x y) == some Ordering.lt) = decide (x < y) := by
  rcases Int.lt_trichotomy x y with h | h | h
  · simp [h, Int.compare_eq_lt.2 h]
  · subst h; simp
  · have h' : ¬ x < y := by omega
    simp [h', Int.compare_eq_gt.2 h]
theorem cmp_gt (x y : Int) : (some (compare x y) == some Ordering.gt) = decide (y < x) := by
  rcases Int.lt_trichotomy x y with h | h | h
  · have h' : ¬ y < x := by omega
    simp [h', Int.compare_eq_lt.2 h]
  · subst h; simp
  · simp [h, Int.compare_eq_gt.2 h]
theorem flt_iff {k c d} (hc : Fin k c) (hd : Fin k d) : fltB k c d = decide (cv k c < cv k d) := by
  cases c with
  | none => exact hc.elim
  | some a =>
    cases d with
    | none => exact hd.elim
    | some b =>
      unfold fltB
      rw [ford_fin hc hd]
      have := rv_lt hc hd
      show _ = decide (rv k a < rv k b)
      rw [cmp_lt]
      exact decide_eq_decide.2 this.symm
theorem fgt_iff {k c d} (hc : Fin k c) (hd : Fin k d) : fgtB k c d = decide (cv k d < cv k c) := by
  cases c with
  | none => exact hc.elim
  | some a =>
    cases d with
    | none => exact hd.elim
    | some b =>
      unfold fgtB
      rw [ford_fin hc hd]
      have := rv_lt hd hc
      show _ = decide (rv k b < rv k a)
      rw [cmp_gt]
      exact decide_eq_decide.2 this.symm
theorem fge_iff {k c d} (hc : Fin k c) (hd : Fin k d) : fgeB k c d = decide (cv k d ≤ cv k c) := by
  have h1 := fgt_iff hc hd
  have h2 := flt_iff hc hd
  cases c with
  | none => exact hc.elim
  | some a =>
    cases d with
    | none => exact hd.elim
    | some b =>
      unfold fgeB
      unfold fgtB at h1
      unfold fltB at h2
      rw [ford_fin hc hd] at *
      generalize compare (Go.Proofs.Ytonbcbhnnflohaa.val k.format a) (Go.Proofs.Ytonbcbhnnflohaa.val k.format b) = o at *
      have e : decide (cv k (some b) ≤ cv k (some a)) = !decide (cv k (some a) < cv k (some b)) := by
        by_cases hh : cv k (some a) < cv k (some b)
        · have : ¬ cv k (some b) ≤ cv k (some a) := Rat.not_le.2 hh
          simp [hh, this]
        · have := Rat.not_lt.1 hh
          simp [hh, this]
      rw [e, ← h2]
      cases o <;> rfl
theorem fle_iff {k c d} (hc : Fin k c) (hd : Fin k d) : fleB k c d = decide (cv k c ≤ cv k d) := by
  have h1 := fgt_iff hc hd
  have h2 := flt_iff hc hd
  cases c with
  | none => exact hc.elim
  | some a =>
    cases d with
    | none => exact hd.elim
    | some b =>
      unfold fleB
      unfold fgtB at h1
      unfold fltB at h2
      rw [ford_fin hc hd] at *
      generalize compare (Go.Proofs.Ytonbcbhnnflohaa.val k.format a) (Go.Proofs.Ytonbcbhnnflohaa.val k.format b) = o at *
      have e : decide (cv k (some a) ≤ cv k (some b)) = !decide (cv k (some b) < cv k (some a)) := by
        by_cases hh : cv k (some b) < cv k (some a)
        · have : ¬ cv k (some a) ≤ cv k (some b) := Rat.not_le.2 hh
          simp [hh, this]
        · have := Rat.not_lt.1 hh
          simp [hh, this]
      rw [e, ← h1]
      cases o <;> rfl

/-- A finite number less itself is nothing. -/
theorem fin_finC {c : Option Nat} (h : Fin .f32 c) : feqB .f32 (fop .sub .f32 c c) (some 0) = true := by
  obtain ⟨b, rfl, hb⟩ : ∃ b, c = some b ∧ Fin .f32 (some b) := by
    cases c with
    | none => exact h.elim
    | some b => exact ⟨b, rfl, h⟩
  obtain ⟨s, m, p, hr⟩ := fin_read hb
  have e : fop .sub .f32 (some b) (some b) = (Ieee.Datum.sum (.number s m p) (.number (!s) m p)).map FloatKind.f32.format.write := by
    show (Ieee.Datum.sum (FloatKind.f32.format.read b) (FloatKind.f32.format.read b).opposite).map _ = _
    rw [hr]
    rfl
  have h0 : Ieee.Datum.sum (.number s m p) (.number (!s) m p) = some (.number (s && !s) 0 (min p p)) := by
    simp only [Ieee.Datum.sum]
    have ht : Ieee.signed s m (p - min p p).toNat + Ieee.signed (!s) m (p - min p p).toNat = 0 := by
      unfold Ieee.signed
      cases s <;> simp <;> omega
    rw [ht]
    simp
  rw [e, h0]
  have h1 : (s && !s) = false := by cases s <;> rfl
  have h2 : (Option.map FloatKind.f32.format.write (some (Ieee.Datum.number (s && !s) 0 (min p p)))) = some 0 := by
    rw [h1]
    show some (FloatKind.f32.format.nearest false 0 (min p p)) = some 0
    unfold Ieee.Format.nearest
    simp [Ieee.Format.word]
  rw [h2]
  decide +kernel
end Go.Proofs.Ytonbcbhnnflohaa

namespace Go.Proofs.Ytonbcbhnnflohaa
open Go.RowKit

theorem natPos {n : Nat} (h : n ≠ 0) : (0 : Rat) < (n : Rat) := by
  have : ((0 : Nat) : Rat) < (n : Rat) := Rat.natCast_lt_natCast.2 (Nat.pos_of_ne_zero h)
  exact this
theorem mul_cancel {a b c : Rat} (h : 0 < c) (e : a * c = b * c) : a = b := by
  refine Rat.le_antisymm ?_ ?_
  · exact Rat.le_of_mul_le_mul_right (by rw [e]; exact Rat.le_refl) h
  · exact Rat.le_of_mul_le_mul_right (by rw [e]; exact Rat.le_refl) h

theorem rinv_neg {x : Rat} (h : 0 < x) : (-x)⁻¹ = -x⁻¹ := by
  refine mul_cancel h ?_
  have h1 := Rat.inv_mul_cancel (-x) (by grind)
  have h2 := Rat.inv_mul_cancel x (by grind)
  grind

/-! ## quotients -/
theorem quot_mag (digits m n : Nat) (i j : Int) (hn : n ≠ 0) (hm : m ≠ 0) (more : Nat) (hmore : more = digits + n.log2 - m.log2) :
    Near (((2 * (m * 2 ^ more / n) + (m * 2 ^ more % n != 0).toNat : Nat) : Rat) * p2 (i - j - more - 1)) ((m : Rat) * p2 i / ((n : Rat) * p2 j)) (p2 (i - j - more - 1)) ∧
    p2 (i - j - more - 1) ≤ (m : Rat) * p2 i / ((n : Rat) * p2 j) * p2 (-(digits : Int)) := by
  have hn0 := natPos hn
  have hP := p2_pos (i - j - more - 1)
  have hj := p2_pos j
  have e1 : p2 i = 2 * ((2 ^ more : Nat) : Rat) * p2 (i - j - more - 1) * p2 j := by
    have h1 : p2 1 = 2 := by decide +kernel
    rw [← p2_nat, ← h1, ← p2_add, ← p2_add, ← p2_add]
    congr 1
    omega
  generalize p2 (i - j - more - 1) = P at hP e1 ⊢
  have hnj := Rat.mul_pos hn0 hj
  have hne : (n : Rat) * p2 j ≠ 0 := by grind
  have e2 : (m : Rat) * p2 i / ((n : Rat) * p2 j) * ((n : Rat) * p2 j) = (m : Rat) * p2 i := Rat.div_mul_cancel hne
  generalize (m : Rat) * p2 i / ((n : Rat) * p2 j) = T at e2 ⊢
  have e3 : T * (n : Rat) = 2 * ((m * 2 ^ more : Nat) : Rat) * P := by
    refine mul_cancel (c := p2 j) hj ?_
    rw [e1] at e2
    rw [Rat.natCast_mul]
    grind
  have hge : n * 2 ^ digits ≤ 2 * (m * 2 ^ more) := by
    have h1 : n < 2 ^ (n.log2 + 1) := Nat.lt_log2_self
    have h2 : 2 ^ m.log2 ≤ m := Nat.log2_self_le hm
    have h3 : n * 2 ^ digits ≤ 2 ^ (n.log2 + 1) * 2 ^ digits := Nat.mul_le_mul_right _ (Nat.le_of_lt h1)
    have h4 : 2 ^ m.log2 * 2 ^ more ≤ m * 2 ^ more := Nat.mul_le_mul_right _ h2
    rw [← Nat.pow_add] at h3 h4
    have h5 : 2 ^ (n.log2 + 1 + digits) ≤ 2 ^ (m.log2 + more + 1) := Nat.pow_le_pow_right (by decide) (by omega)
    have h6 : 2 ^ (m.log2 + more + 1) = 2 * 2 ^ (m.log2 + more) := by rw [Nat.pow_succ]; omega
    omega
  generalize m * 2 ^ more = N at e3 hge ⊢
  have hdm := Nat.div_add_mod N n
  have hml := Nat.mod_lt N (Nat.pos_of_ne_zero hn)
  generalize N / n = q at hdm ⊢
  generalize N % n = ρ at hdm hml ⊢
  have hs : (ρ != 0).toNat = 0 ∧ ρ = 0 ∨ (ρ != 0).toNat = 1 := by
    by_cases h : ρ = 0
    · left; simp [h]
    · right; simp [h]
  generalize (ρ != 0).toNat = σ at hs ⊢
  have hc : (2 * q + σ) * n = 2 * (n * q) + σ * n := by rw [Nat.add_mul, Nat.mul_assoc, Nat.mul_comm q n]
  have hσ : σ * n = if σ = 0 then 0 else n := by
    rcases hs with ⟨h, _⟩ | h <;> subst h <;> simp
  have s1 : (2 * q + σ) * n ≤ 2 * N + n := by
    rw [hc, hσ]
    rcases hs with ⟨h, h'⟩ | h
    · rw [if_pos h]; omega
    · rw [if_neg (by omega)]; omega
  have s2 : 2 * N ≤ (2 * q + σ) * n + n := by
    rw [hc, hσ]
    rcases hs with ⟨h, h'⟩ | h
    · rw [if_pos h]; omega
    · rw [if_neg (by omega)]; omega
  have r1 : (((2 * q + σ) * n : Nat) : Rat) ≤ ((2 * N + n : Nat) : Rat) := Rat.natCast_le_natCast.2 s1
  have r2 : ((2 * N : Nat) : Rat) ≤ (((2 * q + σ) * n + n : Nat) : Rat) := Rat.natCast_le_natCast.2 s2
  have r3 : ((n * 2 ^ digits : Nat) : Rat) ≤ ((2 * N : Nat) : Rat) := Rat.natCast_le_natCast.2 hge
  have hP0 := Rat.le_of_lt hP
  have t1 := Rat.mul_le_mul_of_nonneg_right r1 hP0
  have t2 := Rat.mul_le_mul_of_nonneg_right r2 hP0
  have t3 := Rat.mul_le_mul_of_nonneg_right r3 hP0
  rw [Rat.natCast_mul (2 * q + σ) n, Rat.natCast_add (2 * N) n, Rat.natCast_mul 2 N] at t1
  rw [Rat.natCast_add ((2 * q + σ) * n) n, Rat.natCast_mul (2 * q + σ) n, Rat.natCast_mul 2 N] at t2
  rw [Rat.natCast_mul n, Rat.natCast_mul 2 N] at t3
  have c2 : ((2 : Nat) : Rat) = 2 := rfl
  rw [c2] at t1 t2 t3
  generalize ((2 * q + σ : Nat) : Rat) = D at t1 t2 ⊢
  refine ⟨⟨?_, ?_⟩, ?_⟩
  · refine Rat.le_of_mul_le_mul_right (c := (n : Rat)) ?_ hn0
    grind
  · refine Rat.le_of_mul_le_mul_right (c := (n : Rat)) ?_ hn0
    grind
  · have hd := p2_pos (digits : Int)
    have hdd : p2 (-(digits : Int)) * p2 (digits : Int) = 1 := by
      rw [← p2_add]
      have : -(digits : Int) + digits = 0 := by omega
      rw [this]
      decide +kernel
    have hnd := Rat.mul_pos hn0 hd
    refine Rat.le_of_mul_le_mul_right (c := (n : Rat) * p2 (digits : Int)) ?_ hnd
    have e4 : T * p2 (-(digits : Int)) * ((n : Rat) * p2 (digits : Int)) = T * (n : Rat) * (p2 (-(digits : Int)) * p2 (digits : Int)) := by grind
    rw [e4, hdd, e3, p2_nat]
    grind

theorem quo_near {k : FloatKind} {a b : Nat} (ha : Fin k (some a)) (hb : Fin k (some b)) (h0 : rv k b ≠ 0) {M : Rat} (hM : Ab (rv k a / rv k b) M) (hl : p2 (-126) ≤ M) (hu : 2 * M < p2 127) :
    Fin k (fop .quo k (some a) (some b)) ∧ Near (cv k (fop .quo k (some a) (some b))) (rv k a / rv k b) (3 * M * uk k) := by
  obtain ⟨s, m, i, hr⟩ := fin_read ha
  obtain ⟨t, n, j, hs⟩ := fin_read hb
  have va : rv k a = sg s * ((m : Rat) * p2 i) := by unfold rv; rw [hr]; rfl
  have vb : rv k b = sg t * ((n : Rat) * p2 j) := by unfold rv; rw [hs]; rfl
  have hn : n ≠ 0 := by
    rintro rfl
    apply h0
    rw [vb]
    simp
  have hu0 := uk_pos k
  have hM0 : 0 ≤ M := by have := p2_pos (-126); grind
  have hdig : p2 (-((k.format.fractionBits + 2 : Nat) : Int)) ≤ uk k := p2_mono (by cases k <;> decide)
  have hk1 : uk k ≤ 1 := by
    have e0 : p2 0 = 1 := by decide +kernel
    have : uk k ≤ p2 0 := p2_mono (by cases k <;> decide)
    rw [e0] at this
    exact this
  -- what stands before rounding
  obtain ⟨r, e, hd, hnear⟩ : ∃ r e, Ieee.Datum.quotient (k.format.fractionBits + 2) (.number s m i) (.number t n j) = some (.number (s ^^ t) r e) ∧ Near (dv (.number (s ^^ t) r e)) (rv k a / rv k b) (M * uk k) := by
    generalize hg : k.format.fractionBits + 2 = digits at hdig
    refine ⟨_, _, by simp only [Ieee.Datum.quotient, if_neg hn]; rfl, ?_⟩
    rw [Nat.shiftLeft_eq]
    have hx : rv k a / rv k b = sg (s ^^ t) * ((m : Rat) * p2 i / ((n : Rat) * p2 j)) := by
      have hpos := Rat.mul_pos (natPos hn) (p2_pos j)
      rw [va, vb, Rat.div_def, Rat.div_def]
      generalize (n : Rat) * p2 j = y at hpos
      generalize (m : Rat) * p2 i = x
      have h1 := rinv_neg hpos
      cases s <;> cases t <;> simp only [sg, Bool.false_eq_true, if_true, if_false, Bool.xor_false, Bool.xor_true, Bool.not_true, Bool.not_false, Rat.one_mul, Rat.neg_mul, h1] <;> grind
    rw [hx] at hM ⊢
    by_cases hm : m = 0
    · subst hm
      have z1 : ((0 : Nat) : Rat) * p2 i / ((n : Rat) * p2 j) = 0 := by
        rw [Rat.div_def]
        simp
      rw [z1]
      show Near (sg (s ^^ t) * _) _ _
      have hmu := Rat.mul_nonneg hM0 (Rat.le_of_lt hu0)
      simp
      exact ⟨by grind, by grind⟩
    · obtain ⟨h1, h2⟩ := quot_mag digits m n i j hn hm _ rfl
      have hT := mag_of_ab hM
      have h3 : p2 (i - j - (digits + n.log2 - m.log2 : Nat) - 1) ≤ M * uk k := by
        have hT0 : 0 ≤ (m : Rat) * p2 i / ((n : Rat) * p2 j) := by
          have hp := p2_pos (i - j - (digits + n.log2 - m.log2 : Nat) - 1)
          have hq := p2_pos (-(digits : Int))
          rcases Rat.le_total (a := 0) (b := (m : Rat) * p2 i / ((n : Rat) * p2 j)) with h | h
          · exact h
          · have := Rat.mul_le_mul_of_nonneg_right h (Rat.le_of_lt hq)
            grind
        have g1 := Rat.mul_le_mul_of_nonneg_left hdig hT0
        have g2 := Rat.mul_le_mul_of_nonneg_right hT (Rat.le_of_lt hu0)
        grind
      obtain ⟨h4, h5⟩ := h1
      exact sg_near ⟨by grind, by grind⟩
  have e0 : fop .quo k (some a) (some b) = some (k.format.write (.number (s ^^ t) r e)) := by
    show ((k.format.read a).quotient (k.format.fractionBits + 2) (k.format.read b)).map _ = _
    rw [hr, hs, hd]
    rfl
  rw [e0]
  obtain ⟨n1, n2⟩ := hnear
  obtain ⟨m1, m2⟩ := hM
  have hmu := Rat.mul_le_mul_of_nonneg_left hk1 hM0
  rw [Rat.mul_one] at hmu
  obtain ⟨w1, w2, w3⟩ := write_ab (k := k) (M := 2 * M) rfl (⟨by grind, by grind⟩ : Ab (dv (.number (s ^^ t) r e)) (2 * M)) (by grind) hu
  refine ⟨w1, ?_, ?_⟩
  · show rv k _ ≤ _
    grind
  · show _ ≤ rv k _ + _
    grind

/-! ## roots -/
end Go.Proofs.Ytonbcbhnnflohaa

namespace Go.Proofs.Ytonbcbhnnflohaa
open Go.RowKit

abbrev G (x : Nat) : Prop := Fin .f32 (some x)
abbrev rF (x : Nat) : Rat := rv .f32 x
abbrev U : Rat := 1 / 16777216
theorem u32 : uk .f32 = U := by show p2 (-24) = _; decide +kernel
theorem low1 {M : Rat} (h : 1 ≤ M) : p2 (-126) ≤ M := by
  have : p2 (-126) ≤ 1 := by decide +kernel
  grind
theorem high1 {M : Rat} (h : M ≤ 4096) : 2 * M < p2 127 := by
  have : (2 * 4096 : Rat) < p2 127 := by decide +kernel
  grind
theorem fin_some' {k : FloatKind} {c : Option Nat} (h : Fin k c) : ∃ r, c = some r := by
  cases c with
  | none => exact h.elim
  | some r => exact ⟨r, rfl⟩
theorem m32 {a b : Nat} (ha : G a) (hb : G b) {M : Rat} (h : Ab (rF a * rF b) M) (h0 : 1 ≤ M) (h1 : M ≤ 4096) : ∃ r, fop .mul .f32 (some a) (some b) = some r ∧ G r ∧ Ab (rF r - rF a * rF b) (M * U) := by
  have hp := high1 h1
  obtain ⟨g1, g2⟩ := mul_near ha hb h (low1 h0) (by grind)
  obtain ⟨r, hr⟩ := fin_some' g1
  rw [hr] at g1 g2
  rw [u32] at g2
  exact ⟨r, hr, g1, g2.ab⟩
theorem a32 {a b : Nat} (ha : G a) (hb : G b) {M : Rat} (h : Ab (rF a + rF b) M) (h0 : 1 ≤ M) (h1 : M ≤ 4096) : ∃ r, fop .add .f32 (some a) (some b) = some r ∧ G r ∧ Ab (rF r - (rF a + rF b)) (M * U) := by
  have hp := high1 h1
  obtain ⟨g1, g2⟩ := add_near ha hb h (low1 h0) (by grind)
  obtain ⟨r, hr⟩ := fin_some' g1
  rw [hr] at g1 g2
  rw [u32] at g2
  exact ⟨r, hr, g1, g2.ab⟩
theorem s32 {a b : Nat} (ha : G a) (hb : G b) {M : Rat} (h : Ab (rF a - rF b) M) (h0 : 1 ≤ M) (h1 : M ≤ 4096) : ∃ r, fop .sub .f32 (some a) (some b) = some r ∧ G r ∧ Ab (rF r - (rF a - rF b)) (M * U) := by
  have hp := high1 h1
  obtain ⟨g1, g2⟩ := sub_near ha hb h (low1 h0) (by grind)
  obtain ⟨r, hr⟩ := fin_some' g1
  rw [hr] at g1 g2
  rw [u32] at g2
  exact ⟨r, hr, g1, g2.ab⟩
theorem q32 {a b : Nat} (ha : G a) (hb : G b) (hz : rF b ≠ 0) {M : Rat} (h : Ab (rF a / rF b) M) (h0 : 1 ≤ M) (h1 : M ≤ 4096) : ∃ r, fop .quo .f32 (some a) (some b) = some r ∧ G r ∧ Ab (rF r - rF a / rF b) (3 * M * U) := by
  obtain ⟨g1, g2⟩ := quo_near ha hb hz h (low1 h0) (high1 h1)
  obtain ⟨r, hr⟩ := fin_some' g1
  rw [hr] at g1 g2
  rw [u32] at g2
  exact ⟨r, hr, g1, g2.ab⟩

/-! ## the blend in plain numbers -/
theorem cvx {x y X t : Rat} (hx : Ab x X) (hy : Ab y X) (h0 : 0 ≤ t) (h1 : t ≤ 1) : Ab (x * (1 - t) + y * t) X := by
  obtain ⟨a1, a2⟩ := hx
  obtain ⟨b1, b2⟩ := hy
  have e1 := Rat.mul_nonneg (a := X - x) (b := 1 - t) (by grind) (by grind)
  have e2 := Rat.mul_nonneg (a := X + x) (b := 1 - t) (by grind) (by grind)
  have e3 := Rat.mul_nonneg (a := X - y) (b := t) (by grind) h0
  have e4 := Rat.mul_nonneg (a := X + y) (b := t) (by grind) h0
  constructor <;> grind
theorem ab_of_mul {x c w : Rat} (hw : 0 < w) (h : Ab (x * w) (c * w)) : Ab x c := by
  obtain ⟨h1, h2⟩ := h
  constructor
  · apply Rat.not_lt.1
    intro hlt
    have := Rat.mul_pos (a := x - c) (b := w) (by grind) hw
    grind
  · apply Rat.not_lt.1
    intro hlt
    have := Rat.mul_pos (a := -c - x) (b := w) (by grind) hw
    grind
/-- What a product with a number that is hardly below 0 comes to. -/
theorem part {x f X p : Rat} (hx : Ab x X) (hf : -p ≤ f) (hp : 0 ≤ p) : Ab (x * f) (X * f + 2 * (X * p)) := by
  obtain ⟨a1, a2⟩ := hx
  have e1 := Rat.mul_nonneg (a := X - x) (b := f + p) (by grind) (by grind)
  have e2 := Rat.mul_nonneg (a := X + x) (b := f + p) (by grind) (by grind)
  have e3 := Rat.mul_nonneg (a := X - x) (b := p) (by grind) hp
  have e4 := Rat.mul_nonneg (a := X + x) (b := p) (by grind) hp
  constructor <;> grind
theorem Ab.add {x y X Y : Rat} (hx : Ab x X) (hy : Ab y Y) : Ab (x + y) (X + Y) := by
  obtain ⟨a1, a2⟩ := hx
  obtain ⟨b1, b2⟩ := hy
  constructor <;> grind
theorem Ab.sub {x y X Y : Rat} (hx : Ab x X) (hy : Ab y Y) : Ab (x - y) (X + Y) := by
  obtain ⟨a1, a2⟩ := hx
  obtain ⟨b1, b2⟩ := hy
  constructor <;> grind
theorem Ab.to {x y X Y : Rat} (hx : Ab x X) (h : x = y) (hX : X ≤ Y) : Ab y Y := by
  subst h
  obtain ⟨a1, a2⟩ := hx
  constructor <;> grind
/-- Weights. -/
theorem blend_w {WA WB wa wb t f s w e' p : Rat} (h0 : 0 ≤ t) (h1 : t ≤ 1) (hwa : Ab (wa - WA) e') (hwb : Ab (wb - WB) e')
    (hf : Ab (f - wa * (1 - t)) p) (hs : Ab (s - wb * t) p) (hw : Ab (w - (f + s)) (3 * U)) : Ab (w - (WA * (1 - t) + WB * t)) (e' + 2 * p + 3 * U) := by
  have h2 := cvx hwa hwb h0 h1
  exact (((hw.add hf).add hs).add h2).to (by grind) (by grind)
end Go.Proofs.Ytonbcbhnnflohaa

namespace Go.Proofs.Ytonbcbhnnflohaa
open Go.RowKit

theorem one3 : rF 1065353216 = 1 := by decide +kernel
theorem G1 : G 1065353216 := by show rung FloatKind.f32.format 1065353216 < _; decide +kernel
/-- A time. -/
structure TM (t : Nat) (s q : Rat) : Prop where
  g : G t
  h0 : 0 ≤ s
  h1 : s ≤ 1
  tt : Ab (rF t - s) q
  o : ∃ o, fop .sub .f32 (some 1065353216) (some t) = some o ∧ G o ∧ Ab (rF o - (1 - s)) q
theorem scaled_near {a : Nat × Nat} {x : Nat} (h1 : G a.1) (h2 : G a.2) (h3 : G x) {M : Rat} (b1 : Ab (rF a.1 * rF x) M) (b2 : Ab (rF a.2 * rF x) M) (m1 : 1 ≤ M) (m2 : M ≤ 4096) :
    ∃ r, scaledC a x = some r ∧ G r.1 ∧ G r.2 ∧ Is .f32 r.1 (some r.1) ∧ Is .f32 r.2 (some r.2) ∧ Ab (rF r.1 - rF a.1 * rF x) (M * U) ∧ Ab (rF r.2 - rF a.2 * rF x) (M * U) := by
  obtain ⟨u, hu, gu, du⟩ := m32 h1 h3 b1 m1 m2
  obtain ⟨v, hv, gv, dv⟩ := m32 h2 h3 b2 m1 m2
  exact ⟨(u, v), by unfold scaledC; rw [hu, Option.bind_some, hv, Option.bind_some], gu, gv, fop_is hu, fop_is hv, du, dv⟩
theorem plus_near {a b : Nat × Nat} (h1 : G a.1) (h2 : G a.2) (h3 : G b.1) (h4 : G b.2) {M : Rat} (b1 : Ab (rF a.1 + rF b.1) M) (b2 : Ab (rF a.2 + rF b.2) M) (m1 : 1 ≤ M) (m2 : M ≤ 4096) :
    ∃ r, plusC a b = some r ∧ G r.1 ∧ G r.2 ∧ Ab (rF r.1 - (rF a.1 + rF b.1)) (M * U) ∧ Ab (rF r.2 - (rF a.2 + rF b.2)) (M * U) := by
  obtain ⟨u, hu, gu, du⟩ := a32 h1 h3 b1 m1 m2
  obtain ⟨v, hv, gv, dv⟩ := a32 h2 h4 b2 m1 m2
  exact ⟨(u, v), by unfold plusC; rw [hu, Option.bind_some, hv, Option.bind_some], gu, gv, du, dv⟩
end Go.Proofs.Ytonbcbhnnflohaa

namespace Go.Proofs.Ytonbcbhnnflohaa
open Go.RowKit

/-! ## the exact rows -/
def nextS : List Rat → Rat → List Rat
  | a :: b :: r, s => (a * (1 - s) + b * s) :: nextS (b :: r) s
  | _, _ => []
def sAt : Nat → List Rat → Rat → Rat
  | 0, xs, _ => xs.headD 0
  | n + 1, xs, s => sAt n (nextS xs s) s
/-! ## curves that are good -/
theorem cv0 : cv .f32 (some 0) = 0 := by decide +kernel
theorem G0 : G 0 := by show rung FloatKind.f32.format 0 < _; decide +kernel
end Go.Proofs.Ytonbcbhnnflohaa

namespace Go.Proofs.Ytonbcbhnnflohaa
open Go.RowKit

theorem lens {xs : List Rat} {m : Nat} (h : xs.length = m + 1) (h1 : 1 ≤ m) (h4 : m ≤ 4) : (m = 1 ∧ ∃ a b, xs = [a, b]) ∨ (m = 2 ∧ ∃ a b c, xs = [a, b, c]) ∨ (m = 3 ∧ ∃ a b c d, xs = [a, b, c, d]) ∨ (m = 4 ∧ ∃ a b c d e, xs = [a, b, c, d, e]) := by
  match xs, h with
  | [a, b], h => exact .inl ⟨by simpa using h.symm, a, b, rfl⟩
  | [a, b, c], h => exact .inr (.inl ⟨by simp at h; omega, a, b, c, rfl⟩)
  | [a, b, c, d], h => exact .inr (.inr (.inl ⟨by simp at h; omega, a, b, c, d, rfl⟩))
  | [a, b, c, d, e], h => exact .inr (.inr (.inr ⟨by simp at h; omega, a, b, c, d, e, rfl⟩))
  | [], h => simp at h
  | [a], h => simp at h; omega
  | a :: b :: c :: d :: e :: f :: r, h => simp at h; omega
theorem s_back {xs : List Rat} {m : Nat} (h : xs.length = m + 1) (h1 : 1 ≤ m) (h4 : m ≤ 4) (u : Rat) : sAt m xs.reverse (1 - u) = sAt m xs u := by
  rcases lens h h1 h4 with ⟨rfl, a, b, rfl⟩ | ⟨rfl, a, b, c, rfl⟩ | ⟨rfl, a, b, c, d, rfl⟩ | ⟨rfl, a, b, c, d, e, rfl⟩ <;> (simp only [sAt, nextS, List.headD_cons, List.reverse_cons, List.reverse_nil, List.nil_append, List.cons_append]; grind)
end Go.Proofs.Ytonbcbhnnflohaa
