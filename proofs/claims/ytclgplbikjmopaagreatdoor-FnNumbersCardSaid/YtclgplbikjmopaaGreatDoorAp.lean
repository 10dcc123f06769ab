/-
  Classes of floats, near to rational numbers; classes that stand for few digits exactly.
-/
import Derived.Test.YtclgplbikjmopaaGreatDoorErr
import Derived.Test.YtclgplbikjmopaaGreatDoorRules
namespace Go.Proofs.YtclgplbikjmopaaGreatDoor
open Go.RowKit

/-- What a class stands for. -/
def cv (k : FloatKind) : Option Nat → Rat
  | none => 0
  | some b => rv k b
/-- The class of a finite number. -/
def Fin (k : FloatKind) : Option Nat → Prop
  | none => False
  | some b => rung k.format b < k.format.infRung

theorem fin_read {k : FloatKind} {b : Nat} (h : Fin k (some b)) : ∃ s m p, k.format.read b = .number s m p := by
  obtain ⟨m, j, hr, _, _⟩ := read_fin k.format b h
  exact ⟨_, _, _, hr⟩

/-- Within a bound. -/
structure Ab (v V : Rat) : Prop where
  le : v ≤ V
  ge : -V ≤ v
theorem Ab.mul {x X y Y : Rat} (hx : Ab x X) (hy : Ab y Y) : Ab (x * y) (X * Y) := by
  obtain ⟨a1, a2⟩ := hx
  obtain ⟨b1, b2⟩ := hy
  have h1 := Rat.mul_nonneg (a := X - x) (b := Y + y) (by grind) (by grind)
  have h2 := Rat.mul_nonneg (a := X + x) (b := Y - y) (by grind) (by grind)
  have h3 := Rat.mul_nonneg (a := X - x) (b := Y - y) (by grind) (by grind)
  have h4 := Rat.mul_nonneg (a := X + x) (b := Y + y) (by grind) (by grind)
  constructor <;> grind
theorem Ab.nonneg {x X : Rat} (h : Ab x X) : 0 ≤ X := by obtain ⟨a, b⟩ := h; grind
theorem Near.ab {x y e : Rat} (h : Near x y e) : Ab (x - y) e := by obtain ⟨a, b⟩ := h; constructor <;> grind

theorem mag_of_ab {s : Bool} {x M : Rat} (h : Ab (sg s * x) M) : x ≤ M := by
  obtain ⟨a, b⟩ := h
  cases s <;> simp only [sg, Bool.false_eq_true, if_true, if_false] at a b <;> grind

theorem dv_opp (d : Ieee.Datum) : dv d.opposite = -dv d := by
  cases d with
  | number s m p => cases s <;> simp only [Ieee.Datum.opposite, dv, sg, Bool.not_true, Bool.not_false, Bool.false_eq_true, if_true, if_false] <;> grind
  | infinity s => simp [Ieee.Datum.opposite, dv]
  | nan s t => simp [Ieee.Datum.opposite, dv]

theorem write_ab {k : FloatKind} {s : Bool} {m : Nat} {p : Int} {M X : Rat} (hX : dv (.number s m p) = X) (hM : Ab X M) (h0 : p2 (-126) ≤ M) (h1 : M < p2 127) :
    Fin k (some (k.format.write (.number s m p))) ∧ Near (rv k (k.format.write (.number s m p))) X (M * uk k) := by
  subst hX
  exact write_near k s m p M (mag_of_ab hM) h0 h1

theorem add_near {k : FloatKind} {a b : Nat} (ha : Fin k (some a)) (hb : Fin k (some b)) {M : Rat} (hM : Ab (rv k a + rv k b) M) (h0 : p2 (-126) ≤ M) (h1 : M < p2 127) :
    Fin k (fop .add k (some a) (some b)) ∧ Near (cv k (fop .add k (some a) (some b))) (rv k a + rv k b) (M * uk k) := by
  obtain ⟨s, m, p, hr⟩ := fin_read ha
  obtain ⟨t, n, q, hs⟩ := fin_read hb
  have e : fop .add k (some a) (some b) = (Ieee.Datum.sum (.number s m p) (.number t n q)).map k.format.write := by
    show (Ieee.Datum.sum (k.format.read a) (k.format.read b)).map _ = _
    rw [hr, hs]
  rw [e]
  cases hd : Ieee.Datum.sum (.number s m p) (.number t n q) with
  | none => simp [Ieee.Datum.sum] at hd
  | some d =>
    obtain ⟨u, r, i, rfl, hv⟩ := sum_val hd
    have hv' : dv (.number u r i) = rv k a + rv k b := by rw [hv]; unfold rv; rw [hr, hs]
    exact write_ab hv' hM h0 h1
theorem sub_near {k : FloatKind} {a b : Nat} (ha : Fin k (some a)) (hb : Fin k (some b)) {M : Rat} (hM : Ab (rv k a - rv k b) M) (h0 : p2 (-126) ≤ M) (h1 : M < p2 127) :
    Fin k (fop .sub k (some a) (some b)) ∧ Near (cv k (fop .sub k (some a) (some b))) (rv k a - rv k b) (M * uk k) := by
  obtain ⟨s, m, p, hr⟩ := fin_read ha
  obtain ⟨t, n, q, hs⟩ := fin_read hb
  have e : fop .sub k (some a) (some b) = (Ieee.Datum.sum (.number s m p) (.number (!t) n q)).map k.format.write := by
    show (Ieee.Datum.sum (k.format.read a) (k.format.read b).opposite).map _ = _
    rw [hr, hs]
    rfl
  rw [e]
  cases hd : Ieee.Datum.sum (.number s m p) (.number (!t) n q) with
  | none => simp [Ieee.Datum.sum] at hd
  | some d =>
    obtain ⟨u, r, i, rfl, hv⟩ := sum_val hd
    have hv' : dv (.number u r i) = rv k a - rv k b := by
      have ho := dv_opp (.number t n q)
      simp only [Ieee.Datum.opposite] at ho
      rw [hv, ho]
      unfold rv
      rw [hr, hs]
      grind
    exact write_ab hv' hM h0 h1
theorem mul_near {k : FloatKind} {a b : Nat} (ha : Fin k (some a)) (hb : Fin k (some b)) {M : Rat} (hM : Ab (rv k a * rv k b) M) (h0 : p2 (-126) ≤ M) (h1 : M < p2 127) :
    Fin k (fop .mul k (some a) (some b)) ∧ Near (cv k (fop .mul k (some a) (some b))) (rv k a * rv k b) (M * uk k) := by
  obtain ⟨s, m, p, hr⟩ := fin_read ha
  obtain ⟨t, n, q, hs⟩ := fin_read hb
  have e : fop .mul k (some a) (some b) = (Ieee.Datum.product (.number s m p) (.number t n q)).map k.format.write := by
    show (Ieee.Datum.product (k.format.read a) (k.format.read b)).map _ = _
    rw [hr, hs]
  rw [e]
  cases hd : Ieee.Datum.product (.number s m p) (.number t n q) with
  | none => simp [Ieee.Datum.product] at hd
  | some d =>
    obtain ⟨u, r, i, rfl, hv⟩ := prod_val hd
    have hv' : dv (.number u r i) = rv k a * rv k b := by rw [hv]; unfold rv; rw [hr, hs]
    exact write_ab hv' hM h0 h1

/-! ## near to a number, up to an error -/
structure Ap (k : FloatKind) (c : Option Nat) (v e : Rat) : Prop where
  fin : Fin k c
  near : Near (cv k c) v e

theorem Ap.ex {k c v e} (h : Ap k c v e) : ∃ b, c = some b ∧ Fin k (some b) ∧ Near (rv k b) v e := by
  obtain ⟨hf, hn⟩ := h
  cases c with
  | none => exact hf.elim
  | some b => exact ⟨b, rfl, hf, hn⟩
theorem Ap.mono {k c v e f} (h : Ap k c v e) (hf : e ≤ f) : Ap k c v f := by
  obtain ⟨hf', h1, h2⟩ := h
  exact ⟨hf', by grind, by grind⟩
theorem Ap.to {k c v w e} (h : Ap k c v e) (hw : v = w) : Ap k c w e := hw ▸ h
theorem Ap.ab {k c v e V} (h : Ap k c v e) (hV : Ab v V) : Ab (cv k c) (V + e) := by
  obtain ⟨_, h1, h2⟩ := h
  obtain ⟨h3, h4⟩ := hV
  constructor <;> grind

theorem Ap.add {k c d v w e f} (h : Ap k c v e) (h' : Ap k d w f) {M : Rat} (hM : Ab (v + w) (M - e - f)) (h0 : p2 (-126) ≤ M) (h1 : M < p2 127) : Ap k (fop .add k c d) (v + w) (e + f + M * uk k) := by
  obtain ⟨a, rfl, ha, n1, n2⟩ := h.ex
  obtain ⟨b, rfl, hb, n3, n4⟩ := h'.ex
  obtain ⟨m1, m2⟩ := hM
  obtain ⟨q1, q2, q3⟩ := add_near ha hb (M := M) ⟨by grind, by grind⟩ h0 h1
  exact ⟨q1, by grind, by grind⟩
theorem Ap.sub {k c d v w e f} (h : Ap k c v e) (h' : Ap k d w f) {M : Rat} (hM : Ab (v - w) (M - e - f)) (h0 : p2 (-126) ≤ M) (h1 : M < p2 127) : Ap k (fop .sub k c d) (v - w) (e + f + M * uk k) := by
  obtain ⟨a, rfl, ha, n1, n2⟩ := h.ex
  obtain ⟨b, rfl, hb, n3, n4⟩ := h'.ex
  obtain ⟨m1, m2⟩ := hM
  obtain ⟨q1, q2, q3⟩ := sub_near ha hb (M := M) ⟨by grind, by grind⟩ h0 h1
  exact ⟨q1, by grind, by grind⟩
theorem Ap.mul {k c d v w e f} (h : Ap k c v e) (h' : Ap k d w f) {A B M : Rat} (hA : Ab v A) (hB : Ab w B) (hM : (A + e) * (B + f) ≤ M) (h0 : p2 (-126) ≤ M) (h1 : M < p2 127) : Ap k (fop .mul k c d) (v * w) ((A + e) * f + B * e + M * uk k) := by
  have x1 := h.ab hA
  have x2 := h'.ab hB
  obtain ⟨a, rfl, ha, n1⟩ := h.ex
  obtain ⟨b, rfl, hb, n2⟩ := h'.ex
  have x1 : Ab (rv k a) (A + e) := x1
  have x2 : Ab (rv k b) (B + f) := x2
  have p1 := x1.mul x2
  have p2' := x1.mul n2.ab
  have p3 := hB.mul n1.ab
  obtain ⟨p11, p12⟩ := p1
  obtain ⟨p21, p22⟩ := p2'
  obtain ⟨p31, p32⟩ := p3
  obtain ⟨q1, q2, q3⟩ := mul_near ha hb (M := M) ⟨by grind, by grind⟩ h0 h1
  refine ⟨q1, ?_, ?_⟩
  · have : rv k a * rv k b = v * w + rv k a * (rv k b - w) + w * (rv k a - v) := by grind
    grind
  · have : rv k a * rv k b = v * w + rv k a * (rv k b - w) + w * (rv k a - v) := by grind
    grind

/-! ## exact -/
structure Ex' (k : FloatKind) (c : Option Nat) (j : Int) (q : Int) : Prop where
  fin : Fin k c
  val : cv k c = (j : Rat) * p2 q
theorem Ex'.ex {k c j q} (h : Ex' k c j q) : ∃ b, c = some b ∧ Fin k (some b) ∧ rv k b = (j : Rat) * p2 q := by
  obtain ⟨hf, hn⟩ := h
  cases c with
  | none => exact hf.elim
  | some b => exact ⟨b, rfl, hf, hn⟩
theorem Ex'.ap {k c j q} (h : Ex' k c j q) : Ap k c ((j : Rat) * p2 q) 0 := ⟨h.fin, by rw [h.val]; constructor <;> grind⟩
theorem Ex'.to {k : FloatKind} {c : Option Nat} {j q i r : Int} (h : Ex' k c j q) (he : (j : Rat) * p2 q = (i : Rat) * p2 r) : Ex' k c i r := ⟨h.fin, by rw [h.val, he]⟩
theorem Ex'.finer {k c j q} (h : Ex' k c j q) (n : Nat) : Ex' k c (j * 2 ^ n) (q - n) := by
  refine h.to ?_
  have e : p2 q = p2 (n : Int) * p2 (q - n) := by rw [← p2_add]; congr 1; omega
  rw [e, p2_nat, Rat.intCast_mul, Rat.intCast_pow, Rat.natCast_pow]
  show _ * (((2 : Nat) : Rat) ^ n * _) = _ * ((2 : Int) : Rat) ^ n * _
  have : ((2 : Nat) : Rat) = ((2 : Int) : Rat) := rfl
  rw [this]
  grind

theorem exact_mag {s : Bool} {m : Nat} {p : Int} {j q : Int} (h : dv (.number s m p) = (j : Rat) * p2 q) : (m : Rat) * p2 p = (j.natAbs : Rat) * p2 q := by
  have hp := Rat.mul_nonneg (a := (m : Rat)) (b := p2 p) (by exact_mod_cast Nat.zero_le m) (Rat.le_of_lt (p2_pos p))
  have hq := p2_pos q
  have hj : ((j.natAbs : Int) : Rat) = (j : Rat) ∨ ((j.natAbs : Int) : Rat) = -(j : Rat) := by
    rcases Int.natAbs_eq j with h | h
    · left; rw [← h]
    · right; rw [← Rat.intCast_neg]; congr 1; omega
  have hjn : (0 : Rat) ≤ (j.natAbs : Rat) := by exact_mod_cast Nat.zero_le _
  have hjq := Rat.mul_nonneg hjn (Rat.le_of_lt hq)
  rw [Rat.intCast_natCast] at hj
  have h : sg s * ((m : Rat) * p2 p) = (j : Rat) * p2 q := h
  generalize (m : Rat) * p2 p = x at *
  generalize p2 q = z at *
  generalize (j.natAbs : Rat) = y at *
  rcases hj with hj | hj
  · have e : y * z = (j : Rat) * z := by rw [hj]
    cases s <;> simp only [sg, Bool.false_eq_true, if_true, if_false] at h <;> grind
  · have e : y * z = -((j : Rat) * z) := by rw [hj]; grind
    cases s <;> simp only [sg, Bool.false_eq_true, if_true, if_false] at h <;> grind

theorem write_ex {k : FloatKind} {s : Bool} {m : Nat} {p : Int} {j q : Int} (hX : dv (.number s m p) = (j : Rat) * p2 q) (hj : j.natAbs < 2 ^ 24) (hq : -149 ≤ q) (hq1 : q ≤ 100) : Ex' k (some (k.format.write (.number s m p))) j q := by
  have hm := exact_mag hX
  have hlt : (m : Rat) * p2 p < p2 127 := by
    rw [hm]
    have h1 : (j.natAbs : Rat) * p2 q < p2 24 * p2 q := by
      refine Rat.mul_lt_mul_of_pos_right ?_ (p2_pos q)
      have : p2 24 = ((2 ^ 24 : Nat) : Rat) := p2_nat 24
      rw [this]
      exact_mod_cast hj
    rw [← p2_add] at h1
    have h2 : p2 (24 + q) ≤ p2 127 := p2_mono (by omega)
    grind
  obtain ⟨h1, h2⟩ := write_exact k s m p j.natAbs q hm hj hq hlt
  exact ⟨h1, by show rv k _ = _; rw [h2, hX]⟩

theorem Ex'.add {k c d i j q} (h : Ex' k c i q) (h' : Ex' k d j q) (hj : (i + j).natAbs < 2 ^ 24) (hq : -149 ≤ q) (hq1 : q ≤ 100) : Ex' k (fop .add k c d) (i + j) q := by
  obtain ⟨a, rfl, ha, va⟩ := h.ex
  obtain ⟨b, rfl, hb, vb⟩ := h'.ex
  obtain ⟨s, m, p, hr⟩ := fin_read ha
  obtain ⟨t, n, r, hs⟩ := fin_read hb
  have e : fop .add k (some a) (some b) = (Ieee.Datum.sum (.number s m p) (.number t n r)).map k.format.write := by
    show (Ieee.Datum.sum (k.format.read a) (k.format.read b)).map _ = _
    rw [hr, hs]
  rw [e]
  cases hd : Ieee.Datum.sum (.number s m p) (.number t n r) with
  | none => simp [Ieee.Datum.sum] at hd
  | some d =>
    obtain ⟨u, o, w, rfl, hv⟩ := sum_val hd
    unfold rv at va vb
    rw [hr] at va
    rw [hs] at vb
    refine write_ex ?_ hj hq hq1
    rw [hv, va, vb, Rat.intCast_add]
    grind
theorem Ex'.sub {k c d i j q} (h : Ex' k c i q) (h' : Ex' k d j q) (hj : (i - j).natAbs < 2 ^ 24) (hq : -149 ≤ q) (hq1 : q ≤ 100) : Ex' k (fop .sub k c d) (i - j) q := by
  obtain ⟨a, rfl, ha, va⟩ := h.ex
  obtain ⟨b, rfl, hb, vb⟩ := h'.ex
  obtain ⟨s, m, p, hr⟩ := fin_read ha
  obtain ⟨t, n, r, hs⟩ := fin_read hb
  have e : fop .sub k (some a) (some b) = (Ieee.Datum.sum (.number s m p) (.number (!t) n r)).map k.format.write := by
    show (Ieee.Datum.sum (k.format.read a) (k.format.read b).opposite).map _ = _
    rw [hr, hs]
    rfl
  rw [e]
  cases hd : Ieee.Datum.sum (.number s m p) (.number (!t) n r) with
  | none => simp [Ieee.Datum.sum] at hd
  | some d =>
    obtain ⟨u, o, w, rfl, hv⟩ := sum_val hd
    unfold rv at va vb
    rw [hr] at va
    rw [hs] at vb
    have ho := dv_opp (.number t n r)
    simp only [Ieee.Datum.opposite] at ho
    refine write_ex ?_ hj hq hq1
    rw [hv, ho, va, vb, Rat.intCast_sub]
    grind
theorem Ex'.mul {k c d i j q r} (h : Ex' k c i q) (h' : Ex' k d j r) (hj : (i * j).natAbs < 2 ^ 24) (hq : -149 ≤ q + r) (hq1 : q + r ≤ 100) : Ex' k (fop .mul k c d) (i * j) (q + r) := by
  obtain ⟨a, rfl, ha, va⟩ := h.ex
  obtain ⟨b, rfl, hb, vb⟩ := h'.ex
  obtain ⟨s, m, p, hr⟩ := fin_read ha
  obtain ⟨t, n, o, hs⟩ := fin_read hb
  have e : fop .mul k (some a) (some b) = (Ieee.Datum.product (.number s m p) (.number t n o)).map k.format.write := by
    show (Ieee.Datum.product (k.format.read a) (k.format.read b)).map _ = _
    rw [hr, hs]
  rw [e]
  cases hd : Ieee.Datum.product (.number s m p) (.number t n o) with
  | none => simp [Ieee.Datum.product] at hd
  | some d =>
    obtain ⟨u, x, w, rfl, hv⟩ := prod_val hd
    unfold rv at va vb
    rw [hr] at va
    rw [hs] at vb
    refine write_ex ?_ hj hq hq1
    rw [hv, va, vb, Rat.intCast_mul, p2_add]
    grind

/-- A whole number of few digits, as a float. -/
theorem Ex'_ofInt (k : FloatKind) (n : Int) (h : n.natAbs < 2 ^ 24) : Ex' k (some (floatOfInt k n)) n 0 := by
  show Ex' k (some (k.format.write (.number (n < 0) n.natAbs 0))) n 0
  refine write_ex ?_ h (by decide) (by decide)
  show sg (decide (n < 0)) * ((n.natAbs : Rat) * p2 0) = _
  have h0 : p2 0 = 1 := by decide +kernel
  rw [h0, Rat.mul_one, Rat.mul_one]
  by_cases hn : n < 0
  · have : ((n.natAbs : Int) : Rat) = ((-n : Int) : Rat) := by congr 1; omega
    rw [Rat.intCast_natCast] at this
    simp only [hn, decide_true, sg, if_true, this, Rat.intCast_neg]
    grind
  · have : ((n.natAbs : Int) : Rat) = ((n : Int) : Rat) := by congr 1; omega
    rw [Rat.intCast_natCast] at this
    simp only [hn, decide_false, sg, Bool.false_eq_true, if_false, this]
    grind

/-! ## widening -/
theorem widen_val {b : Nat} (h : Fin .f32 (some b)) (hv : Ab (rv .f32 b) (p2 126)) : Fin .f64 (fcv .f32 .f64 (some b)) ∧ cv .f64 (fcv .f32 .f64 (some b)) = rv .f32 b := by
  obtain ⟨m, j, hr, hm, hj⟩ := read_fin FloatKind.f32.format b h
  have hlp : FloatKind.f32.format.leastPlace = -149 := by decide
  have hmlt : m < 2 ^ 24 := by
    have hr2 : FloatKind.f32.format.read b = .number (sgn FloatKind.f32.format b) m (FloatKind.f32.format.leastPlace + j) := hr
    have hbin : FloatKind.f32.format.binade = 8388608 := by decide
    unfold Ieee.Format.read at hr2
    dsimp only at hr2
    split at hr2
    · simp only [Ieee.Datum.number.injEq] at hr2
      omega
    · split at hr2
      · have := Nat.mod_lt (b % FloatKind.f32.format.signWeight) (binade_pos FloatKind.f32.format)
        simp only [Ieee.Datum.number.injEq] at hr2
        omega
      · split at hr2 <;> cases hr2
  have hval : rv .f32 b = dv (.number (sgn FloatKind.f32.format b) m (FloatKind.f32.format.leastPlace + j)) := by unfold rv; rw [hr]
  rw [hval] at hv ⊢
  have hmag := mag_of_ab hv
  have hlt : (m : Rat) * p2 (FloatKind.f32.format.leastPlace + j) < p2 127 := by
    have h2 : p2 126 < p2 127 := by
      have e : p2 127 = p2 1 * p2 126 := by rw [← p2_add]; rfl
      have e1 : p2 1 = 2 := by decide +kernel
      have := p2_pos 126
      rw [e, e1]; grind
    exact rlt_of_le_of_lt hmag h2
  obtain ⟨h1, h2⟩ := write_exact .f64 (sgn FloatKind.f32.format b) m _ m _ rfl hmlt (by omega) hlt
  have hd : FloatKind.f32.decode b = .number (sgn FloatKind.f32.format b) m (FloatKind.f32.format.leastPlace + j) := hr
  have e : fcv .f32 .f64 (some b) = some (FloatKind.f64.format.write (.number (sgn FloatKind.f32.format b) m (FloatKind.f32.format.leastPlace + j))) := by
    show floatToFloatBits .f32 b .f64 = _
    unfold floatToFloatBits
    rw [if_neg (by decide)]
    simp only [hd]
    have hni : (FloatKind.f64.decode (FloatKind.f64.encode (.number (sgn FloatKind.f32.format b) m (FloatKind.f32.format.leastPlace + j)))).isInfinity = false := by
      obtain ⟨_, _, hr', _⟩ := read_fin FloatKind.f64.format _ h1
      show (FloatKind.f64.format.read (FloatKind.f64.format.write _)).isInfinity = false
      rw [hr']
      rfl
    rw [if_neg (by rw [hni]; decide)]
    rfl
  rw [e]
  exact ⟨h1, h2⟩
theorem Ap.widen {c v e V} (h : Ap .f32 c v e) (hV : Ab v V) (hV1 : V + e ≤ p2 126) : Ap .f64 (fcv .f32 .f64 c) v e := by
  have ha := h.ab hV
  obtain ⟨b, rfl, hb, n1, n2⟩ := h.ex
  obtain ⟨a1, a2⟩ := ha
  obtain ⟨h1, h2⟩ := widen_val hb ⟨by have : rv .f32 b ≤ V + e := a1; grind, by have : -(V + e) ≤ rv .f32 b := a2; grind⟩
  exact ⟨h1, by rw [h2]; exact n1, by rw [h2]; exact n2⟩

/-! ## order -/
theorem rv_val {k : FloatKind} {b : Nat} (h : Fin k (some b)) : rv k b = ((Go.Proofs.YtclgplbikjmopaaGreatDoor.val k.format b : Int) : Rat) * p2 k.format.leastPlace := by
  rw [rv_fin k b h]
  unfold Go.Proofs.YtclgplbikjmopaaGreatDoor.val
  cases sgn k.format b
  · simp only [sg, Bool.false_eq_true, if_false]
    rw [Rat.intCast_natCast, Rat.one_mul]
  · simp only [sg, if_true]
    rw [Rat.intCast_neg, Rat.intCast_natCast]
    grind
theorem ford_fin {k : FloatKind} {a b : Nat} (ha : Fin k (some a)) (hb : Fin k (some b)) : ford k (some a) (some b) = some (compare (Go.Proofs.YtclgplbikjmopaaGreatDoor.val k.format a) (Go.Proofs.YtclgplbikjmopaaGreatDoor.val k.format b)) := by
  show k.format.order a b = _
  exact order_fin k.format a b ha hb
theorem rv_lt {k : FloatKind} {a b : Nat} (ha : Fin k (some a)) (hb : Fin k (some b)) : rv k a < rv k b ↔ Go.Proofs.YtclgplbikjmopaaGreatDoor.val k.format a < Go.Proofs.YtclgplbikjmopaaGreatDoor.val k.format b := by
  rw [rv_val ha, rv_val hb, Rat.mul_lt_mul_right (p2_pos _), Rat.intCast_lt_intCast]
theorem cmp_lt (x y : Int) : (some (compare x y) == some Ordering.lt) = decide (x < y) := by
  rcases Int.lt_trichotomy x y with h | h | h
  · simp [h, Int.compare_eq_lt.2 h]
  · subst h; simp
  · have h' : ¬ x < y := by omega
    simp [h', Int.compare_eq_gt.2 h]
theorem cmp_gt (x y : Int) : (some (compare x y) == some Ordering.gt) = decide (y < x) := by
  rcases Int.lt_trichotomy x y with h | h | h
  · have h' : ¬ y < x := by omega
    simp [h', Int.compare_eq_lt.2 h]
  · subst h; simp
  · simp [h, Int.compare_eq_gt.2 h]
theorem flt_iff {k c d} (hc : Fin k c) (hd : Fin k d) : fltB k c d = decide (cv k c < cv k d) := by
  cases c with
  | none => exact hc.elim
  | some a =>
    cases d with
    | none => exact hd.elim
    | some b =>
      unfold fltB
      rw [ford_fin hc hd]
      have := rv_lt hc hd
      show _ = decide (rv k a < rv k b)
      rw [cmp_lt]
      exact decide_eq_decide.2 this.symm
theorem fgt_iff {k c d} (hc : Fin k c) (hd : Fin k d) : fgtB k c d = decide (cv k d < cv k c) := by
  cases c with
  | none => exact hc.elim
  | some a =>
    cases d with
    | none => exact hd.elim
    | some b =>
      unfold fgtB
      rw [ford_fin hc hd]
      have := rv_lt hd hc
      show _ = decide (rv k b < rv k a)
      rw [cmp_gt]
      exact decide_eq_decide.2 this.symm
theorem fge_iff {k c d} (hc : Fin k c) (hd : Fin k d) : fgeB k c d = decide (cv k d ≤ cv k c) := by
  have h1 := fgt_iff hc hd
  have h2 := flt_iff hc hd
  cases c with
  | none => exact hc.elim
  | some a =>
    cases d with
    | none => exact hd.elim
    | some b =>
      unfold fgeB
      unfold fgtB at h1
      unfold fltB at h2
      rw [ford_fin hc hd] at *
      generalize compare (Go.Proofs.YtclgplbikjmopaaGreatDoor.val k.format a) (Go.Proofs.YtclgplbikjmopaaGreatDoor.val k.format b) = o at *
      have e : decide (cv k (some b) ≤ cv k (some a)) = !decide (cv k (some a) < cv k (some b)) := by
        by_cases hh : cv k (some a) < cv k (some b)
        · have : ¬ cv k (some b) ≤ cv k (some a) := Rat.not_le.2 hh
          simp [hh, this]
        · have := Rat.not_lt.1 hh
          simp [hh, this]
      rw [e, ← h2]
      cases o <;> rfl
theorem fle_iff {k c d} (hc : Fin k c) (hd : Fin k d) : fleB k c d = decide (cv k c ≤ cv k d) := by
  have h1 := fgt_iff hc hd
  have h2 := flt_iff hc hd
  cases c with
  | none => exact hc.elim
  | some a =>
    cases d with
    | none => exact hd.elim
    | some b =>
      unfold fleB
      unfold fgtB at h1
      unfold fltB at h2
      rw [ford_fin hc hd] at *
      generalize compare (Go.Proofs.YtclgplbikjmopaaGreatDoor.val k.format a) (Go.Proofs.YtclgplbikjmopaaGreatDoor.val k.format b) = o at *
      have e : decide (cv k (some a) ≤ cv k (some b)) = !decide (cv k (some b) < cv k (some a)) := by
        by_cases hh : cv k (some b) < cv k (some a)
        · have : ¬ cv k (some a) ≤ cv k (some b) := Rat.not_le.2 hh
          simp [hh, this]
        · have := Rat.not_lt.1 hh
          simp [hh, this]
      rw [e, ← h1]
      cases o <;> rfl

/-- A finite number less itself is nothing. -/
theorem fin_finC {c : Option Nat} (h : Fin .f32 c) : feqB .f32 (fop .sub .f32 c c) (some 0) = true := by
  obtain ⟨b, rfl, hb⟩ : ∃ b, c = some b ∧ Fin .f32 (some b) := by
    cases c with
    | none => exact h.elim
    | some b => exact ⟨b, rfl, h⟩
  obtain ⟨s, m, p, hr⟩ := fin_read hb
  have e : fop .sub .f32 (some b) (some b) = (Ieee.Datum.sum (.number s m p) (.number (!s) m p)).map FloatKind.f32.format.write := by
    show (Ieee.Datum.sum (FloatKind.f32.format.read b) (FloatKind.f32.format.read b).opposite).map _ = _
    rw [hr]
    rfl
  have h0 : Ieee.Datum.sum (.number s m p) (.number (!s) m p) = some (.number (s && !s) 0 (min p p)) := by
    simp only [Ieee.Datum.sum]
    have ht : Ieee.signed s m (p - min p p).toNat + Ieee.signed (!s) m (p - min p p).toNat = 0 := by
      unfold Ieee.signed
      cases s <;> simp <;> omega
    rw [ht]
    simp
  rw [e, h0]
  have h1 : (s && !s) = false := by cases s <;> rfl
  have h2 : (Option.map FloatKind.f32.format.write (some (Ieee.Datum.number (s && !s) 0 (min p p)))) = some 0 := by
    rw [h1]
    show some (FloatKind.f32.format.nearest false 0 (min p p)) = some 0
    unfold Ieee.Format.nearest
    simp [Ieee.Format.word]
  rw [h2]
  decide +kernel
end Go.Proofs.YtclgplbikjmopaaGreatDoor
