/-
  FnCircles: what a logarithm costs. (printed by gen_tc.py)
-/
import Derived.Test.YtlllekaiickkoaaTb
namespace Go.Proofs.Ytlllekaiickkoaa
open Go.RowKit

/-- One step of the sum. -/
theorem sum_step {u n q k ak k' : Nat} (hu : F u) (hU : Ab (rvd u) (1 / 20)) (hq : F q) (hQ : Ab (rvd q) 2) (hk : geW k w1 = true) (hak : quoW w1 k = some ak) (fak : F ak) (hA : Ab (rvd ak) 1) (hk' : subW k w2 = some k') :
    ∃ q', logSum u (n + 1) q k = logSum u n q' k' ∧ F q' ∧ Near (rvd q') (rvd ak + rvd u * rvd q) (2 * eta) := by
  have hm := Ab.mul hU hQ
  obtain ⟨m, hm1, hm2, hm3⟩ := mul1 hu hq ⟨by have := hm.le; grind, by have := hm.ge; grind⟩
  obtain ⟨m1, m2⟩ := hm
  obtain ⟨m3, m4⟩ := hm3
  obtain ⟨a1, a2⟩ := hA
  obtain ⟨r, hr1, hr2, hr3, hr4⟩ := add1 fak hm2 ⟨by grind, by grind⟩
  refine ⟨r, ?_, hr2, by grind, by grind⟩
  rw [logSum, hk]
  simp only [if_true]
  rw [hak, bw_of, hm1, bw_of, hr1, bw_of, hk', bw_of]
/-- A step whose value stays small. -/
theorem sum_small {u n q k ak k' : Nat} (hu : F u) (hU : Ab (rvd u) (1 / 20)) (hU0 : -eta ≤ rvd u) (hq : F q) (hQ0 : 0 ≤ rvd q) (hQ : rvd q ≤ 3 / 10) (hk : geW k w1 = true) (hak : quoW w1 k = some ak) (fak : F ak) (hA0 : 1 / 26 ≤ rvd ak) (hA : rvd ak ≤ 21 / 100) (hk' : subW k w2 = some k') :
    ∃ q', logSum u (n + 1) q k = logSum u n q' k' ∧ F q' ∧ 0 ≤ rvd q' ∧ rvd q' ≤ 3 / 10 := by
  obtain ⟨r, h1, h2, h3, h4⟩ := sum_step (n := n) hu hU hq ⟨by grind, by grind⟩ hk hak fak ⟨by grind, by grind⟩ hk'
  have g1 := Rat.mul_le_mul_of_nonneg_right hU.le hQ0
  have g2 := Rat.mul_le_mul_of_nonneg_right hU0 hQ0
  exact ⟨r, h1, h2, by grind, by grind⟩
def inB (x : Nat) (lo hi : Rat) : Bool := decide (rung FloatKind.f64.format x < FloatKind.f64.format.infRung) && decide (lo ≤ rv .f64 x) && decide (rv .f64 x ≤ hi)
theorem inB_in {x : Nat} {lo hi : Rat} (h : inB x lo hi = true) : F x ∧ lo ≤ rvd x ∧ rvd x ≤ hi := by
  unfold inB at h
  simp only [Bool.and_eq_true, decide_eq_true_eq] at h
  exact ⟨h.1.1, h.1.2, h.2⟩
theorem aThird : F 4599676419421066581 ∧ 1 / 3 - eta ≤ rvd 4599676419421066581 ∧ rvd 4599676419421066581 ≤ 1 / 3 + eta := inB_in (by decide +kernel)
theorem lnTwo : F 4604418534313441775 ∧ 693147 / 1000000 ≤ rvd 4604418534313441775 ∧ rvd 4604418534313441775 ≤ 693148 / 1000000 := inB_in (by decide +kernel)
theorem sum_all {u : Nat} (hu : F u) (hU : Ab (rvd u) (1 / 20)) (hU0 : -eta ≤ rvd u) : ∃ q r : Nat, logSum u 14 0 w25 = some q ∧ F q ∧ Near (rvd q) (1 + rvd u * rvd r) (3 * eta) ∧ Near (rvd r) (1 / 3) (16 / 1000) := by
  have z0 : F 0 := ex0.fin
  have z1 : rvd 0 = 0 := by rw [exV ex0]; decide +kernel
  obtain ⟨b1, x1, y1⟩ := inB_in (x := 4585925428558828667) (lo := 1 / 26) (hi := 21 / 100) (by decide +kernel)
  obtain ⟨q1, e1, f1, l1, g1⟩ := sum_small (n := 13) (q := 0) (k := 4627730092099895296) (ak := 4585925428558828667) (k' := 4627167142146473984) hu hU hU0 z0 (by rw [z1]; decide +kernel) (by rw [z1]; decide +kernel) (by decide +kernel) (by decide +kernel) b1 x1 y1 (by decide +kernel)
  obtain ⟨b2, x2, y2⟩ := inB_in (x := 4586426698778222948) (lo := 1 / 26) (hi := 21 / 100) (by decide +kernel)
  obtain ⟨q2, e2, f2, l2, g2⟩ := sum_small (n := 12) (q := q1) (k := 4627167142146473984) (ak := 4586426698778222948) (k' := 4626604192193052672) hu hU hU0 f1 l1 g1 (by decide +kernel) (by decide +kernel) b2 x2 y2 (by decide +kernel)
  obtain ⟨b3, x3, y3⟩ := inB_in (x := 4587023449039406616) (lo := 1 / 26) (hi := 21 / 100) (by decide +kernel)
  obtain ⟨q3, e3, f3, l3, g3⟩ := sum_small (n := 11) (q := q2) (k := 4626604192193052672) (ak := 4587023449039406616) (k' := 4626041242239631360) hu hU hU0 f2 l2 g2 (by decide +kernel) (by decide +kernel) b3 x3 y3 (by decide +kernel)
  obtain ⟨b4, x4, y4⟩ := inB_in (x := 4587745830934523688) (lo := 1 / 26) (hi := 21 / 100) (by decide +kernel)
  obtain ⟨q4, e4, f4, l4, g4⟩ := sum_small (n := 10) (q := q3) (k := 4626041242239631360) (ak := 4587745830934523688) (k' := 4625478292286210048) hu hU hU0 f3 l3 g3 (by decide +kernel) (by decide +kernel) b4 x4 y4 (by decide +kernel)
  obtain ⟨b5, x5, y5⟩ := inB_in (x := 4588638185040256542) (lo := 1 / 26) (hi := 21 / 100) (by decide +kernel)
  obtain ⟨q5, e5, f5, l5, g5⟩ := sum_small (n := 9) (q := q4) (k := 4625478292286210048) (ak := 4588638185040256542) (k' := 4624633867356078080) hu hU hU0 f4 l4 g4 (by decide +kernel) (by decide +kernel) b5 x5 y5 (by decide +kernel)
  obtain ⟨b6, x6, y6⟩ := inB_in (x := 4589468260265693457) (lo := 1 / 26) (hi := 21 / 100) (by decide +kernel)
  obtain ⟨q6, e6, f6, l6, g6⟩ := sum_small (n := 8) (q := q5) (k := 4624633867356078080) (ak := 4589468260265693457) (k' := 4623507967449235456) hu hU hU0 f5 l5 g5 (by decide +kernel) (by decide +kernel) b6 x6 y6 (by decide +kernel)
  obtain ⟨b7, x7, y7⟩ := inB_in (x := 4590207312512236308) (lo := 1 / 26) (hi := 21 / 100) (by decide +kernel)
  obtain ⟨q7, e7, f7, l7, g7⟩ := sum_small (n := 7) (q := q6) (k := 4623507967449235456) (ak := 4590207312512236308) (k' := 4622382067542392832) hu hU hU0 f6 l6 g6 (by decide +kernel) (by decide +kernel) b7 x7 y7 (by decide +kernel)
  obtain ⟨b8, x8, y8⟩ := inB_in (x := 4591215111030249286) (lo := 1 / 26) (hi := 21 / 100) (by decide +kernel)
  obtain ⟨q8, e8, f8, l8, g8⟩ := sum_small (n := 6) (q := q7) (k := 4622382067542392832) (ak := 4591215111030249286) (k' := 4621256167635550208) hu hU hU0 f7 l7 g7 (by decide +kernel) (by decide +kernel) b8 x8 y8 (by decide +kernel)
  obtain ⟨b9, x9, y9⟩ := inB_in (x := 4592670820000712476) (lo := 1 / 26) (hi := 21 / 100) (by decide +kernel)
  obtain ⟨q9, e9, f9, l9, g9⟩ := sum_small (n := 5) (q := q8) (k := 4621256167635550208) (ak := 4592670820000712476) (k' := 4619567317775286272) hu hU hU0 f8 l8 g8 (by decide +kernel) (by decide +kernel) b9 x9 y9 (by decide +kernel)
  obtain ⟨b10, x10, y10⟩ := inB_in (x := 4594314991293244562) (lo := 1 / 26) (hi := 21 / 100) (by decide +kernel)
  obtain ⟨q10, e10, f10, l10, g10⟩ := sum_small (n := 4) (q := q9) (k := 4619567317775286272) (ak := 4594314991293244562) (k' := 4617315517961601024) hu hU hU0 f9 l9 g9 (by decide +kernel) (by decide +kernel) b10 x10 y10 (by decide +kernel)
  obtain ⟨b11, x11, y11⟩ := inB_in (x := 4596373779694328218) (lo := 1 / 26) (hi := 21 / 100) (by decide +kernel)
  obtain ⟨q11, e11, f11, l11, g11⟩ := sum_small (n := 3) (q := q10) (k := 4617315517961601024) (ak := 4596373779694328218) (k' := 4613937818241073152) hu hU hU0 f10 l10 g10 (by decide +kernel) (by decide +kernel) b11 x11 y11 (by decide +kernel)
  obtain ⟨t0, t1, t2⟩ := aThird
  obtain ⟨q12, e12, f12, l12, g12⟩ := sum_step (n := 2) (q := q11) (k := 4613937818241073152) (ak := 4599676419421066581) (k' := 4607182418800017408) hu hU f11 ⟨by grind, by grind⟩ (by decide +kernel) (by decide +kernel) t0 ⟨by grind, by grind⟩ (by decide +kernel)
  have hUQ := Rat.mul_le_mul_of_nonneg_right hU.le l11
  have hUQ' := Rat.mul_le_mul_of_nonneg_right hU.ge l11
  have o1 : rvd w1 = 1 := by rw [exV ex1]; decide +kernel
  obtain ⟨q13, e13, f13, l13, g13⟩ := sum_step (n := 1) (q := q12) (k := 4607182418800017408) (ak := 4607182418800017408) (k' := 13830554455654793216) hu hU f12 ⟨by grind, by grind⟩ (by decide +kernel) (by decide +kernel) (exF ex1) ⟨by rw [o1]; decide, by rw [o1]; decide⟩ (by decide +kernel)
  refine ⟨q13, q12, ?_, f13, ⟨by rw [o1] at l13; grind, by rw [o1] at g13; grind⟩, by grind, by grind⟩
  have last : logSum u 1 q13 13830554455654793216 = some q13 := by
    rw [logSum, show geW 13830554455654793216 w1 = false by decide +kernel]
    rfl
  rw [show w25 = 4627730092099895296 from rfl, e1, e2, e3, e4, e5, e6, e7, e8, e9, e10, e11, e12, e13, last]

/-- The arithmetic behind the sum. -/
theorem poly {S S0 U Q3 Q1 : Rat} (hS : Ab S (201 / 1000)) (h0 : Ab S0 (1 / 5)) (hd : Ab (S - S0) eta) (hU : Ab (U - S * S) eta) (h3 : Ab (Q3 - 1 / 3) (16 / 1000)) (h1 : Ab (Q1 - 1 - U * Q3) (3 * eta)) : Near (S * Q1) (S0 + S0 * S0 * S0 / 3) (15 / 100000) := by
  have d1 := Ab.mul hS h1
  have d2 := Ab.mul (Ab.mul hS (Ab.mul hS hS)) h3
  have h3' : Ab Q3 1 := by obtain ⟨a, b⟩ := h3; exact ⟨by grind, by grind⟩
  have d3 := Ab.mul (Ab.mul hS hU) h3'
  have hq : Ab (S * S + S * S0 + S0 * S0) (1 / 5) := by
    obtain ⟨a1, a2⟩ := Ab.mul hS hS
    obtain ⟨b1, b2⟩ := Ab.mul hS h0
    obtain ⟨c1, c2⟩ := Ab.mul h0 h0
    exact ⟨by grind, by grind⟩
  have d4 := Ab.mul hd hq
  have id : S * Q1 = S0 + S0 * S0 * S0 / 3 + (S - S0) + S * (Q1 - 1 - U * Q3) + S * (S * S) * (Q3 - 1 / 3) + S * (U - S * S) * Q3 + (S - S0) * (S * S + S * S0 + S0 * S0) / 3 := by grind
  obtain ⟨a1, a2⟩ := d1
  obtain ⟨b1, b2⟩ := d2
  obtain ⟨c1, c2⟩ := d3
  obtain ⟨e1, e2⟩ := d4
  obtain ⟨f1, f2⟩ := hd
  generalize S * (Q1 - 1 - U * Q3) = A at *
  generalize S * (S * S) * (Q3 - 1 / 3) = B at *
  generalize S * (U - S * S) * Q3 = C at *
  generalize (S - S0) * (S * S + S * S0 + S0 * S0) = D at *
  generalize S0 * S0 * S0 = T at *
  generalize S * Q1 = X at *
  constructor <;> grind
end Go.Proofs.Ytlllekaiickkoaa
