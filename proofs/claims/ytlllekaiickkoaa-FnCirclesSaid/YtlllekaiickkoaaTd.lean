/-
  FnCircles: a logarithm is near to its polynomial; floors of words.
-/
import Derived.Test.YtlllekaiickkoaaTc
namespace Go.Proofs.Ytlllekaiickkoaa
open Go.RowKit

abbrev cw : Rat := rvd 4604418534313441775
/-- The angle's tangent, so to say: (f - 1) / (f + 1). -/
def s0R (K b : Nat) : Rat := ((K : Rat) - ((2 ^ b : Nat) : Rat)) / ((K : Rat) + ((2 ^ b : Nat) : Rat))
def Gr (K b : Nat) : Rat := 2 * (s0R K b + s0R K b * s0R K b * s0R K b / 3) + ((b : Rat) - 6) * cw
theorem s0R_ab {K b : Nat} (h1 : 2 * K < 3 * 2 ^ b) (h2 : 3 * 2 ^ b ≤ 4 * K) : s0R K b * ((K : Rat) + ((2 ^ b : Nat) : Rat)) = (K : Rat) - ((2 ^ b : Nat) : Rat) ∧ Ab (s0R K b) (1 / 5) := by
  have hB := natPow_pos b
  have r1 : ((2 * K : Nat) : Rat) ≤ ((3 * 2 ^ b : Nat) : Rat) := by exact_mod_cast Nat.le_of_lt h1
  have r2 : ((3 * 2 ^ b : Nat) : Rat) ≤ ((4 * K : Nat) : Rat) := by exact_mod_cast h2
  rw [Rat.natCast_mul, Rat.natCast_mul] at r1 r2
  have r1 : (2 : Rat) * (K : Rat) ≤ (3 : Rat) * ((2 ^ b : Nat) : Rat) := r1
  have r2 : (3 : Rat) * ((2 ^ b : Nat) : Rat) ≤ (4 : Rat) * (K : Rat) := r2
  unfold s0R
  generalize ((2 ^ b : Nat) : Rat) = B at *
  generalize (K : Rat) = k at *
  have hs : 0 < k + B := by grind
  have e : (k - B) / (k + B) * (k + B) = k - B := Rat.div_mul_cancel (by grind)
  refine ⟨e, ?_, ?_⟩
  · exact Rat.le_of_mul_le_mul_right (c := k + B) (by rw [e]; grind) hs
  · exact Rat.le_of_mul_le_mul_right (c := k + B) (by rw [e]; grind) hs
theorem int_lt24 {K b : Nat} (hK : K ≤ 100000) (h2 : 3 * 2 ^ b ≤ 4 * K) : b ≤ 17 ∧ 2 ^ b ≤ 200000 := by
  refine ⟨?_, by omega⟩
  apply Classical.byContradiction
  intro hc
  have : 2 ^ 18 ≤ 2 ^ b := Nat.pow_le_pow_right (by decide) (by omega)
  omega
theorem log_near {x K : Nat} (h0 : 1 ≤ K) (hK : K ≤ 100000) (hx : Ex' .f64 (some x) (K : Int) (-6)) : ∃ l b : Nat, logW x = some l ∧ F l ∧ 2 * K < 3 * 2 ^ b ∧ 3 * 2 ^ b ≤ 4 * K ∧ Near (rvd l) (Gr K b) (4 / 10000) := by
  obtain ⟨x1, e1, x2, e2, b, u1, u2, u3, u4, u5, u6⟩ := reduce h0 hK hx
  obtain ⟨hb17, hb24⟩ := int_lt24 hK u6
  have w1b := ex1.finer b
  have hz : (1 : Int) * 2 ^ b = ((2 ^ b : Nat) : Int) := by rw [Int.one_mul]; exact (Int.natCast_pow 2 b).symm
  have hz0 : (0 : Int) - (b : Int) = -(b : Int) := by omega
  rw [hz, hz0] at w1b
  have ha := u3.sub w1b (by omega) (by omega) (by omega)
  have hc := u3.add w1b (by omega) (by omega) (by omega)
  obtain ⟨a, ea⟩ := fin_some ha.fin
  obtain ⟨c, ec⟩ := fin_some hc.fin
  rw [ea] at ha
  rw [ec] at hc
  have va := exV ha
  have vc := exV hc
  rw [Rat.intCast_sub, Rat.intCast_natCast, Rat.intCast_natCast] at va
  rw [Rat.intCast_add, Rat.intCast_natCast, Rat.intCast_natCast] at vc
  obtain ⟨s1, s2⟩ := s0R_ab u5 u6
  have hB := natPow_pos b
  have hk : (0 : Rat) ≤ (K : Rat) := by exact_mod_cast Nat.zero_le K
  have hP := p2_pos (-(b : Int))
  have hne : rvd c ≠ 0 := by
    rw [vc]
    have := Rat.mul_pos (show 0 < (K : Rat) + ((2 ^ b : Nat) : Rat) by grind) hP
    grind
  have hq : rvd a / rvd c = s0R K b := by
    have h1 : rvd a / rvd c * rvd c = rvd a := Rat.div_mul_cancel hne
    refine mul_cancel (c := rvd c) (by rw [vc]; exact Rat.mul_pos (by grind) hP) ?_
    rw [h1, va, vc, ← Rat.mul_assoc, s1]
  obtain ⟨s2a, s2b⟩ := s2
  obtain ⟨s, es, fs, ns⟩ := quo1 (exF ha) (exF hc) hne ⟨by rw [hq]; grind, by rw [hq]; grind⟩
  rw [hq] at ns
  obtain ⟨n1, n2⟩ := ns
  have hS : Ab (rvd s) (201 / 1000) := ⟨by grind, by grind⟩
  obtain ⟨ss1, ss2⟩ := Ab.mul hS hS
  have ss0 : 0 ≤ rvd s * rvd s := by
    rcases Rat.le_total (a := 0) (b := rvd s) with h | h
    · exact Rat.mul_nonneg h h
    · have := Rat.mul_nonneg (a := -rvd s) (b := -rvd s) (by grind) (by grind)
      grind
  obtain ⟨u, eu, fu, nu1, nu2⟩ := mul1 fs fs ⟨by grind, by grind⟩
  obtain ⟨q, r, eq, fq, ⟨q1, q2⟩, ⟨r1, r2⟩⟩ := sum_all fu ⟨by grind, by grind⟩ (by grind)
  obtain ⟨p1, p2'⟩ := poly (S := rvd s) (S0 := s0R K b) (U := rvd u) (Q3 := rvd r) (Q1 := rvd q) hS ⟨s2a, s2b⟩ ⟨by grind, by grind⟩ ⟨by grind, by grind⟩ ⟨by grind, by grind⟩ ⟨by grind, by grind⟩
  have s3 : Ab (s0R K b * s0R K b * s0R K b) 1 := by
    have := Ab.mul (Ab.mul (⟨s2a, s2b⟩ : Ab (s0R K b) (1 / 5)) ⟨s2a, s2b⟩) ⟨s2a, s2b⟩
    exact ⟨by have := this.le; grind, by have := this.ge; grind⟩
  obtain ⟨s31, s32⟩ := s3
  obtain ⟨m, em, fm, nm1, nm2⟩ := mul1 fs fq ⟨by grind, by grind⟩
  have v2 : rvd w2 = 2 := by rw [exV ex2]; decide +kernel
  obtain ⟨n, en, fn, nn1, nn2⟩ := mul1 (exF ex2) fm ⟨by rw [v2]; grind, by rw [v2]; grind⟩
  rw [v2] at nn1 nn2
  have ve : rvd e2 = (b : Rat) - 6 := by
    rw [exV u4, Rat.intCast_sub, Rat.intCast_natCast]
    have : p2 0 = 1 := by decide +kernel
    rw [this, Rat.mul_one]
    rfl
  have hb0 : (0 : Rat) ≤ (b : Rat) := by exact_mod_cast Nat.zero_le b
  have hb1 : (b : Rat) ≤ 17 := by
    have : ((b : Nat) : Rat) ≤ ((17 : Nat) : Rat) := by exact_mod_cast hb17
    exact this
  obtain ⟨fl, l1, l2⟩ := lnTwo
  obtain ⟨c1, c2⟩ := Ab.mul (show Ab ((b : Rat) - 6) 20 from ⟨by grind, by grind⟩) (show Ab cw 1 from ⟨by grind, by grind⟩)
  obtain ⟨o, eo, fo, no1, no2⟩ := mul1 (exF u4) fl ⟨by rw [ve]; grind, by rw [ve]; grind⟩
  rw [ve] at no1 no2
  obtain ⟨l, el, fl', nl1, nl2⟩ := add1 fn fo ⟨by grind, by grind⟩
  refine ⟨l, b, ?_, fl', u5, u6, ?_, ?_⟩
  · unfold logW
    rw [u1, bw2_of, u2, bw2_of, subF_fin (exF u3) (exF ex1), ea, bw_of, addF_fin (exF u3) (exF ex1), ec, bw_of, es, bw_of, eu, bw_of, eq, bw_of, em, bw_of, en, bw_of, eo, bw_of, el]
  · unfold Gr
    generalize ((b : Rat) - 6) * cw = EC at *
    generalize s0R K b * s0R K b * s0R K b = T at *
    grind
  · unfold Gr
    generalize ((b : Rat) - 6) * cw = EC at *
    generalize s0R K b * s0R K b * s0R K b = T at *
    grind

/-! ## floors -/
theorem cut_down (s : Bool) (n drop : Nat) : if s then n ≤ Ieee.Toward.cut .down s n drop * 2 ^ drop ∧ Ieee.Toward.cut .down s n drop * 2 ^ drop < n + 2 ^ drop else Ieee.Toward.cut .down s n drop * 2 ^ drop ≤ n ∧ n < Ieee.Toward.cut .down s n drop * 2 ^ drop + 2 ^ drop := by
  unfold Ieee.Toward.cut
  dsimp only
  rw [Nat.one_shiftLeft]
  have hg := Nat.two_pow_pos drop
  by_cases hd : drop ≤ n.log2 + 2
  · rw [Nat.min_eq_left hd]
    have h1 := Nat.div_add_mod n (2 ^ drop)
    have h2 := Nat.mod_lt n hg
    have h3 : 2 ^ drop * (n / 2 ^ drop) = n / 2 ^ drop * 2 ^ drop := Nat.mul_comm _ _
    have h4 : (n / 2 ^ drop + 1) * 2 ^ drop = n / 2 ^ drop * 2 ^ drop + 2 ^ drop := Nat.succ_mul _ _
    cases s
    · simp only [Bool.false_and, Bool.toNat_false, Nat.add_zero, Bool.false_eq_true, if_false]
      omega
    · simp only [Bool.true_and, if_true]
      by_cases hr : n % 2 ^ drop = 0
      · rw [hr]
        simp only [bne_self_eq_false, Bool.toNat_false, Nat.add_zero]
        omega
      · have : (n % 2 ^ drop != 0) = true := by simp [hr]
        rw [this]
        simp only [Bool.toNat_true, h4]
        omega
  · rw [Nat.min_eq_right (by omega)]
    have h5 : n < 2 ^ (n.log2 + 2) := by
      have : n < 2 ^ (n.log2 + 1) := Nat.lt_log2_self
      have h6 : 2 ^ (n.log2 + 2) = 2 ^ (n.log2 + 1) * 2 := Nat.pow_succ ..
      omega
    have h7 : 2 ^ (n.log2 + 2) ≤ 2 ^ drop := Nat.pow_le_pow_right (by decide) (by omega)
    rw [Nat.div_eq_of_lt h5, Nat.mod_eq_of_lt h5]
    cases s
    · simp only [Bool.false_and, Bool.toNat_false, Nat.add_zero, Nat.zero_mul, Bool.false_eq_true, if_false]
      omega
    · simp only [Bool.true_and, if_true]
      by_cases hr : n = 0
      · subst hr
        simp
        exact hg
      · have : (n != 0) = true := by simp [hr]
        rw [this]
        simp only [Bool.toNat_true, Nat.zero_add, Nat.one_mul]
        omega
theorem cut_zero (s : Bool) (N drop : Nat) : Ieee.Toward.cut .zero s (N * 2 ^ drop) drop = N := by
  unfold Ieee.Toward.cut
  dsimp only
  rw [Nat.one_shiftLeft]
  simp only [Bool.toNat_false, Nat.add_zero]
  by_cases h0 : N = 0
  · subst h0
    simp
  · have h1 : 2 ^ drop ≤ N * 2 ^ drop := Nat.le_mul_of_pos_left _ (by omega)
    have h2 : N * 2 ^ drop ≠ 0 := by have := Nat.two_pow_pos drop; omega
    have h3 : drop ≤ (N * 2 ^ drop).log2 := by
      rw [Nat.le_log2 h2]
      exact h1
    rw [Nat.min_eq_left (by omega), Nat.mul_div_cancel _ (Nat.two_pow_pos drop)]
end Go.Proofs.Ytlllekaiickkoaa
