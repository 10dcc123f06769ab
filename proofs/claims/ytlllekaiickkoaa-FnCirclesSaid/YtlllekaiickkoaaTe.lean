/-
  FnCircles: the tenths of a power, within bounds.
-/
import Derived.Test.YtlllekaiickkoaaTd
namespace Go.Proofs.Ytlllekaiickkoaa
open Go.RowKit

theorem shift_val (m : Nat) (p : Int) : (m : Rat) * p2 p = ((m <<< p.toNat : Nat) : Rat) * p2 (-(((-p).toNat : Nat) : Int)) := by
  rw [Nat.shiftLeft_eq, Rat.natCast_mul, ← p2_nat, Rat.mul_assoc, ← p2_add]
  congr 2
  omega
theorem p20 : p2 0 = 1 := by decide +kernel
theorem whole {r : Nat} {N : Int} (hr : Ex' .f64 (some r) N 0) (hN : N.natAbs < 2 ^ 24) : i64W r = some N := by
  obtain ⟨s, m, p, hd⟩ := fin_read hr.fin
  have hv : dv (.number s m p) = (N : Rat) * p2 0 := by
    have := hr.val
    show _ = _
    rw [← this]
    show _ = dv (FloatKind.f64.format.read r)
    rw [hd]
  have hm := exact_mag hv
  rw [p20, Rat.mul_one, shift_val m p] at hm
  have hn : m <<< p.toNat = N.natAbs * 2 ^ (-p).toNat := by
    have h1 := p2_inv (-p).toNat
    have h2 : ((m <<< p.toNat : Nat) : Rat) = ((N.natAbs * 2 ^ (-p).toNat : Nat) : Rat) := by
      rw [Rat.natCast_mul, ← hm, Rat.mul_assoc, h1, Rat.mul_one]
    exact_mod_cast h2
  have hs : Ieee.signed s N.natAbs 0 = N := by
    have hv : sg s * ((m : Rat) * p2 p) = (N : Rat) * p2 0 := hv
    rw [p20, Rat.mul_one, shift_val m p, hm] at hv
    unfold Ieee.signed
    rw [Nat.shiftLeft_zero]
    cases s
    · simp only [sg, Bool.false_eq_true, if_false, Rat.one_mul] at hv ⊢
      rw [← Rat.intCast_natCast] at hv
      exact_mod_cast hv
    · simp only [sg, if_true] at hv ⊢
      rw [← Rat.intCast_natCast] at hv
      have hv : ((-((N.natAbs : Nat) : Int) : Int) : Rat) = (N : Rat) := by
        rw [Rat.intCast_neg]
        grind
      exact_mod_cast hv
  unfold i64W floatToIntVal
  have hd' : FloatKind.f64.decode r = .number s m p := hd
  rw [hd']
  have e : Ieee.Datum.toInt .zero (.number s m p) = some N := by
    simp only [Ieee.Datum.toInt, Ieee.Datum.integral]
    rw [hn, cut_zero, hs]
  rw [e]
  have hb : IntKind.i64.min ≤ N ∧ N ≤ IntKind.i64.max := by
    show -9223372036854775808 ≤ N ∧ N ≤ 9223372036854775807
    omega
  simp only [if_pos hb]
theorem floor_word {z : Nat} (hz : F z) (h : Ab (rvd z) 1000000) : ∃ i : Int, i64W (floorW z) = some i ∧ (i : Rat) ≤ rvd z ∧ rvd z < (i : Rat) + 1 := by
  obtain ⟨s, m, p, hd⟩ := fin_read hz
  have hv : rvd z = sg s * ((m : Rat) * p2 p) := by
    show dv (FloatKind.f64.format.read z) = _
    rw [hd]
    rfl
  rw [shift_val m p] at hv
  have hc := cut_down s (m <<< p.toNat) (-p).toNat
  have e : floorW z = FloatKind.f64.format.write (.number s (Ieee.Toward.cut .down s (m <<< p.toNat) (-p).toNat) 0) := by
    unfold floorW
    have hd' : FloatKind.f64.decode z = .number s m p := hd
    rw [hd']
    rfl
  rw [e]
  generalize m <<< p.toNat = n at *
  generalize (-p).toNat = d at *
  generalize Ieee.Toward.cut .down s n d = L at *
  have hP := p2_pos (-(d : Int))
  have hB := natPow_pos d
  have hPB := p2_inv d
  generalize p2 (-(d : Int)) = P at *
  obtain ⟨a1, a2⟩ := h
  rw [hv] at a1 a2 ⊢
  have key : ∀ N : Int, sg s * (L : Rat) = (N : Rat) → (N : Rat) ≤ sg s * ((n : Rat) * P) → sg s * ((n : Rat) * P) < (N : Rat) + 1 → ∃ i : Int, i64W (FloatKind.f64.format.write (.number s L 0)) = some i ∧ (i : Rat) ≤ sg s * ((n : Rat) * P) ∧ sg s * ((n : Rat) * P) < (i : Rat) + 1 := by
    intro N h1 h2 h3
    have hNl : N ≤ 1000000 := by
      have : (N : Rat) ≤ ((1000000 : Int) : Rat) := by show (N : Rat) ≤ (1000000 : Rat); grind
      exact Rat.intCast_le_intCast.1 this
    have hNg : -1000001 < N := by
      have : ((-1000001 : Int) : Rat) < (N : Rat) := by show (-1000001 : Rat) < (N : Rat); grind
      exact Rat.intCast_lt_intCast.1 this
    have hx := write_ex (k := .f64) (s := s) (m := L) (p := 0) (j := N) (q := 0) (by show sg s * ((L : Rat) * p2 0) = _; rw [p20, Rat.mul_one, Rat.mul_one]; exact h1) (by omega) (by omega) (by omega)
    exact ⟨N, whole hx (by omega), h2, h3⟩
  cases s
  · simp only [Bool.false_eq_true, if_false] at hc
    obtain ⟨c1, c2⟩ := hc
    have d1 : (L : Rat) ≤ (n : Rat) * P := (inv_le hP hB hPB).2 (by rw [← Rat.natCast_mul]; exact_mod_cast c1)
    have d2 : (n : Rat) * P < (L : Rat) + 1 := by
      rw [← Rat.not_le, inv_le hP hB hPB, Rat.not_le]
      have : ((n : Nat) : Rat) < ((L * 2 ^ d + 2 ^ d : Nat) : Rat) := by exact_mod_cast c2
      rw [Rat.natCast_add, Rat.natCast_mul] at this
      grind
    refine key (L : Int) (by rw [Rat.intCast_natCast]; simp only [sg, Bool.false_eq_true, if_false]; grind) ?_ ?_
    · rw [Rat.intCast_natCast]; simp only [sg, Bool.false_eq_true, if_false]; grind
    · rw [Rat.intCast_natCast]; simp only [sg, Bool.false_eq_true, if_false]; grind
  · simp only [if_true] at hc
    obtain ⟨c1, c2⟩ := hc
    have d1 : (n : Rat) * P ≤ (L : Rat) := by
      have h1 : ((n : Nat) : Rat) ≤ ((L * 2 ^ d : Nat) : Rat) := by exact_mod_cast c1
      rw [Rat.natCast_mul] at h1
      have h2 := Rat.mul_le_mul_of_nonneg_right h1 (Rat.le_of_lt hP)
      have e : (L : Rat) * ((2 ^ d : Nat) : Rat) * P = (L : Rat) := by rw [Rat.mul_assoc, Rat.mul_comm ((2 ^ d : Nat) : Rat) P, hPB, Rat.mul_one]
      rw [e] at h2
      exact h2
    have d2 : (L : Rat) - 1 < (n : Rat) * P := by
      rw [← Rat.not_le]
      intro h1
      have h2 := Rat.mul_le_mul_of_nonneg_right h1 (Rat.le_of_lt hB)
      rw [Rat.mul_assoc, hPB, Rat.mul_one] at h2
      have : ((L * 2 ^ d : Nat) : Rat) < ((n + 2 ^ d : Nat) : Rat) := by exact_mod_cast c2
      rw [Rat.natCast_add, Rat.natCast_mul] at this
      grind
    refine key (-(L : Int)) (by rw [Rat.intCast_neg, Rat.intCast_natCast]; simp only [sg, if_true]; grind) ?_ ?_
    · rw [Rat.intCast_neg, Rat.intCast_natCast]; simp only [sg, if_true]; grind
    · rw [Rat.intCast_neg, Rat.intCast_natCast]; simp only [sg, if_true]; grind

abbrev Cw : Rat := rvd 4631308968768463603
theorem ten : F 4631308968768463603 ∧ 4342 / 100 ≤ Cw ∧ Cw ≤ 4343 / 100 := inB_in (by decide +kernel)
theorem half05 : F w05 ∧ 1 / 2 ≤ rvd w05 ∧ rvd w05 ≤ 1 / 2 := inB_in (by decide +kernel)
/-- What the tenths of K 64ths are. -/
theorem tenths_near {x K : Nat} (h0 : 1 ≤ K) (hK : K ≤ 100000) (hx : Ex' .f32 (some x) (K : Int) (-6)) : ∃ (i : Int) (b : Nat), tenthsW x = some i ∧ 2 * K < 3 * 2 ^ b ∧ 3 * 2 ^ b ≤ 4 * K ∧ (i : Rat) ≤ Gr K b * Cw + 1 / 2 + 2 / 100 ∧ Gr K b * Cw + 1 / 2 - 2 / 100 < (i : Rat) + 1 ∧ -1000000 ≤ i ∧ i ≤ 1000000 := by
  have hk : (0 : Rat) ≤ (K : Rat) := by exact_mod_cast Nat.zero_le K
  have hk1 : (K : Rat) ≤ 100000 := by
    have : ((K : Nat) : Rat) ≤ ((100000 : Nat) : Rat) := by exact_mod_cast hK
    exact this
  have hv : rv .f32 x = (K : Rat) * p2 (-6) := by have := hx.val; rw [Rat.intCast_natCast] at this; exact this
  have hp : p2 (-6) = 1 / 64 := by decide +kernel
  have hp126 : (100000 : Rat) ≤ p2 126 := by decide +kernel
  obtain ⟨w1', w2'⟩ := widen_val hx.fin ⟨by rw [hv, hp]; grind, by rw [hv, hp]; grind⟩
  obtain ⟨y, ey⟩ := fin_some w1'
  rw [ey] at w1' w2'
  have hy : Ex' .f64 (some y) (K : Int) (-6) := ⟨w1', by rw [w2', hv, Rat.intCast_natCast]⟩
  obtain ⟨l, b, el, fl, h1, h2, n1, n2⟩ := log_near h0 hK hy
  obtain ⟨hb17, _⟩ := int_lt24 hK h2
  obtain ⟨_, s1, s2⟩ := s0R_ab h1 h2
  have hb0 : (0 : Rat) ≤ (b : Rat) := by exact_mod_cast Nat.zero_le b
  have hb1 : (b : Rat) ≤ 17 := by
    have : ((b : Nat) : Rat) ≤ ((17 : Nat) : Rat) := by exact_mod_cast hb17
    exact this
  obtain ⟨_, l1, l2⟩ := lnTwo
  have hG : Ab (Gr K b) 20 := by
    have s3 := Ab.mul (Ab.mul (⟨s1, s2⟩ : Ab (s0R K b) (1 / 5)) ⟨s1, s2⟩) ⟨s1, s2⟩
    obtain ⟨c1, c2⟩ := Ab.mul (show Ab ((b : Rat) - 6) 11 from ⟨by grind, by grind⟩) (show Ab cw (7 / 10) from ⟨by grind, by grind⟩)
    obtain ⟨t1, t2⟩ := s3
    unfold Gr
    exact ⟨by grind, by grind⟩
  obtain ⟨g1, g2⟩ := hG
  obtain ⟨fc, c1, c2⟩ := ten
  obtain ⟨m1, m2⟩ := Ab.mul (show Ab (rvd l) 21 from ⟨by grind, by grind⟩) (show Ab Cw 44 from ⟨by grind, by grind⟩)
  obtain ⟨a, ea, fa, na1, na2⟩ := mul1 fl fc ⟨by grind, by grind⟩
  obtain ⟨fh, k1, k2⟩ := half05
  obtain ⟨z, ez, fz, nz1, nz2⟩ := add1 fa fh ⟨by grind, by grind⟩
  obtain ⟨i, ei, i1, i2⟩ := floor_word fz ⟨by grind, by grind⟩
  obtain ⟨d1, d2⟩ := Ab.mul (show Ab (rvd l - Gr K b) (4 / 10000) from ⟨by grind, by grind⟩) (show Ab Cw 44 from ⟨by grind, by grind⟩)
  refine ⟨i, b, ?_, h1, h2, ?_, ?_, ?_, ?_⟩
  · unfold tenthsW
    have ey : wid x = some y := ey
    rw [ey, bw_of, el, bw_of, ea, bw_of, ez, bw_of, ei]
  · grind
  · grind
  · have : ((-1000000 : Int) : Rat) ≤ (i : Rat) := by show (-1000000 : Rat) ≤ _; grind
    exact Rat.intCast_le_intCast.1 this
  · have : (i : Rat) ≤ ((1000000 : Int) : Rat) := by show _ ≤ (1000000 : Rat); grind
    exact Rat.intCast_le_intCast.1 this
end Go.Proofs.Ytlllekaiickkoaa
