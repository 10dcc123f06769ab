/-
  FnNumbers: a narrow number, widened and narrowed again, is the same; magnitudes of wide words (no program).
-/
import Derived.Test.YtclgplbikjmopaaGreatDoorDe
namespace Go.Proofs.YtclgplbikjmopaaGreatDoor
open Go.RowKit
set_option exponentiation.threshold 2048

theorem log_mul {M : Nat} (hM : M ≠ 0) (j : Nat) : (M * 2 ^ j).log2 = M.log2 + j := by
  have h : 2 ^ j ≤ M * 2 ^ j := Nat.le_mul_of_pos_left _ (Nat.pos_of_ne_zero hM)
  rw [lg_div h, Nat.mul_div_cancel _ (Nat.two_pow_pos j)]
theorem mag_parts (f : Ieee.Format) (R : Nat) : ∃ sig t, mag f R = sig * 2 ^ t ∧ t * f.binade + sig = R ∧ (t = 0 ∨ f.binade ≤ sig) ∧ sig < 2 * f.binade := by
  have hB := binade_pos f
  unfold mag
  by_cases h : R < f.binade
  · rw [if_pos h]
    exact ⟨R, 0, by simp, by simp, .inl rfl, by omega⟩
  · rw [if_neg h]
    refine ⟨f.binade + R % f.binade, R / f.binade - 1, rfl, ?_, .inr (by omega), by have := Nat.mod_lt R hB; omega⟩
    have e := Nat.div_add_mod R f.binade
    have h1 : 1 ≤ R / f.binade := Nat.div_pos (by omega) hB
    obtain ⟨q, hq⟩ : ∃ q, R / f.binade = q + 1 := ⟨R / f.binade - 1, by omega⟩
    rw [hq] at e ⊢
    rw [Nat.add_sub_cancel]
    rw [Nat.mul_add, Nat.mul_one, Nat.mul_comm] at e
    omega
/-- A number that a format holds is written as it is. -/
theorem exact_write (k : FloatKind) (s : Bool) (m : Nat) (p : Int) (R : Nat) (hR : R < k.format.infRung) (hv : m * 2 ^ (p - k.format.leastPlace).toNat = mag k.format R * 2 ^ (k.format.leastPlace - p).toNat) :
    k.format.write (.number s m p) = k.format.word s R := by
  show k.format.nearest s m p = _
  unfold Ieee.Format.nearest
  by_cases hm : m = 0
  · subst hm
    rw [if_pos rfl]
    have h0 : mag k.format R = 0 := by
      rw [Nat.zero_mul] at hv
      exact (Nat.mul_eq_zero.1 hv.symm).resolve_right (Nat.ne_of_gt (Nat.two_pow_pos _))
    have : R = 0 := by
      rcases Nat.eq_zero_or_pos R with h | h
      · exact h
      · have := mag_pos k.format h; omega
    rw [this]
  · rw [if_neg hm]
    dsimp only
    obtain ⟨sig, t, hM, hRt, hst, hsB⟩ := mag_parts k.format R
    have hM0 : mag k.format R ≠ 0 := by
      intro h
      rw [h, Nat.zero_mul] at hv
      rcases Nat.mul_eq_zero.1 hv with h | h
      · exact hm h
      · exact Nat.ne_of_gt (Nat.two_pow_pos _) h
    have hs0 : sig ≠ 0 := by rintro rfl; rw [Nat.zero_mul] at hM; exact hM0 hM
    have hlg : m.log2 + (p - k.format.leastPlace).toNat = sig.log2 + t + (k.format.leastPlace - p).toNat := by
      rw [← log_mul hm, hv, log_mul hM0, hM, log_mul hs0]
    have hb : k.format.binade = 2 ^ k.format.fractionBits := rfl
    have hl1 : sig.log2 ≤ k.format.fractionBits := by
      have := (Nat.log2_lt hs0 (k := k.format.fractionBits + 1)).2 (by rw [Nat.pow_succ, ← hb]; omega)
      omega
    have hl2 : t = 0 ∨ sig.log2 = k.format.fractionBits := by
      rcases hst with h | h
      · exact .inl h
      · right
        have := (Nat.le_log2 hs0 (k := k.format.fractionBits)).2 (by rw [← hb]; exact h)
        omega
    have hlast : max (p + (m.log2 : Nat) - (k.format.fractionBits : Nat)) k.format.leastPlace = k.format.leastPlace + t := by omega
    rw [hlast]
    have e1 : (k.format.leastPlace + (t : Int) - k.format.leastPlace).toNat = t := by omega
    rw [e1, Nat.shiftLeft_eq]
    have hcut : Ieee.Toward.cut .even s (m * 2 ^ (p - (k.format.leastPlace + (t : Int))).toNat) (k.format.leastPlace + (t : Int) - p).toNat = sig := by
      rw [hM, Nat.mul_assoc, ← Nat.pow_add] at hv
      rcases Int.le_total (k.format.leastPlace + (t : Int)) p with h | h
      · have e2 : (k.format.leastPlace + (t : Int) - p).toNat = 0 := by omega
        have e3 : (k.format.leastPlace - p).toNat = 0 := by omega
        have e4 : (p - k.format.leastPlace).toNat = (p - (k.format.leastPlace + (t : Int))).toNat + t := by omega
        rw [e3, e4, Nat.add_zero, Nat.pow_add, ← Nat.mul_assoc] at hv
        have hv := Nat.eq_of_mul_eq_mul_right (Nat.two_pow_pos t) hv
        rw [e2, hv]
        have := cut_exact s sig 0 hs0 (by simp [Nat.mod_one])
        simpa using this
      · have e2 : (p - (k.format.leastPlace + (t : Int))).toNat = 0 := by omega
        rw [e2, Nat.pow_zero, Nat.mul_one]
        have e3 : m = sig * 2 ^ (k.format.leastPlace + (t : Int) - p).toNat := by
          have e4 : t + (k.format.leastPlace - p).toNat = (k.format.leastPlace + (t : Int) - p).toNat + (p - k.format.leastPlace).toNat := by omega
          rw [e4, Nat.pow_add, ← Nat.mul_assoc] at hv
          exact Nat.eq_of_mul_eq_mul_right (Nat.two_pow_pos _) hv
        have := cut_exact s m (k.format.leastPlace + (t : Int) - p).toNat hm (by rw [e3]; exact Nat.mul_mod_left _ _)
        exact Nat.eq_of_mul_eq_mul_right (Nat.two_pow_pos _) (this.trans e3)
    rw [hcut, hRt, Nat.min_eq_left (Nat.le_of_lt hR)]

theorem wordlt (k : FloatKind) (s : Bool) (R : Nat) (h : R < k.format.infRung) : k.format.word s R < 2 ^ k.format.width ∧ rung k.format (k.format.word s R) = R ∧ sgn k.format (k.format.word s R) = s := by
  have hlt := Nat.lt_trans h k.format.infRung_lt
  refine ⟨?_, rung_word _ _ _ hlt, sgn_word _ _ _ hlt⟩
  rw [ww]
  unfold Ieee.Format.word
  cases s
  · simp; omega
  · simp; omega
/-- A number's word, widened. -/
theorem wide_ok {x : Nat} (h : Fin .f32 (some x)) : ∃ r, wid x = some r ∧ r < 2 ^ 64 ∧ F r ∧ sgn FloatKind.f64.format r = sgn FloatKind.f32.format x ∧ mag FloatKind.f64.format (rung FloatKind.f64.format r) = mag FloatKind.f32.format (rung FloatKind.f32.format x) * 2 ^ 925 := by
  obtain ⟨m, j, hr, hm, hj⟩ := read_fin FloatKind.f32.format x h
  have hB : FloatKind.f32.format.binade = 8388608 := by decide
  have hI : FloatKind.f32.format.infRung = 255 * 8388608 := by decide
  have hD : FloatKind.f64.format.binade = 4503599627370496 := by decide
  have hJ : FloatKind.f64.format.infRung = 2047 * 4503599627370496 := by decide
  have hL : FloatKind.f32.format.leastPlace = -149 := by decide
  have hM : FloatKind.f64.format.leastPlace = -1074 := by decide
  have hx : rung FloatKind.f32.format x < FloatKind.f32.format.infRung := h
  obtain ⟨sig, t, e1, e2, e3, e4⟩ := mag_parts FloatKind.f32.format (rung FloatKind.f32.format x)
  rw [hB] at e2 e3 e4
  rw [hI] at hx
  have ht : t ≤ 253 := by omega
  -- the wide rung
  obtain ⟨R, hR, hRm⟩ : ∃ R, R < FloatKind.f64.format.infRung ∧ mag FloatKind.f64.format R = sig * 2 ^ t * 2 ^ 925 := by
    by_cases hs : sig = 0
    · subst hs
      refine ⟨0, by decide, ?_⟩
      rw [Nat.zero_mul, Nat.zero_mul]
      rfl
    · have hl : sig.log2 ≤ 23 := by
        have := (Nat.log2_lt hs (k := 24)).2 (by omega)
        omega
      have h1 : 2 ^ sig.log2 ≤ sig := Nat.log2_self_le hs
      have h2 : sig < 2 ^ (sig.log2 + 1) := Nat.lt_log2_self
      have hk1 : 2 ^ 52 ≤ sig * 2 ^ (52 - sig.log2) := by
        have := Nat.mul_le_mul_right (2 ^ (52 - sig.log2)) h1
        rw [← Nat.pow_add, show sig.log2 + (52 - sig.log2) = 52 by omega] at this
        exact this
      have hk2 : sig * 2 ^ (52 - sig.log2) < 2 ^ 53 := by
        have := Nat.mul_lt_mul_of_pos_right h2 (Nat.two_pow_pos (52 - sig.log2))
        rw [← Nat.pow_add, show sig.log2 + 1 + (52 - sig.log2) = 53 by omega] at this
        exact this
      refine ⟨(t + 925 - (52 - sig.log2)) * FloatKind.f64.format.binade + sig * 2 ^ (52 - sig.log2), ?_, ?_⟩
      · rw [hD, hJ]
        have : t + 925 - (52 - sig.log2) ≤ 1178 := by omega
        have := Nat.mul_le_mul_right 4503599627370496 this
        omega
      · rw [mag_kept _ _ _ (by rw [hD]; omega) (.inr (by rw [hD]; omega)), Nat.mul_assoc, ← Nat.pow_add, Nat.mul_assoc, ← Nat.pow_add]
        congr 2
        omega
  have hw := exact_write .f64 (sgn FloatKind.f32.format x) m (FloatKind.f32.format.leastPlace + j) R hR (by
    rw [hRm, ← e1, ← hm, hL, hM, show (-149 + (j : Int) - -1074).toNat = j + 925 by omega, show (-1074 - (-149 + (j : Int))).toNat = 0 by omega, Nat.pow_zero, Nat.mul_one, Nat.mul_assoc, ← Nat.pow_add])
  obtain ⟨g1, g2, g3⟩ := wordlt .f64 (sgn FloatKind.f32.format x) R hR
  refine ⟨FloatKind.f64.format.word (sgn FloatKind.f32.format x) R, ?_, g1, by show rung _ _ < _; rw [g2]; exact hR, g3, by rw [g2, hRm, e1]⟩
  have hd : FloatKind.f32.decode x = .number (sgn FloatKind.f32.format x) m (FloatKind.f32.format.leastPlace + j) := hr
  show floatToFloatBits .f32 x .f64 = _
  unfold floatToFloatBits
  rw [if_neg (by decide)]
  simp only [hd]
  have he : FloatKind.f64.encode (.number (sgn FloatKind.f32.format x) m (FloatKind.f32.format.leastPlace + j)) = FloatKind.f64.format.word (sgn FloatKind.f32.format x) R := hw
  rw [he]
  have hni : (FloatKind.f64.decode (FloatKind.f64.format.word (sgn FloatKind.f32.format x) R)).isInfinity = false := by
    obtain ⟨_, _, hr', _⟩ := read_fin FloatKind.f64.format (FloatKind.f64.format.word (sgn FloatKind.f32.format x) R) (by rw [g2]; exact hR)
    show (FloatKind.f64.format.read _).isInfinity = false
    rw [hr']
    rfl
  rw [hni]
  rfl
/-- And narrowed again. -/
theorem narrow_back {x r : Nat} (h : Fin .f32 (some x)) (hx : x < 2 ^ 32) (hw : wid x = some r) : nar r = some x := by
  obtain ⟨r', e, h1, h2, h3, h4⟩ := wide_ok h
  obtain rfl : r = r' := Option.some.inj (hw.symm.trans e)
  obtain ⟨m, j, hr, hm, hj⟩ := read_fin FloatKind.f64.format r h2
  have hL : FloatKind.f32.format.leastPlace = -149 := by decide
  have hM : FloatKind.f64.format.leastPlace = -1074 := by decide
  have hx' : rung FloatKind.f32.format x < FloatKind.f32.format.infRung := h
  have hwr := exact_write .f32 (sgn FloatKind.f64.format r) m (FloatKind.f64.format.leastPlace + j) (rung FloatKind.f32.format x) hx' (by
    rw [hL, hM]
    rw [h4] at hm
    rcases Nat.le_total 925 j with hj9 | hj9
    · rw [show (-1074 + (j : Int) - -149).toNat = j - 925 by omega, show (-149 - (-1074 + (j : Int))).toNat = 0 by omega, Nat.pow_zero, Nat.mul_one]
      rw [show j = j - 925 + 925 by omega, Nat.pow_add, ← Nat.mul_assoc] at hm
      exact Nat.eq_of_mul_eq_mul_right (Nat.two_pow_pos 925) hm
    · rw [show (-1074 + (j : Int) - -149).toNat = 0 by omega, show (-149 - (-1074 + (j : Int))).toNat = 925 - j by omega, Nat.pow_zero, Nat.mul_one]
      rw [show (925 : Nat) = 925 - j + j by omega, Nat.pow_add, ← Nat.mul_assoc] at hm
      have := Nat.eq_of_mul_eq_mul_right (Nat.two_pow_pos j) hm
      exact this)
  obtain ⟨g1, g2, g3⟩ := wordlt .f32 (sgn FloatKind.f64.format r) (rung FloatKind.f32.format x) hx'
  have hxw : FloatKind.f32.format.word (sgn FloatKind.f64.format r) (rung FloatKind.f32.format x) = x := word_eq FloatKind.f32.format (ww .f32) g1 hx (by rw [g3, h3]) (by rw [g2])
  have hd : FloatKind.f64.decode r = .number (sgn FloatKind.f64.format r) m (FloatKind.f64.format.leastPlace + j) := hr
  show floatToFloatBits .f64 r .f32 = _
  unfold floatToFloatBits
  rw [if_neg (by decide)]
  simp only [hd]
  have he : FloatKind.f32.encode (.number (sgn FloatKind.f64.format r) m (FloatKind.f64.format.leastPlace + j)) = x := hwr.trans hxw
  rw [he]
  have hni : (FloatKind.f32.decode x).isInfinity = false := by
    obtain ⟨_, _, hr', _⟩ := read_fin FloatKind.f32.format x hx'
    show (FloatKind.f32.format.read _).isInfinity = false
    rw [hr']
    rfl
  rw [hni]
  rfl

/-! ## magnitudes of wide words -/
theorem andN_abs (x : Nat) : absW x = x % 2 ^ 63 := by
  have e : (BitVec.ofInt IntKind.u64.bits (x : Int) &&& ~~~ BitVec.ofInt IntKind.u64.bits 9223372036854775808) = BitVec.ofNat 64 (x % 2 ^ 63) := by
    show (BitVec.ofInt 64 (x : Int) &&& ~~~ BitVec.ofInt 64 9223372036854775808) = BitVec.ofNat 64 (x % 2 ^ 63)
    have e1 : BitVec.ofInt 64 (x : Int) = BitVec.ofNat 64 x := by simp
    have e2 : (BitVec.ofInt 64 9223372036854775808 : BitVec 64) = BitVec.twoPow 64 63 := by decide
    rw [e1, e2]
    apply BitVec.eq_of_getLsbD_eq
    intro i hi
    simp only [BitVec.getLsbD_and, BitVec.getLsbD_not, BitVec.getLsbD_ofNat, BitVec.getLsbD_twoPow, Nat.testBit_mod_two_pow, hi, decide_true, Bool.true_and]
    by_cases h63 : i = 63
    · subst h63; simp
    · have : i < 63 := by omega
      have h' : ¬ (63 = i) := fun h => h63 h.symm
      simp [this, h']
  have hlt : x % 2 ^ 63 < 2 ^ 63 := Nat.mod_lt _ (by decide)
  have e' : (BitVec.ofInt IntKind.u64.bits (x : Int) &&& ~~~ BitVec.ofInt IntKind.u64.bits 9223372036854775808).toNat = x % 2 ^ 63 := by
    rw [e]
    exact (BitVec.toNat_ofNat _ _).trans (Nat.mod_eq_of_lt (show x % 2 ^ 63 < 2 ^ 64 by omega))
  unfold absW andN
  rw [e', wrap_u64 (by omega) (by omega)]
  omega
theorem rvd_mag {x : Nat} (h : F x) : rvd x = sg (sgn FloatKind.f64.format x) * ((mag FloatKind.f64.format (rung FloatKind.f64.format x) : Rat) * p2 FloatKind.f64.format.leastPlace) := rv_fin .f64 x h
theorem abs_fin {x : Nat} (hF : F x) : ∃ a, absO x = some a ∧ absW x = a ∧ a < 2 ^ 64 ∧ F a ∧ 0 ≤ rvd a ∧ (mag FloatKind.f64.format (rung FloatKind.f64.format x) ≠ 0 → rvd a ≠ 0) := by
  have hS : FloatKind.f64.format.signWeight = 2 ^ 63 := rfl
  have ea := andN_abs x
  have hlt : x % 2 ^ 63 < 2 ^ 63 := Nat.mod_lt _ (by decide)
  have hr : rung FloatKind.f64.format (x % 2 ^ 63) = rung FloatKind.f64.format x := by unfold rung; rw [hS, Nat.mod_mod]
  have hs : sgn FloatKind.f64.format (x % 2 ^ 63) = false := by unfold sgn; rw [hS, Nat.div_eq_of_lt hlt]; rfl
  have hFa : F (x % 2 ^ 63) := by show rung _ _ < _; rw [hr]; exact hF
  have hv := rvd_mag hFa
  rw [hr, hs] at hv
  have hp := p2_pos FloatKind.f64.format.leastPlace
  refine ⟨x % 2 ^ 63, ?_, ea, by omega, hFa, ?_, ?_⟩
  · unfold absO
    rw [force_eq, ea]
    have : chk .f64 (x % 2 ^ 63) = true := by
      obtain ⟨s, m, p, hrd⟩ := fin_read hFa
      unfold chk
      rw [Bool.and_eq_true, decide_eq_true_eq]
      refine ⟨show x % 2 ^ 63 < 2 ^ 64 by omega, ?_⟩
      show (!(FloatKind.f64.format.read _).isNaN) = true
      rw [hrd]
      rfl
    rw [this]
    rfl
  · rw [hv]
    show 0 ≤ sg false * _
    simp only [sg, Bool.false_eq_true, if_false, Rat.one_mul]
    exact Rat.mul_nonneg Rat.natCast_nonneg (Rat.le_of_lt hp)
  · intro hm h0
    rw [hv] at h0
    have h0 : sg false * ((mag FloatKind.f64.format (rung FloatKind.f64.format x) : Rat) * p2 FloatKind.f64.format.leastPlace) = 0 := h0
    simp only [sg, Bool.false_eq_true, if_false, Rat.one_mul] at h0
    have := Rat.mul_pos (natPos hm) hp
    grind

/-! ## which numbers are finite, which are nothing -/
theorem f32_cases {x : Nat} (hx : x < 2 ^ 32) : cl .f32 x = none ∨ x = 2139095040 ∨ x = 4286578688 ∨ (cl .f32 x = some x ∧ Fin .f32 (some x)) := by
  cases hn : (FloatKind.f32.decode x).isNaN
  · have hle := rung_le FloatKind.f32.format (bb .f32) x hn
    rcases Nat.lt_or_eq_of_le hle with h | h
    · exact .inr (.inr (.inr ⟨by unfold cl; rw [hn]; rfl, h⟩))
    · have hS : FloatKind.f32.format.signWeight = 2147483648 := rfl
      have hI : FloatKind.f32.format.infRung = 2139095040 := by decide
      unfold rung at h
      rw [hS, hI] at h
      omega
  · left
    unfold cl
    rw [hn]
    rfl
def finB (c : Option Nat) : Bool := feqB .f32 (fop .sub .f32 c c) (some 0)
theorem finB_none : finB none = false := rfl
theorem finB_inf : finB (some 2139095040) = false ∧ finB (some 4286578688) = false := by decide +kernel
theorem zero_iff {x : Nat} (h : Fin .f32 (some x)) : feqB .f32 (some x) (some 0) = decide (mag FloatKind.f32.format (rung FloatKind.f32.format x) = 0) := by
  have h0 : rung FloatKind.f32.format 0 < FloatKind.f32.format.infRung := by decide
  have e : ford .f32 (some x) (some 0) = some (compare (val FloatKind.f32.format x) (val FloatKind.f32.format 0)) := order_fin FloatKind.f32.format x 0 h h0
  have v0 : val FloatKind.f32.format 0 = 0 := by decide
  unfold feqB
  rw [e, v0]
  unfold val
  by_cases hm : mag FloatKind.f32.format (rung FloatKind.f32.format x) = 0
  · rw [hm]
    simp
  · have hp : (0 : Int) < (mag FloatKind.f32.format (rung FloatKind.f32.format x) : Int) := by omega
    simp only [hm, decide_false]
    cases sgn FloatKind.f32.format x
    · simp only [Bool.false_eq_true, if_false]
      rw [show compare ((mag FloatKind.f32.format (rung FloatKind.f32.format x) : Int)) 0 = .gt from by rw [Int.compare_eq_gt]; exact hp]
      rfl
    · simp only [if_true]
      rw [show compare (-(mag FloatKind.f32.format (rung FloatKind.f32.format x) : Int)) 0 = .lt from by rw [Int.compare_eq_lt]; omega]
      rfl

/-! ## the angle -/
theorem tau_b : F wTau ∧ 6 ≤ rvd wTau ∧ rvd wTau ≤ 7 := inB_in (by decide +kernel)
theorem eight_b : F w8 ∧ 8 ≤ rvd w8 ∧ rvd w8 ≤ 8 := inB_in (by decide +kernel)
theorem quarter_b : F w025 ∧ 1 / 4 ≤ rvd w025 ∧ rvd w025 ≤ 1 / 4 := inB_in (by decide +kernel)
theorem half_b : F w05 ∧ 1 / 2 ≤ rvd w05 ∧ rvd w05 ≤ 1 / 2 := inB_in (by decide +kernel)
theorem w8_b : Ab (rvd w8) 8 := by obtain ⟨_, l8, h8⟩ := eight_b; constructor <;> grind
theorem tau_ne : rvd wTau ≠ 0 := by obtain ⟨_, lt, _⟩ := tau_b; grind
theorem sub_b {w g : Nat} {Z : Rat} (hw : F w) (h0 : 0 ≤ rvd w) (h1 : rvd w ≤ 1) (hg : F g) (hb : Ab (rvd g) Z) (hZ : Z ≤ 1000) : ∃ r, subW w g = some r ∧ F r ∧ Ab (rvd r) (Z + 2) ∧ Is .f64 r (some r) := by
  obtain ⟨b1, b2⟩ := hb
  obtain ⟨r, er, fr, n1, n2⟩ := sub1 hw hg (by constructor <;> grind)
  exact ⟨r, er, fr, by constructor <;> grind, fop_is (subF_some er)⟩
theorem nar_b {z : Nat} (hz : F z) (hi : Is .f64 z (some z)) (hb : Ab (rvd z) 80) (s : Bool) : ∃ r, nar (if s then Op.negFloat .f64 z else z) = some r := by
  have fin : ∀ z, F z → Ab (rvd z) 80 → ∃ r, nar z = some r := fun z fz bz => by
    obtain ⟨h1, _⟩ := narrow_near fz bz (by decide +kernel) (by decide +kernel)
    exact fin_some h1
  cases s
  · exact fin _ hz hb
  · obtain ⟨a1, _, a3⟩ := neg_ok hi hz
    have hv : Ab (rvd (Op.negFloat .f64 z)) 80 := by
      obtain ⟨b1, b2⟩ := hb
      have e : rvd (Op.negFloat .f64 z) = -rvd z := a3
      rw [e]
      generalize rvd z = v at *
      constructor <;> grind
    exact fin _ a1 hv
theorem nar_lt {z r : Nat} (h : nar z = some r) : r < 2 ^ 32 := by
  have h : floatToFloatBits .f64 z .f32 = some r := h
  unfold floatToFloatBits at h
  rw [if_neg (by decide)] at h
  split at h
  · cases h
  · cases h; exact FloatKind.f32.format.write_lt _
  · split at h
    · cases h
    · cases h; exact FloatKind.f32.format.write_lt _
theorem start_b {a b t0 : Nat} (f3 : F a) (f4 : F b) (p3 : 0 ≤ rvd a) (p4 : 0 ≤ rvd b) (hab : rvd a ≠ 0 ∨ rvd b ≠ 0) (e5 : quoW a b = some t0) : ∃ t1, (if gtW a b then quoW b a else some t0) = some t1 ∧ F t1 ∧ Ab (rvd t1) (11 / 10) := by
  have hg : gtW a b = decide (rvd b < rvd a) := fgt_iff (c := some a) (d := some b) f3 f4
  by_cases hlt : rvd b < rvd a
  · rw [hg, decide_eq_true hlt, if_pos rfl]
    have hq := div_ab (x := rvd b) (d := rvd a) (X := rvd a) (D := rvd a) (Y := 1) ⟨by grind, by grind⟩ (by grind) (by grind) (by decide +kernel) (by grind)
    obtain ⟨q, eq, fq, nq⟩ := quo1 f4 f3 (by grind) (hq.to rfl (by decide +kernel))
    exact ⟨q, eq, fq, nq.abE hq (by decide +kernel)⟩
  · rw [hg, decide_eq_false hlt, if_neg (by decide)]
    have hq := div_ab (x := rvd a) (d := rvd b) (X := rvd b) (D := rvd b) (Y := 1) ⟨by grind, by grind⟩ (by grind) (by grind) (by decide +kernel) (by grind)
    obtain ⟨q, eq, fq, nq⟩ := quo1 f3 f4 (by grind) (hq.to rfl (by decide +kernel))
    obtain rfl : q = t0 := Option.some.inj (eq.symm.trans e5)
    exact ⟨q, rfl, fq, nq.abE hq (by decide +kernel)⟩
theorem mid_b {t1 : Nat} (f6 : F t1) (b6 : Ab (rvd t1) (11 / 10)) : ∃ t u p m m8 g0, angIter 3 t1 = some t ∧ mulW t t = some u ∧ angSum u 9 0 w15 = some p ∧ mulW t p = some m ∧ mulW w8 m = some m8 ∧ quoW m8 wTau = some g0 ∧ F g0 ∧ Ab (rvd g0) 60 ∧ Is .f64 g0 (some g0) := by
  obtain ⟨t, e7, f7, b7⟩ := iter_ok 3 f6 b6
  have hu := b7.mul b7
  obtain ⟨u, e8, f8, n8⟩ := mul1 f7 f7 (hu.to rfl (by decide +kernel))
  obtain ⟨p, e9, f9, b9⟩ := sum_ok f8 (n8.abE hu (by decide +kernel))
  have hm := b7.mul b9
  obtain ⟨m, e10, f10, n10⟩ := mul1 f7 f9 (hm.to rfl (by decide +kernel))
  have b10 := n10.abE (Z := 34) hm (by decide +kernel)
  obtain ⟨f8', l8, h8⟩ := eight_b
  have hm8 := w8_b.mul b10
  obtain ⟨m8, e11, f11, n11⟩ := mul1 f8' f10 (hm8.to rfl (by decide +kernel))
  have b11 := n11.abE (Z := 300) hm8 (by decide +kernel)
  obtain ⟨ft, lt, _⟩ := tau_b
  have hg0 := div_ab b11 (D := 6) (Y := 50) (by decide +kernel) lt (by decide +kernel) (by decide +kernel)
  obtain ⟨g0, e12, f12, n12⟩ := quo1 f11 ft tau_ne (hg0.to rfl (by decide +kernel))
  exact ⟨t, u, p, m, m8, g0, e7, e8, e9, e10, e11, e12, f12, n12.abE (Z := 60) hg0 (by decide +kernel), fop_is (quoW_some e12)⟩
theorem angle_some {y x : Nat} (fy : Fin .f32 (some y)) (fx : Fin .f32 (some x))
    (hz : feqB .f32 (some x) (some 0) = false ∨ feqB .f32 (some x) (some 0) = true ∧ feqB .f32 (some y) (some 0) = false) : ∃ r, angleW y x = some r ∧ r < 2 ^ 32 := by
  obtain ⟨yy, e1, _, g1, _, m1⟩ := wide_ok fy
  obtain ⟨xx, e2, _, g2, _, m2⟩ := wide_ok fx
  obtain ⟨a, e3, _, _, f3, p3, n3⟩ := abs_fin g1
  obtain ⟨b, e4, _, _, f4, p4, n4⟩ := abs_fin g2
  have hab : rvd a ≠ 0 ∨ rvd b ≠ 0 := by
    rw [zero_iff fx, zero_iff fy] at hz
    rcases hz with hz | ⟨_, hz⟩
    · right
      apply n4
      rw [m2]
      simp only [decide_eq_false_iff_not] at hz
      exact Nat.mul_ne_zero hz (Nat.ne_of_gt (Nat.two_pow_pos _))
    · left
      apply n3
      rw [m1]
      simp only [decide_eq_false_iff_not] at hz
      exact Nat.mul_ne_zero hz (Nat.ne_of_gt (Nat.two_pow_pos _))
  clear m1 m2 n3 n4
  obtain ⟨t0, e5⟩ := quo_any f3 f4 hab
  obtain ⟨t1, e6, f6, b6⟩ := start_b f3 f4 p3 p4 hab e5
  obtain ⟨t, u, p, m, m8, g0, e7, e8, e9, e10, e11, e12, f12, b12, i12⟩ := mid_b f6 b6
  obtain ⟨h0, h1, h2⟩ := quarter_b
  obtain ⟨h3, h4, h5⟩ := half_b
  obtain ⟨g1', e13, f13, b13, i13⟩ : ∃ g, (if gtW a b then subW w025 g0 else some g0) = some g ∧ F g ∧ Ab (rvd g) 62 ∧ Is .f64 g (some g) := by
    cases gtW a b
    · exact ⟨g0, by rw [if_neg Bool.false_ne_true], f12, b12.to rfl (by decide +kernel), i12⟩
    · obtain ⟨g, eg, fg, bg, ig⟩ := sub_b h0 (Rat.le_trans (by decide +kernel) h1) (Rat.le_trans h2 (by decide +kernel)) f12 b12 (by decide +kernel)
      exact ⟨g, by rw [if_pos rfl]; exact eg, fg, bg.to rfl (by decide +kernel), ig⟩
  obtain ⟨g2', e14, f14, b14, i14⟩ : ∃ g, (if lt0 x then subW w05 g1' else some g1') = some g ∧ F g ∧ Ab (rvd g) 80 ∧ Is .f64 g (some g) := by
    cases lt0 x
    · exact ⟨g1', by rw [if_neg Bool.false_ne_true], f13, b13.to rfl (by decide +kernel), i13⟩
    · obtain ⟨g, eg, fg, bg, ig⟩ := sub_b h3 (Rat.le_trans (by decide +kernel) h4) (Rat.le_trans h5 (by decide +kernel)) f13 b13 (by decide +kernel)
      exact ⟨g, by rw [if_pos rfl]; exact eg, fg, bg.to rfl (by decide +kernel), ig⟩
  obtain ⟨r, e15⟩ := nar_b f14 i14 b14 (lt0 y)
  refine ⟨r, ?_, nar_lt e15⟩
  unfold angleW
  rw [e1, bw_of, e2, bw_of, e3, bw_of, e4, bw_of, e5, bw_of, e6, bw_of, e7, bw_of, e8, bw_of, e9, bw_of, e10, bw_of, e11, bw_of, e12, bw_of, e13, bw_of, e14, bw_of, e15]
end Go.Proofs.YtclgplbikjmopaaGreatDoor
