/-
  What quotients and roots cost.
-/
import Derived.Test.YtclgplbikjmopaaGreatDoorAp
namespace Go.Proofs.YtclgplbikjmopaaGreatDoor
open Go.RowKit

theorem q_nn (m : Nat) (p : Int) : 0 ≤ (m : Rat) * p2 p := Rat.mul_nonneg Rat.natCast_nonneg (Rat.le_of_lt (p2_pos p))
theorem natPos {n : Nat} (h : n ≠ 0) : (0 : Rat) < (n : Rat) := by
  have : ((0 : Nat) : Rat) < (n : Rat) := Rat.natCast_lt_natCast.2 (Nat.pos_of_ne_zero h)
  exact this
theorem mul_cancel {a b c : Rat} (h : 0 < c) (e : a * c = b * c) : a = b := by
  refine Rat.le_antisymm ?_ ?_
  · exact Rat.le_of_mul_le_mul_right (by rw [e]; exact Rat.le_refl) h
  · exact Rat.le_of_mul_le_mul_right (by rw [e]; exact Rat.le_refl) h

theorem rinv_neg {x : Rat} (h : 0 < x) : (-x)⁻¹ = -x⁻¹ := by
  refine mul_cancel h ?_
  have h1 := Rat.inv_mul_cancel (-x) (by grind)
  have h2 := Rat.inv_mul_cancel x (by grind)
  grind

/-! ## quotients -/
theorem quot_mag (digits m n : Nat) (i j : Int) (hn : n ≠ 0) (hm : m ≠ 0) (more : Nat) (hmore : more = digits + n.log2 - m.log2) :
    Near (((2 * (m * 2 ^ more / n) + (m * 2 ^ more % n != 0).toNat : Nat) : Rat) * p2 (i - j - more - 1)) ((m : Rat) * p2 i / ((n : Rat) * p2 j)) (p2 (i - j - more - 1)) ∧
    p2 (i - j - more - 1) ≤ (m : Rat) * p2 i / ((n : Rat) * p2 j) * p2 (-(digits : Int)) := by
  have hn0 := natPos hn
  have hP := p2_pos (i - j - more - 1)
  have hj := p2_pos j
  have e1 : p2 i = 2 * ((2 ^ more : Nat) : Rat) * p2 (i - j - more - 1) * p2 j := by
    have h1 : p2 1 = 2 := by decide +kernel
    rw [← p2_nat, ← h1, ← p2_add, ← p2_add, ← p2_add]
    congr 1
    omega
  generalize p2 (i - j - more - 1) = P at hP e1 ⊢
  have hnj := Rat.mul_pos hn0 hj
  have hne : (n : Rat) * p2 j ≠ 0 := by grind
  have e2 : (m : Rat) * p2 i / ((n : Rat) * p2 j) * ((n : Rat) * p2 j) = (m : Rat) * p2 i := Rat.div_mul_cancel hne
  generalize (m : Rat) * p2 i / ((n : Rat) * p2 j) = T at e2 ⊢
  have e3 : T * (n : Rat) = 2 * ((m * 2 ^ more : Nat) : Rat) * P := by
    refine mul_cancel (c := p2 j) hj ?_
    rw [e1] at e2
    rw [Rat.natCast_mul]
    grind
  have hge : n * 2 ^ digits ≤ 2 * (m * 2 ^ more) := by
    have h1 : n < 2 ^ (n.log2 + 1) := Nat.lt_log2_self
    have h2 : 2 ^ m.log2 ≤ m := Nat.log2_self_le hm
    have h3 : n * 2 ^ digits ≤ 2 ^ (n.log2 + 1) * 2 ^ digits := Nat.mul_le_mul_right _ (Nat.le_of_lt h1)
    have h4 : 2 ^ m.log2 * 2 ^ more ≤ m * 2 ^ more := Nat.mul_le_mul_right _ h2
    rw [← Nat.pow_add] at h3 h4
    have h5 : 2 ^ (n.log2 + 1 + digits) ≤ 2 ^ (m.log2 + more + 1) := Nat.pow_le_pow_right (by decide) (by omega)
    have h6 : 2 ^ (m.log2 + more + 1) = 2 * 2 ^ (m.log2 + more) := by rw [Nat.pow_succ]; omega
    omega
  generalize m * 2 ^ more = N at e3 hge ⊢
  have hdm := Nat.div_add_mod N n
  have hml := Nat.mod_lt N (Nat.pos_of_ne_zero hn)
  generalize N / n = q at hdm ⊢
  generalize N % n = ρ at hdm hml ⊢
  have hs : (ρ != 0).toNat = 0 ∧ ρ = 0 ∨ (ρ != 0).toNat = 1 := by
    by_cases h : ρ = 0
    · left; simp [h]
    · right; simp [h]
  generalize (ρ != 0).toNat = σ at hs ⊢
  have hc : (2 * q + σ) * n = 2 * (n * q) + σ * n := by rw [Nat.add_mul, Nat.mul_assoc, Nat.mul_comm q n]
  have hσ : σ * n = if σ = 0 then 0 else n := by
    rcases hs with ⟨h, _⟩ | h <;> subst h <;> simp
  have s1 : (2 * q + σ) * n ≤ 2 * N + n := by
    rw [hc, hσ]
    rcases hs with ⟨h, h'⟩ | h
    · rw [if_pos h]; omega
    · rw [if_neg (by omega)]; omega
  have s2 : 2 * N ≤ (2 * q + σ) * n + n := by
    rw [hc, hσ]
    rcases hs with ⟨h, h'⟩ | h
    · rw [if_pos h]; omega
    · rw [if_neg (by omega)]; omega
  have r1 : (((2 * q + σ) * n : Nat) : Rat) ≤ ((2 * N + n : Nat) : Rat) := Rat.natCast_le_natCast.2 s1
  have r2 : ((2 * N : Nat) : Rat) ≤ (((2 * q + σ) * n + n : Nat) : Rat) := Rat.natCast_le_natCast.2 s2
  have r3 : ((n * 2 ^ digits : Nat) : Rat) ≤ ((2 * N : Nat) : Rat) := Rat.natCast_le_natCast.2 hge
  have hP0 := Rat.le_of_lt hP
  have t1 := Rat.mul_le_mul_of_nonneg_right r1 hP0
  have t2 := Rat.mul_le_mul_of_nonneg_right r2 hP0
  have t3 := Rat.mul_le_mul_of_nonneg_right r3 hP0
  rw [Rat.natCast_mul (2 * q + σ) n, Rat.natCast_add (2 * N) n, Rat.natCast_mul 2 N] at t1
  rw [Rat.natCast_add ((2 * q + σ) * n) n, Rat.natCast_mul (2 * q + σ) n, Rat.natCast_mul 2 N] at t2
  rw [Rat.natCast_mul n, Rat.natCast_mul 2 N] at t3
  have c2 : ((2 : Nat) : Rat) = 2 := rfl
  rw [c2] at t1 t2 t3
  generalize ((2 * q + σ : Nat) : Rat) = D at t1 t2 ⊢
  refine ⟨⟨?_, ?_⟩, ?_⟩
  · refine Rat.le_of_mul_le_mul_right (c := (n : Rat)) ?_ hn0
    grind
  · refine Rat.le_of_mul_le_mul_right (c := (n : Rat)) ?_ hn0
    grind
  · have hd := p2_pos (digits : Int)
    have hdd : p2 (-(digits : Int)) * p2 (digits : Int) = 1 := by
      rw [← p2_add]
      have : -(digits : Int) + digits = 0 := by omega
      rw [this]
      decide +kernel
    have hnd := Rat.mul_pos hn0 hd
    refine Rat.le_of_mul_le_mul_right (c := (n : Rat) * p2 (digits : Int)) ?_ hnd
    have e4 : T * p2 (-(digits : Int)) * ((n : Rat) * p2 (digits : Int)) = T * (n : Rat) * (p2 (-(digits : Int)) * p2 (digits : Int)) := by grind
    rw [e4, hdd, e3, p2_nat]
    grind

theorem quo_near {k : FloatKind} {a b : Nat} (ha : Fin k (some a)) (hb : Fin k (some b)) (h0 : rv k b ≠ 0) {M : Rat} (hM : Ab (rv k a / rv k b) M) (hl : p2 (-126) ≤ M) (hu : 2 * M < p2 127) :
    Fin k (fop .quo k (some a) (some b)) ∧ Near (cv k (fop .quo k (some a) (some b))) (rv k a / rv k b) (3 * M * uk k) := by
  obtain ⟨s, m, i, hr⟩ := fin_read ha
  obtain ⟨t, n, j, hs⟩ := fin_read hb
  have va : rv k a = sg s * ((m : Rat) * p2 i) := by unfold rv; rw [hr]; rfl
  have vb : rv k b = sg t * ((n : Rat) * p2 j) := by unfold rv; rw [hs]; rfl
  have hn : n ≠ 0 := by
    rintro rfl
    apply h0
    rw [vb]
    simp
  have hu0 := uk_pos k
  have hM0 : 0 ≤ M := by have := p2_pos (-126); grind
  have hdig : p2 (-((k.format.fractionBits + 2 : Nat) : Int)) ≤ uk k := p2_mono (by cases k <;> decide)
  have hk1 : uk k ≤ 1 := by
    have e0 : p2 0 = 1 := by decide +kernel
    have : uk k ≤ p2 0 := p2_mono (by cases k <;> decide)
    rw [e0] at this
    exact this
  -- what stands before rounding
  obtain ⟨r, e, hd, hnear⟩ : ∃ r e, Ieee.Datum.quotient (k.format.fractionBits + 2) (.number s m i) (.number t n j) = some (.number (s ^^ t) r e) ∧ Near (dv (.number (s ^^ t) r e)) (rv k a / rv k b) (M * uk k) := by
    generalize hg : k.format.fractionBits + 2 = digits at hdig
    refine ⟨_, _, by simp only [Ieee.Datum.quotient, if_neg hn]; rfl, ?_⟩
    rw [Nat.shiftLeft_eq]
    have hx : rv k a / rv k b = sg (s ^^ t) * ((m : Rat) * p2 i / ((n : Rat) * p2 j)) := by
      have hpos := Rat.mul_pos (natPos hn) (p2_pos j)
      rw [va, vb, Rat.div_def, Rat.div_def]
      generalize (n : Rat) * p2 j = y at hpos
      generalize (m : Rat) * p2 i = x
      have h1 := rinv_neg hpos
      cases s <;> cases t <;> simp only [sg, Bool.false_eq_true, if_true, if_false, Bool.xor_false, Bool.xor_true, Bool.not_true, Bool.not_false, Rat.one_mul, Rat.neg_mul, h1] <;> grind
    rw [hx] at hM ⊢
    by_cases hm : m = 0
    · subst hm
      have z1 : ((0 : Nat) : Rat) * p2 i / ((n : Rat) * p2 j) = 0 := by
        rw [Rat.div_def]
        simp
      rw [z1]
      show Near (sg (s ^^ t) * _) _ _
      have hmu := Rat.mul_nonneg hM0 (Rat.le_of_lt hu0)
      simp
      exact ⟨by grind, by grind⟩
    · obtain ⟨h1, h2⟩ := quot_mag digits m n i j hn hm _ rfl
      have hT := mag_of_ab hM
      have h3 : p2 (i - j - (digits + n.log2 - m.log2 : Nat) - 1) ≤ M * uk k := by
        have hT0 : 0 ≤ (m : Rat) * p2 i / ((n : Rat) * p2 j) := by
          have hp := p2_pos (i - j - (digits + n.log2 - m.log2 : Nat) - 1)
          have hq := p2_pos (-(digits : Int))
          rcases Rat.le_total (a := 0) (b := (m : Rat) * p2 i / ((n : Rat) * p2 j)) with h | h
          · exact h
          · have := Rat.mul_le_mul_of_nonneg_right h (Rat.le_of_lt hq)
            grind
        have g1 := Rat.mul_le_mul_of_nonneg_left hdig hT0
        have g2 := Rat.mul_le_mul_of_nonneg_right hT (Rat.le_of_lt hu0)
        grind
      obtain ⟨h4, h5⟩ := h1
      exact sg_near ⟨by grind, by grind⟩
  have e0 : fop .quo k (some a) (some b) = some (k.format.write (.number (s ^^ t) r e)) := by
    show ((k.format.read a).quotient (k.format.fractionBits + 2) (k.format.read b)).map _ = _
    rw [hr, hs, hd]
    rfl
  rw [e0]
  obtain ⟨n1, n2⟩ := hnear
  obtain ⟨m1, m2⟩ := hM
  have hmu := Rat.mul_le_mul_of_nonneg_left hk1 hM0
  rw [Rat.mul_one] at hmu
  obtain ⟨w1, w2, w3⟩ := write_ab (k := k) (M := 2 * M) rfl (⟨by grind, by grind⟩ : Ab (dv (.number (s ^^ t) r e)) (2 * M)) (by grind) hu
  refine ⟨w1, ?_, ?_⟩
  · show rv k _ ≤ _
    grind
  · show _ ≤ rv k _ + _
    grind

/-! ## roots -/
theorem rootFrom_ok (n : Nat) : ∀ (k r : Nat), r * r ≤ n → n < (r + 2 ^ k) * (r + 2 ^ k) → Ieee.Datum.rootFrom n k r * Ieee.Datum.rootFrom n k r ≤ n ∧ n < (Ieee.Datum.rootFrom n k r + 1) * (Ieee.Datum.rootFrom n k r + 1)
  | 0, r, h1, h2 => ⟨h1, h2⟩
  | k + 1, r, h1, h2 => by
    unfold Ieee.Datum.rootFrom
    dsimp only
    rw [Nat.one_shiftLeft]
    have e : r + 2 ^ (k + 1) = r + 2 ^ k + 2 ^ k := by rw [Nat.pow_succ]; omega
    by_cases h : (r + 2 ^ k) * (r + 2 ^ k) ≤ n
    · rw [if_pos h]
      exact rootFrom_ok n k _ h (by rw [← e]; exact h2)
    · rw [if_neg h]
      exact rootFrom_ok n k r h1 (by omega)
theorem sq_le {a b : Rat} (hb : 0 ≤ b) (h : a * a ≤ b * b) : a ≤ b := by
  apply Classical.byContradiction
  intro hn
  have hlt : b < a := Rat.not_le.1 hn
  have h1 : b * b ≤ b * a := Rat.mul_le_mul_of_nonneg_left (Rat.le_of_lt hlt) hb
  have h2 : b * a < a * a := Rat.mul_lt_mul_of_pos_right hlt (by grind)
  grind
theorem lin1 (w P : Rat) : 2 * w * P = w * (2 * P) := by grind
theorem lin2 (w P : Rat) : (2 * w + 1) * P = w * (2 * P) + P := by grind
theorem lin3 (w P : Rat) : (w + 1) * (2 * P) = w * (2 * P) + 2 * P := by grind
theorem lin4 (w P : Rat) : w * w * (2 * P * (2 * P)) = w * (2 * P) * (w * (2 * P)) := by grind
theorem lin5 (n P : Rat) : n * (2 * P) * (2 * P) = n * (2 * P * (2 * P)) := by grind
theorem le3 {a b c : Rat} (h : a ≤ b) (h' : b ≤ c) : a ≤ c := Rat.le_trans h h'
theorem root_mag (digits m : Nat) (i : Int) (hm : m ≠ 0) {L U : Rat} (hU : 0 ≤ U) (h1 : L * L ≤ (m : Rat) * p2 i) (h2 : (m : Rat) * p2 i ≤ U * U) :
    ∃ r e, Ieee.Datum.root digits (.number false m i) = some (.number false r e) ∧ L ≤ (r : Rat) * p2 e + U * p2 (-(digits : Int)) ∧ (r : Rat) * p2 e ≤ U + U * p2 (-(digits : Int)) := by
  have e0 : ∀ more : Nat, more = 2 * digits - m.log2 + ((i - (2 * digits - m.log2 : Nat)) % 2).toNat → Ieee.Datum.root digits (.number false m i) = some (.number false (2 * Ieee.Datum.rootFrom (m <<< more) ((m <<< more).log2 / 2 + 1) 0 + (Ieee.Datum.rootFrom (m <<< more) ((m <<< more).log2 / 2 + 1) 0 * Ieee.Datum.rootFrom (m <<< more) ((m <<< more).log2 / 2 + 1) 0 != m <<< more).toNat) ((i - more) / 2 - 1)) := by
    rintro _ rfl
    simp only [Ieee.Datum.root, if_neg hm, Bool.false_eq_true, if_false]
  obtain ⟨more, hmo⟩ : ∃ more : Nat, more = 2 * digits - m.log2 + ((i - (2 * digits - m.log2 : Nat)) % 2).toNat := ⟨_, rfl⟩
  rw [e0 more hmo, Nat.shiftLeft_eq]
  refine ⟨_, _, rfl, ?_⟩
  obtain ⟨h, hh⟩ : ∃ h : Int, i - more = 2 * h := ⟨(i - more) / 2, by omega⟩
  have hh2 : (i - more) / 2 - 1 = h - 1 := by omega
  rw [hh2]
  have hN : 2 ^ (2 * digits) ≤ m * 2 ^ more := by
    have h2 : 2 ^ m.log2 ≤ m := Nat.log2_self_le hm
    have h4 : 2 ^ m.log2 * 2 ^ more ≤ m * 2 ^ more := Nat.mul_le_mul_right _ h2
    rw [← Nat.pow_add] at h4
    exact Nat.le_trans (Nat.pow_le_pow_right (by decide) (by omega)) h4
  have hx : (m : Rat) * p2 i = ((m * 2 ^ more : Nat) : Rat) * (2 * p2 (h - 1)) * (2 * p2 (h - 1)) := by
    have e2 : p2 1 = 2 := by decide +kernel
    have e1 : p2 i = p2 (more : Int) * (p2 1 * p2 (h - 1)) * (p2 1 * p2 (h - 1)) := by
      rw [← p2_add, ← p2_add, ← p2_add]
      congr 1
      omega
    rw [e1, p2_nat, e2, Rat.natCast_mul]
    grind
  rw [hx] at h1 h2
  generalize m * 2 ^ more = N at hN h1 h2 ⊢
  have hlog : N < (0 + 2 ^ (N.log2 / 2 + 1)) * (0 + 2 ^ (N.log2 / 2 + 1)) := by
    rw [Nat.zero_add, ← Nat.pow_add]
    exact Nat.lt_of_lt_of_le Nat.lt_log2_self (Nat.pow_le_pow_right (by decide) (by omega))
  obtain ⟨w1, w2⟩ := rootFrom_ok N (N.log2 / 2 + 1) 0 (by omega) hlog
  generalize Ieee.Datum.rootFrom N (N.log2 / 2 + 1) 0 = w at w1 w2 ⊢
  have hw : 2 ^ digits ≤ w := by
    apply Classical.byContradiction
    intro hn
    have hle : w + 1 ≤ 2 ^ digits := by omega
    have := Nat.mul_le_mul hle hle
    rw [← Nat.pow_add] at this
    have e : digits + digits = 2 * digits := by omega
    rw [e] at this
    omega
  have hP := p2_pos (h - 1)
  generalize p2 (h - 1) = P at hP h1 h2 ⊢
  have r1 : ((w * w : Nat) : Rat) ≤ (N : Rat) := Rat.natCast_le_natCast.2 w1
  have r2 : (N : Rat) ≤ (((w + 1) * (w + 1) : Nat) : Rat) := Rat.natCast_le_natCast.2 (Nat.le_of_lt w2)
  have r3 : ((2 ^ digits : Nat) : Rat) ≤ (w : Rat) := Rat.natCast_le_natCast.2 hw
  rw [Rat.natCast_mul] at r1 r2
  rw [Rat.natCast_add] at r2
  have c1 : ((1 : Nat) : Rat) = 1 := rfl
  rw [c1] at r2
  have hw0 : (0 : Rat) ≤ (w : Rat) := Rat.natCast_nonneg
  have hP2 : 0 ≤ 2 * P * (2 * P) := Rat.mul_nonneg (by grind) (by grind)
  have q1 := Rat.mul_le_mul_of_nonneg_right r1 hP2
  have q2 := Rat.mul_le_mul_of_nonneg_right r2 hP2
  rw [lin4] at q1
  rw [lin4] at q2
  rw [lin5] at h1 h2
  have hP3 : 0 ≤ 2 * P := by grind
  -- twice the whole root, in the unit
  have b1 : (w : Rat) * (2 * P) ≤ U := sq_le hU (le3 q1 h2)
  have b2 : L ≤ ((w : Rat) + 1) * (2 * P) := sq_le (Rat.mul_nonneg (by grind) hP3) (le3 h1 q2)
  have b3 : P ≤ U * p2 (-(digits : Int)) := by
    have hd := p2_pos (digits : Int)
    have hdd : p2 (-(digits : Int)) * p2 (digits : Int) = 1 := by
      rw [← p2_add]
      have : -(digits : Int) + digits = 0 := by omega
      rw [this]
      decide +kernel
    refine Rat.le_of_mul_le_mul_right (c := p2 (digits : Int)) ?_ hd
    rw [Rat.mul_assoc, hdd, Rat.mul_one, p2_nat]
    have g1 := Rat.mul_le_mul_of_nonneg_right r3 (Rat.le_of_lt hP)
    have hwp := Rat.mul_nonneg hw0 (Rat.le_of_lt hP)
    have g2 : (w : Rat) * (2 * P) = (w : Rat) * P + (w : Rat) * P := by grind
    rw [g2] at b1
    rw [Rat.mul_comm]
    clear q1 q2 h1 h2 r1 r2 r3 b2 hP2 g2
    generalize (w : Rat) * P = x at *
    generalize ((2 ^ digits : Nat) : Rat) * P = y at *
    grind
  have b4 : w * w = N → L ≤ (w : Rat) * (2 * P) := fun hs => by
    have r4 : (w : Rat) * (w : Rat) = (N : Rat) := by rw [← Rat.natCast_mul, hs]
    refine sq_le (Rat.mul_nonneg hw0 hP3) ?_
    rw [← lin4, r4]
    exact h1
  have c2 : ((2 : Nat) : Rat) = 2 := rfl
  clear q1 q2 h1 h2 r1 r2 r3 hP2
  generalize U * p2 (-(digits : Int)) = V at b3 ⊢
  by_cases hs : w * w = N
  · have b5 := b4 hs
    have hσ : (w * w != N).toNat = 0 := by simp [hs]
    rw [hσ, Nat.add_zero, Rat.natCast_mul, c2, lin1]
    generalize (w : Rat) * (2 * P) = x at *
    constructor <;> grind
  · have hσ : (w * w != N).toNat = 1 := by simp [hs]
    rw [hσ, Rat.natCast_add, Rat.natCast_mul, c2, c1, lin2]
    rw [lin3] at b2
    generalize (w : Rat) * (2 * P) = x at *
    constructor <;> grind
theorem dv_mag {s : Bool} {m : Nat} {p : Int} (h : 0 ≤ dv (.number s m p)) : dv (.number s m p) = (m : Rat) * p2 p := by
  have h1 := q_nn m p
  show sg s * _ = _
  have h : 0 ≤ sg s * ((m : Rat) * p2 p) := h
  cases s
  · simp only [sg, Bool.false_eq_true, if_false]; grind
  · simp only [sg, if_true] at h ⊢; grind
/-- A 64-bit root. -/
theorem sqrt_near {b : Nat} (hb : Fin .f64 (some b)) (h0 : 0 ≤ rv .f64 b) {L U : Rat} (h1 : L * L ≤ rv .f64 b) (h2 : rv .f64 b ≤ U * U) (hl : p2 (-126) ≤ U) (hu : 2 * U < p2 127) :
    Fin .f64 (sqrtC (some b)) ∧ 0 ≤ cv .f64 (sqrtC (some b)) ∧ L ≤ cv .f64 (sqrtC (some b)) + 3 * U * uk .f64 ∧ cv .f64 (sqrtC (some b)) ≤ U + 3 * U * uk .f64 := by
  obtain ⟨s, m, i, hr⟩ := fin_read hb
  have hU : 0 ≤ U := by have := p2_pos (-126); grind
  have vb : rv .f64 b = dv (.number s m i) := by unfold rv; rw [hr]
  rw [vb] at h0 h1 h2
  have hmag := dv_mag h0
  rw [hmag] at h1 h2
  have hk1 : uk .f64 ≤ 1 := by
    have e0 : p2 0 = 1 := by decide +kernel
    have : uk .f64 ≤ p2 0 := p2_mono (by decide)
    rw [e0] at this
    exact this
  have hu0 := uk_pos .f64
  obtain ⟨s', r, e, hd, hs0, d1, d2⟩ : ∃ s' r e, Ieee.Datum.root (FloatKind.f64.format.fractionBits + 2) (.number s m i) = some (.number s' r e) ∧ 0 ≤ dv (.number s' r e) ∧ L ≤ dv (.number s' r e) + U * uk .f64 ∧ dv (.number s' r e) ≤ U + U * uk .f64 := by
    have huu := Rat.mul_nonneg hU (Rat.le_of_lt hu0)
    by_cases hm : m = 0
    · subst hm
      refine ⟨s, 0, i, by simp [Ieee.Datum.root], ?_⟩
      have z : dv (.number s 0 i) = 0 := by simp [dv]
      rw [z]
      have z2 : ((0 : Nat) : Rat) * p2 i = 0 := by simp
      rw [z2] at h1
      have hL0 : L ≤ 0 := sq_le Rat.le_refl (by grind)
      exact ⟨Rat.le_refl, by grind, by grind⟩
    · have hsf : s = false := by
        cases s with
        | false => rfl
        | true =>
          have h3 := natPos hm
          have h4 := Rat.mul_pos h3 (p2_pos i)
          have h5 : 0 ≤ sg true * ((m : Rat) * p2 i) := h0
          simp only [sg, if_true] at h5
          grind
      subst hsf
      obtain ⟨r, e, hd, d1, d2⟩ := root_mag (FloatKind.f64.format.fractionBits + 2) m i hm hU h1 h2
      refine ⟨false, r, e, hd, ?_⟩
      have hv : dv (.number false r e) = (r : Rat) * p2 e := by
        show sg false * _ = _
        simp only [sg, Bool.false_eq_true, if_false]
        grind
      rw [hv]
      have hp : p2 (-((FloatKind.f64.format.fractionBits + 2 : Nat) : Int)) ≤ uk .f64 := p2_mono (by decide)
      have := Rat.mul_le_mul_of_nonneg_left hp hU
      exact ⟨q_nn r e, by grind, by grind⟩
  have e0 : sqrtC (some b) = some (FloatKind.f64.format.write (.number s' r e)) := by
    show FloatKind.f64.format.sqrt b = _
    unfold Ieee.Format.sqrt
    rw [hr, hd]
    rfl
  rw [e0]
  have hmu := Rat.mul_le_mul_of_nonneg_left hk1 hU
  rw [Rat.mul_one] at hmu
  obtain ⟨x1, x2, x3⟩ := write_ab (k := .f64) (M := 2 * U) rfl (⟨by grind, by grind⟩ : Ab (dv (.number s' r e)) (2 * U)) (by grind) hu
  refine ⟨x1, ?_, ?_, ?_⟩
  · show 0 ≤ rv .f64 _
    by_cases hr0 : r = 0
    · subst hr0
      rw [(write_zero .f64 s' e).2]
      exact Rat.le_refl
    · have hsf : s' = false := by
        cases s' with
        | false => rfl
        | true =>
          have h4 := Rat.mul_pos (natPos hr0) (p2_pos e)
          have h5 : 0 ≤ sg true * ((r : Rat) * p2 e) := hs0
          simp only [sg, if_true] at h5
          grind
      subst hsf
      have hmr := dv_mag hs0
      obtain ⟨last, kept, _, _, _, _, _, _, _, _, hv⟩ := write_shape .f64 false r e hr0 (by rw [← hmr]; grind)
      rw [hv]
      simp only [sg, Bool.false_eq_true, if_false, Rat.one_mul]
      exact q_nn kept last
  · show _ ≤ rv .f64 _ + _
    grind
  · show rv .f64 _ ≤ _
    grind
/-- A 64-bit number, narrowed. -/
theorem narrow_near {z : Nat} (hz : Fin .f64 (some z)) {M : Rat} (hM : Ab (rv .f64 z) M) (hl : p2 (-126) ≤ M) (hu : M < p2 127) :
    Fin .f32 (fcv .f64 .f32 (some z)) ∧ Near (cv .f32 (fcv .f64 .f32 (some z))) (rv .f64 z) (M * uk .f32) ∧ (0 ≤ rv .f64 z → 0 ≤ cv .f32 (fcv .f64 .f32 (some z))) := by
  obtain ⟨s, m, p, hr⟩ := fin_read hz
  have hv : rv .f64 z = dv (.number s m p) := by unfold rv; rw [hr]
  rw [hv] at hM ⊢
  obtain ⟨f3, b3⟩ := write_ab (k := .f32) rfl hM hl hu
  have he : fcv .f64 .f32 (some z) = some (FloatKind.f32.format.write (.number s m p)) := by
    show floatToFloatBits .f64 z .f32 = _
    have hrz : FloatKind.f64.decode z = .number s m p := hr
    unfold floatToFloatBits
    rw [if_neg (by decide), hrz]
    dsimp only
    obtain ⟨m4, k4, hr4, _⟩ := read_fin FloatKind.f32.format _ f3
    have hni : (FloatKind.f32.decode (FloatKind.f32.encode (.number s m p))).isInfinity = false := by
      have : FloatKind.f32.decode (FloatKind.f32.encode (.number s m p)) = _ := hr4
      rw [this]
      rfl
    rw [hni]
    rfl
  rw [he]
  refine ⟨f3, b3, fun h0 => ?_⟩
  show 0 ≤ rv .f32 _
  by_cases hr0 : m = 0
  · subst hr0
    rw [(write_zero .f32 s p).2]
    exact Rat.le_refl
  · have hsf : s = false := by
      cases s with
      | false => rfl
      | true =>
        have h4 := Rat.mul_pos (natPos hr0) (p2_pos p)
        have h5 : 0 ≤ sg true * ((m : Rat) * p2 p) := h0
        simp only [sg, if_true] at h5
        grind
    subst hsf
    obtain ⟨last, kept, _, _, _, _, _, _, _, _, hv2⟩ := write_shape .f32 false m p hr0 (by rw [← dv_mag h0]; exact rlt_of_le_of_lt hM.le hu)
    rw [hv2]
    simp only [sg, Bool.false_eq_true, if_false, Rat.one_mul]
    exact q_nn kept last
end Go.Proofs.YtclgplbikjmopaaGreatDoor
