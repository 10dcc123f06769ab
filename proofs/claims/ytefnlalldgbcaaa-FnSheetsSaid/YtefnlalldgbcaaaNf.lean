/-
  Roots of numbers that are not less than 0: finite, not less than 0, bounded.
-/
import Derived.Test.YtefnlalldgbcaaaAp
import Derived.Test.YtefnlalldgbcaaaJ
namespace Go.Proofs.Ytefnlalldgbcaaa
open Go.RowKit

theorem dv_num (s : Bool) (m : Nat) (p : Int) : dv (.number s m p) = sg s * ((m : Rat) * p2 p) := rfl
theorem mp_nonneg (m : Nat) (p : Int) : 0 ≤ (m : Rat) * p2 p := Rat.mul_nonneg Rat.natCast_nonneg (Rat.le_of_lt (p2_pos p))
theorem dv_neg {m : Nat} {p : Int} (h : 0 ≤ dv (.number true m p)) : m = 0 := by
  rw [dv_num] at h
  apply Classical.byContradiction
  intro hm
  have h1 : (1 : Rat) ≤ (m : Rat) := by
    have : ((1 : Nat) : Rat) ≤ (m : Rat) := Rat.natCast_le_natCast.2 (by omega)
    exact this
  have h2 := p2_pos p
  have h3 := Rat.mul_le_mul_of_nonneg_right h1 (Rat.le_of_lt h2)
  simp only [sg, if_true] at h
  grind
theorem low_of_le {m : Nat} {p e : Int} (hm : m ≠ 0) (h : (m : Rat) * p2 p ≤ p2 e) : p + (m.log2 : Int) ≤ e := by
  have hlow : 2 ^ m.log2 ≤ m := Nat.log2_self_le hm
  have hpl : p2 (p + m.log2) ≤ (m : Rat) * p2 p := by
    rw [p2_add, p2_nat, Rat.mul_comm]
    exact Rat.mul_le_mul_of_nonneg_right (by exact_mod_cast hlow) (Rat.le_of_lt (p2_pos p))
  apply Classical.byContradiction
  intro hn
  have h1 : p2 (e + 1) ≤ p2 (p + m.log2) := p2_mono (by omega)
  have h2 : p2 (e + 1) = p2 e * p2 1 := p2_add e 1
  have h3 : p2 1 = 2 := by decide +kernel
  have h4 := p2_pos e
  rw [h2, h3] at h1
  grind
theorem le_of_low {m : Nat} {p e : Int} (h : m = 0 ∨ p + (m.log2 : Int) ≤ e) : (m : Rat) * p2 p ≤ p2 (e + 1) := by
  rcases h with rfl | h
  · have := p2_pos (e + 1)
    simp
    grind
  · have hhigh : m < 2 ^ (m.log2 + 1) := Nat.lt_log2_self
    have h1 : (m : Rat) ≤ ((2 ^ (m.log2 + 1) : Nat) : Rat) := Rat.natCast_le_natCast.2 (by omega)
    have h2 := Rat.mul_le_mul_of_nonneg_right h1 (Rat.le_of_lt (p2_pos p))
    rw [← p2_nat, ← p2_add] at h2
    exact Rat.le_trans h2 (p2_mono (by omega))
theorem write_nonneg {k : FloatKind} {s : Bool} {m : Nat} {p : Int} (h : 0 ≤ dv (.number s m p)) (hX : (m : Rat) * p2 p < p2 127) : 0 ≤ rv k (k.format.write (.number s m p)) := by
  by_cases hm : m = 0
  · subst hm
    rw [(write_zero k s p).2]
    exact Rat.le_refl
  · cases s with
    | true => exact absurd (dv_neg h) hm
    | false =>
      obtain ⟨last, kept, _, _, _, _, _, _, _, _, hv⟩ := write_shape k false m p hm hX
      rw [hv]
      simp only [sg, Bool.false_eq_true, if_false, Rat.one_mul]
      exact mp_nonneg kept last
/-- A root in numbers: not less than 0; bounded. -/
theorem root_dv {digits : Nat} {s : Bool} {m : Nat} {i e : Int} (h0 : 0 ≤ dv (.number s m i)) (h1 : dv (.number s m i) ≤ p2 (2 * e)) :
    ∃ s' m' i', Ieee.Datum.root digits (.number s m i) = some (.number s' m' i') ∧ 0 ≤ dv (.number s' m' i') ∧ (m' : Rat) * p2 i' ≤ p2 (e + 1) := by
  by_cases hm : m = 0
  · subst hm
    refine ⟨s, 0, i, by simp [Ieee.Datum.root], ?_, le_of_low (.inl rfl)⟩
    rw [dv_num]
    simp
  · cases s with
    | true => exact absurd (dv_neg h0) hm
    | false =>
      have hd1 : (m : Rat) * p2 i ≤ p2 (2 * e) := by
        rw [dv_num] at h1
        simpa [sg] using h1
      have hlow : DLow (.number false m i) (2 * e) := .inr (low_of_le hm hd1)
      obtain ⟨d', hr⟩ : ∃ d', Ieee.Datum.root digits (.number false m i) = some d' := by
        unfold Ieee.Datum.root
        simp [hm]
      have hsh : ∃ m' i', d' = .number false m' i' := by
        have hr' := hr
        unfold Ieee.Datum.root at hr'
        simp only [hm, if_false, Bool.false_eq_true] at hr'
        cases hr'
        exact ⟨_, _, rfl⟩
      obtain ⟨m', i', rfl⟩ := hsh
      refine ⟨false, m', i', hr, ?_, ?_⟩
      · rw [dv_num]
        simp only [sg, Bool.false_eq_true, if_false, Rat.one_mul]
        exact mp_nonneg m' i'
      · rcases root_half hlow hr with ⟨s2, i2, he⟩ | h
        · cases he
          exact le_of_low (.inl rfl)
        · exact le_of_low h
theorem rv_write_bound {k : FloatKind} {s : Bool} {m : Nat} {p e : Int} (h : (m : Rat) * p2 p ≤ p2 e) (he : -126 ≤ e) (he1 : e < 126) : Fin k (some (k.format.write (.number s m p))) ∧ Ab (rv k (k.format.write (.number s m p))) (p2 (e + 1)) := by
  have hlt : p2 e < p2 127 := by
    have h1 : p2 (e + 1) ≤ p2 127 := p2_mono (by omega)
    have h2 : p2 (e + 1) = p2 e * p2 1 := p2_add e 1
    have h3 : p2 1 = 2 := by decide +kernel
    have h4 := p2_pos e
    rw [h2, h3] at h1
    grind
  obtain ⟨h1, h2⟩ := write_near k s m p (p2 e) h (p2_mono he) hlt
  refine ⟨h1, ?_⟩
  have hu : uk k ≤ 1 := by
    have e0 : p2 0 = 1 := by decide +kernel
    have : uk k ≤ p2 0 := p2_mono (by cases k <;> decide)
    rw [e0] at this
    exact this
  have hm := Rat.mul_le_mul_of_nonneg_left hu (Rat.le_of_lt (p2_pos e))
  rw [Rat.mul_one] at hm
  have h5 : p2 (e + 1) = p2 e * p2 1 := p2_add e 1
  have h6 : p2 1 = 2 := by decide +kernel
  rw [h6] at h5
  have h7 := mp_nonneg m p
  obtain ⟨n1, n2⟩ := h2
  rw [dv_num] at n1 n2
  cases s <;> simp only [sg, Bool.false_eq_true, if_false, if_true] at n1 n2 <;> constructor <;> grind
/-- A float's root: finite, not less than 0, bounded. -/
theorem root_fin {c : Option Nat} (hf : Fin .f32 c) (h0 : 0 ≤ cv .f32 c) (h1 : cv .f32 c ≤ p2 40) : Fin .f32 (rootC c) ∧ 0 ≤ cv .f32 (rootC c) ∧ cv .f32 (rootC c) ≤ p2 23 := by
  cases c with
  | none => exact hf.elim
  | some b =>
    have h0 : 0 ≤ rv .f32 b := h0
    have h1 : rv .f32 b ≤ p2 40 := h1
    have hb : Ab (rv .f32 b) (p2 126) := ⟨Rat.le_trans h1 (p2_mono (by decide)), by have := p2_pos 126; grind⟩
    obtain ⟨f1, v1⟩ := widen_val hf hb
    unfold rootC
    cases hw : fcv .f32 .f64 (some b) with
    | none => rw [hw] at f1; exact f1.elim
    | some y =>
      rw [hw] at f1 v1
      have v1 : rv .f64 y = rv .f32 b := v1
      obtain ⟨s, m, p, hr⟩ := fin_read f1
      have hd : rv .f64 y = dv (.number s m p) := by unfold rv; rw [hr]
      obtain ⟨s', m', p', hroot, hd0, hd1⟩ := root_dv (digits := FloatKind.f64.format.fractionBits + 2) (e := 20) (by rw [← hd, v1]; exact h0) (by rw [← hd, v1]; exact h1)
      have hs : sqrtC (some y) = some (FloatKind.f64.format.write (.number s' m' p')) := by
        show FloatKind.f64.format.sqrt y = _
        unfold Ieee.Format.sqrt
        rw [hr, hroot]
        rfl
      rw [hs]
      have hlt : p2 (20 + 1) < p2 127 := by decide +kernel
      have hn := write_nonneg (k := .f64) hd0 (rlt_of_le_of_lt hd1 hlt)
      obtain ⟨f2, b2⟩ := rv_write_bound (k := .f64) (s := s') hd1 (by decide) (by decide)
      generalize FloatKind.f64.format.write (.number s' m' p') = z at hn f2 b2 ⊢
      obtain ⟨s2, m2, p3, hr2⟩ := fin_read f2
      have hd2 : rv .f64 z = dv (.number s2 m2 p3) := by unfold rv; rw [hr2]
      have hX2 : (m2 : Rat) * p2 p3 ≤ p2 (20 + 1 + 1) := by
        rw [hd2, dv_num] at b2
        exact mag_of_ab b2
      obtain ⟨f3, b3⟩ := rv_write_bound (k := .f32) (s := s2) hX2 (by decide) (by decide)
      have hlt2 : p2 (20 + 1 + 1) < p2 127 := by decide +kernel
      have hn3 := write_nonneg (k := .f32) (s := s2) (m := m2) (p := p3) (by rw [← hd2]; exact hn) (rlt_of_le_of_lt hX2 hlt2)
      have he : fcv .f64 .f32 (some z) = some (FloatKind.f32.format.write (.number s2 m2 p3)) := by
        show floatToFloatBits .f64 z .f32 = _
        have hrz : FloatKind.f64.decode z = .number s2 m2 p3 := hr2
        unfold floatToFloatBits
        rw [if_neg (by decide), hrz]
        dsimp only
        obtain ⟨m4, k4, hr4, _⟩ := read_fin FloatKind.f32.format _ f3
        have hni : (FloatKind.f32.decode (FloatKind.f32.encode (.number s2 m2 p3))).isInfinity = false := by
          have : FloatKind.f32.decode (FloatKind.f32.encode (.number s2 m2 p3)) = _ := hr4
          rw [this]
          rfl
        rw [hni]
        rfl
      rw [he]
      exact ⟨f3, hn3, b3.le⟩
end Go.Proofs.Ytefnlalldgbcaaa

namespace Go.Proofs.Ytefnlalldgbcaaa
open Go.RowKit

/-! ## halves -/
/-- The kept digits depend on the number alone. -/
theorem cut_scale (neg : Bool) (n d k : Nat) (hn : n ≠ 0) : Ieee.Toward.cut .even neg (n * 2 ^ k) (d + k) = Ieee.Toward.cut .even neg n d := by
  have hl : (n * 2 ^ k).log2 = n.log2 + k := by
    rw [Nat.log2_eq_iff (Nat.mul_ne_zero hn (Nat.ne_of_gt (Nat.two_pow_pos k)))]
    have h1 := Nat.log2_self_le hn
    have h2 : n < 2 ^ (n.log2 + 1) := Nat.lt_log2_self
    constructor
    · rw [Nat.pow_add]; exact Nat.mul_le_mul_right _ h1
    · rw [show n.log2 + k + 1 = (n.log2 + 1) + k by omega, Nat.pow_add]; exact Nat.mul_lt_mul_of_pos_right h2 (Nat.two_pow_pos k)
  unfold Ieee.Toward.cut
  dsimp only
  rw [hl, Nat.shiftLeft_eq, Nat.shiftLeft_eq, Nat.one_mul, Nat.one_mul, show min (d + k) (n.log2 + k + 2) = min d (n.log2 + 2) + k by omega, Nat.pow_add]
  generalize 2 ^ min d (n.log2 + 2) = G
  have hp : 0 < 2 ^ k := Nat.two_pow_pos k
  generalize 2 ^ k = K at hp
  rw [Nat.mul_div_mul_right _ _ hp, Nat.mul_mod_mul_right]
  congr 2
  have e1 : decide (G * K < 2 * (n % G * K)) = decide (G < 2 * (n % G)) := by
    rw [← Nat.mul_assoc]
    exact decide_eq_decide.2 (Nat.mul_lt_mul_right hp)
  have e2 : (G * K == 2 * (n % G * K)) = (G == 2 * (n % G)) := by
    rw [← Nat.mul_assoc]
    by_cases h : G = 2 * (n % G)
    · simp only [h.symm, beq_self_eq_true]
    · have h' : ¬ G * K = 2 * (n % G) * K := fun hh => h (Nat.eq_of_mul_eq_mul_right hp hh)
      rw [beq_eq_false_iff_ne.2 h, beq_eq_false_iff_ne.2 h']
  rw [e1, e2]
theorem write_scale (f : Ieee.Format) (s : Bool) (m : Nat) (p : Int) (k : Nat) : f.write (.number s (m * 2 ^ k) (p - k)) = f.write (.number s m p) := by
  show f.nearest s (m * 2 ^ k) (p - k) = f.nearest s m p
  unfold Ieee.Format.nearest
  by_cases hm : m = 0
  · subst hm; simp
  · have hmk : m * 2 ^ k ≠ 0 := Nat.mul_ne_zero hm (Nat.ne_of_gt (Nat.two_pow_pos k))
    rw [if_neg hm, if_neg hmk]
    have hl : (m * 2 ^ k).log2 = m.log2 + k := by
      rw [Nat.log2_eq_iff hmk]
      have h1 := Nat.log2_self_le hm
      have h2 : m < 2 ^ (m.log2 + 1) := Nat.lt_log2_self
      constructor
      · rw [Nat.pow_add]; exact Nat.mul_le_mul_right _ h1
      · rw [show m.log2 + k + 1 = (m.log2 + 1) + k by omega, Nat.pow_add]; exact Nat.mul_lt_mul_of_pos_right h2 (Nat.two_pow_pos k)
    dsimp only
    have hlast : max (p - k + ((m * 2 ^ k).log2 : Nat) - f.fractionBits) f.leastPlace = max (p + (m.log2 : Nat) - f.fractionBits) f.leastPlace := by rw [hl]; omega
    rw [hlast]
    generalize max (p + (m.log2 : Nat) - f.fractionBits) f.leastPlace = last
    rw [Nat.shiftLeft_eq, Nat.shiftLeft_eq]
    congr 3
    -- the places above and below
    have key : Ieee.Toward.cut .even s (m * 2 ^ k * 2 ^ (p - k - last).toNat) (last - (p - k)).toNat = Ieee.Toward.cut .even s (m * 2 ^ (p - last).toNat) (last - p).toNat := by
      rcases Int.le_total last (p - k) with h | h
      · have e1 : (last - (p - k)).toNat = 0 := by omega
        have e2 : (last - p).toNat = 0 := by omega
        have e3 : (p - last).toNat = k + (p - k - last).toNat := by omega
        rw [e1, e2, e3, Nat.pow_add, Nat.mul_assoc]
      · have e1 : (p - k - last).toNat = 0 := by omega
        rw [e1, Nat.pow_zero, Nat.mul_one]
        rcases Int.le_total last p with h' | h'
        · have e2 : (last - p).toNat = 0 := by omega
          obtain ⟨u, hu⟩ : ∃ u : Nat, k = (p - last).toNat + u := ⟨k - (p - last).toNat, by omega⟩
          have e3 : (last - (p - k)).toNat = 0 + u := by omega
          rw [e2, e3]
          conv => lhs; rw [hu, Nat.pow_add, ← Nat.mul_assoc]
          exact cut_scale s _ 0 u (Nat.mul_ne_zero hm (Nat.ne_of_gt (Nat.two_pow_pos _)))
        · have e2 : (p - last).toNat = 0 := by omega
          have e3 : (last - (p - k)).toNat = (last - p).toNat + k := by omega
          rw [e2, e3, Nat.pow_zero, Nat.mul_one]
          exact cut_scale s m _ k hm
    exact key

theorem log2_p23 : (8388608 : Nat).log2 = 23 := by decide +kernel
/-- Half of a float. -/
theorem half_eq (c : Option Nat) (hc : ∀ x, c = some x → x < 2 ^ 32) : fop .quo .f32 c (some 1073741824) = fop .mul .f32 (some 1056964608) c := by
  cases c with
  | none => rfl
  | some x =>
    have hx := hc x rfl
    have r2 : FloatKind.f32.format.read 1073741824 = .number false 8388608 (-22) := by decide +kernel
    have rh : FloatKind.f32.format.read 1056964608 = .number false 8388608 (-24) := by decide +kernel
    show (Ieee.Datum.quotient (FloatKind.f32.format.fractionBits + 2) (FloatKind.f32.format.read x) (FloatKind.f32.format.read 1073741824)).map FloatKind.f32.format.write = (Ieee.Datum.product (FloatKind.f32.format.read 1056964608) (FloatKind.f32.format.read x)).map FloatKind.f32.format.write
    rw [r2, rh]
    cases hr : FloatKind.f32.format.read x with
    | nan s t => rfl
    | infinity s => cases s <;> rfl
    | number s m i =>
      have hfb : FloatKind.f32.format.fractionBits = 23 := by decide
      have hm24 : m < 2 ^ 24 := by
        unfold Ieee.Format.read at hr
        dsimp only at hr
        have hbin : FloatKind.f32.format.binade = 8388608 := by decide
        split at hr
        · simp only [Ieee.Datum.number.injEq] at hr; omega
        · split at hr
          · have := Nat.mod_lt (x % FloatKind.f32.format.signWeight) (binade_pos FloatKind.f32.format)
            simp only [Ieee.Datum.number.injEq] at hr
            omega
          · split at hr <;> cases hr
      simp only [Ieee.Datum.quotient, Ieee.Datum.product, hfb, log2_p23]
      rw [if_neg (by decide)]
      simp only [Option.map_some, Option.some.injEq]
      have hlog : m.log2 ≤ 23 := by
        by_cases h0 : m = 0
        · subst h0; decide
        · have := (Nat.log2_lt h0).2 hm24; omega
      obtain ⟨q, hq⟩ : ∃ q : Nat, 23 + 2 + 23 - m.log2 = 23 + q := ⟨25 - m.log2, by omega⟩
      rw [hq, Nat.shiftLeft_eq]
      have e23 : (2 : Nat) ^ 23 = 8388608 := by decide
      have hd : m * 2 ^ (23 + q) = 8388608 * (m * 2 ^ q) := by rw [Nat.pow_add, e23, ← Nat.mul_assoc, Nat.mul_comm m 8388608, Nat.mul_assoc]
      rw [hd, Nat.mul_div_cancel_left _ (by decide), Nat.mul_mod_right]
      have hb : ((0 : Nat) != 0) = false := rfl
      rw [hb]
      simp only [Bool.toNat_false, Nat.add_zero]
      have hs : (s ^^ false) = (false ^^ s) := by cases s <;> rfl
      rw [hs]
      -- both are m, scaled
      have w1 := write_scale FloatKind.f32.format (false ^^ s) m (i - 1) (q + 1)
      have w2 := write_scale FloatKind.f32.format (false ^^ s) m (i - 1) 23
      have a1 : 2 * (m * 2 ^ q) = m * 2 ^ (q + 1) := by rw [Nat.pow_succ, ← Nat.mul_assoc m, Nat.mul_comm 2]
      have a2 : 8388608 * m = m * 2 ^ 23 := by rw [e23]; omega
      have p1 : i - (-22) - ((23 + q : Nat) : Int) - 1 = i - 1 - ((q + 1 : Nat) : Int) := by omega
      have p2' : (-24 : Int) + i = i - 1 - ((23 : Nat) : Int) := by omega
      rw [a1, a2, p1, p2', w1, w2]
end Go.Proofs.Ytefnlalldgbcaaa
