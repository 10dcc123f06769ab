/-
  What floats stand for, as rational numbers; what rounding costs.
-/
import Derived.Test.YtclgplbikjmopaaGreatDoorSq
namespace Go.Proofs.YtclgplbikjmopaaGreatDoor
open Go.RowKit

theorem rlt_of_le_of_lt {a b c : Rat} (h : a ≤ b) (h' : b < c) : a < c := by grind

/-! ## powers of two -/
def p2 (e : Int) : Rat := (2 : Rat) ^ e
theorem p2_pos (e : Int) : 0 < p2 e := Rat.zpow_pos (by decide)
theorem p2_add (a b : Int) : p2 (a + b) = p2 a * p2 b := Rat.zpow_add (by decide) a b
theorem p2_nat (n : Nat) : p2 (n : Int) = ((2 ^ n : Nat) : Rat) := by
  unfold p2
  rw [Rat.zpow_natCast, Rat.natCast_pow]
  rfl
theorem p2_one_le {n : Nat} : 1 ≤ p2 (n : Int) := by
  rw [p2_nat]
  have : (1 : Nat) ≤ 2 ^ n := Nat.one_le_two_pow
  exact_mod_cast this
theorem p2_mono {a b : Int} (h : a ≤ b) : p2 a ≤ p2 b := by
  obtain ⟨n, hn⟩ := Int.le.dest h
  rw [← hn, p2_add]
  have h1 := p2_one_le (n := n)
  have h2 := p2_pos a
  have := Rat.mul_le_mul_of_nonneg_left h1 (Rat.le_of_lt h2)
  rwa [Rat.mul_one] at this
theorem p2_lt {a b : Int} (h : p2 a < p2 b) : a < b := by
  rcases Int.lt_or_le a b with h1 | h1
  · exact h1
  · have := p2_mono h1
    exact absurd h (Rat.not_lt.2 this)
theorem p2_inj {a b : Int} (h : p2 a = p2 b) : a = b := by
  rcases Int.lt_trichotomy a b with h1 | h1 | h1
  · have h2 : p2 (a + 1) ≤ p2 b := p2_mono h1
    rw [p2_add, ← h] at h2
    have h3 := p2_pos a
    have e : p2 1 = 2 := by decide +kernel
    rw [e] at h2
    grind
  · exact h1
  · have h2 : p2 (b + 1) ≤ p2 a := p2_mono h1
    rw [p2_add, h] at h2
    have h3 := p2_pos b
    have e : p2 1 = 2 := by decide +kernel
    rw [e] at h2
    grind

/-! ## data -/
def sg (s : Bool) : Rat := if s then -1 else 1
/-- What a datum stands for. -/
def dv : Ieee.Datum → Rat
  | .number s m p => sg s * ((m : Rat) * p2 p)
  | _ => 0
/-- What a word stands for. -/
def rv (k : FloatKind) (x : Nat) : Rat := dv (k.format.read x)

theorem signed_val (s : Bool) (m k : Nat) : ((Ieee.signed s m k : Int) : Rat) = sg s * ((m : Rat) * p2 (k : Int)) := by
  rw [signed_eq, p2_nat]
  cases s
  · show (((m * 2 ^ k : Nat) : Int) : Rat) = 1 * ((m : Rat) * ((2 ^ k : Nat) : Rat))
    rw [Rat.intCast_natCast, Rat.natCast_mul, Rat.one_mul]
  · show ((-((m * 2 ^ k : Nat) : Int) : Int) : Rat) = -1 * ((m : Rat) * ((2 ^ k : Nat) : Rat))
    rw [Rat.intCast_neg, Rat.intCast_natCast, Rat.natCast_mul]
    grind

theorem sum_val {s t : Bool} {m n : Nat} {i j : Int} {d : Ieee.Datum} (h : Ieee.Datum.sum (.number s m i) (.number t n j) = some d) : ∃ u r e, d = .number u r e ∧ dv d = dv (.number s m i) + dv (.number t n j) := by
  simp only [Ieee.Datum.sum] at h
  cases h
  refine ⟨_, _, _, rfl, ?_⟩
  have h1 := signed_val s m (i - min i j).toNat
  have h2 := signed_val t n (j - min i j).toNat
  have e1 : (((i - min i j).toNat : Nat) : Int) + min i j = i := by omega
  have e2 : (((j - min i j).toNat : Nat) : Int) + min i j = j := by omega
  generalize hA : Ieee.signed s m (i - min i j).toNat = A at h1
  generalize hB : Ieee.signed t n (j - min i j).toNat = B at h2
  have g1 : dv (.number s m i) = (A : Rat) * p2 (min i j) := by
    show sg s * ((m : Rat) * p2 i) = _
    rw [h1, ← e1, p2_add, e1]
    grind
  have g2 : dv (.number t n j) = (B : Rat) * p2 (min i j) := by
    show sg t * ((n : Rat) * p2 j) = _
    rw [h2, ← e2, p2_add, e2]
    grind
  rw [g1, g2]
  show sg _ * (((A + B).natAbs : Rat) * p2 (min i j)) = _
  have key : sg (if A + B = 0 then s && t else decide (A + B < 0)) * ((A + B).natAbs : Rat) = (A : Rat) + (B : Rat) := by
    rw [← Rat.intCast_add]
    generalize A + B = T
    by_cases h0 : T = 0
    · subst h0; simp
    · rw [if_neg h0]
      by_cases hneg : T < 0
      · have : ((T.natAbs : Int) : Rat) = ((-T : Int) : Rat) := by congr 1; omega
        rw [Rat.intCast_natCast] at this
        simp only [hneg, decide_true, sg, if_true, this, Rat.intCast_neg]
        grind
      · have : ((T.natAbs : Int) : Rat) = ((T : Int) : Rat) := by congr 1; omega
        rw [Rat.intCast_natCast] at this
        simp only [hneg, decide_false, sg, Bool.false_eq_true, if_false, this]
        grind
  rw [← Rat.mul_assoc, key]
  grind

theorem prod_val {s t : Bool} {m n : Nat} {i j : Int} {d : Ieee.Datum} (h : Ieee.Datum.product (.number s m i) (.number t n j) = some d) : ∃ u r e, d = .number u r e ∧ dv d = dv (.number s m i) * dv (.number t n j) := by
  simp only [Ieee.Datum.product] at h
  cases h
  refine ⟨_, _, _, rfl, ?_⟩
  show sg (s ^^ t) * (((m * n : Nat) : Rat) * p2 (i + j)) = (sg s * (m * p2 i)) * (sg t * (n * p2 j))
  rw [p2_add, Rat.natCast_mul]
  cases s <;> cases t <;> simp [sg] <;> grind

/-! ## rounding -/
theorem cut_err (neg : Bool) (n drop : Nat) : 2 * (Ieee.Toward.cut .even neg n drop * 2 ^ drop) ≤ 2 * n + 2 ^ drop ∧ 2 * n ≤ 2 * (Ieee.Toward.cut .even neg n drop * 2 ^ drop) + 2 ^ drop := by
  unfold Ieee.Toward.cut
  dsimp only
  rw [Nat.shiftLeft_eq, Nat.one_mul]
  have hlog : n < 2 ^ (n.log2 + 1) := Nat.lt_log2_self
  rcases Nat.le_total drop (n.log2 + 2) with hd | hd
  · rw [Nat.min_eq_left hd]
    have hp : 0 < 2 ^ drop := Nat.two_pow_pos _
    generalize 2 ^ drop = G at hp
    have e := Nat.div_add_mod n G
    have hm := Nat.mod_lt n hp
    generalize n / G = q at e
    generalize n % G = r at e hm
    subst e
    by_cases hc : (decide (G < 2 * r) || (G == 2 * r && q % 2 == 1)) = true
    · rw [hc]
      simp only [Bool.toNat_true]
      rw [Nat.add_mul, Nat.one_mul, Nat.mul_comm q G]
      simp at hc
      omega
    · simp only [Bool.not_eq_true] at hc
      rw [hc]
      simp only [Bool.toNat_false, Nat.add_zero]
      rw [Nat.mul_comm q G]
      simp at hc
      omega
  · rw [Nat.min_eq_right hd]
    have h4 : 2 ^ (n.log2 + 2) = 2 * 2 ^ (n.log2 + 1) := by rw [Nat.pow_succ 2 (n.log2 + 1)]; omega
    have hle : 2 ^ (n.log2 + 2) ≤ 2 ^ drop := Nat.pow_le_pow_right (by decide) hd
    rw [Nat.div_eq_of_lt (by omega), Nat.mod_eq_of_lt (by omega)]
    have hc : (decide (2 ^ (n.log2 + 2) < 2 * n) || (2 ^ (n.log2 + 2) == 2 * n && 0 % 2 == 1)) = false := by
      simp
      omega
    rw [hc]
    simp
    omega

theorem cut_ge (neg : Bool) (n drop t : Nat) (h : 2 ^ (t + drop) ≤ n) : 2 ^ t ≤ Ieee.Toward.cut .even neg n drop := by
  have hlog : t + drop ≤ n.log2 := (Nat.le_log2 (by have := Nat.two_pow_pos (t + drop); omega)).2 h
  unfold Ieee.Toward.cut
  dsimp only
  rw [Nat.shiftLeft_eq, Nat.one_mul, Nat.min_eq_left (by omega)]
  have h1 : 2 ^ t ≤ n / 2 ^ drop := by
    rw [Nat.le_div_iff_mul_le (Nat.two_pow_pos _), ← Nat.pow_add]
    exact h
  omega

theorem cut_exact (neg : Bool) (n drop : Nat) (hn : n ≠ 0) (h : n % 2 ^ drop = 0) : Ieee.Toward.cut .even neg n drop * 2 ^ drop = n := by
  have hle : 2 ^ drop ≤ n := Nat.le_of_dvd (by omega) (Nat.dvd_of_mod_eq_zero h)
  have hlog : drop ≤ n.log2 := (Nat.le_log2 hn).2 hle
  unfold Ieee.Toward.cut
  dsimp only
  rw [Nat.shiftLeft_eq, Nat.one_mul, Nat.min_eq_left (by omega), h]
  have hp : 0 < 2 ^ drop := Nat.two_pow_pos _
  have hc : (decide (2 ^ drop < 2 * 0) || (2 ^ drop == 2 * 0 && n / 2 ^ drop % 2 == 1)) = false := by
    simp
  rw [hc]
  simp only [Bool.toNat_false, Nat.add_zero]
  exact Nat.div_mul_cancel (Nat.dvd_of_mod_eq_zero h)

/-- The magnitude of a rung that is told by its binade and the kept digits. -/
theorem mag_kept (f : Ieee.Format) (t kept : Nat) (h2 : kept ≤ 2 * f.binade) (h1 : t = 0 ∨ f.binade ≤ kept) : mag f (t * f.binade + kept) = kept * 2 ^ t := by
  have hB := binade_pos f
  unfold mag
  generalize f.binade = B at *
  rcases h1 with rfl | h1
  · rw [Nat.zero_mul, Nat.zero_add, Nat.pow_zero, Nat.mul_one]
    by_cases hk : kept < B
    · rw [if_pos hk]
    · rw [if_neg hk]
      by_cases hk2 : kept = 2 * B
      · subst hk2
        rw [Nat.mul_mod_left, Nat.mul_div_cancel _ hB]
        omega
      · have e : kept / B = 1 := by
          rw [Nat.div_eq_iff hB]
          omega
        have e2 := Nat.div_add_mod kept B
        rw [e] at e2 ⊢
        simp
        omega
  · have hge : ¬ (t * B + kept < B) := by have := Nat.zero_le (t * B); omega
    rw [if_neg hge]
    by_cases hk2 : kept = 2 * B
    · subst hk2
      have e : t * B + 2 * B = (t + 2) * B := by rw [Nat.add_mul]
      rw [e, Nat.mul_mod_left, Nat.mul_div_cancel _ hB]
      have : t + 2 - 1 = t + 1 := by omega
      rw [this, Nat.pow_succ]
      rw [Nat.add_zero, Nat.mul_comm (2 ^ t) 2, ← Nat.mul_assoc, Nat.mul_comm B 2]
    · have hd : (t * B + kept) / B = t + 1 := by
        rw [Nat.mul_comm t B, Nat.mul_add_div hB]
        congr 1
        rw [Nat.div_eq_iff hB]
        omega
      have hm : (t * B + kept) % B = kept - B := by
        have e2 := Nat.div_add_mod (t * B + kept) B
        rw [hd, Nat.mul_add, Nat.mul_one, Nat.mul_comm B t] at e2
        omega
      rw [hd, hm]
      have : B + (kept - B) = kept := by omega
      rw [this]
      rfl

theorem rv_fin (k : FloatKind) (x : Nat) (h : rung k.format x < k.format.infRung) : rv k x = sg (sgn k.format x) * ((mag k.format (rung k.format x) : Rat) * p2 k.format.leastPlace) := by
  obtain ⟨m, j, hr, hm, _⟩ := read_fin k.format x h
  unfold rv
  rw [hr]
  show sg _ * ((m : Rat) * p2 (k.format.leastPlace + (j : Int))) = _
  rw [← hm, p2_add, p2_nat, Rat.natCast_mul]
  grind

/-- How a number is written: the place of its last digit, the digits that are kept. -/
theorem write_shape (k : FloatKind) (s : Bool) (m : Nat) (p : Int) (hm : m ≠ 0) (hX : (m : Rat) * p2 p < p2 127) :
    ∃ (last : Int) (kept up dn : Nat), last = max (p + m.log2 - k.format.fractionBits) k.format.leastPlace ∧ (p - last = up - dn) ∧ (up = 0 ∨ dn = 0) ∧ kept = Ieee.Toward.cut .even s (m * 2 ^ up) dn ∧
      rung k.format (k.format.write (.number s m p)) < k.format.infRung ∧ sgn k.format (k.format.write (.number s m p)) = s ∧ rv k (k.format.write (.number s m p)) = sg s * ((kept : Rat) * p2 last) := by
  have hlow : 2 ^ m.log2 ≤ m := Nat.log2_self_le hm
  have hhigh : m < 2 ^ (m.log2 + 1) := Nat.lt_log2_self
  have hpl : p2 (p + m.log2) ≤ (m : Rat) * p2 p := by
    rw [p2_add, p2_nat, Rat.mul_comm]
    exact Rat.mul_le_mul_of_nonneg_right (by exact_mod_cast hlow) (Rat.le_of_lt (p2_pos p))
  have hE : p + m.log2 < 127 := p2_lt (rlt_of_le_of_lt hpl hX)
  generalize hlast : max (p + m.log2 - k.format.fractionBits) k.format.leastPlace = last
  generalize hk : Ieee.Toward.cut .even s (m * 2 ^ (p - last).toNat) (last - p).toNat = kept
  have hw : k.format.write (.number s m p) = k.format.word s (min ((last - k.format.leastPlace).toNat * k.format.binade + kept) k.format.infRung) := by
    show k.format.nearest s m p = _
    unfold Ieee.Format.nearest
    rw [if_neg hm]
    dsimp only
    rw [hlast, Nat.shiftLeft_eq, hk]
  have hfb : k.format.fractionBits = 23 ∧ k.format.leastPlace = -149 ∧ k.format.binade = 8388608 ∧ k.format.infRung = 255 * 8388608 ∨ k.format.fractionBits = 52 ∧ k.format.leastPlace = -1074 ∧ k.format.binade = 4503599627370496 ∧ k.format.infRung = 2047 * 4503599627370496 := by
    cases k
    · left; decide
    · right; decide
  have hkle : kept ≤ 2 ^ (k.format.fractionBits + 1) := by
    rw [← hk]
    apply cut_le
    have : m * 2 ^ (p - last).toNat < 2 ^ (m.log2 + 1) * 2 ^ (p - last).toNat := Nat.mul_lt_mul_of_pos_right hhigh (Nat.two_pow_pos _)
    rw [← Nat.pow_add] at this
    exact Nat.lt_of_lt_of_le this (Nat.pow_le_pow_right (by decide) (by omega))
  have hB2 : 2 ^ (k.format.fractionBits + 1) = 2 * k.format.binade := by
    unfold Ieee.Format.binade
    rw [Nat.pow_succ]; omega
  rw [hB2] at hkle
  have hkge : (last - k.format.leastPlace).toNat = 0 ∨ k.format.binade ≤ kept := by
    rcases Int.lt_or_le k.format.leastPlace last with h1 | h1
    · right
      rw [← hk]
      unfold Ieee.Format.binade
      apply cut_ge
      have : 2 ^ m.log2 * 2 ^ (p - last).toNat ≤ m * 2 ^ (p - last).toNat := Nat.mul_le_mul_right _ hlow
      rw [← Nat.pow_add] at this
      refine Nat.le_trans (Nat.pow_le_pow_right (by decide) ?_) this
      omega
    · left; omega
  have hR : (last - k.format.leastPlace).toNat * k.format.binade + kept < k.format.infRung := by
    rcases hfb with ⟨h1, h2, h3, h4⟩ | ⟨h1, h2, h3, h4⟩
    · rw [h3] at hkle
      rw [h3, h4]
      have : (last - k.format.leastPlace).toNat ≤ 252 := by omega
      omega
    · rw [h3] at hkle
      rw [h3, h4]
      have : (last - k.format.leastPlace).toNat ≤ 2044 := by omega
      omega
  rw [Nat.min_eq_left (Nat.le_of_lt hR)] at hw
  have hlt := Nat.lt_trans hR k.format.infRung_lt
  have hrg : rung k.format (k.format.write (.number s m p)) = (last - k.format.leastPlace).toNat * k.format.binade + kept := by rw [hw]; exact rung_word _ _ _ hlt
  have hsg : sgn k.format (k.format.write (.number s m p)) = s := by rw [hw]; exact sgn_word _ _ _ hlt
  refine ⟨last, kept, (p - last).toNat, (last - p).toNat, rfl, by omega, by omega, hk.symm, by rw [hrg]; exact hR, hsg, ?_⟩
  rw [rv_fin k _ (by rw [hrg]; exact hR), hrg, hsg, mag_kept _ _ _ hkle hkge]
  have e : last = ((last - k.format.leastPlace).toNat : Int) + k.format.leastPlace := by omega
  rw [Rat.natCast_mul, ← p2_nat]
  conv => rhs; rw [e, p2_add]
  grind

/-- Half a unit in the last place, of numbers up to one. -/
def ue : FloatKind → Int
  | .f32 => -24
  | .f64 => -53
def uk (k : FloatKind) : Rat := p2 (ue k)
theorem uk_pos (k : FloatKind) : 0 < uk k := p2_pos _

/-- Two numbers are near to each other. -/
structure Near (x y e : Rat) : Prop where
  le : x ≤ y + e
  ge : y ≤ x + e

theorem sg_near {s : Bool} {x y e : Rat} (h : Near x y e) : Near (sg s * x) (sg s * y) e := by
  obtain ⟨h1, h2⟩ := h
  cases s <;> simp only [sg, Bool.false_eq_true, if_true, if_false] <;> constructor <;> grind

theorem write_zero (k : FloatKind) (s : Bool) (p : Int) : rung k.format (k.format.write (.number s 0 p)) < k.format.infRung ∧ rv k (k.format.write (.number s 0 p)) = 0 := by
  have h0 : k.format.write (.number s 0 p) = k.format.word s 0 := by
    show k.format.nearest s 0 p = _
    unfold Ieee.Format.nearest
    simp
  have hlt : 0 < k.format.signWeight := Nat.two_pow_pos _
  have hr : rung k.format (k.format.word s 0) = 0 := rung_word _ _ _ hlt
  have hi : 0 < k.format.infRung := by cases k <;> decide
  rw [h0]
  refine ⟨by rw [hr]; exact hi, ?_⟩
  rw [rv_fin k _ (by rw [hr]; exact hi), hr]
  have : mag k.format 0 = 0 := by
    unfold mag
    rw [if_pos (binade_pos _)]
  rw [this]
  simp

/-- What rounding costs. -/
theorem write_near (k : FloatKind) (s : Bool) (m : Nat) (p : Int) (M : Rat) (hX : (m : Rat) * p2 p ≤ M) (hM0 : p2 (-126) ≤ M) (hM1 : M < p2 127) :
    rung k.format (k.format.write (.number s m p)) < k.format.infRung ∧ Near (rv k (k.format.write (.number s m p))) (dv (.number s m p)) (M * uk k) := by
  have hu := uk_pos k
  by_cases hm : m = 0
  · subst hm
    obtain ⟨h1, h2⟩ := write_zero k s p
    refine ⟨h1, ?_⟩
    rw [h2]
    have h3 : 0 ≤ M := by have := p2_pos (-126); grind
    have h4 : 0 ≤ M * uk k := Rat.mul_nonneg h3 (Rat.le_of_lt hu)
    have h5 : dv (.number s 0 p) = 0 := by simp [dv]
    rw [h5]
    constructor <;> grind
  · obtain ⟨last, kept, up, dn, hlast, hud, hor, hk, hfin, _, hv⟩ := write_shape k s m p hm (rlt_of_le_of_lt hX hM1)
    refine ⟨hfin, ?_⟩
    rw [hv]
    refine sg_near ?_
    obtain ⟨c1, c2⟩ := cut_err s (m * 2 ^ up) dn
    rw [← hk] at c1 c2
    have q1 : 2 * ((kept : Rat) * p2 dn) ≤ 2 * ((m : Rat) * p2 up) + p2 dn := by
      rw [p2_nat, p2_nat]
      exact_mod_cast c1
    have q2 : 2 * ((m : Rat) * p2 up) ≤ 2 * ((kept : Rat) * p2 dn) + p2 dn := by
      rw [p2_nat, p2_nat]
      exact_mod_cast c2
    -- in units of 2 ^ (last - dn)
    have hz := p2_pos (last - dn)
    have e1 : p2 last = p2 dn * p2 (last - dn) := by rw [← p2_add]; congr 1; omega
    have e2 : p2 p = p2 up * p2 (last - dn) := by rw [← p2_add]; congr 1; omega
    have r1 := Rat.mul_le_mul_of_nonneg_right q1 (Rat.le_of_lt hz)
    have r2 := Rat.mul_le_mul_of_nonneg_right q2 (Rat.le_of_lt hz)
    have e3 : p2 last = 2 * p2 (last - 1) := by
      have : p2 last = p2 1 * p2 (last - 1) := by rw [← p2_add]; congr 1; omega
      rw [this]
      congr 1
    have t1 : (kept : Rat) * p2 last ≤ (m : Rat) * p2 p + p2 (last - 1) := by rw [e1, e2]; grind
    have t2 : (m : Rat) * p2 p ≤ (kept : Rat) * p2 last + p2 (last - 1) := by rw [e1, e2]; grind
    have hlow : 2 ^ m.log2 ≤ m := Nat.log2_self_le hm
    have hpl : p2 (p + m.log2) ≤ M := by
      refine Rat.le_trans ?_ hX
      rw [p2_add, p2_nat, Rat.mul_comm]
      exact Rat.mul_le_mul_of_nonneg_right (by exact_mod_cast hlow) (Rat.le_of_lt (p2_pos p))
    have hlast' : p2 (last - 1) ≤ M * uk k := by
      have step : ∀ e : Int, p2 e ≤ M → last - 1 ≤ e + ue k → p2 (last - 1) ≤ M * uk k := by
        intro e he hle
        refine Rat.le_trans (p2_mono hle) ?_
        rw [p2_add]
        exact Rat.mul_le_mul_of_nonneg_right he (Rat.le_of_lt hu)
      have hfb : (k = .f32 ∧ k.format.fractionBits = 23 ∧ k.format.leastPlace = -149) ∨ (k = .f64 ∧ k.format.fractionBits = 52 ∧ k.format.leastPlace = -1074) := by
        cases k
        · left; decide
        · right; decide
      rcases hfb with ⟨rfl, h1, h2⟩ | ⟨rfl, h1, h2⟩
      · rcases Int.le_total (-126) (p + m.log2) with h3 | h3
        · exact step _ hpl (by simp only [ue]; omega)
        · exact step (-126) hM0 (by simp only [ue]; omega)
      · rcases Int.le_total (-126) (p + m.log2) with h3 | h3
        · exact step _ hpl (by simp only [ue]; omega)
        · exact step (-126) hM0 (by simp only [ue]; omega)
    constructor <;> grind

/-- What has few digits is written as it is. -/
theorem write_exact (k : FloatKind) (s : Bool) (m : Nat) (p : Int) (j : Nat) (q : Int) (hX : (m : Rat) * p2 p = (j : Rat) * p2 q) (hj : j < 2 ^ 24) (hq : -149 ≤ q) (hM1 : (m : Rat) * p2 p < p2 127) :
    rung k.format (k.format.write (.number s m p)) < k.format.infRung ∧ rv k (k.format.write (.number s m p)) = dv (.number s m p) := by
  by_cases hm : m = 0
  · subst hm
    obtain ⟨h1, h2⟩ := write_zero k s p
    exact ⟨h1, by rw [h2]; simp [dv]⟩
  · obtain ⟨last, kept, up, dn, hlast, hud, hor, hk, hfin, _, hv⟩ := write_shape k s m p hm hM1
    refine ⟨hfin, ?_⟩
    rw [hv]
    show _ = sg s * ((m : Rat) * p2 p)
    congr 1
    have hlow : 2 ^ m.log2 ≤ m := Nat.log2_self_le hm
    have hpl : p2 (p + m.log2) ≤ (m : Rat) * p2 p := by
      rw [p2_add, p2_nat, Rat.mul_comm]
      exact Rat.mul_le_mul_of_nonneg_right (by exact_mod_cast hlow) (Rat.le_of_lt (p2_pos p))
    have hlt : p2 (p + m.log2) < p2 (24 + q) := by
      refine rlt_of_le_of_lt hpl ?_
      rw [hX, p2_add]
      refine Rat.mul_lt_mul_of_pos_right ?_ (p2_pos q)
      have : p2 24 = ((2 ^ 24 : Nat) : Rat) := p2_nat 24
      rw [this]
      exact_mod_cast hj
    have hE := p2_lt hlt
    have hlq : last ≤ q := by
      have hfb : (k.format.fractionBits = 23 ∧ k.format.leastPlace = -149) ∨ (k.format.fractionBits = 52 ∧ k.format.leastPlace = -1074) := by
        cases k
        · left; decide
        · right; decide
      omega
    have hn : m * 2 ^ up ≠ 0 := Nat.mul_ne_zero hm (Nat.ne_of_gt (Nat.two_pow_pos _))
    have hdiv : m * 2 ^ up % 2 ^ dn = 0 := by
      rcases hor with h0 | h0
      · subst h0
        -- p ≤ last ≤ q: m = j * 2 ^ (q - p)
        have hpq : p ≤ q := by omega
        have hmj : m = j * 2 ^ (q - p).toNat := by
          have e : p2 q = p2 ((q - p).toNat : Nat) * p2 p := by rw [← p2_add]; congr 1; omega
          rw [e, ← Rat.mul_assoc] at hX
          have hp0 := p2_pos p
          have h1 : (m : Rat) = (j : Rat) * p2 ((q - p).toNat : Nat) := by
            apply Rat.le_antisymm
            · exact Rat.le_of_mul_le_mul_right (by rw [hX]; exact Rat.le_refl) hp0
            · exact Rat.le_of_mul_le_mul_right (by rw [hX]; exact Rat.le_refl) hp0
          rw [p2_nat] at h1
          exact_mod_cast h1
        rw [hmj, Nat.pow_zero, Nat.mul_one]
        have : (q - p).toNat = ((q - p).toNat - dn) + dn := by omega
        rw [this, Nat.pow_add, ← Nat.mul_assoc]
        exact Nat.mul_mod_left _ _
      · subst h0
        simp [Nat.mod_one]
    have hc := cut_exact s (m * 2 ^ up) dn hn hdiv
    rw [← hk] at hc
    have hc' : (kept : Rat) * p2 dn = (m : Rat) * p2 up := by
      rw [p2_nat, p2_nat]
      exact_mod_cast hc
    have e1 : p2 last = p2 dn * p2 (last - dn) := by rw [← p2_add]; congr 1; omega
    have e2 : p2 p = p2 up * p2 (last - dn) := by rw [← p2_add]; congr 1; omega
    rw [e1, e2, ← Rat.mul_assoc, ← Rat.mul_assoc, hc']
end Go.Proofs.YtclgplbikjmopaaGreatDoor
