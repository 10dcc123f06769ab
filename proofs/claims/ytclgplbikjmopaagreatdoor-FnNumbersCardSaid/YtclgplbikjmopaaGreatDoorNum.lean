/-
  Facts of the two formats: words of one sign that compare equal are equal; widening keeps the sign and never overflows.
-/
import Derived.Test.YtclgplbikjmopaaGreatDoorFl
namespace Go.Proofs.YtclgplbikjmopaaGreatDoor
open Go.RowKit

/-- The magnitude of a rung, in units of the least place. -/
def mag (f : Ieee.Format) (r : Nat) : Nat := if r < f.binade then r else (f.binade + r % f.binade) * 2 ^ (r / f.binade - 1)

theorem binade_pos (f : Ieee.Format) : 0 < f.binade := Nat.two_pow_pos _

theorem mag_lt (f : Ieee.Format) {r r' : Nat} (h : r < r') : mag f r < mag f r' := by
  have hB := binade_pos f
  unfold mag
  generalize f.binade = B at hB
  have e1 := Nat.div_add_mod r B
  have e2 := Nat.div_add_mod r' B
  have m1 := Nat.mod_lt r hB
  have m2 := Nat.mod_lt r' hB
  have hq : r / B ≤ r' / B := Nat.div_le_div_right (Nat.le_of_lt h)
  by_cases h1 : r < B
  · rw [if_pos h1]
    by_cases h2 : r' < B
    · rw [if_pos h2]; exact h
    · rw [if_neg h2]
      have : 1 ≤ 2 ^ (r' / B - 1) := Nat.one_le_two_pow
      calc r < B := h1
        _ ≤ (B + r' % B) * 1 := by omega
        _ ≤ _ := Nat.mul_le_mul_left _ this
  · have h2 : ¬ r' < B := by omega
    rw [if_neg h1, if_neg h2]
    have hq1 : 1 ≤ r / B := Nat.div_pos (by omega) hB
    rcases Nat.lt_or_eq_of_le hq with hlt | heq
    · have hp : 2 ^ (r / B) ≤ 2 ^ (r' / B - 1) := Nat.pow_le_pow_right (by decide) (by omega)
      have hs : 2 ^ (r / B) = 2 ^ (r / B - 1) * 2 := by rw [← Nat.pow_succ]; congr 1; omega
      have hpos : 0 < 2 ^ (r / B - 1) := Nat.two_pow_pos _
      calc (B + r % B) * 2 ^ (r / B - 1) < (B * 2) * 2 ^ (r / B - 1) := Nat.mul_lt_mul_of_pos_right (by omega) hpos
        _ = B * 2 ^ (r / B) := by rw [hs, Nat.mul_assoc, Nat.mul_comm 2]
        _ ≤ B * 2 ^ (r' / B - 1) := Nat.mul_le_mul_left _ hp
        _ ≤ _ := Nat.mul_le_mul_right _ (by omega)
    · have hm : r % B < r' % B := by rw [heq] at e1; omega
      rw [heq]
      exact Nat.mul_lt_mul_of_pos_right (by omega) (Nat.two_pow_pos _)

theorem mag_inj (f : Ieee.Format) {r r' : Nat} (h : mag f r = mag f r') : r = r' := by
  rcases Nat.lt_trichotomy r r' with h1 | h1 | h1
  · have := mag_lt f h1; omega
  · exact h1
  · have := mag_lt f h1; omega

theorem mag_pos (f : Ieee.Format) {r : Nat} (h : 0 < r) : 0 < mag f r := Nat.lt_of_le_of_lt (Nat.zero_le _) (mag_lt f h)

def sgn (f : Ieee.Format) (x : Nat) : Bool := x / f.signWeight % 2 == 1
def rung (f : Ieee.Format) (x : Nat) : Nat := x % f.signWeight

theorem word_eq (f : Ieee.Format) (hw : 2 ^ f.width = 2 * f.signWeight) {x y : Nat} (hx : x < 2 ^ f.width) (hy : y < 2 ^ f.width) (hs : sgn f x = sgn f y) (hr : rung f x = rung f y) : x = y := by
  have hp : 0 < f.signWeight := Nat.two_pow_pos _
  unfold sgn at hs
  unfold rung at hr
  rw [hw] at hx hy
  generalize f.signWeight = S at *
  have e1 := Nat.div_add_mod x S
  have e2 := Nat.div_add_mod y S
  have q1 : x / S < 2 := Nat.div_lt_of_lt_mul (by omega)
  have q2 : y / S < 2 := Nat.div_lt_of_lt_mul (by omega)
  have hq : x / S = y / S := by
    rw [Nat.mod_eq_of_lt q1, Nat.mod_eq_of_lt q2] at hs
    generalize x / S = a at *
    generalize y / S = b at *
    have ha : a = 0 ∨ a = 1 := by omega
    have hb : b = 0 ∨ b = 1 := by omega
    rcases ha with rfl | rfl <;> rcases hb with rfl | rfl <;> simp at hs <;> rfl
  rw [← e1, ← e2, hq, hr]

/-- What a finite word reads as. -/
theorem read_fin (f : Ieee.Format) (x : Nat) (h : rung f x < f.infRung) : ∃ (m : Nat) (k : Nat), f.read x = .number (sgn f x) m (f.leastPlace + k) ∧ m * 2 ^ k = mag f (rung f x) ∧ k = rung f x / f.binade - 1 := by
  unfold rung at *
  unfold mag Ieee.Format.read sgn
  dsimp only
  by_cases h1 : x % f.signWeight < f.binade
  · rw [if_pos h1, if_pos h1]
    refine ⟨x % f.signWeight, 0, by simp, by simp, ?_⟩
    rw [Nat.div_eq_of_lt h1]
  · rw [if_neg h1, if_pos h, if_neg h1]
    exact ⟨_, _, rfl, rfl, rfl⟩

theorem read_inf (f : Ieee.Format) (hb : f.binade ≤ f.infRung) (x : Nat) (h : rung f x = f.infRung) : f.read x = .infinity (sgn f x) := by
  unfold rung at *
  unfold Ieee.Format.read sgn
  dsimp only
  rw [if_neg (by omega), if_neg (by omega), if_pos h]

theorem rung_le (f : Ieee.Format) (hb : f.binade ≤ f.infRung) (x : Nat) (h : (f.read x).isNaN = false) : rung f x ≤ f.infRung := by
  apply Nat.le_of_not_lt
  intro hlt
  unfold rung at hlt
  unfold Ieee.Format.read at h
  dsimp only at h
  rw [if_neg (by omega), if_neg (by omega), if_neg (by omega)] at h
  cases h

theorem signed_eq (s : Bool) (m k : Nat) : Ieee.signed s m k = if s then -((m * 2 ^ k : Nat) : Int) else ((m * 2 ^ k : Nat) : Int) := by
  unfold Ieee.signed
  rw [Nat.shiftLeft_eq]

/-- How two finite words compare: as their signed magnitudes. -/
def val (f : Ieee.Format) (x : Nat) : Int := if sgn f x then -(mag f (rung f x) : Int) else (mag f (rung f x) : Int)

theorem cmp_scale (a b : Int) (k : Nat) : compare (a * ((2 ^ k : Nat) : Int)) (b * ((2 ^ k : Nat) : Int)) = compare a b := by
  have hp : (0 : Int) < ((2 ^ k : Nat) : Int) := by exact_mod_cast Nat.two_pow_pos k
  show compareOfLessAndEq _ _ = compareOfLessAndEq _ _
  unfold compareOfLessAndEq
  rcases Int.lt_trichotomy a b with h | h | h
  · rw [if_pos h, if_pos (Int.mul_lt_mul_of_pos_right h hp)]
  · subst h; simp
  · have h' := Int.mul_lt_mul_of_pos_right h hp
    rw [if_neg (by omega), if_neg (by omega), if_neg (by omega), if_neg (by omega)]

theorem order_fin (f : Ieee.Format) (x y : Nat) (hx : rung f x < f.infRung) (hy : rung f y < f.infRung) : f.order x y = some (compare (val f x) (val f y)) := by
  obtain ⟨m, k, hr, hm, _⟩ := read_fin f x hx
  obtain ⟨n, l, hs, hn, _⟩ := read_fin f y hy
  unfold Ieee.Format.order
  rw [hr, hs]
  simp only [Ieee.Datum.order]
  congr 1
  have hmin : min (f.leastPlace + (k : Int)) (f.leastPlace + (l : Int)) = f.leastPlace + ((min k l : Nat) : Int) := by omega
  rw [hmin, signed_eq, signed_eq, show (f.leastPlace + (k : Int) - (f.leastPlace + ((min k l : Nat) : Int))).toNat = k - min k l by omega,
    show (f.leastPlace + (l : Int) - (f.leastPlace + ((min k l : Nat) : Int))).toNat = l - min k l by omega]
  rw [← cmp_scale _ _ (min k l)]
  have h1 : m * 2 ^ (k - min k l) * 2 ^ min k l = mag f (rung f x) := by rw [Nat.mul_assoc, ← Nat.pow_add, ← hm]; congr 2; omega
  have h2 : n * 2 ^ (l - min k l) * 2 ^ min k l = mag f (rung f y) := by rw [Nat.mul_assoc, ← Nat.pow_add, ← hn]; congr 2; omega
  unfold val
  rw [← h1, ← h2]
  congr 1 <;> split <;> push_cast <;> simp [Int.neg_mul]

theorem order_eq_same (f : Ieee.Format) (hb : f.binade ≤ f.infRung) (hw : 2 ^ f.width = 2 * f.signWeight) {x y : Nat} (hx : x < 2 ^ f.width) (hy : y < 2 ^ f.width) (nx : (f.read x).isNaN = false) (ny : (f.read y).isNaN = false)
    (h : f.order x y = some .eq) (hs : sgn f x = sgn f y) : x = y := by
  have lx := rung_le f hb x nx
  have ly := rung_le f hb y ny
  rcases Nat.lt_or_eq_of_le lx with hx' | hx' <;> rcases Nat.lt_or_eq_of_le ly with hy' | hy'
  · rw [order_fin f x y hx' hy'] at h
    have hv : val f x = val f y := by simpa using h
    unfold val at hv
    rw [hs] at hv
    refine word_eq f hw hx hy hs (mag_inj f ?_)
    cases hc : sgn f y <;> rw [hc] at hv <;> simp at hv <;> omega
  · obtain ⟨m, k, hr, _, _⟩ := read_fin f x hx'
    have hi := read_inf f hb y hy'
    unfold Ieee.Format.order at h
    rw [hr, hi] at h
    simp only [Ieee.Datum.order] at h
    cases hc : sgn f y <;> rw [hc] at h <;> simp at h
  · obtain ⟨m, k, hr, _, _⟩ := read_fin f y hy'
    have hi := read_inf f hb x hx'
    unfold Ieee.Format.order at h
    rw [hr, hi] at h
    simp only [Ieee.Datum.order] at h
    cases hc : sgn f x <;> rw [hc] at h <;> simp at h
  · exact word_eq f hw hx hy hs (by rw [hx', hy'])

theorem order_self (f : Ieee.Format) (x : Nat) (n : (f.read x).isNaN = false) : f.order x x = some .eq := by
  unfold Ieee.Format.order
  cases h : f.read x with
  | number s m e => simp [Ieee.Datum.order]
  | infinity s => simp [Ieee.Datum.order]
  | nan s t => rw [h] at n; cases n

theorem bb (k : FloatKind) : k.format.binade ≤ k.format.infRung := by cases k <;> decide
theorem ww (k : FloatKind) : 2 ^ k.format.width = 2 * k.format.signWeight := by cases k <;> decide

/-- Same class: equal and of one sign, or both NaN. -/
theorem feqB_self (k : FloatKind) (b : Nat) (c : Nat) (h : Is k b (some c)) : ford k (some c) (some c) = some .eq := by
  obtain ⟨rfl, hn⟩ := cl_some h.2
  exact order_self k.format c hn

/-- The sign of a class. -/
def csgn (k : FloatKind) : Option Nat → Bool
  | none => false
  | some b => sgn k.format b

theorem same_of_eq {k : FloatKind} {b b' : Nat} {c c' : Option Nat} (h : Is k b c) (h' : Is k b' c') (he : ford k c c' = some .eq) (hs : csgn k c = csgn k c') : c = c' := by
  cases c with
  | none => simp [ford] at he
  | some x =>
    cases c' with
    | none => simp [ford] at he
    | some y =>
      obtain ⟨rfl, hn⟩ := cl_some h.2
      obtain ⟨rfl, hn'⟩ := cl_some h'.2
      rw [order_eq_same k.format (bb k) (ww k) h.1 h'.1 hn hn' he hs]

theorem sgn_word (f : Ieee.Format) (neg : Bool) (r : Nat) (h : r < f.signWeight) : sgn f (f.word neg r) = neg := by
  unfold sgn
  rw [(read_word f neg r h).1]
  cases neg <;> rfl

theorem min_small (t n : Nat) (h : t ≤ 1149) (hn : n < 9007199254740992) : min (t * 4503599627370496 + n) 9218868437227405312 < 9218868437227405312 := by omega

/-- A float32, widened: of the same sign. -/
theorem widen (x : Nat) (hn : (FloatKind.f32.decode x).isNaN = false) : ∃ r, floatToFloatBits .f32 x .f64 = some r ∧ sgn FloatKind.f64.format r = sgn FloatKind.f32.format x := by
  have hB : Ieee.single.binade = 2 ^ 23 := by decide
  have hI : Ieee.single.infRung = 255 * 2 ^ 23 := by decide
  have hD : Ieee.double.binade = 2 ^ 52 := by decide
  have hJ : Ieee.double.infRung = 2047 * 2 ^ 52 := by decide
  have hJ' : Ieee.double.infRung = 9218868437227405312 := by decide
  have hS : Ieee.double.signWeight = 2 ^ 63 := by decide
  have hL : Ieee.single.leastPlace = -149 := by decide
  have hM : Ieee.double.leastPlace = -1074 := by decide
  have hF : Ieee.double.fractionBits = 52 := by decide
  have hle := rung_le Ieee.single (bb .f32) x hn
  unfold floatToFloatBits
  rw [if_neg (by decide)]
  rcases Nat.lt_or_eq_of_le hle with h | h
  · obtain ⟨m, k, hr, hm, hk⟩ := read_fin Ieee.single x h
    have hk' : k ≤ 253 := by rw [hk, hB]; omega
    have hm' : m < 2 ^ 24 := by
      have := mag_lt Ieee.single (Nat.lt_of_lt_of_le (Nat.lt_succ_self (rung Ieee.single x)) (Nat.le_refl _))
      unfold mag at hm
      rw [hB] at hm hk
      split at hm
      · have hk0 : k = 0 := by rw [hk, Nat.div_eq_of_lt ‹_›]
        subst hk0
        omega
      · rw [← hk] at hm
        have := Nat.eq_of_mul_eq_mul_right (Nat.two_pow_pos k) hm
        have := Nat.mod_lt (rung Ieee.single x) (show 0 < 2 ^ 23 by decide)
        omega
    have hd : FloatKind.f32.decode x = .number (sgn Ieee.single x) m (-149 + k) := by rw [← hL]; exact hr
    rw [hd]
    have key : ∃ R, R < Ieee.double.infRung ∧ FloatKind.f64.encode (.number (sgn Ieee.single x) m (-149 + k)) = Ieee.double.word (sgn Ieee.single x) R := by
      unfold FloatKind.encode Ieee.Format.write FloatKind.format
      dsimp only
      unfold Ieee.Format.nearest
      by_cases h0 : m = 0
      · rw [if_pos h0]; exact ⟨0, by rw [hJ]; decide, rfl⟩
      · rw [if_neg h0]
        dsimp only
        have hlog : m.log2 ≤ 23 := by
          have := (Nat.log2_lt h0).2 hm'
          omega
        have hlast : max (-149 + (k : Int) + (m.log2 : Nat) - (Ieee.double.fractionBits : Nat)) Ieee.double.leastPlace = -149 + (k : Int) + (m.log2 : Nat) - 52 := by rw [hF, hM]; omega
        rw [hlast]
        have h1 : (-149 + (k : Int) - (-149 + (k : Int) + (m.log2 : Nat) - 52)).toNat = 52 - m.log2 := by omega
        have h2 : (-149 + (k : Int) + (m.log2 : Nat) - 52 - (-149 + (k : Int))).toNat = 0 := by omega
        rw [h1, h2, hM, hD]
        have hcut : Ieee.Toward.cut .even (sgn Ieee.single x) (m <<< (52 - m.log2)) 0 = m <<< (52 - m.log2) := by simp [Ieee.Toward.cut, Nat.mod_one]
        rw [hcut]
        have h3 : m <<< (52 - m.log2) < 2 ^ 53 := by
          rw [Nat.shiftLeft_eq]
          have : m < 2 ^ (m.log2 + 1) := Nat.lt_log2_self
          calc m * 2 ^ (52 - m.log2) < 2 ^ (m.log2 + 1) * 2 ^ (52 - m.log2) := Nat.mul_lt_mul_of_pos_right this (Nat.two_pow_pos _)
            _ = 2 ^ 53 := by rw [← Nat.pow_add]; congr 1; omega
        refine ⟨_, ?_, rfl⟩
        have h4 : (-149 + (k : Int) + (m.log2 : Nat) - 52 - -1074).toNat ≤ 1149 := by
          clear h3 h2 h1 hlast hd hr hm hk hle h hcut
          omega
        have h5 := min_small _ _ h4 (show m <<< (52 - m.log2) < 9007199254740992 from h3)
        rw [hJ', show (2 : Nat) ^ 52 = 4503599627370496 from by decide]
        exact h5
    obtain ⟨R, hR, he⟩ := key
    dsimp only
    rw [he]
    have hlt : R < Ieee.double.signWeight := by rw [hS]; rw [hJ] at hR; omega
    have hni : (FloatKind.f64.decode (Ieee.double.word (sgn Ieee.single x) R)).isInfinity = false := by
      have hrr : rung Ieee.double (Ieee.double.word (sgn Ieee.single x) R) = R := (read_word Ieee.double _ R hlt).2
      obtain ⟨m', k', hr', _⟩ := read_fin Ieee.double (Ieee.double.word (sgn Ieee.single x) R) (by rw [hrr]; exact hR)
      have : FloatKind.f64.decode (Ieee.double.word (sgn Ieee.single x) R) = _ := hr'
      rw [this]
      rfl
    rw [hni]
    exact ⟨_, rfl, sgn_word Ieee.double _ R hlt⟩
  · have hi : FloatKind.f32.decode x = .infinity (sgn Ieee.single x) := read_inf Ieee.single (bb .f32) x h
    rw [hi]
    exact ⟨_, rfl, sgn_word Ieee.double _ _ (by decide)⟩

theorem fits_widen {b : Nat} {c : Option Nat} (h : Is .f32 b c) : fits .f32 .f64 c := by
  intro x hx
  subst hx
  obtain ⟨rfl, hn⟩ := cl_some h.2
  obtain ⟨r, hr, _⟩ := widen x hn
  exact ⟨r, hr⟩

theorem csgn_widen {b : Nat} {c : Option Nat} (h : Is .f32 b c) : csgn .f64 (fcv .f32 .f64 c) = csgn .f32 c := by
  cases c with
  | none => rfl
  | some x =>
    obtain ⟨rfl, hn⟩ := cl_some h.2
    obtain ⟨r, hr, hs⟩ := widen x hn
    simp only [fcv, Option.bind_some, hr, csgn, hs]

end Go.Proofs.YtclgplbikjmopaaGreatDoor
