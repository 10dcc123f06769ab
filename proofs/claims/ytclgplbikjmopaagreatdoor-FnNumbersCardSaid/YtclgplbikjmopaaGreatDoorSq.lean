/-
  Square roots of float32s, done in float64, fit into float32 again: bounds of exponents.
-/
import Derived.Test.YtclgplbikjmopaaGreatDoorNum
namespace Go.Proofs.YtclgplbikjmopaaGreatDoor
open Go.RowKit

/-- A datum's exponent is at most e. -/
def DLow : Ieee.Datum → Int → Prop
  | .number _ m p, e => m = 0 ∨ p + (m.log2 : Int) ≤ e
  | _, _ => True

theorem cut_le (neg : Bool) (n drop t : Nat) (h : n < 2 ^ (t + drop)) : Ieee.Toward.cut .even neg n drop ≤ 2 ^ t := by
  unfold Ieee.Toward.cut
  dsimp only
  generalize hg : (1 <<< min drop (n.log2 + 2)) = gap
  have hg' : gap = 2 ^ min drop (n.log2 + 2) := by rw [← hg, Nat.one_shiftLeft]
  have hpos : 0 < gap := by rw [hg']; exact Nat.two_pow_pos _
  have hlow : n / gap < 2 ^ t := by
    rcases Nat.le_total drop (n.log2 + 2) with hd | hd
    · rw [hg', Nat.min_eq_left hd]
      exact Nat.div_lt_of_lt_mul (by rw [← Nat.pow_add, Nat.add_comm]; exact h)
    · rw [hg', Nat.min_eq_right hd]
      have : n < 2 ^ (n.log2 + 2) := Nat.lt_of_lt_of_le Nat.lt_log2_self (Nat.pow_le_pow_right (by decide) (by omega))
      rw [Nat.div_eq_of_lt this]
      exact Nat.two_pow_pos _
  generalize (decide (gap < 2 * (n % gap)) || gap == 2 * (n % gap) && n / gap % 2 == 1) = b
  cases b <;> simp <;> omega

theorem rung_word (f : Ieee.Format) (neg : Bool) (r : Nat) (h : r < f.signWeight) : rung f (f.word neg r) = r := (read_word f neg r h).2

theorem rung_write (f : Ieee.Format) (s : Bool) (m : Nat) (p e : Int) (he : f.leastPlace + f.fractionBits ≤ e) (h : DLow (.number s m p) e) :
    rung f (f.write (.number s m p)) ≤ (e - f.fractionBits - f.leastPlace).toNat * f.binade + 2 * f.binade := by
  unfold Ieee.Format.write Ieee.Format.nearest
  dsimp only
  by_cases h0 : m = 0
  · rw [if_pos h0, rung_word f s 0 (Nat.two_pow_pos _)]
    omega
  · rw [if_neg h0]
    have h1 : p + (m.log2 : Int) ≤ e := by rcases h with h | h; exact absurd h h0; exact h
    generalize hl : max (p + (m.log2 : Int) - (f.fractionBits : Int)) f.leastPlace = last
    have hlast : last ≤ e - f.fractionBits := by omega
    have hcut : Ieee.Toward.cut .even s (m <<< (p - last).toNat) (last - p).toNat ≤ 2 ^ (f.fractionBits + 1) := by
      apply cut_le
      rw [Nat.shiftLeft_eq]
      calc m * 2 ^ (p - last).toNat < 2 ^ (m.log2 + 1) * 2 ^ (p - last).toNat := Nat.mul_lt_mul_of_pos_right Nat.lt_log2_self (Nat.two_pow_pos _)
        _ = 2 ^ (m.log2 + 1 + (p - last).toNat) := (Nat.pow_add ..).symm
        _ ≤ _ := Nat.pow_le_pow_right (by decide) (by omega)
    have hb : 2 ^ (f.fractionBits + 1) = 2 * f.binade := by unfold Ieee.Format.binade; rw [Nat.pow_succ, Nat.mul_comm]
    rw [hb] at hcut
    rw [rung_word f s _ (Nat.lt_of_le_of_lt (Nat.min_le_right ..) f.infRung_lt)]
    refine Nat.le_trans (Nat.min_le_left ..) ?_
    have : (last - f.leastPlace).toNat ≤ (e - f.fractionBits - f.leastPlace).toNat := by omega
    exact Nat.add_le_add (Nat.mul_le_mul_right _ this) hcut

theorem read_low (f : Ieee.Format) (x q : Nat) (h : rung f x ≤ q * f.binade + 2 * f.binade) : DLow (f.read x) (f.leastPlace + q + 1 + f.fractionBits) := by
  have hB := binade_pos f
  by_cases hf : rung f x < f.infRung
  · obtain ⟨m, k, hr, hm, hk⟩ := read_fin f x hf
    rw [hr]
    by_cases h0 : m = 0
    · exact .inl h0
    · refine .inr ?_
      have hkq : k ≤ q + 1 := by
        rw [hk]
        have : rung f x / f.binade ≤ q + 2 := by
          have h' : rung f x ≤ (q + 2) * f.binade := by rw [Nat.add_mul]; exact h
          calc rung f x / f.binade ≤ (q + 2) * f.binade / f.binade := Nat.div_le_div_right h'
            _ = q + 2 := Nat.mul_div_cancel _ hB
        omega
      have hm2 : m < 2 ^ (f.fractionBits + 1) := by
        have hb : 2 ^ (f.fractionBits + 1) = 2 * f.binade := by unfold Ieee.Format.binade; rw [Nat.pow_succ, Nat.mul_comm]
        rw [hb]
        unfold mag at hm
        split at hm
        · have hk0 : k = 0 := by rw [hk, Nat.div_eq_of_lt ‹_›]
          rw [hk0] at hm
          omega
        · rw [← hk] at hm
          have h1 := Nat.eq_of_mul_eq_mul_right (Nat.two_pow_pos k) hm
          have h2 := Nat.mod_lt (rung f x) hB
          omega
      have hlog : m.log2 < f.fractionBits + 1 := (Nat.log2_lt h0).2 hm2
      omega
  · unfold rung at hf
    unfold Ieee.Format.read
    dsimp only
    have hb : ¬ x % f.signWeight < f.binade ∨ f.infRung < f.binade := by omega
    split
    · rename_i hlt
      by_cases h0 : x % f.signWeight = 0
      · exact .inl h0
      · refine .inr ?_
        have : (x % f.signWeight).log2 < f.fractionBits := (Nat.log2_lt h0).2 hlt
        omega
    · split <;> trivial

theorem rw_low (f : Ieee.Format) (s : Bool) (m : Nat) (p e : Int) (he : f.leastPlace + f.fractionBits ≤ e) (h : DLow (.number s m p) e) : DLow (f.read (f.write (.number s m p))) (e + 1) := by
  have h1 := read_low f _ _ (rung_write f s m p e he h)
  have : f.leastPlace + ((e - f.fractionBits - f.leastPlace).toNat : Int) + 1 + f.fractionBits = e + 1 := by omega
  rw [this] at h1
  exact h1

theorem rootFrom_sq (n : Nat) : ∀ (k r : Nat), r * r ≤ n → Ieee.Datum.rootFrom n k r * Ieee.Datum.rootFrom n k r ≤ n
  | 0, r, h => h
  | k + 1, r, h => by
    unfold Ieee.Datum.rootFrom
    dsimp only
    split
    · exact rootFrom_sq n k _ ‹_›
    · exact rootFrom_sq n k _ h

theorem two_mul_log (T : Nat) (w b : Nat) (hb : b ≤ 1) (h : 2 ^ (T + 1) ≤ 2 * w + b) : 2 ^ T ≤ w := by
  rw [Nat.pow_succ] at h
  omega

/-- The root's exponent is halved; what is needed here is less. -/
theorem root_half {digits : Nat} {d d' : Ieee.Datum} {e : Int} (h : DLow d (2 * e)) (hr : Ieee.Datum.root digits d = some d') : (∃ s i, d' = .number s 0 i) ∨ DLow d' e := by
  cases d with
  | nan s t => simp [Ieee.Datum.root] at hr
  | infinity s =>
    simp only [Ieee.Datum.root] at hr
    split at hr
    · cases hr
    · cases hr; exact .inr trivial
  | number s m i =>
    simp only [Ieee.Datum.root] at hr
    split at hr
    · cases hr; rename_i h0; exact .inl ⟨_, _, by rw [h0]⟩
    · split at hr
      · cases hr
      · rename_i h0 _
        have hlow : i + (m.log2 : Int) ≤ 2 * e := by rcases h with h | h; exact absurd h h0; exact h
        generalize hm0 : 2 * digits - m.log2 = more0 at hr
        generalize hm1 : more0 + ((i - (more0 : Int)) % 2).toNat = more at hr
        have heven : (i - (more : Int)) % 2 = 0 := by omega
        generalize hw : Ieee.Datum.rootFrom (m <<< more) ((m <<< more).log2 / 2 + 1) 0 = w at hr
        have hsq : w * w ≤ m <<< more := by rw [← hw]; exact rootFrom_sq _ _ _ (by simp)
        cases hr
        right
        by_cases hz : 2 * w + (w * w != m <<< more).toNat = 0
        · exact .inl hz
        · refine .inr ?_
          have hb : (w * w != m <<< more).toNat ≤ 1 := by cases (w * w != m <<< more) <;> simp
          generalize (w * w != m <<< more).toNat = b at hb hz
          have hT := Nat.log2_self_le hz
          generalize (2 * w + b).log2 = T at hT
          cases T with
          | zero => omega
          | succ T =>
            have h1 := two_mul_log T w b hb hT
            have h2 : 2 ^ (T + T) < 2 ^ (m.log2 + 1 + more) := by
              calc 2 ^ (T + T) = 2 ^ T * 2 ^ T := Nat.pow_add ..
                _ ≤ w * w := Nat.mul_le_mul h1 h1
                _ ≤ m * 2 ^ more := by rw [← Nat.shiftLeft_eq]; exact hsq
                _ < 2 ^ (m.log2 + 1) * 2 ^ more := Nat.mul_lt_mul_of_pos_right Nat.lt_log2_self (Nat.two_pow_pos _)
                _ = _ := (Nat.pow_add ..).symm
            have h3 := (Nat.pow_lt_pow_iff_right (by decide)).1 h2
            omega

/-- A float64 of a small exponent fits into float32. -/
theorem narrow (r : Nat) (e : Int) (he : e ≤ 126) (h : DLow (FloatKind.f64.decode r) e) (hn : (FloatKind.f64.decode r).isNaN = false) : ∃ q, floatToFloatBits .f64 r .f32 = some q := by
  have hB : Ieee.single.binade = 2 ^ 23 := by decide
  have hI : Ieee.single.infRung = 255 * 2 ^ 23 := by decide
  have hL : Ieee.single.leastPlace = -149 := by decide
  have hF : Ieee.single.fractionBits = 23 := by decide
  unfold floatToFloatBits
  rw [if_neg (by decide)]
  cases hd : FloatKind.f64.decode r with
  | nan s t => rw [hd] at hn; cases hn
  | infinity s => exact ⟨_, rfl⟩
  | number s m p =>
    dsimp only
    rw [hd] at h
    have h' : DLow (.number s m p) 126 := h.imp id (fun h => Int.le_trans h he)
    have hr := rung_write Ieee.single s m p 126 (by rw [hL, hF]; decide) h'
    have hlt : rung Ieee.single (Ieee.single.write (.number s m p)) < Ieee.single.infRung := by
      rw [hL, hF, hB] at hr
      rw [hI]
      have : (126 - ((23 : Nat) : Int) - -149).toNat = 252 := by decide
      rw [this] at hr
      omega
    obtain ⟨m', k', hr', _⟩ := read_fin Ieee.single _ hlt
    have hni : (FloatKind.f32.decode (FloatKind.f32.encode (.number s m p))).isInfinity = false := by
      have : FloatKind.f32.decode (FloatKind.f32.encode (.number s m p)) = _ := hr'
      rw [this]
      rfl
    rw [hni]
    exact ⟨_, rfl⟩

/-- A float32's exponent. -/
theorem low32 (x : Nat) : DLow (FloatKind.f32.decode x) 129 := by
  have hB : Ieee.single.binade = 2 ^ 23 := by decide
  have hI : Ieee.single.infRung = 255 * 2 ^ 23 := by decide
  have hS : Ieee.single.signWeight = 256 * 2 ^ 23 := by decide
  have hL : Ieee.single.leastPlace = -149 := by decide
  have hF : Ieee.single.fractionBits = 23 := by decide
  have h : rung Ieee.single x ≤ 254 * Ieee.single.binade + 2 * Ieee.single.binade := by
    unfold rung
    rw [hB, hS]
    have := Nat.mod_lt x (show 0 < 256 * 2 ^ 23 by decide)
    omega
  have h1 := read_low Ieee.single x 254 h
  rw [hL, hF] at h1
  exact h1

/-- The class of a root. -/
def sqrtC (c : Option Nat) : Option Nat := c.bind FloatKind.f64.format.sqrt

theorem sqrt_none {x : Nat} (h : cl .f64 x = none) : FloatKind.f64.format.sqrt x = none := by
  obtain ⟨s, t, h⟩ := cl_none.1 h
  have h' : FloatKind.f64.format.read x = .nan s t := h
  simp [Ieee.Format.sqrt, h', Ieee.Datum.root]

theorem sqrtC_cl (x : Nat) : sqrtC (cl .f64 x) = FloatKind.f64.format.sqrt x := by
  cases h : cl .f64 x with
  | none => rw [sqrt_none h]; rfl
  | some y => rw [(cl_some h).1]; rfl

theorem sqrt_not_nan {x r : Nat} (h : FloatKind.f64.format.sqrt x = some r) : cl .f64 r = some r := by
  unfold Ieee.Format.sqrt at h
  cases hd : Ieee.Datum.root (FloatKind.f64.format.fractionBits + 2) (FloatKind.f64.format.read x) with
  | none => rw [hd] at h; cases h
  | some d =>
    rw [hd] at h
    cases h
    unfold cl FloatKind.decode
    rw [not_nan_write FloatKind.f64.format d (root_not_nan hd)]
    simp

/-- The root of a widened float32 fits into float32. -/
theorem fits_root {b : Nat} {c : Option Nat} (h : Is .f32 b c) : fits .f64 .f32 (sqrtC (fcv .f32 .f64 c)) := by
  intro r hr
  cases c with
  | none => simp [fcv, sqrtC] at hr
  | some x =>
    obtain ⟨rfl, hn⟩ := cl_some h.2
    obtain ⟨y, hy, _⟩ := widen x hn
    have hr' : FloatKind.f64.format.sqrt y = some r := by simpa [fcv, sqrtC, hy] using hr
    have hL : Ieee.double.leastPlace = -1074 := by decide
    have hF : Ieee.double.fractionBits = 52 := by decide
    -- y is low
    have hlow : DLow (FloatKind.f64.decode y) 130 := by
      have hx := low32 x
      unfold floatToFloatBits at hy
      rw [if_neg (by decide)] at hy
      split at hy
      · cases hy
      · rename_i s _
        cases hy
        have : FloatKind.f64.decode (FloatKind.f64.encode (.infinity s)) = _ := read_inf Ieee.double (bb .f64) _ (rung_word Ieee.double s Ieee.double.infRung (by decide))
        rw [this]
        trivial
      · rename_i s m p hd
        rw [hd] at hx
        split at hy
        · cases hy
        · cases hy
          exact rw_low Ieee.double s m p 129 (by rw [hL, hF]; decide) hx
    unfold Ieee.Format.sqrt at hr'
    cases hd : Ieee.Datum.root (FloatKind.f64.format.fractionBits + 2) (FloatKind.f64.format.read y) with
    | none => rw [hd] at hr'; cases hr'
    | some d =>
      rw [hd] at hr'
      cases hr'
      have hn' : (FloatKind.f64.decode (FloatKind.f64.format.write d)).isNaN = false := not_nan_write FloatKind.f64.format d (root_not_nan hd)
      have hlow' : DLow d 65 := by
        rcases root_half (e := 65) hlow hd with ⟨s, i, rfl⟩ | h
        · exact .inl rfl
        · exact h
      refine narrow _ 66 (by decide) ?_ hn'
      cases d with
      | nan s t => have := root_not_nan hd; cases this
      | infinity s =>
        have : FloatKind.f64.decode (FloatKind.f64.format.write (.infinity s)) = _ := read_inf Ieee.double (bb .f64) _ (rung_word Ieee.double s Ieee.double.infRung (by decide))
        rw [this]
        trivial
      | number s m p => exact rw_low Ieee.double s m p 65 (by rw [hL, hF]; decide) hlow'
end Go.Proofs.YtclgplbikjmopaaGreatDoor
