/-
  FnCircles: logarithms: what one operation costs; halves are exact.
-/
import Derived.Test.YtlllekaiickkoaaCx
import Derived.Test.YtlllekaiickkoaaQr
namespace Go.Proofs.Ytlllekaiickkoaa
open Go.RowKit

theorem bw_of {α : Type} (r : Nat) (k : Nat → Option α) : bw (some r) k = k r := force_eq r k
theorem bw2_of {α : Type} (a b : Nat) (k : Nat → Nat → Option α) : bw2 (some (a, b)) k = k a b := rfl
theorem rdF_mk {α : Type} {f : Ieee.Format} {x : Nat} {k : Bool → Nat → Int → Option α} {s : Bool} {m : Nat} {p : Int} (h : f.read x = .number s m p) : rdF f x k = k s m p := by
  unfold rdF
  simp only [force_eq, forceI_eq]
  unfold Ieee.Format.read at h
  dsimp only at h
  split at h
  · rename_i h1
    rw [if_pos h1]
    cases h
    rfl
  · rename_i h1
    rw [if_neg h1]
    split at h
    · rename_i h2
      rw [if_pos h2]
      cases h
      rfl
    · split at h <;> cases h
abbrev F (a : Nat) : Prop := Fin .f64 (some a)
abbrev rvd (a : Nat) : Rat := rv .f64 a
theorem mulF_fin {a b : Nat} (ha : F a) (hb : F b) : mulW a b = fop .mul .f64 (some a) (some b) := by
  obtain ⟨s, m, i, hr⟩ := fin_read ha
  obtain ⟨t, n, j, hs⟩ := fin_read hb
  show mulF a b = _
  unfold mulF
  rw [rdF_mk hr, rdF_mk hs]
  simp only [force_eq, forceI_eq, ← nearF_eq]
  show _ = (Ieee.Datum.product (FloatKind.f64.format.read a) (FloatKind.f64.format.read b)).map _
  rw [hr, hs]
  rfl
theorem addF_fin {a b : Nat} (ha : F a) (hb : F b) : addW a b = fop .add .f64 (some a) (some b) := by
  obtain ⟨s, m, i, hr⟩ := fin_read ha
  obtain ⟨t, n, j, hs⟩ := fin_read hb
  show addF a b = _
  unfold addF
  rw [rdF_mk hr, rdF_mk hs, sumF_eq]
  show _ = (Ieee.Datum.sum (FloatKind.f64.format.read a) (FloatKind.f64.format.read b)).map _
  rw [hr, hs]
theorem subF_fin {a b : Nat} (ha : F a) (hb : F b) : subW a b = fop .sub .f64 (some a) (some b) := by
  obtain ⟨s, m, i, hr⟩ := fin_read ha
  obtain ⟨t, n, j, hs⟩ := fin_read hb
  show subF a b = _
  unfold subF
  rw [rdF_mk hr, rdF_mk hs, sumF_eq]
  show _ = (Ieee.Datum.sum (FloatKind.f64.format.read a) (FloatKind.f64.format.read b).opposite).map _
  rw [hr, hs]
  rfl
theorem quoW_eq (a b : Nat) : quoW a b = fop .quo .f64 (some a) (some b) := by
  unfold quoW
  split
  · rename_i q hq
    exact (quoF_some hq).symm
  · rfl

/-! ## one operation -/
abbrev eta : Rat := 1 / 1000000000
theorem p2m53 : uk .f64 = 1 / 9007199254740992 := by show p2 (-53) = _; decide +kernel
theorem big0 : p2 (-126) ≤ (4096 : Rat) := by decide +kernel
theorem big1 : (2 * 4096 : Rat) < p2 127 := by decide +kernel
theorem big2 : (4096 : Rat) < p2 127 := by decide +kernel
theorem fin_some {k : FloatKind} {c : Option Nat} (h : Fin k c) : ∃ r, c = some r := by
  cases c with
  | none => exact h.elim
  | some r => exact ⟨r, rfl⟩
theorem near_eta {x y : Rat} (h : Near x y (4096 * uk .f64)) : Near x y eta := by
  obtain ⟨h1, h2⟩ := h
  rw [p2m53] at h1 h2
  exact ⟨by grind, by grind⟩
theorem mul1 {a b : Nat} (ha : F a) (hb : F b) (h : Ab (rvd a * rvd b) 4096) : ∃ r, mulW a b = some r ∧ F r ∧ Near (rvd r) (rvd a * rvd b) eta := by
  obtain ⟨h1, h2⟩ := mul_near ha hb h big0 big2
  obtain ⟨r, hr⟩ := fin_some h1
  rw [hr] at h1 h2
  exact ⟨r, by rw [mulF_fin ha hb, hr], h1, near_eta h2⟩
theorem add1 {a b : Nat} (ha : F a) (hb : F b) (h : Ab (rvd a + rvd b) 4096) : ∃ r, addW a b = some r ∧ F r ∧ Near (rvd r) (rvd a + rvd b) eta := by
  obtain ⟨h1, h2⟩ := add_near ha hb h big0 big2
  obtain ⟨r, hr⟩ := fin_some h1
  rw [hr] at h1 h2
  exact ⟨r, by rw [addF_fin ha hb, hr], h1, near_eta h2⟩
theorem sub1 {a b : Nat} (ha : F a) (hb : F b) (h : Ab (rvd a - rvd b) 4096) : ∃ r, subW a b = some r ∧ F r ∧ Near (rvd r) (rvd a - rvd b) eta := by
  obtain ⟨h1, h2⟩ := sub_near ha hb h big0 big2
  obtain ⟨r, hr⟩ := fin_some h1
  rw [hr] at h1 h2
  exact ⟨r, by rw [subF_fin ha hb, hr], h1, near_eta h2⟩
theorem quo1 {a b : Nat} (ha : F a) (hb : F b) (h0 : rvd b ≠ 0) (h : Ab (rvd a / rvd b) 4096) : ∃ r, quoW a b = some r ∧ F r ∧ Near (rvd r) (rvd a / rvd b) eta := by
  obtain ⟨h1, h2, h3⟩ := quo_near ha hb h0 h big0 big1
  obtain ⟨r, hr⟩ := fin_some h1
  rw [hr] at h1 h2 h3
  refine ⟨r, by rw [quoW_eq, hr], h1, ?_⟩
  rw [p2m53] at h2 h3
  exact ⟨by show rv .f64 r ≤ _; have : cv .f64 (some r) = rv .f64 r := rfl; grind, by show _ ≤ rv .f64 r + _; have : cv .f64 (some r) = rv .f64 r := rfl; grind⟩

/-! ## exact steps -/
theorem read_w2 : FloatKind.f64.format.read w2 = .number false 4503599627370496 (-51) := by decide +kernel
theorem read_lt {a : Nat} {s : Bool} {m : Nat} {p : Int} (h : FloatKind.f64.format.read a = .number s m p) : m < 2 ^ 53 := by
  have hb : FloatKind.f64.format.binade = 4503599627370496 := by decide +kernel
  have e : (2 : Nat) ^ 53 = 9007199254740992 := by decide
  rw [e]
  unfold Ieee.Format.read at h
  dsimp only at h
  rw [hb] at h
  split at h
  · cases h; omega
  · split at h
    · cases h
      have := Nat.mod_lt (a % FloatKind.f64.format.signWeight) (show 4503599627370496 > 0 by decide)
      omega
    · split at h <;> cases h
theorem Ex'.half {c : Option Nat} {j q : Int} (h : Ex' .f64 c j q) (hj : j.natAbs < 2 ^ 24) (hq : -140 ≤ q) (hq1 : q ≤ 100) : Ex' .f64 (fop .quo .f64 c (some w2)) j (q - 1) := by
  obtain ⟨a, rfl, ha, va⟩ := h.ex
  obtain ⟨s, m, p, hr⟩ := fin_read ha
  have hm := read_lt hr
  have e : fop .quo .f64 (some a) (some w2) = (Ieee.Datum.quotient 54 (.number s m p) (.number false 4503599627370496 (-51))).map FloatKind.f64.format.write := by
    show (Ieee.Datum.quotient (FloatKind.f64.format.fractionBits + 2) (FloatKind.f64.format.read a) (FloatKind.f64.format.read w2)).map _ = _
    rw [hr, read_w2]
    rfl
  rw [e]
  have hl : Nat.log2 4503599627370496 = 52 := by decide +kernel
  have hml : m.log2 ≤ 52 := by
    by_cases h0 : m = 0
    · subst h0; decide
    · have := (Nat.log2_lt h0).2 hm
      omega
  obtain ⟨t, ht⟩ : ∃ t, 54 + Nat.log2 4503599627370496 - m.log2 = t + 52 := ⟨54 - m.log2, by omega⟩
  have hd : m <<< (t + 52) = m * 2 ^ t * 4503599627370496 := by
    rw [Nat.shiftLeft_eq, Nat.pow_add, Nat.mul_assoc]
  simp only [Ieee.Datum.quotient, if_neg (show ¬ (4503599627370496 : Nat) = 0 by decide), ht, hd, Nat.mul_div_cancel _ (show 0 < 4503599627370496 by decide), Nat.mul_mod_left, bne_self_eq_false, Bool.toNat_false, Nat.add_zero, Option.map_some, Bool.xor_false]
  refine write_ex ?_ hj (by omega) (by omega)
  have va : sg s * ((m : Rat) * p2 p) = (j : Rat) * p2 q := by
    unfold rv at va
    rw [hr] at va
    exact va
  show sg s * (((2 * (m * 2 ^ t) : Nat) : Rat) * p2 (p - -51 - ((t + 52 : Nat) : Int) - 1)) = (j : Rat) * p2 (q - 1)
  have h1 : p2 p = ((2 * 2 ^ t : Nat) : Rat) * p2 (p - -51 - ((t + 52 : Nat) : Int) - 1) * 2 := by
    have e1 : ((2 * 2 ^ t : Nat) : Rat) = p2 ((t + 1 : Nat) : Int) := by
      rw [p2_nat, Nat.pow_succ, Nat.mul_comm]
    have e2 : (2 : Rat) = p2 1 := by decide +kernel
    rw [e1]
    conv => rhs; rw [e2]
    rw [← p2_add, ← p2_add]
    congr 1
    omega
  have h2 : p2 q = p2 (q - 1) * 2 := by
    have e2 : (2 : Rat) = p2 1 := by decide +kernel
    conv => rhs; rw [e2]
    rw [← p2_add]
    congr 1
    omega
  rw [h1, h2] at va
  have h3 : ((2 * (m * 2 ^ t) : Nat) : Rat) = (m : Rat) * ((2 * 2 ^ t : Nat) : Rat) := by
    rw [← Rat.natCast_mul]
    congr 1
    rw [Nat.mul_left_comm]
  rw [h3]
  grind
end Go.Proofs.Ytlllekaiickkoaa
