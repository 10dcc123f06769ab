/-
  FnCircles: logarithms: a number is brought between three quarters and one and a half.
-/
import Derived.Test.YtlllekaiickkoaaTa
namespace Go.Proofs.Ytlllekaiickkoaa
open Go.RowKit

def exB (x : Nat) (j q : Int) : Bool := decide (rung FloatKind.f64.format x < FloatKind.f64.format.infRung) && decide (rv .f64 x = (j : Rat) * p2 q)
theorem exB_ex {x : Nat} {j q : Int} (h : exB x j q = true) : Ex' .f64 (some x) j q := by
  unfold exB at h
  simp only [Bool.and_eq_true, decide_eq_true_eq] at h
  exact ⟨h.1, h.2⟩
theorem ex15 : Ex' .f64 (some 4609434218613702656) 3 (-1) := exB_ex (by decide +kernel)
theorem ex75 : Ex' .f64 (some 4604930618986332160) 3 (-2) := exB_ex (by decide +kernel)
theorem ex1 : Ex' .f64 (some w1) 1 0 := exB_ex (by decide +kernel)
theorem ex2 : Ex' .f64 (some w2) 1 1 := exB_ex (by decide +kernel)
theorem ex0 : Ex' .f64 (some 0) 0 0 := exB_ex (by decide +kernel)
theorem exF {x : Nat} {j q : Int} (h : Ex' .f64 (some x) j q) : F x := h.fin
theorem exV {x : Nat} {j q : Int} (h : Ex' .f64 (some x) j q) : rvd x = (j : Rat) * p2 q := h.val
theorem p2_inv (b : Nat) : p2 (-(b : Int)) * ((2 ^ b : Nat) : Rat) = 1 := by
  rw [← p2_nat, ← p2_add]
  have : -(b : Int) + b = 0 := by omega
  rw [this]
  decide +kernel
theorem inv_le {c x P B : Rat} (hP : 0 < P) (hB : 0 < B) (h : P * B = 1) : c ≤ x * P ↔ c * B ≤ x := by
  constructor
  · intro h1
    have := Rat.mul_le_mul_of_nonneg_right h1 (Rat.le_of_lt hB)
    have e : x * P * B = x := by rw [Rat.mul_assoc, h, Rat.mul_one]
    rwa [e] at this
  · intro h1
    have := Rat.mul_le_mul_of_nonneg_right h1 (Rat.le_of_lt hP)
    have e : c * B * P = c := by rw [Rat.mul_assoc, Rat.mul_comm B, h, Rat.mul_one]
    rwa [e] at this
theorem natPow_pos (b : Nat) : (0 : Rat) < ((2 ^ b : Nat) : Rat) := natPos (by have := Nat.two_pow_pos b; omega)
theorem ge15 {x K b : Nat} (h : Ex' .f64 (some x) (K : Int) (-(b : Int))) : geW x 4609434218613702656 = decide (3 * 2 ^ b ≤ 2 * K) := by
  have e := fge_iff h.fin ex15.fin
  show fgeB .f64 (some x) _ = _
  rw [e, h.val, ex15.val]
  have e1 : ((3 : Int) : Rat) * p2 (-1) = 3 / 2 := by decide +kernel
  rw [e1, Rat.intCast_natCast]
  refine decide_eq_decide.2 ((inv_le (p2_pos _) (natPow_pos b) (p2_inv b)).trans ?_)
  constructor
  · intro h1
    have h2 : ((3 * 2 ^ b : Nat) : Rat) ≤ ((2 * K : Nat) : Rat) := by
      rw [Rat.natCast_mul, Rat.natCast_mul]
      show (3 : Rat) * _ ≤ (2 : Rat) * _
      grind
    exact_mod_cast h2
  · intro h1
    have h2 : ((3 * 2 ^ b : Nat) : Rat) ≤ ((2 * K : Nat) : Rat) := by exact_mod_cast h1
    rw [Rat.natCast_mul, Rat.natCast_mul] at h2
    have h2 : (3 : Rat) * ((2 ^ b : Nat) : Rat) ≤ (2 : Rat) * (K : Rat) := h2
    grind
theorem lt75 {x K b : Nat} (h : Ex' .f64 (some x) (K : Int) (-(b : Int))) : ltW x 4604930618986332160 = decide (4 * K < 3 * 2 ^ b) := by
  have e := flt_iff h.fin ex75.fin
  show fltB .f64 (some x) _ = _
  rw [e, h.val, ex75.val]
  have e1 : ((3 : Int) : Rat) * p2 (-2) = 3 / 4 := by decide +kernel
  rw [e1, Rat.intCast_natCast]
  have h0 := inv_le (c := 3 / 4) (x := (K : Rat)) (p2_pos (-(b : Int))) (natPow_pos b) (p2_inv b)
  refine decide_eq_decide.2 ?_
  rw [← Rat.not_le, h0]
  constructor
  · intro h1
    apply Classical.byContradiction
    intro h2
    have h3 : ((3 * 2 ^ b : Nat) : Rat) ≤ ((4 * K : Nat) : Rat) := by exact_mod_cast Nat.le_of_not_lt h2
    rw [Rat.natCast_mul, Rat.natCast_mul] at h3
    have h3 : (3 : Rat) * ((2 ^ b : Nat) : Rat) ≤ (4 : Rat) * (K : Rat) := h3
    exact h1 (by grind)
  · intro h1 h2
    have h3 : ((3 * 2 ^ b : Nat) : Rat) ≤ ((4 * K : Nat) : Rat) := by
      rw [Rat.natCast_mul, Rat.natCast_mul]
      show (3 : Rat) * _ ≤ (4 : Rat) * _
      grind
    have h4 : 3 * 2 ^ b ≤ 4 * K := by exact_mod_cast h3
    omega
theorem up_ex (K : Nat) (hK : K < 2 ^ 23) : ∀ (n b x e : Nat), b ≤ 40 → n ≤ 60 → Ex' .f64 (some x) (K : Int) (-(b : Int)) → Ex' .f64 (some e) ((b : Int) - 6) 0 → 2 * K < 3 * 2 ^ (b + n) →
    ∃ x1 e1 b1 : Nat, logUp (n + 1) x e = some (x1, e1) ∧ Ex' .f64 (some x1) (K : Int) (-(b1 : Int)) ∧ Ex' .f64 (some e1) ((b1 : Int) - 6) 0 ∧ 2 * K < 3 * 2 ^ b1 ∧ b ≤ b1 ∧ (b1 = b ∨ 3 * 2 ^ b1 ≤ 4 * K) := by
  intro n
  induction n with
  | zero =>
    intro b x e hb _ hx he hk
    refine ⟨x, e, b, ?_, hx, he, hk, Nat.le_refl _, .inl rfl⟩
    rw [logUp, ge15 hx, decide_eq_false (by have : b + 0 = b := rfl; rw [this] at hk; omega)]
    rfl
  | succ n ih =>
    intro b x e hb hn hx he hk
    by_cases hc : 3 * 2 ^ b ≤ 2 * K
    · have hh := hx.half (by omega) (by omega) (by omega)
      obtain ⟨x', hx'⟩ := fin_some hh.fin
      rw [hx'] at hh
      have ha := he.add ex1 (by omega) (by omega) (by omega)
      obtain ⟨e', he'⟩ := fin_some ha.fin
      rw [he'] at ha
      have hb40 : b + 1 ≤ 40 := by
        apply Classical.byContradiction
        intro hc2
        have : 2 ^ 40 ≤ 2 ^ b := Nat.pow_le_pow_right (by decide) (by omega)
        omega
      obtain ⟨x1, e1, b1, h1, h2, h3, h4, h5, h6⟩ := ih (b + 1) x' e' hb40 (by omega) (by
        have : -(b : Int) - 1 = -((b + 1 : Nat) : Int) := by omega
        rwa [this] at hh) (by
        have : (b : Int) - 6 + 1 = ((b + 1 : Nat) : Int) - 6 := by omega
        rwa [this] at ha) (by
        have : b + 1 + n = b + (n + 1) := by omega
        rwa [this])
      refine ⟨x1, e1, b1, ?_, h2, h3, h4, by omega, .inr ?_⟩
      rotate_left
      · rcases h6 with rfl | h6
        · rw [Nat.pow_succ]; omega
        · exact h6
      rw [logUp, ge15 hx, decide_eq_true hc]
      simp only [if_true]
      rw [quoW_eq, hx', bw_of, addF_fin (exF he) (exF ex1), he', bw_of]
      exact h1
    · refine ⟨x, e, b, ?_, hx, he, by omega, Nat.le_refl _, .inl rfl⟩
      rw [logUp, ge15 hx, decide_eq_false hc]
      rfl
theorem down_ex (K : Nat) (hK : K < 2 ^ 23) (h0 : 1 ≤ K) : ∀ (n b x e : Nat), b ≤ n → b ≤ 40 → Ex' .f64 (some x) (K : Int) (-(b : Int)) → Ex' .f64 (some e) ((b : Int) - 6) 0 → 2 * K < 3 * 2 ^ b →
    ∃ x1 e1 b1 : Nat, logDown (n + 1) x e = some (x1, e1) ∧ Ex' .f64 (some x1) (K : Int) (-(b1 : Int)) ∧ Ex' .f64 (some e1) ((b1 : Int) - 6) 0 ∧ 2 * K < 3 * 2 ^ b1 ∧ 3 * 2 ^ b1 ≤ 4 * K ∧ b1 ≤ b := by
  intro n
  induction n with
  | zero =>
    intro b x e hb _ hx he hk
    obtain rfl : b = 0 := by omega
    refine ⟨x, e, 0, ?_, hx, he, hk, by omega, Nat.le_refl _⟩
    rw [logDown, lt75 hx, decide_eq_false (by omega)]
    rfl
  | succ n ih =>
    intro b x e hb h40 hx he hk
    by_cases hc : 4 * K < 3 * 2 ^ b
    · obtain ⟨c, rfl⟩ : ∃ c, b = c + 1 := by
        cases b with
        | zero => omega
        | succ c => exact ⟨c, rfl⟩
      have hh := hx.mul ex2 (by omega) (by omega) (by omega)
      obtain ⟨x', hx'⟩ := fin_some hh.fin
      rw [hx'] at hh
      have ha := he.sub ex1 (by omega) (by omega) (by omega)
      obtain ⟨e', he'⟩ := fin_some ha.fin
      rw [he'] at ha
      obtain ⟨x1, e1, b1, h1, h2, h3, h4, h5, h6⟩ := ih c x' e' (by omega) (by omega) (by
        have h7 : -((c + 1 : Nat) : Int) + 1 = -(c : Int) := by omega
        rwa [h7, Int.mul_one] at hh) (by
        have : ((c + 1 : Nat) : Int) - 6 - 1 = (c : Int) - 6 := by omega
        rwa [this] at ha) (by rw [Nat.pow_succ] at hc; omega)
      refine ⟨x1, e1, b1, ?_, h2, h3, h4, h5, by omega⟩
      rw [logDown, lt75 hx, decide_eq_true hc]
      simp only [if_true]
      rw [mulF_fin (exF hx) (exF ex2), hx', bw_of, subF_fin (exF he) (exF ex1), he', bw_of]
      exact h1
    · refine ⟨x, e, b, ?_, hx, he, hk, by omega, Nat.le_refl _⟩
      rw [logDown, lt75 hx, decide_eq_false hc]
      rfl
/-- Both loops. -/
theorem reduce {x K : Nat} (h0 : 1 ≤ K) (hK : K ≤ 100000) (hx : Ex' .f64 (some x) (K : Int) (-6)) : ∃ x1 e1 x2 e2 b : Nat, logUp 20 x 0 = some (x1, e1) ∧ logDown 20 x1 e1 = some (x2, e2) ∧ Ex' .f64 (some x2) (K : Int) (-(b : Int)) ∧ Ex' .f64 (some e2) ((b : Int) - 6) 0 ∧ 2 * K < 3 * 2 ^ b ∧ 3 * 2 ^ b ≤ 4 * K := by
  have h6 : 2 * K < 3 * 2 ^ (6 + 19) := by
    have : (3 : Nat) * 2 ^ (6 + 19) = 100663296 := by decide
    omega
  obtain ⟨x1, e1, b1, u1, u2, u3, u4, _, u6⟩ := up_ex K (by omega) 19 6 x 0 (by omega) (by omega) hx ex0 h6
  have hb : b1 ≤ 19 := by
    rcases u6 with rfl | u6
    · omega
    · apply Classical.byContradiction
      intro hc
      have : 2 ^ 20 ≤ 2 ^ b1 := Nat.pow_le_pow_right (by decide) (by omega)
      omega
  obtain ⟨x2, e2, b2, d1, d2, d3, d4, d5, _⟩ := down_ex K (by omega) h0 19 b1 x1 e1 hb (by omega) u2 u3 u4
  exact ⟨x1, e1, x2, e2, b2, u1, d1, d2, d3, d4, d5⟩
end Go.Proofs.Ytlllekaiickkoaa
