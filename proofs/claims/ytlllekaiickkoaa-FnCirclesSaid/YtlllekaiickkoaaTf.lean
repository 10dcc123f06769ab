/-
  FnCircles: tenths of products (a table over a polynomial in whole numbers).
-/
import Derived.Test.YtlllekaiickkoaaTe
namespace Go.Proofs.Ytlllekaiickkoaa
open Go.RowKit

/-! ## the polynomial in whole numbers -/
def bK (K : Nat) : Nat := lgF (4 * K / 3)
theorem bK_eq {K b : Nat} (h1 : 2 * K < 3 * 2 ^ b) (h2 : 3 * 2 ^ b ≤ 4 * K) : b = bK K := by
  unfold bK
  rw [← lgF_eq]
  have hp := Nat.two_pow_pos b
  have hne : 4 * K / 3 ≠ 0 := by omega
  symm
  rw [Nat.log2_eq_iff hne, Nat.pow_succ]
  omega
def pK (K : Nat) : Nat := force (Nat.pow 2 (bK K)) fun B => Nat.div (Nat.mul 2000000 K) (Nat.add K B)
/-- The part above, the part below. -/
def hK {α : Type} (K : Nat) (k : Nat → Nat → α) : α :=
  force (pK K) fun P => force (Nat.mul P P) fun S =>
  force (Nat.add (Nat.add (Nat.mul 2 (Nat.mul S P)) (Nat.mul 12000000000000 P)) (Nat.mul 2079441000000000000 (bK K))) fun u =>
  force (Nat.mul 6000000 S) fun d => k u d
def hp (K : Nat) : Nat := 2 * (pK K * pK K * pK K) + 12000000000000 * pK K + 2079441000000000000 * bK K
def hm (K : Nat) : Nat := 6000000 * (pK K * pK K)
theorem hK_eq {α : Type} (K : Nat) (k : Nat → Nat → α) : hK K k = k (hp K) (hm K) := rfl
def pairK (m n : Nat) : Bool :=
  hK (8 * m) fun u1 d1 => hK (8 * n) fun u2 d2 => hK (m * n) fun u3 d3 =>
  force (Nat.add (Nat.add u1 u2) d3) fun x => force (Nat.add 20476646000000000000 (Nat.add (Nat.add u3 d1) d2)) fun y => Nat.ble x (Nat.add 15000000000000000 y) && Nat.ble y (Nat.add 15000000000000000 x)
def rowK (m : Nat) : Bool := (List.range 200).all fun n => pairK m (Nat.succ n)
def rowsK (i : Nat) : Bool := (List.range 20).all fun r => rowK (Nat.add i (Nat.succ r))
theorem t_pair0 : rowsK 0 = true := by decide +kernel
theorem t_pair1 : rowsK 20 = true := by decide +kernel
theorem t_pair2 : rowsK 40 = true := by decide +kernel
theorem t_pair3 : rowsK 60 = true := by decide +kernel
theorem t_pair4 : rowsK 80 = true := by decide +kernel
theorem t_pair5 : rowsK 100 = true := by decide +kernel
theorem t_pair6 : rowsK 120 = true := by decide +kernel
theorem t_pair7 : rowsK 140 = true := by decide +kernel
theorem t_pair8 : rowsK 160 = true := by decide +kernel
theorem t_pair9 : rowsK 180 = true := by decide +kernel
theorem rows_at {i r : Nat} (hi : i < 10) (hr : r < 20) : rowK (20 * i + (r + 1)) = true := by
  have h : rowsK (20 * i) = true := by
    match i, hi with
    | 0, _ => exact t_pair0
    | 1, _ => exact t_pair1
    | 2, _ => exact t_pair2
    | 3, _ => exact t_pair3
    | 4, _ => exact t_pair4
    | 5, _ => exact t_pair5
    | 6, _ => exact t_pair6
    | 7, _ => exact t_pair7
    | 8, _ => exact t_pair8
    | 9, _ => exact t_pair9
  exact List.all_eq_true.1 h r (List.mem_range.2 hr)
theorem pair_at {m n : Nat} (h1 : 1 ≤ m) (h2 : m ≤ 200) (h3 : 1 ≤ n) (h4 : n ≤ 200) : hp (8 * m) + hp (8 * n) + hm (m * n) ≤ 15000000000000000 + (20476646000000000000 + (hp (m * n) + hm (8 * m) + hm (8 * n))) ∧ 20476646000000000000 + (hp (m * n) + hm (8 * m) + hm (8 * n)) ≤ 15000000000000000 + (hp (8 * m) + hp (8 * n) + hm (m * n)) := by
  have e1 : 20 * ((m - 1) / 20) + ((m - 1) % 20 + 1) = m := by omega
  have h0 := rows_at (i := (m - 1) / 20) (r := (m - 1) % 20) (by omega) (by omega)
  rw [e1] at h0
  have h := List.all_eq_true.1 h0 (n - 1) (List.mem_range.2 (by omega))
  have e2 : Nat.succ (n - 1) = n := by omega
  rw [e2] at h
  unfold pairK at h
  simp only [hK_eq, force_eq, Bool.and_eq_true] at h
  exact ⟨Nat.le_of_ble_eq_true h.1, Nat.le_of_ble_eq_true h.2⟩

/-! ## and the numbers -/
def gq (K : Nat) : Rat := 2 * (((pK K : Rat) / 1000000 - 1) + ((pK K : Rat) / 1000000 - 1) * ((pK K : Rat) / 1000000 - 1) * ((pK K : Rat) / 1000000 - 1) / 3) + ((bK K : Rat) - 6) * (693147 / 1000000)
theorem gq_eq (K : Nat) : 3000000000000000000 * gq K = (hp K : Rat) - (hm K : Rat) - 20476646000000000000 := by
  unfold gq hp hm
  simp only [Rat.natCast_add, Rat.natCast_mul]
  show _ = (2 : Rat) * _ + (12000000000000 : Rat) * _ + (2079441000000000000 : Rat) * _ - (6000000 : Rat) * _ - _
  generalize (pK K : Rat) = P
  generalize (bK K : Rat) = b
  grind
theorem pK_near {K b : Nat} (h1 : 2 * K < 3 * 2 ^ b) (h2 : 3 * 2 ^ b ≤ 4 * K) : Near (s0R K b) ((pK K : Rat) / 1000000 - 1) (1 / 1000000) := by
  obtain ⟨s1, _⟩ := s0R_ab h1 h2
  have e : pK K = 2000000 * K / (K + 2 ^ b) := by
    unfold pK
    rw [force_eq, ← bK_eq h1 h2]
    rfl
  have hp := Nat.two_pow_pos b
  have hB := natPow_pos b
  have d1 := Nat.div_add_mod (2000000 * K) (K + 2 ^ b)
  have d2 := Nat.mod_lt (2000000 * K) (show K + 2 ^ b > 0 by omega)
  rw [← e] at d1
  have r1 : (((K + 2 ^ b) * pK K : Nat) : Rat) ≤ ((2000000 * K : Nat) : Rat) := by exact_mod_cast (by omega : (K + 2 ^ b) * pK K ≤ 2000000 * K)
  have r2 : ((2000000 * K : Nat) : Rat) ≤ (((K + 2 ^ b) * pK K + (K + 2 ^ b) : Nat) : Rat) := by exact_mod_cast (by omega : 2000000 * K ≤ (K + 2 ^ b) * pK K + (K + 2 ^ b))
  simp only [Rat.natCast_add, Rat.natCast_mul] at r1 r2
  have c : ((2000000 : Nat) : Rat) = 2000000 := rfl
  rw [c] at r1 r2
  generalize ((2 ^ b : Nat) : Rat) = B at *
  have hk : (0 : Rat) ≤ (K : Rat) := by exact_mod_cast Nat.zero_le K
  generalize (K : Rat) = k at *
  generalize (pK K : Rat) = P at *
  have hZ : 0 < k + B := by grind
  constructor
  · exact Rat.le_of_mul_le_mul_right (c := k + B) (by rw [s1]; grind) hZ
  · exact Rat.le_of_mul_le_mul_right (c := k + B) (by
      have e2 : (s0R K b + 1 / 1000000) * (k + B) = s0R K b * (k + B) + (k + B) / 1000000 := by grind
      rw [e2, s1]; grind) hZ
theorem gr_near {K b : Nat} (hK : K ≤ 100000) (h1 : 2 * K < 3 * 2 ^ b) (h2 : 3 * 2 ^ b ≤ 4 * K) : Near (Gr K b) (gq K) (1 / 10000) := by
  obtain ⟨_, s1, s2⟩ := s0R_ab h1 h2
  obtain ⟨n1, n2⟩ := pK_near h1 h2
  obtain ⟨hb17, _⟩ := int_lt24 hK h2
  have hb0 : (0 : Rat) ≤ (b : Rat) := by exact_mod_cast Nat.zero_le b
  have hb1 : (b : Rat) ≤ 17 := by
    have : ((b : Nat) : Rat) ≤ ((17 : Nat) : Rat) := by exact_mod_cast hb17
    exact this
  obtain ⟨_, l1, l2⟩ := lnTwo
  unfold Gr gq
  rw [← bK_eq h1 h2]
  generalize s0R K b = S at *
  generalize (pK K : Rat) / 1000000 - 1 = T at *
  have hd : Ab (S - T) (1 / 1000000) := ⟨by grind, by grind⟩
  have hS : Ab S 1 := ⟨by grind, by grind⟩
  have hT : Ab T 1 := ⟨by grind, by grind⟩
  have hq : Ab (S * S + S * T + T * T) 3 := by
    obtain ⟨a1, a2⟩ := Ab.mul hS hS
    obtain ⟨b1, b2⟩ := Ab.mul hS hT
    obtain ⟨c1, c2⟩ := Ab.mul hT hT
    exact ⟨by grind, by grind⟩
  obtain ⟨d1, d2⟩ := Ab.mul hd hq
  obtain ⟨e1, e2⟩ := Ab.mul (show Ab ((b : Rat) - 6) 11 from ⟨by grind, by grind⟩) (show Ab (cw - 693147 / 1000000) (1 / 1000000) from ⟨by grind, by grind⟩)
  have id : S * S * S - T * T * T = (S - T) * (S * S + S * T + T * T) := by grind
  generalize (S - T) * (S * S + S * T + T * T) = D at *
  have id2 : ((b : Rat) - 6) * cw = ((b : Rat) - 6) * (cw - 693147 / 1000000) + ((b : Rat) - 6) * (693147 / 1000000) := by grind
  rw [id2]
  generalize ((b : Rat) - 6) * (cw - 693147 / 1000000) = E at *
  generalize S * S * S = S3 at *
  generalize T * T * T = T3 at *
  constructor <;> grind
theorem gr_add {m n b1 b2 b3 : Nat} (h1 : 1 ≤ m) (h2 : m ≤ 200) (h3 : 1 ≤ n) (h4 : n ≤ 200) (u1 : 2 * (8 * m) < 3 * 2 ^ b1) (l1 : 3 * 2 ^ b1 ≤ 4 * (8 * m)) (u2 : 2 * (8 * n) < 3 * 2 ^ b2) (l2 : 3 * 2 ^ b2 ≤ 4 * (8 * n)) (u3 : 2 * (m * n) < 3 * 2 ^ b3) (l3 : 3 * 2 ^ b3 ≤ 4 * (m * n)) :
    Ab (Gr (8 * m) b1 + Gr (8 * n) b2 - Gr (m * n) b3) (6 / 1000) := by
  have hmn : m * n ≤ 200 * 200 := Nat.mul_le_mul h2 h4
  obtain ⟨a1, a2⟩ := gr_near (by omega) u1 l1
  obtain ⟨a3, a4⟩ := gr_near (by omega) u2 l2
  obtain ⟨a5, a6⟩ := gr_near (by omega) u3 l3
  obtain ⟨p1, p2'⟩ := pair_at h1 h2 h3 h4
  have q1 : ((hp (8 * m) + hp (8 * n) + hm (m * n) : Nat) : Rat) ≤ ((15000000000000000 + (20476646000000000000 + (hp (m * n) + hm (8 * m) + hm (8 * n))) : Nat) : Rat) := Rat.natCast_le_natCast.2 p1
  have q2 : ((20476646000000000000 + (hp (m * n) + hm (8 * m) + hm (8 * n)) : Nat) : Rat) ≤ ((15000000000000000 + (hp (8 * m) + hp (8 * n) + hm (m * n)) : Nat) : Rat) := Rat.natCast_le_natCast.2 p2'
  simp only [Rat.natCast_add] at q1 q2
  have c1 : ((20476646000000000000 : Nat) : Rat) = 20476646000000000000 := rfl
  have c2 : ((15000000000000000 : Nat) : Rat) = 15000000000000000 := rfl
  rw [c1, c2] at q1
  rw [c1, c2] at q2
  have g1 := gq_eq (8 * m)
  have g2 := gq_eq (8 * n)
  have g3 := gq_eq (m * n)
  constructor <;> grind
end Go.Proofs.Ytlllekaiickkoaa
