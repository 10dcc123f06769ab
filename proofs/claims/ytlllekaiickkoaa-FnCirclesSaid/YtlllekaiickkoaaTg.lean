/-
  FnCircles: the tenths of two powers and of their product.
-/
import Derived.Test.YtlllekaiickkoaaTf
namespace Go.Proofs.Ytlllekaiickkoaa
open Go.RowKit

def exS (c : Option Nat) (j q : Int) : Bool := match c with
  | none => false
  | some x => decide (rung FloatKind.f32.format x < FloatKind.f32.format.infRung) && decide (rv .f32 x = (j : Rat) * p2 q)
theorem exS_ex {c : Option Nat} {j q : Int} (h : exS c j q = true) : Ex' .f32 c j q := by
  cases c with
  | none => cases h
  | some x =>
    unfold exS at h
    simp only [Bool.and_eq_true, decide_eq_true_eq] at h
    exact ⟨h.1, h.2⟩
def eighth (m : Int) : Option Nat := fop .quo .f32 (some (floatOfInt .f32 m)) (some 1090519040)
theorem t_eighth : ((List.range 200).all fun m => exS (eighth (1 + (m : Int))) (1 + (m : Int)) (-3)) = true := by decide +kernel
theorem eighth_ex {m : Nat} (h1 : 1 ≤ m) (h2 : m ≤ 200) : Ex' .f32 (eighth (m : Int)) (m : Int) (-3) := by
  have h := exS_ex (List.all_eq_true.1 t_eighth (m - 1) (List.mem_range.2 (by omega)))
  have e : 1 + ((m - 1 : Nat) : Int) = (m : Int) := by omega
  rw [e] at h
  exact h
theorem zero32 : Ex' .f32 (some 0) 0 0 := exS_ex (by decide +kernel)
theorem fin32_of {x : Nat} {K : Int} {q : Int} (h : Ex' .f32 (some x) K q) (hq : -149 ≤ q) (hq1 : q ≤ 100) : fin32 x = some true := by
  have hs := h.sub h (by omega) hq hq1
  obtain ⟨z, ez⟩ := fin_some hs.fin
  have hf := fin_finC h.fin
  unfold fin32
  rw [ez, bw_of]
  rw [ez] at hf
  rw [hf]
theorem pos_of {x K : Nat} {q : Int} (h : Ex' .f32 (some x) (K : Int) q) (hK : 1 ≤ K) : fleB .f32 (some x) (some 0) = false := by
  rw [fle_iff h.fin zero32.fin, h.val, zero32.val]
  refine decide_eq_false ?_
  rw [p20, Rat.intCast_natCast]
  have hp := Rat.mul_pos (natPos (show K ≠ 0 by omega)) (p2_pos q)
  show ¬ (K : Rat) * p2 q ≤ (0 : Rat) * 1
  grind
theorem tenths_all (m' n' : Int) (m1 : 1 ≤ m') (m2 : m' ≤ 200) (n1 : 1 ≤ n') (n2 : n' ≤ 200) : ∃ u v uv i j k, fop .quo .f32 (some (floatOfInt .f32 m')) (some 1090519040) = some u ∧ fop .quo .f32 (some (floatOfInt .f32 n')) (some 1090519040) = some v ∧ Tens u v uv i j k := by
  obtain ⟨m, rfl⟩ : ∃ m : Nat, m' = (m : Int) := ⟨m'.toNat, by omega⟩
  obtain ⟨n, rfl⟩ : ∃ n : Nat, n' = (n : Int) := ⟨n'.toNat, by omega⟩
  have hmn : m * n ≤ 200 * 200 := Nat.mul_le_mul (by omega) (by omega)
  have hmn1 : 1 * 1 ≤ m * n := Nat.mul_le_mul (by omega) (by omega)
  have hu := eighth_ex (m := m) (by omega) (by omega)
  have hv := eighth_ex (m := n) (by omega) (by omega)
  obtain ⟨u, eu⟩ := fin_some hu.fin
  obtain ⟨v, ev⟩ := fin_some hv.fin
  rw [eu] at hu
  rw [ev] at hv
  have huv := hu.mul hv (by
    have e : ((m : Int) * (n : Int)) = ((m * n : Nat) : Int) := (Int.natCast_mul m n).symm
    rw [e]
    omega) (by omega) (by omega)
  rw [show ((m : Int) * (n : Int)) = ((m * n : Nat) : Int) from (Int.natCast_mul m n).symm, show (-3 : Int) + -3 = -6 from rfl] at huv
  obtain ⟨uv, euv⟩ := fin_some huv.fin
  rw [euv] at huv
  have f8 : ∀ {x : Nat} {q : Nat}, Ex' .f32 (some x) (q : Int) (-3) → Ex' .f32 (some x) ((8 * q : Nat) : Int) (-6) := by
    intro x q h
    have := h.finer 3
    have e1 : (q : Int) * 2 ^ 3 = ((8 * q : Nat) : Int) := by
      have : (2 : Int) ^ 3 = 8 := rfl
      rw [this]
      omega
    have e2 : (-3 : Int) - ((3 : Nat) : Int) = -6 := rfl
    rw [e1, e2] at this
    exact this
  have hu6 := f8 hu
  have hv6 := f8 hv
  obtain ⟨i, b1, ti, u1, l1, i1, i2, i3, i4⟩ := tenths_near (by omega) (by omega) hu6
  obtain ⟨j, b2, tj, u2, l2, j1, j2, j3, j4⟩ := tenths_near (by omega) (by omega) hv6
  obtain ⟨k, b3, tk, u3, l3, k1, k2, k3, k4⟩ := tenths_near (by omega) (by omega) huv
  obtain ⟨g1, g2⟩ := gr_add (by omega) (by omega) (by omega) (by omega) u1 l1 u2 l2 u3 l3
  obtain ⟨_, c1, c2⟩ := ten
  obtain ⟨d1, d2⟩ := Ab.mul (show Ab (Gr (8 * m) b1 + Gr (8 * n) b2 - Gr (m * n) b3) (6 / 1000) from ⟨g1, g2⟩) (show Ab Cw 44 from ⟨by grind, by grind⟩)
  refine ⟨u, v, uv, i, j, k, eu, ev, ⟨fop_is eu, fop_is ev, fop_is euv, fin32_of hu (by omega) (by omega), fin32_of hv (by omega) (by omega), fin32_of huv (by omega) (by omega), pos_of hu (by omega), pos_of hv (by omega), pos_of huv (by omega), euv, ti, tj, tk, ⟨i3, i4⟩, ⟨j3, j4⟩, ⟨k3, k4⟩, ?_, ?_⟩⟩
  · have h : ((i + j - k : Int) : Rat) < ((2 : Int) : Rat) := by
      rw [Rat.intCast_sub, Rat.intCast_add]
      show _ < (2 : Rat)
      grind
    have := Rat.intCast_lt_intCast.1 h
    omega
  · have h : ((k - i - j : Int) : Rat) < ((2 : Int) : Rat) := by
      rw [Rat.intCast_sub, Rat.intCast_sub]
      show _ < (2 : Rat)
      grind
    have := Rat.intCast_lt_intCast.1 h
    omega
theorem tenths_one : tenthsW 1065353216 = some 0 := by decide +kernel
theorem fin_one : fin32 1065353216 = some true := by decide +kernel
theorem pos_one : fleB .f32 (some 1065353216) (some 0) = false := by decide +kernel
end Go.Proofs.Ytlllekaiickkoaa
