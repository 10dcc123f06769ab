/-
  Square roots of float32s, done in float64, fit into float32 again: bounds of exponents.
-/
import Derived.Test.YtefnlalldgbcaaaNum
namespace Go.Proofs.Ytefnlalldgbcaaa
open Go.RowKit

theorem cut_le (neg : Bool) (n drop t : Nat) (h : n < 2 ^ (t + drop)) : Ieee.Toward.cut .even neg n drop ≤ 2 ^ t := by
  unfold Ieee.Toward.cut
  dsimp only
  generalize hg : (1 <<< min drop (n.log2 + 2)) = gap
  have hg' : gap = 2 ^ min drop (n.log2 + 2) := by rw [← hg, Nat.one_shiftLeft]
  have hpos : 0 < gap := by rw [hg']; exact Nat.two_pow_pos _
  have hlow : n / gap < 2 ^ t := by
    rcases Nat.le_total drop (n.log2 + 2) with hd | hd
    · rw [hg', Nat.min_eq_left hd]
      exact Nat.div_lt_of_lt_mul (by rw [← Nat.pow_add, Nat.add_comm]; exact h)
    · rw [hg', Nat.min_eq_right hd]
      have : n < 2 ^ (n.log2 + 2) := Nat.lt_of_lt_of_le Nat.lt_log2_self (Nat.pow_le_pow_right (by decide) (by omega))
      rw [Nat.div_eq_of_lt this]
      exact Nat.two_pow_pos _
  generalize (decide (gap < 2 * (n % gap)) || gap == 2 * (n % gap) && n / gap % 2 == 1) = b
  cases b <;> simp <;> omega

theorem rung_word (f : Ieee.Format) (neg : Bool) (r : Nat) (h : r < f.signWeight) : rung f (f.word neg r) = r := (read_word f neg r h).2

end Go.Proofs.Ytefnlalldgbcaaa
