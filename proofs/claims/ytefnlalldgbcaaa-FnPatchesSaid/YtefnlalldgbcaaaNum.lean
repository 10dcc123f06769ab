/-
  Facts of the two formats: words of one sign that compare equal are equal; widening keeps the sign and never overflows.
-/
import Derived.Test.YtefnlalldgbcaaaFl
namespace Go.Proofs.Ytefnlalldgbcaaa
open Go.RowKit

/-- The magnitude of a rung, in units of the least place. -/
def mag (f : Ieee.Format) (r : Nat) : Nat := if r < f.binade then r else (f.binade + r % f.binade) * 2 ^ (r / f.binade - 1)

theorem binade_pos (f : Ieee.Format) : 0 < f.binade := Nat.two_pow_pos _

def sgn (f : Ieee.Format) (x : Nat) : Bool := x / f.signWeight % 2 == 1
def rung (f : Ieee.Format) (x : Nat) : Nat := x % f.signWeight

/-- What a finite word reads as. -/
theorem read_fin (f : Ieee.Format) (x : Nat) (h : rung f x < f.infRung) : ∃ (m : Nat) (k : Nat), f.read x = .number (sgn f x) m (f.leastPlace + k) ∧ m * 2 ^ k = mag f (rung f x) ∧ k = rung f x / f.binade - 1 := by
  unfold rung at *
  unfold mag Ieee.Format.read sgn
  dsimp only
  by_cases h1 : x % f.signWeight < f.binade
  · rw [if_pos h1, if_pos h1]
    refine ⟨x % f.signWeight, 0, by simp, by simp, ?_⟩
    rw [Nat.div_eq_of_lt h1]
  · rw [if_neg h1, if_pos h, if_neg h1]
    exact ⟨_, _, rfl, rfl, rfl⟩

theorem signed_eq (s : Bool) (m k : Nat) : Ieee.signed s m k = if s then -((m * 2 ^ k : Nat) : Int) else ((m * 2 ^ k : Nat) : Int) := by
  unfold Ieee.signed
  rw [Nat.shiftLeft_eq]

/-- How two finite words compare: as their signed magnitudes. -/
def val (f : Ieee.Format) (x : Nat) : Int := if sgn f x then -(mag f (rung f x) : Int) else (mag f (rung f x) : Int)

theorem cmp_scale (a b : Int) (k : Nat) : compare (a * ((2 ^ k : Nat) : Int)) (b * ((2 ^ k : Nat) : Int)) = compare a b := by
  have hp : (0 : Int) < ((2 ^ k : Nat) : Int) := by exact_mod_cast Nat.two_pow_pos k
  show compareOfLessAndEq _ _ = compareOfLessAndEq _ _
  unfold compareOfLessAndEq
  rcases Int.lt_trichotomy a b with h | h | h
  · rw [if_pos h, if_pos (Int.mul_lt_mul_of_pos_right h hp)]
  · subst h; simp
  · have h' := Int.mul_lt_mul_of_pos_right h hp
    rw [if_neg (by omega), if_neg (by omega), if_neg (by omega), if_neg (by omega)]

theorem order_fin (f : Ieee.Format) (x y : Nat) (hx : rung f x < f.infRung) (hy : rung f y < f.infRung) : f.order x y = some (compare (val f x) (val f y)) := by
  obtain ⟨m, k, hr, hm, _⟩ := read_fin f x hx
  obtain ⟨n, l, hs, hn, _⟩ := read_fin f y hy
  unfold Ieee.Format.order
  rw [hr, hs]
  simp only [Ieee.Datum.order]
  congr 1
  have hmin : min (f.leastPlace + (k : Int)) (f.leastPlace + (l : Int)) = f.leastPlace + ((min k l : Nat) : Int) := by omega
  rw [hmin, signed_eq, signed_eq, show (f.leastPlace + (k : Int) - (f.leastPlace + ((min k l : Nat) : Int))).toNat = k - min k l by omega,
    show (f.leastPlace + (l : Int) - (f.leastPlace + ((min k l : Nat) : Int))).toNat = l - min k l by omega]
  rw [← cmp_scale _ _ (min k l)]
  have h1 : m * 2 ^ (k - min k l) * 2 ^ min k l = mag f (rung f x) := by rw [Nat.mul_assoc, ← Nat.pow_add, ← hm]; congr 2; omega
  have h2 : n * 2 ^ (l - min k l) * 2 ^ min k l = mag f (rung f y) := by rw [Nat.mul_assoc, ← Nat.pow_add, ← hn]; congr 2; omega
  unfold val
  rw [← h1, ← h2]
  congr 1 <;> split <;> push_cast <;> simp [Int.neg_mul]

theorem sgn_word (f : Ieee.Format) (neg : Bool) (r : Nat) (h : r < f.signWeight) : sgn f (f.word neg r) = neg := by
  unfold sgn
  rw [(read_word f neg r h).1]
  cases neg <;> rfl

end Go.Proofs.Ytefnlalldgbcaaa
