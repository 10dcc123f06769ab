/-
  Rules: a meeting point between two codes. What raising a patch computes.
-/
import Derived.Test.YtefnlalldgbcaaaPatch
namespace Go.Proofs.Ytefnlalldgbcaaa
open Go.RowKit

section
variable {P : Program} {w : World} {a : Act} {Q : Exit → Act → World → Prop}
/-- One code behind another, with a meeting point between them. -/
theorem c_meet {c1 c2 : Code} (F : Act → World → Prop) (h : c1.wp P (fun e a w => e = .normal ∧ F a w) a w) (h2 : ∀ a w, F a w → c2.wp P Q a w) : (Code.seq c1 c2).wp P Q a w :=
  c_seq (wp_mono h fun e a w ⟨he, hF⟩ => by subst he; exact h2 a w hF)
end

/-- The share of a number. -/
def shP (i m : Int) : Option Nat := fop .quo .f32 (some (floatOfInt .f32 i)) (some (floatOfInt .f32 m))
def raise1 (ss : List S3) (g i j : Nat) : S3 := if i + j < g + 1 then addS z3 (timesS (ss.getD (plc g i j) z3) (shP (((g : Int) + 1) - (i : Int) - (j : Int)) ((g : Int) + 1))) else z3
def raise2 (ss : List S3) (g i j : Nat) : S3 := if 0 < i then addS (raise1 ss g i j) (timesS (ss.getD (plc g (i - 1) j) z3) (shP i ((g : Int) + 1))) else raise1 ss g i j
def raise3 (ss : List S3) (g i j : Nat) : S3 := if 0 < j then addS (raise2 ss g i j) (timesS (ss.getD (plc g i (j - 1)) z3) (shP j ((g : Int) + 1))) else raise2 ss g i j
/-- The first i spots of a row. -/
def rRow (ss : List S3) (g j i : Nat) : List S3 := (List.range i).map fun i => raise3 ss g i j
/-- The first j rows. -/
def rAll (ss : List S3) (g j : Nat) : List S3 := (List.range j).flatMap fun j => rRow ss g j (g + 2 - j)
theorem rRow_succ (ss : List S3) (g j i : Nat) : rRow ss g j (i + 1) = rRow ss g j i ++ [raise3 ss g i j] := by simp [rRow, List.range_succ]
theorem rAll_succ (ss : List S3) (g j : Nat) : rAll ss g (j + 1) = rAll ss g j ++ rRow ss g j (g + 2 - j) := by simp [rAll, List.range_succ]
theorem rRow_length (ss : List S3) (g j i : Nat) : (rRow ss g j i).length = i := by simp [rRow]
theorem rAll_le (ss : List S3) (g : Nat) : ∀ j : Nat, (rAll ss g j).length ≤ j * (g + 2)
  | 0 => by simp [rAll]
  | j + 1 => by
    have := rAll_le ss g j
    rw [rAll_succ, List.length_append, rRow_length, Nat.add_mul, Nat.one_mul]
    omega
/-- The places lie within the patch. -/
theorem plc_lt {g i j : Nat} (hg : 1 ≤ g) (hg3 : g ≤ 3) (h : i + j ≤ g) : plc g i j < (g + 1) * (g + 2) / 2 := by
  have hcg : g = 1 ∨ g = 2 ∨ g = 3 := by omega
  have hcj : j = 0 ∨ j = 1 ∨ j = 2 ∨ j = 3 := by omega
  rcases hcg with rfl | rfl | rfl <;> rcases hcj with rfl | rfl | rfl | rfl <;> simp [plc] <;> omega
end Go.Proofs.Ytefnlalldgbcaaa
