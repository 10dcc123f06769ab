/-
  Contracts: patches raised.
-/
import Derived.Test.YtefnlalldgbcaaaPrw
namespace Go.Proofs.Ytefnlalldgbcaaa
open Go.RowKit
attribute [local irreducible] Code.wp wpList Oper.wp Calls bodyPost Exit.then Exit.inBlock

theorem IsSL.getD {bs : List B3} {ss : List S3} (h : IsSL bs ss) {p : Nat} (hp : p < bs.length) : IsS bs[p] (ss.getD p z3) := by
  have hl := h.len
  refine h.get p _ _ (List.getElem?_eq_getElem hp) ?_
  rw [List.getD_eq_getElem?_getD, List.getElem?_eq_getElem (by omega)]
  rfl
theorem patch_nums {ss : List S3} {d most : Int} (hm : most ≤ 3) (h : patchC ss d most = true) : ∃ g : Nat, d = g ∧ 1 ≤ g ∧ (g : Int) ≤ most ∧ g ≤ 3 ∧ ss.length = tot g ∧ finL ss = true := by
  unfold patchC at h
  simp only [inB, Bool.and_eq_true, decide_eq_true_eq, beq_iff_eq] at h
  obtain ⟨⟨h1, h2⟩, h3, h4⟩ := h
  refine ⟨d.toNat, by omega, by omega, by omega, by omega, ?_, h4⟩
  have hc : d = 1 ∨ d = 2 ∨ d = 3 := by omega
  rcases hc with rfl | rfl | rfl
  · simp [tot]; omega
  · simp [tot]; omega
  · simp [tot]; omega

def raiseL (ss : List S3) (d : Int) : List S3 := rAll ss d.toNat (d.toNat + 2)
def raiseOk (ss : List S3) (d : Int) : Bool := patchC ss d 2 && finL (raiseL ss d)

end Go.Proofs.Ytefnlalldgbcaaa
