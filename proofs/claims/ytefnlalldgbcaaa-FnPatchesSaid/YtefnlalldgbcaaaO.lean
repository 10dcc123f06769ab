/-
  Functions that change one block of their caller.
-/
import Derived.Test.YtefnlalldgbcaaaN
namespace Go.Proofs.Ytefnlalldgbcaaa
open Go.RowKit

section
variable {P : Program} {w0 w : World} {N : Nat} {a : Act} {E : List (Nat × Value)} {L : List Ent} {K : Act → World → Prop} {Q : Exit → Act → World → Prop}

/-- The other blocks. -/
def others (w : World) (b : Nat) : List Ent := (List.range w.heap.size).filterMap fun k => if k = b then none else (w.heap[k]?).map fun o => ⟨k, false, o⟩

theorem mem_others {w : World} {b : Nat} {e : Ent} (h : e ∈ others w b) : e.own = false ∧ e.b ≠ b ∧ w.heap[e.b]? = some e.o := by
  unfold others at h
  obtain ⟨k, hk, he⟩ := List.mem_filterMap.1 h
  split at he
  · cases he
  · cases ho : w.heap[k]? with
    | none => rw [ho] at he; cases he
    | some o => rw [ho] at he; cases he; exact ⟨rfl, ‹_›, ho⟩
theorem others_mem {w : World} {b k : Nat} (hk : k < w.heap.size) (hne : k ≠ b) : (⟨k, false, w.heap[k]⟩ : Ent) ∈ others w b := by
  unfold others
  refine List.mem_filterMap.2 ⟨k, List.mem_range.2 hk, ?_⟩
  rw [if_neg hne]
  simp [hk]

end
end Go.Proofs.Ytefnlalldgbcaaa
