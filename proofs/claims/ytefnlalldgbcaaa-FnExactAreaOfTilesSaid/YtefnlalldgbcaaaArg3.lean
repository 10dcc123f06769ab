/-
  How the arguments of the statements read, further: single numbers, lists of spots.
-/
import Derived.Test.YtefnlalldgbcaaaArg2
namespace Go.Proofs.Ytefnlalldgbcaaa
open Go.ChangeShapes Go.WideShapes Go.ChangeAt Go.RowKit Go.Joins

section
variable {H : Type} {enc : TypeId × Value → H} {w : World} {base : Nat} {spare : Nat → Bool} {held : Bool}

set_option maxRecDepth 100000 in
theorem i64_of_trod {r : Reach} {b0 : Nat} {v : Value} {d : DataW H} {p : List MemPlace} (hv : Value.okWide Try.prog w r b0 2 v) (h : DataW.Trod enc Try.prog w base spare held 2 v d p) :
    ∃ n : Int, v = .int .i64 n ∧ -9223372036854775808 ≤ n ∧ n ≤ 9223372036854775807 := by
  obtain ⟨n, rfl, _, _, hw⟩ := open_int Try.underlying2 hv h
  exact ⟨n, rfl, bounds_i64 hw⟩

set_option maxRecDepth 100000 in
theorem f32_of_trod {r : Reach} {b0 : Nat} {v : Value} {d : DataW H} {p : List MemPlace} (hv : Value.okWide Try.prog w r b0 22 v) (h : DataW.Trod enc Try.prog w base spare held 22 v d p) :
    ∃ b : Nat, v = .float .f32 b ∧ b < 2 ^ 32 := by
  obtain ⟨k, b, rfl⟩ : ∃ k b, v = .float k b := by
    simp only [Value.okWide, Try.underlying22, Cell.okWide] at hv
    cases v <;> simp_all [Cell.ok]
  obtain ⟨n, hf⟩ := h
  obtain ⟨b', hb, hlt⟩ := float_of_trod Try.underlying22 hf
  cases hb
  exact ⟨b, rfl, hlt⟩

set_option maxRecDepth 100000 in
theorem spots_of_trod {r : Reach} {b0 : Nat} {v : Value} {d : DataW H} {p : List MemPlace} (hv : Value.okWide Try.prog w r b0 39 v) (h : DataW.Trod enc Try.prog w base spare held 39 v d p) :
    ∃ (bs : List B3) (ba : Option Addr) (cap : Nat), v = .slice ba bs.length cap ∧ RdS w ba bs ∧ (∀ b ∈ bs, ok32 b) ∧ bs.length ≤ 9223372036854775807 := by
  obtain ⟨ba, len, cap, rfl⟩ := okWide_slice Try.underlying39 hv
  obtain ⟨n, hf⟩ := h
  exact spots_cells hf
end
end Go.Proofs.Ytefnlalldgbcaaa
