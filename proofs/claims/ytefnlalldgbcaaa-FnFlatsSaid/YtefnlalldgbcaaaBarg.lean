/-
  How the arguments of the statements read, further: lists of bytes.
-/
import Derived.Test.YtefnlalldgbcaaaO
import Derived.Test.YtefnlalldgbcaaaBytes
namespace Go.Proofs.Ytefnlalldgbcaaa
open Go.ChangeShapes Go.WideShapes Go.ChangeAt Go.RowKit Go.Joins

section
variable {H : Type} {enc : TypeId × Value → H} {w : World} {base : Nat} {spare : Nat → Bool} {held : Bool}

theorem byte_cells {n : Nat} {v : Value} {y : DataW H × List MemPlace} (h : DataW.trod enc Try.prog w base spare held n 5 [v] = some y) : ∃ i : Int, v = .int .u8 i ∧ 0 ≤ i ∧ i ≤ 255 := by
  cases n with
  | zero => simp [DataW.trod] at h
  | succ n =>
    simp only [DataW.trod, Try.underlying5] at h
    cases v <;> simp at h
    rename_i k' b
    obtain ⟨⟨rfl, hw⟩, _⟩ := h
    exact ⟨b, rfl, by simpa using bounds_u8 hw⟩
set_option maxRecDepth 100000 in
theorem bytes_of_trod {r : Reach} {b0 : Nat} {v : Value} {d : DataW H} {p : List MemPlace} (hv : Value.okWide Try.prog w r b0 57 v) (h : DataW.Trod enc Try.prog w base spare held 57 v d p) :
    ∃ (cs : List Int) (ba : Option Addr) (cap : Nat), v = .slice ba cs.length cap ∧ RdB w ba cs ∧ okB cs ∧ cs.length ≤ 9223372036854775807 := by
  obtain ⟨ba, len, cap, rfl⟩ := okWide_slice Try.underlying57 hv
  obtain ⟨n, hf⟩ := h
  have ce : Try.prog.cellsOf 5 = 1 := by kernel_rfl
  rcases Deep.open_slice Try.underlying57 hf with ⟨h0, _⟩ | ⟨a, len', cap', m, n', D, Pl, h0, hb, hl, hm, hmm, _, hx⟩
  · cases h0
    exact ⟨[], none, 0, rfl, .inl rfl, (by intro c hc; cases hc), Nat.zero_le _⟩
  · cases h0
    have hlm : len ≤ m := by rw [hmm]; split <;> omega
    have each : ∀ i, i < len → ∃ b : Int, (0 ≤ b ∧ b ≤ 255) ∧ w.cell? (a.add (i * 1)) = some (.int .u8 b) := by
      intro i hi
      obtain ⟨cs', h1, h2⟩ := hx i (by omega)
      rw [ce] at h1
      obtain ⟨_, hlen, hcell⟩ := World.cells?_some h1
      match cs', hlen with
      | [v], _ =>
        obtain ⟨b, rfl, hb⟩ := byte_cells h2
        exact ⟨b, hb, by simpa [Addr.add] using hcell 0 (by omega)⟩
    obtain ⟨f, hf⟩ := Deep.choose_lt each
    have hml : maxLen = 9223372036854775807 := rfl
    refine ⟨(List.range len).map f, some a, cap, by simp, ?_, ?_, by simp; omega⟩
    · by_cases hz : len = 0
      · left; simp [hz]
      · right
        obtain ⟨cs, t, fr, hh, hs, _⟩ := cell_spot (hf 0 (by omega)).2
        have hs' : a.spot = none := by simpa [Addr.add] using hs
        have hh' : w.heap[a.block]? = some (.cells cs t fr) := by simpa [Addr.add] using hh
        have ha : a = ⟨a.block, a.off, none⟩ := by cases a; simp at hs'; simp [hs']
        refine ⟨a.block, a.off, cs, t, fr, by rw [← ha], hh', ?_⟩
        intro i b hb
        have hi : i < len := by
          have := (List.getElem?_eq_some_iff.1 hb).1
          simpa using this
        have hfb : f i = b := by simpa [hi] using hb
        obtain ⟨_, g0⟩ := hf i hi
        rw [hfb] at g0
        rw [ha] at g0
        simp only [Addr.add_lit] at g0
        rw [cell_of_row w a.block _ cs t fr hh'] at g0
        simpa using g0
    · intro b hb
      obtain ⟨i, hi, rfl⟩ := List.mem_map.1 hb
      exact (hf i (List.mem_range.1 hi)).1
end
end Go.Proofs.Ytefnlalldgbcaaa
