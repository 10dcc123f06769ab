/-
  How the arguments of the statements read, further: lists of spots, sheets, numbers.
-/
import Derived.Test.YtefnlalldgbcaaaArgs
import Derived.Test.YtefnlalldgbcaaaK
import Derived.Deep.Strs
namespace Go.Proofs.Ytefnlalldgbcaaa
open Go.ChangeShapes Go.WideShapes Go.ChangeAt Go.RowKit Go.Joins

section
variable {H : Type} {enc : TypeId × Value → H} {w : World} {base : Nat} {spare : Nat → Bool} {held : Bool}

theorem cell_spot {w : World} {a : Addr} {v : Value} (h : w.cell? a = some v) : ∃ cs t fr, w.heap[a.block]? = some (.cells cs t fr) ∧ a.spot = none ∧ cs[a.off]? = some v := by
  unfold World.cell? at h
  split at h
  · rename_i c t fr hc
    split at h
    · cases h
    · refine ⟨c, t, fr, hc, ?_, h⟩
      cases hs : a.spot with
      | none => rfl
      | some k => simp_all
  · cases h

def ok32 (b : B3) : Prop := b.1 < 2 ^ 32 ∧ b.2.1 < 2 ^ 32 ∧ b.2.2 < 2 ^ 32

set_option maxRecDepth 100000 in
theorem spot_cells {n : Nat} {cs : List Value} {y : DataW H × List MemPlace} (hl : cs.length = 3) (h : DataW.trod enc Try.prog w base spare held n 24 cs = some y) :
    ∃ b : B3, cs = [.float .f32 b.1, .float .f32 b.2.1, .float .f32 b.2.2] ∧ ok32 b := by
  obtain ⟨y0, y1, y2, m, _, _, h0, h1, h2⟩ := Deep.trod_struct3 Try.underlying24 h
  match cs, hl with
  | [v0, v1, v2], _ =>
    have c0 : Try.prog.cellsOf 22 = 1 := by kernel_rfl
    simp only [c0] at h0 h1 h2
    obtain ⟨x, rfl, hx⟩ := float_of_trod Try.underlying22 (c := v0) h0
    obtain ⟨y, rfl, hy⟩ := float_of_trod Try.underlying22 (c := v1) h1
    obtain ⟨z, rfl, hz⟩ := float_of_trod Try.underlying22 (c := v2) h2
    exact ⟨(x, y, z), rfl, hx, hy, hz⟩

theorem spots_cells {n : Nat} {v : Value} {y : DataW H × List MemPlace} (h : DataW.trod enc Try.prog w base spare held n 39 [v] = some y) :
    ∃ (bs : List B3) (ba : Option Addr) (cap : Nat), v = .slice ba bs.length cap ∧ RdS w ba bs ∧ (∀ b ∈ bs, ok32 b) ∧ bs.length ≤ 9223372036854775807 := by
  have ce : Try.prog.cellsOf 24 = 3 := by kernel_rfl
  rcases Deep.open_slice Try.underlying39 h with ⟨h0, _⟩ | ⟨a, len, cap, m, n', D, Pl, h0, hb, hl, hm, hmm, _, hx⟩
  · simp at h0
    exact ⟨[], none, 0, h0, .inl rfl, by simp, by simp⟩
  · simp at h0
    have hlm : len ≤ m := by rw [hmm]; split <;> omega
    have each : ∀ i, i < len → ∃ b : B3, ok32 b ∧ w.cell? (a.add (i * 3)) = some (.float .f32 b.1) ∧ w.cell? ((a.add (i * 3)).add 1) = some (.float .f32 b.2.1) ∧ w.cell? ((a.add (i * 3)).add 2) = some (.float .f32 b.2.2) := by
      intro i hi
      obtain ⟨cs', h1, h2⟩ := hx i (by omega)
      rw [ce] at h1
      obtain ⟨_, hlen, hcell⟩ := World.cells?_some h1
      obtain ⟨b, rfl, hb⟩ := spot_cells hlen h2
      exact ⟨b, hb, by simpa [Addr.add] using hcell 0 (by omega), by simpa using hcell 1 (by omega), by simpa using hcell 2 (by omega)⟩
    obtain ⟨f, hf⟩ := Deep.choose_lt each
    have hml : maxLen = 9223372036854775807 := rfl
    refine ⟨(List.range len).map f, some a, cap, by simpa using h0, ?_, ?_, by simp; omega⟩
    · by_cases hz : len = 0
      · left; simp [hz]
      · right
        obtain ⟨cs, t, fr, hh, hs, _⟩ := cell_spot (hf 0 (by omega)).2.1
        have hs' : a.spot = none := by simpa [Addr.add] using hs
        have hh' : w.heap[a.block]? = some (.cells cs t fr) := by simpa [Addr.add] using hh
        have ha : a = ⟨a.block, a.off, none⟩ := by cases a; simp at hs'; simp [hs']
        refine ⟨a.block, a.off, cs, t, fr, by rw [← ha], hh', ?_⟩
        intro i b hb
        have hi : i < len := by
          have := (List.getElem?_eq_some_iff.1 hb).1
          simpa using this
        have hfb : f i = b := by simpa [hi] using hb
        obtain ⟨_, g0, g1, g2⟩ := hf i hi
        rw [hfb] at g0 g1 g2
        rw [ha] at g0 g1 g2
        simp only [Addr.add_lit] at g0 g1 g2
        rw [cell_of_row w a.block _ cs t fr hh'] at g0 g1 g2
        exact ⟨g0, g1, g2⟩
    · intro b hb
      obtain ⟨i, hi, rfl⟩ := List.mem_map.1 hb
      exact (hf i (List.mem_range.1 hi)).1

theorem int_cells {n : Nat} {v : Value} {y : DataW H × List MemPlace} (h : DataW.trod enc Try.prog w base spare held n 2 [v] = some y) : ∃ i : Int, v = .int .i64 i ∧ -9223372036854775808 ≤ i ∧ i ≤ 9223372036854775807 := by
  cases n with
  | zero => simp [DataW.trod] at h
  | succ n =>
    simp only [DataW.trod, Try.underlying2] at h
    cases v <;> simp at h
    rename_i k' b
    obtain ⟨⟨rfl, hw⟩, _⟩ := h
    exact ⟨b, rfl, bounds_i64 hw⟩

set_option maxRecDepth 100000 in
theorem sheet_of_trod {r : Reach} {b0 : Nat} {v : Value} {d : DataW H} {p : List MemPlace} (hv : Value.okWide Try.prog w r b0 41 v) (h : DataW.Trod enc Try.prog w base spare held 41 v d p) :
    ∃ (m k : Int) (bs : List B3) (ba : Option Addr) (cap : Nat), v = vSh m k ba bs.length cap ∧ RdS w ba bs ∧ (∀ b ∈ bs, ok32 b) ∧ bs.length ≤ 9223372036854775807 := by
  obtain ⟨v0, v1, v2, y0, y1, y2, n, rfl, _, _, h0, h1, h2⟩ := open_agg3 Try.underlying41 (by kernel_rfl) (by kernel_rfl) hv h
  obtain ⟨x, rfl, _⟩ := int_cells h0
  obtain ⟨y, rfl, _⟩ := int_cells h1
  obtain ⟨bs, ba, cap, rfl, h3⟩ := spots_cells h2
  exact ⟨x, y, bs, ba, cap, rfl, h3⟩

/-- The classes of spots. -/
def clS (b : B3) : S3 := (cl .f32 b.1, cl .f32 b.2.1, cl .f32 b.2.2)
theorem IsSL_of {bs : List B3} (h : ∀ b ∈ bs, ok32 b) : IsSL bs (bs.map clS) := by
  refine ⟨by simp, ?_⟩
  intro i b s hb hs
  have hm : b ∈ bs := List.mem_of_getElem? hb
  have : clS b = s := by simpa [hb] using hs
  subst this
  obtain ⟨h1, h2, h3⟩ := h b hm
  exact ⟨⟨h1, rfl⟩, ⟨h2, rfl⟩, ⟨h3, rfl⟩⟩
end
end Go.Proofs.Ytefnlalldgbcaaa
