/-
  Planes that cut flat sheets: how often, where.
-/
import Derived.Test.YtefnlalldgbcaaaFu
namespace Go.Proofs.Ytefnlalldgbcaaa
open Go.RowKit

def lvC (k n : Int) : Option Nat := fop .mul .f32 (fop .quo .f32 (fop .add .f32 (some (floatOfInt .f32 k)) half32) (some 1098907648)) (wC n)
theorem lv_tab : (List.range 9).all (fun k => (List.range 17).all fun n => chkE (lvC (k : Int) (n : Int)) (((2 * k + 1) * n : Nat) : Int) (-6)) = true := by decide +kernel
theorem lv_ex {k n : Nat} (hk : k ≤ 8) (hn : n ≤ 16) : Ex' .f32 (lvC k n) (((2 * k + 1) * n : Nat) : Int) (-6) := chkE_ex (List.all_eq_true.1 (List.all_eq_true.1 lv_tab k (List.mem_range.2 (by omega))) n (List.mem_range.2 (by omega)))
def lvV (k n : Nat) : Rat := (((2 * k + 1) * n : Nat) : Rat) / 64
theorem p2m6 : p2 (-6) = 1 / 64 := by decide +kernel
theorem lv_ap {k n : Nat} (hk : k ≤ 8) (hn : n ≤ 16) : Ap .f32 (lvC k n) (lvV k n) 0 ∧ Ab (lvV k n) 8 := by
  have h := lv_ex hk hn
  have h1 : (2 * k + 1) * n ≤ 17 * 16 := Nat.mul_le_mul (by omega) hn
  have h2 : (((2 * k + 1) * n : Nat) : Rat) ≤ ((272 : Nat) : Rat) := natR h1
  have h3 : (0 : Rat) ≤ (((2 * k + 1) * n : Nat) : Rat) := Rat.natCast_nonneg
  have c : ((272 : Nat) : Rat) = 272 := rfl
  rw [c] at h2
  have hv : (((((2 * k + 1) * n : Nat) : Int)) : Rat) * p2 (-6) = lvV k n := by
    rw [p2m6, Rat.intCast_natCast]
    unfold lvV
    grind
  have ha := h.ap
  rw [hv] at ha
  refine ⟨ha, ?_⟩
  unfold lvV
  exact ⟨by grind, by grind⟩
def sideB (k p i : Nat) : Bool := decide ((2 * k + 1) * p < 32 * i)
theorem side_tab : (List.range 16).all (fun n => (List.range 4).all fun p => (List.range (p + 2)).all fun i => (List.range 9).all fun k =>
    if sideB k (p + 1) i then decide (1 / 300 ≤ half (n + 1) * ((i : Rat) / ((p + 1 : Nat) : Rat)) - lvV k (n + 1)) else decide (half (n + 1) * ((i : Rat) / ((p + 1 : Nat) : Rat)) - lvV k (n + 1) ≤ -(1 / 300))) = true := by decide +kernel
theorem side_sep {n p i k : Nat} (hn : 1 ≤ n) (hn16 : n ≤ 16) (hp : 1 ≤ p) (hp4 : p ≤ 4) (hi : i ≤ p) (hk : k ≤ 8) :
    (sideB k p i = true → 1 / 300 ≤ half n * ((i : Rat) / (p : Rat)) - lvV k n) ∧ (sideB k p i = false → half n * ((i : Rat) / (p : Rat)) - lvV k n ≤ -(1 / 300)) := by
  obtain ⟨n, rfl⟩ : ∃ m, n = m + 1 := ⟨n - 1, by omega⟩
  obtain ⟨p, rfl⟩ : ∃ m, p = m + 1 := ⟨p - 1, by omega⟩
  have h := List.all_eq_true.1 (List.all_eq_true.1 (List.all_eq_true.1 (List.all_eq_true.1 side_tab n (List.mem_range.2 (by omega))) p (List.mem_range.2 (by omega))) i (List.mem_range.2 (by omega))) k (List.mem_range.2 (by omega))
  cases hs : sideB k (p + 1) i
  · rw [hs] at h
    simp only [Bool.false_eq_true, if_false, decide_eq_true_eq] at h
    exact ⟨(fun h' => by cases h'), fun _ => h⟩
  · rw [hs] at h
    simp only [if_true, decide_eq_true_eq] at h
    exact ⟨fun _ => h, (fun h' => by cases h')⟩

theorem TL.cn {tt : List S3} {p q : Nat} {W L : Rat} (T : TL tt p q W L) (hp : 1 ≤ p) (hq : 1 ≤ q) (w0 : 0 ≤ W) (w8 : W ≤ 8) (l0 : 0 ≤ L) (l8 : L ≤ 8) {j i : Nat} (hj : j ≤ q) (hi : i ≤ p) : Cn (tt.getD (j * (p + 1) + i) z3) (W * ((i : Rat) / (p : Rat))) := by
  have h := T.ap j i hj hi
  obtain ⟨s1, s2⟩ := share_bd hp hi
  obtain ⟨t1, t2⟩ := share_bd hq hj
  have e4 : (E4 : Rat) ≤ 1 := by decide +kernel
  have g : ∀ {x a : Rat}, 0 ≤ x → x ≤ 8 → 0 ≤ a → a ≤ 1 → 0 ≤ x * a ∧ x * a ≤ 8 := by
    intro x a h0 h8 a0 a1
    have g1 := Rat.mul_le_mul_of_nonneg_left a1 h0
    exact ⟨Rat.mul_nonneg h0 a0, by grind⟩
  refine ⟨h 0, ?_, T.pz _, g w0 w8 s1 s2⟩
  obtain ⟨y0, y8⟩ := g l0 l8 t1 t2
  have h1 : Ap .f32 (pj 1 (tt.getD (j * (p + 1) + i) z3)) (L * ((j : Rat) / (q : Rat))) E4 := h 1
  obtain ⟨n1, n2⟩ := h1.near
  exact ⟨h1.fin, by show cv .f32 (pj 1 (tt.getD (j * (p + 1) + i) z3)) ≤ 9; grind, by show -9 ≤ cv .f32 (pj 1 (tt.getD (j * (p + 1) + i) z3)); grind⟩
theorem tri_grid (p : Nat) {q t r : Nat} (ht : t < q * (p * 2)) (hr : r < 3) : ∃ j i, j ≤ q ∧ i ≤ p ∧ triIx (triM p p q) (3 * t + r) = j * (p + 1) + i := by
  obtain ⟨a, b, ha, hb, h⟩ := tri_ix p ht
  have hc : r = 0 ∨ r = 1 ∨ r = 2 := by omega
  rcases h with ⟨h0, h1, h2⟩ | ⟨h0, h1, h2⟩
  · rcases hc with rfl | rfl | rfl
    · exact ⟨b, a, by omega, by omega, h0⟩
    · exact ⟨b, a + 1, by omega, by omega, h1⟩
    · exact ⟨b + 1, a, by omega, by omega, h2⟩
  · rcases hc with rfl | rfl | rfl
    · exact ⟨b, a + 1, by omega, by omega, h0⟩
    · exact ⟨b + 1, a + 1, by omega, by omega, h1⟩
    · exact ⟨b + 1, a, by omega, by omega, h2⟩

structure CuF (tt : List S3) (p q : Nat) (lv : Option Nat) (l : Rat) : Prop where
  hs : ∀ s ∈ tt, finC (hgt wayX lv s) = true
  ok : finL (cutsT tt wayX lv (triM p p q) (q * (p * 2))) = true
  near : ∀ s ∈ cutsT tt wayX lv (triM p p q) (q * (p * 2)), Ap .f32 s.1 l E6
  two : 2 ≤ (cutsT tt wayX lv (triM p p q) (q * (p * 2))).length
theorem cuF {tt : List S3} {p q n k : Nat} {L : Rat} (T : TL tt p q (half n) L) (hn : 1 ≤ n) (hn16 : n ≤ 16) (hp : 1 ≤ p) (hp4 : p ≤ 4) (hq : 1 ≤ q) (l0 : 0 ≤ L) (l8 : L ≤ 8) (hk : k ≤ 8) : CuF tt p q (lvC k n) (lvV k n) := by
  obtain ⟨w0, w8⟩ := half_bd16 hn16
  obtain ⟨la, lb⟩ := lv_ap hk hn16
  have cn : ∀ {j i : Nat}, j ≤ q → i ≤ p → Cn (tt.getD (j * (p + 1) + i) z3) (half n * ((i : Rat) / (p : Rat))) := fun hj hi => T.cn hp hq w0 w8 l0 l8 hj hi
  have hh : ∀ {j i : Nat}, j ≤ q → i ≤ p → Ap .f32 (hgt wayX (lvC k n) (tt.getD (j * (p + 1) + i) z3)) (half n * ((i : Rat) / (p : Rat)) - lvV k n) (300 * ulp) := fun hj hi => (cn hj hi).hgt la lb
  have pos : ∀ {j i : Nat}, j ≤ q → i ≤ p → posC (hgt wayX (lvC k n) (tt.getD (j * (p + 1) + i) z3)) = sideB k p i := by
    intro j i hj hi
    have h := hh hj hi
    obtain ⟨n1, n2⟩ := h.near
    obtain ⟨s1, s2⟩ := side_sep hn hn16 hp hp4 hi hk
    rw [posC_iff h.fin]
    cases hs : sideB k p i
    · have := s2 hs
      exact decide_eq_false (by grind)
    · have := s1 hs
      exact decide_eq_true (by grind)
  have near : ∀ s ∈ cutsT tt wayX (lvC k n) (triM p p q) (q * (p * 2)), Ap .f32 s.1 (lvV k n) E6 ∧ Bd s.2.1 1000 ∧ Zr s.2.2 := by
    intro s hs
    obtain ⟨t, e, ht, he, hm⟩ := cutsT_mem hs
    obtain ⟨j, i, hj, hi, h1⟩ := tri_grid p ht he
    obtain ⟨j', i', hj', hi', h2⟩ := tri_grid p ht (Nat.mod_lt (e + 1) (by omega : 0 < 3))
    rw [h1, h2] at hm
    unfold edgeC at hm
    rw [pos hj hi, pos hj' hi'] at hm
    obtain ⟨s1, s2⟩ := side_sep hn hn16 hp hp4 hi hk
    obtain ⟨s1', s2'⟩ := side_sep hn hn16 hp hp4 hi' hk
    cases hb : sideB k p i <;> cases hb' : sideB k p i' <;> rw [hb, hb'] at hm
    · simp at hm
    · change s ∈ [_] at hm
      rw [List.mem_singleton] at hm
      subst hm
      exact cut_near (cn hj hi) (cn hj' hi') la lb (.inr ⟨s2 hb, s1' hb'⟩)
    · change s ∈ [_] at hm
      rw [List.mem_singleton] at hm
      subst hm
      exact cut_near (cn hj hi) (cn hj' hi') la lb (.inl ⟨s1 hb, s2' hb'⟩)
    · simp at hm
  refine ⟨?_, ?_, fun s hs => (near s hs).1, ?_⟩
  · intro s hs
    obtain ⟨m, hm, rfl⟩ := mem_getD hs
    obtain ⟨j, i, hj, hi, rfl⟩ := T.fin hm
    exact fin_finC (hh hj hi).fin
  · refine finL_of fun s hs => ?_
    obtain ⟨h1, h2, h3⟩ := near s hs
    have f0 : finC s.1 = true := fin_finC h1.fin
    have f1 : finC s.2.1 = true := fin_finC h2.fin
    have f2 : finC s.2.2 = true := fin_finC h3.fin
    unfold finS
    rw [f0, f1, f2]
    rfl
  · -- a column where the side turns
    have h0 : sideB k p 0 = false := by simp [sideB]
    have h1 : sideB k p p = true := by
      unfold sideB
      apply decide_eq_true
      have : (2 * k + 1) * p ≤ 17 * p := Nat.mul_le_mul_right _ (by omega)
      omega
    have turn : ∀ m, m ≤ p → sideB k p m = true → ∃ i, i < m ∧ sideB k p i = false ∧ sideB k p (i + 1) = true := by
      intro m
      induction m with
      | zero => intro _ h; rw [h0] at h; cases h
      | succ m ih =>
        intro hm h
        cases hb : sideB k p m
        · exact ⟨m, by omega, hb, h⟩
        · obtain ⟨i, hi, h2⟩ := ih (by omega) hb
          exact ⟨i, by omega, h2⟩
    obtain ⟨i, hi, e1, e2⟩ := turn p (Nat.le_refl _) h1
    have hpos : 0 < q * (p * 2) := Nat.mul_pos (by omega) (by omega)
    have ht : 2 * i < q * (p * 2) := by
      have : 1 * (p * 2) ≤ q * (p * 2) := Nat.mul_le_mul_right _ hq
      omega
    refine cutsT_ge tt wayX (lvC k n) (triM p p q) (t := 2 * i) ?_ _ ht
    obtain ⟨a, b, ha, hb, h⟩ := tri_ix p ht
    have g := fun r hr => tri_getD p (q := q) (a := i) (b := 0) (r := r) hi (by omega) hr
    have x0 : triIx (triM p p q) (3 * (2 * i)) = 0 * (p + 1) + i := by
      have e0 : 3 * (2 * i) = 6 * (0 * p + i) + 0 := by omega
      unfold triIx
      rw [e0, g 0 (by omega)]
      show (((0 : Nat) : Int) * ((p : Int) + 1) + i).toNat = _
      simp
    have x1 : triIx (triM p p q) (3 * (2 * i) + 1) = 0 * (p + 1) + (i + 1) := by
      have e0 : 3 * (2 * i) + 1 = 6 * (0 * p + i) + 1 := by omega
      unfold triIx
      rw [e0, g 1 (by omega)]
      show (((0 : Nat) : Int) * ((p : Int) + 1) + i + 1).toNat = _
      simp
    have hl := triE_length tt wayX (lvC k n) (triM p p q) (2 * i)
    rw [x0, x1, pos (by omega) (by omega), pos (by omega) (by omega), e1, e2] at hl
    rcases triE_two tt wayX (lvC k n) (triM p p q) (2 * i) with h2 | h2
    · rw [h2] at hl
      simp at hl
      omega
    · exact h2

/-! ## a plane that is behind the sheet -/
abbrev minus1 : Option Nat := some 3212836864
theorem minus1_ap : Ap .f32 minus1 (-1) 0 := chk_ap (by decide +kernel)
structure NoC (tt : List S3) (p q : Nat) : Prop where
  hs : ∀ s ∈ tt, finC (hgt wayX minus1 s) = true
  none : cutsT tt wayX minus1 (triM p p q) (q * (p * 2)) = []
theorem noC {tt : List S3} {p q : Nat} {W L : Rat} (T : TL tt p q W L) (w0 : 0 ≤ W) (w8 : W ≤ 8) (hp : 1 ≤ p) (hq : 1 ≤ q) (l0 : 0 ≤ L) (l8 : L ≤ 8) : NoC tt p q := by
  have hl8 : Ab (-1 : Rat) 8 := ⟨by decide +kernel, by decide +kernel⟩
  have hh : ∀ {j i : Nat}, j ≤ q → i ≤ p → Ap .f32 (hgt wayX minus1 (tt.getD (j * (p + 1) + i) z3)) (W * ((i : Rat) / (p : Rat)) - -1) (300 * ulp) := fun hj hi => (T.cn hp hq w0 w8 l0 l8 hj hi).hgt minus1_ap hl8
  have pos : ∀ {j i : Nat}, j ≤ q → i ≤ p → posC (hgt wayX minus1 (tt.getD (j * (p + 1) + i) z3)) = true := by
    intro j i hj hi
    have h := hh hj hi
    obtain ⟨n1, n2⟩ := h.near
    have hc := (T.cn hp hq w0 w8 l0 l8 hj hi).ab.1
    rw [posC_iff h.fin]
    exact decide_eq_true (by grind)
  refine ⟨?_, ?_⟩
  · intro s hs
    obtain ⟨m, hm, rfl⟩ := mem_getD hs
    obtain ⟨j, i, hj, hi, rfl⟩ := T.fin hm
    exact fin_finC (hh hj hi).fin
  · refine List.eq_nil_iff_forall_not_mem.2 fun s hs => ?_
    obtain ⟨t, e, ht, he, hm⟩ := cutsT_mem hs
    obtain ⟨j, i, hj, hi, h1⟩ := tri_grid p ht he
    obtain ⟨j', i', hj', hi', h2⟩ := tri_grid p ht (Nat.mod_lt (e + 1) (by omega : 0 < 3))
    rw [h1, h2] at hm
    unfold edgeC at hm
    rw [pos hj hi, pos hj' hi'] at hm
    simp at hm
end Go.Proofs.Ytefnlalldgbcaaa
