/-
  FnCurves: what an input chooses, exactly; smaller and greater numbers.
-/
import Derived.Test.YtonbcbhnnflohaaZe
import Derived.Test.YtonbcbhnnflohaaYn
namespace Go.Proofs.Ytonbcbhnnflohaa
open Go.RowKit

/-! ## quarters, sixteenths, shares -/
theorem qv_table : ∀ x : Nat, x < 33 → rung FloatKind.f32.format (qv ((x : Int) - 16)) < FloatKind.f32.format.infRung ∧ rF (qv ((x : Int) - 16)) = (((x : Int) - 16 : Int) : Rat) / 4 := by decide +kernel
theorem qv_ok {i : Int} (h1 : -16 ≤ i) (h2 : i ≤ 16) : G (qv i) ∧ rF (qv i) = (i : Rat) / 4 ∧ Is .f32 (qv i) (some (qv i)) := by
  have h := qv_table (i + 16).toNat (by omega)
  rw [show (((i + 16).toNat : Nat) : Int) - 16 = i by omega] at h
  exact ⟨h.1, h.2, fop_is (qW_ok h1 h2)⟩
theorem sv_table : ∀ x : Nat, x < 17 → rung FloatKind.f32.format (sv (x : Int)) < FloatKind.f32.format.infRung ∧ rF (sv (x : Int)) = (((x : Int) * 16 : Int) : Rat) * p2 (-8) := by decide +kernel
theorem p2m8 : p2 (-8) = 1 / 256 := by decide +kernel
theorem exOf {t : Nat} {j : Int} (h : G t) (hv : rF t = (j : Rat) * p2 (-8)) : Ex' .f32 (some t) j (-8) := ⟨h, hv⟩
theorem sv_ex {i : Int} (h1 : 0 ≤ i) (h2 : i ≤ 16) : Ex' .f32 (some (sv i)) (i * 16) (-8) := by
  have h := sv_table i.toNat (by omega)
  rw [show ((i.toNat : Nat) : Int) = i by omega] at h
  exact exOf h.1 h.2
theorem one_ex : Ex' .f32 (some 1065353216) 256 (-8) := exOf G1 (by rw [one3]; decide +kernel)
theorem coarse {c : Option Nat} {j : Int} (h : Ex' .f32 c (j * 16) (-8)) : Ex' .f32 c j (-4) := h.to (by
  have e1 : p2 (-8) = 1 / 256 := by decide +kernel
  have e2 : p2 (-4) = 1 / 16 := by decide +kernel
  rw [e1, e2, Rat.intCast_mul]
  have : ((16 : Int) : Rat) = 16 := rfl
  grind)
/-- A time that is exact. -/
theorem time_of {t : Nat} {j : Int} (h : Ex' .f32 (some t) j (-8)) (h0 : 0 ≤ j) (h1 : j ≤ 256) : TM t ((j : Rat) / 256) 0 := by
  obtain ⟨b, hb, gb, vb⟩ := (one_ex.sub h (by omega) (by omega) (by omega)).ex
  obtain ⟨b', hb', gt, vt⟩ := h.ex
  obtain rfl := Option.some.inj hb'
  rw [p2m8] at vb vt
  have j0 : (0 : Rat) ≤ (j : Rat) := Rat.intCast_le_intCast.2 h0
  have j1 : (j : Rat) ≤ ((256 : Int) : Rat) := Rat.intCast_le_intCast.2 h1
  have e : ((256 : Int) : Rat) = 256 := rfl
  rw [e] at j1
  rw [Rat.intCast_sub, e] at vb
  refine ⟨gt, by grind, by grind, ?_, b, hb, gb, ?_⟩
  · show Ab (rv .f32 t - _) 0
    rw [vt]; constructor <;> grind
  · show Ab (rv .f32 b - _) 0
    rw [vb]; constructor <;> grind
/-- The shares of raised curves. -/
def shareB (i m : Nat) : Bool := match shareW (i : Nat) (m : Nat) with
  | none => false
  | some t => decide (rung FloatKind.f32.format t < FloatKind.f32.format.infRung) && decide (rF t - (i : Rat) / (m : Rat) ≤ 4 * U) && decide (-(4 * U) ≤ rF t - (i : Rat) / (m : Rat)) && decide (0 ≤ (i : Rat) / (m : Rat)) && decide ((i : Rat) / (m : Rat) ≤ 1) &&
    match fop .sub .f32 (some 1065353216) (some t) with
    | none => false
    | some o => decide (rung FloatKind.f32.format o < FloatKind.f32.format.infRung) && decide (rF o - (1 - (i : Rat) / (m : Rat)) ≤ 4 * U) && decide (-(4 * U) ≤ rF o - (1 - (i : Rat) / (m : Rat)))
theorem share_table : ∀ m : Nat, m < 6 → ∀ i : Nat, i < m → 1 ≤ i → shareB i m = true := by decide +kernel
theorem share_ok {i m : Nat} (h1 : 1 ≤ i) (h2 : i < m) (h3 : m < 6) : ∃ t, shareW (i : Nat) (m : Nat) = some t ∧ TM t ((i : Rat) / (m : Rat)) (4 * U) := by
  have h := share_table m h3 i h2 h1
  unfold shareB at h
  split at h
  · cases h
  · rename_i t ht
    simp only [Bool.and_eq_true, decide_eq_true_eq] at h
    obtain ⟨⟨⟨⟨⟨a1, a2⟩, a3⟩, a4⟩, a5⟩, a6⟩ := h
    split at a6
    · cases a6
    · rename_i o ho
      simp only [Bool.and_eq_true, decide_eq_true_eq] at a6
      obtain ⟨⟨b1, b2⟩, b3⟩ := a6
      exact ⟨t, ht, a1, a4, a5, ⟨a2, a3⟩, o, ho, b1, b2, b3⟩
/-! ## the smaller, the greater number -/
theorem ord_iff {a b : Nat} (ha : G a) (hb : G b) : FloatKind.f32.format.order a b = some (compare (Go.Proofs.Ytonbcbhnnflohaa.val FloatKind.f32.format a) (Go.Proofs.Ytonbcbhnnflohaa.val FloatKind.f32.format b)) := ford_fin (k := .f32) ha hb
theorem min_ok {a b : Nat} (ha : G a) (hb : G b) (ia : Is .f32 a (some a)) (ib : Is .f32 b (some b)) : ∃ r, minW a b = some r ∧ G r ∧ Is .f32 r (some r) ∧ rF r ≤ rF a ∧ rF r ≤ rF b ∧ (r = a ∨ r = b) := by
  have ho := ord_iff ha hb
  have h1 := rv_lt (k := .f32) ha hb
  have h2 := rv_lt (k := .f32) hb ha
  unfold minW
  rw [ho]
  rcases Int.lt_trichotomy (Go.Proofs.Ytonbcbhnnflohaa.val FloatKind.f32.format a) (Go.Proofs.Ytonbcbhnnflohaa.val FloatKind.f32.format b) with h | h | h
  · rw [show compare (Go.Proofs.Ytonbcbhnnflohaa.val FloatKind.f32.format a) (Go.Proofs.Ytonbcbhnnflohaa.val FloatKind.f32.format b) = .lt from Int.compare_eq_lt.2 h]
    have := h1.2 h
    exact ⟨a, rfl, ha, ia, Rat.le_refl, by show rv .f32 a ≤ rv .f32 b; grind, .inl rfl⟩
  · have e1 : ¬ rv .f32 a < rv .f32 b := fun hl => by have := h1.1 hl; omega
    have e2 : ¬ rv .f32 b < rv .f32 a := fun hl => by have := h2.1 hl; omega
    rw [show compare (Go.Proofs.Ytonbcbhnnflohaa.val FloatKind.f32.format a) (Go.Proofs.Ytonbcbhnnflohaa.val FloatKind.f32.format b) = .eq from Int.compare_eq_eq.2 h]
    by_cases hn : (FloatKind.f32.decode a).neg = true
    · exact ⟨a, by simp [hn], ha, ia, Rat.le_refl, by show rv .f32 a ≤ rv .f32 b; grind, .inl rfl⟩
    · exact ⟨b, by simp [hn], hb, ib, by show rv .f32 b ≤ rv .f32 a; grind, Rat.le_refl, .inr rfl⟩
  · rw [show compare (Go.Proofs.Ytonbcbhnnflohaa.val FloatKind.f32.format a) (Go.Proofs.Ytonbcbhnnflohaa.val FloatKind.f32.format b) = .gt from Int.compare_eq_gt.2 h]
    have := h2.2 h
    exact ⟨b, rfl, hb, ib, by show rv .f32 b ≤ rv .f32 a; grind, Rat.le_refl, .inr rfl⟩
theorem max_ok {a b : Nat} (ha : G a) (hb : G b) (ia : Is .f32 a (some a)) (ib : Is .f32 b (some b)) : ∃ r, maxW a b = some r ∧ G r ∧ Is .f32 r (some r) ∧ rF a ≤ rF r ∧ rF b ≤ rF r ∧ (r = a ∨ r = b) := by
  have ho := ord_iff ha hb
  have h1 := rv_lt (k := .f32) ha hb
  have h2 := rv_lt (k := .f32) hb ha
  unfold maxW
  rw [ho]
  rcases Int.lt_trichotomy (Go.Proofs.Ytonbcbhnnflohaa.val FloatKind.f32.format a) (Go.Proofs.Ytonbcbhnnflohaa.val FloatKind.f32.format b) with h | h | h
  · rw [show compare (Go.Proofs.Ytonbcbhnnflohaa.val FloatKind.f32.format a) (Go.Proofs.Ytonbcbhnnflohaa.val FloatKind.f32.format b) = .lt from Int.compare_eq_lt.2 h]
    have := h1.2 h
    exact ⟨b, rfl, hb, ib, by show rv .f32 a ≤ rv .f32 b; grind, Rat.le_refl, .inr rfl⟩
  · have e1 : ¬ rv .f32 a < rv .f32 b := fun hl => by have := h1.1 hl; omega
    have e2 : ¬ rv .f32 b < rv .f32 a := fun hl => by have := h2.1 hl; omega
    rw [show compare (Go.Proofs.Ytonbcbhnnflohaa.val FloatKind.f32.format a) (Go.Proofs.Ytonbcbhnnflohaa.val FloatKind.f32.format b) = .eq from Int.compare_eq_eq.2 h]
    by_cases hn : (FloatKind.f32.decode a).neg = true
    · exact ⟨b, by simp [hn], hb, ib, by show rv .f32 a ≤ rv .f32 b; grind, Rat.le_refl, .inr rfl⟩
    · exact ⟨a, by simp [hn], ha, ia, Rat.le_refl, by show rv .f32 b ≤ rv .f32 a; grind, .inl rfl⟩
  · rw [show compare (Go.Proofs.Ytonbcbhnnflohaa.val FloatKind.f32.format a) (Go.Proofs.Ytonbcbhnnflohaa.val FloatKind.f32.format b) = .gt from Int.compare_eq_gt.2 h]
    have := h2.2 h
    exact ⟨a, rfl, ha, ia, Rat.le_refl, by show rv .f32 b ≤ rv .f32 a; grind, .inl rfl⟩
/-- The bounds of a curve. -/
def loF (c : List Kn) (x : Nat) : Nat → Nat
  | 0 => x
  | i + 1 => (minW (loF c x i) (c.getD i (0, 0, 0)).1).getD 0
def hiF (c : List Kn) (x : Nat) : Nat → Nat
  | 0 => x
  | i + 1 => (maxW (hiF c x i) (c.getD i (0, 0, 0)).1).getD 0
def plF (c : List Kn) : Nat → Bool
  | 0 => true
  | i + 1 => plF c i && feqB .f32 (some (c.getD i (0, 0, 0)).2.2) (some 1065353216)
theorem getD_eq {c : List Kn} {i : Nat} (h : i < c.length) : c.getD i (0, 0, 0) = c[i] := by
  rw [List.getD_eq_getElem?_getD, List.getElem?_eq_getElem h]; rfl
theorem lo_ok {c : List Kn} (hc : ∀ k ∈ c, G k.1 ∧ Is .f32 k.1 (some k.1) ∧ Ab (rF k.1) 4) (h0 : 0 < c.length) : ∀ i, i ≤ c.length → G (loF c c[0].1 i) ∧ Is .f32 (loF c c[0].1 i) (some (loF c c[0].1 i)) ∧ Ab (rF (loF c c[0].1 i)) 4 ∧ (∀ j (_ : j < i) (hl : j < c.length), rF (loF c c[0].1 i) ≤ rF c[j].1) ∧ ∀ (hl : i < c.length), minW (loF c c[0].1 i) c[i].1 = some (loF c c[0].1 (i + 1)) := by
  have step : ∀ i (hl : i < c.length), G (loF c c[0].1 i) → Is .f32 (loF c c[0].1 i) (some (loF c c[0].1 i)) → minW (loF c c[0].1 i) c[i].1 = some (loF c c[0].1 (i + 1)) := by
    intro i hl hg hi
    obtain ⟨g, ig, _⟩ := hc _ (List.getElem_mem hl)
    obtain ⟨r, hr, _⟩ := min_ok hg g hi ig
    rw [loF, getD_eq hl, hr]; rfl
  intro i
  induction i with
  | zero =>
    intro _
    obtain ⟨g, ig, b⟩ := hc _ (List.getElem_mem h0)
    exact ⟨g, ig, b, fun j hj => by omega, fun hl => step 0 hl g ig⟩
  | succ i ih =>
    intro hi
    obtain ⟨g, ig, b, hall, _⟩ := ih (by omega)
    obtain ⟨gi, igi, bi⟩ := hc _ (List.getElem_mem (show i < c.length by omega))
    obtain ⟨r, hr, hg, hig, l1, l2, l3⟩ := min_ok g gi ig igi
    have e : loF c c[0].1 (i + 1) = r := by rw [loF, getD_eq (by omega), hr]; rfl
    rw [e]
    refine ⟨hg, hig, ?_, ?_, fun hl => by have := step (i + 1) hl; rw [e] at this; exact this hg hig⟩
    · rcases l3 with rfl | rfl
      · exact b
      · exact bi
    · intro j hj hl
      by_cases hji : j = i
      · subst hji; exact l2
      · exact Rat.le_trans l1 (hall j (by omega) hl)
theorem hi_ok {c : List Kn} (hc : ∀ k ∈ c, G k.1 ∧ Is .f32 k.1 (some k.1) ∧ Ab (rF k.1) 4) (h0 : 0 < c.length) : ∀ i, i ≤ c.length → G (hiF c c[0].1 i) ∧ Is .f32 (hiF c c[0].1 i) (some (hiF c c[0].1 i)) ∧ Ab (rF (hiF c c[0].1 i)) 4 ∧ (∀ j (_ : j < i) (hl : j < c.length), rF c[j].1 ≤ rF (hiF c c[0].1 i)) ∧ ∀ (hl : i < c.length), maxW (hiF c c[0].1 i) c[i].1 = some (hiF c c[0].1 (i + 1)) := by
  have step : ∀ i (hl : i < c.length), G (hiF c c[0].1 i) → Is .f32 (hiF c c[0].1 i) (some (hiF c c[0].1 i)) → maxW (hiF c c[0].1 i) c[i].1 = some (hiF c c[0].1 (i + 1)) := by
    intro i hl hg hi
    obtain ⟨g, ig, _⟩ := hc _ (List.getElem_mem hl)
    obtain ⟨r, hr, _⟩ := max_ok hg g hi ig
    rw [hiF, getD_eq hl, hr]; rfl
  intro i
  induction i with
  | zero =>
    intro _
    obtain ⟨g, ig, b⟩ := hc _ (List.getElem_mem h0)
    exact ⟨g, ig, b, fun j hj => by omega, fun hl => step 0 hl g ig⟩
  | succ i ih =>
    intro hi
    obtain ⟨g, ig, b, hall, _⟩ := ih (by omega)
    obtain ⟨gi, igi, bi⟩ := hc _ (List.getElem_mem (show i < c.length by omega))
    obtain ⟨r, hr, hg, hig, l1, l2, l3⟩ := max_ok g gi ig igi
    have e : hiF c c[0].1 (i + 1) = r := by rw [hiF, getD_eq (by omega), hr]; rfl
    rw [e]
    refine ⟨hg, hig, ?_, ?_, fun hl => by have := step (i + 1) hl; rw [e] at this; exact this hg hig⟩
    · rcases l3 with rfl | rfl
      · exact b
      · exact bi
    · intro j hj hl
      by_cases hji : j = i
      · subst hji; exact l2
      · exact Rat.le_trans (hall j (by omega) hl) l1
end Go.Proofs.Ytonbcbhnnflohaa
