/-
  FnCurves: what exact curves do: cut, turned and raised ones are the same curve.
-/
import Derived.Test.YtonbcbhnnflohaaZc
namespace Go.Proofs.Ytonbcbhnnflohaa
open Go.RowKit

theorem q12 : ((1 : Nat) : Rat) / ((2 : Nat) : Rat) = 1 / 2 := by decide +kernel
theorem q13 : ((1 : Nat) : Rat) / ((3 : Nat) : Rat) = 1 / 3 := by decide +kernel
theorem q23 : ((2 : Nat) : Rat) / ((3 : Nat) : Rat) = 2 / 3 := by decide +kernel
theorem q14 : ((1 : Nat) : Rat) / ((4 : Nat) : Rat) = 1 / 4 := by decide +kernel
theorem q24 : ((2 : Nat) : Rat) / ((4 : Nat) : Rat) = 1 / 2 := by decide +kernel
theorem q34 : ((3 : Nat) : Rat) / ((4 : Nat) : Rat) = 3 / 4 := by decide +kernel
theorem q15 : ((1 : Nat) : Rat) / ((5 : Nat) : Rat) = 1 / 5 := by decide +kernel
theorem q25 : ((2 : Nat) : Rat) / ((5 : Nat) : Rat) = 2 / 5 := by decide +kernel
theorem q35 : ((3 : Nat) : Rat) / ((5 : Nat) : Rat) = 3 / 5 := by decide +kernel
theorem q45 : ((4 : Nat) : Rat) / ((5 : Nat) : Rat) = 4 / 5 := by decide +kernel

theorem lens {xs : List Rat} {m : Nat} (h : xs.length = m + 1) (h1 : 1 ≤ m) (h4 : m ≤ 4) : (m = 1 ∧ ∃ a b, xs = [a, b]) ∨ (m = 2 ∧ ∃ a b c, xs = [a, b, c]) ∨ (m = 3 ∧ ∃ a b c d, xs = [a, b, c, d]) ∨ (m = 4 ∧ ∃ a b c d e, xs = [a, b, c, d, e]) := by
  match xs, h with
  | [a, b], h => exact .inl ⟨by simpa using h.symm, a, b, rfl⟩
  | [a, b, c], h => exact .inr (.inl ⟨by simp at h; omega, a, b, c, rfl⟩)
  | [a, b, c, d], h => exact .inr (.inr (.inl ⟨by simp at h; omega, a, b, c, d, rfl⟩))
  | [a, b, c, d, e], h => exact .inr (.inr (.inr ⟨by simp at h; omega, a, b, c, d, e, rfl⟩))
  | [], h => simp at h
  | [a], h => simp at h; omega
  | a :: b :: c :: d :: e :: f :: r, h => simp at h; omega
theorem sAt0 : ∀ (m : Nat) (xs : List Rat), xs.length = m + 1 → sAt m xs 0 = xs.headD 0
  | 0, xs, _ => rfl
  | m + 1, [], h => by simp at h
  | m + 1, [a], h => by simp at h
  | m + 1, a :: b :: r, h => by
    unfold sAt
    rw [sAt0 m _ (by rw [nextS_len]; simp at h ⊢; omega)]
    simp only [nextS, List.headD_cons]
    grind
theorem sAt1 : ∀ (m : Nat) (xs : List Rat), xs.length = m + 1 → sAt m xs 1 = xs.getLastD 0
  | 0, [], h => by simp at h
  | 0, [a], _ => rfl
  | 0, a :: b :: r, h => by simp at h
  | m + 1, xs, h => by
    unfold sAt
    rw [sAt1 m _ (by rw [nextS_len, h]; rfl)]
    have key : ∀ l : List Rat, 2 ≤ l.length → (nextS l 1).getLastD 0 = l.getLastD 0 := by
      intro l
      induction l with
      | nil => intro h; simp at h
      | cons a l ih =>
        intro hl
        cases l with
        | nil => simp at hl
        | cons b r =>
          cases r with
          | nil => simp [nextS]; grind
          | cons c r' =>
            have := ih (by simp)
            rw [getLastD_cons2, ← this]
            simp only [nextS]
            rw [getLastD_cons2]
    exact key xs (by omega)
theorem s_left {xs : List Rat} {m : Nat} (h : xs.length = m + 1) (h1 : 1 ≤ m) (h4 : m ≤ 4) (t u : Rat) : sAt m (sFst m xs t) u = sAt m xs (u * t) := by
  rcases lens h h1 h4 with ⟨rfl, a, b, rfl⟩ | ⟨rfl, a, b, c, rfl⟩ | ⟨rfl, a, b, c, d, rfl⟩ | ⟨rfl, a, b, c, d, e, rfl⟩ <;> (simp only [sAt, sFst, nextS, List.headD_cons]; grind)
theorem s_right {xs : List Rat} {m : Nat} (h : xs.length = m + 1) (h1 : 1 ≤ m) (h4 : m ≤ 4) (t u : Rat) : sAt m (sLst m xs t).reverse u = sAt m xs (t + u * (1 - t)) := by
  rcases lens h h1 h4 with ⟨rfl, a, b, rfl⟩ | ⟨rfl, a, b, c, rfl⟩ | ⟨rfl, a, b, c, d, rfl⟩ | ⟨rfl, a, b, c, d, e, rfl⟩ <;> (simp only [sAt, sLst, nextS, List.headD_cons, List.getLastD_cons, List.getLastD_nil, List.reverse_cons, List.reverse_nil, List.nil_append, List.cons_append]; grind)
theorem s_back {xs : List Rat} {m : Nat} (h : xs.length = m + 1) (h1 : 1 ≤ m) (h4 : m ≤ 4) (u : Rat) : sAt m xs.reverse (1 - u) = sAt m xs u := by
  rcases lens h h1 h4 with ⟨rfl, a, b, rfl⟩ | ⟨rfl, a, b, c, rfl⟩ | ⟨rfl, a, b, c, d, rfl⟩ | ⟨rfl, a, b, c, d, e, rfl⟩ <;> (simp only [sAt, nextS, List.headD_cons, List.reverse_cons, List.reverse_nil, List.nil_append, List.cons_append]; grind)
theorem s_raise {xs : List Rat} {m : Nat} (h : xs.length = m + 1) (h1 : 1 ≤ m) (h4 : m ≤ 4) (u : Rat) : sAt (m + 1) (sRaise xs) u = sAt m xs u := by
  rcases lens h h1 h4 with ⟨rfl, a, b, rfl⟩ | ⟨rfl, a, b, c, rfl⟩ | ⟨rfl, a, b, c, d, rfl⟩ | ⟨rfl, a, b, c, d, e, rfl⟩ <;> (simp only [sAt, sRaise, sRaiseM, nextS, List.headD_cons, List.getLastD_cons, List.getLastD_nil, List.length_cons, List.length_nil, List.nil_append, List.cons_append, Nat.zero_add, Nat.reduceAdd, q12, q13, q23, q14, q24, q34, q15, q25, q35, q45]; grind)
theorem s_mid {xs : List Rat} {m : Nat} (h : xs.length = m + 1) (h1 : 1 ≤ m) (h4 : m ≤ 4) (t : Rat) : sAt m (sFst m xs t) 1 = sAt m xs t := by
  have := s_left h h1 h4 t 1
  rwa [Rat.one_mul] at this
theorem s_start {xs : List Rat} {m : Nat} (h : xs.length = m + 1) (h1 : 1 ≤ m) (h4 : m ≤ 4) (t : Rat) : sAt m (sLst m xs t).reverse 0 = sAt m xs t := by
  have := s_right h h1 h4 t 0
  rwa [Rat.zero_mul, Rat.add_zero] at this
/-- Bounds. -/
inductive PB (q : Rat) : List Rat → List Rat → Prop
  | nil : PB q [] []
  | cons {x w X W} : q * w ≤ x → PB q X W → PB q (x :: X) (w :: W)
theorem PB.next {q X W s} (h : PB q X W) (h0 : 0 ≤ s) (h1 : s ≤ 1) : PB q (nextS X s) (nextS W s) := by
  induction h with
  | nil => exact .nil
  | @cons x w X W ha hb ih =>
    cases hb with
    | nil => exact .nil
    | @cons x' w' X' W' hc hd =>
      refine .cons ?_ ih
      have e1 := Rat.mul_nonneg (a := x - q * w) (b := 1 - s) (by grind) (by grind)
      have e2 := Rat.mul_nonneg (a := x' - q * w') (b := s) (by grind) h0
      grind
theorem PB.at_ {q s} (h0 : 0 ≤ s) (h1 : s ≤ 1) : ∀ (m : Nat) {X W : List Rat}, PB q X W → q * sAt m W s ≤ sAt m X s
  | 0, _, _, h => by
    cases h with
    | nil => show q * 0 ≤ 0; grind
    | cons h _ => exact h
  | m + 1, _, _, h => PB.at_ h0 h1 m (h.next h0 h1)
end Go.Proofs.Ytonbcbhnnflohaa
