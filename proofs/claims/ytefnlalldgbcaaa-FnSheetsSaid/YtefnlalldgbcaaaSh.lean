/-
  The plain law of sheets: cuttings in numbers, what rounding costs.
-/
import Derived.Test.YtefnlalldgbcaaaAps
import Derived.Test.YtefnlalldgbcaaaCut
namespace Go.Proofs.Ytefnlalldgbcaaa
open Go.RowKit

/-! ## cuttings in numbers -/
def lerp (t : Rat) (x : Nat → Nat → Rat) : Nat → Nat → Rat := fun i c => x i c * (1 - t) + x (i + 1) c * t
def lerpN (t : Rat) : Nat → (Nat → Nat → Rat) → Nat → Nat → Rat
  | 0, x => x
  | n + 1, x => lerpN t n (lerp t x)
theorem lerpN_lin (t p q : Rat) : ∀ (n : Nat) (x y : Nat → Nat → Rat) (i c : Nat), lerpN t n (fun i c => x i c * p + y i c * q) i c = lerpN t n x i c * p + lerpN t n y i c * q
  | 0, _, _, _, _ => rfl
  | n + 1, x, y, i, c => by
    have e : lerp t (fun i c => x i c * p + y i c * q) = fun i c => lerp t x i c * p + lerp t y i c * q := by
      funext i c
      unfold lerp
      grind
    show lerpN t n (lerp t _) i c = lerpN t n (lerp t x) i c * p + lerpN t n (lerp t y) i c * q
    rw [e]
    exact lerpN_lin t p q n _ _ i c
/-- Rows first or columns first. -/
theorem lerpN_comm (s t : Rat) (n k : Nat) : ∀ (m : Nat) (X : Nat → Nat → Nat → Rat) (c : Nat), lerpN s m (fun i => lerpN t n (fun j => X j i) k) 0 c = lerpN t n (fun j => lerpN s m (X j) 0) k c
  | 0, _, _ => rfl
  | m + 1, X, c => by
    have e : lerp s (fun i => lerpN t n (fun j => X j i) k) = fun i => lerpN t n (fun j => lerp s (X j) i) k := by
      funext i c
      have := lerpN_lin t (1 - s) s n (fun j => X j i) (fun j => X j (i + 1)) k c
      exact this.symm
    show lerpN s m (lerp s _) 0 c = lerpN t n (fun j => lerpN s m (lerp s (X j)) 0) k c
    rw [e]
    exact lerpN_comm s t n k m (fun j => lerp s (X j)) c
theorem lerpN_zero (x : Nat → Nat → Rat) (i c : Nat) : ∀ n, lerpN 0 n x i c = x i c
  | 0 => rfl
  | n + 1 => by
    have e : lerp 0 x = x := by
      funext i c
      unfold lerp
      grind
    show lerpN 0 n (lerp 0 x) i c = x i c
    rw [e]
    exact lerpN_zero x i c n
theorem lerpN_one (i c : Nat) : ∀ (n : Nat) (x : Nat → Nat → Rat), lerpN 1 n x i c = x (i + n) c
  | 0, _ => rfl
  | n + 1, x => by
    show lerpN 1 n (lerp 1 x) i c = x (i + (n + 1)) c
    rw [lerpN_one i c n]
    unfold lerp
    rw [show i + n + 1 = i + (n + 1) by omega]
    grind
/-- The front part, cut at u, is the whole, cut at u t. -/
theorem lerpN_front (u t : Rat) (x : Nat → Nat → Rat) (c : Nat) {m : Nat} (hm : m ≤ 3) : lerpN u m (fun i => lerpN t i x 0) 0 c = lerpN (u * t) m x 0 c := by
  have hc : m = 0 ∨ m = 1 ∨ m = 2 ∨ m = 3 := by omega
  rcases hc with rfl | rfl | rfl | rfl <;> simp only [lerpN, lerp] <;> grind
/-- The back part, cut at u, is the whole, cut at t + u (1 - t). -/
theorem lerpN_back (u t : Rat) (x : Nat → Nat → Rat) (c : Nat) {m : Nat} (hm : m ≤ 3) : lerpN u m (fun i => lerpN t (m - i) x i) 0 c = lerpN (t + u * (1 - t)) m x 0 c := by
  have hc : m = 0 ∨ m = 1 ∨ m = 2 ∨ m = 3 := by omega
  rcases hc with rfl | rfl | rfl | rfl <;> simp only [lerpN, lerp, Nat.sub_zero, Nat.sub_self, Nat.zero_add, Nat.reduceAdd, Nat.reduceSub] <;> grind

/-! ## bounds -/
theorem lerp_ab {t : Rat} {p q : Rat} (h0 : 0 ≤ t) (h1 : t ≤ 1) (hp : Ab p 8) (hq : Ab q 8) : Ab (p * (1 - t) + q * t) 8 := by
  obtain ⟨x1, x2⟩ := hp
  obtain ⟨y1, y2⟩ := hq
  have h1 : 0 ≤ 1 - t := by grind
  have a1 := Rat.mul_le_mul_of_nonneg_right x1 h1
  have a2 := Rat.mul_le_mul_of_nonneg_right x2 h1
  have b1 := Rat.mul_le_mul_of_nonneg_right y1 h0
  have b2 := Rat.mul_le_mul_of_nonneg_right y2 h0
  constructor <;> grind
/-- The numbers of a list are within 8. -/
def LB (x : Nat → Nat → Rat) (n : Nat) : Prop := ∀ i, i < n → ∀ c, Ab (x i c) 8
theorem LB.next {x n} {t : Rat} (h : LB x n) (h0 : 0 ≤ t) (h1 : t ≤ 1) : LB (lerp t x) (n - 1) := fun i hi c => lerp_ab h0 h1 (h i (by omega) c) (h (i + 1) (by omega) c)
theorem LB.nextN {t : Rat} (h0 : 0 ≤ t) (h1 : t ≤ 1) : ∀ (k : Nat) {x : Nat → Nat → Rat} {n : Nat}, LB x n → LB (lerpN t k x) (n - k)
  | 0, _, _, h => h
  | k + 1, x, n, h => by
    have := LB.nextN h0 h1 k (h.next h0 h1)
    rw [show n - (k + 1) = n - 1 - k by omega]
    exact this

/-- A share: from 0 to 1. -/
structure Sha (c : Option Nat) : Prop where
  fin : Fin .f32 c
  ge : 0 ≤ cv .f32 c
  le : cv .f32 c ≤ 1
theorem one_ap : Ap .f32 one32 1 0 := chk_ap (by decide +kernel)
abbrev DD : Rat := 48 / 16777216
theorem mid_ap {x y c : Option Nat} {p q e : Rat} (hx : Ap .f32 x p e) (hy : Ap .f32 y q e) (hc : Sha c) (hp : Ab p 8) (hq : Ab q 8) (he0 : 0 ≤ e) (he : e ≤ 1 / 2) :
    Ap .f32 (fop .add .f32 (fop .mul .f32 x (fop .sub .f32 one32 c)) (fop .mul .f32 y c)) (p * (1 - cv .f32 c) + q * cv .f32 c) (e + DD) := by
  have g1 := p2m126
  have g2 := p2127
  have t0 := hc.ge
  have t1 := hc.le
  have hca : Ap .f32 c (cv .f32 c) 0 := ⟨hc.fin, by grind, by grind⟩
  generalize cv .f32 c = t at *
  have hd := Ap.sub (M := 1) one_ap hca ⟨by grind, by grind⟩ (by grind) (by grind)
  rw [uk32] at hd
  have hd := hd.mono (f := 1 / 16777216) (by grind)
  have et : e * t ≤ e * 1 := Rat.mul_le_mul_of_nonneg_left t1 he0
  have et0 : 0 ≤ e * t := Rat.mul_nonneg he0 t0
  have m1 := Ap.mul (M := 10) (A := 8) (B := 1 - t) hx hd hp ⟨by grind, by grind⟩ (by
    have : (8 + e) * (1 - t + 1 / 16777216) = 8 - 8 * t + 8 / 16777216 + e - e * t + e / 16777216 := by grind
    rw [this]
    grind) (by grind) (by grind)
  rw [uk32] at m1
  have m1 := m1.mono (f := e - e * t + 19 / 16777216) (by grind)
  have m2 := Ap.mul (M := 10) (A := 8) (B := t) hy hca hq ⟨by grind, by grind⟩ (by
    have : (8 + e) * (t + 0) = 8 * t + e * t := by grind
    rw [this]
    grind) (by grind) (by grind)
  rw [uk32] at m2
  have m2 := m2.mono (f := e * t + 10 / 16777216) (by grind)
  obtain ⟨b1, b2⟩ := lerp_ab t0 t1 hp hq
  have s1 := Ap.add (M := 10) m1 m2 ⟨by grind, by grind⟩ (by grind) (by grind)
  rw [uk32] at s1
  exact s1.mono (by grind)
theorem midS_ap {s s' : S3} {c : Option Nat} {v v' : Nat → Rat} {e : Rat} (h : ApS s v e) (h' : ApS s' v' e) (hc : Sha c) (hv : ∀ k, Ab (v k) 8) (hv' : ∀ k, Ab (v' k) 8) (he0 : 0 ≤ e) (he : e ≤ 1 / 2) :
    ApS (midS c s s') (fun k => v k * (1 - cv .f32 c) + v' k * cv .f32 c) (e + DD) := by
  intro k
  unfold midS
  rw [pj_add, pj_times, pj_times]
  exact mid_ap (h k) (h' k) hc (hv k) (hv' k) he0 he
/-- A list whose spots are near to numbers. -/
def LAp (ss : List S3) (x : Nat → Nat → Rat) (e : Rat) : Prop := ∀ i, i < ss.length → ApS (ss.getD i z3) (x i) e
theorem LAp.next {ss : List S3} {x : Nat → Nat → Rat} {e : Rat} {c : Option Nat} (h : LAp ss x e) (hB : LB x ss.length) (hc : Sha c) (he0 : 0 ≤ e) (he : e ≤ 1 / 2) : LAp (nextL c ss) (lerp (cv .f32 c) x) (e + DD) := by
  intro i hi
  rw [nextL_length] at hi
  have hg := nextL_get c ss i (by omega)
  have e1 : (nextL c ss).getD i z3 = midS c (ss.getD i z3) (ss.getD (i + 1) z3) := by
    rw [List.getD_eq_getElem?_getD, hg, List.getD_eq_getElem?_getD, List.getD_eq_getElem?_getD, List.getElem?_eq_getElem (by omega), List.getElem?_eq_getElem (by omega)]
    rfl
  rw [e1]
  exact midS_ap (h i (by omega)) (h (i + 1) (by omega)) hc (hB i (by omega)) (hB (i + 1) (by omega)) he0 he
theorem LAp.nextN {c : Option Nat} (hc : Sha c) : ∀ (n : Nat) {ss : List S3} {x : Nat → Nat → Rat} {e : Rat}, LAp ss x e → LB x ss.length → 0 ≤ e → e + n * DD ≤ 1 / 2 → LAp (cutN c n ss) (lerpN (cv .f32 c) n x) (e + n * DD)
  | 0, ss, x, e, h, _, _, _ => by
    have : e + ((0 : Nat) : Rat) * DD = e := by grind
    rw [this]
    exact h
  | n + 1, ss, x, e, h, hB, he0, he => by
    have hn : (0 : Rat) ≤ (n : Rat) := Rat.natCast_nonneg
    have e1 : e + ((n + 1 : Nat) : Rat) * DD = e + DD + (n : Rat) * DD := by
      rw [Rat.natCast_add]
      grind
    rw [e1] at he ⊢
    have hnd : (0 : Rat) ≤ (n : Rat) * DD := Rat.mul_nonneg hn (by decide +kernel)
    have hB' : LB (lerp (cv .f32 c) x) (nextL c ss).length := by
      rw [nextL_length]
      exact hB.next hc.ge hc.le
    exact LAp.nextN hc n (h.next hB hc he0 (by grind)) hB' (by grind) he
end Go.Proofs.Ytefnlalldgbcaaa
