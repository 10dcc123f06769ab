/-
  The plain law of flat sheets: the whole area.
-/
import Derived.Test.YtefnlalldgbcaaaFw
namespace Go.Proofs.Ytefnlalldgbcaaa
open Go.RowKit

abbrev E5 : Rat := 60000 / 16777216
theorem sum_flat {tt : List S3} {p q : Nat} {W L : Rat} (T : TL tt p q W L) (hp : 1 ≤ p) (hp4 : p ≤ 4) (hq : 1 ≤ q) (hq4 : q ≤ 4) (w1 : 1 / 2 ≤ W) (w8 : W ≤ 8) (l1 : 1 / 2 ≤ L) (l8 : L ≤ 8) : Ap .f32 (sumT tt (triM p p q) (q * (p * 2))) (W * L) E5 := by
  have hpp := natPos (n := p) (by omega)
  have hqq := natPos (n := q) (by omega)
  have hp1 : ((1 : Nat) : Rat) ≤ (p : Rat) := natR hp
  have hq1 : ((1 : Nat) : Rat) ≤ (q : Rat) := natR hq
  have hp4' : (p : Rat) ≤ ((4 : Nat) : Rat) := natR hp4
  have hq4' : (q : Rat) ≤ ((4 : Nat) : Rat) := natR hq4
  have c1 : ((1 : Nat) : Rat) = 1 := rfl
  have c4 : ((4 : Nat) : Rat) = 4 := rfl
  rw [c1] at hp1 hq1
  rw [c4] at hp4' hq4'
  have eW : W / (p : Rat) * (p : Rat) = W := Rat.div_mul_cancel (by grind)
  have eL : L / (q : Rat) * (q : Rat) = L := Rat.div_mul_cancel (by grind)
  have tr := fun t ht => trm_flat T hp hp4 hq hq4 w1 w8 l1 l8 (t := t) ht
  generalize W / (p : Rat) = w at eW tr
  generalize L / (q : Rat) = l at eL tr
  have w0 : 0 ≤ w := by
    refine Rat.le_of_mul_le_mul_right (c := (p : Rat)) ?_ hpp
    rw [eW]; grind
  have l0 : 0 ≤ l := by
    refine Rat.le_of_mul_le_mul_right (c := (q : Rat)) ?_ hqq
    rw [eL]; grind
  have hK : ((q * (p * 2) : Nat) : Rat) = (q : Rat) * ((p : Rat) * 2) := by rw [Rat.natCast_mul, Rat.natCast_mul]; rfl
  have hWL : (q : Rat) * ((p : Rat) * 2) * (w * l / 2) = W * L := by
    rw [← eW, ← eL]
    grind
  have hWL64 : W * L ≤ 64 := by
    have x1 := Rat.mul_le_mul_of_nonneg_right w8 (show 0 ≤ L by grind)
    grind
  have hwl0 := Rat.mul_nonneg w0 l0
  have hwl64 : w * l ≤ 64 := by
    have h1 := Rat.mul_le_mul_of_nonneg_left hp1 w0
    have h2 := Rat.mul_le_mul_of_nonneg_left hq1 l0
    have h3 := Rat.mul_le_mul_of_nonneg_right (show w ≤ 8 by grind) l0
    grind
  have wq : W * (q : Rat) ≤ 32 := by
    have h1 := Rat.mul_le_mul_of_nonneg_right w8 (show (0 : Rat) ≤ (q : Rat) by grind)
    grind
  have lp : L * (p : Rat) ≤ 32 := by
    have h1 := Rat.mul_le_mul_of_nonneg_right l8 (show (0 : Rat) ≤ (p : Rat) by grind)
    grind
  have pq16 : (p : Rat) * (q : Rat) ≤ 16 := by
    have h1 := Rat.mul_le_mul_of_nonneg_right hp4' (show (0 : Rat) ≤ (q : Rat) by grind)
    grind
  have pq1 : 1 ≤ (p : Rat) * (q : Rat) := by
    have h1 := Rat.mul_le_mul_of_nonneg_right hp1 (show (0 : Rat) ≤ (q : Rat) by grind)
    grind
  -- what a triangle costs
  obtain ⟨η, hη⟩ : ∃ η : Rat, η = ((w + 2 * l) * Ed + 300 * ulp + 20 * ulp * (w * l)) / 2 + 110 * ulp := ⟨_, rfl⟩
  have hη0 : 0 ≤ η := by
    have h1 := Rat.mul_nonneg (show 0 ≤ w + 2 * l by grind) (show (0 : Rat) ≤ Ed by decide +kernel)
    have h2 := Rat.mul_nonneg (show (0 : Rat) ≤ 20 * ulp by decide +kernel) hwl0
    grind
  have hKη : (q : Rat) * ((p : Rat) * 2) * η ≤ E5 := by
    have e : (q : Rat) * ((p : Rat) * 2) * η = (W * (q : Rat) + 2 * (L * (p : Rat))) * Ed + 520 * ulp * ((p : Rat) * (q : Rat)) + 20 * ulp * (W * L) := by
      rw [hη, ← eW, ← eL]
      grind
    rw [e]
    have h1 := Rat.mul_le_mul_of_nonneg_right (show W * (q : Rat) + 2 * (L * (p : Rat)) ≤ 96 by grind) (show (0 : Rat) ≤ Ed by decide +kernel)
    have h2 := Rat.mul_le_mul_of_nonneg_left pq16 (show (0 : Rat) ≤ 520 * ulp by decide +kernel)
    have h3 := Rat.mul_le_mul_of_nonneg_left hWL64 (show (0 : Rat) ≤ 20 * ulp by decide +kernel)
    have h4 : 96 * Ed + 520 * ulp * 16 + 20 * ulp * 64 ≤ E5 := by decide +kernel
    grind
  have hsm := p2m126
  have hbig := p2127
  have key : ∀ k : Nat, k ≤ q * (p * 2) → Ap .f32 (sumT tt (triM p p q) k) ((k : Rat) * (w * l / 2)) ((k : Rat) * η) := by
    intro k
    induction k with
    | zero =>
      intro _
      have z : ((0 : Nat) : Rat) = 0 := rfl
      rw [z]
      exact (zero_zr.ap.to (by grind)).mono (by grind)
    | succ k ih =>
      intro hk
      have h1 := ih (by omega)
      have h2 := tr k (by omega)
      have hkK : ((k + 1 : Nat) : Rat) ≤ (q : Rat) * ((p : Rat) * 2) := by rw [← hK]; exact natR hk
      have hkc : ((k + 1 : Nat) : Rat) = (k : Rat) + 1 := Rat.natCast_add k 1
      rw [hkc] at hkK ⊢
      have hk0 : (0 : Rat) ≤ (k : Rat) := Rat.natCast_nonneg
      have b1 := Rat.mul_le_mul_of_nonneg_right hkK (show 0 ≤ w * l / 2 by grind)
      have b2 := Rat.mul_le_mul_of_nonneg_right hkK hη0
      have b3 := Rat.mul_nonneg hk0 (show 0 ≤ w * l / 2 by grind)
      have b4 := Rat.mul_nonneg hk0 hη0
      rw [hWL] at b1
      have e5 : (E5 : Rat) ≤ 1 / 100 := by decide +kernel
      obtain ⟨f1, f2⟩ := half_bd
      have hh : Ap .f32 half32 (1 / 2) 0 := ⟨f1.fin, by rw [f2]; constructor <;> decide +kernel⟩
      clear tr ih
      have hEt : (w + 2 * l) * Ed + 300 * ulp + 20 * ulp * (w * l) ≤ 1 := by
        have g1 : (1 : Rat) * η ≤ (q : Rat) * ((p : Rat) * 2) * η := Rat.mul_le_mul_of_nonneg_right (by grind) hη0
        have e6 : (E5 : Rat) ≤ 1 / 4 := by decide +kernel
        grind
      have hEt0 : 0 ≤ (w + 2 * l) * Ed + 300 * ulp + 20 * ulp * (w * l) := by
        have g1 := Rat.mul_nonneg (show 0 ≤ w + 2 * l by grind) (show (0 : Rat) ≤ Ed by decide +kernel)
        have g2 := Rat.mul_nonneg (show (0 : Rat) ≤ 20 * ulp by decide +kernel) hwl0
        grind
      generalize (w + 2 * l) * Ed + 300 * ulp + 20 * ulp * (w * l) = Et at *
      have m1 := Ap.mul (M := 40) (A := 1 / 2) (B := 64) hh h2 ⟨Rat.le_refl, by decide +kernel⟩ ⟨hwl64, by grind⟩ (by grind) (by grind) (by grind)
      rw [uk32] at m1
      have m1 := m1.mono (f := Et / 2 + 40 * ulp) (by grind)
      have s := Ap.add (M := 70) h1 m1 ⟨by grind, by grind⟩ (by grind) (by grind)
      rw [uk32] at s
      exact (s.mono (by grind)).to (by grind)
  have := key _ (Nat.le_refl _)
  rw [hK] at this
  exact (this.mono hKη).to hWL
structure ArF (tt : List S3) (p q : Nat) (W L : Rat) : Prop where
  ok : areaOk tt p q = true
  ap : Ap .f32 (areaC tt p q) (W * L) E5
theorem TL.fin {tt : List S3} {p q : Nat} {W L : Rat} (T : TL tt p q W L) {k : Nat} (hk : k < tt.length) : ∃ j i, j ≤ q ∧ i ≤ p ∧ k = j * (p + 1) + i := by
  have hl := T.len
  rw [hl] at hk
  refine ⟨k / (p + 1), k % (p + 1), ?_, ?_, ?_⟩
  · have : k / (p + 1) < q + 1 := Nat.div_lt_of_lt_mul (by rw [Nat.mul_comm]; exact hk)
    omega
  · have := Nat.mod_lt k (show 0 < p + 1 by omega)
    omega
  · rw [Nat.mul_comm]
    exact (Nat.div_add_mod k (p + 1)).symm
theorem TL.finL {tt : List S3} {p q : Nat} {W L : Rat} (T : TL tt p q W L) : finL tt = true := by
  apply finL_of
  intro s hs
  obtain ⟨k, hk, rfl⟩ := mem_getD hs
  obtain ⟨j, i, hj, hi, rfl⟩ := T.fin hk
  exact (T.ap j i hj hi).finS
theorem TL.can {tt : List S3} {p q : Nat} {W L : Rat} (T : TL tt p q W L) (hp : 1 ≤ p) (hp4 : p ≤ 4) (hq : 1 ≤ q) (hq4 : q ≤ 4) : areaCan tt p q = true := by
  unfold areaCan
  have h1 : inB (p : Int) 1 12 = true := by
    unfold inB
    simp only [Bool.and_eq_true, decide_eq_true_eq]
    omega
  have h2 : inB (q : Int) 1 12 = true := by
    unfold inB
    simp only [Bool.and_eq_true, decide_eq_true_eq]
    omega
  have e : (((q + 1) * (p + 1) : Nat) : Int) = ((p : Int) + 1) * ((q : Int) + 1) := by
    rw [Int.natCast_mul, Int.mul_comm]
    rfl
  rw [h1, h2, T.finL, T.len, e]
  simp
theorem arF {tt : List S3} {p q : Nat} {W L : Rat} (T : TL tt p q W L) (hp : 1 ≤ p) (hp4 : p ≤ 4) (hq : 1 ≤ q) (hq4 : q ≤ 4) (w1 : 1 / 2 ≤ W) (w8 : W ≤ 8) (l1 : 1 / 2 ≤ L) (l8 : L ≤ 8) : ArF tt p q W L := by
  have s : Ap .f32 (areaS tt p q) (W * L) E5 := sum_flat T hp hp4 hq hq4 w1 w8 l1 l8
  have hf := fin_finC s.fin
  have hf : finC (areaS tt p q) = true := hf
  have hc := T.can hp hp4 hq hq4
  refine ⟨?_, ?_⟩
  · unfold areaOk
    rw [hc, hf]
    rfl
  · unfold areaC giveC
    rw [hc, hf]
    exact s
end Go.Proofs.Ytefnlalldgbcaaa

namespace Go.Proofs.Ytefnlalldgbcaaa
open Go.RowKit

/-! ## what is computed -/
def hgt (way : S3) (lv : Option Nat) (s : S3) : Option Nat := fop .sub .f32 (dotC s way) lv
def posC (c : Option Nat) : Bool := fgeB .f32 c (some 0)
def cutP (s s' : S3) (g h : Option Nat) : S3 := addS s (timesS (lessS s' s) (fop .quo .f32 g (fop .sub .f32 g h)))
def edgeC (ss : List S3) (way : S3) (lv : Option Nat) (i j : Nat) : List S3 :=
  bif posC (hgt way lv (ss.getD i z3)) != posC (hgt way lv (ss.getD j z3)) then [cutP (ss.getD i z3) (ss.getD j z3) (hgt way lv (ss.getD i z3)) (hgt way lv (ss.getD j z3))] else []
def triE (ss : List S3) (way : S3) (lv : Option Nat) (T : List Int) (t n : Nat) : List S3 := (List.range n).flatMap fun (k : Nat) => edgeC ss way lv (triIx T (3 * t + k)) (triIx T (3 * t + (k + 1) % 3))
def cutsT (ss : List S3) (way : S3) (lv : Option Nat) (T : List Int) (k : Nat) : List S3 := (List.range k).flatMap fun (t : Nat) => triE ss way lv T t 3
theorem triE_succ (ss : List S3) (way : S3) (lv : Option Nat) (T : List Int) (t n : Nat) : triE ss way lv T t (n + 1) = triE ss way lv T t n ++ edgeC ss way lv (triIx T (3 * t + n)) (triIx T (3 * t + (n + 1) % 3)) := by simp [triE, List.range_succ]
theorem cutsT_succ (ss : List S3) (way : S3) (lv : Option Nat) (T : List Int) (k : Nat) : cutsT ss way lv T (k + 1) = cutsT ss way lv T k ++ triE ss way lv T k 3 := by simp [cutsT, List.range_succ]
theorem edgeC_length (ss : List S3) (way : S3) (lv : Option Nat) (i j : Nat) : (edgeC ss way lv i j).length = (posC (hgt way lv (ss.getD i z3)) != posC (hgt way lv (ss.getD j z3))).toNat := by
  unfold edgeC
  cases (posC (hgt way lv (ss.getD i z3)) != posC (hgt way lv (ss.getD j z3))) <;> rfl
theorem triE_length (ss : List S3) (way : S3) (lv : Option Nat) (T : List Int) (t : Nat) : (triE ss way lv T t 3).length = (posC (hgt way lv (ss.getD (triIx T (3 * t)) z3)) != posC (hgt way lv (ss.getD (triIx T (3 * t + 1)) z3))).toNat + (posC (hgt way lv (ss.getD (triIx T (3 * t + 1)) z3)) != posC (hgt way lv (ss.getD (triIx T (3 * t + 2)) z3))).toNat + (posC (hgt way lv (ss.getD (triIx T (3 * t + 2)) z3)) != posC (hgt way lv (ss.getD (triIx T (3 * t)) z3))).toNat := by
  rw [triE_succ, triE_succ, triE_succ, List.length_append, List.length_append, List.length_append, edgeC_length, edgeC_length, edgeC_length]
  show (0 + _ + _ + _ : Nat) = _
  rw [Nat.zero_add]
  rfl
theorem triE_two (ss : List S3) (way : S3) (lv : Option Nat) (T : List Int) (t : Nat) : (triE ss way lv T t 3).length = 0 ∨ (triE ss way lv T t 3).length = 2 := by
  rw [triE_length]
  generalize posC (hgt way lv (ss.getD (triIx T (3 * t)) z3)) = x
  generalize posC (hgt way lv (ss.getD (triIx T (3 * t + 1)) z3)) = y
  generalize posC (hgt way lv (ss.getD (triIx T (3 * t + 2)) z3)) = z
  cases x <;> cases y <;> cases z <;> decide
theorem cutsT_even (ss : List S3) (way : S3) (lv : Option Nat) (T : List Int) : ∀ k, (cutsT ss way lv T k).length % 2 = 0 ∧ (cutsT ss way lv T k).length ≤ 2 * k
  | 0 => by simp [cutsT]
  | k + 1 => by
    rw [cutsT_succ, List.length_append]
    have := cutsT_even ss way lv T k
    rcases triE_two ss way lv T k with h | h <;> omega
theorem cutsT_ge (ss : List S3) (way : S3) (lv : Option Nat) (T : List Int) {t : Nat} (h : (triE ss way lv T t 3).length = 2) : ∀ k, t < k → 2 ≤ (cutsT ss way lv T k).length
  | 0, hk => by omega
  | k + 1, hk => by
    rw [cutsT_succ, List.length_append]
    by_cases e : t = k
    · subst e; omega
    · have := cutsT_ge ss way lv T h k (by omega)
      omega
theorem cutsT_mem {ss : List S3} {way : S3} {lv : Option Nat} {T : List Int} {k : Nat} {s : S3} (h : s ∈ cutsT ss way lv T k) : ∃ t e, t < k ∧ e < 3 ∧ s ∈ edgeC ss way lv (triIx T (3 * t + e)) (triIx T (3 * t + (e + 1) % 3)) := by
  unfold cutsT triE at h
  obtain ⟨t, ht, h⟩ := List.mem_flatMap.1 h
  obtain ⟨e, he, h⟩ := List.mem_flatMap.1 h
  exact ⟨t, e, List.mem_range.1 ht, List.mem_range.1 he, h⟩

/-! ## of flat sheets -/
abbrev wayX : S3 := (one32, some 0, some 0)
/-- How high a spot lies, of its own first part. -/
theorem hgt_own {s : S3} {lv : Option Nat} {l : Rat} (hx : Bd s.1 9) (hy : Fin .f32 s.2.1) (hz : Fin .f32 s.2.2) (hl : Ap .f32 lv l 0) (hl8 : Ab l 8) : Ap .f32 (hgt wayX lv s) (cv .f32 s.1 - l) (48 * ulp) := by
  have g1 := p2m126
  have g2 := p2127
  obtain ⟨b1, b2⟩ := hx.ab
  have ax : Ap .f32 s.1 (cv .f32 s.1) 0 := ⟨hx.fin, by constructor <;> grind⟩
  have h1 := Ap.mul (M := 9) (A := 9) (B := 1) ax one_ap hx.ab ⟨Rat.le_refl, by decide +kernel⟩ (by decide +kernel) (by grind) (by grind)
  rw [uk32] at h1
  have h1 := h1.mono (f := 9 * ulp) (by decide +kernel)
  have h2 := zr_mul hy zero_zr.fin (.inr zero_zr.val)
  have h3 := zr_mul hz zero_zr.fin (.inr zero_zr.val)
  obtain ⟨l1, l2⟩ := hl8
  have s1 := Ap.add (M := 10) h1 h2.ap ⟨by grind, by grind⟩ (by grind) (by grind)
  rw [uk32] at s1
  have s2 := Ap.add (M := 10) s1 h3.ap ⟨by grind, by grind⟩ (by grind) (by grind)
  rw [uk32] at s2
  have s3 := Ap.sub (M := 18) s2 hl ⟨by grind, by grind⟩ (by grind) (by grind)
  rw [uk32] at s3
  exact (s3.mono (by decide +kernel)).to (by grind)
theorem posC_iff {c : Option Nat} (h : Fin .f32 c) : posC c = decide (0 ≤ cv .f32 c) := by
  unfold posC
  rw [fge_iff h zero_ex.fin, cv_zero]
/-- A tile's corner, by its column. -/
structure Cn (s : S3) (x : Rat) : Prop where
  ap : Ap .f32 s.1 x E4
  y : Bd s.2.1 9
  z : Zr s.2.2
  ab : 0 ≤ x ∧ x ≤ 8
theorem Cn.bx {s : S3} {x : Rat} (h : Cn s x) : Bd s.1 9 := by
  obtain ⟨n1, n2⟩ := h.ap.near
  obtain ⟨a1, a2⟩ := h.ab
  have e4 : (E4 : Rat) ≤ 1 := by decide +kernel
  exact ⟨h.ap.fin, by grind, by grind⟩
theorem Cn.hgt {s : S3} {x : Rat} (h : Cn s x) {lv : Option Nat} {l : Rat} (hl : Ap .f32 lv l 0) (hl8 : Ab l 8) : Ap .f32 (hgt wayX lv s) (x - l) (300 * ulp) := by
  have h1 := hgt_own h.bx h.y.fin h.z.fin hl hl8
  obtain ⟨n1, n2⟩ := h.ap.near
  obtain ⟨m1, m2⟩ := h1.near
  have e4 : (E4 : Rat) = 248 * ulp := by decide +kernel
  rw [e4] at n1 n2
  exact ⟨h1.fin, by grind, by grind⟩
abbrev E6 : Rat := 400 / 16777216
/-- A place between two corners at different sides of the plane. -/
theorem cut_near {s s' : S3} {x x' l : Rat} {lv : Option Nat} (h : Cn s x) (h' : Cn s' x') (hl : Ap .f32 lv l 0) (hl8 : Ab l 8) (hd : (1 / 300 ≤ x - l ∧ x' - l ≤ -(1 / 300)) ∨ (x - l ≤ -(1 / 300) ∧ 1 / 300 ≤ x' - l)) :
    Ap .f32 (cutP s s' (hgt wayX lv s) (hgt wayX lv s')).1 l E6 ∧ Bd (cutP s s' (hgt wayX lv s) (hgt wayX lv s')).2.1 1000 ∧ Zr (cutP s s' (hgt wayX lv s) (hgt wayX lv s')).2.2 := by
  have q1 := p2m126
  have q2 := p2127
  have q3 := p2127'
  have bx := h.bx
  have bx' := h'.bx
  have o1 := hgt_own bx h.y.fin h.z.fin hl hl8
  have o2 := hgt_own bx' h'.y.fin h'.z.fin hl hl8
  have c1 := h.hgt hl hl8
  have c2 := h'.hgt hl hl8
  generalize Go.Proofs.Ytefnlalldgbcaaa.hgt wayX lv s = g at o1 c1 ⊢
  generalize Go.Proofs.Ytefnlalldgbcaaa.hgt wayX lv s' = k at o2 c2 ⊢
  obtain ⟨l1, l2⟩ := hl8
  obtain ⟨a1, a2⟩ := bx.ab
  obtain ⟨a1', a2'⟩ := bx'.ab
  obtain ⟨u1, u2⟩ := o1.near
  obtain ⟨v1, v2⟩ := o2.near
  obtain ⟨r1, r2⟩ := c1.near
  obtain ⟨s1, s2⟩ := c2.near
  have hx : Ap .f32 s.1 (cv .f32 s.1) 0 := ⟨bx.fin, by constructor <;> grind⟩
  have hx' : Ap .f32 s'.1 (cv .f32 s'.1) 0 := ⟨bx'.fin, by constructor <;> grind⟩
  have hg : Ap .f32 g (cv .f32 g) 0 := ⟨o1.fin, by constructor <;> grind⟩
  have hk : Ap .f32 k (cv .f32 k) 0 := ⟨o2.fin, by constructor <;> grind⟩
  generalize hX : cv .f32 s.1 = X at *
  generalize hX' : cv .f32 s'.1 = X' at *
  generalize hG : cv .f32 g = G at *
  generalize hH : cv .f32 k = H at *
  unfold cutP
  -- the difference of the heights
  have dD := Ap.sub (M := 37) hg hk ⟨by grind, by grind⟩ (by grind) (by grind)
  rw [uk32] at dD
  replace dD := dD.mono (f := 37 * ulp) (by decide +kernel)
  generalize fop .sub .f32 g k = D at dD ⊢
  obtain ⟨d1, d2⟩ := dD.near
  -- the quotient
  have hD0 : cv .f32 D ≠ 0 := by
    rcases hd with ⟨e1, e2⟩ | ⟨e1, e2⟩ <;> grind
  have eq : G / cv .f32 D * cv .f32 D = G := Rat.div_mul_cancel hD0
  have hq1 : Ab (G / cv .f32 D) 1 := by
    generalize G / cv .f32 D = q at eq
    rcases hd with ⟨e1, e2⟩ | ⟨e1, e2⟩
    · have hp : 0 < cv .f32 D := by grind
      refine ⟨Rat.le_of_mul_le_mul_right (c := cv .f32 D) (by rw [eq]; grind) hp, Rat.le_of_mul_le_mul_right (c := cv .f32 D) (by rw [eq]; grind) hp⟩
    · have hp : 0 < -cv .f32 D := by grind
      refine ⟨Rat.le_of_mul_le_mul_right (c := -cv .f32 D) (by grind) hp, Rat.le_of_mul_le_mul_right (c := -cv .f32 D) (by grind) hp⟩
  have hQ := quo_ap (c := g) (d := D) o1.fin dD.fin hD0 (M := 1) (by rw [hG]; exact hq1) (pm Rat.le_refl) (by grind)
  rw [hG, uk32] at hQ
  replace hQ := hQ.mono (f := 3 * ulp) (by decide +kernel)
  generalize fop .quo .f32 g D = Q at hQ ⊢
  generalize G / cv .f32 D = q at eq hq1 hQ
  generalize hDv : cv .f32 D = Dv at *
  -- the way between the corners
  have dx := Ap.sub (M := 18) hx' hx ⟨by grind, by grind⟩ (by grind) (by grind)
  rw [uk32] at dx
  replace dx := dx.mono (f := 18 * ulp) (by decide +kernel)
  have px := Ap.mul (M := 20) (A := 18) (B := 1) dx hQ ⟨by grind, by grind⟩ hq1 (by decide +kernel) (by grind) (by grind)
  rw [uk32] at px
  replace px := px.mono (f := 94 * ulp) (by decide +kernel)
  obtain ⟨q11, q12⟩ := hq1
  have hxq : Near ((X' - X) * q) (-G) (134 * ulp) := by
    have e1 : (X' - X) * q = -G + (X' - X + Dv) * q := by rw [← eq]; grind
    have hb : Ab (X' - X + Dv) (134 * ulp) := ⟨by grind, by grind⟩
    obtain ⟨t1, t2⟩ := hb.mul ⟨q11, q12⟩
    rw [e1]
    exact ⟨by grind, by grind⟩
  obtain ⟨w1, w2⟩ := hxq
  obtain ⟨p1, p2'⟩ := px.near
  have hpx : Ap .f32 (fop .mul .f32 (fop .sub .f32 s'.1 s.1) Q) (-G) (228 * ulp) := ⟨px.fin, by grind, by grind⟩
  have rr := Ap.add (M := 20) hx hpx ⟨by grind, by grind⟩ (by grind) (by grind)
  rw [uk32] at rr
  obtain ⟨z1, z2⟩ := rr.near
  have e6 : (E6 : Rat) = 400 * ulp := by decide +kernel
  have hQb : Bd Q 2 := by
    obtain ⟨n1, n2⟩ := hQ.near
    exact ⟨hQ.fin, by grind, by grind⟩
  have hfin : Ap .f32 (fop .add .f32 s.1 (fop .mul .f32 (fop .sub .f32 s'.1 s.1) Q)) l E6 := ⟨rr.fin, by rw [e6]; grind, by rw [e6]; grind⟩
  clear rr px hpx dx
  refine ⟨hfin, ?_, ?_⟩
  · have t1 := h'.y.sub h.y (M := 18) (by decide +kernel) (pm (by decide +kernel)) (by grind)
    have t2 := t1.mul hQb (M := 72) (by decide +kernel) (pm (by decide +kernel)) (by grind)
    exact (h.y.add t2 (M := 200) (by decide +kernel) (pm (by decide +kernel)) (by grind)).mono (by decide +kernel)
  · have t1 := zr_sub h'.z h.z
    exact zr_add h.z (zr_mul t1.fin hQ.fin (.inl t1.val))
end Go.Proofs.Ytefnlalldgbcaaa
