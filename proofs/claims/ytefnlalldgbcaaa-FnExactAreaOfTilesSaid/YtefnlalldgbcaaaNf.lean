/-
  Floats that are not finite: what comes of them is not finite. A half is a product with 0.5 or a quotient by 2: the same.
-/
import Derived.Test.YtefnlalldgbcaaaAp
namespace Go.Proofs.Ytefnlalldgbcaaa
open Go.RowKit

/-- Not finite: a NaN or an infinity. -/
def NF (k : FloatKind) : Option Nat → Prop
  | none => True
  | some x => ∃ s, k.format.read x = .infinity s

theorem read_word_inf (k : FloatKind) (s : Bool) : k.format.read (k.format.write (.infinity s)) = .infinity s := by
  cases k <;> cases s <;> decide +kernel
theorem nf_inf (k : FloatKind) (s : Bool) : NF k (some (k.format.write (.infinity s))) := ⟨s, read_word_inf k s⟩
theorem nf_sum {k : FloatKind} {a b : Ieee.Datum} (h : ∃ s, a = .infinity s) : NF k ((Ieee.Datum.sum a b).map k.format.write) := by
  obtain ⟨s, rfl⟩ := h
  cases b with
  | nan t u => exact trivial
  | infinity t =>
    simp only [Ieee.Datum.sum]
    split
    · exact nf_inf k s
    · exact trivial
  | number t m p => exact nf_inf k s
theorem nf_sum_r {k : FloatKind} {a b : Ieee.Datum} (h : ∃ s, b = .infinity s) : NF k ((Ieee.Datum.sum a b).map k.format.write) := by
  obtain ⟨s, rfl⟩ := h
  cases a with
  | nan t u => exact trivial
  | infinity t =>
    simp only [Ieee.Datum.sum]
    split
    · exact nf_inf k t
    · exact trivial
  | number t m p => exact nf_inf k s
theorem nf_add_l {k : FloatKind} {c d : Option Nat} (h : NF k c) : NF k (fop .add k c d) := by
  cases c with
  | none => exact trivial
  | some x =>
    cases d with
    | none => exact trivial
    | some y => exact nf_sum (k := k) (b := k.format.read y) h
theorem nf_add_r {k : FloatKind} {c d : Option Nat} (h : NF k d) : NF k (fop .add k c d) := by
  cases c with
  | none => exact trivial
  | some x =>
    cases d with
    | none => exact trivial
    | some y => exact nf_sum_r (k := k) (a := k.format.read x) h
theorem nf_sub_l {k : FloatKind} {c d : Option Nat} (h : NF k c) : NF k (fop .sub k c d) := by
  cases c with
  | none => exact trivial
  | some x =>
    cases d with
    | none => exact trivial
    | some y => exact nf_sum (k := k) (b := (k.format.read y).opposite) h
theorem nf_sub_r {k : FloatKind} {c d : Option Nat} (h : NF k d) : NF k (fop .sub k c d) := by
  cases c with
  | none => exact trivial
  | some x =>
    cases d with
    | none => exact trivial
    | some y =>
      obtain ⟨s, hs⟩ := h
      refine nf_sum_r (k := k) (a := k.format.read x) (b := (k.format.read y).opposite) ⟨!s, ?_⟩
      rw [hs]
      rfl
theorem nf_mul_l {k : FloatKind} {c d : Option Nat} (h : NF k c) : NF k (fop .mul k c d) := by
  cases c with
  | none => exact trivial
  | some x =>
    cases d with
    | none => exact trivial
    | some y =>
      obtain ⟨s, hs⟩ := h
      show NF k ((Ieee.Datum.product (k.format.read x) (k.format.read y)).map k.format.write)
      rw [hs]
      cases k.format.read y with
      | nan t u => exact trivial
      | infinity t => exact nf_inf k _
      | number t m p =>
        simp only [Ieee.Datum.product]
        split
        · exact trivial
        · exact nf_inf k _
theorem nf_mul_r {k : FloatKind} {c d : Option Nat} (h : NF k d) : NF k (fop .mul k c d) := by
  cases c with
  | none => exact trivial
  | some x =>
    cases d with
    | none => exact trivial
    | some y =>
      obtain ⟨s, hs⟩ := h
      show NF k ((Ieee.Datum.product (k.format.read x) (k.format.read y)).map k.format.write)
      rw [hs]
      cases k.format.read x with
      | nan t u => exact trivial
      | infinity t => exact nf_inf k _
      | number t m p =>
        simp only [Ieee.Datum.product]
        split
        · exact trivial
        · exact nf_inf k _
theorem nf_quo_num {k : FloatKind} {c : Option Nat} {y : Nat} {t : Bool} {m : Nat} {p : Int} (h : NF k c) (hy : k.format.read y = .number t m p) : NF k (fop .quo k c (some y)) := by
  cases c with
  | none => exact trivial
  | some x =>
    obtain ⟨s, hs⟩ := h
    show NF k ((Ieee.Datum.quotient (k.format.fractionBits + 2) (k.format.read x) (k.format.read y)).map k.format.write)
    rw [hs, hy]
    exact nf_inf k _
theorem nf_fcv {s d : FloatKind} {c : Option Nat} (hne : s ≠ d) (h : NF s c) : NF d (fcv s d c) := by
  cases c with
  | none => exact trivial
  | some x =>
    obtain ⟨t, ht⟩ := h
    show NF d (floatToFloatBits s x d)
    unfold floatToFloatBits
    rw [if_neg hne]
    have : s.decode x = .infinity t := ht
    simp only [this]
    exact nf_inf d t
theorem nf_sqrt {c : Option Nat} (h : NF .f64 c) : NF .f64 (sqrtC c) := by
  cases c with
  | none => exact trivial
  | some x =>
    obtain ⟨t, ht⟩ := h
    show NF .f64 (FloatKind.f64.format.sqrt x)
    unfold Ieee.Format.sqrt
    rw [ht]
    cases t
    · exact nf_inf .f64 false
    · exact trivial
theorem nf_not_fin {c : Option Nat} (h : NF .f32 c) : feqB .f32 (fop .sub .f32 c c) (some 0) = false := by
  cases c with
  | none => rfl
  | some x =>
    obtain ⟨s, hs⟩ := h
    have e : fop .sub .f32 (some x) (some x) = (Ieee.Datum.sum (FloatKind.f32.format.read x) (FloatKind.f32.format.read x).opposite).map FloatKind.f32.format.write := rfl
    rw [e, hs]
    cases s <;> rfl

/-! ## halves -/
/-- The kept digits depend on the number alone. -/
theorem cut_scale (neg : Bool) (n d k : Nat) (hn : n ≠ 0) : Ieee.Toward.cut .even neg (n * 2 ^ k) (d + k) = Ieee.Toward.cut .even neg n d := by
  have hl : (n * 2 ^ k).log2 = n.log2 + k := by
    rw [Nat.log2_eq_iff (Nat.mul_ne_zero hn (Nat.ne_of_gt (Nat.two_pow_pos k)))]
    have h1 := Nat.log2_self_le hn
    have h2 : n < 2 ^ (n.log2 + 1) := Nat.lt_log2_self
    constructor
    · rw [Nat.pow_add]; exact Nat.mul_le_mul_right _ h1
    · rw [show n.log2 + k + 1 = (n.log2 + 1) + k by omega, Nat.pow_add]; exact Nat.mul_lt_mul_of_pos_right h2 (Nat.two_pow_pos k)
  unfold Ieee.Toward.cut
  dsimp only
  rw [hl, Nat.shiftLeft_eq, Nat.shiftLeft_eq, Nat.one_mul, Nat.one_mul, show min (d + k) (n.log2 + k + 2) = min d (n.log2 + 2) + k by omega, Nat.pow_add]
  generalize 2 ^ min d (n.log2 + 2) = G
  have hp : 0 < 2 ^ k := Nat.two_pow_pos k
  generalize 2 ^ k = K at hp
  rw [Nat.mul_div_mul_right _ _ hp, Nat.mul_mod_mul_right]
  congr 2
  have e1 : decide (G * K < 2 * (n % G * K)) = decide (G < 2 * (n % G)) := by
    rw [← Nat.mul_assoc]
    exact decide_eq_decide.2 (Nat.mul_lt_mul_right hp)
  have e2 : (G * K == 2 * (n % G * K)) = (G == 2 * (n % G)) := by
    rw [← Nat.mul_assoc]
    by_cases h : G = 2 * (n % G)
    · simp only [h.symm, beq_self_eq_true]
    · have h' : ¬ G * K = 2 * (n % G) * K := fun hh => h (Nat.eq_of_mul_eq_mul_right hp hh)
      rw [beq_eq_false_iff_ne.2 h, beq_eq_false_iff_ne.2 h']
  rw [e1, e2]
theorem write_scale (f : Ieee.Format) (s : Bool) (m : Nat) (p : Int) (k : Nat) : f.write (.number s (m * 2 ^ k) (p - k)) = f.write (.number s m p) := by
  show f.nearest s (m * 2 ^ k) (p - k) = f.nearest s m p
  unfold Ieee.Format.nearest
  by_cases hm : m = 0
  · subst hm; simp
  · have hmk : m * 2 ^ k ≠ 0 := Nat.mul_ne_zero hm (Nat.ne_of_gt (Nat.two_pow_pos k))
    rw [if_neg hm, if_neg hmk]
    have hl : (m * 2 ^ k).log2 = m.log2 + k := by
      rw [Nat.log2_eq_iff hmk]
      have h1 := Nat.log2_self_le hm
      have h2 : m < 2 ^ (m.log2 + 1) := Nat.lt_log2_self
      constructor
      · rw [Nat.pow_add]; exact Nat.mul_le_mul_right _ h1
      · rw [show m.log2 + k + 1 = (m.log2 + 1) + k by omega, Nat.pow_add]; exact Nat.mul_lt_mul_of_pos_right h2 (Nat.two_pow_pos k)
    dsimp only
    have hlast : max (p - k + ((m * 2 ^ k).log2 : Nat) - f.fractionBits) f.leastPlace = max (p + (m.log2 : Nat) - f.fractionBits) f.leastPlace := by rw [hl]; omega
    rw [hlast]
    generalize max (p + (m.log2 : Nat) - f.fractionBits) f.leastPlace = last
    rw [Nat.shiftLeft_eq, Nat.shiftLeft_eq]
    congr 3
    -- the places above and below
    have key : Ieee.Toward.cut .even s (m * 2 ^ k * 2 ^ (p - k - last).toNat) (last - (p - k)).toNat = Ieee.Toward.cut .even s (m * 2 ^ (p - last).toNat) (last - p).toNat := by
      rcases Int.le_total last (p - k) with h | h
      · have e1 : (last - (p - k)).toNat = 0 := by omega
        have e2 : (last - p).toNat = 0 := by omega
        have e3 : (p - last).toNat = k + (p - k - last).toNat := by omega
        rw [e1, e2, e3, Nat.pow_add, Nat.mul_assoc]
      · have e1 : (p - k - last).toNat = 0 := by omega
        rw [e1, Nat.pow_zero, Nat.mul_one]
        rcases Int.le_total last p with h' | h'
        · have e2 : (last - p).toNat = 0 := by omega
          obtain ⟨u, hu⟩ : ∃ u : Nat, k = (p - last).toNat + u := ⟨k - (p - last).toNat, by omega⟩
          have e3 : (last - (p - k)).toNat = 0 + u := by omega
          rw [e2, e3]
          conv => lhs; rw [hu, Nat.pow_add, ← Nat.mul_assoc]
          exact cut_scale s _ 0 u (Nat.mul_ne_zero hm (Nat.ne_of_gt (Nat.two_pow_pos _)))
        · have e2 : (p - last).toNat = 0 := by omega
          have e3 : (last - (p - k)).toNat = (last - p).toNat + k := by omega
          rw [e2, e3, Nat.pow_zero, Nat.mul_one]
          exact cut_scale s m _ k hm
    exact key

theorem log2_p23 : (8388608 : Nat).log2 = 23 := by decide +kernel
/-- Half of a float. -/
theorem half_eq (c : Option Nat) (hc : ∀ x, c = some x → x < 2 ^ 32) : fop .quo .f32 c (some 1073741824) = fop .mul .f32 (some 1056964608) c := by
  cases c with
  | none => rfl
  | some x =>
    have hx := hc x rfl
    have r2 : FloatKind.f32.format.read 1073741824 = .number false 8388608 (-22) := by decide +kernel
    have rh : FloatKind.f32.format.read 1056964608 = .number false 8388608 (-24) := by decide +kernel
    show (Ieee.Datum.quotient (FloatKind.f32.format.fractionBits + 2) (FloatKind.f32.format.read x) (FloatKind.f32.format.read 1073741824)).map FloatKind.f32.format.write = (Ieee.Datum.product (FloatKind.f32.format.read 1056964608) (FloatKind.f32.format.read x)).map FloatKind.f32.format.write
    rw [r2, rh]
    cases hr : FloatKind.f32.format.read x with
    | nan s t => rfl
    | infinity s => cases s <;> rfl
    | number s m i =>
      have hfb : FloatKind.f32.format.fractionBits = 23 := by decide
      have hm24 : m < 2 ^ 24 := by
        unfold Ieee.Format.read at hr
        dsimp only at hr
        have hbin : FloatKind.f32.format.binade = 8388608 := by decide
        split at hr
        · simp only [Ieee.Datum.number.injEq] at hr; omega
        · split at hr
          · have := Nat.mod_lt (x % FloatKind.f32.format.signWeight) (binade_pos FloatKind.f32.format)
            simp only [Ieee.Datum.number.injEq] at hr
            omega
          · split at hr <;> cases hr
      simp only [Ieee.Datum.quotient, Ieee.Datum.product, hfb, log2_p23]
      rw [if_neg (by decide)]
      simp only [Option.map_some, Option.some.injEq]
      have hlog : m.log2 ≤ 23 := by
        by_cases h0 : m = 0
        · subst h0; decide
        · have := (Nat.log2_lt h0).2 hm24; omega
      obtain ⟨q, hq⟩ : ∃ q : Nat, 23 + 2 + 23 - m.log2 = 23 + q := ⟨25 - m.log2, by omega⟩
      rw [hq, Nat.shiftLeft_eq]
      have e23 : (2 : Nat) ^ 23 = 8388608 := by decide
      have hd : m * 2 ^ (23 + q) = 8388608 * (m * 2 ^ q) := by rw [Nat.pow_add, e23, ← Nat.mul_assoc, Nat.mul_comm m 8388608, Nat.mul_assoc]
      rw [hd, Nat.mul_div_cancel_left _ (by decide), Nat.mul_mod_right]
      have hb : ((0 : Nat) != 0) = false := rfl
      rw [hb]
      simp only [Bool.toNat_false, Nat.add_zero]
      have hs : (s ^^ false) = (false ^^ s) := by cases s <;> rfl
      rw [hs]
      -- both are m, scaled
      have w1 := write_scale FloatKind.f32.format (false ^^ s) m (i - 1) (q + 1)
      have w2 := write_scale FloatKind.f32.format (false ^^ s) m (i - 1) 23
      have a1 : 2 * (m * 2 ^ q) = m * 2 ^ (q + 1) := by rw [Nat.pow_succ, ← Nat.mul_assoc m, Nat.mul_comm 2]
      have a2 : 8388608 * m = m * 2 ^ 23 := by rw [e23]; omega
      have p1 : i - (-22) - ((23 + q : Nat) : Int) - 1 = i - 1 - ((q + 1 : Nat) : Int) := by omega
      have p2' : (-24 : Int) + i = i - 1 - ((23 : Nat) : Int) := by omega
      rw [a1, a2, p1, p2', w1, w2]
end Go.Proofs.Ytefnlalldgbcaaa
