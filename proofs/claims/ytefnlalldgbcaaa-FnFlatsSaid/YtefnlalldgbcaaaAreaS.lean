/-
  Floats that are not finite: what comes of them is not finite. A half is a product with 0.5 or a quotient by 2: the same.
-/
import Derived.Test.YtefnlalldgbcaaaAp
import Derived.Test.YtefnlalldgbcaaaQ
import Derived.Test.YtefnlalldgbcaaaJ
import Derived.Test.YtefnlalldgbcaaaT
import Derived.Test.YtefnlalldgbcaaaPrw
namespace Go.Proofs.Ytefnlalldgbcaaa
open Go.RowKit

/-! ## halves -/
/-- The kept digits depend on the number alone. -/
theorem cut_scale (neg : Bool) (n d k : Nat) (hn : n ≠ 0) : Ieee.Toward.cut .even neg (n * 2 ^ k) (d + k) = Ieee.Toward.cut .even neg n d := by
  have hl : (n * 2 ^ k).log2 = n.log2 + k := by
    rw [Nat.log2_eq_iff (Nat.mul_ne_zero hn (Nat.ne_of_gt (Nat.two_pow_pos k)))]
    have h1 := Nat.log2_self_le hn
    have h2 : n < 2 ^ (n.log2 + 1) := Nat.lt_log2_self
    constructor
    · rw [Nat.pow_add]; exact Nat.mul_le_mul_right _ h1
    · rw [show n.log2 + k + 1 = (n.log2 + 1) + k by omega, Nat.pow_add]; exact Nat.mul_lt_mul_of_pos_right h2 (Nat.two_pow_pos k)
  unfold Ieee.Toward.cut
  dsimp only
  rw [hl, Nat.shiftLeft_eq, Nat.shiftLeft_eq, Nat.one_mul, Nat.one_mul, show min (d + k) (n.log2 + k + 2) = min d (n.log2 + 2) + k by omega, Nat.pow_add]
  generalize 2 ^ min d (n.log2 + 2) = G
  have hp : 0 < 2 ^ k := Nat.two_pow_pos k
  generalize 2 ^ k = K at hp
  rw [Nat.mul_div_mul_right _ _ hp, Nat.mul_mod_mul_right]
  congr 2
  have e1 : decide (G * K < 2 * (n % G * K)) = decide (G < 2 * (n % G)) := by
    rw [← Nat.mul_assoc]
    exact decide_eq_decide.2 (Nat.mul_lt_mul_right hp)
  have e2 : (G * K == 2 * (n % G * K)) = (G == 2 * (n % G)) := by
    rw [← Nat.mul_assoc]
    by_cases h : G = 2 * (n % G)
    · simp only [h.symm, beq_self_eq_true]
    · have h' : ¬ G * K = 2 * (n % G) * K := fun hh => h (Nat.eq_of_mul_eq_mul_right hp hh)
      rw [beq_eq_false_iff_ne.2 h, beq_eq_false_iff_ne.2 h']
  rw [e1, e2]
theorem write_scale (f : Ieee.Format) (s : Bool) (m : Nat) (p : Int) (k : Nat) : f.write (.number s (m * 2 ^ k) (p - k)) = f.write (.number s m p) := by
  show f.nearest s (m * 2 ^ k) (p - k) = f.nearest s m p
  unfold Ieee.Format.nearest
  by_cases hm : m = 0
  · subst hm; simp
  · have hmk : m * 2 ^ k ≠ 0 := Nat.mul_ne_zero hm (Nat.ne_of_gt (Nat.two_pow_pos k))
    rw [if_neg hm, if_neg hmk]
    have hl : (m * 2 ^ k).log2 = m.log2 + k := by
      rw [Nat.log2_eq_iff hmk]
      have h1 := Nat.log2_self_le hm
      have h2 : m < 2 ^ (m.log2 + 1) := Nat.lt_log2_self
      constructor
      · rw [Nat.pow_add]; exact Nat.mul_le_mul_right _ h1
      · rw [show m.log2 + k + 1 = (m.log2 + 1) + k by omega, Nat.pow_add]; exact Nat.mul_lt_mul_of_pos_right h2 (Nat.two_pow_pos k)
    dsimp only
    have hlast : max (p - k + ((m * 2 ^ k).log2 : Nat) - f.fractionBits) f.leastPlace = max (p + (m.log2 : Nat) - f.fractionBits) f.leastPlace := by rw [hl]; omega
    rw [hlast]
    generalize max (p + (m.log2 : Nat) - f.fractionBits) f.leastPlace = last
    rw [Nat.shiftLeft_eq, Nat.shiftLeft_eq]
    congr 3
    -- the places above and below
    have key : Ieee.Toward.cut .even s (m * 2 ^ k * 2 ^ (p - k - last).toNat) (last - (p - k)).toNat = Ieee.Toward.cut .even s (m * 2 ^ (p - last).toNat) (last - p).toNat := by
      rcases Int.le_total last (p - k) with h | h
      · have e1 : (last - (p - k)).toNat = 0 := by omega
        have e2 : (last - p).toNat = 0 := by omega
        have e3 : (p - last).toNat = k + (p - k - last).toNat := by omega
        rw [e1, e2, e3, Nat.pow_add, Nat.mul_assoc]
      · have e1 : (p - k - last).toNat = 0 := by omega
        rw [e1, Nat.pow_zero, Nat.mul_one]
        rcases Int.le_total last p with h' | h'
        · have e2 : (last - p).toNat = 0 := by omega
          obtain ⟨u, hu⟩ : ∃ u : Nat, k = (p - last).toNat + u := ⟨k - (p - last).toNat, by omega⟩
          have e3 : (last - (p - k)).toNat = 0 + u := by omega
          rw [e2, e3]
          conv => lhs; rw [hu, Nat.pow_add, ← Nat.mul_assoc]
          exact cut_scale s _ 0 u (Nat.mul_ne_zero hm (Nat.ne_of_gt (Nat.two_pow_pos _)))
        · have e2 : (p - last).toNat = 0 := by omega
          have e3 : (last - (p - k)).toNat = (last - p).toNat + k := by omega
          rw [e2, e3, Nat.pow_zero, Nat.mul_one]
          exact cut_scale s m _ k hm
    exact key

theorem log2_p23 : (8388608 : Nat).log2 = 23 := by decide +kernel
/-- Half of a float. -/
theorem half_eq (c : Option Nat) (hc : ∀ x, c = some x → x < 2 ^ 32) : fop .quo .f32 c (some 1073741824) = fop .mul .f32 (some 1056964608) c := by
  cases c with
  | none => rfl
  | some x =>
    have hx := hc x rfl
    have r2 : FloatKind.f32.format.read 1073741824 = .number false 8388608 (-22) := by decide +kernel
    have rh : FloatKind.f32.format.read 1056964608 = .number false 8388608 (-24) := by decide +kernel
    show (Ieee.Datum.quotient (FloatKind.f32.format.fractionBits + 2) (FloatKind.f32.format.read x) (FloatKind.f32.format.read 1073741824)).map FloatKind.f32.format.write = (Ieee.Datum.product (FloatKind.f32.format.read 1056964608) (FloatKind.f32.format.read x)).map FloatKind.f32.format.write
    rw [r2, rh]
    cases hr : FloatKind.f32.format.read x with
    | nan s t => rfl
    | infinity s => cases s <;> rfl
    | number s m i =>
      have hfb : FloatKind.f32.format.fractionBits = 23 := by decide
      have hm24 : m < 2 ^ 24 := by
        unfold Ieee.Format.read at hr
        dsimp only at hr
        have hbin : FloatKind.f32.format.binade = 8388608 := by decide
        split at hr
        · simp only [Ieee.Datum.number.injEq] at hr; omega
        · split at hr
          · have := Nat.mod_lt (x % FloatKind.f32.format.signWeight) (binade_pos FloatKind.f32.format)
            simp only [Ieee.Datum.number.injEq] at hr
            omega
          · split at hr <;> cases hr
      simp only [Ieee.Datum.quotient, Ieee.Datum.product, hfb, log2_p23]
      rw [if_neg (by decide)]
      simp only [Option.map_some, Option.some.injEq]
      have hlog : m.log2 ≤ 23 := by
        by_cases h0 : m = 0
        · subst h0; decide
        · have := (Nat.log2_lt h0).2 hm24; omega
      obtain ⟨q, hq⟩ : ∃ q : Nat, 23 + 2 + 23 - m.log2 = 23 + q := ⟨25 - m.log2, by omega⟩
      rw [hq, Nat.shiftLeft_eq]
      have e23 : (2 : Nat) ^ 23 = 8388608 := by decide
      have hd : m * 2 ^ (23 + q) = 8388608 * (m * 2 ^ q) := by rw [Nat.pow_add, e23, ← Nat.mul_assoc, Nat.mul_comm m 8388608, Nat.mul_assoc]
      rw [hd, Nat.mul_div_cancel_left _ (by decide), Nat.mul_mod_right]
      have hb : ((0 : Nat) != 0) = false := rfl
      rw [hb]
      simp only [Bool.toNat_false, Nat.add_zero]
      have hs : (s ^^ false) = (false ^^ s) := by cases s <;> rfl
      rw [hs]
      -- both are m, scaled
      have w1 := write_scale FloatKind.f32.format (false ^^ s) m (i - 1) (q + 1)
      have w2 := write_scale FloatKind.f32.format (false ^^ s) m (i - 1) 23
      have a1 : 2 * (m * 2 ^ q) = m * 2 ^ (q + 1) := by rw [Nat.pow_succ, ← Nat.mul_assoc m, Nat.mul_comm 2]
      have a2 : 8388608 * m = m * 2 ^ 23 := by rw [e23]; omega
      have p1 : i - (-22) - ((23 + q : Nat) : Int) - 1 = i - 1 - ((q + 1 : Nat) : Int) := by omega
      have p2' : (-24 : Int) + i = i - 1 - ((23 : Nat) : Int) := by omega
      rw [a1, a2, p1, p2', w1, w2]
end Go.Proofs.Ytefnlalldgbcaaa

namespace Go.Proofs.Ytefnlalldgbcaaa
open Go.RowKit

/-! ## what is computed -/
def triIx (T : List Int) (k : Nat) : Nat := (T.getD k 0).toNat
def l1S (ss : List S3) (T : List Int) (t : Nat) : S3 := lessS (ss.getD (triIx T (3 * t + 1)) z3) (ss.getD (triIx T (3 * t)) z3)
def l2S (ss : List S3) (T : List Int) (t : Nat) : S3 := lessS (ss.getD (triIx T (3 * t + 2)) z3) (ss.getD (triIx T (3 * t)) z3)
def crsS (ss : List S3) (T : List Int) (t : Nat) : S3 := crossC (l1S ss T t) (l2S ss T t)
/-- How long a triangle's cross product is. -/
def trmC (ss : List S3) (T : List Int) (t : Nat) : Option Nat := rootC (dotC (crsS ss T t) (crsS ss T t))
abbrev half32 : Option Nat := some 1056964608
abbrev two32 : Option Nat := some 1073741824
/-- The sum of the first k triangles. -/
def sumT (ss : List S3) (T : List Int) : Nat → Option Nat
  | 0 => some 0
  | k + 1 => fop .add .f32 (sumT ss T k) (fop .mul .f32 half32 (trmC ss T k))
/-! ## a triangle that is not finite -/
theorem IsSL.getDA {bs : List B3} {ss : List S3} (h : IsSL bs ss) {p : Nat} (hp : p < bs.length) : IsS bs[p] (ss.getD p z3) := by
  have hl := h.len
  refine h.get p _ _ (List.getElem?_eq_getElem hp) ?_
  rw [List.getD_eq_getElem?_getD, List.getElem?_eq_getElem (by omega)]
  rfl
theorem fcv_is {c : Option Nat} {r : Nat} (h : fcv .f64 .f32 c = some r) : r < 2 ^ 32 ∧ (c ≠ none) := by
  cases c with
  | none => cases h
  | some x =>
    refine ⟨?_, by simp⟩
    have h : floatToFloatBits .f64 x .f32 = some r := h
    unfold floatToFloatBits at h
    rw [if_neg (by decide)] at h
    split at h
    · cases h
    · cases h; exact FloatKind.f32.format.write_lt _
    · split at h
      · cases h
      · cases h; exact FloatKind.f32.format.write_lt _
theorem trm_lt (ss : List S3) (T : List Int) (t : Nat) : ∀ x, trmC ss T t = some x → x < 2 ^ 32 := fun _ hx => (fcv_is hx).1
/-! ## the corners' indices -/
theorem tri2_range {m n : Nat} {j i : Nat} (hi : i < m) (hj : j < n) : ∀ x ∈ tri2 m j i, 0 ≤ x ∧ x < ((m : Int) + 1) * ((n : Int) + 1) := by
  have h1 : (j : Int) * ((m : Int) + 1) + ((m : Int) + 1) ≤ (n : Int) * ((m : Int) + 1) := by
    have : ((j : Int) + 1) * ((m : Int) + 1) ≤ (n : Int) * ((m : Int) + 1) := Int.mul_le_mul_of_nonneg_right (by omega) (by omega)
    rw [Int.add_mul] at this
    omega
  have h0 : 0 ≤ (j : Int) * ((m : Int) + 1) := Int.mul_nonneg (by omega) (by omega)
  have h2 : ((m : Int) + 1) * ((n : Int) + 1) = (n : Int) * ((m : Int) + 1) + ((m : Int) + 1) := by rw [Int.mul_add, Int.mul_one, Int.mul_comm]
  intro x hx
  rw [h2]
  simp only [tri2, List.mem_cons, List.not_mem_nil, or_false] at hx
  generalize (j : Int) * ((m : Int) + 1) = A at *
  generalize (n : Int) * ((m : Int) + 1) = B at *
  omega
theorem triM_range (m n : Nat) : ∀ x ∈ triM m m n, 0 ≤ x ∧ x < ((m : Int) + 1) * ((n : Int) + 1) := by
  intro x hx
  unfold triM triRow at hx
  simp only [List.mem_flatMap, List.mem_range] at hx
  obtain ⟨j, hj, i, hi, hx⟩ := hx
  exact tri2_range hi hj x hx

/-- May the area be told. -/
def areaCan (ss : List S3) (p q : Int) : Bool := (inB p 1 12 && inB q 1 12) && (((ss.length : Int) == (p + 1) * (q + 1)) && finL ss)
def areaK (p q : Int) : Nat := q.toNat * (p.toNat * 2)
def areaS (ss : List S3) (p q : Int) : Option Nat := sumT ss (triM p p.toNat q.toNat) (areaK p q)
def areaC (ss : List S3) (p q : Int) : Option Nat := bif areaCan ss p q then giveC (areaS ss p q) else some 0
def areaOk (ss : List S3) (p q : Int) : Bool := areaCan ss p q && finC (areaS ss p q)

attribute [local irreducible] Code.wp wpList Oper.wp Calls bodyPost Exit.then Exit.inBlock

theorem areCorners_ok (bs : List B3) (ss : List S3) (h : IsSL bs ss) (base : Option Addr) (cap : Nat) (p q : Int) (w : World) (hr : RdS w base bs) (hlen : bs.length < 1000000000) :
    CV Try.prog 159 [.slice base bs.length cap, .int .i64 p, .int .i64 q] w (.bool (areaCan ss p q)) := by
  refine enter Try.func159 rfl rfl rfl rfl ?_
  intro a st
  have hl := h.len
  have hz := fun w => areTiles_ok p q w
  have hf := fun (w : World) hr => areSpots_ok bs ss h base cap w hr hlen
  unfold areaCan
  cases hi : (inB p 1 12 && inB q 1 12)
  · rw [hi] at hz
    (repeat' (first | (refine o_callV st rfl (hz _) rfl ?_; clear st; intro _ _ st)  | refine c_seq ?_  | refine c_region ?_  | refine l_do ?_  | refine l_doG st rfl rfl ?_  | ((first | refine l_skip st rfl rfl rfl rfl ?_); clear st; intro _ st)  | refine l_nil ?_  | refine x_then ?_  | refine wp_ret ?_  | ((first | refine o_move st rfl rfl ?_  | refine o_assign st rfl rfl ?_  | refine o_pickT st rfl rfl rfl ?_  | refine o_pickF st rfl rfl rfl ?_  | refine o_len st rfl rfl ?_  | refine o_add64 st rfl rfl rfl (by omega) (by omega) ?_ ); clear st; intro _ st)  | (refine o_eqlI st rfl rfl rfl ?_ ?_ <;> clear st <;> intro _ _ st <;> (try (exfalso; omega)))))
    refine post1 st Try.results159 (rd_t st rfl) ?_
    exact ⟨rfl, st.ex0⟩
  · rw [hi] at hz
    obtain ⟨A, B, rfl, rfl, ha0, ha1, hb0, hb1⟩ := tiles_nums hi
    have hm1 : ((A : Int) + 1) * ((B : Int) + 1) ≤ 13 * 13 := Int.mul_le_mul (by omega) (by omega) (by omega) (by omega)
    have hm0 : 0 ≤ ((A : Int) + 1) * ((B : Int) + 1) := Int.mul_nonneg (by omega) (by omega)
    rw [← hl]
    generalize finL ss = r at hf ⊢
    by_cases hn : (bs.length : Int) = ((A : Int) + 1) * ((B : Int) + 1)
    · have hb : ((bs.length : Int) == ((A : Int) + 1) * ((B : Int) + 1)) = true := by rw [hn]; exact beq_self_eq_true _
      rw [hb]
      cases r
      all_goals
        (repeat' (first | (refine o_callV st rfl (hz _) rfl ?_; clear st; intro _ _ st)  | (refine o_mul64 st rfl rfl rfl (by omega) (by omega) ?_; clear st; intro _ st)  | (refine o_callV st rfl (hf _ (hr.mono st.below)) rfl ?_; clear st; intro _ _ st)  | refine c_seq ?_  | refine c_region ?_  | refine l_do ?_  | refine l_doG st rfl rfl ?_  | ((first | refine l_skip st rfl rfl rfl rfl ?_); clear st; intro _ st)  | refine l_nil ?_  | refine x_then ?_  | refine wp_ret ?_  | ((first | refine o_move st rfl rfl ?_  | refine o_assign st rfl rfl ?_  | refine o_pickT st rfl rfl rfl ?_  | refine o_pickF st rfl rfl rfl ?_  | refine o_len st rfl rfl ?_  | refine o_add64 st rfl rfl rfl (by omega) (by omega) ?_ ); clear st; intro _ st)  | (refine o_eqlI st rfl rfl rfl ?_ ?_ <;> clear st <;> intro _ _ st <;> (try (exfalso; omega)))))
        refine post1 st Try.results159 (rd_t st rfl) ?_
        exact ⟨rfl, st.ex0⟩
    · have hb : ((bs.length : Int) == ((A : Int) + 1) * ((B : Int) + 1)) = false := beq_eq_false_iff_ne.2 hn
      rw [hb]
      (repeat' (first | (refine o_callV st rfl (hz _) rfl ?_; clear st; intro _ _ st)  | (refine o_mul64 st rfl rfl rfl (by omega) (by omega) ?_; clear st; intro _ st)  | (refine o_callV st rfl (hf _ (hr.mono st.below)) rfl ?_; clear st; intro _ _ st)  | refine c_seq ?_  | refine c_region ?_  | refine l_do ?_  | refine l_doG st rfl rfl ?_  | ((first | refine l_skip st rfl rfl rfl rfl ?_); clear st; intro _ st)  | refine l_nil ?_  | refine x_then ?_  | refine wp_ret ?_  | ((first | refine o_move st rfl rfl ?_  | refine o_assign st rfl rfl ?_  | refine o_pickT st rfl rfl rfl ?_  | refine o_pickF st rfl rfl rfl ?_  | refine o_len st rfl rfl ?_  | refine o_add64 st rfl rfl rfl (by omega) (by omega) ?_ ); clear st; intro _ st)  | (refine o_eqlI st rfl rfl rfl ?_ ?_ <;> clear st <;> intro _ _ st <;> (try (exfalso; omega)))))
      refine post1 st Try.results159 (rd_t st rfl) ?_
      exact ⟨rfl, st.ex0⟩

/-- What is known where the area may be told. -/
theorem area_nums {ss : List S3} {p q : Int} (h : areaCan ss p q = true) : ∃ A B : Nat, p = A ∧ q = B ∧ 1 ≤ A ∧ A ≤ 12 ∧ 1 ≤ B ∧ B ≤ 12 ∧ ss.length = (A + 1) * (B + 1) ∧ (triM A A B).length = 3 * (B * (A * 2)) ∧ (triM A A B).length ≤ 864 ∧ ∀ k, k < 3 * (B * (A * 2)) → ∃ x : Nat, (triM A A B)[k]? = some (x : Int) ∧ triIx (triM A A B) k = x ∧ x < ss.length := by
  unfold areaCan at h
  simp only [Bool.and_eq_true] at h
  obtain ⟨A, B, rfl, rfl, ha0, ha1, hb0, hb1⟩ := tiles_nums (p := p) (q := q) (by simp only [Bool.and_eq_true]; exact h.1)
  have hl : ss.length = (A + 1) * (B + 1) := by
    have h1 := of_decide_eq_true h.2.1
    have h2 : ((A : Int) + 1) * ((B : Int) + 1) = (((A + 1) * (B + 1) : Nat) : Int) := by push_cast; rfl
    omega
  have hT : (triM A A B).length = 3 * (B * (A * 2)) := by
    rw [triM_length, show 3 * (B * (A * 2)) = B * (A * 2) * 3 from Nat.mul_comm _ _, Nat.mul_assoc, Nat.mul_assoc]
  have hT2 : B * (A * 2) ≤ 12 * 24 := Nat.mul_le_mul hb1 (by omega)
  refine ⟨A, B, rfl, rfl, ha0, ha1, hb0, hb1, hl, hT, by omega, ?_⟩
  intro k hk
  have hk' : k < (triM A A B).length := by omega
  have hm := List.getElem_mem hk'
  obtain ⟨r0, r1⟩ := triM_range A B _ hm
  refine ⟨(triM A A B)[k].toNat, ?_, ?_, ?_⟩
  · rw [List.getElem?_eq_getElem hk']
    congr 1
    omega
  · unfold triIx
    rw [List.getD_eq_getElem?_getD, List.getElem?_eq_getElem hk']
    rfl
  · have h2 : ((A : Int) + 1) * ((B : Int) + 1) = (((A + 1) * (B + 1) : Nat) : Int) := by push_cast; rfl
    rw [hl]
    omega
end Go.Proofs.Ytefnlalldgbcaaa
