/-
  Contracts: the area of tiles; the reference's side, and what is computed.
-/
import Derived.Test.YtefnlalldgbcaaaQ
import Derived.Test.YtefnlalldgbcaaaJ
import Derived.Test.YtefnlalldgbcaaaT
import Derived.Test.YtefnlalldgbcaaaNf
import Derived.Test.YtefnlalldgbcaaaPrw
namespace Go.Proofs.Ytefnlalldgbcaaa
open Go.RowKit

/-! ## what is computed -/
def triIx (T : List Int) (k : Nat) : Nat := (T.getD k 0).toNat
def l1S (ss : List S3) (T : List Int) (t : Nat) : S3 := lessS (ss.getD (triIx T (3 * t + 1)) z3) (ss.getD (triIx T (3 * t)) z3)
def l2S (ss : List S3) (T : List Int) (t : Nat) : S3 := lessS (ss.getD (triIx T (3 * t + 2)) z3) (ss.getD (triIx T (3 * t)) z3)
def crsS (ss : List S3) (T : List Int) (t : Nat) : S3 := crossC (l1S ss T t) (l2S ss T t)
/-- How long a triangle's cross product is. -/
def trmC (ss : List S3) (T : List Int) (t : Nat) : Option Nat := rootC (dotC (crsS ss T t) (crsS ss T t))
abbrev half32 : Option Nat := some 1056964608
abbrev two32 : Option Nat := some 1073741824
/-- The sum of the first k triangles. -/
def sumT (ss : List S3) (T : List Int) : Nat → Option Nat
  | 0 => some 0
  | k + 1 => fop .add .f32 (sumT ss T k) (fop .mul .f32 half32 (trmC ss T k))
/-! ## a triangle that is not finite -/
theorem IsSL.getDA {bs : List B3} {ss : List S3} (h : IsSL bs ss) {p : Nat} (hp : p < bs.length) : IsS bs[p] (ss.getD p z3) := by
  have hl := h.len
  refine h.get p _ _ (List.getElem?_eq_getElem hp) ?_
  rw [List.getD_eq_getElem?_getD, List.getElem?_eq_getElem (by omega)]
  rfl
theorem fcv_is {c : Option Nat} {r : Nat} (h : fcv .f64 .f32 c = some r) : r < 2 ^ 32 ∧ (c ≠ none) := by
  cases c with
  | none => cases h
  | some x =>
    refine ⟨?_, by simp⟩
    have h : floatToFloatBits .f64 x .f32 = some r := h
    unfold floatToFloatBits at h
    rw [if_neg (by decide)] at h
    split at h
    · cases h
    · cases h; exact FloatKind.f32.format.write_lt _
    · split at h
      · cases h
      · cases h; exact FloatKind.f32.format.write_lt _
theorem trm_lt (ss : List S3) (T : List Int) (t : Nat) : ∀ x, trmC ss T t = some x → x < 2 ^ 32 := fun _ hx => (fcv_is hx).1
/-! ## the corners' indices -/
theorem tri2_range {m n : Nat} {j i : Nat} (hi : i < m) (hj : j < n) : ∀ x ∈ tri2 m j i, 0 ≤ x ∧ x < ((m : Int) + 1) * ((n : Int) + 1) := by
  have h1 : (j : Int) * ((m : Int) + 1) + ((m : Int) + 1) ≤ (n : Int) * ((m : Int) + 1) := by
    have : ((j : Int) + 1) * ((m : Int) + 1) ≤ (n : Int) * ((m : Int) + 1) := Int.mul_le_mul_of_nonneg_right (by omega) (by omega)
    rw [Int.add_mul] at this
    omega
  have h0 : 0 ≤ (j : Int) * ((m : Int) + 1) := Int.mul_nonneg (by omega) (by omega)
  have h2 : ((m : Int) + 1) * ((n : Int) + 1) = (n : Int) * ((m : Int) + 1) + ((m : Int) + 1) := by rw [Int.mul_add, Int.mul_one, Int.mul_comm]
  intro x hx
  rw [h2]
  simp only [tri2, List.mem_cons, List.not_mem_nil, or_false] at hx
  generalize (j : Int) * ((m : Int) + 1) = A at *
  generalize (n : Int) * ((m : Int) + 1) = B at *
  omega
theorem triM_range (m n : Nat) : ∀ x ∈ triM m m n, 0 ≤ x ∧ x < ((m : Int) + 1) * ((n : Int) + 1) := by
  intro x hx
  unfold triM triRow at hx
  simp only [List.mem_flatMap, List.mem_range] at hx
  obtain ⟨j, hj, i, hi, hx⟩ := hx
  exact tri2_range hi hj x hx

/-- May the area be told. -/
def areaCan (ss : List S3) (p q : Int) : Bool := (inB p 1 12 && inB q 1 12) && (((ss.length : Int) == (p + 1) * (q + 1)) && finL ss)
def areaK (p q : Int) : Nat := q.toNat * (p.toNat * 2)
def areaS (ss : List S3) (p q : Int) : Option Nat := sumT ss (triM p p.toNat q.toNat) (areaK p q)
def areaC (ss : List S3) (p q : Int) : Option Nat := bif areaCan ss p q then giveC (areaS ss p q) else some 0
def areaOk (ss : List S3) (p q : Int) : Bool := areaCan ss p q && finC (areaS ss p q)

attribute [local irreducible] Code.wp wpList Oper.wp Calls bodyPost Exit.then Exit.inBlock

theorem areCorners_ok (bs : List B3) (ss : List S3) (h : IsSL bs ss) (base : Option Addr) (cap : Nat) (p q : Int) (w : World) (hr : RdS w base bs) (hlen : bs.length < 1000000000) :
    CV Try.prog 159 [.slice base bs.length cap, .int .i64 p, .int .i64 q] w (.bool (areaCan ss p q)) := by
  refine enter Try.func159 rfl rfl rfl rfl ?_
  intro a st
  have hl := h.len
  have hz := fun w => areTiles_ok p q w
  have hf := fun (w : World) hr => areSpots_ok bs ss h base cap w hr hlen
  unfold areaCan
  cases hi : (inB p 1 12 && inB q 1 12)
  · rw [hi] at hz
    (repeat' (first | (refine o_callV st rfl (hz _) rfl ?_; clear st; intro _ _ st)  | refine c_seq ?_  | refine c_region ?_  | refine l_do ?_  | refine l_doG st rfl rfl ?_  | ((first | refine l_skip st rfl rfl rfl rfl ?_); clear st; intro _ st)  | refine l_nil ?_  | refine x_then ?_  | refine wp_ret ?_  | ((first | refine o_move st rfl rfl ?_  | refine o_assign st rfl rfl ?_  | refine o_pickT st rfl rfl rfl ?_  | refine o_pickF st rfl rfl rfl ?_  | refine o_len st rfl rfl ?_  | refine o_add64 st rfl rfl rfl (by omega) (by omega) ?_ ); clear st; intro _ st)  | (refine o_eqlI st rfl rfl rfl ?_ ?_ <;> clear st <;> intro _ _ st <;> (try (exfalso; omega)))))
    refine post1 st Try.results159 (rd_t st rfl) ?_
    exact ⟨rfl, st.ex0⟩
  · rw [hi] at hz
    obtain ⟨A, B, rfl, rfl, ha0, ha1, hb0, hb1⟩ := tiles_nums hi
    have hm1 : ((A : Int) + 1) * ((B : Int) + 1) ≤ 13 * 13 := Int.mul_le_mul (by omega) (by omega) (by omega) (by omega)
    have hm0 : 0 ≤ ((A : Int) + 1) * ((B : Int) + 1) := Int.mul_nonneg (by omega) (by omega)
    rw [← hl]
    generalize finL ss = r at hf ⊢
    by_cases hn : (bs.length : Int) = ((A : Int) + 1) * ((B : Int) + 1)
    · have hb : ((bs.length : Int) == ((A : Int) + 1) * ((B : Int) + 1)) = true := by rw [hn]; exact beq_self_eq_true _
      rw [hb]
      cases r
      all_goals
        (repeat' (first | (refine o_callV st rfl (hz _) rfl ?_; clear st; intro _ _ st)  | (refine o_mul64 st rfl rfl rfl (by omega) (by omega) ?_; clear st; intro _ st)  | (refine o_callV st rfl (hf _ (hr.mono st.below)) rfl ?_; clear st; intro _ _ st)  | refine c_seq ?_  | refine c_region ?_  | refine l_do ?_  | refine l_doG st rfl rfl ?_  | ((first | refine l_skip st rfl rfl rfl rfl ?_); clear st; intro _ st)  | refine l_nil ?_  | refine x_then ?_  | refine wp_ret ?_  | ((first | refine o_move st rfl rfl ?_  | refine o_assign st rfl rfl ?_  | refine o_pickT st rfl rfl rfl ?_  | refine o_pickF st rfl rfl rfl ?_  | refine o_len st rfl rfl ?_  | refine o_add64 st rfl rfl rfl (by omega) (by omega) ?_ ); clear st; intro _ st)  | (refine o_eqlI st rfl rfl rfl ?_ ?_ <;> clear st <;> intro _ _ st <;> (try (exfalso; omega)))))
        refine post1 st Try.results159 (rd_t st rfl) ?_
        exact ⟨rfl, st.ex0⟩
    · have hb : ((bs.length : Int) == ((A : Int) + 1) * ((B : Int) + 1)) = false := beq_eq_false_iff_ne.2 hn
      rw [hb]
      (repeat' (first | (refine o_callV st rfl (hz _) rfl ?_; clear st; intro _ _ st)  | (refine o_mul64 st rfl rfl rfl (by omega) (by omega) ?_; clear st; intro _ st)  | (refine o_callV st rfl (hf _ (hr.mono st.below)) rfl ?_; clear st; intro _ _ st)  | refine c_seq ?_  | refine c_region ?_  | refine l_do ?_  | refine l_doG st rfl rfl ?_  | ((first | refine l_skip st rfl rfl rfl rfl ?_); clear st; intro _ st)  | refine l_nil ?_  | refine x_then ?_  | refine wp_ret ?_  | ((first | refine o_move st rfl rfl ?_  | refine o_assign st rfl rfl ?_  | refine o_pickT st rfl rfl rfl ?_  | refine o_pickF st rfl rfl rfl ?_  | refine o_len st rfl rfl ?_  | refine o_add64 st rfl rfl rfl (by omega) (by omega) ?_ ); clear st; intro _ st)  | (refine o_eqlI st rfl rfl rfl ?_ ?_ <;> clear st <;> intro _ _ st <;> (try (exfalso; omega)))))
      refine post1 st Try.results159 (rd_t st rfl) ?_
      exact ⟨rfl, st.ex0⟩

/-- What is known where the area may be told. -/
theorem area_nums {ss : List S3} {p q : Int} (h : areaCan ss p q = true) : ∃ A B : Nat, p = A ∧ q = B ∧ 1 ≤ A ∧ A ≤ 12 ∧ 1 ≤ B ∧ B ≤ 12 ∧ ss.length = (A + 1) * (B + 1) ∧ (triM A A B).length = 3 * (B * (A * 2)) ∧ (triM A A B).length ≤ 864 ∧ ∀ k, k < 3 * (B * (A * 2)) → ∃ x : Nat, (triM A A B)[k]? = some (x : Int) ∧ triIx (triM A A B) k = x ∧ x < ss.length := by
  unfold areaCan at h
  simp only [Bool.and_eq_true] at h
  obtain ⟨A, B, rfl, rfl, ha0, ha1, hb0, hb1⟩ := tiles_nums (p := p) (q := q) (by simp only [Bool.and_eq_true]; exact h.1)
  have hl : ss.length = (A + 1) * (B + 1) := by
    have h1 := of_decide_eq_true h.2.1
    have h2 : ((A : Int) + 1) * ((B : Int) + 1) = (((A + 1) * (B + 1) : Nat) : Int) := by push_cast; rfl
    omega
  have hT : (triM A A B).length = 3 * (B * (A * 2)) := by
    rw [triM_length, show 3 * (B * (A * 2)) = B * (A * 2) * 3 from Nat.mul_comm _ _, Nat.mul_assoc, Nat.mul_assoc]
  have hT2 : B * (A * 2) ≤ 12 * 24 := Nat.mul_le_mul hb1 (by omega)
  refine ⟨A, B, rfl, rfl, ha0, ha1, hb0, hb1, hl, hT, by omega, ?_⟩
  intro k hk
  have hk' : k < (triM A A B).length := by omega
  have hm := List.getElem_mem hk'
  obtain ⟨r0, r1⟩ := triM_range A B _ hm
  refine ⟨(triM A A B)[k].toNat, ?_, ?_, ?_⟩
  · rw [List.getElem?_eq_getElem hk']
    congr 1
    omega
  · unfold triIx
    rw [List.getD_eq_getElem?_getD, List.getElem?_eq_getElem hk']
    rfl
  · have h2 : ((A : Int) + 1) * ((B : Int) + 1) = (((A + 1) * (B + 1) : Nat) : Int) := by push_cast; rfl
    rw [hl]
    omega
end Go.Proofs.Ytefnlalldgbcaaa
