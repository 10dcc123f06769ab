/-
  Contracts: the area of tiles; the reference's side, and what is computed.
-/
import Derived.Test.YtefnlalldgbcaaaQ
import Derived.Test.YtefnlalldgbcaaaH
import Derived.Test.YtefnlalldgbcaaaT
import Derived.Test.YtefnlalldgbcaaaNf
import Derived.Test.YtefnlalldgbcaaaTile
import Derived.Test.YtefnlalldgbcaaaPrw
namespace Go.Proofs.Ytefnlalldgbcaaa
open Go.RowKit

/-! ## what is computed -/
def triIx (T : List Int) (k : Nat) : Nat := (T.getD k 0).toNat
def l1S (ss : List S3) (T : List Int) (t : Nat) : S3 := lessS (ss.getD (triIx T (3 * t + 1)) z3) (ss.getD (triIx T (3 * t)) z3)
def l2S (ss : List S3) (T : List Int) (t : Nat) : S3 := lessS (ss.getD (triIx T (3 * t + 2)) z3) (ss.getD (triIx T (3 * t)) z3)
def crsS (ss : List S3) (T : List Int) (t : Nat) : S3 := crossC (l1S ss T t) (l2S ss T t)
/-- How long a triangle's cross product is. -/
def trmC (ss : List S3) (T : List Int) (t : Nat) : Option Nat := rootC (dotC (crsS ss T t) (crsS ss T t))
abbrev half32 : Option Nat := some 1056964608
abbrev two32 : Option Nat := some 1073741824
/-- The sum of the first k triangles. -/
def sumT (ss : List S3) (T : List Int) : Nat → Option Nat
  | 0 => some 0
  | k + 1 => fop .add .f32 (sumT ss T k) (fop .mul .f32 half32 (trmC ss T k))
def okT (ss : List S3) (T : List Int) (t : Nat) : Bool := (finS (l1S ss T t) && finS (l2S ss T t) && finS (crsS ss T t)) && finC (trmC ss T t)
def allT (ss : List S3) (T : List Int) (k : Nat) : Bool := (List.range k).all (okT ss T)
theorem allT_succ (ss : List S3) (T : List Int) (k : Nat) : allT ss T (k + 1) = (allT ss T k && okT ss T k) := by simp [allT, List.range_succ]
theorem allT_false {ss : List S3} {T : List Int} {t k : Nat} (h : okT ss T t = false) (hk : t < k) : allT ss T k = false := by
  unfold allT
  rw [List.all_eq_false]
  exact ⟨t, List.mem_range.2 hk, by rw [h]; decide⟩

/-! ## a triangle that is not finite -/
theorem class_casesN {x : Nat} {c : Option Nat} (h : Is .f32 x c) : c = none ∨ Fin .f32 c ∨ ∃ s, c = some x ∧ FloatKind.f32.format.read x = .infinity s := by
  cases c with
  | none => exact .inl rfl
  | some y =>
    obtain ⟨rfl, hn⟩ := cl_some h.2
    right
    have hle := rung_le FloatKind.f32.format (bb .f32) y hn
    rcases Nat.lt_or_eq_of_le hle with h1 | h1
    · exact .inl h1
    · exact .inr ⟨_, rfl, read_inf FloatKind.f32.format (bb .f32) y h1⟩
theorem IsSL.getDA {bs : List B3} {ss : List S3} (h : IsSL bs ss) {p : Nat} (hp : p < bs.length) : IsS bs[p] (ss.getD p z3) := by
  have hl := h.len
  refine h.get p _ _ (List.getElem?_eq_getElem hp) ?_
  rw [List.getD_eq_getElem?_getD, List.getElem?_eq_getElem (by omega)]
  rfl
theorem nf_of_not_fin {x : Nat} {c : Option Nat} (h : Is .f32 x c) (hf : finC c = false) : NF .f32 c := by
  rcases class_casesN h with rfl | h1 | ⟨s, rfl, h1⟩
  · exact trivial
  · have := fin_finC h1
    unfold finC at hf
    rw [this] at hf
    cases hf
  · exact ⟨s, h1⟩
theorem nf_fop {op : BinOp} (c d : Option Nat) (hf : finC (fop op .f32 c d) = false) : NF .f32 (fop op .f32 c d) := by
  cases hr : fop op .f32 c d with
  | none => exact trivial
  | some r =>
    rw [hr] at hf
    refine nf_of_not_fin (x := r) ⟨?_, ?_⟩ hf
    · cases c with
      | none => cases hr
      | some a =>
        cases d with
        | none => cases hr
        | some b => exact lt_of_wf (floatBits_wf (show floatBits op .f32 a b = some r from hr))
    · cases c with
      | none => cases hr
      | some a =>
        cases d with
        | none => cases hr
        | some b => exact floatBits_not_nan (show floatBits op .f32 a b = some r from hr)
/-- Some part is not finite. -/
def NFS (s : S3) : Prop := NF .f32 s.1 ∨ NF .f32 s.2.1 ∨ NF .f32 s.2.2
theorem nfs_cross_l {s t : S3} (h : NFS s) : NFS (crossC s t) := by
  rcases h with h | h | h
  · exact .inr (.inl (nf_sub_r (nf_mul_l h)))
  · exact .inl (nf_sub_l (nf_mul_l h))
  · exact .inl (nf_sub_r (nf_mul_l h))
theorem nfs_cross_r {s t : S3} (h : NFS t) : NFS (crossC s t) := by
  rcases h with h | h | h
  · exact .inr (.inl (nf_sub_l (nf_mul_r h)))
  · exact .inl (nf_sub_r (nf_mul_r h))
  · exact .inl (nf_sub_l (nf_mul_r h))
theorem nf_dot {s : S3} (h : NFS s) : NF .f32 (dotC s s) := by
  unfold dotC
  rcases h with h | h | h
  · exact nf_add_l (nf_add_l (nf_mul_l h))
  · exact nf_add_l (nf_add_r (nf_mul_l h))
  · exact nf_add_r (nf_mul_l h)
theorem nf_root {c : Option Nat} (h : NF .f32 c) : NF .f32 (rootC c) := nf_fcv (by decide) (nf_sqrt (nf_fcv (by decide) h))
theorem nfs_less {s t : S3} (h : finS (lessS s t) = false) : NFS (lessS s t) := by
  unfold finS at h
  simp only [Bool.and_eq_false_iff] at h
  rcases h with h | h | h
  · exact .inl (nf_fop _ _ h)
  · exact .inr (.inl (nf_fop _ _ h))
  · exact .inr (.inr (nf_fop _ _ h))
theorem nfs_cross {s t : S3} (h : finS (crossC s t) = false) : NFS (crossC s t) := by
  unfold finS at h
  simp only [Bool.and_eq_false_iff] at h
  rcases h with h | h | h
  · exact .inl (nf_fop _ _ h)
  · exact .inr (.inl (nf_fop _ _ h))
  · exact .inr (.inr (nf_fop _ _ h))
theorem fcv_is {c : Option Nat} {r : Nat} (h : fcv .f64 .f32 c = some r) : r < 2 ^ 32 ∧ (c ≠ none) := by
  cases c with
  | none => cases h
  | some x =>
    refine ⟨?_, by simp⟩
    have h : floatToFloatBits .f64 x .f32 = some r := h
    unfold floatToFloatBits at h
    rw [if_neg (by decide)] at h
    split at h
    · cases h
    · cases h; exact FloatKind.f32.format.write_lt _
    · split at h
      · cases h
      · cases h; exact FloatKind.f32.format.write_lt _
theorem trm_lt (ss : List S3) (T : List Int) (t : Nat) : ∀ x, trmC ss T t = some x → x < 2 ^ 32 := fun _ hx => (fcv_is hx).1
theorem rootC_is (c : Option Nat) : rootC c = none ∨ ∃ r, Is .f32 r (rootC c) := by
  cases hr : rootC c with
  | none => exact .inl rfl
  | some r =>
    refine .inr ⟨r, (fcv_is hr).1, ?_⟩
    unfold rootC at hr
    generalize sqrtC (fcv .f32 .f64 c) = d at hr
    cases d with
    | none => cases hr
    | some x =>
      have h : floatToFloatBits .f64 x .f32 = some r := hr
      cases hn : (FloatKind.f64.decode x).isNaN
      · exact floatToFloatBits_not_nan h hn
      · obtain ⟨s, t, hd⟩ := isNaN_iff.1 hn
        unfold floatToFloatBits at h
        rw [if_neg (by decide)] at h
        simp only [hd] at h
        cases h
theorem nf_trm {ss : List S3} {T : List Int} {t : Nat} (h : okT ss T t = false) : NF .f32 (trmC ss T t) := by
  unfold okT at h
  simp only [Bool.and_eq_false_iff] at h
  rcases h with ((h | h) | h) | h
  · exact nf_root (nf_dot (nfs_cross_l (nfs_less h)))
  · exact nf_root (nf_dot (nfs_cross_r (nfs_less h)))
  · exact nf_root (nf_dot (nfs_cross h))
  · unfold trmC at h ⊢
    rcases rootC_is (dotC (crsS ss T t) (crsS ss T t)) with h1 | ⟨r, h1⟩
    · rw [h1]; exact trivial
    · exact nf_of_not_fin h1 h
theorem nf_sumT {ss : List S3} {T : List Int} {t : Nat} (h : okT ss T t = false) : ∀ k, t < k → NF .f32 (sumT ss T k)
  | 0, hk => by omega
  | k + 1, hk => by
    by_cases e : t = k
    · subst e
      exact nf_add_r (nf_mul_r (nf_trm h))
    · exact nf_add_l (nf_sumT h k (by omega))
theorem fin_sumT {ss : List S3} {T : List Int} {k : Nat} (h : allT ss T k = false) : finC (sumT ss T k) = false := by
  unfold allT at h
  rw [List.all_eq_false] at h
  obtain ⟨t, ht, hk⟩ := h
  exact nf_not_fin (nf_sumT (by simpa using hk) k (List.mem_range.1 ht))

/-! ## the corners' indices -/
theorem tri2_range {m n : Nat} {j i : Nat} (hi : i < m) (hj : j < n) : ∀ x ∈ tri2 m j i, 0 ≤ x ∧ x < ((m : Int) + 1) * ((n : Int) + 1) := by
  have h1 : (j : Int) * ((m : Int) + 1) + ((m : Int) + 1) ≤ (n : Int) * ((m : Int) + 1) := by
    have : ((j : Int) + 1) * ((m : Int) + 1) ≤ (n : Int) * ((m : Int) + 1) := Int.mul_le_mul_of_nonneg_right (by omega) (by omega)
    rw [Int.add_mul] at this
    omega
  have h0 : 0 ≤ (j : Int) * ((m : Int) + 1) := Int.mul_nonneg (by omega) (by omega)
  have h2 : ((m : Int) + 1) * ((n : Int) + 1) = (n : Int) * ((m : Int) + 1) + ((m : Int) + 1) := by rw [Int.mul_add, Int.mul_one, Int.mul_comm]
  intro x hx
  rw [h2]
  simp only [tri2, List.mem_cons, List.not_mem_nil, or_false] at hx
  generalize (j : Int) * ((m : Int) + 1) = A at *
  generalize (n : Int) * ((m : Int) + 1) = B at *
  omega
theorem triM_range (m n : Nat) : ∀ x ∈ triM m m n, 0 ≤ x ∧ x < ((m : Int) + 1) * ((n : Int) + 1) := by
  intro x hx
  unfold triM triRow at hx
  simp only [List.mem_flatMap, List.mem_range] at hx
  obtain ⟨j, hj, i, hi, hx⟩ := hx
  exact tri2_range hi hj x hx

/-- May the area be told. -/
def areaCan (ss : List S3) (p q : Int) : Bool := (inB p 1 12 && inB q 1 12) && (((ss.length : Int) == (p + 1) * (q + 1)) && finL ss)
def areaK (p q : Int) : Nat := q.toNat * (p.toNat * 2)
def areaS (ss : List S3) (p q : Int) : Option Nat := sumT ss (triM p p.toNat q.toNat) (areaK p q)
def areaC (ss : List S3) (p q : Int) : Option Nat := bif areaCan ss p q then giveC (areaS ss p q) else some 0
def areaOk (ss : List S3) (p q : Int) : Bool := areaCan ss p q && finC (areaS ss p q)

attribute [local irreducible] Code.wp wpList Oper.wp Calls bodyPost Exit.then Exit.inBlock

theorem l04Tiled_ok (bs : List B3) (ss : List S3) (h : IsSL bs ss) (base : Option Addr) (cap : Nat) (p q : Int) (w : World) (hr : RdS w base bs) (hlen : bs.length < 1000000000) :
    CV Try.prog 156 [.slice base bs.length cap, .int .i64 p, .int .i64 q] w (.bool (areaCan ss p q)) := by
  refine enter Try.func156 rfl rfl rfl rfl ?_
  intro a st
  have hl := h.len
  have hz := fun w => l04Sizes_ok p q w
  have hf := fun (w : World) hr => l04Spots_ok bs ss h base cap w hr hlen
  unfold areaCan
  cases hi : (inB p 1 12 && inB q 1 12)
  · rw [hi] at hz
    (repeat' (first | (refine o_callV st rfl (hz _) rfl ?_; clear st; intro _ _ st) | (refine c_seq ?_) | (refine c_region ?_) | (refine l_do ?_) | (refine l_doG st rfl rfl ?_) | (refine l_skipU st rfl rfl rfl ?_; clear st; intro _ st) | (refine l_skip st rfl rfl rfl rfl ?_; clear st; intro _ st) | (refine l_nil ?_) | (refine x_then ?_) | (refine x_thenR ?_) | (refine x_thenE ?_) | (refine wp_ret ?_) | (refine o_move st rfl rfl ?_; clear st; intro _ st) | (refine o_assign st rfl rfl ?_; clear st; intro _ st) | (refine o_pickT st rfl rfl rfl ?_; clear st; intro _ st) | (refine o_pickF st rfl rfl rfl ?_; clear st; intro _ st) | (refine o_len st rfl rfl ?_; clear st; intro _ st) | (refine o_add64 st rfl rfl rfl (by omega) (by omega) ?_; clear st; intro _ st) | (refine o_mulW st rfl rfl rfl ?_; clear st; intro _ st) | (refine o_eqlI st rfl rfl rfl ?_ ?_ <;> clear st <;> intro _ _ st <;> (try (exfalso; omega)))))
    refine post1 st Try.results156 (rd_t st rfl) ?_
    exact ⟨rfl, st.ex0⟩
  · rw [hi] at hz
    obtain ⟨A, B, rfl, rfl, ha0, ha1, hb0, hb1⟩ := tiles_nums hi
    have hm1 : ((A : Int) + 1) * ((B : Int) + 1) ≤ 13 * 13 := Int.mul_le_mul (by omega) (by omega) (by omega) (by omega)
    have hm0 : 0 ≤ ((A : Int) + 1) * ((B : Int) + 1) := Int.mul_nonneg (by omega) (by omega)
    rw [← hl]
    generalize finL ss = r at hf ⊢
    by_cases hn : (bs.length : Int) = ((A : Int) + 1) * ((B : Int) + 1)
    · have hb : ((bs.length : Int) == ((A : Int) + 1) * ((B : Int) + 1)) = true := by rw [hn]; exact beq_self_eq_true _
      rw [hb]
      cases r
      all_goals
        (repeat' (first | (refine o_callV st rfl (hz _) rfl ?_; clear st; intro _ _ st) | (refine o_mul64 st rfl rfl rfl (by omega) (by omega) ?_; clear st; intro _ st) | (refine o_callV st rfl (hf _ (hr.mono st.below)) rfl ?_; clear st; intro _ _ st) | (refine c_seq ?_) | (refine c_region ?_) | (refine l_do ?_) | (refine l_doG st rfl rfl ?_) | (refine l_skipU st rfl rfl rfl ?_; clear st; intro _ st) | (refine l_skip st rfl rfl rfl rfl ?_; clear st; intro _ st) | (refine l_nil ?_) | (refine x_then ?_) | (refine x_thenR ?_) | (refine x_thenE ?_) | (refine wp_ret ?_) | (refine o_move st rfl rfl ?_; clear st; intro _ st) | (refine o_assign st rfl rfl ?_; clear st; intro _ st) | (refine o_pickT st rfl rfl rfl ?_; clear st; intro _ st) | (refine o_pickF st rfl rfl rfl ?_; clear st; intro _ st) | (refine o_len st rfl rfl ?_; clear st; intro _ st) | (refine o_add64 st rfl rfl rfl (by omega) (by omega) ?_; clear st; intro _ st) | (refine o_mulW st rfl rfl rfl ?_; clear st; intro _ st) | (refine o_eqlI st rfl rfl rfl ?_ ?_ <;> clear st <;> intro _ _ st <;> (try (exfalso; omega)))))
        refine post1 st Try.results156 (rd_t st rfl) ?_
        exact ⟨rfl, st.ex0⟩
    · have hb : ((bs.length : Int) == ((A : Int) + 1) * ((B : Int) + 1)) = false := beq_eq_false_iff_ne.2 hn
      rw [hb]
      (repeat' (first | (refine o_callV st rfl (hz _) rfl ?_; clear st; intro _ _ st) | (refine o_mul64 st rfl rfl rfl (by omega) (by omega) ?_; clear st; intro _ st) | (refine o_callV st rfl (hf _ (hr.mono st.below)) rfl ?_; clear st; intro _ _ st) | (refine c_seq ?_) | (refine c_region ?_) | (refine l_do ?_) | (refine l_doG st rfl rfl ?_) | (refine l_skipU st rfl rfl rfl ?_; clear st; intro _ st) | (refine l_skip st rfl rfl rfl rfl ?_; clear st; intro _ st) | (refine l_nil ?_) | (refine x_then ?_) | (refine x_thenR ?_) | (refine x_thenE ?_) | (refine wp_ret ?_) | (refine o_move st rfl rfl ?_; clear st; intro _ st) | (refine o_assign st rfl rfl ?_; clear st; intro _ st) | (refine o_pickT st rfl rfl rfl ?_; clear st; intro _ st) | (refine o_pickF st rfl rfl rfl ?_; clear st; intro _ st) | (refine o_len st rfl rfl ?_; clear st; intro _ st) | (refine o_add64 st rfl rfl rfl (by omega) (by omega) ?_; clear st; intro _ st) | (refine o_mulW st rfl rfl rfl ?_; clear st; intro _ st) | (refine o_eqlI st rfl rfl rfl ?_ ?_ <;> clear st <;> intro _ _ st <;> (try (exfalso; omega)))))
      refine post1 st Try.results156 (rd_t st rfl) ?_
      exact ⟨rfl, st.ex0⟩
theorem areCorners_ok (bs : List B3) (ss : List S3) (h : IsSL bs ss) (base : Option Addr) (cap : Nat) (p q : Int) (w : World) (hr : RdS w base bs) (hlen : bs.length < 1000000000) :
    CV Try.prog 159 [.slice base bs.length cap, .int .i64 p, .int .i64 q] w (.bool (areaCan ss p q)) := by
  refine enter Try.func159 rfl rfl rfl rfl ?_
  intro a st
  have hl := h.len
  have hz := fun w => areTiles_ok p q w
  have hf := fun (w : World) hr => areSpots_ok bs ss h base cap w hr hlen
  unfold areaCan
  cases hi : (inB p 1 12 && inB q 1 12)
  · rw [hi] at hz
    (repeat' (first | (refine o_callV st rfl (hz _) rfl ?_; clear st; intro _ _ st) | (refine c_seq ?_) | (refine c_region ?_) | (refine l_do ?_) | (refine l_doG st rfl rfl ?_) | (refine l_skipU st rfl rfl rfl ?_; clear st; intro _ st) | (refine l_skip st rfl rfl rfl rfl ?_; clear st; intro _ st) | (refine l_nil ?_) | (refine x_then ?_) | (refine x_thenR ?_) | (refine x_thenE ?_) | (refine wp_ret ?_) | (refine o_move st rfl rfl ?_; clear st; intro _ st) | (refine o_assign st rfl rfl ?_; clear st; intro _ st) | (refine o_pickT st rfl rfl rfl ?_; clear st; intro _ st) | (refine o_pickF st rfl rfl rfl ?_; clear st; intro _ st) | (refine o_len st rfl rfl ?_; clear st; intro _ st) | (refine o_add64 st rfl rfl rfl (by omega) (by omega) ?_; clear st; intro _ st) | (refine o_mulW st rfl rfl rfl ?_; clear st; intro _ st) | (refine o_eqlI st rfl rfl rfl ?_ ?_ <;> clear st <;> intro _ _ st <;> (try (exfalso; omega)))))
    refine post1 st Try.results159 (rd_t st rfl) ?_
    exact ⟨rfl, st.ex0⟩
  · rw [hi] at hz
    obtain ⟨A, B, rfl, rfl, ha0, ha1, hb0, hb1⟩ := tiles_nums hi
    have hm1 : ((A : Int) + 1) * ((B : Int) + 1) ≤ 13 * 13 := Int.mul_le_mul (by omega) (by omega) (by omega) (by omega)
    have hm0 : 0 ≤ ((A : Int) + 1) * ((B : Int) + 1) := Int.mul_nonneg (by omega) (by omega)
    rw [← hl]
    generalize finL ss = r at hf ⊢
    by_cases hn : (bs.length : Int) = ((A : Int) + 1) * ((B : Int) + 1)
    · have hb : ((bs.length : Int) == ((A : Int) + 1) * ((B : Int) + 1)) = true := by rw [hn]; exact beq_self_eq_true _
      rw [hb]
      cases r
      all_goals
        (repeat' (first | (refine o_callV st rfl (hz _) rfl ?_; clear st; intro _ _ st) | (refine o_mul64 st rfl rfl rfl (by omega) (by omega) ?_; clear st; intro _ st) | (refine o_callV st rfl (hf _ (hr.mono st.below)) rfl ?_; clear st; intro _ _ st) | (refine c_seq ?_) | (refine c_region ?_) | (refine l_do ?_) | (refine l_doG st rfl rfl ?_) | (refine l_skipU st rfl rfl rfl ?_; clear st; intro _ st) | (refine l_skip st rfl rfl rfl rfl ?_; clear st; intro _ st) | (refine l_nil ?_) | (refine x_then ?_) | (refine x_thenR ?_) | (refine x_thenE ?_) | (refine wp_ret ?_) | (refine o_move st rfl rfl ?_; clear st; intro _ st) | (refine o_assign st rfl rfl ?_; clear st; intro _ st) | (refine o_pickT st rfl rfl rfl ?_; clear st; intro _ st) | (refine o_pickF st rfl rfl rfl ?_; clear st; intro _ st) | (refine o_len st rfl rfl ?_; clear st; intro _ st) | (refine o_add64 st rfl rfl rfl (by omega) (by omega) ?_; clear st; intro _ st) | (refine o_mulW st rfl rfl rfl ?_; clear st; intro _ st) | (refine o_eqlI st rfl rfl rfl ?_ ?_ <;> clear st <;> intro _ _ st <;> (try (exfalso; omega)))))
        refine post1 st Try.results159 (rd_t st rfl) ?_
        exact ⟨rfl, st.ex0⟩
    · have hb : ((bs.length : Int) == ((A : Int) + 1) * ((B : Int) + 1)) = false := beq_eq_false_iff_ne.2 hn
      rw [hb]
      (repeat' (first | (refine o_callV st rfl (hz _) rfl ?_; clear st; intro _ _ st) | (refine o_mul64 st rfl rfl rfl (by omega) (by omega) ?_; clear st; intro _ st) | (refine o_callV st rfl (hf _ (hr.mono st.below)) rfl ?_; clear st; intro _ _ st) | (refine c_seq ?_) | (refine c_region ?_) | (refine l_do ?_) | (refine l_doG st rfl rfl ?_) | (refine l_skipU st rfl rfl rfl ?_; clear st; intro _ st) | (refine l_skip st rfl rfl rfl rfl ?_; clear st; intro _ st) | (refine l_nil ?_) | (refine x_then ?_) | (refine x_thenR ?_) | (refine x_thenE ?_) | (refine wp_ret ?_) | (refine o_move st rfl rfl ?_; clear st; intro _ st) | (refine o_assign st rfl rfl ?_; clear st; intro _ st) | (refine o_pickT st rfl rfl rfl ?_; clear st; intro _ st) | (refine o_pickF st rfl rfl rfl ?_; clear st; intro _ st) | (refine o_len st rfl rfl ?_; clear st; intro _ st) | (refine o_add64 st rfl rfl rfl (by omega) (by omega) ?_; clear st; intro _ st) | (refine o_mulW st rfl rfl rfl ?_; clear st; intro _ st) | (refine o_eqlI st rfl rfl rfl ?_ ?_ <;> clear st <;> intro _ _ st <;> (try (exfalso; omega)))))
      refine post1 st Try.results159 (rd_t st rfl) ?_
      exact ⟨rfl, st.ex0⟩

/-- What is known where the area may be told. -/
theorem area_nums {ss : List S3} {p q : Int} (h : areaCan ss p q = true) : ∃ A B : Nat, p = A ∧ q = B ∧ 1 ≤ A ∧ A ≤ 12 ∧ 1 ≤ B ∧ B ≤ 12 ∧ ss.length = (A + 1) * (B + 1) ∧ (triM A A B).length = 3 * (B * (A * 2)) ∧ (triM A A B).length ≤ 864 ∧ ∀ k, k < 3 * (B * (A * 2)) → ∃ x : Nat, (triM A A B)[k]? = some (x : Int) ∧ triIx (triM A A B) k = x ∧ x < ss.length := by
  unfold areaCan at h
  simp only [Bool.and_eq_true] at h
  obtain ⟨A, B, rfl, rfl, ha0, ha1, hb0, hb1⟩ := tiles_nums (p := p) (q := q) (by simp only [Bool.and_eq_true]; exact h.1)
  have hl : ss.length = (A + 1) * (B + 1) := by
    have h1 := of_decide_eq_true h.2.1
    have h2 : ((A : Int) + 1) * ((B : Int) + 1) = (((A + 1) * (B + 1) : Nat) : Int) := by push_cast; rfl
    omega
  have hT : (triM A A B).length = 3 * (B * (A * 2)) := by
    rw [triM_length, show 3 * (B * (A * 2)) = B * (A * 2) * 3 from Nat.mul_comm _ _, Nat.mul_assoc, Nat.mul_assoc]
  have hT2 : B * (A * 2) ≤ 12 * 24 := Nat.mul_le_mul hb1 (by omega)
  refine ⟨A, B, rfl, rfl, ha0, ha1, hb0, hb1, hl, hT, by omega, ?_⟩
  intro k hk
  have hk' : k < (triM A A B).length := by omega
  have hm := List.getElem_mem hk'
  obtain ⟨r0, r1⟩ := triM_range A B _ hm
  refine ⟨(triM A A B)[k].toNat, ?_, ?_, ?_⟩
  · rw [List.getElem?_eq_getElem hk']
    congr 1
    omega
  · unfold triIx
    rw [List.getD_eq_getElem?_getD, List.getElem?_eq_getElem hk']
    rfl
  · have h2 : ((A : Int) + 1) * ((B : Int) + 1) = (((A + 1) * (B + 1) : Nat) : Int) := by push_cast; rfl
    rw [hl]
    omega
theorem oI_at {T : List Int} {pad : List Value} {k : Nat} {v x : Int} (hx : x = (k : Int)) (h : T[k]? = some v) : (T.map vI ++ pad).toArray[0 + x.toNat * 1]? = some (.int .i64 v) := by
  subst hx
  have hk := (List.getElem?_eq_some_iff.1 h).1
  have e : 0 + ((k : Nat) : Int).toNat * 1 = k := by simp
  rw [e]
  simp only [List.getElem?_toArray]
  rw [List.getElem?_append_left (by simpa using hk), List.getElem?_map, h]
  rfl

set_option maxRecDepth 100000 in
set_option maxHeartbeats 32000000 in
theorem specArea_ok (bs : List B3) (ss : List S3) (h : IsSL bs ss) (base : Option Addr) (cap : Nat) (p q : Int) (w : World) (hr : RdS w base bs) (hlen : bs.length < 1000000000) :
    CFB Try.prog 94 [.slice base bs.length cap, .int .i64 p, .int .i64 q] w .f32 (areaC ss p q) (areaOk ss p q) := by
  refine enter Try.func94 rfl rfl rfl rfl ?_
  intro a st
  have hc := fun (w : World) hr => l04Tiled_ok bs ss h base cap p q w hr hlen
  unfold areaC areaOk
  cases hq : areaCan ss p q
  · rw [hq] at hc
    (repeat' (first | (refine o_callV st rfl (hc _ (hr.mono st.below)) rfl ?_; clear st; intro _ _ st) | (refine c_seq ?_) | (refine c_region ?_) | (refine l_do ?_) | (refine l_doG st rfl rfl ?_) | (refine l_skipU st rfl rfl rfl ?_; clear st; intro _ st) | (refine l_skip st rfl rfl rfl rfl ?_; clear st; intro _ st) | (refine l_nil ?_) | (refine x_then ?_) | (refine x_thenR ?_) | (refine x_thenE ?_) | (refine x_blkN ?_) | (refine x_blkR ?_) | (refine x_blkE ?_) | (refine x_blkO rfl ?_) | (refine wp_ret ?_) | (refine wp_skip ?_) | (refine wp_block ?_) | (refine wp_exit ?_) | (refine c_condT st rfl ?_) | (refine c_condF st rfl ?_) | (refine o_move st rfl rfl ?_; clear st; intro _ st) | (refine o_assign st rfl rfl ?_; clear st; intro _ st) | (refine o_pickT st rfl rfl rfl ?_; clear st; intro _ st) | (refine o_pickF st rfl rfl rfl ?_; clear st; intro _ st) | (refine o_alloc st rfl ?_; clear st; intro _ _ _ st) | (refine o_loadS st rfl (by repeat (first | exact At.here | apply At.there)) rfl rfl ?_; clear st; intro _ st) | (refine o_load3 st rfl (by repeat (first | exact At.here | apply At.there)) rfl ?_; clear st; intro _ st) | (refine o_load2 st rfl (by repeat (first | exact At.here | apply At.there)) rfl ?_; clear st; intro _ st) | (refine o_load4 st rfl (by repeat (first | exact At.here | apply At.there)) rfl ?_; clear st; intro _ st) | (refine o_storeS st rfl rfl rfl (by repeat (first | exact Upd.here | apply Upd.there)) rfl (by dsimp only [List.set]) ?_; clear st; intro _ _ st) | (refine o_storeW st rfl rfl (by repeat (first | exact Upd.here | apply Upd.there)) rfl rfl rfl ?_; clear st; intro _ _ st) | (refine o_extract st rfl rfl rfl ?_; clear st; intro _ st) | (refine o_len st rfl rfl ?_; clear st; intro _ st) | (refine o_add64 st rfl rfl rfl (by omega) (by omega) ?_; clear st; intro _ st) | (refine o_notT st rfl rfl ?_; clear st; intro _ st) | (refine o_notF st rfl rfl ?_; clear st; intro _ st) | (refine o_fop rfl st rfl rfl (by first | assumption | exact Is_ofInt _ _ | exact Is_lit (by decide +kernel)) (by first | assumption | exact Is_ofInt _ _ | exact Is_lit (by decide +kernel)) rfl ?_; clear st; intro _ _ _ _ st) | (refine o_lss st rfl rfl rfl ?_ ?_ <;> clear st <;> intro _ _ st <;> (try (exfalso; omega)))))
    refine post2 st Try.results94 (rd_t st rfl) (rd_t st rfl) ?_
    exact ⟨_, rfl, ⟨0, rfl, Is_z⟩, st.ex0⟩
  · rw [hq] at hc
    obtain ⟨A, B, rfl, rfl, ha0, ha1, hb0, hb1, hsl, hT, hT2, hix⟩ := area_nums hq
    have hbl := h.len
    have hK : areaK A B = B * (A * 2) := rfl
    have hS : areaS ss A B = sumT ss (triM A A B) (B * (A * 2)) := rfl
    rw [hS]
    have hpos : 0 < ss.length := by rw [hsl]; exact Nat.mul_pos (by omega) (by omega)
    rcases id hr with rfl | ⟨ba, off, cs, ty, fr, rfl, hw, hsp⟩
    · simp at hbl; omega
    have st := st.addOld hw
    generalize hTT : triM A A B = T at *
    generalize hKK : B * (A * 2) = KK at *
    have htri := fun w => l04Triangles_ok A B ha1 hb1 w
    rw [hTT] at htri
    (repeat' (first | (refine o_callV st rfl (hc _ (hr.mono st.below)) rfl ?_; clear st; intro _ _ st) | (refine o_callM1 st rfl (htri _) rfl ?_; clear st; rintro _ tb _ ⟨tc, tpad, rfl, rfl⟩ _ _ st) | (refine c_seq ?_) | (refine c_region ?_) | (refine l_do ?_) | (refine l_doG st rfl rfl ?_) | (refine l_skipU st rfl rfl rfl ?_; clear st; intro _ st) | (refine l_skip st rfl rfl rfl rfl ?_; clear st; intro _ st) | (refine l_nil ?_) | (refine x_then ?_) | (refine x_thenR ?_) | (refine x_thenE ?_) | (refine x_blkN ?_) | (refine x_blkR ?_) | (refine x_blkE ?_) | (refine x_blkO rfl ?_) | (refine wp_ret ?_) | (refine wp_skip ?_) | (refine wp_block ?_) | (refine wp_exit ?_) | (refine c_condT st rfl ?_) | (refine c_condF st rfl ?_) | (refine o_move st rfl rfl ?_; clear st; intro _ st) | (refine o_assign st rfl rfl ?_; clear st; intro _ st) | (refine o_pickT st rfl rfl rfl ?_; clear st; intro _ st) | (refine o_pickF st rfl rfl rfl ?_; clear st; intro _ st) | (refine o_alloc st rfl ?_; clear st; intro _ _ _ st) | (refine o_loadS st rfl (by repeat (first | exact At.here | apply At.there)) rfl rfl ?_; clear st; intro _ st) | (refine o_load3 st rfl (by repeat (first | exact At.here | apply At.there)) rfl ?_; clear st; intro _ st) | (refine o_load2 st rfl (by repeat (first | exact At.here | apply At.there)) rfl ?_; clear st; intro _ st) | (refine o_load4 st rfl (by repeat (first | exact At.here | apply At.there)) rfl ?_; clear st; intro _ st) | (refine o_storeS st rfl rfl rfl (by repeat (first | exact Upd.here | apply Upd.there)) rfl (by dsimp only [List.set]) ?_; clear st; intro _ _ st) | (refine o_storeW st rfl rfl (by repeat (first | exact Upd.here | apply Upd.there)) rfl rfl rfl ?_; clear st; intro _ _ st) | (refine o_extract st rfl rfl rfl ?_; clear st; intro _ st) | (refine o_len st rfl rfl ?_; clear st; intro _ st) | (refine o_add64 st rfl rfl rfl (by omega) (by omega) ?_; clear st; intro _ st) | (refine o_notT st rfl rfl ?_; clear st; intro _ st) | (refine o_notF st rfl rfl ?_; clear st; intro _ st) | (refine o_fop rfl st rfl rfl (by first | assumption | exact Is_ofInt _ _ | exact Is_lit (by decide +kernel)) (by first | assumption | exact Is_ofInt _ _ | exact Is_lit (by decide +kernel)) rfl ?_; clear st; intro _ _ _ _ st) | (refine o_lss st rfl rfl rfl ?_ ?_ <;> clear st <;> intro _ _ st <;> (try (exfalso; omega)))))
    refine wp_loop_ghost (fun z a w' => ∃ (k x : Nat), k ≤ KK ∧ z = KK - k ∧ Is .f32 x (sumT ss T k) ∧ allT ss T k = true ∧ St w Try.f94.ntmps a w' [(0, .slice (some ⟨ba, off, none⟩) bs.length cap), (8, .slice (some ⟨tb, 0, none⟩) T.length tc), (9, .float .f32 x), (10, .int .i64 ((3 * k : Nat) : Int))] [⟨tb, true, oI T tpad⟩, ⟨ba, false, .cells cs ty fr⟩]) KK ⟨0, 0, by omega, by omega, Is_z, rfl, (st.fit (by repeat (first | exact trivial | refine And.intro rfl ?_))).subL (by repeat (first | exact List.Sublist.refl _ | apply List.Sublist.cons_cons | apply List.Sublist.cons | exact List.nil_sublist _))⟩ ?_
    clear st
    rintro z a w' ⟨k, x, hk, rfl, hx, hall, st⟩
    by_cases hlt : k < KK
    · obtain ⟨x0, hx0, ht0, hl0⟩ := hix (3 * k) (by omega)
      obtain ⟨x1, hx1, ht1, hl1⟩ := hix (3 * k + 1) (by omega)
      obtain ⟨x2, hx2, ht2, hl2⟩ := hix (3 * k + 2) (by omega)
      have hI0 := h.getDA (by omega : x0 < bs.length)
      have hI1 := h.getDA (by omega : x1 < bs.length)
      have hI2 := h.getDA (by omega : x2 < bs.length)
      have hv0 := hsp x0 _ (List.getElem?_eq_getElem (by omega : x0 < bs.length))
      have hv1 := hsp x1 _ (List.getElem?_eq_getElem (by omega : x1 < bs.length))
      have hv2 := hsp x2 _ (List.getElem?_eq_getElem (by omega : x2 < bs.length))
      have hi0 := oI_at (pad := tpad) (x := ((3 * k : Nat) : Int)) rfl hx0
      have hi1 := oI_at (pad := tpad) (x := ((3 * k : Nat) : Int) + 1) (by omega) hx1
      have hi2 := oI_at (pad := tpad) (x := ((3 * k : Nat) : Int) + 2) (by omega) hx2
      have e1 : l1S ss T k = lessS (ss.getD x1 z3) (ss.getD x0 z3) := by unfold l1S; rw [ht1, ht0]
      have e2 : l2S ss T k = lessS (ss.getD x2 z3) (ss.getD x0 z3) := by unfold l2S; rw [ht2, ht0]
      (repeat' (first | (refine o_indexAddr st rfl rfl (by omega) (by omega) rfl ?_; clear st; intro _ st) | (refine o_loadS st rfl (by repeat (first | exact At.here | apply At.there)) hi0 rfl ?_; clear st; intro _ st) | (refine o_loadSp st rfl (by repeat (first | exact At.here | apply At.there)) hv0 rfl ?_; clear st; intro _ st) | (refine c_seq ?_) | (refine c_region ?_) | (refine l_do ?_) | (refine l_doG st rfl rfl ?_) | (refine l_skipU st rfl rfl rfl ?_; clear st; intro _ st) | (refine l_skip st rfl rfl rfl rfl ?_; clear st; intro _ st) | (refine l_nil ?_) | (refine x_then ?_) | (refine x_thenR ?_) | (refine x_thenE ?_) | (refine x_blkN ?_) | (refine x_blkR ?_) | (refine x_blkE ?_) | (refine x_blkO rfl ?_) | (refine wp_ret ?_) | (refine wp_skip ?_) | (refine wp_block ?_) | (refine wp_exit ?_) | (refine c_condT st rfl ?_) | (refine c_condF st rfl ?_) | (refine o_move st rfl rfl ?_; clear st; intro _ st) | (refine o_assign st rfl rfl ?_; clear st; intro _ st) | (refine o_pickT st rfl rfl rfl ?_; clear st; intro _ st) | (refine o_pickF st rfl rfl rfl ?_; clear st; intro _ st) | (refine o_alloc st rfl ?_; clear st; intro _ _ _ st) | (refine o_loadS st rfl (by repeat (first | exact At.here | apply At.there)) rfl rfl ?_; clear st; intro _ st) | (refine o_load3 st rfl (by repeat (first | exact At.here | apply At.there)) rfl ?_; clear st; intro _ st) | (refine o_load2 st rfl (by repeat (first | exact At.here | apply At.there)) rfl ?_; clear st; intro _ st) | (refine o_load4 st rfl (by repeat (first | exact At.here | apply At.there)) rfl ?_; clear st; intro _ st) | (refine o_storeS st rfl rfl rfl (by repeat (first | exact Upd.here | apply Upd.there)) rfl (by dsimp only [List.set]) ?_; clear st; intro _ _ st) | (refine o_storeW st rfl rfl (by repeat (first | exact Upd.here | apply Upd.there)) rfl rfl rfl ?_; clear st; intro _ _ st) | (refine o_extract st rfl rfl rfl ?_; clear st; intro _ st) | (refine o_len st rfl rfl ?_; clear st; intro _ st) | (refine o_add64 st rfl rfl rfl (by omega) (by omega) ?_; clear st; intro _ st) | (refine o_notT st rfl rfl ?_; clear st; intro _ st) | (refine o_notF st rfl rfl ?_; clear st; intro _ st) | (refine o_fop rfl st rfl rfl (by first | assumption | exact Is_ofInt _ _ | exact Is_lit (by decide +kernel)) (by first | assumption | exact Is_ofInt _ _ | exact Is_lit (by decide +kernel)) rfl ?_; clear st; intro _ _ _ _ st) | (refine o_lss st rfl rfl rfl ?_ ?_ <;> clear st <;> intro _ _ st <;> (try (exfalso; omega)))))
      refine c_drawCA (F := (fun _ _ a w' => ∃ (cb : Nat) (q3 : B3), IsS q3 (bif finS (l1S ss T k) && finS (l2S ss T k) then giveS (crsS ss T k) else z3) ∧ St w Try.f94.ntmps a w' [(0, .slice (some ⟨ba, off, none⟩) bs.length cap), (8, .slice (some ⟨tb, 0, none⟩) T.length tc), (9, .float .f32 x), (10, .int .i64 ((3 * k : Nat) : Int)), (12, .pointer (some ⟨cb, 0, none⟩)), (13, .bool (finS (l1S ss T k) && finS (l2S ss T k) && finS (crsS ss T k)))] [⟨cb, true, oB q3 26⟩, ⟨tb, true, oI T tpad⟩, ⟨ba, false, .cells cs ty fr⟩])) (last := 26) hm_ (by decide +kernel) (by decide +kernel) st ?_ ?_
      · clear st; intro _ st
        refine h_val (i := 0) st (by repeat (first | exact List.Sublist.refl _ | apply List.Sublist.cons_cons | apply List.Sublist.cons | exact List.nil_sublist _)) (by decide +kernel) (by decide +kernel) rfl (by decide +kernel) rfl (v_move st rfl) ?_; clear st; intro _ st
        refine h_val (i := 1) st (by repeat (first | exact List.Sublist.refl _ | apply List.Sublist.cons_cons | apply List.Sublist.cons | exact List.nil_sublist _)) (by decide +kernel) (by decide +kernel) rfl (by decide +kernel) rfl (v_move st rfl) ?_; clear st; intro _ st
        refine h_val (i := 2) st (by repeat (first | exact List.Sublist.refl _ | apply List.Sublist.cons_cons | apply List.Sublist.cons | exact List.nil_sublist _)) (by decide +kernel) (by decide +kernel) rfl (by decide +kernel) rfl (v_move st rfl) ?_; clear st; intro _ st
        refine h_val (i := 3) st (by repeat (first | exact List.Sublist.refl _ | apply List.Sublist.cons_cons | apply List.Sublist.cons | exact List.nil_sublist _)) (by decide +kernel) (by decide +kernel) rfl (by decide +kernel) rfl (v_add64 st rfl rfl (by omega) (by omega)) ?_; clear st; intro _ st
        refine h_val (i := 4) st (by repeat (first | exact List.Sublist.refl _ | apply List.Sublist.cons_cons | apply List.Sublist.cons | exact List.nil_sublist _)) (by decide +kernel) (by decide +kernel) rfl (by decide +kernel) rfl (v_indexAddr st rfl rfl (by omega) (by omega)) ?_; clear st; intro _ st
        refine h_val (i := 5) st (by repeat (first | exact List.Sublist.refl _ | apply List.Sublist.cons_cons | apply List.Sublist.cons | exact List.nil_sublist _)) (by decide +kernel) (by decide +kernel) rfl (by decide +kernel) rfl (v_loadS st rfl (by repeat (first | exact At.here | apply At.there)) hi1) ?_; clear st; intro _ st
        refine h_val (i := 6) st (by repeat (first | exact List.Sublist.refl _ | apply List.Sublist.cons_cons | apply List.Sublist.cons | exact List.nil_sublist _)) (by decide +kernel) (by decide +kernel) rfl (by decide +kernel) rfl (v_indexAddr st rfl rfl (by omega) (by omega)) ?_; clear st; intro _ st
        refine h_val (i := 7) st (by repeat (first | exact List.Sublist.refl _ | apply List.Sublist.cons_cons | apply List.Sublist.cons | exact List.nil_sublist _)) (by decide +kernel) (by decide +kernel) rfl (by decide +kernel) rfl (v_loadSp st rfl (by repeat (first | exact At.here | apply At.there)) hv1) ?_; clear st; intro _ st
        refine h_val (i := 8) st (by repeat (first | exact List.Sublist.refl _ | apply List.Sublist.cons_cons | apply List.Sublist.cons | exact List.nil_sublist _)) (by decide +kernel) (by decide +kernel) rfl (by decide +kernel) rfl (by first | exact v_load3 st rfl (by repeat (first | exact At.here | apply At.there)) | exact v_loadS st rfl (by repeat (first | exact At.here | apply At.there)) rfl) ?_; clear st; intro _ st
        refine h_val (i := 10) st (by repeat (first | exact List.Sublist.refl _ | apply List.Sublist.cons_cons | apply List.Sublist.cons | exact List.nil_sublist _)) (by decide +kernel) (by decide +kernel) rfl (by decide +kernel) rfl (v_move st rfl) ?_; clear st; intro _ st
        refine h_val (i := 11) st (by repeat (first | exact List.Sublist.refl _ | apply List.Sublist.cons_cons | apply List.Sublist.cons | exact List.nil_sublist _)) (by decide +kernel) (by decide +kernel) rfl (by decide +kernel) rfl (v_move st rfl) ?_; clear st; intro _ st
        refine h_val (i := 12) st (by repeat (first | exact List.Sublist.refl _ | apply List.Sublist.cons_cons | apply List.Sublist.cons | exact List.nil_sublist _)) (by decide +kernel) (by decide +kernel) rfl (by decide +kernel) rfl (v_move st rfl) ?_; clear st; intro _ st
        refine h_val (i := 13) st (by repeat (first | exact List.Sublist.refl _ | apply List.Sublist.cons_cons | apply List.Sublist.cons | exact List.nil_sublist _)) (by decide +kernel) (by decide +kernel) rfl (by decide +kernel) rfl (v_add64 st rfl rfl (by omega) (by omega)) ?_; clear st; intro _ st
        refine h_val (i := 14) st (by repeat (first | exact List.Sublist.refl _ | apply List.Sublist.cons_cons | apply List.Sublist.cons | exact List.nil_sublist _)) (by decide +kernel) (by decide +kernel) rfl (by decide +kernel) rfl (v_indexAddr st rfl rfl (by omega) (by omega)) ?_; clear st; intro _ st
        refine h_val (i := 15) st (by repeat (first | exact List.Sublist.refl _ | apply List.Sublist.cons_cons | apply List.Sublist.cons | exact List.nil_sublist _)) (by decide +kernel) (by decide +kernel) rfl (by decide +kernel) rfl (v_loadS st rfl (by repeat (first | exact At.here | apply At.there)) hi2) ?_; clear st; intro _ st
        refine h_val (i := 16) st (by repeat (first | exact List.Sublist.refl _ | apply List.Sublist.cons_cons | apply List.Sublist.cons | exact List.nil_sublist _)) (by decide +kernel) (by decide +kernel) rfl (by decide +kernel) rfl (v_indexAddr st rfl rfl (by omega) (by omega)) ?_; clear st; intro _ st
        refine h_val (i := 17) st (by repeat (first | exact List.Sublist.refl _ | apply List.Sublist.cons_cons | apply List.Sublist.cons | exact List.nil_sublist _)) (by decide +kernel) (by decide +kernel) rfl (by decide +kernel) rfl (v_loadSp st rfl (by repeat (first | exact At.here | apply At.there)) hv2) ?_; clear st; intro _ st
        refine h_val (i := 18) st (by repeat (first | exact List.Sublist.refl _ | apply List.Sublist.cons_cons | apply List.Sublist.cons | exact List.nil_sublist _)) (by decide +kernel) (by decide +kernel) rfl (by decide +kernel) rfl (by first | exact v_load3 st rfl (by repeat (first | exact At.here | apply At.there)) | exact v_loadS st rfl (by repeat (first | exact At.here | apply At.there)) rfl) ?_; clear st; intro _ st
        refine h_two (i := 9) (i' := 24) (by decide +kernel) rfl rfl ?_ ?_
        · skip
          refine o_callSb st rfl (l04Less_ok _ bs[x0] _ _ hI1 hI0 _) rfl ?_; clear st; intro q1 hq1 _ _ st
          refine k_held st (by repeat (first | exact List.Sublist.refl _ | apply List.Sublist.cons_cons | apply List.Sublist.cons | exact List.nil_sublist _)) ?_
          refine h_two (i := 19) (i' := 24) (by decide +kernel) rfl rfl ?_ ?_
          · skip
            refine o_callSb st rfl (l04Less_ok _ bs[x0] _ _ hI2 hI0 _) rfl ?_; clear st; intro q2 hq2 _ _ st
            refine k_held st (by repeat (first | exact List.Sublist.refl _ | apply List.Sublist.cons_cons | apply List.Sublist.cons | exact List.nil_sublist _)) ?_
            refine h_two (i := 20) (i' := 24) (by decide +kernel) rfl rfl ?_ ?_
            · skip
              refine o_callSBb st rfl (specCross_ok q1 q2 _ _ hq1 hq2 _) rfl ?_; clear st; intro q3 hq3 _ _ st
              refine k_held st (by repeat (first | exact List.Sublist.refl _ | apply List.Sublist.cons_cons | apply List.Sublist.cons | exact List.nil_sublist _)) ?_
              refine h_val (i := 21) st (by repeat (first | exact List.Sublist.refl _ | apply List.Sublist.cons_cons | apply List.Sublist.cons | exact List.nil_sublist _)) (by decide +kernel) (by decide +kernel) rfl (by decide +kernel) rfl (v_move st rfl) ?_; clear st; intro _ st
              refine h_val (i := 22) st (by repeat (first | exact List.Sublist.refl _ | apply List.Sublist.cons_cons | apply List.Sublist.cons | exact List.nil_sublist _)) (by decide +kernel) (by decide +kernel) rfl (by decide +kernel) rfl (v_extract st rfl rfl) ?_; clear st; intro _ st
              refine h_val (i := 23) st (by repeat (first | exact List.Sublist.refl _ | apply List.Sublist.cons_cons | apply List.Sublist.cons | exact List.nil_sublist _)) (by decide +kernel) (by decide +kernel) rfl (by decide +kernel) rfl (v_extract st rfl rfl) ?_; clear st; intro _ st
              refine h_one (i := 24) (by decide +kernel) rfl ?_
              refine o_alloc st rfl ?_; clear st; intro _ _ _ st
              refine k_held st (by repeat (first | exact List.Sublist.refl _ | apply List.Sublist.cons_cons | apply List.Sublist.cons | exact List.nil_sublist _)) ?_
              refine h_one (i := 25) (by decide +kernel) rfl ?_
              (first | (refine o_storeS st rfl rfl rfl (by repeat (first | exact Upd.here | apply Upd.there)) rfl (by dsimp only [List.set]) ?_; clear st; intro _ _ st) | (refine o_storeW st rfl rfl (by repeat (first | exact Upd.here | apply Upd.there)) rfl rfl rfl ?_; clear st; intro _ _ st))
              refine k_held st (by repeat (first | exact List.Sublist.refl _ | apply List.Sublist.cons_cons | apply List.Sublist.cons | exact List.nil_sublist _)) ?_
              refine h_one (i := 26) (by decide +kernel) rfl ?_
              (first | (refine o_assign st rfl rfl ?_; clear st; intro _ st))
              refine k_last ?_
              refine h_done (by decide +kernel) ?_
              refine ⟨rfl, ?_⟩
              rw [← e1, ← e2] at hq3 st
              have st := St.front 12 st rfl (by repeat (first | exact Rem.here | apply Rem.there))
              exact ⟨_, q3, hq3, (st.fit (by repeat (first | exact trivial | refine And.intro rfl ?_))).subL (by repeat (first | exact List.Sublist.refl _ | apply List.Sublist.cons_cons | apply List.Sublist.cons | exact List.nil_sublist _))⟩
            · skip
              refine o_alloc st rfl ?_; clear st; intro _ _ _ st
              refine k_held st (by repeat (first | exact List.Sublist.refl _ | apply List.Sublist.cons_cons | apply List.Sublist.cons | exact List.nil_sublist _)) ?_
              refine h_one (i := 20) (by decide +kernel) rfl ?_
              refine o_callSBb st rfl (specCross_ok q1 q2 _ _ hq1 hq2 _) rfl ?_; clear st; intro q3 hq3 _ _ st
              refine k_held st (by repeat (first | exact List.Sublist.refl _ | apply List.Sublist.cons_cons | apply List.Sublist.cons | exact List.nil_sublist _)) ?_
              refine h_val (i := 21) st (by repeat (first | exact List.Sublist.refl _ | apply List.Sublist.cons_cons | apply List.Sublist.cons | exact List.nil_sublist _)) (by decide +kernel) (by decide +kernel) rfl (by decide +kernel) rfl (v_move st rfl) ?_; clear st; intro _ st
              refine h_val (i := 22) st (by repeat (first | exact List.Sublist.refl _ | apply List.Sublist.cons_cons | apply List.Sublist.cons | exact List.nil_sublist _)) (by decide +kernel) (by decide +kernel) rfl (by decide +kernel) rfl (v_extract st rfl rfl) ?_; clear st; intro _ st
              refine h_val (i := 23) st (by repeat (first | exact List.Sublist.refl _ | apply List.Sublist.cons_cons | apply List.Sublist.cons | exact List.nil_sublist _)) (by decide +kernel) (by decide +kernel) rfl (by decide +kernel) rfl (v_extract st rfl rfl) ?_; clear st; intro _ st
              refine h_one (i := 25) (by decide +kernel) rfl ?_
              (first | (refine o_storeS st rfl rfl rfl (by repeat (first | exact Upd.here | apply Upd.there)) rfl (by dsimp only [List.set]) ?_; clear st; intro _ _ st) | (refine o_storeW st rfl rfl (by repeat (first | exact Upd.here | apply Upd.there)) rfl rfl rfl ?_; clear st; intro _ _ st))
              refine k_held st (by repeat (first | exact List.Sublist.refl _ | apply List.Sublist.cons_cons | apply List.Sublist.cons | exact List.nil_sublist _)) ?_
              refine h_one (i := 26) (by decide +kernel) rfl ?_
              (first | (refine o_assign st rfl rfl ?_; clear st; intro _ st))
              refine k_last ?_
              refine h_done (by decide +kernel) ?_
              refine ⟨rfl, ?_⟩
              rw [← e1, ← e2] at hq3 st
              have st := St.front 12 st rfl (by repeat (first | exact Rem.here | apply Rem.there))
              exact ⟨_, q3, hq3, (st.fit (by repeat (first | exact trivial | refine And.intro rfl ?_))).subL (by repeat (first | exact List.Sublist.refl _ | apply List.Sublist.cons_cons | apply List.Sublist.cons | exact List.nil_sublist _))⟩
          · skip
            refine o_alloc st rfl ?_; clear st; intro _ _ _ st
            refine k_held st (by repeat (first | exact List.Sublist.refl _ | apply List.Sublist.cons_cons | apply List.Sublist.cons | exact List.nil_sublist _)) ?_
            refine h_one (i := 19) (by decide +kernel) rfl ?_
            refine o_callSb st rfl (l04Less_ok _ bs[x0] _ _ hI2 hI0 _) rfl ?_; clear st; intro q2 hq2 _ _ st
            refine k_held st (by repeat (first | exact List.Sublist.refl _ | apply List.Sublist.cons_cons | apply List.Sublist.cons | exact List.nil_sublist _)) ?_
            refine h_one (i := 20) (by decide +kernel) rfl ?_
            refine o_callSBb st rfl (specCross_ok q1 q2 _ _ hq1 hq2 _) rfl ?_; clear st; intro q3 hq3 _ _ st
            refine k_held st (by repeat (first | exact List.Sublist.refl _ | apply List.Sublist.cons_cons | apply List.Sublist.cons | exact List.nil_sublist _)) ?_
            refine h_val (i := 21) st (by repeat (first | exact List.Sublist.refl _ | apply List.Sublist.cons_cons | apply List.Sublist.cons | exact List.nil_sublist _)) (by decide +kernel) (by decide +kernel) rfl (by decide +kernel) rfl (v_move st rfl) ?_; clear st; intro _ st
            refine h_val (i := 22) st (by repeat (first | exact List.Sublist.refl _ | apply List.Sublist.cons_cons | apply List.Sublist.cons | exact List.nil_sublist _)) (by decide +kernel) (by decide +kernel) rfl (by decide +kernel) rfl (v_extract st rfl rfl) ?_; clear st; intro _ st
            refine h_val (i := 23) st (by repeat (first | exact List.Sublist.refl _ | apply List.Sublist.cons_cons | apply List.Sublist.cons | exact List.nil_sublist _)) (by decide +kernel) (by decide +kernel) rfl (by decide +kernel) rfl (v_extract st rfl rfl) ?_; clear st; intro _ st
            refine h_one (i := 25) (by decide +kernel) rfl ?_
            (first | (refine o_storeS st rfl rfl rfl (by repeat (first | exact Upd.here | apply Upd.there)) rfl (by dsimp only [List.set]) ?_; clear st; intro _ _ st) | (refine o_storeW st rfl rfl (by repeat (first | exact Upd.here | apply Upd.there)) rfl rfl rfl ?_; clear st; intro _ _ st))
            refine k_held st (by repeat (first | exact List.Sublist.refl _ | apply List.Sublist.cons_cons | apply List.Sublist.cons | exact List.nil_sublist _)) ?_
            refine h_one (i := 26) (by decide +kernel) rfl ?_
            (first | (refine o_assign st rfl rfl ?_; clear st; intro _ st))
            refine k_last ?_
            refine h_done (by decide +kernel) ?_
            refine ⟨rfl, ?_⟩
            rw [← e1, ← e2] at hq3 st
            have st := St.front 12 st rfl (by repeat (first | exact Rem.here | apply Rem.there))
            exact ⟨_, q3, hq3, (st.fit (by repeat (first | exact trivial | refine And.intro rfl ?_))).subL (by repeat (first | exact List.Sublist.refl _ | apply List.Sublist.cons_cons | apply List.Sublist.cons | exact List.nil_sublist _))⟩
        · skip
          refine o_alloc st rfl ?_; clear st; intro _ _ _ st
          refine k_held st (by repeat (first | exact List.Sublist.refl _ | apply List.Sublist.cons_cons | apply List.Sublist.cons | exact List.nil_sublist _)) ?_
          refine h_one (i := 9) (by decide +kernel) rfl ?_
          refine o_callSb st rfl (l04Less_ok _ bs[x0] _ _ hI1 hI0 _) rfl ?_; clear st; intro q1 hq1 _ _ st
          refine k_held st (by repeat (first | exact List.Sublist.refl _ | apply List.Sublist.cons_cons | apply List.Sublist.cons | exact List.nil_sublist _)) ?_
          refine h_one (i := 19) (by decide +kernel) rfl ?_
          refine o_callSb st rfl (l04Less_ok _ bs[x0] _ _ hI2 hI0 _) rfl ?_; clear st; intro q2 hq2 _ _ st
          refine k_held st (by repeat (first | exact List.Sublist.refl _ | apply List.Sublist.cons_cons | apply List.Sublist.cons | exact List.nil_sublist _)) ?_
          refine h_one (i := 20) (by decide +kernel) rfl ?_
          refine o_callSBb st rfl (specCross_ok q1 q2 _ _ hq1 hq2 _) rfl ?_; clear st; intro q3 hq3 _ _ st
          refine k_held st (by repeat (first | exact List.Sublist.refl _ | apply List.Sublist.cons_cons | apply List.Sublist.cons | exact List.nil_sublist _)) ?_
          refine h_val (i := 21) st (by repeat (first | exact List.Sublist.refl _ | apply List.Sublist.cons_cons | apply List.Sublist.cons | exact List.nil_sublist _)) (by decide +kernel) (by decide +kernel) rfl (by decide +kernel) rfl (v_move st rfl) ?_; clear st; intro _ st
          refine h_val (i := 22) st (by repeat (first | exact List.Sublist.refl _ | apply List.Sublist.cons_cons | apply List.Sublist.cons | exact List.nil_sublist _)) (by decide +kernel) (by decide +kernel) rfl (by decide +kernel) rfl (v_extract st rfl rfl) ?_; clear st; intro _ st
          refine h_val (i := 23) st (by repeat (first | exact List.Sublist.refl _ | apply List.Sublist.cons_cons | apply List.Sublist.cons | exact List.nil_sublist _)) (by decide +kernel) (by decide +kernel) rfl (by decide +kernel) rfl (v_extract st rfl rfl) ?_; clear st; intro _ st
          refine h_one (i := 25) (by decide +kernel) rfl ?_
          (first | (refine o_storeS st rfl rfl rfl (by repeat (first | exact Upd.here | apply Upd.there)) rfl (by dsimp only [List.set]) ?_; clear st; intro _ _ st) | (refine o_storeW st rfl rfl (by repeat (first | exact Upd.here | apply Upd.there)) rfl rfl rfl ?_; clear st; intro _ _ st))
          refine k_held st (by repeat (first | exact List.Sublist.refl _ | apply List.Sublist.cons_cons | apply List.Sublist.cons | exact List.nil_sublist _)) ?_
          refine h_one (i := 26) (by decide +kernel) rfl ?_
          (first | (refine o_assign st rfl rfl ?_; clear st; intro _ st))
          refine k_last ?_
          refine h_done (by decide +kernel) ?_
          refine ⟨rfl, ?_⟩
          rw [← e1, ← e2] at hq3 st
          have st := St.front 12 st rfl (by repeat (first | exact Rem.here | apply Rem.there))
          exact ⟨_, q3, hq3, (st.fit (by repeat (first | exact trivial | refine And.intro rfl ?_))).subL (by repeat (first | exact List.Sublist.refl _ | apply List.Sublist.cons_cons | apply List.Sublist.cons | exact List.nil_sublist _))⟩
      clear st
      rintro _ _ ⟨cb, q3, hq3, st⟩
      have hlong := fun w => specLong_ok q3 _ hq3 w
      cases hok : okT ss T k
      · have hno : allT ss T KK = false := allT_false hok hlt
        have hfin := fin_sumT hno
        rw [hfin]
        have hgv : (bif true then giveC (sumT ss T KK) else some 0) = some 0 := by
          show giveC _ = _
          unfold giveC
          rw [hfin]
          rfl
        rw [hgv]
        unfold okT at hok
        unfold longOk longC at hlong
        generalize hA : (finS (l1S ss T k) && finS (l2S ss T k)) = qa at *
        cases qa
        · (repeat' (first | (refine o_callFlB st rfl (hlong _) rfl ?_; clear st; intro _ _ _ _ st) | (refine c_seq ?_) | (refine c_region ?_) | (refine l_do ?_) | (refine l_doG st rfl rfl ?_) | (refine l_skipU st rfl rfl rfl ?_; clear st; intro _ st) | (refine l_skip st rfl rfl rfl rfl ?_; clear st; intro _ st) | (refine l_nil ?_) | (refine x_then ?_) | (refine x_thenR ?_) | (refine x_thenE ?_) | (refine x_blkN ?_) | (refine x_blkR ?_) | (refine x_blkE ?_) | (refine x_blkO rfl ?_) | (refine wp_ret ?_) | (refine wp_skip ?_) | (refine wp_block ?_) | (refine wp_exit ?_) | (refine c_condT st rfl ?_) | (refine c_condF st rfl ?_) | (refine o_move st rfl rfl ?_; clear st; intro _ st) | (refine o_assign st rfl rfl ?_; clear st; intro _ st) | (refine o_pickT st rfl rfl rfl ?_; clear st; intro _ st) | (refine o_pickF st rfl rfl rfl ?_; clear st; intro _ st) | (refine o_alloc st rfl ?_; clear st; intro _ _ _ st) | (refine o_loadS st rfl (by repeat (first | exact At.here | apply At.there)) rfl rfl ?_; clear st; intro _ st) | (refine o_load3 st rfl (by repeat (first | exact At.here | apply At.there)) rfl ?_; clear st; intro _ st) | (refine o_load2 st rfl (by repeat (first | exact At.here | apply At.there)) rfl ?_; clear st; intro _ st) | (refine o_load4 st rfl (by repeat (first | exact At.here | apply At.there)) rfl ?_; clear st; intro _ st) | (refine o_storeS st rfl rfl rfl (by repeat (first | exact Upd.here | apply Upd.there)) rfl (by dsimp only [List.set]) ?_; clear st; intro _ _ st) | (refine o_storeW st rfl rfl (by repeat (first | exact Upd.here | apply Upd.there)) rfl rfl rfl ?_; clear st; intro _ _ st) | (refine o_extract st rfl rfl rfl ?_; clear st; intro _ st) | (refine o_len st rfl rfl ?_; clear st; intro _ st) | (refine o_add64 st rfl rfl rfl (by omega) (by omega) ?_; clear st; intro _ st) | (refine o_notT st rfl rfl ?_; clear st; intro _ st) | (refine o_notF st rfl rfl ?_; clear st; intro _ st) | (refine o_fop rfl st rfl rfl (by first | assumption | exact Is_ofInt _ _ | exact Is_lit (by decide +kernel)) (by first | assumption | exact Is_ofInt _ _ | exact Is_lit (by decide +kernel)) rfl ?_; clear st; intro _ _ _ _ st) | (refine o_lss st rfl rfl rfl ?_ ?_ <;> clear st <;> intro _ _ st <;> (try (exfalso; omega)))))
          refine post2 st Try.results94 (rd_t st rfl) (rd_t st rfl) ?_
          exact ⟨_, rfl, ⟨0, rfl, Is_z⟩, st.ex0⟩
        · cases hB : finS (crsS ss T k)
          · rw [hB] at st
            (repeat' (first | (refine o_callFlB st rfl (hlong _) rfl ?_; clear st; intro _ _ _ _ st) | (refine c_seq ?_) | (refine c_region ?_) | (refine l_do ?_) | (refine l_doG st rfl rfl ?_) | (refine l_skipU st rfl rfl rfl ?_; clear st; intro _ st) | (refine l_skip st rfl rfl rfl rfl ?_; clear st; intro _ st) | (refine l_nil ?_) | (refine x_then ?_) | (refine x_thenR ?_) | (refine x_thenE ?_) | (refine x_blkN ?_) | (refine x_blkR ?_) | (refine x_blkE ?_) | (refine x_blkO rfl ?_) | (refine wp_ret ?_) | (refine wp_skip ?_) | (refine wp_block ?_) | (refine wp_exit ?_) | (refine c_condT st rfl ?_) | (refine c_condF st rfl ?_) | (refine o_move st rfl rfl ?_; clear st; intro _ st) | (refine o_assign st rfl rfl ?_; clear st; intro _ st) | (refine o_pickT st rfl rfl rfl ?_; clear st; intro _ st) | (refine o_pickF st rfl rfl rfl ?_; clear st; intro _ st) | (refine o_alloc st rfl ?_; clear st; intro _ _ _ st) | (refine o_loadS st rfl (by repeat (first | exact At.here | apply At.there)) rfl rfl ?_; clear st; intro _ st) | (refine o_load3 st rfl (by repeat (first | exact At.here | apply At.there)) rfl ?_; clear st; intro _ st) | (refine o_load2 st rfl (by repeat (first | exact At.here | apply At.there)) rfl ?_; clear st; intro _ st) | (refine o_load4 st rfl (by repeat (first | exact At.here | apply At.there)) rfl ?_; clear st; intro _ st) | (refine o_storeS st rfl rfl rfl (by repeat (first | exact Upd.here | apply Upd.there)) rfl (by dsimp only [List.set]) ?_; clear st; intro _ _ st) | (refine o_storeW st rfl rfl (by repeat (first | exact Upd.here | apply Upd.there)) rfl rfl rfl ?_; clear st; intro _ _ st) | (refine o_extract st rfl rfl rfl ?_; clear st; intro _ st) | (refine o_len st rfl rfl ?_; clear st; intro _ st) | (refine o_add64 st rfl rfl rfl (by omega) (by omega) ?_; clear st; intro _ st) | (refine o_notT st rfl rfl ?_; clear st; intro _ st) | (refine o_notF st rfl rfl ?_; clear st; intro _ st) | (refine o_fop rfl st rfl rfl (by first | assumption | exact Is_ofInt _ _ | exact Is_lit (by decide +kernel)) (by first | assumption | exact Is_ofInt _ _ | exact Is_lit (by decide +kernel)) rfl ?_; clear st; intro _ _ _ _ st) | (refine o_lss st rfl rfl rfl ?_ ?_ <;> clear st <;> intro _ _ st <;> (try (exfalso; omega)))))
            refine post2 st Try.results94 (rd_t st rfl) (rd_t st rfl) ?_
            exact ⟨_, rfl, ⟨0, rfl, Is_z⟩, st.ex0⟩
          · rw [hB] at st hok
            have hg : giveS (crsS ss T k) = crsS ss T k := by unfold giveS; rw [hB]; rfl
            have hrt : rootC (dotC (crsS ss T k) (crsS ss T k)) = trmC ss T k := rfl
            simp only [cond_true, hg, hB, hrt, Bool.true_and] at hlong hok
            rw [hok] at hlong
            (repeat' (first | (refine o_callFlB st rfl (hlong _) rfl ?_; clear st; intro _ _ _ _ st) | (refine c_seq ?_) | (refine c_region ?_) | (refine l_do ?_) | (refine l_doG st rfl rfl ?_) | (refine l_skipU st rfl rfl rfl ?_; clear st; intro _ st) | (refine l_skip st rfl rfl rfl rfl ?_; clear st; intro _ st) | (refine l_nil ?_) | (refine x_then ?_) | (refine x_thenR ?_) | (refine x_thenE ?_) | (refine x_blkN ?_) | (refine x_blkR ?_) | (refine x_blkE ?_) | (refine x_blkO rfl ?_) | (refine wp_ret ?_) | (refine wp_skip ?_) | (refine wp_block ?_) | (refine wp_exit ?_) | (refine c_condT st rfl ?_) | (refine c_condF st rfl ?_) | (refine o_move st rfl rfl ?_; clear st; intro _ st) | (refine o_assign st rfl rfl ?_; clear st; intro _ st) | (refine o_pickT st rfl rfl rfl ?_; clear st; intro _ st) | (refine o_pickF st rfl rfl rfl ?_; clear st; intro _ st) | (refine o_alloc st rfl ?_; clear st; intro _ _ _ st) | (refine o_loadS st rfl (by repeat (first | exact At.here | apply At.there)) rfl rfl ?_; clear st; intro _ st) | (refine o_load3 st rfl (by repeat (first | exact At.here | apply At.there)) rfl ?_; clear st; intro _ st) | (refine o_load2 st rfl (by repeat (first | exact At.here | apply At.there)) rfl ?_; clear st; intro _ st) | (refine o_load4 st rfl (by repeat (first | exact At.here | apply At.there)) rfl ?_; clear st; intro _ st) | (refine o_storeS st rfl rfl rfl (by repeat (first | exact Upd.here | apply Upd.there)) rfl (by dsimp only [List.set]) ?_; clear st; intro _ _ st) | (refine o_storeW st rfl rfl (by repeat (first | exact Upd.here | apply Upd.there)) rfl rfl rfl ?_; clear st; intro _ _ st) | (refine o_extract st rfl rfl rfl ?_; clear st; intro _ st) | (refine o_len st rfl rfl ?_; clear st; intro _ st) | (refine o_add64 st rfl rfl rfl (by omega) (by omega) ?_; clear st; intro _ st) | (refine o_notT st rfl rfl ?_; clear st; intro _ st) | (refine o_notF st rfl rfl ?_; clear st; intro _ st) | (refine o_fop rfl st rfl rfl (by first | assumption | exact Is_ofInt _ _ | exact Is_lit (by decide +kernel)) (by first | assumption | exact Is_ofInt _ _ | exact Is_lit (by decide +kernel)) rfl ?_; clear st; intro _ _ _ _ st) | (refine o_lss st rfl rfl rfl ?_ ?_ <;> clear st <;> intro _ _ st <;> (try (exfalso; omega)))))
            refine post2 st Try.results94 (rd_t st rfl) (rd_t st rfl) ?_
            exact ⟨_, rfl, ⟨0, rfl, Is_z⟩, st.ex0⟩
      · have hall2 : allT ss T (k + 1) = true := by rw [allT_succ, hall, hok]; rfl
        unfold okT at hok
        rw [Bool.and_eq_true] at hok
        obtain ⟨hok1, hok2⟩ := hok
        rw [hok1] at st
        rw [Bool.and_eq_true] at hok1
        have hg : giveS (crsS ss T k) = crsS ss T k := by unfold giveS; rw [hok1.2]; rfl
        have hrt : rootC (dotC (crsS ss T k) (crsS ss T k)) = trmC ss T k := rfl
        have hgc : giveC (trmC ss T k) = trmC ss T k := by unfold giveC; rw [hok2]; rfl
        unfold longOk longC at hlong
        simp only [hok1.1, cond_true, hg, hok1.2, hrt, hok2, hgc, Bool.true_and] at hlong
        (repeat' (first | (refine o_callFlB st rfl (hlong _) rfl ?_; clear st; intro y hy _ _ st) | (refine o_fop (ci := half32) (cj := trmC ss T k) rfl st rfl rfl (Is_lit (by decide +kernel)) hy rfl ?_; clear st; intro y1 _ _ hy1 st) | (refine o_fop (ci := sumT ss T k) rfl st rfl rfl hx hy1 rfl ?_; clear st; intro y2 _ _ hy2 st) | (refine c_seq ?_) | (refine c_region ?_) | (refine l_do ?_) | (refine l_doG st rfl rfl ?_) | (refine l_skipU st rfl rfl rfl ?_; clear st; intro _ st) | (refine l_skip st rfl rfl rfl rfl ?_; clear st; intro _ st) | (refine l_nil ?_) | (refine x_then ?_) | (refine x_thenR ?_) | (refine x_thenE ?_) | (refine x_blkN ?_) | (refine x_blkR ?_) | (refine x_blkE ?_) | (refine x_blkO rfl ?_) | (refine wp_ret ?_) | (refine wp_skip ?_) | (refine wp_block ?_) | (refine wp_exit ?_) | (refine c_condT st rfl ?_) | (refine c_condF st rfl ?_) | (refine o_move st rfl rfl ?_; clear st; intro _ st) | (refine o_assign st rfl rfl ?_; clear st; intro _ st) | (refine o_pickT st rfl rfl rfl ?_; clear st; intro _ st) | (refine o_pickF st rfl rfl rfl ?_; clear st; intro _ st) | (refine o_alloc st rfl ?_; clear st; intro _ _ _ st) | (refine o_loadS st rfl (by repeat (first | exact At.here | apply At.there)) rfl rfl ?_; clear st; intro _ st) | (refine o_load3 st rfl (by repeat (first | exact At.here | apply At.there)) rfl ?_; clear st; intro _ st) | (refine o_load2 st rfl (by repeat (first | exact At.here | apply At.there)) rfl ?_; clear st; intro _ st) | (refine o_load4 st rfl (by repeat (first | exact At.here | apply At.there)) rfl ?_; clear st; intro _ st) | (refine o_storeS st rfl rfl rfl (by repeat (first | exact Upd.here | apply Upd.there)) rfl (by dsimp only [List.set]) ?_; clear st; intro _ _ st) | (refine o_storeW st rfl rfl (by repeat (first | exact Upd.here | apply Upd.there)) rfl rfl rfl ?_; clear st; intro _ _ st) | (refine o_extract st rfl rfl rfl ?_; clear st; intro _ st) | (refine o_len st rfl rfl ?_; clear st; intro _ st) | (refine o_add64 st rfl rfl rfl (by omega) (by omega) ?_; clear st; intro _ st) | (refine o_notT st rfl rfl ?_; clear st; intro _ st) | (refine o_notF st rfl rfl ?_; clear st; intro _ st) | (refine o_fop rfl st rfl rfl (by first | assumption | exact Is_ofInt _ _ | exact Is_lit (by decide +kernel)) (by first | assumption | exact Is_ofInt _ _ | exact Is_lit (by decide +kernel)) rfl ?_; clear st; intro _ _ _ _ st) | (refine o_lss st rfl rfl rfl ?_ ?_ <;> clear st <;> intro _ _ st <;> (try (exfalso; omega)))))
        have e3 : ((3 * k : Nat) : Int) + 3 = ((3 * (k + 1) : Nat) : Int) := by omega
        rw [e3] at st
        exact ⟨KK - (k + 1), by omega, k + 1, y2, by omega, rfl, hy2, hall2, (st.fit (by repeat (first | exact trivial | refine And.intro rfl ?_))).subL (by repeat (first | exact List.Sublist.refl _ | apply List.Sublist.cons_cons | apply List.Sublist.cons | exact List.nil_sublist _))⟩
    · have hkK : k = KK := by omega
      subst hkK
      have hf := fun w => l02Number_ok x _ hx w
      (repeat' (first | (refine o_callFlB st rfl (hf _) rfl ?_; clear st; intro y hy _ _ st) | (refine c_seq ?_) | (refine c_region ?_) | (refine l_do ?_) | (refine l_doG st rfl rfl ?_) | (refine l_skipU st rfl rfl rfl ?_; clear st; intro _ st) | (refine l_skip st rfl rfl rfl rfl ?_; clear st; intro _ st) | (refine l_nil ?_) | (refine x_then ?_) | (refine x_thenR ?_) | (refine x_thenE ?_) | (refine x_blkN ?_) | (refine x_blkR ?_) | (refine x_blkE ?_) | (refine x_blkO rfl ?_) | (refine wp_ret ?_) | (refine wp_skip ?_) | (refine wp_block ?_) | (refine wp_exit ?_) | (refine c_condT st rfl ?_) | (refine c_condF st rfl ?_) | (refine o_move st rfl rfl ?_; clear st; intro _ st) | (refine o_assign st rfl rfl ?_; clear st; intro _ st) | (refine o_pickT st rfl rfl rfl ?_; clear st; intro _ st) | (refine o_pickF st rfl rfl rfl ?_; clear st; intro _ st) | (refine o_alloc st rfl ?_; clear st; intro _ _ _ st) | (refine o_loadS st rfl (by repeat (first | exact At.here | apply At.there)) rfl rfl ?_; clear st; intro _ st) | (refine o_load3 st rfl (by repeat (first | exact At.here | apply At.there)) rfl ?_; clear st; intro _ st) | (refine o_load2 st rfl (by repeat (first | exact At.here | apply At.there)) rfl ?_; clear st; intro _ st) | (refine o_load4 st rfl (by repeat (first | exact At.here | apply At.there)) rfl ?_; clear st; intro _ st) | (refine o_storeS st rfl rfl rfl (by repeat (first | exact Upd.here | apply Upd.there)) rfl (by dsimp only [List.set]) ?_; clear st; intro _ _ st) | (refine o_storeW st rfl rfl (by repeat (first | exact Upd.here | apply Upd.there)) rfl rfl rfl ?_; clear st; intro _ _ st) | (refine o_extract st rfl rfl rfl ?_; clear st; intro _ st) | (refine o_len st rfl rfl ?_; clear st; intro _ st) | (refine o_add64 st rfl rfl rfl (by omega) (by omega) ?_; clear st; intro _ st) | (refine o_notT st rfl rfl ?_; clear st; intro _ st) | (refine o_notF st rfl rfl ?_; clear st; intro _ st) | (refine o_fop rfl st rfl rfl (by first | assumption | exact Is_ofInt _ _ | exact Is_lit (by decide +kernel)) (by first | assumption | exact Is_ofInt _ _ | exact Is_lit (by decide +kernel)) rfl ?_; clear st; intro _ _ _ _ st) | (refine o_lss st rfl rfl rfl ?_ ?_ <;> clear st <;> intro _ _ st <;> (try (exfalso; omega)))))
      refine post2 st Try.results94 (rd_t st rfl) (rd_t st rfl) ?_
      exact ⟨_, rfl, ⟨y, rfl, hy⟩, st.ex0⟩
end Go.Proofs.Ytefnlalldgbcaaa
