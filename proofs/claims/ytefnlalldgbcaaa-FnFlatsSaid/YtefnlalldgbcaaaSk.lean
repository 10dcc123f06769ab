/-
  The plain law of sheets: cuttings in numbers, what rounding costs.
-/
import Derived.Test.YtefnlalldgbcaaaCut
import Derived.Test.YtefnlalldgbcaaaPrw
import Derived.Test.YtefnlalldgbcaaaAp
import Derived.Test.YtefnlalldgbcaaaJ
namespace Go.Proofs.Ytefnlalldgbcaaa
open Go.RowKit

/-! ## cuttings in numbers -/
def lerp (t : Rat) (x : Nat → Nat → Rat) : Nat → Nat → Rat := fun i c => x i c * (1 - t) + x (i + 1) c * t
def lerpN (t : Rat) : Nat → (Nat → Nat → Rat) → Nat → Nat → Rat
  | 0, x => x
  | n + 1, x => lerpN t n (lerp t x)
/-! ## bounds -/
theorem lerp_ab {t : Rat} {p q : Rat} (h0 : 0 ≤ t) (h1 : t ≤ 1) (hp : Ab p 8) (hq : Ab q 8) : Ab (p * (1 - t) + q * t) 8 := by
  obtain ⟨x1, x2⟩ := hp
  obtain ⟨y1, y2⟩ := hq
  have h1 : 0 ≤ 1 - t := by grind
  have a1 := Rat.mul_le_mul_of_nonneg_right x1 h1
  have a2 := Rat.mul_le_mul_of_nonneg_right x2 h1
  have b1 := Rat.mul_le_mul_of_nonneg_right y1 h0
  have b2 := Rat.mul_le_mul_of_nonneg_right y2 h0
  constructor <;> grind
/-- The numbers of a list are within 8. -/
def LB (x : Nat → Nat → Rat) (n : Nat) : Prop := ∀ i, i < n → ∀ c, Ab (x i c) 8
theorem LB.next {x n} {t : Rat} (h : LB x n) (h0 : 0 ≤ t) (h1 : t ≤ 1) : LB (lerp t x) (n - 1) := fun i hi c => lerp_ab h0 h1 (h i (by omega) c) (h (i + 1) (by omega) c)
theorem LB.nextN {t : Rat} (h0 : 0 ≤ t) (h1 : t ≤ 1) : ∀ (k : Nat) {x : Nat → Nat → Rat} {n : Nat}, LB x n → LB (lerpN t k x) (n - k)
  | 0, _, _, h => h
  | k + 1, x, n, h => by
    have := LB.nextN h0 h1 k (h.next h0 h1)
    rw [show n - (k + 1) = n - 1 - k by omega]
    exact this

/-- A share: from 0 to 1. -/
structure Sha (c : Option Nat) : Prop where
  fin : Fin .f32 c
  ge : 0 ≤ cv .f32 c
  le : cv .f32 c ≤ 1
theorem one_ap : Ap .f32 one32 1 0 := chk_ap (by decide +kernel)
abbrev DD : Rat := 28 / 16777216
theorem mid_ap {x y c : Option Nat} {p q e : Rat} (hx : Ap .f32 x p e) (hy : Ap .f32 y q e) (hc : Sha c) (hp : Ab p 8) (hq : Ab q 8) (he0 : 0 ≤ e) (he : e ≤ 1 / 2) :
    Ap .f32 (fop .add .f32 (fop .mul .f32 x (fop .sub .f32 one32 c)) (fop .mul .f32 y c)) (p * (1 - cv .f32 c) + q * cv .f32 c) (e + DD) := by
  have g1 := p2m126
  have g2 := p2127
  have t0 := hc.ge
  have t1 := hc.le
  have hca : Ap .f32 c (cv .f32 c) 0 := ⟨hc.fin, by grind, by grind⟩
  generalize cv .f32 c = t at *
  have hd := Ap.sub (M := 1) one_ap hca ⟨by grind, by grind⟩ (by grind) (by grind)
  rw [uk32] at hd
  have hd := hd.mono (f := 1 / 16777216) (by grind)
  have et : e * t ≤ e * 1 := Rat.mul_le_mul_of_nonneg_left t1 he0
  have et0 : 0 ≤ e * t := Rat.mul_nonneg he0 t0
  have m1 := Ap.mul (M := 8 * (1 - t) + 1) (A := 8) (B := 1 - t) hx hd hp ⟨by grind, by grind⟩ (by
    have : (8 + e) * (1 - t + 1 / 16777216) = 8 - 8 * t + 8 / 16777216 + e - e * t + e / 16777216 := by grind
    rw [this]
    grind) (by grind) (by grind)
  rw [uk32] at m1
  have m1 := m1.mono (f := e - e * t + (8 * (1 - t) + 10) / 16777216) (by grind)
  have m2 := Ap.mul (M := 8 * t + 1) (A := 8) (B := t) hy hca hq ⟨by grind, by grind⟩ (by
    have : (8 + e) * (t + 0) = 8 * t + e * t := by grind
    rw [this]
    grind) (by grind) (by grind)
  rw [uk32] at m2
  have m2 := m2.mono (f := e * t + (8 * t + 1) / 16777216) (by grind)
  obtain ⟨b1, b2⟩ := lerp_ab t0 t1 hp hq
  have s1 := Ap.add (M := 9) m1 m2 ⟨by grind, by grind⟩ (by grind) (by grind)
  rw [uk32] at s1
  exact s1.mono (by grind)
theorem midS_ap {s s' : S3} {c : Option Nat} {v v' : Nat → Rat} {e : Rat} (h : ApS s v e) (h' : ApS s' v' e) (hc : Sha c) (hv : ∀ k, Ab (v k) 8) (hv' : ∀ k, Ab (v' k) 8) (he0 : 0 ≤ e) (he : e ≤ 1 / 2) :
    ApS (midS c s s') (fun k => v k * (1 - cv .f32 c) + v' k * cv .f32 c) (e + DD) := by
  intro k
  unfold midS
  rw [pj_add, pj_times, pj_times]
  exact mid_ap (h k) (h' k) hc (hv k) (hv' k) he0 he
/-- A list whose spots are near to numbers. -/
def LAp (ss : List S3) (x : Nat → Nat → Rat) (e : Rat) : Prop := ∀ i, i < ss.length → ApS (ss.getD i z3) (x i) e
theorem LAp.next {ss : List S3} {x : Nat → Nat → Rat} {e : Rat} {c : Option Nat} (h : LAp ss x e) (hB : LB x ss.length) (hc : Sha c) (he0 : 0 ≤ e) (he : e ≤ 1 / 2) : LAp (nextL c ss) (lerp (cv .f32 c) x) (e + DD) := by
  intro i hi
  rw [nextL_length] at hi
  have hg := nextL_get c ss i (by omega)
  have e1 : (nextL c ss).getD i z3 = midS c (ss.getD i z3) (ss.getD (i + 1) z3) := by
    rw [List.getD_eq_getElem?_getD, hg, List.getD_eq_getElem?_getD, List.getD_eq_getElem?_getD, List.getElem?_eq_getElem (by omega), List.getElem?_eq_getElem (by omega)]
    rfl
  rw [e1]
  exact midS_ap (h i (by omega)) (h (i + 1) (by omega)) hc (hB i (by omega)) (hB (i + 1) (by omega)) he0 he
theorem LAp.nextN {c : Option Nat} (hc : Sha c) : ∀ (n : Nat) {ss : List S3} {x : Nat → Nat → Rat} {e : Rat}, LAp ss x e → LB x ss.length → 0 ≤ e → e + n * DD ≤ 1 / 2 → LAp (cutN c n ss) (lerpN (cv .f32 c) n x) (e + n * DD)
  | 0, ss, x, e, h, _, _, _ => by
    have : e + ((0 : Nat) : Rat) * DD = e := by grind
    rw [this]
    exact h
  | n + 1, ss, x, e, h, hB, he0, he => by
    have hn : (0 : Rat) ≤ (n : Rat) := Rat.natCast_nonneg
    have e1 : e + ((n + 1 : Nat) : Rat) * DD = e + DD + (n : Rat) * DD := by
      rw [Rat.natCast_add]
      grind
    rw [e1] at he ⊢
    have hnd : (0 : Rat) ≤ (n : Rat) * DD := Rat.mul_nonneg hn (by decide +kernel)
    have hB' : LB (lerp (cv .f32 c) x) (nextL c ss).length := by
      rw [nextL_length]
      exact hB.next hc.ge hc.le
    exact LAp.nextN hc n (h.next hB hc he0 (by grind)) hB' (by grind) he
end Go.Proofs.Ytefnlalldgbcaaa

namespace Go.Proofs.Ytefnlalldgbcaaa
open Go.RowKit

theorem headD_get0 (tt : List S3) : tt.headD z3 = tt.getD 0 z3 := by cases tt <;> rfl
/-- A sheet whose spots are near to numbers within 8. -/
structure SAp (ss : List S3) (M K : Nat) (X : Nat → Nat → Nat → Rat) (e : Rat) : Prop where
  len : ss.length = M * K
  ap : ∀ j i, j < K → i < M → ApS (ss.getD (j * M + i) z3) (X j i) e
  bd : ∀ j i, j < K → i < M → ∀ c, Ab (X j i c) 8
theorem rowL_getD (ss : List S3) (M j i : Nat) (hi : i < M) : (rowL ss M j).getD i z3 = ss.getD (j * M + i) z3 := by
  unfold rowL
  rw [List.getD_eq_getElem?_getD, List.getD_eq_getElem?_getD, List.getElem?_take, if_pos hi, List.getElem?_drop]
theorem SAp.row {ss M K X e} (h : SAp ss M K X e) {j : Nat} (hj : j < K) : LAp (rowL ss M j) (X j) e ∧ LB (X j) (rowL ss M j).length ∧ (rowL ss M j).length = M := by
  have hl := rowL_length ss M K j h.len hj
  refine ⟨?_, ?_, hl⟩
  · intro i hi
    rw [hl] at hi
    rw [rowL_getD ss M j i hi]
    exact h.ap j i hj hi
  · intro i hi
    rw [hl] at hi
    exact h.bd j i hj hi
theorem natR {n k : Nat} (h : n ≤ k) : (n : Rat) ≤ (k : Rat) := Rat.natCast_le_natCast.2 h
theorem errD {n k : Nat} (h : n ≤ k) {e : Rat} : e + (n : Rat) * DD ≤ e + (k : Rat) * DD := by
  have h1 := Rat.mul_le_mul_of_nonneg_right (natR h) (show (0 : Rat) ≤ DD by decide +kernel)
  grind
/-- What a list is cut to. -/
theorem cut_ap {ss : List S3} {x : Nat → Nat → Rat} {e : Rat} {c : Option Nat} (h : LAp ss x e) (hB : LB x ss.length) (hc : Sha c) (h0 : 0 < ss.length) (h4 : ss.length ≤ 5) (he0 : 0 ≤ e) (he : e + 4 * DD ≤ 1 / 2) :
    ApS ((cutL c 1 ss).headD z3) (lerpN (cv .f32 c) (ss.length - 1) x 0) (e + 4 * DD) ∧ ∀ k, Ab (lerpN (cv .f32 c) (ss.length - 1) x 0 k) 8 := by
  have h3 : e + ((ss.length - 1 : Nat) : Rat) * DD ≤ e + 4 * DD := errD (k := 4) (by omega)
  have hn := LAp.nextN hc (ss.length - 1) h hB he0 (by grind)
  have hb := LB.nextN hc.ge hc.le (ss.length - 1) hB
  rw [headD_get0]
  refine ⟨(hn 0 ?_).mono h3, hb 0 (by omega)⟩
  show 0 < (cutN c (ss.length - 1) ss).length
  rw [cutN_length]
  omega
def atR (X : Nat → Nat → Nat → Rat) (M K : Nat) (s t : Rat) : Nat → Rat := lerpN t (K - 1) (fun j => lerpN s (M - 1) (X j) 0) 0
theorem at_ap {ss M K X e} {u v : Option Nat} (h : SAp ss M K X e) (hM : 2 ≤ M) (hM4 : M ≤ 5) (hK : 2 ≤ K) (hK4 : K ≤ 5) (he0 : 0 ≤ e) (he : e + 8 * DD ≤ 1 / 2) (hu : Sha u) (hv : Sha v) :
    ApS (atL ss M K u v) (atR X M K (cv .f32 u) (cv .f32 v)) (e + 8 * DD) ∧ ∀ k, Ab (atR X M K (cv .f32 u) (cv .f32 v) k) 8 := by
  have hd : (0 : Rat) ≤ DD := by decide +kernel
  have hl := rowsL_length ss M K u
  have key : ∀ j, j < K → ApS ((rowsL ss M K u).getD j z3) (lerpN (cv .f32 u) (M - 1) (X j) 0) (e + 4 * DD) ∧ ∀ k, Ab (lerpN (cv .f32 u) (M - 1) (X j) 0 k) 8 := by
    intro j hj
    obtain ⟨h1, h2, h3⟩ := h.row hj
    have := cut_ap h1 h2 hu (by omega) (by omega) he0 (by grind)
    rw [h3] at this
    have e1 : (rowsL ss M K u).getD j z3 = (cutL u 1 (rowL ss M j)).headD z3 := by
      unfold rowsL
      rw [List.getD_eq_getElem?_getD, List.getElem?_map, List.getElem?_range hj]
      rfl
    rw [e1]
    exact this
  have hL : LAp (rowsL ss M K u) (fun j => lerpN (cv .f32 u) (M - 1) (X j) 0) (e + 4 * DD) := fun j hj => (key j (by omega)).1
  have hB : LB (fun j => lerpN (cv .f32 u) (M - 1) (X j) 0) (rowsL ss M K u).length := fun j hj => (key j (by omega)).2
  have := cut_ap hL hB hv (by omega) (by omega) (by grind) (by grind)
  rw [hl] at this
  exact ⟨this.1.mono (by grind), this.2⟩

theorem mem_getD {ss : List S3} {s : S3} (h : s ∈ ss) : ∃ p, p < ss.length ∧ s = ss.getD p z3 := by
  obtain ⟨p, hp, rfl⟩ := List.getElem_of_mem h
  refine ⟨p, hp, ?_⟩
  rw [List.getD_eq_getElem?_getD, List.getElem?_eq_getElem hp]
  rfl
theorem SAp.mem {ss M K X e} (h : SAp ss M K X e) {p : Nat} (hp : p < ss.length) : ∃ j i, j < K ∧ i < M ∧ p = j * M + i := by
  have hl := h.len
  have hM : 0 < M := by
    rcases Nat.eq_zero_or_pos M with h0 | h0
    · subst h0; rw [Nat.zero_mul] at hl; omega
    · exact h0
  refine ⟨p / M, p % M, Nat.div_lt_of_lt_mul (by omega), Nat.mod_lt _ hM, ?_⟩
  rw [Nat.mul_comm]
  exact (Nat.div_add_mod p M).symm
theorem SAp.fin {ss M K X e} (h : SAp ss M K X e) : finL ss = true := by
  apply finL_of
  intro s hs
  obtain ⟨p, hp, rfl⟩ := mem_getD hs
  obtain ⟨j, i, hj, hi, rfl⟩ := h.mem hp
  exact (h.ap j i hj hi).finS
theorem SAp.valid {ss M K X e} (h : SAp ss M K X e) (hM : 2 ≤ M) (hM4 : M ≤ 5) (hK : 2 ≤ K) (hK4 : K ≤ 5) : validC M K ss = true := by
  unfold validC inB
  rw [h.fin, h.len]
  have hcM : M = 2 ∨ M = 3 ∨ M = 4 ∨ M = 5 := by omega
  have hcK : K = 2 ∨ K = 3 ∨ K = 4 ∨ K = 5 := by omega
  rcases hcM with rfl | rfl | rfl | rfl <;> rcases hcK with rfl | rfl | rfl | rfl <;> decide
theorem cv_zero : cv .f32 (some 0) = 0 := by decide +kernel
theorem cv_one : cv .f32 one32 = 1 := by decide +kernel
theorem Sha.share {c : Option Nat} (h : Sha c) : shareC c = true := by
  unfold shareC
  rw [fge_iff h.fin zero_ex.fin, fle_iff h.fin one_ex.fin, cv_zero, cv_one, decide_eq_true h.ge, decide_eq_true h.le]
  rfl
/-- The spot at a place: it is given, and near to the number. -/
theorem sheet_at {ss M K X e} {u v : Option Nat} (h : SAp ss M K X e) (hM : 2 ≤ M) (hM4 : M ≤ 5) (hK : 2 ≤ K) (hK4 : K ≤ 5) (he0 : 0 ≤ e) (he : e + 8 * DD ≤ 1 / 2) (hu : Sha u) (hv : Sha v) :
    sheetAtOk M K ss u v = true ∧ ApS (sheetAtC M K ss u v) (atR X M K (cv .f32 u) (cv .f32 v)) (e + 8 * DD) ∧ ∀ k, Ab (atR X M K (cv .f32 u) (cv .f32 v) k) 8 := by
  obtain ⟨ha, hb⟩ := at_ap h hM hM4 hK hK4 he0 he hu hv
  have hon : onC M K ss u v = true := by
    unfold onC
    rw [h.valid hM hM4 hK hK4, hu.share, hv.share]
    rfl
  have hfs := ha.finS
  refine ⟨?_, ?_, hb⟩
  · unfold sheetAtOk
    rw [hon]
    simp only [Bool.true_and]
    exact hfs
  · unfold sheetAtC
    rw [hon]
    simp only [cond_true]
    unfold giveS
    have hfs : finS (atL ss (M : Int).toNat (K : Int).toNat u v) = true := hfs
    rw [hfs]
    simp only [cond_true]
    exact ha

/-! ## flipped sheets -/
/-! ## parts -/
end Go.Proofs.Ytefnlalldgbcaaa

namespace Go.Proofs.Ytefnlalldgbcaaa
open Go.RowKit

theorem dv_num (s : Bool) (m : Nat) (p : Int) : dv (.number s m p) = sg s * ((m : Rat) * p2 p) := rfl
theorem mp_nonneg (m : Nat) (p : Int) : 0 ≤ (m : Rat) * p2 p := Rat.mul_nonneg Rat.natCast_nonneg (Rat.le_of_lt (p2_pos p))
theorem dv_neg {m : Nat} {p : Int} (h : 0 ≤ dv (.number true m p)) : m = 0 := by
  rw [dv_num] at h
  apply Classical.byContradiction
  intro hm
  have h1 : (1 : Rat) ≤ (m : Rat) := by
    have : ((1 : Nat) : Rat) ≤ (m : Rat) := Rat.natCast_le_natCast.2 (by omega)
    exact this
  have h2 := p2_pos p
  have h3 := Rat.mul_le_mul_of_nonneg_right h1 (Rat.le_of_lt h2)
  simp only [sg, if_true] at h
  grind
theorem low_of_le {m : Nat} {p e : Int} (hm : m ≠ 0) (h : (m : Rat) * p2 p ≤ p2 e) : p + (m.log2 : Int) ≤ e := by
  have hlow : 2 ^ m.log2 ≤ m := Nat.log2_self_le hm
  have hpl : p2 (p + m.log2) ≤ (m : Rat) * p2 p := by
    rw [p2_add, p2_nat, Rat.mul_comm]
    exact Rat.mul_le_mul_of_nonneg_right (by exact_mod_cast hlow) (Rat.le_of_lt (p2_pos p))
  apply Classical.byContradiction
  intro hn
  have h1 : p2 (e + 1) ≤ p2 (p + m.log2) := p2_mono (by omega)
  have h2 : p2 (e + 1) = p2 e * p2 1 := p2_add e 1
  have h3 : p2 1 = 2 := by decide +kernel
  have h4 := p2_pos e
  rw [h2, h3] at h1
  grind
theorem le_of_low {m : Nat} {p e : Int} (h : m = 0 ∨ p + (m.log2 : Int) ≤ e) : (m : Rat) * p2 p ≤ p2 (e + 1) := by
  rcases h with rfl | h
  · have := p2_pos (e + 1)
    simp
    grind
  · have hhigh : m < 2 ^ (m.log2 + 1) := Nat.lt_log2_self
    have h1 : (m : Rat) ≤ ((2 ^ (m.log2 + 1) : Nat) : Rat) := Rat.natCast_le_natCast.2 (by omega)
    have h2 := Rat.mul_le_mul_of_nonneg_right h1 (Rat.le_of_lt (p2_pos p))
    rw [← p2_nat, ← p2_add] at h2
    exact Rat.le_trans h2 (p2_mono (by omega))
theorem write_nonneg {k : FloatKind} {s : Bool} {m : Nat} {p : Int} (h : 0 ≤ dv (.number s m p)) (hX : (m : Rat) * p2 p < p2 127) : 0 ≤ rv k (k.format.write (.number s m p)) := by
  by_cases hm : m = 0
  · subst hm
    rw [(write_zero k s p).2]
    exact Rat.le_refl
  · cases s with
    | true => exact absurd (dv_neg h) hm
    | false =>
      obtain ⟨last, kept, _, _, _, _, _, _, _, _, hv⟩ := write_shape k false m p hm hX
      rw [hv]
      simp only [sg, Bool.false_eq_true, if_false, Rat.one_mul]
      exact mp_nonneg kept last
/-- A root in numbers: not less than 0; bounded. -/
theorem root_dv {digits : Nat} {s : Bool} {m : Nat} {i e : Int} (h0 : 0 ≤ dv (.number s m i)) (h1 : dv (.number s m i) ≤ p2 (2 * e)) :
    ∃ s' m' i', Ieee.Datum.root digits (.number s m i) = some (.number s' m' i') ∧ 0 ≤ dv (.number s' m' i') ∧ (m' : Rat) * p2 i' ≤ p2 (e + 1) := by
  by_cases hm : m = 0
  · subst hm
    refine ⟨s, 0, i, by simp [Ieee.Datum.root], ?_, le_of_low (.inl rfl)⟩
    rw [dv_num]
    simp
  · cases s with
    | true => exact absurd (dv_neg h0) hm
    | false =>
      have hd1 : (m : Rat) * p2 i ≤ p2 (2 * e) := by
        rw [dv_num] at h1
        simpa [sg] using h1
      have hlow : DLow (.number false m i) (2 * e) := .inr (low_of_le hm hd1)
      obtain ⟨d', hr⟩ : ∃ d', Ieee.Datum.root digits (.number false m i) = some d' := by
        unfold Ieee.Datum.root
        simp [hm]
      have hsh : ∃ m' i', d' = .number false m' i' := by
        have hr' := hr
        unfold Ieee.Datum.root at hr'
        simp only [hm, if_false, Bool.false_eq_true] at hr'
        cases hr'
        exact ⟨_, _, rfl⟩
      obtain ⟨m', i', rfl⟩ := hsh
      refine ⟨false, m', i', hr, ?_, ?_⟩
      · rw [dv_num]
        simp only [sg, Bool.false_eq_true, if_false, Rat.one_mul]
        exact mp_nonneg m' i'
      · rcases root_half hlow hr with ⟨s2, i2, he⟩ | h
        · cases he
          exact le_of_low (.inl rfl)
        · exact le_of_low h
theorem rv_write_bound {k : FloatKind} {s : Bool} {m : Nat} {p e : Int} (h : (m : Rat) * p2 p ≤ p2 e) (he : -126 ≤ e) (he1 : e < 126) : Fin k (some (k.format.write (.number s m p))) ∧ Ab (rv k (k.format.write (.number s m p))) (p2 (e + 1)) := by
  have hlt : p2 e < p2 127 := by
    have h1 : p2 (e + 1) ≤ p2 127 := p2_mono (by omega)
    have h2 : p2 (e + 1) = p2 e * p2 1 := p2_add e 1
    have h3 : p2 1 = 2 := by decide +kernel
    have h4 := p2_pos e
    rw [h2, h3] at h1
    grind
  obtain ⟨h1, h2⟩ := write_near k s m p (p2 e) h (p2_mono he) hlt
  refine ⟨h1, ?_⟩
  have hu : uk k ≤ 1 := by
    have e0 : p2 0 = 1 := by decide +kernel
    have : uk k ≤ p2 0 := p2_mono (by cases k <;> decide)
    rw [e0] at this
    exact this
  have hm := Rat.mul_le_mul_of_nonneg_left hu (Rat.le_of_lt (p2_pos e))
  rw [Rat.mul_one] at hm
  have h5 : p2 (e + 1) = p2 e * p2 1 := p2_add e 1
  have h6 : p2 1 = 2 := by decide +kernel
  rw [h6] at h5
  have h7 := mp_nonneg m p
  obtain ⟨n1, n2⟩ := h2
  rw [dv_num] at n1 n2
  cases s <;> simp only [sg, Bool.false_eq_true, if_false, if_true] at n1 n2 <;> constructor <;> grind
/-- A float's root: finite, not less than 0, bounded. -/
theorem root_fin {c : Option Nat} (hf : Fin .f32 c) (h0 : 0 ≤ cv .f32 c) (h1 : cv .f32 c ≤ p2 40) : Fin .f32 (rootC c) ∧ 0 ≤ cv .f32 (rootC c) ∧ cv .f32 (rootC c) ≤ p2 23 := by
  cases c with
  | none => exact hf.elim
  | some b =>
    have h0 : 0 ≤ rv .f32 b := h0
    have h1 : rv .f32 b ≤ p2 40 := h1
    have hb : Ab (rv .f32 b) (p2 126) := ⟨Rat.le_trans h1 (p2_mono (by decide)), by have := p2_pos 126; grind⟩
    obtain ⟨f1, v1⟩ := widen_val hf hb
    unfold rootC
    cases hw : fcv .f32 .f64 (some b) with
    | none => rw [hw] at f1; exact f1.elim
    | some y =>
      rw [hw] at f1 v1
      have v1 : rv .f64 y = rv .f32 b := v1
      obtain ⟨s, m, p, hr⟩ := fin_read f1
      have hd : rv .f64 y = dv (.number s m p) := by unfold rv; rw [hr]
      obtain ⟨s', m', p', hroot, hd0, hd1⟩ := root_dv (digits := FloatKind.f64.format.fractionBits + 2) (e := 20) (by rw [← hd, v1]; exact h0) (by rw [← hd, v1]; exact h1)
      have hs : sqrtC (some y) = some (FloatKind.f64.format.write (.number s' m' p')) := by
        show FloatKind.f64.format.sqrt y = _
        unfold Ieee.Format.sqrt
        rw [hr, hroot]
        rfl
      rw [hs]
      have hlt : p2 (20 + 1) < p2 127 := by decide +kernel
      have hn := write_nonneg (k := .f64) hd0 (rlt_of_le_of_lt hd1 hlt)
      obtain ⟨f2, b2⟩ := rv_write_bound (k := .f64) (s := s') hd1 (by decide) (by decide)
      generalize FloatKind.f64.format.write (.number s' m' p') = z at hn f2 b2 ⊢
      obtain ⟨s2, m2, p3, hr2⟩ := fin_read f2
      have hd2 : rv .f64 z = dv (.number s2 m2 p3) := by unfold rv; rw [hr2]
      have hX2 : (m2 : Rat) * p2 p3 ≤ p2 (20 + 1 + 1) := by
        rw [hd2, dv_num] at b2
        exact mag_of_ab b2
      obtain ⟨f3, b3⟩ := rv_write_bound (k := .f32) (s := s2) hX2 (by decide) (by decide)
      have hlt2 : p2 (20 + 1 + 1) < p2 127 := by decide +kernel
      have hn3 := write_nonneg (k := .f32) (s := s2) (m := m2) (p := p3) (by rw [← hd2]; exact hn) (rlt_of_le_of_lt hX2 hlt2)
      have he : fcv .f64 .f32 (some z) = some (FloatKind.f32.format.write (.number s2 m2 p3)) := by
        show floatToFloatBits .f64 z .f32 = _
        have hrz : FloatKind.f64.decode z = .number s2 m2 p3 := hr2
        unfold floatToFloatBits
        rw [if_neg (by decide), hrz]
        dsimp only
        obtain ⟨m4, k4, hr4, _⟩ := read_fin FloatKind.f32.format _ f3
        have hni : (FloatKind.f32.decode (FloatKind.f32.encode (.number s2 m2 p3))).isInfinity = false := by
          have : FloatKind.f32.decode (FloatKind.f32.encode (.number s2 m2 p3)) = _ := hr4
          rw [this]
          rfl
        rw [hni]
        rfl
      rw [he]
      exact ⟨f3, hn3, b3.le⟩
end Go.Proofs.Ytefnlalldgbcaaa
