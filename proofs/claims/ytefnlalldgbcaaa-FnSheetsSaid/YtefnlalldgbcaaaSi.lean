/-
  The plain law of sheets: spots at places, flipped sheets, parts of sheets.
-/
import Derived.Test.YtefnlalldgbcaaaSh
import Derived.Test.YtefnlalldgbcaaaPrw
namespace Go.Proofs.Ytefnlalldgbcaaa
open Go.RowKit

theorem headD_get0 (tt : List S3) : tt.headD z3 = tt.getD 0 z3 := by cases tt <;> rfl
/-- A sheet whose spots are near to numbers within 8. -/
structure SAp (ss : List S3) (M K : Nat) (X : Nat → Nat → Nat → Rat) (e : Rat) : Prop where
  len : ss.length = M * K
  ap : ∀ j i, j < K → i < M → ApS (ss.getD (j * M + i) z3) (X j i) e
  bd : ∀ j i, j < K → i < M → ∀ c, Ab (X j i c) 8
theorem SAp.mono {ss M K X e f} (h : SAp ss M K X e) (hf : e ≤ f) : SAp ss M K X f := ⟨h.len, fun j i hj hi => (h.ap j i hj hi).mono hf, h.bd⟩
theorem rowL_getD (ss : List S3) (M j i : Nat) (hi : i < M) : (rowL ss M j).getD i z3 = ss.getD (j * M + i) z3 := by
  unfold rowL
  rw [List.getD_eq_getElem?_getD, List.getD_eq_getElem?_getD, List.getElem?_take, if_pos hi, List.getElem?_drop]
theorem SAp.row {ss M K X e} (h : SAp ss M K X e) {j : Nat} (hj : j < K) : LAp (rowL ss M j) (X j) e ∧ LB (X j) (rowL ss M j).length ∧ (rowL ss M j).length = M := by
  have hl := rowL_length ss M K j h.len hj
  refine ⟨?_, ?_, hl⟩
  · intro i hi
    rw [hl] at hi
    rw [rowL_getD ss M j i hi]
    exact h.ap j i hj hi
  · intro i hi
    rw [hl] at hi
    exact h.bd j i hj hi
theorem natR {n k : Nat} (h : n ≤ k) : (n : Rat) ≤ (k : Rat) := Rat.natCast_le_natCast.2 h
theorem errD {n k : Nat} (h : n ≤ k) {e : Rat} : e + (n : Rat) * DD ≤ e + (k : Rat) * DD := by
  have h1 := Rat.mul_le_mul_of_nonneg_right (natR h) (show (0 : Rat) ≤ DD by decide +kernel)
  grind
/-- What a list is cut to. -/
theorem cut_ap {ss : List S3} {x : Nat → Nat → Rat} {e : Rat} {c : Option Nat} (h : LAp ss x e) (hB : LB x ss.length) (hc : Sha c) (h0 : 0 < ss.length) (h4 : ss.length ≤ 5) (he0 : 0 ≤ e) (he : e + 4 * DD ≤ 1 / 2) :
    ApS ((cutL c 1 ss).headD z3) (lerpN (cv .f32 c) (ss.length - 1) x 0) (e + 4 * DD) ∧ ∀ k, Ab (lerpN (cv .f32 c) (ss.length - 1) x 0 k) 8 := by
  have h3 : e + ((ss.length - 1 : Nat) : Rat) * DD ≤ e + 4 * DD := errD (k := 4) (by omega)
  have hn := LAp.nextN hc (ss.length - 1) h hB he0 (by grind)
  have hb := LB.nextN hc.ge hc.le (ss.length - 1) hB
  rw [headD_get0]
  refine ⟨(hn 0 ?_).mono h3, hb 0 (by omega)⟩
  show 0 < (cutN c (ss.length - 1) ss).length
  rw [cutN_length]
  omega
def atR (X : Nat → Nat → Nat → Rat) (M K : Nat) (s t : Rat) : Nat → Rat := lerpN t (K - 1) (fun j => lerpN s (M - 1) (X j) 0) 0
theorem at_ap {ss M K X e} {u v : Option Nat} (h : SAp ss M K X e) (hM : 2 ≤ M) (hM4 : M ≤ 5) (hK : 2 ≤ K) (hK4 : K ≤ 5) (he0 : 0 ≤ e) (he : e + 8 * DD ≤ 1 / 2) (hu : Sha u) (hv : Sha v) :
    ApS (atL ss M K u v) (atR X M K (cv .f32 u) (cv .f32 v)) (e + 8 * DD) ∧ ∀ k, Ab (atR X M K (cv .f32 u) (cv .f32 v) k) 8 := by
  have hd : (0 : Rat) ≤ DD := by decide +kernel
  have hl := rowsL_length ss M K u
  have key : ∀ j, j < K → ApS ((rowsL ss M K u).getD j z3) (lerpN (cv .f32 u) (M - 1) (X j) 0) (e + 4 * DD) ∧ ∀ k, Ab (lerpN (cv .f32 u) (M - 1) (X j) 0 k) 8 := by
    intro j hj
    obtain ⟨h1, h2, h3⟩ := h.row hj
    have := cut_ap h1 h2 hu (by omega) (by omega) he0 (by grind)
    rw [h3] at this
    have e1 : (rowsL ss M K u).getD j z3 = (cutL u 1 (rowL ss M j)).headD z3 := by
      unfold rowsL
      rw [List.getD_eq_getElem?_getD, List.getElem?_map, List.getElem?_range hj]
      rfl
    rw [e1]
    exact this
  have hL : LAp (rowsL ss M K u) (fun j => lerpN (cv .f32 u) (M - 1) (X j) 0) (e + 4 * DD) := fun j hj => (key j (by omega)).1
  have hB : LB (fun j => lerpN (cv .f32 u) (M - 1) (X j) 0) (rowsL ss M K u).length := fun j hj => (key j (by omega)).2
  have := cut_ap hL hB hv (by omega) (by omega) (by grind) (by grind)
  rw [hl] at this
  exact ⟨this.1.mono (by grind), this.2⟩

theorem mem_getD {ss : List S3} {s : S3} (h : s ∈ ss) : ∃ p, p < ss.length ∧ s = ss.getD p z3 := by
  obtain ⟨p, hp, rfl⟩ := List.getElem_of_mem h
  refine ⟨p, hp, ?_⟩
  rw [List.getD_eq_getElem?_getD, List.getElem?_eq_getElem hp]
  rfl
theorem SAp.mem {ss M K X e} (h : SAp ss M K X e) {p : Nat} (hp : p < ss.length) : ∃ j i, j < K ∧ i < M ∧ p = j * M + i := by
  have hl := h.len
  have hM : 0 < M := by
    rcases Nat.eq_zero_or_pos M with h0 | h0
    · subst h0; rw [Nat.zero_mul] at hl; omega
    · exact h0
  refine ⟨p / M, p % M, Nat.div_lt_of_lt_mul (by omega), Nat.mod_lt _ hM, ?_⟩
  rw [Nat.mul_comm]
  exact (Nat.div_add_mod p M).symm
theorem SAp.fin {ss M K X e} (h : SAp ss M K X e) : finL ss = true := by
  apply finL_of
  intro s hs
  obtain ⟨p, hp, rfl⟩ := mem_getD hs
  obtain ⟨j, i, hj, hi, rfl⟩ := h.mem hp
  exact (h.ap j i hj hi).finS
theorem SAp.valid {ss M K X e} (h : SAp ss M K X e) (hM : 2 ≤ M) (hM4 : M ≤ 5) (hK : 2 ≤ K) (hK4 : K ≤ 5) : validC M K ss = true := by
  unfold validC inB
  rw [h.fin, h.len]
  have hcM : M = 2 ∨ M = 3 ∨ M = 4 ∨ M = 5 := by omega
  have hcK : K = 2 ∨ K = 3 ∨ K = 4 ∨ K = 5 := by omega
  rcases hcM with rfl | rfl | rfl | rfl <;> rcases hcK with rfl | rfl | rfl | rfl <;> decide
theorem cv_zero : cv .f32 (some 0) = 0 := by decide +kernel
theorem cv_one : cv .f32 one32 = 1 := by decide +kernel
theorem Sha.share {c : Option Nat} (h : Sha c) : shareC c = true := by
  unfold shareC
  rw [fge_iff h.fin zero_ex.fin, fle_iff h.fin one_ex.fin, cv_zero, cv_one, decide_eq_true h.ge, decide_eq_true h.le]
  rfl
/-- The spot at a place: it is given, and near to the number. -/
theorem sheet_at {ss M K X e} {u v : Option Nat} (h : SAp ss M K X e) (hM : 2 ≤ M) (hM4 : M ≤ 5) (hK : 2 ≤ K) (hK4 : K ≤ 5) (he0 : 0 ≤ e) (he : e + 8 * DD ≤ 1 / 2) (hu : Sha u) (hv : Sha v) :
    sheetAtOk M K ss u v = true ∧ ApS (sheetAtC M K ss u v) (atR X M K (cv .f32 u) (cv .f32 v)) (e + 8 * DD) ∧ ∀ k, Ab (atR X M K (cv .f32 u) (cv .f32 v) k) 8 := by
  obtain ⟨ha, hb⟩ := at_ap h hM hM4 hK hK4 he0 he hu hv
  have hon : onC M K ss u v = true := by
    unfold onC
    rw [h.valid hM hM4 hK hK4, hu.share, hv.share]
    rfl
  have hfs := ha.finS
  refine ⟨?_, ?_, hb⟩
  · unfold sheetAtOk
    rw [hon]
    simp only [Bool.true_and]
    exact hfs
  · unfold sheetAtC
    rw [hon]
    simp only [cond_true]
    unfold giveS
    have hfs : finS (atL ss (M : Int).toNat (K : Int).toNat u v) = true := hfs
    rw [hfs]
    simp only [cond_true]
    exact ha

/-! ## flipped sheets -/
theorem SAp.flip {ss M K X e} (h : SAp ss M K X e) : SAp (flipL ss M K) K M (fun j i => X i j) e := by
  refine ⟨by rw [flipL_length, Nat.mul_comm], ?_, fun j i hj hi => h.bd i j hi hj⟩
  intro j i hj hi
  have hlt : j * K + i < M * K := by
    have := Nat.mul_le_mul_right K (show j + 1 ≤ M from hj)
    rw [Nat.add_mul] at this
    omega
  have e1 : (flipL ss M K).getD (j * K + i) z3 = ss.getD (i * M + j) z3 := by
    unfold flipL
    rw [List.getD_eq_getElem?_getD, List.getElem?_map, List.getElem?_range hlt]
    exact flipG_col ss M K j i hi
  rw [e1]
  exact h.ap i j hi hj
theorem flip_flip (ss : List S3) (M K : Nat) (hl : ss.length = M * K) (hM : 0 < M) (hK : 0 < K) : flipL (flipL ss M K) K M = ss := by
  refine List.ext_getElem? ?_
  intro p
  by_cases hp : p < M * K
  · obtain ⟨h1, h2⟩ := flipL_get (flipL ss M K) K M p (by rw [flipL_length, Nat.mul_comm]) (by rw [Nat.mul_comm]; exact hp) hM
    rw [h2]
    rw [flipL_length] at h1
    obtain ⟨h3, h4⟩ := flipL_get ss M K (p % M * K + p / M) hl h1 hK
    have hpk : p / M < K := Nat.div_lt_of_lt_mul hp
    have e1 : (p % M * K + p / M) % K = p / M := by rw [Nat.mul_comm, Nat.mul_add_mod, Nat.mod_eq_of_lt hpk]
    have e2 : (p % M * K + p / M) / K = p % M := by rw [Nat.mul_comm, Nat.mul_add_div hK, Nat.div_eq_of_lt hpk, Nat.add_zero]
    have e3 : (p % M * K + p / M) % K * M + (p % M * K + p / M) / K = p := by
      rw [e1, e2, Nat.mul_comm]
      exact Nat.div_add_mod p M
    have h5 := List.getElem?_eq_getElem (l := flipL ss M K) (i := p % M * K + p / M) (by rw [flipL_length]; exact h1)
    rw [← h5, h4, List.getElem?_eq_getElem (by omega)]
    simp only [e3]
  · rw [List.getElem?_eq_none (by rw [flipL_length, Nat.mul_comm]; omega), List.getElem?_eq_none (by omega)]
theorem atR_flip (X : Nat → Nat → Nat → Rat) (M K : Nat) (s t : Rat) (c : Nat) : atR (fun j i => X i j) K M t s c = atR X M K s t c := lerpN_comm s t (K - 1) 0 (M - 1) X c

/-! ## parts -/
theorem cutA_getD (ss : List S3) (M : Nat) (c : Option Nat) (i : Nat) (hi : i < M) : ∀ (K j : Nat), j < K → (cutA ss M c K).getD (j * M + i) z3 = (cutN c i (rowL ss M j)).headD z3
  | 0, j, h => by omega
  | K + 1, j, h => by
    rw [cutA_succ, List.getD_eq_getElem?_getD]
    by_cases hj : j < K
    · have hlt : j * M + i < K * M := by
        have := Nat.mul_le_mul_right M (show j + 1 ≤ K from hj)
        rw [Nat.add_mul] at this
        omega
      rw [List.getElem?_append_left (by rw [cutA_length]; exact hlt), ← List.getD_eq_getElem?_getD]
      exact cutA_getD ss M c i hi K j hj
    · have hjK : j = K := by omega
      subst hjK
      rw [List.getElem?_append_right (by rw [cutA_length]; omega), cutA_length, show j * M + i - j * M = i by omega]
      unfold firstR
      rw [List.getElem?_map, List.getElem?_range hi]
      rfl
theorem SAp.front {ss M K X e} {c : Option Nat} (h : SAp ss M K X e) (hM4 : M ≤ 5) (hc : Sha c) (he0 : 0 ≤ e) (he : e + 4 * DD ≤ 1 / 2) : SAp (cutA ss M c K) M K (fun j i => lerpN (cv .f32 c) i (X j) 0) (e + 4 * DD) := by
  refine ⟨by rw [cutA_length, Nat.mul_comm], ?_, ?_⟩
  · intro j i hj hi
    obtain ⟨h1, h2, h3⟩ := h.row hj
    rw [cutA_getD ss M c i hi K j hj, headD_get0]
    have hle : e + (i : Rat) * DD ≤ e + 4 * DD := errD (k := 4) (by omega)
    exact ((LAp.nextN hc i h1 h2 he0 (by grind)) 0 (by rw [cutN_length, h3]; omega)).mono hle
  · intro j i hj hi
    obtain ⟨h1, h2, h3⟩ := h.row hj
    exact (LB.nextN hc.ge hc.le i h2) 0 (by omega)
theorem getLastD_getD (tt : List S3) : tt.getLastD z3 = tt.getD (tt.length - 1) z3 := by
  rw [List.getLastD_eq_getLast?, List.getLast?_eq_getElem?, List.getD_eq_getElem?_getD]
theorem SAp.back {ss M K X e} {c : Option Nat} (h : SAp ss M K X e) (hM4 : M ≤ 5) (hc : Sha c) (he0 : 0 ≤ e) (he : e + 4 * DD ≤ 1 / 2) : SAp (cutB ss M c K) M K (fun j i => lerpN (cv .f32 c) (M - 1 - i) (X j) i) (e + 4 * DD) := by
  refine ⟨by rw [cutB_length, Nat.mul_comm], ?_, ?_⟩
  · intro j i hj hi
    obtain ⟨h1, h2, h3⟩ := h.row hj
    have hlt : j * M + i < K * M := by
      have := Nat.mul_le_mul_right M (show j + 1 ≤ K from hj)
      rw [Nat.add_mul] at this
      omega
    rw [cutB_flat, List.getD_eq_getElem?_getD, List.getElem?_map, List.getElem?_range hlt]
    show ApS (cutG ss M c (j * M + i)) _ _
    rw [cutG_at ss M c j i hi, getLastD_getD, cutN_length, h3, show M - (M - 1 - i) - 1 = i by omega]
    have hle : e + ((M - 1 - i : Nat) : Rat) * DD ≤ e + 4 * DD := errD (k := 4) (by omega)
    exact ((LAp.nextN hc (M - 1 - i) h1 h2 he0 (by grind)) i (by rw [cutN_length, h3]; omega)).mono hle
  · intro j i hj hi
    obtain ⟨h1, h2, h3⟩ := h.row hj
    exact (LB.nextN hc.ge hc.le (M - 1 - i) h2) i (by omega)
theorem atR_front (X : Nat → Nat → Nat → Rat) {M : Nat} (K : Nat) (u t v : Rat) (c : Nat) (hM : M ≤ 4) : atR (fun j i => lerpN t i (X j) 0) M K u v c = atR X M K (u * t) v c := by
  unfold atR
  have : (fun j => lerpN u (M - 1) (fun i => lerpN t i (X j) 0) 0) = fun j => lerpN (u * t) (M - 1) (X j) 0 := by
    funext j c
    exact lerpN_front u t (X j) c (by omega)
  rw [this]
theorem atR_back (X : Nat → Nat → Nat → Rat) {M : Nat} (K : Nat) (u t v : Rat) (c : Nat) (hM : M ≤ 4) : atR (fun j i => lerpN t (M - 1 - i) (X j) i) M K u v c = atR X M K (t + u * (1 - t)) v c := by
  unfold atR
  have : (fun j => lerpN u (M - 1) (fun i => lerpN t (M - 1 - i) (X j) i) 0) = fun j => lerpN (t + u * (1 - t)) (M - 1) (X j) 0 := by
    funext j c
    exact lerpN_back u t (X j) c (by omega)
  rw [this]
theorem atR_corner (X : Nat → Nat → Nat → Rat) (M K : Nat) (c : Nat) : atR X M K 0 1 c = X (K - 1) 0 c := by
  unfold atR
  rw [lerpN_one, Nat.zero_add, lerpN_zero]
end Go.Proofs.Ytefnlalldgbcaaa
