/-
  The plain law of flat sheets: numbers that are exactly nothing; affine rows; flat sheets, their places and slopes.
-/
import Derived.Test.YtefnlalldgbcaaaSn
import Derived.Test.YtefnlalldgbcaaaQr
import Derived.Test.YtefnlalldgbcaaaNormal
namespace Go.Proofs.Ytefnlalldgbcaaa
open Go.RowKit

/-! ## nothing, exactly -/
structure Zr (c : Option Nat) : Prop where
  fin : Fin .f32 c
  val : cv .f32 c = 0
theorem Zr.ap {c : Option Nat} (h : Zr c) : Ap .f32 c 0 0 := ⟨h.fin, by rw [h.val]; constructor <;> grind⟩
theorem write_zr {s : Bool} {m : Nat} {p : Int} (h : dv (.number s m p) = 0) : Zr (some (FloatKind.f32.format.write (.number s m p))) := by
  have hm : m = 0 := by
    apply Classical.byContradiction
    intro hm
    have h1 := Rat.mul_pos (natPos hm) (p2_pos p)
    have h2 : sg s * ((m : Rat) * p2 p) = 0 := h
    cases s <;> simp only [sg, Bool.false_eq_true, if_true, if_false] at h2 <;> grind
  subst hm
  exact ⟨(write_zero .f32 s p).1, (write_zero .f32 s p).2⟩
theorem fin_ex {c : Option Nat} (h : Fin .f32 c) : ∃ b s m p, c = some b ∧ FloatKind.f32.format.read b = .number s m p ∧ cv .f32 c = dv (.number s m p) := by
  cases c with
  | none => exact h.elim
  | some b =>
    obtain ⟨s, m, p, hr⟩ := fin_read h
    exact ⟨b, s, m, p, rfl, hr, by show rv .f32 b = _; unfold rv; rw [hr]⟩
theorem zr_mul {c d : Option Nat} (hc : Fin .f32 c) (hd : Fin .f32 d) (h : cv .f32 c = 0 ∨ cv .f32 d = 0) : Zr (fop .mul .f32 c d) := by
  obtain ⟨a, s, m, p, rfl, hr, va⟩ := fin_ex hc
  obtain ⟨b, t, n, q, rfl, hs, vb⟩ := fin_ex hd
  have e : fop .mul .f32 (some a) (some b) = (Ieee.Datum.product (.number s m p) (.number t n q)).map FloatKind.f32.format.write := by
    show (Ieee.Datum.product (FloatKind.f32.format.read a) (FloatKind.f32.format.read b)).map _ = _
    rw [hr, hs]
  rw [e]
  cases hdd : Ieee.Datum.product (.number s m p) (.number t n q) with
  | none => simp [Ieee.Datum.product] at hdd
  | some d =>
    obtain ⟨u, r, i, rfl, hv⟩ := prod_val hdd
    refine write_zr ?_
    rw [hv, ← va, ← vb]
    rcases h with h | h <;> rw [h] <;> simp
theorem zr_add {c d : Option Nat} (hc : Zr c) (hd : Zr d) : Zr (fop .add .f32 c d) := by
  obtain ⟨a, s, m, p, rfl, hr, va⟩ := fin_ex hc.fin
  obtain ⟨b, t, n, q, rfl, hs, vb⟩ := fin_ex hd.fin
  have e : fop .add .f32 (some a) (some b) = (Ieee.Datum.sum (.number s m p) (.number t n q)).map FloatKind.f32.format.write := by
    show (Ieee.Datum.sum (FloatKind.f32.format.read a) (FloatKind.f32.format.read b)).map _ = _
    rw [hr, hs]
  rw [e]
  cases hdd : Ieee.Datum.sum (.number s m p) (.number t n q) with
  | none => simp [Ieee.Datum.sum] at hdd
  | some d =>
    obtain ⟨u, r, i, rfl, hv⟩ := sum_val hdd
    refine write_zr ?_
    rw [hv, ← va, ← vb, hc.val, hd.val]
    grind
theorem zr_sub {c d : Option Nat} (hc : Zr c) (hd : Zr d) : Zr (fop .sub .f32 c d) := by
  obtain ⟨a, s, m, p, rfl, hr, va⟩ := fin_ex hc.fin
  obtain ⟨b, t, n, q, rfl, hs, vb⟩ := fin_ex hd.fin
  have e : fop .sub .f32 (some a) (some b) = (Ieee.Datum.sum (.number s m p) (.number (!t) n q)).map FloatKind.f32.format.write := by
    show (Ieee.Datum.sum (FloatKind.f32.format.read a) (FloatKind.f32.format.read b).opposite).map _ = _
    rw [hr, hs]
    rfl
  rw [e]
  cases hdd : Ieee.Datum.sum (.number s m p) (.number (!t) n q) with
  | none => simp [Ieee.Datum.sum] at hdd
  | some d =>
    obtain ⟨u, r, i, rfl, hv⟩ := sum_val hdd
    refine write_zr ?_
    have ho := dv_opp (.number t n q)
    simp only [Ieee.Datum.opposite] at ho
    rw [hv, ho, ← va, ← vb, hc.val, hd.val]
    grind
theorem zero_zr : Zr (some 0) := ⟨zero_ex.fin, cv_zero⟩
/-- All third parts are nothing. -/
def Pz (ss : List S3) : Prop := ∀ p, Zr (pj 2 (ss.getD p z3))
theorem Pz.of {ss : List S3} (h : ∀ p, p < ss.length → Zr (pj 2 (ss.getD p z3))) : Pz ss := by
  intro p
  by_cases hp : p < ss.length
  · exact h p hp
  · rw [List.getD_eq_getElem?_getD, List.getElem?_eq_none (by omega)]
    exact zero_zr
theorem one_less {c : Option Nat} (h : Sha c) : Fin .f32 (fop .sub .f32 one32 c) := by
  have hca : Ap .f32 c (cv .f32 c) 0 := ⟨h.fin, by constructor <;> grind⟩
  have t0 := h.ge
  have t1 := h.le
  have g1 := p2m126
  have g2 := p2127
  exact (Ap.sub (M := 1) one_ap hca ⟨by grind, by grind⟩ (by grind) (by grind)).fin
theorem Pz.next {ss : List S3} {c : Option Nat} (h : Pz ss) (hc : Sha c) : Pz (nextL c ss) := by
  refine Pz.of fun i hi => ?_
  rw [nextL_length] at hi
  have hg := nextL_get c ss i (by omega)
  have e1 : (nextL c ss).getD i z3 = midS c (ss.getD i z3) (ss.getD (i + 1) z3) := by
    rw [List.getD_eq_getElem?_getD, hg, List.getD_eq_getElem?_getD, List.getD_eq_getElem?_getD, List.getElem?_eq_getElem (by omega), List.getElem?_eq_getElem (by omega)]
    rfl
  rw [e1]
  unfold midS
  rw [pj_add, pj_times, pj_times]
  exact zr_add (zr_mul (h i).fin (one_less hc) (.inl (h i).val)) (zr_mul (h (i + 1)).fin hc.fin (.inl (h (i + 1)).val))
theorem Pz.nextN {c : Option Nat} (hc : Sha c) : ∀ (n : Nat) {ss : List S3}, Pz ss → Pz (cutN c n ss)
  | 0, _, h => h
  | n + 1, _, h => Pz.nextN hc n (h.next hc)
theorem Pz.row {ss : List S3} (h : Pz ss) (M j : Nat) : Pz (rowL ss M j) := by
  intro i
  by_cases hi : i < M
  · rw [rowL_getD ss M j i hi]
    exact h _
  · have : (rowL ss M j).length ≤ M := by
      unfold rowL
      rw [List.length_take]
      omega
    rw [List.getD_eq_getElem?_getD, List.getElem?_eq_none (by omega)]
    exact zero_zr
theorem Pz.col {ss : List S3} (h : Pz ss) (M K i : Nat) : Pz (colL ss M K i) := by
  refine Pz.of fun p hp => ?_
  unfold colL at hp ⊢
  rw [List.length_map, List.length_range] at hp
  rw [List.getD_eq_getElem?_getD, List.getElem?_map, List.getElem?_range hp]
  exact h _
theorem Pz.head {ss : List S3} (h : Pz ss) : Zr (pj 2 (ss.headD z3)) := by
  rw [headD_get0]
  exact h 0
theorem Pz.rows {ss : List S3} (h : Pz ss) (M K : Nat) {u : Option Nat} (hu : Sha u) : Pz (rowsL ss M K u) := by
  refine Pz.of fun p hp => ?_
  rw [rowsL_length] at hp
  unfold rowsL
  rw [List.getD_eq_getElem?_getD, List.getElem?_map, List.getElem?_range hp]
  exact (Pz.nextN hu _ (h.row M p)).head
theorem Pz.cols {ss : List S3} (h : Pz ss) (M K : Nat) {v : Option Nat} (hv : Sha v) : Pz (colsL ss M K v) := by
  refine Pz.of fun p hp => ?_
  unfold colsL at hp ⊢
  rw [List.length_map, List.length_range] at hp
  rw [List.getD_eq_getElem?_getD, List.getElem?_map, List.getElem?_range hp]
  exact (Pz.nextN hv _ (h.col M K p)).head
theorem Pz.at_ {ss : List S3} (h : Pz ss) (M K : Nat) {u v : Option Nat} (hu : Sha u) (hv : Sha v) : Zr (pj 2 (atL ss M K u v)) := (Pz.nextN hv _ (h.rows M K hu)).head

/-! ## affine rows -/
theorem lerpN_aff (t : Rat) (c : Nat) : ∀ (n : Nat) (a b : Rat) (x : Nat → Nat → Rat), (∀ i, x i c = a + b * (i : Rat)) → ∀ i, lerpN t n x i c = a + b * ((i : Rat) + (n : Rat) * t)
  | 0, a, b, x, h, i => by
    show x i c = _
    rw [h]
    have : ((0 : Nat) : Rat) = 0 := rfl
    rw [this]
    grind
  | n + 1, a, b, x, h, i => by
    have := lerpN_aff t c n (a + b * t) b (lerp t x) (fun i => by
      unfold lerp
      rw [h, h, Rat.natCast_add]
      have : ((1 : Nat) : Rat) = 1 := rfl
      rw [this]
      grind) i
    show lerpN t n (lerp t x) i c = _
    rw [this, Rat.natCast_add]
    have : ((1 : Nat) : Rat) = 1 := rfl
    rw [this]
    grind
/-- What a flat sheet's spots are. -/
def FX (W L : Rat) (M K : Nat) : Nat → Nat → Nat → Rat := fun j i c => match c with
  | 0 => W * ((i : Rat) / ((M - 1 : Nat) : Rat))
  | 1 => L * ((j : Rat) / ((K - 1 : Nat) : Rat))
  | _ => 0
def FV (W L s t : Rat) : Nat → Rat := fun c => match c with
  | 0 => W * s
  | 1 => L * t
  | _ => 0
theorem div_mul {a b c : Rat} : a * (c / b) = a / b * c := by
  rw [Rat.div_def, Rat.div_def]
  grind
theorem nz {M : Nat} (h : 2 ≤ M) : ((M - 1 : Nat) : Rat) ≠ 0 := by
  have := natPos (n := M - 1) (by omega)
  grind
theorem row_flat {W L : Rat} {M K : Nat} (s : Rat) (j n : Nat) (i : Nat) :
    lerpN s n (FX W L M K j) i 0 = W / ((M - 1 : Nat) : Rat) * ((i : Rat) + (n : Rat) * s) ∧ lerpN s n (FX W L M K j) i 1 = L * ((j : Rat) / ((K - 1 : Nat) : Rat)) ∧ ∀ c, lerpN s n (FX W L M K j) i (c + 2) = 0 := by
  have h0 := lerpN_aff s 0 n 0 (W / ((M - 1 : Nat) : Rat)) (FX W L M K j) (fun i => by
    show W * _ = _
    rw [div_mul]
    grind) i
  have h1 := lerpN_aff s 1 n (L * ((j : Rat) / ((K - 1 : Nat) : Rat))) 0 (FX W L M K j) (fun i => by
    show L * _ = _
    grind) i
  refine ⟨by rw [h0]; grind, by rw [h1]; grind, fun c => ?_⟩
  have h2 := lerpN_aff s (c + 2) n 0 0 (FX W L M K j) (fun i => by
    show (0 : Rat) = _
    grind) i
  rw [h2]
  grind
theorem at_flat {W L : Rat} {M K : Nat} (hM : 2 ≤ M) (hK : 2 ≤ K) (s t : Rat) : atR (FX W L M K) M K s t = FV W L s t := by
  funext c
  unfold atR
  have key : ∀ j, lerpN s (M - 1) (FX W L M K j) 0 0 = W * s := by
    intro j
    rw [(row_flat s j (M - 1) 0).1]
    have h0 := nz hM
    have z : ((0 : Nat) : Rat) = 0 := rfl
    rw [z, Rat.div_def]
    have := Rat.mul_inv_cancel _ h0
    grind
  match c with
  | 0 =>
    have := lerpN_aff t 0 (K - 1) (W * s) 0 (fun j => lerpN s (M - 1) (FX W L M K j) 0) (fun j => by show lerpN s (M - 1) (FX W L M K j) 0 0 = _; rw [key]; grind) 0
    rw [this]
    show _ = W * s
    grind
  | 1 =>
    have := lerpN_aff t 1 (K - 1) 0 (L / ((K - 1 : Nat) : Rat)) (fun j => lerpN s (M - 1) (FX W L M K j) 0) (fun j => by
      show lerpN s (M - 1) (FX W L M K j) 0 1 = _
      rw [(row_flat s j (M - 1) 0).2.1, div_mul]
      grind) 0
    rw [this]
    show _ = L * t
    have h0 := nz hK
    have z : ((0 : Nat) : Rat) = 0 := rfl
    rw [z, Rat.div_def]
    have := Rat.mul_inv_cancel _ h0
    grind
  | c + 2 =>
    have := lerpN_aff t (c + 2) (K - 1) 0 0 (fun j => lerpN s (M - 1) (FX W L M K j) 0) (fun j => by
      show lerpN s (M - 1) (FX W L M K j) 0 (c + 2) = _
      rw [(row_flat s j (M - 1) 0).2.2 c]
      grind) 0
    rw [this]
    show _ = (0 : Rat)
    grind

/-! ## the sheet -/
def wC (n : Int) : Option Nat := fop .quo .f32 (some (floatOfInt .f32 n)) two32
theorem wC_all : (List.range 17).all (fun n => chkE (wC (n : Int)) (n : Int) (-1)) = true := by decide +kernel
theorem wC_ex {n : Nat} (h : n ≤ 16) : Ex' .f32 (wC n) n (-1) := chkE_ex (List.all_eq_true.1 wC_all n (List.mem_range.2 (by omega)))
abbrev E0 : Rat := 16 / 16777216
def half (n : Nat) : Rat := (n : Rat) / 2
theorem p2m1 : p2 (-1) = 1 / 2 := by decide +kernel
theorem wC_cv {n : Nat} (h : n ≤ 16) : cv .f32 (wC n) = half n := by
  rw [(wC_ex h).val, p2m1, Rat.intCast_natCast]
  unfold half
  grind
def tabV (n m i : Nat) : Rat := half n * ((i : Rat) / ((m - 1 : Nat) : Rat))
theorem flat_tab : (List.range 17).all (fun n => (List.range 4).all fun m => (List.range (m + 2)).all fun i => chk (fop .mul .f32 (wC (n : Int)) (fop .quo .f32 (some (floatOfInt .f32 (i : Int))) (some (floatOfInt .f32 (((m + 2 : Nat) : Int) - 1))))) (tabV n (m + 2) i) E0 && (decide (tabV n (m + 2) i ≤ 8) && decide (0 ≤ tabV n (m + 2) i))) = true := by decide +kernel
theorem flat_elt {n M i : Nat} (hn : n ≤ 16) (h2 : 2 ≤ M) (h5 : M ≤ 5) (hi : i < M) : Ap .f32 (fop .mul .f32 (wC (n : Int)) (fop .quo .f32 (some (floatOfInt .f32 (i : Int))) (some (floatOfInt .f32 ((M : Int) - 1))))) (tabV n M i) E0 ∧ Ab (tabV n M i) 8 := by
  obtain ⟨m, rfl⟩ : ∃ m, M = m + 2 := ⟨M - 2, by omega⟩
  have h := List.all_eq_true.1 (List.all_eq_true.1 (List.all_eq_true.1 flat_tab n (List.mem_range.2 (by omega))) m (List.mem_range.2 (by omega))) i (List.mem_range.2 hi)
  simp only [Bool.and_eq_true, decide_eq_true_eq] at h
  exact ⟨chk_ap h.1, h.2.1, by have := h.2.2; grind⟩
theorem flat_getD (M K : Nat) (wc lc : Option Nat) {i j : Nat} (hi : i < M) (hj : j < K) : (flatC M K wc lc (M * K)).getD (j * M + i) z3 = flatS M K wc lc i j := by
  have hlt : j * M + i < M * K := by
    have := Nat.mul_le_mul_right M (show j + 1 ≤ K from hj)
    rw [Nat.add_mul, Nat.mul_comm K M] at this
    omega
  unfold flatC
  rw [List.getD_eq_getElem?_getD, List.getElem?_map, List.getElem?_range hlt]
  have e1 : (j * M + i) % M = i := by rw [Nat.mul_comm, Nat.mul_add_mod, Nat.mod_eq_of_lt hi]
  have e2 : (j * M + i) / M = j := by rw [Nat.mul_comm, Nat.mul_add_div (by omega), Nat.div_eq_of_lt hi, Nat.add_zero]
  show flatS M K wc lc _ _ = _
  rw [e1, e2]
theorem flat_sap {n l M K : Nat} (hn : n ≤ 16) (hl : l ≤ 16) (hM : 2 ≤ M) (hM5 : M ≤ 5) (hK : 2 ≤ K) (hK5 : K ≤ 5) : SAp (flatC M K (wC n) (wC l) (M * K)) M K (FX (half n) (half l) M K) E0 ∧ Pz (flatC M K (wC n) (wC l) (M * K)) := by
  have hd : (0 : Rat) ≤ E0 := by decide +kernel
  constructor
  · refine ⟨by simp [flatC], ?_, ?_⟩
    · intro j i hj hi c
      rw [flat_getD M K _ _ hi hj]
      match c with
      | 0 => exact (flat_elt hn hM hM5 hi).1
      | 1 => exact (flat_elt hl hK hK5 hj).1
      | c + 2 => exact zero_zr.ap.mono hd
    · intro j i hj hi c
      match c with
      | 0 => exact (flat_elt hn hM hM5 hi).2
      | 1 => exact (flat_elt hl hK hK5 hj).2
      | c + 2 => exact ⟨(by decide +kernel : (0 : Rat) ≤ 8), (by decide +kernel : -(8 : Rat) ≤ 0)⟩
  · refine Pz.of fun p hp => ?_
    unfold flatC at hp ⊢
    rw [List.length_map, List.length_range] at hp
    rw [List.getD_eq_getElem?_getD, List.getElem?_map, List.getElem?_range hp]
    exact zero_zr
end Go.Proofs.Ytefnlalldgbcaaa
