/-
  The plain law of flat sheets: what the statement asks of places, slopes, normals, areas and cuts.
-/
import Derived.Test.YtefnlalldgbcaaaFt
import Derived.Test.YtefnlalldgbcaaaSn
namespace Go.Proofs.Ytefnlalldgbcaaa
open Go.RowKit

theorem fv_ab {W L s t : Rat} (w0 : 0 ≤ W) (w8 : W ≤ 8) (l0 : 0 ≤ L) (l8 : L ≤ 8) (s0 : 0 ≤ s) (s1 : s ≤ 1) (t0 : 0 ≤ t) (t1 : t ≤ 1) (c : Nat) : Ab (FV W L s t c) 8 := by
  have g : ∀ {x a : Rat}, 0 ≤ x → x ≤ 8 → 0 ≤ a → a ≤ 1 → Ab (x * a) 8 := by
    intro x a h0 h8 a0 a1
    have g1 := Rat.mul_le_mul_of_nonneg_left a1 h0
    have g2 := Rat.mul_nonneg h0 a0
    exact ⟨by grind, by grind⟩
  match c with
  | 0 => exact g w0 w8 s0 s1
  | 1 => exact g l0 l8 t0 t1
  | c + 2 => exact ⟨by show (0 : Rat) ≤ 8; grind, by show (-8 : Rat) ≤ 0; grind⟩
theorem z_ap : Ap .f32 (some 0) 0 0 := zero_zr.ap
theorem part_ap {u w : Option Nat} {i n : Nat} (hu : Ex' .f32 u i (-4)) (hw : Ex' .f32 w n (-1)) (hi : i ≤ 16) (hn : n ≤ 16) : Ap .f32 (fop .mul .f32 u w) (cv .f32 w * cv .f32 u) 0 := by
  have h : i * n ≤ 16 * 16 := Nat.mul_le_mul hi hn
  have e : ((i : Int) * (n : Int)) = ((i * n : Nat) : Int) := (Int.natCast_mul i n).symm
  have := (hu.mul hw (by rw [e]; omega) (by decide) (by decide)).ap
  refine this.to ?_
  rw [hu.val, hw.val, Rat.intCast_mul, p2_add]
  grind
/-- What is asked of places, slopes and normals. -/
structure FlA (ss : List S3) (M K : Nat) (wc lc u v : Option Nat) : Prop where
  valid : validC M K ss = true
  at_ : sheetAtOk M K ss u v = true
  sl : slopesOk M K ss u v = true
  no : normalOk M K ss u v = true
  n1 : AF (sheetAtC M K ss u v) (fop .mul .f32 u wc, fop .mul .f32 v lc, some 0)
  n2 : AF (slopesA M K ss u v) (wc, some 0, some 0)
  n3 : AF (slopesB M K ss u v) (some 0, lc, some 0)
  n4 : AF (normalC M K ss u v) (some 0, some 0, one32)
theorem flat_can {n l M K : Nat} (hn : n ≤ 16) (hl : l ≤ 16) (hM : 2 ≤ M) (hM5 : M ≤ 5) (hK : 2 ≤ K) (hK5 : K ≤ 5) : flatCan M K (wC n) (wC l) = true := by
  have f1 : finC (wC n) = true := fin_finC (wC_ex hn).fin
  have f2 : finC (wC l) = true := fin_finC (wC_ex hl).fin
  unfold flatCan
  rw [f1, f2]
  simp only [inB, Bool.and_true, Bool.and_eq_true, decide_eq_true_eq]
  omega
theorem flA {n l M K i j : Nat} (hn1 : 1 ≤ n) (hn : n ≤ 16) (hl1 : 1 ≤ l) (hl : l ≤ 16) (hM : 2 ≤ M) (hM5 : M ≤ 5) (hK : 2 ≤ K) (hK5 : K ≤ 5) (hi : i ≤ 16) (hj : j ≤ 16) :
    FlA (flatC M K (wC n) (wC l) (M * K)) M K (wC n) (wC l) (xC i) (xC j) := by
  obtain ⟨hs, hz⟩ := flat_sap hn hl hM hM5 hK hK5
  have hu := xS_ex hi
  have hv := xS_ex hj
  have su := sha4 hu (by omega) (by omega)
  have sv := sha4 hv (by omega) (by omega)
  obtain ⟨w0, w8⟩ := half_bd16 hn
  obtain ⟨l0, l8⟩ := half_bd16 hl
  have c1 : (E0 : Rat) + 8 * DD ≤ 1 / 2 := by decide +kernel
  have c0 : (0 : Rat) ≤ E0 := by decide +kernel
  obtain ⟨a1, a2, a3⟩ := sheet_at hs hM hM5 hK hK5 c0 c1 su sv
  rw [at_flat hM hK] at a2 a3
  have S := slF hs hz hM hM5 hK hK5 w0 w8 l0 l8 su sv
  obtain ⟨b1, b2⟩ := normal_flat S (half_ge hn1) w8 (half_ge hl1) l8
  have r01 : (0 : Rat) ≤ 1 := by decide +kernel
  refine ⟨hs.valid hM hM5 hK hK5, a1, S.ok, b1, apart_of a2 (f := 0) ?_ a3 (by decide +kernel) (by decide +kernel) (by decide +kernel), apart_of S.a (f := 0) ?_ (fv_ab w0 w8 l0 l8 r01 Rat.le_refl Rat.le_refl r01) (by decide +kernel) (by decide +kernel) (by decide +kernel), apart_of S.b (f := 0) ?_ (fv_ab w0 w8 l0 l8 Rat.le_refl r01 r01 Rat.le_refl) (by decide +kernel) (by decide +kernel) (by decide +kernel), apart_of b2 (f := 0) ?_ ?_ (by decide +kernel) (by decide +kernel) (by decide +kernel)⟩
  · intro c
    match c with
    | 0 => exact (part_ap hu (wC_ex hn) hi hn).to (by rw [wC_cv hn]; rfl)
    | 1 => exact (part_ap hv (wC_ex hl) hj hl).to (by rw [wC_cv hl]; rfl)
    | c + 2 => exact z_ap
  · intro c
    match c with
    | 0 => exact (wC_ex hn).ap.to (by rw [← (wC_ex hn).val, wC_cv hn]; show _ = half n * 1; grind)
    | 1 => exact z_ap.to (by show 0 = half l * 0; grind)
    | c + 2 => exact z_ap
  · intro c
    match c with
    | 0 => exact z_ap.to (by show 0 = half n * 0; grind)
    | 1 => exact (wC_ex hl).ap.to (by rw [← (wC_ex hl).val, wC_cv hl]; show _ = half l * 1; grind)
    | c + 2 => exact z_ap
  · intro c
    match c with
    | 0 => exact z_ap
    | 1 => exact z_ap
    | c + 2 => exact one_ap
  · intro c
    match c with
    | 0 => exact ⟨by show (0 : Rat) ≤ 8; grind, by show (-8 : Rat) ≤ 0; grind⟩
    | 1 => exact ⟨by show (0 : Rat) ≤ 8; grind, by show (-8 : Rat) ≤ 0; grind⟩
    | c + 2 => exact ⟨by show (1 : Rat) ≤ 8; grind, by show (-8 : Rat) ≤ 1; grind⟩

/-! ## tiles, areas, cuts -/
theorem flTL {n l M K p q : Nat} (hn : n ≤ 16) (hl : l ≤ 16) (hM : 2 ≤ M) (hM5 : M ≤ 5) (hK : 2 ≤ K) (hK5 : K ≤ 5) (hp : 1 ≤ p) (hp4 : p ≤ 4) (hq : 1 ≤ q) (hq4 : q ≤ 4) :
    TL (tilesL M K (flatC M K (wC n) (wC l) (M * K)) p q) p q (half n) (half l) ∧ tilesOk M K (flatC M K (wC n) (wC l) (M * K)) p q = true := by
  obtain ⟨hs, hz⟩ := flat_sap hn hl hM hM5 hK hK5
  obtain ⟨w0, w8⟩ := half_bd16 hn
  obtain ⟨l0, l8⟩ := half_bd16 hl
  have T := tl_of hs hz hM hM5 hK hK5 w0 w8 l0 l8 hp hp4 hq hq4
  refine ⟨T, ?_⟩
  have hpq : inB (p : Int) 1 12 = true ∧ inB (q : Int) 1 12 = true := by
    unfold inB
    simp only [Bool.and_eq_true, decide_eq_true_eq]
    omega
  unfold tilesOk tilesCan
  rw [hs.valid hM hM5 hK hK5, hpq.1, hpq.2, T.finL]
  rfl
theorem TL.few {tt : List S3} {p q : Nat} {W L : Rat} (T : TL tt p q W L) (hp4 : p ≤ 4) (hq4 : q ≤ 4) : fewL tt = true := by
  have h25 : (q + 1) * (p + 1) ≤ 5 * 5 := Nat.mul_le_mul (by omega) (by omega)
  have h1 : 1 * 1 ≤ (q + 1) * (p + 1) := Nat.mul_le_mul (by omega) (by omega)
  unfold fewL
  rw [T.finL, T.len]
  simp only [Bool.and_true, Bool.and_eq_true, decide_eq_true_eq]
  omega
theorem TL.b9 {tt : List S3} {p q : Nat} {W L : Rat} (T : TL tt p q W L) (hp : 1 ≤ p) (hq : 1 ≤ q) (w0 : 0 ≤ W) (w8 : W ≤ 8) (l0 : 0 ≤ L) (l8 : L ≤ 8) : ∀ s ∈ tt, BS s 9 := by
  intro s hs
  obtain ⟨k, hk, rfl⟩ := mem_getD hs
  obtain ⟨j, i, hj, hi, rfl⟩ := T.fin hk
  have h := T.ap j i hj hi
  obtain ⟨s1, s2⟩ := share_bd hp hi
  obtain ⟨t1, t2⟩ := share_bd hq hj
  intro c
  have := (h c).ab (fv_ab w0 w8 l0 l8 s1 s2 t1 t2 c)
  exact ⟨(h c).fin, this.mono (by decide +kernel)⟩

/-! ## the area's bound -/
theorem lit64 : Fin .f64 (some 4576918229304087675) ∧ 99 / 10000 ≤ rv .f64 4576918229304087675 ∧ rv .f64 4576918229304087675 ≤ 1 := ⟨by show rung FloatKind.f64.format _ < _; decide +kernel, by decide +kernel, by decide +kernel⟩
theorem one64 : Fin .f64 (some 4607182418800017408) ∧ rv .f64 4607182418800017408 = 1 := ⟨by show rung FloatKind.f64.format _ < _; decide +kernel, by decide +kernel⟩
theorem uk64 : uk .f64 ≤ 1 / 1000000000000 := by decide +kernel
theorem thr_ok {c : Option Nat} {a : Rat} (h : Ap .f64 c a 0) (h0 : 0 ≤ a) (h1 : a ≤ 70) : Fin .f64 (fop .mul .f64 (some 4576918229304087675) (fop .add .f64 (some 4607182418800017408) c)) ∧ 2 * (1 / 256) < cv .f64 (fop .mul .f64 (some 4576918229304087675) (fop .add .f64 (some 4607182418800017408) c)) := by
  have hu := uk64
  have hu0 := uk_pos .f64
  have o : Ap .f64 (some 4607182418800017408) 1 0 := ⟨one64.1, by show Near (rv .f64 _) 1 0; rw [one64.2]; constructor <;> grind⟩
  have l : Ap .f64 (some 4576918229304087675) (rv .f64 4576918229304087675) 0 := ⟨lit64.1, by constructor <;> (show _ ≤ _; simp only [cv]; grind)⟩
  have g0 : p2 (-126) ≤ (100 : Rat) := Rat.le_trans p2m126 (by decide +kernel)
  have g1 : (100 : Rat) < p2 127 := by have := p2127; grind
  have g2 : (200 : Rat) < p2 127 := by have := p2127; grind
  have s := o.add h (M := 100) ⟨by grind, by grind⟩ g0 g1
  have m := l.mul s (A := 1) (B := 71) (M := 200) ⟨lit64.2.2, by have := lit64.2.1; grind⟩ ⟨by grind, by grind⟩ (by grind) (Rat.le_trans p2m126 (by decide +kernel)) g2
  refine ⟨m.fin, ?_⟩
  obtain ⟨m1, m2⟩ := m.near
  have k := Rat.mul_le_mul_of_nonneg_right lit64.2.1 (show (0 : Rat) ≤ 1 + a by grind)
  grind
theorem gap_thr {r : Nat} {c : Option Nat} {a : Rat} (hr : Fin .f64 (some r)) (h : rv .f64 r ≤ 2 * (1 / 256)) (hc : Ap .f64 c a 0) (h0 : 0 ≤ a) (h1 : a ≤ 70) : fgtB .f64 (some r) (fop .mul .f64 (some 4576918229304087675) (fop .add .f64 (some 4607182418800017408) c)) = false := by
  obtain ⟨f, b⟩ := thr_ok hc h0 h1
  rw [fgt_iff hr f]
  have : ¬ cv .f64 (fop .mul .f64 (some 4576918229304087675) (fop .add .f64 (some 4607182418800017408) c)) < cv .f64 (some r) := by
    have e : cv .f64 (some r) = rv .f64 r := rfl
    rw [e]
    grind
  simp [this]
/-- What the area is, widened; what the sides' product is. -/
theorem side64 {n l x y : Nat} {c : Option Nat} {z : Nat} (hn : n ≤ 16) (hl : l ≤ 16) (fx : Fin .f64 (some x)) (vx : rv .f64 x = cv .f32 (wC n)) (fy : Fin .f64 (some y)) (vy : rv .f64 y = cv .f32 (wC l)) (hz : Is .f64 z c) (hc : c = fop .mul .f64 (some x) (some y)) :
    Is .f64 z (some z) ∧ Fin .f64 (some z) ∧ rv .f64 z = half n * half l := by
  have ex : Ex' .f64 (some x) n (-1) := ⟨fx, by show rv .f64 x = _; rw [vx, (wC_ex hn).val]⟩
  have ey : Ex' .f64 (some y) l (-1) := ⟨fy, by show rv .f64 y = _; rw [vy, (wC_ex hl).val]⟩
  have h : n * l ≤ 16 * 16 := Nat.mul_le_mul hn hl
  have e : ((n : Int) * (l : Int)) = ((n * l : Nat) : Int) := (Int.natCast_mul n l).symm
  have em := ex.mul ey (by rw [e]; omega) (by decide) (by decide)
  rw [← hc] at em
  have hw := fin_word hz em.fin
  rw [hw] at em hz
  refine ⟨hz, em.fin, ?_⟩
  have := em.val
  have e2 : cv .f64 (some z) = rv .f64 z := rfl
  rw [e2] at this
  rw [this, ← wC_cv hn, ← wC_cv hl, (wC_ex hn).val, (wC_ex hl).val, Rat.intCast_mul, p2_add]
  grind
theorem area_bd {n l : Nat} {c : Option Nat} (hn1 : 1 ≤ n) (hn : n ≤ 16) (hl1 : 1 ≤ l) (hl : l ≤ 16) (h : Ap .f32 c (half n * half l) E5) : 0 ≤ cv .f32 c ∧ cv .f32 c ≤ 70 ∧ Ab (cv .f32 c) (p2 126) ∧ Ab (cv .f32 c - half n * half l) (1 / 256) := by
  obtain ⟨w0, w8⟩ := half_bd16 hn
  obtain ⟨l0, l8⟩ := half_bd16 hl
  have w1 := half_ge hn1
  have l1 := half_ge hl1
  have g1 := Rat.mul_le_mul_of_nonneg_left l8 w0
  have g2 := Rat.mul_le_mul_of_nonneg_left l1 w0
  obtain ⟨n1, n2⟩ := h.near
  have e5 : (E5 : Rat) ≤ 1 / 256 := by decide +kernel
  have hb : (70 : Rat) ≤ p2 126 := by
    have h1 : p2 10 ≤ p2 126 := p2_mono (by decide)
    have h2 : p2 10 = 1024 := by decide +kernel
    grind
  refine ⟨by grind, by grind, ⟨by grind, by grind⟩, by grind, by grind⟩
end Go.Proofs.Ytefnlalldgbcaaa
