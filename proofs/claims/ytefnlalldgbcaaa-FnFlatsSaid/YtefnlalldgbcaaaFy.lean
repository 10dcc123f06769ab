/-
  The plain law of flat sheets: slopes and normals.
-/
import Derived.Test.YtefnlalldgbcaaaFz
namespace Go.Proofs.Ytefnlalldgbcaaa
open Go.RowKit

abbrev ulp : Rat := 1 / 16777216
theorem pmS : p2 (-126) ≤ ulp := p2m126
theorem p2_big {n : Nat} (h : n < 127) : p2 (n : Int) < p2 127 := plt n Rat.le_refl h
theorem p2127' : (4096 : Rat) < p2 127 := by
  have h := p2_big (n := 12) (by omega)
  have e : p2 (12 : Nat) = 4096 := by decide +kernel
  rw [e] at h
  exact h

/-! ## roots of squares -/
/-- The root of what is nearly a square. -/
theorem root_sq {c : Option Nat} (hf : Fin .f32 c) {z : Rat} (hz0 : 1 / 1024 ≤ z) (hz1 : z ≤ 1024) (h1 : z * z * (1 - 4 * ulp) ≤ cv .f32 c) (h2 : cv .f32 c ≤ z * z * (1 + 4 * ulp)) :
    Fin .f32 (rootC c) ∧ Ab (cv .f32 (rootC c) - z) (20 * ulp * z) := by
  obtain ⟨b, rfl, hb⟩ : ∃ b, c = some b ∧ Fin .f32 (some b) := by
    cases c with
    | none => exact hf.elim
    | some b => exact ⟨b, rfl, hf⟩
  have h1 : z * z * (1 - 4 * ulp) ≤ rv .f32 b := h1
  have h2 : rv .f32 b ≤ z * z * (1 + 4 * ulp) := h2
  have hzz : 0 ≤ z * z := Rat.mul_nonneg (by grind) (by grind)
  have hzm : z * z ≤ 1024 * 1024 := by
    have g1 := Rat.mul_le_mul_of_nonneg_right hz1 (show (0 : Rat) ≤ z by grind)
    grind
  have h0 : 0 ≤ rv .f32 b := by
    have := Rat.mul_nonneg hzz (show (0 : Rat) ≤ 1 - 4 * ulp by decide +kernel)
    grind
  have hu126 : (1024 * 1024 * 2 : Rat) ≤ p2 126 := by
    have g1 : p2 (21 : Nat) ≤ p2 126 := p2_mono (by decide)
    have g2 : p2 (21 : Nat) = 1024 * 1024 * 2 := by decide +kernel
    rw [g2] at g1
    exact g1
  have hab : Ab (rv .f32 b) (p2 126) := ⟨by grind, by grind⟩
  obtain ⟨f1, v1⟩ := widen_val hb hab
  unfold rootC
  cases hw : fcv .f32 .f64 (some b) with
  | none => rw [hw] at f1; exact f1.elim
  | some y =>
    rw [hw] at f1 v1
    have v1 : rv .f64 y = rv .f32 b := v1
    have hL : z * (1 - 16 * ulp) * (z * (1 - 16 * ulp)) ≤ rv .f64 y := by
      rw [v1]
      have e : z * (1 - 16 * ulp) * (z * (1 - 16 * ulp)) = z * z * ((1 - 16 * ulp) * (1 - 16 * ulp)) := by grind
      have g := Rat.mul_le_mul_of_nonneg_left (show (1 - 16 * ulp) * (1 - 16 * ulp) ≤ (1 - 4 * ulp : Rat) by decide +kernel) hzz
      rw [e]
      exact Rat.le_trans g h1
    have hU : rv .f64 y ≤ z * (1 + 16 * ulp) * (z * (1 + 16 * ulp)) := by
      rw [v1]
      have e : z * (1 + 16 * ulp) * (z * (1 + 16 * ulp)) = z * z * ((1 + 16 * ulp) * (1 + 16 * ulp)) := by grind
      have g := Rat.mul_le_mul_of_nonneg_left (show (1 + 4 * ulp : Rat) ≤ (1 + 16 * ulp) * (1 + 16 * ulp) by decide +kernel) hzz
      rw [e]
      exact Rat.le_trans h2 g
    have hbig := p2127'
    have hsm : p2 (-126) ≤ 1 / 1024 := Rat.le_trans pmS (by decide +kernel)
    obtain ⟨s1, s2, s3, s4⟩ := sqrt_near f1 (by rw [v1]; exact h0) hL hU (by grind) (by grind)
    have hk : uk .f64 ≤ ulp * ulp := by decide +kernel
    have hzu : z * (1 + 16 * ulp) * uk .f64 ≤ z * (1 + 16 * ulp) * (ulp * ulp) := Rat.mul_le_mul_of_nonneg_left hk (Rat.mul_nonneg (by grind) (by decide +kernel))
    have hzt : z * (1 + 16 * ulp) * (ulp * ulp) ≤ z * (1 / 3 * ulp) := by
      have g : (1 + 16 * ulp) * (ulp * ulp) ≤ (1 / 3 * ulp : Rat) := by decide +kernel
      have := Rat.mul_le_mul_of_nonneg_left g (show (0 : Rat) ≤ z by grind)
      rw [← Rat.mul_assoc] at this
      exact this
    have s3 : z * (1 - 16 * ulp) ≤ cv .f64 (sqrtC (some y)) + z * ulp := by grind
    have s4 : cv .f64 (sqrtC (some y)) ≤ z * (1 + 16 * ulp) + z * ulp := by grind
    cases hq : sqrtC (some y) with
    | none => rw [hq] at s1; exact s1.elim
    | some r =>
      rw [hq] at s1 s2 s3 s4
      have s2 : 0 ≤ rv .f64 r := s2
      have s3 : z * (1 - 16 * ulp) ≤ rv .f64 r + z * ulp := s3
      have s4 : rv .f64 r ≤ z * (1 + 16 * ulp) + z * ulp := s4
      obtain ⟨n1, ⟨n2, n3⟩, _⟩ := narrow_near s1 (M := 2 * z) ⟨by grind, by grind⟩ (by grind) (by grind)
      rw [uk32] at n2 n3
      exact ⟨n1, by grind, by grind⟩

/-! ## slopes -/
abbrev E1 : Rat := E0 + 8 * DD
abbrev E2 : Rat := 2100 / 16777216
theorem slopeOf_ap {tt : List S3} {a0 a1 : Nat → Rat} {m : Nat} (h0 : ApS (tt.getD 0 z3) a0 E1) (h1 : ApS (tt.getD 1 z3) a1 E1) (hd : ∀ c, Ab (a1 c - a0 c) 8) (hm : 2 ≤ m) (hm5 : m ≤ 5) :
    ApS (slopeOf tt m) (fun c => (a1 c - a0 c) * ((m - 1 : Nat) : Rat)) E2 := by
  intro c
  have g1 := p2m126
  have g2 := p2127
  have e1 : (E1 : Rat) = 240 / 16777216 := by decide +kernel
  have hs := Ap.sub (M := 17) (h1 c) (h0 c) (by
    obtain ⟨x1, x2⟩ := hd c
    rw [e1]
    exact ⟨by grind, by grind⟩) (by grind) (by grind)
  rw [uk32, e1] at hs
  have hs := hs.mono (f := 497 / 16777216) (by decide +kernel)
  have hx : Ex' .f32 (some (floatOfInt .f32 ((m : Int) - 1))) ((m : Int) - 1) 0 := Ex'_ofInt .f32 _ (by omega)
  have hxa := hx.ap
  have p20 : p2 0 = 1 := by decide +kernel
  have em : (((m : Int) - 1 : Int) : Rat) * p2 0 = ((m - 1 : Nat) : Rat) := by
    rw [p20, Rat.mul_one, ← Rat.intCast_natCast]
    congr 1
    omega
  rw [em] at hxa
  have hb : Ab ((m - 1 : Nat) : Rat) 4 := by
    have h4 : ((m - 1 : Nat) : Rat) ≤ ((4 : Nat) : Rat) := natR (by omega)
    have h5 : (0 : Rat) ≤ ((m - 1 : Nat) : Rat) := Rat.natCast_nonneg
    have c4 : ((4 : Nat) : Rat) = 4 := rfl
    rw [c4] at h4
    exact ⟨h4, by grind⟩
  have hp := Ap.mul (M := 40) hs hxa (hd c) hb (by decide +kernel) (by grind) (by grind)
  rw [uk32] at hp
  show Ap .f32 (pj c (timesS (lessS (tt.getD 1 z3) (tt.getD 0 z3)) _)) _ _
  rw [pj_times, pj_less]
  exact hp.mono (by decide +kernel)
theorem slopeOf_zr {tt : List S3} {m : Nat} (h : Pz tt) (hm5 : m ≤ 5) : Zr (pj 2 (slopeOf tt m)) := by
  show Zr (pj 2 (timesS (lessS (tt.getD 1 z3) (tt.getD 0 z3)) _))
  rw [pj_times, pj_less]
  have hx : Ex' .f32 (some (floatOfInt .f32 ((m : Int) - 1))) ((m : Int) - 1) 0 := Ex'_ofInt .f32 _ (by omega)
  have hs := zr_sub (h 1) (h 0)
  exact zr_mul hs.fin hx.fin (.inl hs.val)

theorem SAp.col {ss M K X e} (h : SAp ss M K X e) {i : Nat} (hi : i < M) : LAp (colL ss M K i) (fun j => X j i) e ∧ LB (fun j => X j i) (colL ss M K i).length ∧ (colL ss M K i).length = K := by
  have hl : (colL ss M K i).length = K := by simp [colL]
  refine ⟨?_, ?_, hl⟩
  · intro j hj
    rw [hl] at hj
    have e1 : (colL ss M K i).getD j z3 = ss.getD (j * M + i) z3 := by
      unfold colL
      rw [List.getD_eq_getElem?_getD, List.getElem?_map, List.getElem?_range hj]
      rfl
    rw [e1]
    exact h.ap j i hj hi
  · intro j hj
    rw [hl] at hj
    exact h.bd j i hj hi
theorem cut2_ap {tt : List S3} {x : Nat → Nat → Rat} {e : Rat} {c : Option Nat} (h : LAp tt x (e + 4 * DD)) (hB : LB x tt.length) (hc : Sha c) (h2 : 2 ≤ tt.length) (h5 : tt.length ≤ 5) (he0 : 0 ≤ e) (he : e + 8 * DD ≤ 1 / 2) :
    ∀ i, i < 2 → ApS ((cutL c 2 tt).getD i z3) (lerpN (cv .f32 c) (tt.length - 2) x i) (e + 8 * DD) := by
  intro i hi
  have hd : (0 : Rat) ≤ DD := by decide +kernel
  have h3 : e + 4 * DD + ((tt.length - 2 : Nat) : Rat) * DD ≤ e + 8 * DD := by
    have := errD (e := e + 4 * DD) (k := 4) (n := tt.length - 2) (by omega)
    have c4 : ((4 : Nat) : Rat) = 4 := rfl
    rw [c4] at this
    grind
  have hn := LAp.nextN hc (tt.length - 2) h hB (by grind) (by grind)
  exact (hn i (by rw [cutN_length]; omega)).mono h3
theorem half_bd16 {n : Nat} (h : n ≤ 16) : 0 ≤ half n ∧ half n ≤ 8 := by
  have h1 : (n : Rat) ≤ ((16 : Nat) : Rat) := natR h
  have h2 : (0 : Rat) ≤ (n : Rat) := Rat.natCast_nonneg
  have c : ((16 : Nat) : Rat) = 16 := rfl
  rw [c] at h1
  unfold half
  constructor <;> grind
theorem half_ge {n : Nat} (h : 1 ≤ n) : 1 / 2 ≤ half n := by
  have h1 : ((1 : Nat) : Rat) ≤ (n : Rat) := natR h
  have c : ((1 : Nat) : Rat) = 1 := rfl
  rw [c] at h1
  unfold half
  grind
theorem div_ab {W : Rat} {M : Nat} (h0 : 0 ≤ W) (h8 : W ≤ 8) (hM : 2 ≤ M) : Ab (W / ((M - 1 : Nat) : Rat)) 8 ∧ W / ((M - 1 : Nat) : Rat) * ((M - 1 : Nat) : Rat) = W := by
  have hm : ((1 : Nat) : Rat) ≤ ((M - 1 : Nat) : Rat) := natR (by omega)
  have c1 : ((1 : Nat) : Rat) = 1 := rfl
  rw [c1] at hm
  have e : W / ((M - 1 : Nat) : Rat) * ((M - 1 : Nat) : Rat) = W := Rat.div_mul_cancel (nz hM)
  generalize W / ((M - 1 : Nat) : Rat) = q at e ⊢
  generalize ((M - 1 : Nat) : Rat) = m at hm e
  have q0 : 0 ≤ q := Rat.le_of_mul_le_mul_right (c := m) (by rw [e]; grind) (by grind)
  have q1 := Rat.mul_le_mul_of_nonneg_left hm q0
  exact ⟨⟨by grind, by grind⟩, e⟩
structure SlF (ss : List S3) (M K : Nat) (W L : Rat) (u v : Option Nat) : Prop where
  ok : slopesOk M K ss u v = true
  a : ApS (slopesA M K ss u v) (FV W L 1 0) E2
  b : ApS (slopesB M K ss u v) (FV W L 0 1) E2
  az : Zr (pj 2 (slopesA M K ss u v))
  bz : Zr (pj 2 (slopesB M K ss u v))
theorem slF {ss : List S3} {M K : Nat} {W L : Rat} {u v : Option Nat} (h : SAp ss M K (FX W L M K) E0) (hz : Pz ss) (hM : 2 ≤ M) (hM5 : M ≤ 5) (hK : 2 ≤ K) (hK5 : K ≤ 5) (w0 : 0 ≤ W) (w8 : W ≤ 8) (l0 : 0 ≤ L) (l8 : L ≤ 8) (hu : Sha u) (hv : Sha v) : SlF ss M K W L u v := by
  have hd : (0 : Rat) ≤ DD := by decide +kernel
  have c1 : (E0 : Rat) + 8 * DD ≤ 1 / 2 := by decide +kernel
  have c0 : (0 : Rat) ≤ E0 := by decide +kernel
  -- columns
  have hcl : (colsL ss M K v).length = M := by simp [colsL]
  have hrl := rowsL_length ss M K u
  have hcols : LAp (colsL ss M K v) (fun i => lerpN (cv .f32 v) (K - 1) (fun j => FX W L M K j i) 0) (E0 + 4 * DD) ∧ LB (fun i => lerpN (cv .f32 v) (K - 1) (fun j => FX W L M K j i) 0) (colsL ss M K v).length := by
    have key : ∀ i, i < M → ApS ((colsL ss M K v).getD i z3) (lerpN (cv .f32 v) (K - 1) (fun j => FX W L M K j i) 0) (E0 + 4 * DD) ∧ ∀ k, Ab (lerpN (cv .f32 v) (K - 1) (fun j => FX W L M K j i) 0 k) 8 := by
      intro i hi
      obtain ⟨h1, h2, h3⟩ := h.col hi
      have := cut_ap h1 h2 hv (by omega) (by omega) c0 (by decide +kernel)
      rw [h3] at this
      have e1 : (colsL ss M K v).getD i z3 = (cutL v 1 (colL ss M K i)).headD z3 := by
        unfold colsL
        rw [List.getD_eq_getElem?_getD, List.getElem?_map, List.getElem?_range hi]
        rfl
      rw [e1]
      exact this
    exact ⟨fun i hi => (key i (by omega)).1, fun i hi => (key i (by omega)).2⟩
  have hrows : LAp (rowsL ss M K u) (fun j => lerpN (cv .f32 u) (M - 1) (FX W L M K j) 0) (E0 + 4 * DD) ∧ LB (fun j => lerpN (cv .f32 u) (M - 1) (FX W L M K j) 0) (rowsL ss M K u).length := by
    have key : ∀ j, j < K → ApS ((rowsL ss M K u).getD j z3) (lerpN (cv .f32 u) (M - 1) (FX W L M K j) 0) (E0 + 4 * DD) ∧ ∀ k, Ab (lerpN (cv .f32 u) (M - 1) (FX W L M K j) 0 k) 8 := by
      intro j hj
      obtain ⟨h1, h2, h3⟩ := h.row hj
      have := cut_ap h1 h2 hu (by omega) (by omega) c0 (by decide +kernel)
      rw [h3] at this
      have e1 : (rowsL ss M K u).getD j z3 = (cutL u 1 (rowL ss M j)).headD z3 := by
        unfold rowsL
        rw [List.getD_eq_getElem?_getD, List.getElem?_map, List.getElem?_range hj]
        rfl
      rw [e1]
      exact this
    exact ⟨fun i hi => (key i (by omega)).1, fun i hi => (key i (by omega)).2⟩
  have k2 := cut2_ap hcols.1 hcols.2 hu (by omega) (by omega) c0 c1
  have r2 := cut2_ap hrows.1 hrows.2 hv (by omega) (by omega) c0 c1
  rw [hcl] at k2
  rw [hrl] at r2
  -- what the columns are
  have yc : ∀ i, lerpN (cv .f32 v) (K - 1) (fun j => FX W L M K j i) 0 0 = W / ((M - 1 : Nat) : Rat) * (i : Rat) ∧ lerpN (cv .f32 v) (K - 1) (fun j => FX W L M K j i) 0 1 = L / ((K - 1 : Nat) : Rat) * (((K - 1 : Nat) : Rat) * cv .f32 v) ∧ ∀ c, lerpN (cv .f32 v) (K - 1) (fun j => FX W L M K j i) 0 (c + 2) = 0 := by
    intro i
    have z : ((0 : Nat) : Rat) = 0 := rfl
    have g0 := lerpN_aff (cv .f32 v) 0 (K - 1) (W * ((i : Rat) / ((M - 1 : Nat) : Rat))) 0 (fun j => FX W L M K j i) (fun j => by show W * _ = _; grind) 0
    have g1 := lerpN_aff (cv .f32 v) 1 (K - 1) 0 (L / ((K - 1 : Nat) : Rat)) (fun j => FX W L M K j i) (fun j => by show L * _ = _; rw [div_mul]; grind) 0
    refine ⟨by rw [g0, div_mul]; grind, by rw [g1, z]; grind, fun c => ?_⟩
    have g2 := lerpN_aff (cv .f32 v) (c + 2) (K - 1) 0 0 (fun j => FX W L M K j i) (fun j => by show (0 : Rat) = _; grind) 0
    rw [g2]
    grind
  have yr : ∀ j, lerpN (cv .f32 u) (M - 1) (FX W L M K j) 0 0 = W / ((M - 1 : Nat) : Rat) * (((M - 1 : Nat) : Rat) * cv .f32 u) ∧ lerpN (cv .f32 u) (M - 1) (FX W L M K j) 0 1 = L / ((K - 1 : Nat) : Rat) * (j : Rat) ∧ ∀ c, lerpN (cv .f32 u) (M - 1) (FX W L M K j) 0 (c + 2) = 0 := by
    intro j
    obtain ⟨q0, q1, q2⟩ := row_flat (W := W) (L := L) (M := M) (K := K) (cv .f32 u) j (M - 1) 0
    have z : ((0 : Nat) : Rat) = 0 := rfl
    refine ⟨by rw [q0, z]; grind, by rw [q1, div_mul], q2⟩
  obtain ⟨dW, mW⟩ := div_ab w0 w8 hM
  obtain ⟨dL, mL⟩ := div_ab l0 l8 hK
  have z0 : ((0 : Nat) : Rat) = 0 := rfl
  have z1 : ((1 : Nat) : Rat) = 1 := rfl
  have da : ∀ c, lerpN (cv .f32 u) (M - 2) (fun i => lerpN (cv .f32 v) (K - 1) (fun j => FX W L M K j i) 0) 1 c - lerpN (cv .f32 u) (M - 2) (fun i => lerpN (cv .f32 v) (K - 1) (fun j => FX W L M K j i) 0) 0 c = match c with | 0 => W / ((M - 1 : Nat) : Rat) | _ => 0 := by
    intro c
    match c with
    | 0 =>
      have g := lerpN_aff (cv .f32 u) 0 (M - 2) 0 (W / ((M - 1 : Nat) : Rat)) (fun i => lerpN (cv .f32 v) (K - 1) (fun j => FX W L M K j i) 0) (fun i => by show lerpN _ _ _ 0 0 = _; rw [(yc i).1]; grind)
      rw [g 1, g 0, z0, z1]
      show _ = W / _
      grind
    | 1 =>
      have g := lerpN_aff (cv .f32 u) 1 (M - 2) (L / ((K - 1 : Nat) : Rat) * (((K - 1 : Nat) : Rat) * cv .f32 v)) 0 (fun i => lerpN (cv .f32 v) (K - 1) (fun j => FX W L M K j i) 0) (fun i => by show lerpN _ _ _ 0 1 = _; rw [(yc i).2.1]; grind)
      rw [g 1, g 0]
      show _ = (0 : Rat)
      grind
    | c + 2 =>
      have g := lerpN_aff (cv .f32 u) (c + 2) (M - 2) 0 0 (fun i => lerpN (cv .f32 v) (K - 1) (fun j => FX W L M K j i) 0) (fun i => by show lerpN _ _ _ 0 (c + 2) = _; rw [(yc i).2.2 c]; grind)
      rw [g 1, g 0]
      show _ = (0 : Rat)
      grind
  have db : ∀ c, lerpN (cv .f32 v) (K - 2) (fun j => lerpN (cv .f32 u) (M - 1) (FX W L M K j) 0) 1 c - lerpN (cv .f32 v) (K - 2) (fun j => lerpN (cv .f32 u) (M - 1) (FX W L M K j) 0) 0 c = match c with | 1 => L / ((K - 1 : Nat) : Rat) | _ => 0 := by
    intro c
    match c with
    | 0 =>
      have g := lerpN_aff (cv .f32 v) 0 (K - 2) (W / ((M - 1 : Nat) : Rat) * (((M - 1 : Nat) : Rat) * cv .f32 u)) 0 (fun j => lerpN (cv .f32 u) (M - 1) (FX W L M K j) 0) (fun j => by show lerpN _ _ _ 0 0 = _; rw [(yr j).1]; grind)
      rw [g 1, g 0]
      show _ = (0 : Rat)
      grind
    | 1 =>
      have g := lerpN_aff (cv .f32 v) 1 (K - 2) 0 (L / ((K - 1 : Nat) : Rat)) (fun j => lerpN (cv .f32 u) (M - 1) (FX W L M K j) 0) (fun j => by show lerpN _ _ _ 0 1 = _; rw [(yr j).2.1]; grind)
      rw [g 1, g 0, z0, z1]
      show _ = L / _
      grind
    | c + 2 =>
      have g := lerpN_aff (cv .f32 v) (c + 2) (K - 2) 0 0 (fun j => lerpN (cv .f32 u) (M - 1) (FX W L M K j) 0) (fun j => by show lerpN _ _ _ 0 (c + 2) = _; rw [(yr j).2.2 c]; grind)
      rw [g 1, g 0]
      show _ = (0 : Rat)
      grind
  have z8 : Ab (0 : Rat) 8 := ⟨by decide +kernel, by decide +kernel⟩
  have sa := slopeOf_ap (k2 0 (by omega)) (k2 1 (by omega)) (fun c => by
    rw [da c]
    match c with
    | 0 => exact dW
    | 1 => exact z8
    | c + 2 => exact z8) hM hM5
  have sb := slopeOf_ap (r2 0 (by omega)) (r2 1 (by omega)) (fun c => by
    rw [db c]
    match c with
    | 0 => exact z8
    | 1 => exact dL
    | c + 2 => exact z8) hK hK5
  have ea : ApS (slope1 ss M K u v) (FV W L 1 0) E2 := by
    intro c
    refine (sa c).to ?_
    show (_ - _) * _ = _
    rw [da c]
    match c with
    | 0 => show W / _ * _ = W * 1; rw [mW]; grind
    | 1 => show (0 : Rat) * _ = L * 0; grind
    | c + 2 => show (0 : Rat) * _ = 0; grind
  have eb : ApS (slope2 ss M K u v) (FV W L 0 1) E2 := by
    intro c
    refine (sb c).to ?_
    show (_ - _) * _ = _
    rw [db c]
    match c with
    | 0 => show (0 : Rat) * _ = W * 0; grind
    | 1 => show L / _ * _ = L * 1; rw [mL]; grind
    | c + 2 => show (0 : Rat) * _ = 0; grind
  have hok : slopesOk M K ss u v = true := by
    unfold slopesOk onC
    rw [h.valid hM hM5 hK hK5, hu.share, hv.share]
    have f1 : finS (slope1 ss (M : Int).toNat (K : Int).toNat u v) = true := ea.finS
    have f2 : finS (slope2 ss (M : Int).toNat (K : Int).toNat u v) = true := eb.finS
    rw [f1, f2]
    rfl
  have xa : slopesA M K ss u v = slope1 ss M K u v := by
    unfold slopesA
    rw [hok]
    rfl
  have xb : slopesB M K ss u v = slope2 ss M K u v := by
    unfold slopesB
    rw [hok]
    rfl
  refine ⟨hok, by rw [xa]; exact ea, by rw [xb]; exact eb, ?_, ?_⟩
  · rw [xa]
    exact slopeOf_zr (Pz.nextN hu _ (hz.cols M K hv)) hM5
  · rw [xb]
    exact slopeOf_zr (Pz.nextN hv _ (hz.rows M K hu)) hK5
end Go.Proofs.Ytefnlalldgbcaaa
