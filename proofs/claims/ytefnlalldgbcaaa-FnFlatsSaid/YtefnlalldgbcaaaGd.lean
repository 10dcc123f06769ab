/-
  The nearest spot: none is nearer, nearly.
-/
import Derived.Test.YtefnlalldgbcaaaGb
import Derived.Test.YtefnlalldgbcaaaNear
namespace Go.Proofs.Ytefnlalldgbcaaa
open Go.RowKit

theorem p2tiny : p2 (-126) ≤ 1 / 100000000 := by
  have h : p2 (-126) ≤ p2 (-27) := p2_mono (by decide)
  exact Rat.le_trans h (by decide +kernel)
def dD (s t : S3) (c : Nat) : Rat := cv .f32 (pj c s) - cv .f32 (pj c t)
def sqD (s t : S3) : Rat := dD s t 0 * dD s t 0 + dD s t 1 * dD s t 1 + dD s t 2 * dD s t 2
theorem sq_nn (x : Rat) : 0 ≤ x * x := by
  rcases Rat.le_total (a := 0) (b := x) with h | h
  · exact Rat.mul_nonneg h h
  · have := Rat.mul_nonneg (a := -x) (b := -x) (by grind) (by grind)
    grind
theorem ab_of_sq {x N : Rat} (hN : 0 ≤ N) (h : x * x ≤ N * N) : Ab x N := by
  have h1 := sq_le hN h
  have h2 := sq_le (a := -x) hN (by grind)
  exact ⟨h1, by grind⟩
theorem less_nr {a b : Option Nat} {A B N : Rat} (ha : Bd a A) (hb : Bd b B) (hN : Ab (cv .f32 a - cv .f32 b) N) (h0 : 1 / 10000 ≤ N) (h1 : N ≤ 32) : Ap .f32 (fop .sub .f32 a b) (cv .f32 a - cv .f32 b) (N * ulp) := by
  obtain ⟨x, rfl, hx, _⟩ := ha.ex
  obtain ⟨y, rfl, hy, _⟩ := hb.ex
  have hu : uk .f32 = ulp := uk32
  have := p2127
  obtain ⟨q1, q2, q3⟩ := sub_near hx hy hN (Rat.le_trans p2m126 (by grind)) (by grind)
  rw [hu] at q2 q3
  exact ⟨q1, q2, q3⟩
theorem sq_nr {c : Option Nat} {x N : Rat} (h : Ap .f32 c x (N * ulp)) (hx : Ab x N) (h0 : 1 / 10000 ≤ N) (h1 : N ≤ 32) : Ap .f32 (fop .mul .f32 c c) (x * x) (5 * ulp * (N * N)) := by
  have hu : uk .f32 = ulp := uk32
  have g := p2127'
  have q0 : 1 / 100000000 ≤ N * N := by
    have a := Rat.mul_le_mul_of_nonneg_left h0 (show (0 : Rat) ≤ N by grind)
    grind
  have q1 : N * N ≤ 1024 := by
    have a := Rat.mul_le_mul_of_nonneg_left h1 (show (0 : Rat) ≤ N by grind)
    grind
  have hm : (N + N * ulp) * (N + N * ulp) = N * N * ((1 + ulp) * (1 + ulp)) := by grind
  have hm2 := Rat.mul_le_mul_of_nonneg_left (show (1 + ulp) * (1 + ulp) ≤ (2 : Rat) by decide +kernel) (show (0 : Rat) ≤ N * N by grind)
  have m := h.mul h (A := N) (B := N) (M := 2 * (N * N)) hx hx (by rw [hm]; grind) (Rat.le_trans p2tiny (by grind)) (by grind)
  refine m.mono ?_
  rw [hu]
  have e : (N + N * ulp) * (N * ulp) + N * (N * ulp) + 2 * (N * N) * ulp = N * N * (ulp * (4 + ulp)) := by grind
  have e2 : 5 * ulp * (N * N) = N * N * (ulp * 5) := by grind
  rw [e, e2]
  exact Rat.mul_le_mul_of_nonneg_left (by decide +kernel) (by grind)
/-- How long a difference is, at most. -/
theorem long_up {s t : S3} (hs : BS s 9) (ht : BS t 4) {N : Rat} (h0 : 1 / 10000 ≤ N) (h1 : N ≤ 32) (hD : sqD s t ≤ N * N) :
    longOk (lessS s t) = true ∧ Fin .f32 (longC (lessS s t)) ∧ 0 ≤ cv .f32 (longC (lessS s t)) ∧ cv .f32 (longC (lessS s t)) ≤ N + 3 / 10000 := by
  have hu : uk .f32 = ulp := uk32
  have g := p2127'
  have q0 : 1 / 100000000 ≤ N * N := by
    have a := Rat.mul_le_mul_of_nonneg_left h0 (show (0 : Rat) ≤ N by grind)
    grind
  have q1 : N * N ≤ 32 * N := Rat.mul_le_mul_of_nonneg_right h1 (by grind)
  have n0 := sq_nn (dD s t 0)
  have n1 := sq_nn (dD s t 1)
  have n2 := sq_nn (dD s t 2)
  unfold sqD at hD
  have b0 : Ab (dD s t 0) N := ab_of_sq (by grind) (by grind)
  have b1 : Ab (dD s t 1) N := ab_of_sq (by grind) (by grind)
  have b2 : Ab (dD s t 2) N := ab_of_sq (by grind) (by grind)
  have l0 : Ap .f32 (lessS s t).1 (dD s t 0) (N * ulp) := less_nr (hs 0) (ht 0) b0 h0 h1
  have l1 : Ap .f32 (lessS s t).2.1 (dD s t 1) (N * ulp) := less_nr (hs 1) (ht 1) b1 h0 h1
  have l2 : Ap .f32 (lessS s t).2.2 (dD s t 2) (N * ulp) := less_nr (hs 2) (ht 2) b2 h0 h1
  have m0 := sq_nr l0 b0 h0 h1
  have m1 := sq_nr l1 b1 h0 h1
  have m2 := sq_nr l2 b2 h0 h1
  generalize dD s t 0 * dD s t 0 = p at *
  generalize dD s t 1 * dD s t 1 = q at *
  generalize dD s t 2 * dD s t 2 = r at *
  have hq : (0 : Rat) ≤ N * N := by grind
  have hlow : p2 (-126) ≤ 4 * (N * N) := Rat.le_trans p2tiny (by clear m0 m1 m2 b0 b1 b2 l0 l1 l2; grind)
  have hup : 4 * (N * N) < p2 127 := by grind
  have s1 := (m0.add m1 (M := 4 * (N * N)) ⟨by grind, by grind⟩ hlow hup).mono (f := 14 * ulp * (N * N)) (by rw [hu]; grind)
  have s2 := (s1.add m2 (M := 4 * (N * N)) ⟨by grind, by grind⟩ hlow hup).mono (f := 23 * ulp * (N * N)) (by rw [hu]; grind)
  have s2 : Ap .f32 (dotC (lessS s t) (lessS s t)) (p + q + r) (23 * ulp * (N * N)) := s2
  have hB : BS (lessS s t) 32768 := by
    have key : ∀ {c : Option Nat} {x : Rat}, Ap .f32 c x (N * ulp) → Ab x N → Bd c 32768 := by
      intro c x h hx
      exact ⟨h.fin, (h.ab hx).mono (by grind)⟩
    intro c
    match c with
    | 0 => exact key l0 b0
    | 1 => exact key l1 b1
    | c + 2 => exact key l2 b2
  have hnn := (dot_nn hB).2
  have hfS : finS (lessS s t) = true := bs_fin hB
  obtain ⟨n3, n4⟩ := s2.near
  unfold longC longOk
  rw [hfS]
  generalize dotC (lessS s t) (lessS s t) = c at *
  obtain ⟨b, rfl, hb, _⟩ := s2.ex
  have hnn : 0 ≤ rv .f32 b := hnn
  have n4 : rv .f32 b ≤ p + q + r + 23 * ulp * (N * N) := n3
  have hv4 : rv .f32 b ≤ 4096 := by grind
  have hp : (4096 : Rat) ≤ p2 126 := by
    have g1 : p2 (12 : Nat) ≤ p2 126 := p2_mono (by decide)
    have g2 : p2 (12 : Nat) = 4096 := by decide +kernel
    rw [g2] at g1
    exact g1
  obtain ⟨f1, v1⟩ := widen_val hb ⟨by grind, by grind⟩
  unfold rootC
  cases hw : fcv .f32 .f64 (some b) with
  | none => rw [hw] at f1; exact f1.elim
  | some y =>
    rw [hw] at f1 v1
    have v1 : rv .f64 y = rv .f32 b := v1
    have hU : rv .f64 y ≤ (N + 2 / 10000) * (N + 2 / 10000) := by rw [v1]; grind
    obtain ⟨s1, s2, s3, s4⟩ := sqrt_near f1 (by rw [v1]; exact hnn) (L := 0) (U := N + 2 / 10000) (by rw [v1]; grind) hU (Rat.le_trans p2m126 (by grind)) (by grind)
    have hk := uk64
    have hzu : 3 * (N + 2 / 10000) * uk .f64 ≤ 3 * (N + 2 / 10000) * (1 / 1000000000000) := Rat.mul_le_mul_of_nonneg_left hk (by grind)
    cases hq : sqrtC (some y) with
    | none => rw [hq] at s1; exact s1.elim
    | some z =>
      rw [hq] at s1 s2 s4
      have s2 : 0 ≤ rv .f64 z := s2
      have s4 : rv .f64 z ≤ N + 2 / 10000 + 3 * (N + 2 / 10000) * uk .f64 := s4
      obtain ⟨n1, ⟨n2, n3⟩, n5⟩ := narrow_near s1 (M := 40) ⟨by grind, by grind⟩ (Rat.le_trans p2m126 (by grind)) (by grind)
      rw [uk32] at n2 n3
      have hfc : finC (fcv .f64 .f32 (some z)) = true := fin_finC n1
      have hg : giveC (fcv .f64 .f32 (some z)) = fcv .f64 .f32 (some z) := by
        unfold giveC
        rw [hfc]
        rfl
      refine ⟨hfc, ?_⟩
      show Fin .f32 (giveC (fcv .f64 .f32 (some z))) ∧ 0 ≤ cv .f32 (giveC (fcv .f64 .f32 (some z))) ∧ cv .f32 (giveC (fcv .f64 .f32 (some z))) ≤ N + 3 / 10000
      rw [hg]
      exact ⟨n1, n5 s2, by grind⟩

/-! ## the nearest one -/
theorem nearGo_ok (to : S3) : ∀ (ss : List S3) (i : Nat) (b : Int) (l : Option Nat), (∀ s ∈ ss, longOk (lessS s to) = true ∧ Fin .f32 (longC (lessS s to)) ∧ 0 ≤ cv .f32 (longC (lessS s to))) → Fin .f32 l → 0 ≤ cv .f32 l →
    ∃ b' l', nearGo to i b l ss = some (b', l') ∧ Fin .f32 l' ∧ 0 ≤ cv .f32 l' ∧ (b' = b ∨ ((i : Int) ≤ b' ∧ b' < i + ss.length)) ∧ (∀ s ∈ ss, cv .f32 l' ≤ cv .f32 (longC (lessS s to))) ∧ (i ≠ 0 → cv .f32 l' ≤ cv .f32 l)
  | [], i, b, l, _, hl, h0 => ⟨b, l, rfl, hl, h0, .inl rfl, (by simp), fun _ => Rat.le_refl⟩
  | s :: r, i, b, l, h, hl, h0 => by
    obtain ⟨h1, h2, h3⟩ := h s List.mem_cons_self
    have hr := fun t ht => h t (List.mem_cons_of_mem _ ht)
    rw [nearGo, h1, cond_true]
    cases hc : (decide (i = 0) || fltB .f32 (longC (lessS s to)) l)
    · rw [cond_false]
      rw [Bool.or_eq_false_iff] at hc
      have hi : i ≠ 0 := by simpa using hc.1
      have hlt : ¬ cv .f32 (longC (lessS s to)) < cv .f32 l := by
        have := hc.2
        rw [flt_iff h2 hl] at this
        simpa using this
      obtain ⟨b', l', e, f, n, ix, le, le2⟩ := nearGo_ok to r (i + 1) b l hr hl h0
      have k := le2 (by omega)
      refine ⟨b', l', e, f, n, ?_, ?_, fun _ => k⟩
      · simp only [List.length_cons]
        omega
      · intro t ht
        rcases List.mem_cons.1 ht with rfl | ht
        · grind
        · exact le t ht
    · rw [cond_true]
      obtain ⟨b', l', e, f, n, ix, le, le2⟩ := nearGo_ok to r (i + 1) (i : Int) (longC (lessS s to)) hr h2 h3
      have k := le2 (by omega)
      refine ⟨b', l', e, f, n, ?_, ?_, ?_⟩
      · simp only [List.length_cons]
        omega
      · intro t ht
        rcases List.mem_cons.1 ht with rfl | ht
        · exact k
        · exact le t ht
      · intro hi
        rw [Bool.or_eq_true] at hc
        rcases hc with hc | hc
        · exact absurd (by simpa using hc) hi
        · rw [flt_iff h2 hl] at hc
          have : cv .f32 (longC (lessS s to)) < cv .f32 l := by simpa using hc
          grind
theorem sqD_bd {s t : S3} (hs : BS s 9) (ht : BS t 4) : sqD s t ≤ 32 * 32 ∧ ∀ c, Ab (dD s t c) 13 := by
  have key : ∀ c, Ab (dD s t c) 13 := by
    intro c
    obtain ⟨a1, a2⟩ := (hs c).ab
    obtain ⟨b1, b2⟩ := (ht c).ab
    unfold dD
    exact ⟨by grind, by grind⟩
  have k2 : ∀ c, dD s t c * dD s t c ≤ 13 * 13 := fun c => ((key c).mul (key c)).le
  have := k2 0
  have := k2 1
  have := k2 2
  refine ⟨by unfold sqD; grind, key⟩
/-- What is told of the nearest one. -/
structure NrF (tt : List S3) (to : S3) (b : Int) (l : Option Nat) : Prop where
  eq : nearR tt to = some (b, l)
  fin : Fin .f32 l
  ge : 0 ≤ cv .f32 l
  le : cv .f32 l ≤ 33
  i0 : 0 ≤ b
  i1 : b < tt.length
  low : ∀ s ∈ tt, cv .f32 l ≤ cv .f32 (longC (lessS s to))
theorem nrF {tt : List S3} {to : S3} (h : ∀ s ∈ tt, BS s 9) (ht : BS to 4) (hf : fewL tt = true) : ∃ b l, NrF tt to b l := by
  have hp := (few_pos2 hf).1
  have hl := fun s hs => long_up (h s hs) ht (N := 32) (by grind) Rat.le_refl (sqD_bd (h s hs) ht).1
  obtain ⟨b, l, e, f, n, ix, le, _⟩ := nearGo_ok to tt 0 0 (some 0) (fun s hs => ⟨(hl s hs).1, (hl s hs).2.1, (hl s hs).2.2.1⟩) zero_zr.fin (by rw [cv_zero]; exact Rat.le_refl)
  have hh : tt[0] ∈ tt := List.getElem_mem hp
  have k1 := le _ hh
  have k2 := (hl _ hh).2.2.2
  refine ⟨b, l, ?_, f, n, by grind, by omega, by omega, le⟩
  unfold nearR
  rw [hf, bs_fin ht]
  exact e
end Go.Proofs.Ytefnlalldgbcaaa

namespace Go.Proofs.Ytefnlalldgbcaaa
open Go.RowKit

theorem add_nnK {k : FloatKind} {a b : Nat} {M : Rat} (ha : Fin k (some a)) (hb : Fin k (some b)) (hM : rv k a + rv k b ≤ M) (h1 : M < p2 127) (h0 : 0 ≤ rv k a) (h0' : 0 ≤ rv k b) : 0 ≤ cv k (fop .add k (some a) (some b)) := by
  obtain ⟨s, m, p, hr⟩ := fin_read ha
  obtain ⟨t, n, q, hs⟩ := fin_read hb
  have e : fop .add k (some a) (some b) = (Ieee.Datum.sum (.number s m p) (.number t n q)).map k.format.write := by
    show (Ieee.Datum.sum (k.format.read a) (k.format.read b)).map _ = _
    rw [hr, hs]
  rw [e]
  cases hd : Ieee.Datum.sum (.number s m p) (.number t n q) with
  | none => simp [Ieee.Datum.sum] at hd
  | some d =>
    obtain ⟨u, r, i, rfl, hv⟩ := sum_val hd
    have hv' : dv (.number u r i) = rv k a + rv k b := by rw [hv]; unfold rv; rw [hr, hs]
    have hab : Ab (dv (.number u r i)) M := by rw [hv']; exact ⟨hM, by grind⟩
    exact write_nonneg (by rw [hv']; grind) (rlt_of_le_of_lt (mag_of_ab hab) h1)
theorem mul_nnK {k : FloatKind} {a b : Nat} {M : Rat} (ha : Fin k (some a)) (hb : Fin k (some b)) (hM : rv k a * rv k b ≤ M) (h1 : M < p2 127) (h0 : 0 ≤ rv k a * rv k b) : 0 ≤ cv k (fop .mul k (some a) (some b)) := by
  obtain ⟨s, m, p, hr⟩ := fin_read ha
  obtain ⟨t, n, q, hs⟩ := fin_read hb
  have e : fop .mul k (some a) (some b) = (Ieee.Datum.product (.number s m p) (.number t n q)).map k.format.write := by
    show (Ieee.Datum.product (k.format.read a) (k.format.read b)).map _ = _
    rw [hr, hs]
  rw [e]
  cases hd : Ieee.Datum.product (.number s m p) (.number t n q) with
  | none => simp [Ieee.Datum.product] at hd
  | some d =>
    obtain ⟨u, r, i, rfl, hv⟩ := prod_val hd
    have hv' : dv (.number u r i) = rv k a * rv k b := by rw [hv]; unfold rv; rw [hr, hs]
    have hab : Ab (dv (.number u r i)) M := by rw [hv']; exact ⟨hM, by grind⟩
    exact write_nonneg (by rw [hv']; exact h0) (rlt_of_le_of_lt (mag_of_ab hab) h1)

abbrev e9 : Rat := 4 / 1000000000
theorem ap_own {b : Nat} {v : Rat} (h : Fin .f64 (some b)) (hv : rv .f64 b = v) : Ap .f64 (some b) v 0 := ⟨h, by show Near (rv .f64 b) v 0; rw [hv]; constructor <;> grind⟩
/-- The square of a difference, in wide numbers. -/
theorem sq64 {x y : Nat} {p q : Rat} (fx : Fin .f64 (some x)) (vx : rv .f64 x = p) (fy : Fin .f64 (some y)) (vy : rv .f64 y = q) (hd : Ab (p - q) 13) :
    Ap .f64 (fop .mul .f64 (fop .sub .f64 (some x) (some y)) (fop .sub .f64 (some x) (some y))) ((p - q) * (p - q)) e9 ∧ 0 ≤ cv .f64 (fop .mul .f64 (fop .sub .f64 (some x) (some y)) (fop .sub .f64 (some x) (some y))) := by
  have hu := uk64
  have hu0 := uk_pos .f64
  have g := p2127'
  obtain ⟨d1, d2⟩ := hd
  have s := ((ap_own fx vx).sub (ap_own fy vy) (M := 16) ⟨by grind, by grind⟩ (Rat.le_trans p2tiny (by grind)) (by grind)).mono (f := 1 / 10000000000) (by grind)
  have m := (s.mul s (A := 13) (B := 13) (M := 400) ⟨d1, d2⟩ ⟨d1, d2⟩ (by decide +kernel) (Rat.le_trans p2tiny (by grind)) (by grind)).mono (f := e9) (by grind)
  refine ⟨m, ?_⟩
  have sab := s.ab (V := 13) ⟨d1, d2⟩
  obtain ⟨b, hb, fb, _⟩ := s.ex
  rw [hb] at sab ⊢
  have sab : Ab (rv .f64 b) (13 + 1 / 10000000000) := sab
  exact mul_nnK fb fb (M := 400) (Rat.le_trans (sab.mul sab).le (by decide +kernel)) (by grind) (sq_nn _)
theorem add64 {c d : Option Nat} {p q e f : Rat} (h : Ap .f64 c p e) (h' : Ap .f64 d q f) (hp : 0 ≤ p) (hq : 0 ≤ q) (hpq : p + q ≤ 1000) (he : e ≤ 1) (hf : f ≤ 1) (h0 : 0 ≤ cv .f64 c) (h0' : 0 ≤ cv .f64 d) :
    Ap .f64 (fop .add .f64 c d) (p + q) (e + f + 1200 * (1 / 1000000000000)) ∧ 0 ≤ cv .f64 (fop .add .f64 c d) := by
  have hu := uk64
  have g := p2127'
  have s := (h.add h' (M := 1200) ⟨by grind, by grind⟩ (Rat.le_trans p2tiny (by grind)) (by grind)).mono (f := e + f + 1200 * (1 / 1000000000000)) (by grind)
  refine ⟨s, ?_⟩
  obtain ⟨a, rfl, fa, n1, n2⟩ := h.ex
  obtain ⟨b, rfl, fb, n3, n4⟩ := h'.ex
  exact add_nnK fa fb (M := 1200) (by grind) (by grind) h0 h0'
theorem lit2v : 99 / 100000 ≤ rv .f64 4562254508917369340 ∧ rv .f64 4562254508917369340 ≤ 1 := ⟨by decide +kernel, by decide +kernel⟩
theorem zero64 : Ex' .f64 (some 0) 0 0 := ⟨by show rung FloatKind.f64.format _ < _; decide +kernel, by show rv .f64 0 = _; decide +kernel⟩
/-- How near the nearest one is, less a little. -/
theorem small64 {l : Option Nat} {f r : Nat} {c : Option Nat} (h0 : 0 ≤ cv .f32 l) (h1 : cv .f32 l ≤ 33) (ff : Fin .f64 (some f)) (vf : rv .f64 f = cv .f32 l) (hr : Is .f64 r c) (hc : c = fop .sub .f64 (some f) (some 4562254508917369340)) :
    Is .f64 r (some r) ∧ Fin .f64 (some r) ∧ rv .f64 r ≤ cv .f32 l - 98 / 100000 := by
  have hu := uk64
  have hu0 := uk_pos .f64
  have g := p2127'
  obtain ⟨v1, v2⟩ := lit2v
  have s := (ap_own ff vf).sub (ap_own lit2.1 rfl) (M := 64) ⟨by grind, by grind⟩ (Rat.le_trans p2tiny (by grind)) (by grind)
  rw [← hc] at s
  have hw := fin_word hr s.fin
  rw [hw] at s hr
  refine ⟨hr, s.fin, ?_⟩
  obtain ⟨n1, n2⟩ := s.near
  have n1 : rv .f64 r ≤ cv .f32 l - rv .f64 4562254508917369340 + (0 + 0 + 64 * uk .f64) := n1
  grind
theorem near_ge {s to : S3} {l : Option Nat} {x1 y1 z1 x2 y2 z2 r m : Nat} (hs : BS s 9) (ht : BS to 4)
    (fx1 : Fin .f64 (some x1)) (vx1 : rv .f64 x1 = cv .f32 s.1) (fx2 : Fin .f64 (some x2)) (vx2 : rv .f64 x2 = cv .f32 to.1)
    (fy1 : Fin .f64 (some y1)) (vy1 : rv .f64 y1 = cv .f32 s.2.1) (fy2 : Fin .f64 (some y2)) (vy2 : rv .f64 y2 = cv .f32 to.2.1)
    (fz1 : Fin .f64 (some z1)) (vz1 : rv .f64 z1 = cv .f32 s.2.2) (fz2 : Fin .f64 (some z2)) (vz2 : rv .f64 z2 = cv .f32 to.2.2)
    (h1 : cv .f32 l ≤ 33) (hle : cv .f32 l ≤ cv .f32 (longC (lessS s to))) (fr : Fin .f64 (some r)) (vr : rv .f64 r ≤ cv .f32 l - 98 / 100000) (hm : Mx .f64 0 r m) :
    fltB .f64 (fop .add .f64 (fop .add .f64 (fop .mul .f64 (fop .sub .f64 (some x1) (some x2)) (fop .sub .f64 (some x1) (some x2))) (fop .mul .f64 (fop .sub .f64 (some y1) (some y2)) (fop .sub .f64 (some y1) (some y2)))) (fop .mul .f64 (fop .sub .f64 (some z1) (some z2)) (fop .sub .f64 (some z1) (some z2)))) (fop .mul .f64 (some m) (some m)) = false := by
  have hu := uk64
  have hu0 := uk_pos .f64
  have g := p2127'
  obtain ⟨hb, hd⟩ := sqD_bd hs ht
  have d0 : Ab (cv .f32 s.1 - cv .f32 to.1) 13 := hd 0
  have d1 : Ab (cv .f32 s.2.1 - cv .f32 to.2.1) 13 := hd 1
  have d2 : Ab (cv .f32 s.2.2 - cv .f32 to.2.2) 13 := hd 2
  obtain ⟨m0, p0⟩ := sq64 fx1 vx1 fx2 vx2 d0
  obtain ⟨m1, p1⟩ := sq64 fy1 vy1 fy2 vy2 d1
  obtain ⟨m2, p2'⟩ := sq64 fz1 vz1 fz2 vz2 d2
  have q0 := sq_nn (cv .f32 s.1 - cv .f32 to.1)
  have q1 := sq_nn (cv .f32 s.2.1 - cv .f32 to.2.1)
  have q2 := sq_nn (cv .f32 s.2.2 - cv .f32 to.2.2)
  have k0 := (d0.mul d0).le
  have k1 := (d1.mul d1).le
  have k2 := (d2.mul d2).le
  have hS : sqD s to = (cv .f32 s.1 - cv .f32 to.1) * (cv .f32 s.1 - cv .f32 to.1) + (cv .f32 s.2.1 - cv .f32 to.2.1) * (cv .f32 s.2.1 - cv .f32 to.2.1) + (cv .f32 s.2.2 - cv .f32 to.2.2) * (cv .f32 s.2.2 - cv .f32 to.2.2) := rfl
  have hlong := fun N (h0 : 1 / 10000 ≤ N) h1 hD => (long_up hs ht (N := N) h0 h1 hD).2.2.2
  rw [hS] at hlong
  generalize (cv .f32 s.1 - cv .f32 to.1) * (cv .f32 s.1 - cv .f32 to.1) = A at *
  generalize (cv .f32 s.2.1 - cv .f32 to.2.1) * (cv .f32 s.2.1 - cv .f32 to.2.1) = B at *
  generalize (cv .f32 s.2.2 - cv .f32 to.2.2) * (cv .f32 s.2.2 - cv .f32 to.2.2) = C at *
  obtain ⟨a1, n1⟩ := add64 m0 m1 q0 q1 (by grind) (by decide +kernel) (by decide +kernel) p0 p1
  obtain ⟨a2, n2⟩ := add64 a1 m2 (by grind) q2 (by grind) (by decide +kernel) (by decide +kernel) n1 p2'
  generalize fop .add .f64 (fop .add .f64 _ _) _ = S at a2 n2 ⊢
  clear m0 m1 m2 a1 n1 p0 p1 p2' hd d0 d1 d2 hb hS
  obtain ⟨s1, s2⟩ := a2.near
  rcases hm.one with rfl | rfl
  · have ez := zero64.mul zero64 (by decide) (by decide) (by decide)
    rw [flt_iff a2.fin ez.fin]
    have : ¬ cv .f64 S < cv .f64 (fop .mul .f64 (some 0) (some 0)) := by
      rw [ez.val]
      have e : (((0 : Int) * (0 : Int) : Int) : Rat) * p2 (0 + 0) = 0 := by
        have : (((0 : Int) * (0 : Int) : Int) : Rat) = 0 := rfl
        rw [this, Rat.zero_mul]
      rw [e]
      grind
    simp [this]
  · have hz : rv .f64 0 = 0 := by decide +kernel
    have hge := hm.li
    rw [hz] at hge
    have r33 : rv .f64 m ≤ 33 := by grind
    have rr := Rat.mul_le_mul_of_nonneg_right r33 hge
    have em := ((ap_own fr rfl).mul (ap_own fr rfl) (A := 33) (B := 33) (M := 2000) ⟨r33, by grind⟩ ⟨r33, by grind⟩ (by decide +kernel) (Rat.le_trans p2tiny (by grind)) (by grind)).mono (f := 2000 * (1 / 1000000000000)) (by grind)
    rw [flt_iff a2.fin em.fin]
    obtain ⟨e1, e2⟩ := em.near
    have : ¬ cv .f64 S < cv .f64 (fop .mul .f64 (some m) (some m)) := by
      intro hlt
      by_cases h32 : rv .f64 m ≤ 31
      · have := hlong (rv .f64 m + 2 / 10000) (by grind) (by grind) (by grind)
        grind
      · have := hlong 23 (by grind) (by grind) (by grind)
        grind
    simp [this]
end Go.Proofs.Ytefnlalldgbcaaa
