/-
  The plain law of sheets: boxes hold their spots; the area of tiles is not less than nothing.
-/
import Derived.Test.YtefnlalldgbcaaaNf
import Derived.Test.YtefnlalldgbcaaaAps
import Derived.Test.YtefnlalldgbcaaaBox
import Derived.Test.YtefnlalldgbcaaaAreaS
namespace Go.Proofs.Ytefnlalldgbcaaa
open Go.RowKit

/-! ## finite numbers within a bound -/
structure Bd (c : Option Nat) (M : Rat) : Prop where
  fin : Fin .f32 c
  ab : Ab (cv .f32 c) M
theorem Ab.mono {x V W : Rat} (h : Ab x V) (hw : V ≤ W) : Ab x W := by obtain ⟨a, b⟩ := h; exact ⟨by grind, by grind⟩
theorem Bd.mono {c : Option Nat} {M W : Rat} (h : Bd c M) (hw : M ≤ W) : Bd c W := ⟨h.fin, h.ab.mono hw⟩
theorem Bd.ex {c : Option Nat} {M : Rat} (h : Bd c M) : ∃ b, c = some b ∧ Fin .f32 (some b) ∧ Ab (rv .f32 b) M := by
  obtain ⟨hf, hb⟩ := h
  cases c with
  | none => exact hf.elim
  | some b => exact ⟨b, rfl, hf, hb⟩
theorem p2_succ (e : Int) : p2 (e + 1) = 2 * p2 e := by
  have h : p2 1 = 2 := by decide +kernel
  rw [p2_add, h]
  grind
theorem p2_succN (n : Nat) : p2 ((n + 1 : Nat) : Int) = 2 * p2 (n : Int) := p2_succ n
theorem near_two {x y M : Rat} (h : Near x y (M * uk .f32)) (hy : Ab y M) (h0 : p2 (-126) ≤ M) : Ab x (2 * M) := by
  have hu : uk .f32 ≤ 1 := by rw [uk32]; decide +kernel
  have hM : 0 ≤ M := by have := p2_pos (-126); grind
  have hm := Rat.mul_le_mul_of_nonneg_left hu hM
  rw [Rat.mul_one] at hm
  obtain ⟨a, b⟩ := h
  obtain ⟨c, d⟩ := hy
  exact ⟨by grind, by grind⟩
theorem Bd.add {c d : Option Nat} {A B M : Rat} (h : Bd c A) (h' : Bd d B) (hM : A + B ≤ M) (h0 : p2 (-126) ≤ M) (h1 : M < p2 127) : Bd (fop .add .f32 c d) (2 * M) := by
  obtain ⟨a, rfl, ha, x1, x2⟩ := h.ex
  obtain ⟨b, rfl, hb, y1, y2⟩ := h'.ex
  have hs : Ab (rv .f32 a + rv .f32 b) M := ⟨by grind, by grind⟩
  obtain ⟨q1, q2⟩ := add_near ha hb hs h0 h1
  exact ⟨q1, near_two q2 hs h0⟩
theorem Bd.sub {c d : Option Nat} {A B M : Rat} (h : Bd c A) (h' : Bd d B) (hM : A + B ≤ M) (h0 : p2 (-126) ≤ M) (h1 : M < p2 127) : Bd (fop .sub .f32 c d) (2 * M) := by
  obtain ⟨a, rfl, ha, x1, x2⟩ := h.ex
  obtain ⟨b, rfl, hb, y1, y2⟩ := h'.ex
  have hs : Ab (rv .f32 a - rv .f32 b) M := ⟨by grind, by grind⟩
  obtain ⟨q1, q2⟩ := sub_near ha hb hs h0 h1
  exact ⟨q1, near_two q2 hs h0⟩
theorem Bd.mul {c d : Option Nat} {A B M : Rat} (h : Bd c A) (h' : Bd d B) (hM : A * B ≤ M) (h0 : p2 (-126) ≤ M) (h1 : M < p2 127) : Bd (fop .mul .f32 c d) (2 * M) := by
  obtain ⟨a, rfl, ha, x⟩ := h.ex
  obtain ⟨b, rfl, hb, y⟩ := h'.ex
  have hs : Ab (rv .f32 a * rv .f32 b) M := (x.mul y).mono hM
  obtain ⟨q1, q2⟩ := mul_near ha hb hs h0 h1
  exact ⟨q1, near_two q2 hs h0⟩
theorem add_nn {c d : Option Nat} {A B : Rat} (h : Bd c A) (h' : Bd d B) (hM : A + B < p2 127) (h0 : 0 ≤ cv .f32 c) (h0' : 0 ≤ cv .f32 d) : 0 ≤ cv .f32 (fop .add .f32 c d) := by
  obtain ⟨a, rfl, ha, x1, x2⟩ := h.ex
  obtain ⟨b, rfl, hb, y1, y2⟩ := h'.ex
  have h0 : 0 ≤ rv .f32 a := h0
  have h0' : 0 ≤ rv .f32 b := h0'
  obtain ⟨s, m, p, hr⟩ := fin_read ha
  obtain ⟨t, n, q, hs⟩ := fin_read hb
  have e : fop .add .f32 (some a) (some b) = (Ieee.Datum.sum (.number s m p) (.number t n q)).map FloatKind.f32.format.write := by
    show (Ieee.Datum.sum (FloatKind.f32.format.read a) (FloatKind.f32.format.read b)).map _ = _
    rw [hr, hs]
  rw [e]
  cases hd : Ieee.Datum.sum (.number s m p) (.number t n q) with
  | none => simp [Ieee.Datum.sum] at hd
  | some d =>
    obtain ⟨u, r, i, rfl, hv⟩ := sum_val hd
    have hv' : dv (.number u r i) = rv .f32 a + rv .f32 b := by rw [hv]; unfold rv; rw [hr, hs]
    have hab : Ab (dv (.number u r i)) (A + B) := by rw [hv']; exact ⟨by grind, by grind⟩
    refine write_nonneg (by rw [hv']; grind) (rlt_of_le_of_lt (mag_of_ab hab) hM)
theorem mul_nn {c d : Option Nat} {A B : Rat} (h : Bd c A) (h' : Bd d B) (hM : A * B < p2 127) (h0 : 0 ≤ cv .f32 c * cv .f32 d) : 0 ≤ cv .f32 (fop .mul .f32 c d) := by
  obtain ⟨a, rfl, ha, x⟩ := h.ex
  obtain ⟨b, rfl, hb, y⟩ := h'.ex
  have h0 : 0 ≤ rv .f32 a * rv .f32 b := h0
  obtain ⟨s, m, p, hr⟩ := fin_read ha
  obtain ⟨t, n, q, hs⟩ := fin_read hb
  have e : fop .mul .f32 (some a) (some b) = (Ieee.Datum.product (.number s m p) (.number t n q)).map FloatKind.f32.format.write := by
    show (Ieee.Datum.product (FloatKind.f32.format.read a) (FloatKind.f32.format.read b)).map _ = _
    rw [hr, hs]
  rw [e]
  cases hd : Ieee.Datum.product (.number s m p) (.number t n q) with
  | none => simp [Ieee.Datum.product] at hd
  | some d =>
    obtain ⟨u, r, i, rfl, hv⟩ := prod_val hd
    have hv' : dv (.number u r i) = rv .f32 a * rv .f32 b := by rw [hv]; unfold rv; rw [hr, hs]
    have hab : Ab (dv (.number u r i)) (A * B) := by rw [hv']; exact x.mul y
    refine write_nonneg (by rw [hv']; exact h0) (rlt_of_le_of_lt (mag_of_ab hab) hM)

/-! ## boxes -/
theorem low_fin {a b : Option Nat} (ha : Fin .f32 a) (hb : Fin .f32 b) : Fin .f32 (lowC a b) ∧ cv .f32 (lowC a b) ≤ cv .f32 a ∧ cv .f32 (lowC a b) ≤ cv .f32 b := by
  unfold lowC
  rw [flt_iff hb ha]
  by_cases h : cv .f32 b < cv .f32 a
  · rw [decide_eq_true h]
    exact ⟨hb, Rat.le_of_lt h, Rat.le_refl⟩
  · rw [decide_eq_false h]
    exact ⟨ha, Rat.le_refl, Rat.not_lt.1 h⟩
theorem high_fin {a b : Option Nat} (ha : Fin .f32 a) (hb : Fin .f32 b) : Fin .f32 (highC a b) ∧ cv .f32 a ≤ cv .f32 (highC a b) ∧ cv .f32 b ≤ cv .f32 (highC a b) := by
  unfold highC
  rw [fgt_iff hb ha]
  by_cases h : cv .f32 a < cv .f32 b
  · rw [decide_eq_true h]
    exact ⟨hb, Rat.le_of_lt h, Rat.le_refl⟩
  · rw [decide_eq_false h]
    exact ⟨ha, Rat.le_refl, Rat.not_lt.1 h⟩
theorem pj_low (c : Nat) (s t : S3) : pj c (lowS s t) = lowC (pj c s) (pj c t) := by
  match c with
  | 0 => rfl
  | 1 => rfl
  | c + 2 => rfl
theorem pj_high (c : Nat) (s t : S3) : pj c (highS s t) = highC (pj c s) (pj c t) := by
  match c with
  | 0 => rfl
  | 1 => rfl
  | c + 2 => rfl
theorem fold_low (c : Nat) : ∀ (ss : List S3) (s0 : S3), Fin .f32 (pj c s0) → (∀ s ∈ ss, Fin .f32 (pj c s)) → Fin .f32 (pj c (ss.foldl lowS s0)) ∧ cv .f32 (pj c (ss.foldl lowS s0)) ≤ cv .f32 (pj c s0) ∧ ∀ s ∈ ss, cv .f32 (pj c (ss.foldl lowS s0)) ≤ cv .f32 (pj c s)
  | [], s0, h0, _ => ⟨h0, Rat.le_refl, by simp⟩
  | s :: ss, s0, h0, h => by
    have h1 := low_fin h0 (h s List.mem_cons_self)
    rw [← pj_low] at h1
    obtain ⟨a, b, d⟩ := fold_low c ss (lowS s0 s) h1.1 (fun t ht => h t (List.mem_cons_of_mem _ ht))
    refine ⟨a, Rat.le_trans b h1.2.1, ?_⟩
    intro t ht
    rcases List.mem_cons.1 ht with rfl | ht
    · exact Rat.le_trans b h1.2.2
    · exact d t ht
theorem fold_high (c : Nat) : ∀ (ss : List S3) (s0 : S3), Fin .f32 (pj c s0) → (∀ s ∈ ss, Fin .f32 (pj c s)) → Fin .f32 (pj c (ss.foldl highS s0)) ∧ cv .f32 (pj c s0) ≤ cv .f32 (pj c (ss.foldl highS s0)) ∧ ∀ s ∈ ss, cv .f32 (pj c s) ≤ cv .f32 (pj c (ss.foldl highS s0))
  | [], s0, h0, _ => ⟨h0, Rat.le_refl, by simp⟩
  | s :: ss, s0, h0, h => by
    have h1 := high_fin h0 (h s List.mem_cons_self)
    rw [← pj_high] at h1
    obtain ⟨a, b, d⟩ := fold_high c ss (highS s0 s) h1.1 (fun t ht => h t (List.mem_cons_of_mem _ ht))
    refine ⟨a, Rat.le_trans h1.2.1 b, ?_⟩
    intro t ht
    rcases List.mem_cons.1 ht with rfl | ht
    · exact Rat.le_trans h1.2.2 b
    · exact d t ht
/-- A box holds its spots. -/
theorem box_holds {ss : List S3} (hf : fewL ss = true) (h : ∀ s ∈ ss, ∀ c, Fin .f32 (pj c s)) (c : Nat) {s : S3} (hs : s ∈ ss) : fltB .f32 (pj c s) (pj c (boxLow ss)) = false ∧ fgtB .f32 (pj c s) (pj c (boxHigh ss)) = false := by
  have h0 : Fin .f32 (pj c (ss.headD z3)) := by
    cases ss with
    | nil => cases hs
    | cons t ss => exact h t List.mem_cons_self c
  unfold boxLow boxHigh
  rw [hf]
  obtain ⟨a1, _, a3⟩ := fold_low c ss _ h0 (fun s hs => h s hs c)
  obtain ⟨b1, _, b3⟩ := fold_high c ss _ h0 (fun s hs => h s hs c)
  simp only [cond_true]
  rw [flt_iff (h s hs c) a1, fgt_iff (h s hs c) b1]
  exact ⟨decide_eq_false (Rat.not_lt.2 (a3 s hs)), decide_eq_false (Rat.not_lt.2 (b3 s hs))⟩

/-! ## areas -/
abbrev BS (s : S3) (M : Rat) : Prop := ∀ c, Bd (pj c s) M
theorem bs_zero {M : Rat} (h : 0 ≤ M) : BS z3 M := by
  have key : Bd (some 0) M := ⟨by show rung FloatKind.f32.format 0 < _; decide +kernel, by
    have : cv .f32 (some 0) = 0 := by decide +kernel
    rw [this]
    exact ⟨h, by grind⟩⟩
  intro c
  match c with
  | 0 => exact key
  | 1 => exact key
  | c + 2 => exact key
theorem pj_less (c : Nat) (s t : S3) : pj c (lessS s t) = fop .sub .f32 (pj c s) (pj c t) := by
  match c with
  | 0 => rfl
  | 1 => rfl
  | c + 2 => rfl
theorem pm {M : Rat} (h : 1 ≤ M) : p2 (-126) ≤ M := by
  have h1 : p2 (-126) ≤ p2 0 := p2_mono (by decide)
  have h2 : p2 0 = 1 := by decide +kernel
  grind
theorem plt {M : Rat} (n : Nat) (h : M ≤ p2 (n : Int)) (hn : n < 127) : M < p2 127 := by
  have h1 : p2 ((n : Int) + 1) ≤ p2 127 := p2_mono (by omega)
  rw [p2_succ] at h1
  have := p2_pos (n : Int)
  grind
theorem c32 : p2 (5 : Nat) = 32 := by decide +kernel
theorem c4096 : p2 (12 : Nat) = 4096 := by decide +kernel
theorem less_bs {s t : S3} (h : BS s 9) (h' : BS t 9) : BS (lessS s t) 64 := by
  intro c
  rw [pj_less]
  exact ((h c).sub (h' c) (M := 32) (by decide +kernel) (pm (by decide +kernel)) (plt 5 (by rw [c32]; exact Rat.le_refl) (by omega))).mono (by decide +kernel)
theorem cross_part {a b c d : Option Nat} (ha : Bd a 64) (hb : Bd b 64) (hc : Bd c 64) (hd : Bd d 64) : Bd (fop .sub .f32 (fop .mul .f32 a b) (fop .mul .f32 c d)) 32768 := by
  have h1 : Bd (fop .mul .f32 a b) 8192 := (ha.mul hb (M := 4096) (by decide +kernel) (pm (by decide +kernel)) (plt 12 (by rw [c4096]; exact Rat.le_refl) (by omega))).mono (by decide +kernel)
  have h2 : Bd (fop .mul .f32 c d) 8192 := (hc.mul hd (M := 4096) (by decide +kernel) (pm (by decide +kernel)) (plt 12 (by rw [c4096]; exact Rat.le_refl) (by omega))).mono (by decide +kernel)
  have e : p2 (14 : Nat) = 16384 := by decide +kernel
  exact (h1.sub h2 (M := 16384) (by decide +kernel) (pm (by decide +kernel)) (plt 14 (by rw [e]; exact Rat.le_refl) (by omega))).mono (by decide +kernel)
theorem cross_bs {s t : S3} (h : BS s 64) (h' : BS t 64) : BS (crossC s t) 32768 := by
  have s0 : Bd s.1 64 := h 0
  have s1 : Bd s.2.1 64 := h 1
  have s2 : Bd s.2.2 64 := h 2
  have t0 : Bd t.1 64 := h' 0
  have t1 : Bd t.2.1 64 := h' 1
  have t2 : Bd t.2.2 64 := h' 2
  intro c
  match c with
  | 0 => exact cross_part s1 t2 s2 t1
  | 1 => exact cross_part s2 t0 s0 t2
  | c + 2 => exact cross_part s0 t1 s1 t0
theorem sq_part {a : Option Nat} (ha : Bd a 32768) : Bd (fop .mul .f32 a a) 2147483648 ∧ 0 ≤ cv .f32 (fop .mul .f32 a a) := by
  have e : p2 (30 : Nat) = 1073741824 := by decide +kernel
  have hl : (1073741824 : Rat) < p2 127 := plt 30 (by rw [e]; exact Rat.le_refl) (by omega)
  refine ⟨(ha.mul ha (M := 1073741824) (by decide +kernel) (pm (by decide +kernel)) hl).mono (by decide +kernel), ?_⟩
  refine mul_nn ha ha (by
    have : (32768 : Rat) * 32768 = 1073741824 := by decide +kernel
    rw [this]
    exact hl) ?_
  rcases Rat.le_total (a := 0) (b := cv .f32 a) with h | h
  · exact Rat.mul_nonneg h h
  · have := Rat.mul_nonneg (a := -cv .f32 a) (b := -cv .f32 a) (by grind) (by grind)
    grind
theorem dot_nn {s : S3} (h : BS s 32768) : Bd (dotC s s) (p2 40) ∧ 0 ≤ cv .f32 (dotC s s) := by
  obtain ⟨a1, a2⟩ := sq_part (h 0)
  obtain ⟨b1, b2⟩ := sq_part (h 1)
  obtain ⟨c1, c2⟩ := sq_part (h 2)
  have e : p2 (32 : Nat) = 4294967296 := by decide +kernel
  have e2 : p2 (34 : Nat) = 17179869184 := by decide +kernel
  have l1 : (4294967296 : Rat) < p2 127 := plt 32 (by rw [e]; exact Rat.le_refl) (by omega)
  have l2 : (17179869184 : Rat) < p2 127 := plt 34 (by rw [e2]; exact Rat.le_refl) (by omega)
  have s1 := a1.add b1 (M := 4294967296) (by decide +kernel) (pm (by decide +kernel)) l1
  have n1 := add_nn a1 b1 (by
    have : (2147483648 : Rat) + 2147483648 = 4294967296 := by decide +kernel
    rw [this]
    exact l1) a2 b2
  have s2 := s1.add c1 (M := 17179869184) (by decide +kernel) (pm (by decide +kernel)) l2
  have n2 := add_nn s1 c1 (rlt_of_le_of_lt (by decide +kernel : (2 * 4294967296 + 2147483648 : Rat) ≤ 17179869184) l2) n1 c2
  have e40 : (2 * 17179869184 : Rat) ≤ p2 40 := by decide +kernel
  exact ⟨s2.mono e40, n2⟩
theorem trm_nn {ss : List S3} (h : ∀ s ∈ ss, BS s 9) (T : List Int) (t : Nat) : Bd (trmC ss T t) (p2 23) ∧ 0 ≤ cv .f32 (trmC ss T t) := by
  have key : ∀ p, BS (ss.getD p z3) 9 := by
    intro p
    by_cases hp : p < ss.length
    · rw [List.getD_eq_getElem?_getD, List.getElem?_eq_getElem hp]
      exact h _ (List.getElem_mem hp)
    · rw [List.getD_eq_getElem?_getD, List.getElem?_eq_none (by omega)]
      exact bs_zero (by decide +kernel)
  have hc := cross_bs (less_bs (key (triIx T (3 * t + 1))) (key (triIx T (3 * t)))) (less_bs (key (triIx T (3 * t + 2))) (key (triIx T (3 * t))))
  obtain ⟨hd, hn⟩ := dot_nn hc
  obtain ⟨r1, r2, r3⟩ := root_fin hd.fin hn hd.ab.le
  have hp := p2_pos 23
  exact ⟨⟨r1, r3, by
    have : (0 : Rat) ≤ cv .f32 (rootC (dotC (crossC (l1S ss T t) (l2S ss T t)) (crossC (l1S ss T t) (l2S ss T t)))) := r2
    show -(p2 23) ≤ cv .f32 (trmC ss T t)
    have : (0 : Rat) ≤ cv .f32 (trmC ss T t) := r2
    grind⟩, r2⟩
theorem half_bd : Bd half32 1 ∧ cv .f32 half32 = 1 / 2 := by
  have e : cv .f32 half32 = 1 / 2 := by decide +kernel
  exact ⟨⟨by show rung FloatKind.f32.format _ < _; decide +kernel, by rw [e]; exact ⟨by decide +kernel, by decide +kernel⟩⟩, e⟩
theorem sum_nn {ss : List S3} (h : ∀ s ∈ ss, BS s 9) (T : List Int) : ∀ k : Nat, k ≤ 40 → Bd (sumT ss T k) (p2 (26 + 2 * k : Nat)) ∧ 0 ≤ cv .f32 (sumT ss T k)
  | 0, _ => by
    have e : cv .f32 (some 0) = 0 := by decide +kernel
    have hp := p2_pos (26 + 2 * 0 : Nat)
    refine ⟨⟨by show rung FloatKind.f32.format 0 < _; decide +kernel, ?_⟩, ?_⟩
    · show Ab (cv .f32 (some 0)) _
      rw [e]
      exact ⟨by grind, by grind⟩
    · show 0 ≤ cv .f32 (some 0)
      rw [e]
      exact Rat.le_refl
  | k + 1, hk => by
    obtain ⟨i1, i2⟩ := sum_nn h T k (by omega)
    obtain ⟨t1, t2⟩ := trm_nn h T k
    obtain ⟨b1, b2⟩ := half_bd
    have q : (1 : Rat) ≤ p2 (23 : Nat) := p2_one_le
    have m1 := b1.mul t1 (M := p2 (23 : Nat)) (by rw [Rat.one_mul]; exact Rat.le_refl) (pm q) (plt 23 Rat.le_refl (by omega))
    have n1 := mul_nn b1 t1 (by rw [Rat.one_mul]; exact plt 23 Rat.le_refl (by omega)) (by rw [b2]; exact Rat.mul_nonneg (by decide +kernel) t2)
    have g1 : (2 : Rat) * p2 (23 : Nat) ≤ p2 (26 + 2 * k : Nat) := by
      have : p2 ((23 : Nat) + 1) ≤ p2 (26 + 2 * k : Nat) := p2_mono (by omega)
      rw [p2_succ] at this
      exact this
    have g2 : p2 (26 + 2 * k : Nat) + 2 * p2 (23 : Nat) ≤ p2 (26 + 2 * k + 1 : Nat) := by
      have : p2 (26 + 2 * k + 1 : Nat) = 2 * p2 (26 + 2 * k : Nat) := p2_succN _
      rw [this]
      grind
    have g3 : p2 (26 + 2 * (k + 1) : Nat) = 2 * p2 (26 + 2 * k + 1 : Nat) := p2_succN _
    have s1 := i1.add m1 (M := p2 (26 + 2 * k + 1 : Nat)) g2 (pm p2_one_le) (plt (26 + 2 * k + 1) Rat.le_refl (by omega))
    have n2 := add_nn i1 m1 (rlt_of_le_of_lt g2 (plt (26 + 2 * k + 1) Rat.le_refl (by omega))) i2 n1
    rw [← g3] at s1
    exact ⟨s1, n2⟩
/-- The area of tiles is told, and not less than nothing. -/
theorem area_nn {ss : List S3} {p q : Int} (h : ∀ s ∈ ss, BS s 9) (hc : areaCan ss p q = true) (hp : p ≤ 4) (hq : q ≤ 4) : areaOk ss p q = true ∧ Fin .f32 (areaC ss p q) ∧ 0 ≤ cv .f32 (areaC ss p q) := by
  have hk : areaK p q ≤ 4 * (4 * 2) := by
    unfold areaK
    exact Nat.mul_le_mul (by omega) (Nat.mul_le_mul (by omega) (Nat.le_refl _))
  obtain ⟨s1, s2⟩ := sum_nn h (triM p p.toNat q.toNat) (areaK p q) (by omega)
  have s1 : Bd (areaS ss p q) _ := s1
  have s2 : 0 ≤ cv .f32 (areaS ss p q) := s2
  have hf := fin_finC s1.fin
  have hf : finC (areaS ss p q) = true := hf
  unfold areaOk areaC giveC
  rw [hc, hf]
  exact ⟨rfl, s1.fin, s2⟩
end Go.Proofs.Ytefnlalldgbcaaa
