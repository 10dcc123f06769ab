/-
  The plain law of sheets: boxes hold their spots; the area of tiles is not less than nothing.
-/
import Derived.Test.YtefnlalldgbcaaaSk
import Derived.Test.YtefnlalldgbcaaaCut
import Derived.Test.YtefnlalldgbcaaaAreaS
import Derived.Test.YtefnlalldgbcaaaW
namespace Go.Proofs.Ytefnlalldgbcaaa
open Go.RowKit

/-! ## finite numbers within a bound -/
structure Bd (c : Option Nat) (M : Rat) : Prop where
  fin : Fin .f32 c
  ab : Ab (cv .f32 c) M
theorem Ab.mono {x V W : Rat} (h : Ab x V) (hw : V ≤ W) : Ab x W := by obtain ⟨a, b⟩ := h; exact ⟨by grind, by grind⟩
theorem Bd.mono {c : Option Nat} {M W : Rat} (h : Bd c M) (hw : M ≤ W) : Bd c W := ⟨h.fin, h.ab.mono hw⟩
theorem Bd.ex {c : Option Nat} {M : Rat} (h : Bd c M) : ∃ b, c = some b ∧ Fin .f32 (some b) ∧ Ab (rv .f32 b) M := by
  obtain ⟨hf, hb⟩ := h
  cases c with
  | none => exact hf.elim
  | some b => exact ⟨b, rfl, hf, hb⟩
theorem p2_succ (e : Int) : p2 (e + 1) = 2 * p2 e := by
  have h : p2 1 = 2 := by decide +kernel
  rw [p2_add, h]
  grind
theorem near_two {x y M : Rat} (h : Near x y (M * uk .f32)) (hy : Ab y M) (h0 : p2 (-126) ≤ M) : Ab x (2 * M) := by
  have hu : uk .f32 ≤ 1 := by rw [uk32]; decide +kernel
  have hM : 0 ≤ M := by have := p2_pos (-126); grind
  have hm := Rat.mul_le_mul_of_nonneg_left hu hM
  rw [Rat.mul_one] at hm
  obtain ⟨a, b⟩ := h
  obtain ⟨c, d⟩ := hy
  exact ⟨by grind, by grind⟩
theorem Bd.add {c d : Option Nat} {A B M : Rat} (h : Bd c A) (h' : Bd d B) (hM : A + B ≤ M) (h0 : p2 (-126) ≤ M) (h1 : M < p2 127) : Bd (fop .add .f32 c d) (2 * M) := by
  obtain ⟨a, rfl, ha, x1, x2⟩ := h.ex
  obtain ⟨b, rfl, hb, y1, y2⟩ := h'.ex
  have hs : Ab (rv .f32 a + rv .f32 b) M := ⟨by grind, by grind⟩
  obtain ⟨q1, q2⟩ := add_near ha hb hs h0 h1
  exact ⟨q1, near_two q2 hs h0⟩
theorem Bd.sub {c d : Option Nat} {A B M : Rat} (h : Bd c A) (h' : Bd d B) (hM : A + B ≤ M) (h0 : p2 (-126) ≤ M) (h1 : M < p2 127) : Bd (fop .sub .f32 c d) (2 * M) := by
  obtain ⟨a, rfl, ha, x1, x2⟩ := h.ex
  obtain ⟨b, rfl, hb, y1, y2⟩ := h'.ex
  have hs : Ab (rv .f32 a - rv .f32 b) M := ⟨by grind, by grind⟩
  obtain ⟨q1, q2⟩ := sub_near ha hb hs h0 h1
  exact ⟨q1, near_two q2 hs h0⟩
theorem Bd.mul {c d : Option Nat} {A B M : Rat} (h : Bd c A) (h' : Bd d B) (hM : A * B ≤ M) (h0 : p2 (-126) ≤ M) (h1 : M < p2 127) : Bd (fop .mul .f32 c d) (2 * M) := by
  obtain ⟨a, rfl, ha, x⟩ := h.ex
  obtain ⟨b, rfl, hb, y⟩ := h'.ex
  have hs : Ab (rv .f32 a * rv .f32 b) M := (x.mul y).mono hM
  obtain ⟨q1, q2⟩ := mul_near ha hb hs h0 h1
  exact ⟨q1, near_two q2 hs h0⟩
theorem add_nn {c d : Option Nat} {A B : Rat} (h : Bd c A) (h' : Bd d B) (hM : A + B < p2 127) (h0 : 0 ≤ cv .f32 c) (h0' : 0 ≤ cv .f32 d) : 0 ≤ cv .f32 (fop .add .f32 c d) := by
  obtain ⟨a, rfl, ha, x1, x2⟩ := h.ex
  obtain ⟨b, rfl, hb, y1, y2⟩ := h'.ex
  have h0 : 0 ≤ rv .f32 a := h0
  have h0' : 0 ≤ rv .f32 b := h0'
  obtain ⟨s, m, p, hr⟩ := fin_read ha
  obtain ⟨t, n, q, hs⟩ := fin_read hb
  have e : fop .add .f32 (some a) (some b) = (Ieee.Datum.sum (.number s m p) (.number t n q)).map FloatKind.f32.format.write := by
    show (Ieee.Datum.sum (FloatKind.f32.format.read a) (FloatKind.f32.format.read b)).map _ = _
    rw [hr, hs]
  rw [e]
  cases hd : Ieee.Datum.sum (.number s m p) (.number t n q) with
  | none => simp [Ieee.Datum.sum] at hd
  | some d =>
    obtain ⟨u, r, i, rfl, hv⟩ := sum_val hd
    have hv' : dv (.number u r i) = rv .f32 a + rv .f32 b := by rw [hv]; unfold rv; rw [hr, hs]
    have hab : Ab (dv (.number u r i)) (A + B) := by rw [hv']; exact ⟨by grind, by grind⟩
    refine write_nonneg (by rw [hv']; grind) (rlt_of_le_of_lt (mag_of_ab hab) hM)
theorem mul_nn {c d : Option Nat} {A B : Rat} (h : Bd c A) (h' : Bd d B) (hM : A * B < p2 127) (h0 : 0 ≤ cv .f32 c * cv .f32 d) : 0 ≤ cv .f32 (fop .mul .f32 c d) := by
  obtain ⟨a, rfl, ha, x⟩ := h.ex
  obtain ⟨b, rfl, hb, y⟩ := h'.ex
  have h0 : 0 ≤ rv .f32 a * rv .f32 b := h0
  obtain ⟨s, m, p, hr⟩ := fin_read ha
  obtain ⟨t, n, q, hs⟩ := fin_read hb
  have e : fop .mul .f32 (some a) (some b) = (Ieee.Datum.product (.number s m p) (.number t n q)).map FloatKind.f32.format.write := by
    show (Ieee.Datum.product (FloatKind.f32.format.read a) (FloatKind.f32.format.read b)).map _ = _
    rw [hr, hs]
  rw [e]
  cases hd : Ieee.Datum.product (.number s m p) (.number t n q) with
  | none => simp [Ieee.Datum.product] at hd
  | some d =>
    obtain ⟨u, r, i, rfl, hv⟩ := prod_val hd
    have hv' : dv (.number u r i) = rv .f32 a * rv .f32 b := by rw [hv]; unfold rv; rw [hr, hs]
    have hab : Ab (dv (.number u r i)) (A * B) := by rw [hv']; exact x.mul y
    refine write_nonneg (by rw [hv']; exact h0) (rlt_of_le_of_lt (mag_of_ab hab) hM)

/-! ## boxes -/
/-! ## areas -/
abbrev BS (s : S3) (M : Rat) : Prop := ∀ c, Bd (pj c s) M
theorem pj_less (c : Nat) (s t : S3) : pj c (lessS s t) = fop .sub .f32 (pj c s) (pj c t) := by
  match c with
  | 0 => rfl
  | 1 => rfl
  | c + 2 => rfl
theorem pm {M : Rat} (h : 1 ≤ M) : p2 (-126) ≤ M := by
  have h1 : p2 (-126) ≤ p2 0 := p2_mono (by decide)
  have h2 : p2 0 = 1 := by decide +kernel
  grind
theorem plt {M : Rat} (n : Nat) (h : M ≤ p2 (n : Int)) (hn : n < 127) : M < p2 127 := by
  have h1 : p2 ((n : Int) + 1) ≤ p2 127 := p2_mono (by omega)
  rw [p2_succ] at h1
  have := p2_pos (n : Int)
  grind
theorem sq_part {a : Option Nat} (ha : Bd a 32768) : Bd (fop .mul .f32 a a) 2147483648 ∧ 0 ≤ cv .f32 (fop .mul .f32 a a) := by
  have e : p2 (30 : Nat) = 1073741824 := by decide +kernel
  have hl : (1073741824 : Rat) < p2 127 := plt 30 (by rw [e]; exact Rat.le_refl) (by omega)
  refine ⟨(ha.mul ha (M := 1073741824) (by decide +kernel) (pm (by decide +kernel)) hl).mono (by decide +kernel), ?_⟩
  refine mul_nn ha ha (by
    have : (32768 : Rat) * 32768 = 1073741824 := by decide +kernel
    rw [this]
    exact hl) ?_
  rcases Rat.le_total (a := 0) (b := cv .f32 a) with h | h
  · exact Rat.mul_nonneg h h
  · have := Rat.mul_nonneg (a := -cv .f32 a) (b := -cv .f32 a) (by grind) (by grind)
    grind
theorem dot_nn {s : S3} (h : BS s 32768) : Bd (dotC s s) (p2 40) ∧ 0 ≤ cv .f32 (dotC s s) := by
  obtain ⟨a1, a2⟩ := sq_part (h 0)
  obtain ⟨b1, b2⟩ := sq_part (h 1)
  obtain ⟨c1, c2⟩ := sq_part (h 2)
  have e : p2 (32 : Nat) = 4294967296 := by decide +kernel
  have e2 : p2 (34 : Nat) = 17179869184 := by decide +kernel
  have l1 : (4294967296 : Rat) < p2 127 := plt 32 (by rw [e]; exact Rat.le_refl) (by omega)
  have l2 : (17179869184 : Rat) < p2 127 := plt 34 (by rw [e2]; exact Rat.le_refl) (by omega)
  have s1 := a1.add b1 (M := 4294967296) (by decide +kernel) (pm (by decide +kernel)) l1
  have n1 := add_nn a1 b1 (by
    have : (2147483648 : Rat) + 2147483648 = 4294967296 := by decide +kernel
    rw [this]
    exact l1) a2 b2
  have s2 := s1.add c1 (M := 17179869184) (by decide +kernel) (pm (by decide +kernel)) l2
  have n2 := add_nn s1 c1 (rlt_of_le_of_lt (by decide +kernel : (2 * 4294967296 + 2147483648 : Rat) ≤ 17179869184) l2) n1 c2
  have e40 : (2 * 17179869184 : Rat) ≤ p2 40 := by decide +kernel
  exact ⟨s2.mono e40, n2⟩
theorem half_bd : Bd half32 1 ∧ cv .f32 half32 = 1 / 2 := by
  have e : cv .f32 half32 = 1 / 2 := by decide +kernel
  exact ⟨⟨by show rung FloatKind.f32.format _ < _; decide +kernel, by rw [e]; exact ⟨by decide +kernel, by decide +kernel⟩⟩, e⟩
end Go.Proofs.Ytefnlalldgbcaaa

namespace Go.Proofs.Ytefnlalldgbcaaa
open Go.RowKit
attribute [local irreducible] Code.wp wpList Oper.wp Calls bodyPost Exit.then Exit.inBlock

theorem IsSL.pushF {bs : List B3} {b : B3} {ss : List S3} {s : S3} (h : IsSL bs ss) (hb : IsS b s) : IsSL (bs ++ [b]) (ss ++ [s]) := by
  have hl := h.len
  refine ⟨by simp [hl], ?_⟩
  intro i b' s' hi hs
  rcases Nat.lt_or_ge i bs.length with hlt | hge
  · rw [List.getElem?_append_left hlt] at hi
    rw [List.getElem?_append_left (by omega)] at hs
    exact h.get i b' s' hi hs
  · rw [List.getElem?_append_right hge] at hi
    rw [List.getElem?_append_right (by omega)] at hs
    have h0 : i - bs.length = 0 := by
      have := (List.getElem?_eq_some_iff.1 hi).1
      simp at this
      omega
    rw [h0] at hi
    rw [show i - ss.length = 0 by omega] at hs
    simp at hi hs
    subst hi
    subst hs
    exact hb

/-- The spot in column i and row j of a flat sheet. -/
def flatS (M K : Nat) (wc lc : Option Nat) (i j : Nat) : S3 := (fop .mul .f32 wc (fop .quo .f32 (some (floatOfInt .f32 (i : Int))) (some (floatOfInt .f32 ((M : Int) - 1)))), fop .mul .f32 lc (fop .quo .f32 (some (floatOfInt .f32 (j : Int))) (some (floatOfInt .f32 ((K : Int) - 1)))), some 0)
/-- The first c spots of a flat sheet. -/
def flatC (M K : Nat) (wc lc : Option Nat) (c : Nat) : List S3 := (List.range c).map fun k => flatS M K wc lc (k % M) (k / M)
theorem flatC_succ (M K : Nat) (wc lc : Option Nat) (c : Nat) : flatC M K wc lc (c + 1) = flatC M K wc lc c ++ [flatS M K wc lc (c % M) (c / M)] := by simp [flatC, List.range_succ]
theorem flatC_step (M K : Nat) (wc lc : Option Nat) (i j : Nat) (hi : i < M) : flatC M K wc lc (j * M + i + 1) = flatC M K wc lc (j * M + i) ++ [flatS M K wc lc i j] := by
  rw [flatC_succ, Nat.mul_comm j M, Nat.mul_add_mod, Nat.mod_eq_of_lt hi, Nat.mul_add_div (by omega), Nat.div_eq_of_lt hi, Nat.add_zero]

def flatCan (m n : Int) (wc lc : Option Nat) : Bool := (inB m 2 6 && inB n 2 6) && (finC wc && finC lc)
def flatL (m n : Int) (wc lc : Option Nat) : List S3 := flatC m.toNat n.toNat wc lc (m.toNat * n.toNat)
theorem flat_nums {m n : Int} {wc lc : Option Nat} (h : flatCan m n wc lc = true) : ∃ M K : Nat, m = M ∧ n = K ∧ 2 ≤ M ∧ M ≤ 6 ∧ 2 ≤ K ∧ K ≤ 6 ∧ (inB m 2 6 && inB n 2 6) = true ∧ inB m 2 6 = true ∧ inB n 2 6 = true ∧ finC wc = true ∧ finC lc = true := by
  unfold flatCan at h
  simp only [Bool.and_eq_true] at h
  obtain ⟨⟨h1, h2⟩, h3, h4⟩ := h
  have h1' := h1
  have h2' := h2
  simp only [inB, Bool.and_eq_true, decide_eq_true_eq] at h1 h2
  exact ⟨m.toNat, n.toNat, by omega, by omega, by omega, by omega, by omega, by omega, by rw [h1', h2']; rfl, h1', h2', h3, h4⟩

end Go.Proofs.Ytefnlalldgbcaaa

namespace Go.Proofs.Ytefnlalldgbcaaa
open Go.RowKit

/-! ## shares -/
theorem xS_all : (List.range 17).all (fun n => chkE (xC (n : Int)) (n : Int) (-4)) = true := by decide +kernel
theorem xS_ex {n : Nat} (h : n ≤ 16) : Ex' .f32 (xC n) n (-4) := chkE_ex (List.all_eq_true.1 xS_all n (List.mem_range.2 (by omega)))
theorem intR {i j : Int} (h : i ≤ j) : (i : Rat) ≤ (j : Rat) := Rat.intCast_le_intCast.2 h
theorem sha4 {c : Option Nat} {j : Int} (h : Ex' .f32 c j (-4)) (h0 : 0 ≤ j) (h1 : j ≤ 16) : Sha c := by
  have g0 := intR h0
  have g1 := intR h1
  have c0 : ((0 : Int) : Rat) = 0 := rfl
  have c1 : ((16 : Int) : Rat) = 16 := rfl
  rw [c0] at g0
  rw [c1] at g1
  have hv := h.val
  rw [p2m4] at hv
  exact ⟨h.fin, by rw [hv]; grind, by rw [hv]; grind⟩
def chkS (c : Option Nat) : Bool := match c with
  | none => false
  | some b => decide (rung FloatKind.f32.format b < FloatKind.f32.format.infRung) && (decide (0 ≤ rv .f32 b) && decide (rv .f32 b ≤ 1))
theorem chkS_sha {c : Option Nat} (h : chkS c = true) : Sha c := by
  unfold chkS at h
  cases c with
  | none => cases h
  | some b =>
    simp only [Bool.and_eq_true, decide_eq_true_eq] at h
    exact ⟨h.1, h.2.1, h.2.2⟩
theorem shr_all : (List.range 5).all (fun m => (List.range (m + 1)).all fun i => m == 0 || chkS (shr (i : Int) (m : Int))) = true := by decide +kernel
theorem shr_sha {i m : Nat} (h0 : 1 ≤ m) (h1 : m ≤ 4) (hi : i ≤ m) : Sha (shr i m) := by
  have h2 := List.all_eq_true.1 (List.all_eq_true.1 shr_all m (List.mem_range.2 (by omega))) i (List.mem_range.2 (by omega))
  have h3 : (m == 0) = false := by simp; omega
  simp only [h3, Bool.false_or] at h2
  exact chkS_sha h2
/-! ## what is drawn -/
def is4 (s : S3) : Prop := BS s 4
theorem isQ_4 {s : S3} (h : isQ s) : is4 s := fun c => ⟨(isQ_ap h c).1.fin, (isQ_ap h c).2⟩
/-! ## nearness -/
theorem finS8 {s : S3} {v : Nat → Rat} {e : Rat} (h : ApS s v e) (hv : ∀ c, Ab (v c) 8) (he : e ≤ 1) : FinS s (p2 126) := by
  have hb : (9 : Rat) ≤ p2 126 := by
    have h1 : p2 10 ≤ p2 126 := p2_mono (by decide)
    have h2 : p2 10 = 1024 := by decide +kernel
    grind
  have key : ∀ c, Ab (cv .f32 (pj c s)) (p2 126) := by
    intro c
    obtain ⟨x1, x2⟩ := (h c).ab (hv c)
    exact ⟨by grind, by grind⟩
  exact ⟨(h 0).fin, (h 1).fin, (h 2).fin, key 0, key 1, key 2⟩
theorem apart_of {s t : S3} {v : Nat → Rat} {e f : Rat} (h : ApS s v e) (h' : ApS t v f) (hb : ∀ c, Ab (v c) 8) (he : e ≤ 1) (hf : f ≤ 1) (hef : e + f ≤ 1 / 2048) : FinS s (p2 126) ∧ FinS t (p2 126) ∧ NearS s t BB := ⟨finS8 h hb he, finS8 h' hb hf, nearS_of h h' hef⟩

/-! ## all places of a sheet that the statement asks for -/
abbrev AF (s t : S3) : Prop := FinS s (p2 126) ∧ FinS t (p2 126) ∧ NearS s t BB
/-! ## tiles -/
theorem bs_fin {s : S3} {M : Rat} (h : BS s M) : finS s = true := by
  have f0 : finC s.1 = true := fin_finC (h 0).fin
  have f1 : finC s.2.1 = true := fin_finC (h 1).fin
  have f2 : finC s.2.2 = true := fin_finC (h 2).fin
  unfold finS
  rw [f0, f1, f2]
  rfl
/-! ## edges -/
end Go.Proofs.Ytefnlalldgbcaaa
