/-
  The plain law of patches: what rounding costs, patches that are raised, corners.
-/
import Derived.Test.YtefnlalldgbcaaaPau
import Derived.Test.YtefnlalldgbcaaaAps
namespace Go.Proofs.Ytefnlalldgbcaaa
open Go.RowKit

theorem mul_share {x c : Option Nat} {p k e : Rat} (hx : Ap .f32 x p e) (hc : Shr c k) (hp : Ab p 4) (he : e ≤ 1) : Ap .f32 (fop .mul .f32 x c) (p * k) (e + 5 * (1 / 16777216)) := by
  have h1 := p2m126
  have h2 := p2127
  have := Ap.mul (M := 5) hx hc.ap hp hc.ab (by grind) (by grind) (by grind)
  rw [uk32] at this
  exact this.mono (by grind)
theorem tri_ap {x y z c a b : Option Nat} {p q r kc ka kb e : Rat} (hx : Ap .f32 x p e) (hy : Ap .f32 y q e) (hz : Ap .f32 z r e) (hc : Shr c kc) (ha : Shr a ka) (hb : Shr b kb) (hp : Ab p 4) (hq : Ab q 4) (hr : Ab r 4) (he : e ≤ 1) :
    Ap .f32 (fop .add .f32 (fop .add .f32 (fop .mul .f32 x c) (fop .mul .f32 y a)) (fop .mul .f32 z b)) (p * kc + q * ka + r * kb) (3 * e + 64 * (1 / 16777216)) := by
  have g1 := p2m126
  have g2 := p2127
  have m1 := mul_share hx hc hp he
  have m2 := mul_share hy ha hq he
  have m3 := mul_share hz hb hr he
  have b1 := hp.mul hc.ab
  have b2 := hq.mul ha.ab
  have b3 := hr.mul hb.ab
  obtain ⟨b11, b12⟩ := b1
  obtain ⟨b21, b22⟩ := b2
  obtain ⟨b31, b32⟩ := b3
  have s1 := Ap.add (M := 16) m1 m2 ⟨by grind, by grind⟩ (by grind) (by grind)
  rw [uk32] at s1
  have s1 := s1.mono (f := 2 * e + 26 * (1 / 16777216)) (by grind)
  have s2 := Ap.add (M := 32) s1 m3 ⟨by grind, by grind⟩ (by grind) (by grind)
  rw [uk32] at s2
  exact s2.mono (by grind)

/-- A patch of degree d whose spots are near to numbers. -/
def PAp (ss : List S3) (V : Nat → Nat → Nat → Rat) (e : Rat) (d : Nat) : Prop := ∀ i j, i + j ≤ d → ApS (ss.getD (plc d i j) z3) (V i j) e
/-- The numbers are within 4. -/
def VB (V : Nat → Nat → Nat → Rat) (d : Nat) : Prop := ∀ i j, i + j ≤ d → ∀ c, Ab (V i j c) 4
def stepV (kc ka kb : Rat) (V : Nat → Nat → Nat → Rat) : Nat → Nat → Nat → Rat := fun i j c => V i j c * kc + V (i + 1) j c * ka + V i (j + 1) c * kb
def iterV (kc ka kb : Rat) : Nat → (Nat → Nat → Nat → Rat) → Nat → Nat → Nat → Rat
  | 0, V => V
  | d + 1, V => iterV kc ka kb d (stepV kc ka kb V)
/-- Three shares that make one. -/
structure Sh3 (c a b : Option Nat) (kc ka kb : Rat) : Prop where
  c : Shr c kc
  a : Shr a ka
  b : Shr b kb
  one : kc + ka + kb = 1

theorem convex {x y z kc ka kb : Rat} (hx : Ab x 4) (hy : Ab y 4) (hz : Ab z 4) (hc : 0 ≤ kc) (ha : 0 ≤ ka) (hb : 0 ≤ kb) (h1 : kc + ka + kb = 1) : Ab (x * kc + y * ka + z * kb) 4 := by
  obtain ⟨x1, x2⟩ := hx
  obtain ⟨y1, y2⟩ := hy
  obtain ⟨z1, z2⟩ := hz
  have a1 := Rat.mul_le_mul_of_nonneg_right x1 hc
  have a2 := Rat.mul_le_mul_of_nonneg_right x2 hc
  have b1 := Rat.mul_le_mul_of_nonneg_right y1 ha
  have b2 := Rat.mul_le_mul_of_nonneg_right y2 ha
  have c1 := Rat.mul_le_mul_of_nonneg_right z1 hb
  have c2 := Rat.mul_le_mul_of_nonneg_right z2 hb
  have e : 4 * kc + 4 * ka + 4 * kb = 4 := by grind
  constructor <;> grind
theorem VB.step {kc ka kb : Rat} {c a b : Option Nat} {V : Nat → Nat → Nat → Rat} {d : Nat} (h : VB V (d + 1)) (s : Sh3 c a b kc ka kb) : VB (stepV kc ka kb V) d := by
  intro i j hij k
  exact convex (h i j (by omega) k) (h (i + 1) j (by omega) k) (h i (j + 1) (by omega) k) s.c.ge s.a.ge s.b.ge s.one

theorem pAll_getD (ss : List S3) (c a b : Option Nat) {d i j : Nat} (hd : d ≤ 2) (h : i + j ≤ d) : (pAll ss c a b (d + 1) (d + 1)).getD (plc d i j) z3 = pat1 ss c a b (d + 1) i j := by
  have h1 := rowOf_getD (tt := pAll ss c a b (d + 1) (d + 1)) (d := d) (j := j) (i := i) (by omega)
  rw [← h1, rowOf_next ss c a b d j hd (by omega)]
  unfold pRow
  rw [List.getD_eq_getElem?_getD, List.getElem?_map, List.getElem?_range (by omega)]
  rfl
theorem PAp.step {kc ka kb e : Rat} {c a b : Option Nat} {V : Nat → Nat → Nat → Rat} {ss : List S3} {d : Nat} (h : PAp ss V e (d + 1)) (hV : VB V (d + 1)) (s : Sh3 c a b kc ka kb) (hd : d ≤ 2) (he : e ≤ 1) : PAp (pAll ss c a b (d + 1) (d + 1)) (stepV kc ka kb V) (3 * e + 64 * (1 / 16777216)) d := by
  intro i j hij k
  rw [pAll_getD ss c a b hd hij]
  unfold pat1
  rw [pj_add, pj_add, pj_times, pj_times, pj_times]
  exact tri_ap (h i j (by omega) k) (h (i + 1) j (by omega) k) (h i (j + 1) (by omega) k) s.c s.a s.b (hV i j (by omega) k) (hV (i + 1) j (by omega) k) (hV i (j + 1) (by omega) k) he
def errN : Nat → Rat → Rat
  | 0, e => e
  | d + 1, e => errN d (3 * e + 64 * (1 / 16777216))
theorem headD_getD (tt : List S3) : tt.headD z3 = tt.getD 0 z3 := by cases tt <;> rfl
theorem PAp.all {kc ka kb : Rat} {c a b : Option Nat} (s : Sh3 c a b kc ka kb) : ∀ (d : Nat) (e : Rat) (V : Nat → Nat → Nat → Rat) (ss : List S3), d ≤ 3 → PAp ss V e d → VB V d → errN d e ≤ 1 → 0 ≤ e → e ≤ errN d e → (∀ d' e', d' ≤ d → 0 ≤ e' → e' ≤ errN d' e') → ApS ((pN c a b d ss).headD z3) (iterV kc ka kb d V 0 0) (errN d e)
  | 0, e, V, ss, _, h, _, _, _, _, _ => by
    have := h 0 0 (by omega)
    show ApS (ss.headD z3) (V 0 0) e
    rw [headD_getD]
    exact this
  | d + 1, e, V, ss, hd, h, hV, he, he0, hle, hm => by
    have e1 : (0 : Rat) ≤ 3 * e + 64 * (1 / 16777216) := by grind
    have e2 := hm d (3 * e + 64 * (1 / 16777216)) (by omega) e1
    have e3 : errN (d + 1) e = errN d (3 * e + 64 * (1 / 16777216)) := rfl
    rw [e3] at he
    exact PAp.all s d _ _ _ (by omega) (h.step hV s (by omega) (by grind)) (hV.step s) he e1 e2 fun d' e' hd' he' => hm d' e' (by omega) he'
theorem errN_ge : ∀ (d : Nat) (e : Rat), 0 ≤ e → e ≤ errN d e
  | 0, e, _ => Rat.le_refl
  | d + 1, e, h => by
    have := errN_ge d (3 * e + 64 * (1 / 16777216)) (by grind)
    show e ≤ errN d _
    grind

/-! ## raised patches -/
def rV (g : Nat) (V : Nat → Nat → Nat → Rat) : Nat → Nat → Nat → Rat := fun i j c =>
  ((if i + j < g + 1 then V i j c * (((g + 1 - i - j : Nat) : Rat) / ((g + 1 : Nat) : Rat)) else 0) + (if 0 < i then V (i - 1) j c * ((i : Rat) / ((g + 1 : Nat) : Rat)) else 0)) + (if 0 < j then V i (j - 1) c * ((j : Rat) / ((g + 1 : Nat) : Rat)) else 0)
theorem iter_raise1 (V : Nat → Nat → Nat → Rat) (kc ka kb : Rat) (h : kc + ka + kb = 1) (c : Nat) : iterV kc ka kb 2 (rV 1 V) 0 0 c = iterV kc ka kb 1 V 0 0 c := by
  have e : kc = 1 - ka - kb := by grind
  subst e
  simp only [iterV, stepV, rV]
  simp
  generalize V 0 0 c = x0
  generalize V 1 0 c = x1
  generalize V 0 1 c = x2
  grind
theorem iter_raise2 (V : Nat → Nat → Nat → Rat) (kc ka kb : Rat) (h : kc + ka + kb = 1) (c : Nat) : iterV kc ka kb 3 (rV 2 V) 0 0 c = iterV kc ka kb 2 V 0 0 c := by
  have e : kc = 1 - ka - kb := by grind
  subst e
  simp only [iterV, stepV, rV]
  simp
  generalize V 0 0 c = x0
  generalize V 1 0 c = x1
  generalize V 2 0 c = x2
  generalize V 0 1 c = x3
  generalize V 1 1 c = x4
  generalize V 0 2 c = x5
  grind

/-! ## what is drawn, shares -/
theorem xC_all : (List.range 9).all (fun n => chkE (xC (n : Int)) (n : Int) (-4)) = true := by decide +kernel
theorem xC_ex {n : Nat} (h : n ≤ 8) : Ex' .f32 (xC n) n (-4) := chkE_ex (List.all_eq_true.1 xC_all n (List.mem_range.2 (by omega)))
theorem cPat_ex {a b : Option Nat} {r s : Int} (ha : Ex' .f32 a r (-4)) (hb : Ex' .f32 b s (-4)) (hr : 0 ≤ r) (hr1 : r ≤ 16) (hs : 0 ≤ s) (hs1 : s ≤ 16) : Ex' .f32 (cPat a b) (16 - r - s) (-4) :=
  (one_ex.sub ha (by omega) (by decide) (by decide)).sub hb (by omega) (by decide) (by decide)
theorem geZ_ex {c : Option Nat} {j : Int} (h : Ex' .f32 c j (-4)) : geZ c = decide (0 ≤ j) := by
  unfold geZ
  have h0 : Fin .f32 (some 0) := zero_ex.fin
  rw [fge_iff h.fin h0, zero_ex.val, h.val, p2m4]
  apply decide_eq_decide.2
  have hc : ((0 : Int) : Rat) = 0 := rfl
  constructor
  · intro hh
    have : ((0 : Int) : Rat) ≤ (j : Rat) := by rw [hc] at hh ⊢; grind
    exact Rat.intCast_le_intCast.1 this
  · intro hh
    have : ((0 : Int) : Rat) ≤ (j : Rat) := Rat.intCast_le_intCast.2 hh
    rw [hc] at this ⊢
    grind
theorem shr_ex {c : Option Nat} {j : Int} (h : Ex' .f32 c j (-4)) (h0 : 0 ≤ j) (h1 : j ≤ 16) : Shr c ((j : Rat) / 16) := by
  have g0 : ((0 : Int) : Rat) ≤ (j : Rat) := Rat.intCast_le_intCast.2 h0
  have g1 : (j : Rat) ≤ ((16 : Int) : Rat) := Rat.intCast_le_intCast.2 h1
  have c0 : ((0 : Int) : Rat) = 0 := rfl
  have c1 : ((16 : Int) : Rat) = 16 := rfl
  rw [c0] at g0
  rw [c1] at g1
  have e := h.ap
  rw [p2m4] at e
  exact ⟨e.to (by grind), by grind, by grind⟩
theorem sh3_of {a b : Option Nat} {r s : Int} (ha : Ex' .f32 a r (-4)) (hb : Ex' .f32 b s (-4)) (hr : 0 ≤ r) (hs : 0 ≤ s) (h : r + s ≤ 16) : Sh3 (cPat a b) a b (((16 - r - s : Int) : Rat) / 16) ((r : Rat) / 16) ((s : Rat) / 16) := by
  refine ⟨shr_ex (cPat_ex ha hb hr (by omega) hs (by omega)) (by omega) (by omega), shr_ex ha hr (by omega), shr_ex hb hs (by omega), ?_⟩
  rw [Rat.intCast_sub, Rat.intCast_sub]
  have c1 : ((16 : Int) : Rat) = 16 := rfl
  rw [c1]
  grind

/-! ## the statement's facts -/
/-- What a patch's spots are. -/
def Vof (ss : List S3) (d : Nat) : Nat → Nat → Nat → Rat := fun i j c => cv .f32 (pj c (ss.getD (plc d i j) z3))
theorem first_ap {ss : List S3} {g : Nat} (hg1 : 1 ≤ g) (hg : g ≤ 3) (hl : ss.length = tot g) (hQ : ∀ s ∈ ss, isQ s) : PAp ss (Vof ss g) 0 g ∧ VB (Vof ss g) g := by
  have key : ∀ i j, i + j ≤ g → isQ (ss.getD (plc g i j) z3) := fun i j hij => hQ _ (getD_mem (by rw [hl]; exact plc_lt hg1 hg hij))
  exact ⟨fun i j hij c => (isQ_ap (key i j hij) c).1, fun i j hij c => (isQ_ap (key i j hij) c).2⟩
theorem patch_true {ss : List S3} {g : Nat} {most : Int} (hg1 : 1 ≤ g) (hg : g ≤ 3) (hm : (g : Int) ≤ most) (hl : ss.length = tot g) (hf : finL ss = true) : patchC ss g most = true := by
  unfold patchC inB
  rw [hf]
  have h1 : decide ((1 : Int) ≤ (g : Int)) = true := decide_eq_true (by omega)
  have h2 : decide ((g : Int) ≤ most) = true := decide_eq_true hm
  have h3 : ((ss.length : Int) == ((g : Int) + 1) * ((g : Int) + 2) / 2) = true := by
    rw [hl]
    have hc : g = 1 ∨ g = 2 ∨ g = 3 := by omega
    rcases hc with rfl | rfl | rfl <;> rfl
  rw [h1, h2, h3]
  rfl
theorem can_true {ss : List S3} {g : Nat} {a b : Option Nat} {r s : Int} (hg1 : 1 ≤ g) (hg : g ≤ 3) (hl : ss.length = tot g) (hf : finL ss = true) (ha : Ex' .f32 a r (-4)) (hb : Ex' .f32 b s (-4)) (hr : 0 ≤ r) (hs : 0 ≤ s) (h : r + s ≤ 16) : patCan ss g a b = true := by
  unfold patCan
  rw [patch_true hg1 hg (by omega) hl hf, geZ_ex ha, geZ_ex hb, geZ_ex (cPat_ex ha hb hr (by omega) hs (by omega)), decide_eq_true hr, decide_eq_true hs, decide_eq_true (by omega)]
  rfl
theorem can_false {ss : List S3} {d : Int} {a b : Option Nat} {r s : Int} (ha : Ex' .f32 a r (-4)) (hb : Ex' .f32 b s (-4)) (hr : 0 ≤ r) (hr1 : r ≤ 16) (hs : 0 ≤ s) (hs1 : s ≤ 16) (h : 16 < r + s) : patCan ss d a b = false := by
  unfold patCan
  rw [geZ_ex (cPat_ex ha hb hr hr1 hs hs1), decide_eq_false (by omega)]
  simp

/-- What 'PatchAt' gives, near to what it should. -/
theorem pat_ap {ss : List S3} {g : Nat} {V : Nat → Nat → Nat → Rat} {e : Rat} {a b : Option Nat} {r s : Int} (hg1 : 1 ≤ g) (hg : g ≤ 3) (hl : ss.length = tot g) (hf : finL ss = true) (hP : PAp ss V e g) (hV : VB V g) (he0 : 0 ≤ e) (he : errN g e ≤ 1) (ha : Ex' .f32 a r (-4)) (hb : Ex' .f32 b s (-4)) (hr : 0 ≤ r) (hs : 0 ≤ s) (h : r + s ≤ 16) :
    patOk ss g a b = true ∧ ApS (patC ss g a b) (iterV (((16 - r - s : Int) : Rat) / 16) ((r : Rat) / 16) ((s : Rat) / 16) g V 0 0) (errN g e) := by
  have hcan := can_true hg1 hg hl hf ha hb hr hs h
  have hap := PAp.all (sh3_of ha hb hr hs h) g e V ss hg hP hV he he0 (errN_ge g e he0) (fun d' e' _ h0 => errN_ge d' e' h0)
  have hpa : patAt ss g a b = (pN (cPat a b) a b g ss).headD z3 := rfl
  have hfin := hap.finS
  rw [← hpa] at hap hfin
  unfold patOk patC
  rw [hcan, hfin]
  refine ⟨rfl, ?_⟩
  show ApS (giveS (patAt ss g a b)) _ _
  unfold giveS
  rw [hfin]
  exact hap
end Go.Proofs.Ytefnlalldgbcaaa
