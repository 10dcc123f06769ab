/-
  The plain law of patches, further: raised patches, corners.
-/
import Derived.Test.YtefnlalldgbcaaaPnum
namespace Go.Proofs.Ytefnlalldgbcaaa
open Go.RowKit

theorem shP_all : [2, 3].all (fun m => (List.range (m + 1)).all fun n => n == 0 || chk (shP (n : Int) (m : Int)) ((n : Rat) / (m : Rat)) (1 / 16777216)) = true := by decide +kernel
theorem shP_ap {m n : Nat} (hm : m = 2 ∨ m = 3) (h0 : 0 < n) (h1 : n ≤ m) : Ap .f32 (shP (n : Int) (m : Int)) ((n : Rat) / (m : Rat)) (1 / 16777216) := by
  have h2 := List.all_eq_true.1 shP_all m (by rcases hm with rfl | rfl <;> simp)
  have h3 := List.all_eq_true.1 h2 n (List.mem_range.2 (by omega))
  have hz : (n == 0) = false := by simp; omega
  rw [hz, Bool.false_or] at h3
  exact chk_ap h3
theorem frac_le {m n : Nat} (hm : m = 2 ∨ m = 3) (h1 : n ≤ m) : 0 ≤ (n : Rat) / (m : Rat) ∧ (n : Rat) / (m : Rat) ≤ 1 := by
  rcases hm with rfl | rfl
  · have hc : n = 0 ∨ n = 1 ∨ n = 2 := by omega
    rcases hc with rfl | rfl | rfl <;> decide +kernel
  · have hc : n = 0 ∨ n = 1 ∨ n = 2 ∨ n = 3 := by omega
    rcases hc with rfl | rfl | rfl | rfl <;> decide +kernel
/-- A spot times an inexact share. -/
theorem mul_frac {x c : Option Nat} {p k : Rat} (hx : Ap .f32 x p 0) (hc : Ap .f32 c k (1 / 16777216)) (hp : Ab p 4) (hk : Ab k 1) : Ap .f32 (fop .mul .f32 x c) (p * k) (9 * (1 / 16777216)) := by
  have h1 := p2m126
  have h2 := p2127
  have := Ap.mul (M := 5) hx hc hp hk (by grind) (by grind) (by grind)
  rw [uk32] at this
  exact this.mono (by grind)
theorem add_frac {x y : Option Nat} {p q e : Rat} (hx : Ap .f32 x p e) (hy : Ap .f32 y q (9 * (1 / 16777216))) (hp : Ab p 8) (hq : Ab q 4) (he : e ≤ 1) : Ap .f32 (fop .add .f32 x y) (p + q) (e + 25 * (1 / 16777216)) := by
  have h1 := p2m126
  have h2 := p2127
  obtain ⟨p1, p2'⟩ := hp
  obtain ⟨q1, q2⟩ := hq
  have := Ap.add (M := 16) hx hy ⟨by grind, by grind⟩ (by grind) (by grind)
  rw [uk32] at this
  exact this.mono (by grind)

def t1 (g : Nat) (V : Nat → Nat → Nat → Rat) (i j c : Nat) : Rat := if i + j < g + 1 then V i j c * (((g + 1 - i - j : Nat) : Rat) / ((g + 1 : Nat) : Rat)) else 0
def t2 (g : Nat) (V : Nat → Nat → Nat → Rat) (i j c : Nat) : Rat := if 0 < i then V (i - 1) j c * ((i : Rat) / ((g + 1 : Nat) : Rat)) else 0
def t3 (g : Nat) (V : Nat → Nat → Nat → Rat) (i j c : Nat) : Rat := if 0 < j then V i (j - 1) c * ((j : Rat) / ((g + 1 : Nat) : Rat)) else 0
theorem scale_ab {x k : Rat} (hx : Ab x 4) (h0 : 0 ≤ k) : Ab (x * k) (4 * k) := by
  obtain ⟨x1, x2⟩ := hx
  have a1 := Rat.mul_le_mul_of_nonneg_right x1 h0
  have a2 := Rat.mul_le_mul_of_nonneg_right x2 h0
  constructor <;> grind
theorem zero_ab {k : Rat} (h0 : 0 ≤ k) : Ab 0 (4 * k) := by constructor <;> grind
theorem t1_ab {g : Nat} {V : Nat → Nat → Nat → Rat} {i j : Nat} (hg : g + 1 = 2 ∨ g + 1 = 3) (hV : VB V g) (_hij : i + j ≤ g + 1) (c : Nat) : Ab (t1 g V i j c) (4 * (((g + 1 - i - j : Nat) : Rat) / ((g + 1 : Nat) : Rat))) := by
  have hf := frac_le (n := g + 1 - i - j) hg (by omega)
  unfold t1
  split
  · exact scale_ab (hV i j (by omega) c) hf.1
  · exact zero_ab hf.1
theorem t2_ab {g : Nat} {V : Nat → Nat → Nat → Rat} {i j : Nat} (hg : g + 1 = 2 ∨ g + 1 = 3) (hV : VB V g) (hij : i + j ≤ g + 1) (c : Nat) : Ab (t2 g V i j c) (4 * ((i : Rat) / ((g + 1 : Nat) : Rat))) := by
  have hf := frac_le (n := i) hg (by omega)
  unfold t2
  split
  · exact scale_ab (hV (i - 1) j (by omega) c) hf.1
  · exact zero_ab hf.1
theorem t3_ab {g : Nat} {V : Nat → Nat → Nat → Rat} {i j : Nat} (hg : g + 1 = 2 ∨ g + 1 = 3) (hV : VB V g) (hij : i + j ≤ g + 1) (c : Nat) : Ab (t3 g V i j c) (4 * ((j : Rat) / ((g + 1 : Nat) : Rat))) := by
  have hf := frac_le (n := j) hg (by omega)
  unfold t3
  split
  · exact scale_ab (hV i (j - 1) (by omega) c) hf.1
  · exact zero_ab hf.1
theorem weights {g i j : Nat} (hg : g + 1 = 2 ∨ g + 1 = 3) (hij : i + j ≤ g + 1) : ((g + 1 - i - j : Nat) : Rat) / ((g + 1 : Nat) : Rat) + (i : Rat) / ((g + 1 : Nat) : Rat) + (j : Rat) / ((g + 1 : Nat) : Rat) = 1 := by
  have hcg : g = 1 ∨ g = 2 := by omega
  have hci : i = 0 ∨ i = 1 ∨ i = 2 ∨ i = 3 := by omega
  have hcj : j = 0 ∨ j = 1 ∨ j = 2 ∨ j = 3 := by omega
  rcases hcg with rfl | rfl <;> rcases hci with rfl | rfl | rfl | rfl <;> rcases hcj with rfl | rfl | rfl | rfl <;> first | decide +kernel | (exfalso; omega)
theorem VB.raise {g : Nat} {V : Nat → Nat → Nat → Rat} (hg : g + 1 = 2 ∨ g + 1 = 3) (hV : VB V g) : VB (rV g V) (g + 1) := by
  intro i j hij c
  obtain ⟨a1, a2⟩ := t1_ab hg hV hij c
  obtain ⟨b1, b2⟩ := t2_ab hg hV hij c
  obtain ⟨c1, c2⟩ := t3_ab hg hV hij c
  have hw := weights hg hij
  have e : rV g V i j c = t1 g V i j c + t2 g V i j c + t3 g V i j c := rfl
  rw [e]
  constructor <;> grind
theorem pj_z (c : Nat) : Ap .f32 (pj c z3) 0 0 := by
  have h : Ap .f32 (some 0) 0 0 := by
    have := zero_ex.ap
    exact this.to (by have : ((0 : Int) : Rat) = 0 := rfl; rw [this]; grind)
  match c with
  | 0 => exact h
  | 1 => exact h
  | c + 2 => exact h
theorem raise_ap {ss : List S3} {g i j : Nat} {V : Nat → Nat → Nat → Rat} (hg : g + 1 = 2 ∨ g + 1 = 3) (hP : PAp ss V 0 g) (hV : VB V g) (hij : i + j ≤ g + 1) : ApS (raise3 ss g i j) (rV g V i j) (128 * (1 / 16777216)) := by
  intro c
  have hm : ((g + 1 : Nat) : Int) = (g : Int) + 1 := by omega
  have w1 := frac_le (n := g + 1 - i - j) hg (by omega)
  have w2 := frac_le (n := i) hg (by omega)
  have w3 := frac_le (n := j) hg (by omega)
  have hab : ∀ {k : Rat}, 0 ≤ k → k ≤ 1 → Ab k 1 := fun h0 h1 => ⟨h1, by grind⟩
  have b1 := t1_ab hg hV hij c
  have b2 := t2_ab hg hV hij c
  have b3 := t3_ab hg hV hij c
  have hw := weights hg hij
  have h1 : Ap .f32 (pj c (raise1 ss g i j)) (t1 g V i j c) (25 * (1 / 16777216)) := by
    unfold raise1 t1
    by_cases h : i + j < g + 1
    · rw [if_pos h, if_pos h, pj_add, pj_times]
      have hs := shP_ap (n := g + 1 - i - j) hg (by omega) (by omega)
      have en : ((g + 1 - i - j : Nat) : Int) = (g : Int) + 1 - (i : Int) - (j : Int) := by omega
      rw [en, hm] at hs
      have hv := hV i j (by omega) c
      have hmul := mul_frac (hP i j (by omega) c) hs hv (hab w1.1 w1.2)
      have hb := scale_ab hv w1.1
      have := add_frac (pj_z c) hmul ⟨by grind, by grind⟩ (by obtain ⟨x1, x2⟩ := hb; exact ⟨by grind, by grind⟩) (by grind)
      exact (this.to (by grind)).mono (by grind)
    · rw [if_neg h, if_neg h]
      exact (pj_z c).mono (by grind)
  have h2 : Ap .f32 (pj c (raise2 ss g i j)) (t1 g V i j c + t2 g V i j c) (50 * (1 / 16777216)) := by
    unfold raise2
    by_cases h : 0 < i
    · rw [if_pos h, pj_add, pj_times]
      have hs := shP_ap (n := i) hg h (by omega)
      rw [hm] at hs
      have hv := hV (i - 1) j (by omega) c
      have hmul := mul_frac (hP (i - 1) j (by omega) c) hs hv (hab w2.1 w2.2)
      have et : t2 g V i j c = V (i - 1) j c * ((i : Rat) / ((g + 1 : Nat) : Rat)) := by unfold t2; rw [if_pos h]
      rw [← et] at hmul
      have := add_frac h1 hmul (by obtain ⟨x1, x2⟩ := b1; exact ⟨by grind, by grind⟩) (by obtain ⟨x1, x2⟩ := b2; exact ⟨by grind, by grind⟩) (by grind)
      exact this.mono (by grind)
    · have et : t2 g V i j c = 0 := by unfold t2; rw [if_neg h]
      rw [if_neg h, et]
      exact (h1.to (by grind)).mono (by grind)
  unfold raise3
  have er : rV g V i j c = t1 g V i j c + t2 g V i j c + t3 g V i j c := rfl
  rw [er]
  by_cases h : 0 < j
  · rw [if_pos h, pj_add, pj_times]
    have hs := shP_ap (n := j) hg h (by omega)
    rw [hm] at hs
    have hv := hV i (j - 1) (by omega) c
    have hmul := mul_frac (hP i (j - 1) (by omega) c) hs hv (hab w3.1 w3.2)
    have et : t3 g V i j c = V i (j - 1) c * ((j : Rat) / ((g + 1 : Nat) : Rat)) := by unfold t3; rw [if_pos h]
    rw [← et] at hmul
    have := add_frac h2 hmul (by obtain ⟨x1, x2⟩ := b1; obtain ⟨y1, y2⟩ := b2; exact ⟨by grind, by grind⟩) (by obtain ⟨x1, x2⟩ := b3; exact ⟨by grind, by grind⟩) (by grind)
    exact this.mono (by grind)
  · have et : t3 g V i j c = 0 := by unfold t3; rw [if_neg h]
    rw [if_neg h, et]
    exact (h2.to (by grind)).mono (by grind)

theorem raise_getD (ss : List S3) {g i j : Nat} (hg : g = 1 ∨ g = 2) (hij : i + j ≤ g + 1) : (raiseL ss g).getD (plc (g + 1) i j) z3 = raise3 ss g i j := by
  have hci : i = 0 ∨ i = 1 ∨ i = 2 ∨ i = 3 := by omega
  have hcj : j = 0 ∨ j = 1 ∨ j = 2 ∨ j = 3 := by omega
  rcases hg with rfl | rfl <;> rcases hci with rfl | rfl | rfl | rfl <;> rcases hcj with rfl | rfl | rfl | rfl <;> first | rfl | (exfalso; omega)
theorem raise_len (ss : List S3) {g : Nat} (hg : g = 1 ∨ g = 2) : (raiseL ss g).length = tot (g + 1) := by
  rcases hg with rfl | rfl <;> rfl
theorem raise_mem {ss : List S3} {g : Nat} {x : S3} (h : x ∈ raiseL ss g) : ∃ i j, i + j ≤ g + 1 ∧ x = raise3 ss g i j := by
  have e : raiseL ss g = rAll ss g (g + 2) := rfl
  rw [e] at h
  unfold rAll rRow at h
  simp only [List.mem_flatMap, List.mem_range, List.mem_map] at h
  obtain ⟨j, hj, i, hi, rfl⟩ := h
  exact ⟨i, j, by omega, rfl⟩
theorem raised_ap {ss : List S3} {g : Nat} {V : Nat → Nat → Nat → Rat} (hg : g = 1 ∨ g = 2) (hP : PAp ss V 0 g) (hV : VB V g) : PAp (raiseL ss g) (rV g V) (128 * (1 / 16777216)) (g + 1) ∧ VB (rV g V) (g + 1) ∧ finL (raiseL ss g) = true := by
  have hg' : g + 1 = 2 ∨ g + 1 = 3 := by omega
  refine ⟨?_, hV.raise hg', ?_⟩
  · intro i j hij
    rw [raise_getD ss hg hij]
    exact raise_ap hg' hP hV hij
  · apply finL_of
    intro x hx
    obtain ⟨i, j, hij, rfl⟩ := raise_mem hx
    exact (raise_ap hg' hP hV hij).finS

/-! ## nearness -/
theorem VB.iter {kc ka kb : Rat} {c a b : Option Nat} (s : Sh3 c a b kc ka kb) : ∀ (d : Nat) (V : Nat → Nat → Nat → Rat), VB V d → ∀ k, Ab (iterV kc ka kb d V 0 0 k) 4
  | 0, V, h, k => h 0 0 (by omega) k
  | d + 1, V, h, k => VB.iter s d _ (h.step s) k
theorem corner_c {V : Nat → Nat → Nat → Rat} {g : Nat} (hg : g = 1 ∨ g = 2) (k : Nat) : iterV 1 0 0 g V 0 0 k = V 0 0 k := by
  rcases hg with rfl | rfl <;> simp only [iterV, stepV] <;> grind
theorem corner_a {V : Nat → Nat → Nat → Rat} {g : Nat} (hg : g = 1 ∨ g = 2) (k : Nat) : iterV 0 1 0 g V 0 0 k = V g 0 k := by
  rcases hg with rfl | rfl <;> simp only [iterV, stepV] <;> grind
theorem corner_b {V : Nat → Nat → Nat → Rat} {g : Nat} (hg : g = 1 ∨ g = 2) (k : Nat) : iterV 0 0 1 g V 0 0 k = V 0 g k := by
  rcases hg with rfl | rfl <;> simp only [iterV, stepV] <;> grind

/-- All that the statement asks. -/
structure PatFacts (ss : List S3) (g : Nat) (a b : Option Nat) : Prop where
  ok1 : patOk ss g a b = true
  f1 : FinS (patC ss g a b) (p2 126)
  rok : raiseOk ss g = true
  rlen : (raiseL ss g).length = tot (g + 1)
  ok2 : patOk (raiseL ss g) ((g + 1 : Nat) : Int) a b = true
  f2 : FinS (patC (raiseL ss g) ((g + 1 : Nat) : Int) a b) (p2 126)
  near : NearS (patC ss g a b) (patC (raiseL ss g) ((g + 1 : Nat) : Int) a b) BB
  ok3 : patOk ss g (some 0) (some 0) = true
  f3 : FinS (patC ss g (some 0) (some 0)) (p2 126)
  n3 : NearS (patC ss g (some 0) (some 0)) (ss.getD 0 z3) BB
  ok4 : patOk ss g one32 (some 0) = true
  f4 : FinS (patC ss g one32 (some 0)) (p2 126)
  n4 : NearS (patC ss g one32 (some 0)) (ss.getD g z3) BB
  ok5 : patOk ss g (some 0) one32 = true
  f5 : FinS (patC ss g (some 0) one32) (p2 126)
  n5 : NearS (patC ss g (some 0) one32) (ss.getD (tot g - 1) z3) BB
  ok6 : patOk ss g one32 (some 1056964608) = false
  fs : ∀ p, p < ss.length → FinS (ss.getD p z3) (p2 126)
theorem patFacts {ss : List S3} {g : Nat} {r s : Nat} (hg : g = 1 ∨ g = 2) (hl : ss.length = tot g) (hQ : ∀ x ∈ ss, isQ x) (hr : r ≤ 8) (hs : s ≤ 8) : PatFacts ss g (xC r) (xC s) := by
  obtain ⟨hP, hV⟩ := first_ap (by omega) (by omega) hl hQ
  have hf : finL ss = true := finL_of fun x hx => isQ_fin (hQ x hx)
  obtain ⟨hRP, hRV, hRf⟩ := raised_ap hg hP hV
  have hRl := raise_len ss hg
  have ha := xC_ex hr
  have hb := xC_ex hs
  have sh := sh3_of ha hb (by omega) (by omega) (by omega)
  have ee1 : errN g 0 ≤ 256 * (1 / 16777216) := by rcases hg with rfl | rfl <;> decide +kernel
  have ee2 : errN (g + 1) (128 * (1 / 16777216)) ≤ 4288 * (1 / 16777216) := by rcases hg with rfl | rfl <;> decide +kernel
  obtain ⟨o1, p1⟩ := pat_ap (by omega) (by omega) hl hf hP hV Rat.le_refl (by grind) ha hb (by omega) (by omega) (by omega)
  obtain ⟨o2, p2'⟩ := pat_ap (g := g + 1) (by omega) (by omega) hRl hRf hRP hRV (by grind) (by grind) ha hb (by omega) (by omega) (by omega)
  obtain ⟨o3, p3⟩ := pat_ap (by omega) (by omega) hl hf hP hV Rat.le_refl (by grind) zero_ex zero_ex (by omega) (by omega) (by omega)
  obtain ⟨o4, p4⟩ := pat_ap (by omega) (by omega) hl hf hP hV Rat.le_refl (by grind) one_ex zero_ex (by omega) (by omega) (by omega)
  obtain ⟨o5, p5⟩ := pat_ap (by omega) (by omega) hl hf hP hV Rat.le_refl (by grind) zero_ex one_ex (by omega) (by omega) (by omega)
  have c0 : (((16 - 0 - 0 : Int)) : Rat) / 16 = 1 := by decide +kernel
  have c1 : ((0 : Int) : Rat) / 16 = 0 := by decide +kernel
  have c2 : (((16 - 16 - 0 : Int)) : Rat) / 16 = 0 := by decide +kernel
  have c3 : ((16 : Int) : Rat) / 16 = 1 := by decide +kernel
  have c4 : (((16 - 0 - 16 : Int)) : Rat) / 16 = 0 := by decide +kernel
  rw [c0, c1] at p3
  rw [c2, c3, c1] at p4
  rw [c4, c3, c1] at p5
  have q3 : ApS (patC ss g (some 0) (some 0)) (Vof ss g 0 0) (errN g 0) := fun k => (p3 k).to (corner_c hg k)
  have q4 : ApS (patC ss g one32 (some 0)) (Vof ss g g 0) (errN g 0) := fun k => (p4 k).to (corner_a hg k)
  have q5 : ApS (patC ss g (some 0) one32) (Vof ss g 0 g) (errN g 0) := fun k => (p5 k).to (corner_b hg k)
  have hid : ∀ k, iterV (((16 - (r : Int) - (s : Int) : Int) : Rat) / 16) (((r : Int) : Rat) / 16) (((s : Int) : Rat) / 16) (g + 1) (rV g (Vof ss g)) 0 0 k = iterV (((16 - (r : Int) - (s : Int) : Int) : Rat) / 16) (((r : Int) : Rat) / 16) (((s : Int) : Rat) / 16) g (Vof ss g) 0 0 k := by
    intro k
    rcases hg with rfl | rfl
    · exact iter_raise1 _ _ _ _ sh.one k
    · exact iter_raise2 _ _ _ _ sh.one k
  have q2 : ApS (patC (raiseL ss g) ((g + 1 : Nat) : Int) (xC r) (xC s)) (iterV (((16 - (r : Int) - (s : Int) : Int) : Rat) / 16) (((r : Int) : Rat) / 16) (((s : Int) : Rat) / 16) g (Vof ss g) 0 0) (errN (g + 1) (128 * (1 / 16777216))) := fun k => (p2' k).to (hid k)
  have hd0 : plc g 0 0 = 0 := by rcases hg with rfl | rfl <;> rfl
  have hdg : plc g g 0 = g := by rcases hg with rfl | rfl <;> rfl
  have hdt : plc g 0 g = tot g - 1 := by rcases hg with rfl | rfl <;> rfl
  have s0 := hP 0 0 (by omega)
  have sg' := hP g 0 (by omega)
  have st' := hP 0 g (by omega)
  rw [hd0] at s0
  rw [hdg] at sg'
  rw [hdt] at st'
  refine ⟨o1, finS_of p1 (VB.iter sh g _ hV) (by grind), ?_, hRl, o2, finS_of q2 (VB.iter sh g _ hV) (by grind), nearS_of p1 q2 (by grind), o3, finS_of q3 (hV 0 0 (by omega)) (by grind), nearS_of q3 s0 (by grind), o4, finS_of q4 (hV g 0 (by omega)) (by grind), nearS_of q4 sg' (by grind), o5, finS_of q5 (hV 0 g (by omega)) (by grind), nearS_of q5 st' (by grind), ?_, ?_⟩
  · unfold raiseOk
    rw [patch_true (by omega) (by omega) (by omega) hl hf, hRf]
    rfl
  · unfold patOk
    rw [can_false one_ex half_ex (by omega) (by omega) (by omega) (by omega) (by omega)]
    rfl
  · intro p hp
    have hq := hQ _ (getD_mem hp)
    exact finS_of (v := fun c => cv .f32 (pj c (ss.getD p z3))) (e := 0) (fun c => (isQ_ap hq c).1) (fun c => (isQ_ap hq c).2) (by grind)
end Go.Proofs.Ytefnlalldgbcaaa
