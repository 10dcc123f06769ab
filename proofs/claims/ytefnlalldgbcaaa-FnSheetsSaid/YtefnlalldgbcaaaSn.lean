/-
  The plain law of sheets: what the statement asks of drawn sheets.
-/
import Derived.Test.YtefnlalldgbcaaaSi
import Derived.Test.YtefnlalldgbcaaaSm
import Derived.Test.YtefnlalldgbcaaaFlat
namespace Go.Proofs.Ytefnlalldgbcaaa
open Go.RowKit

/-! ## shares -/
theorem xS_all : (List.range 17).all (fun n => chkE (xC (n : Int)) (n : Int) (-4)) = true := by decide +kernel
theorem xS_ex {n : Nat} (h : n ≤ 16) : Ex' .f32 (xC n) n (-4) := chkE_ex (List.all_eq_true.1 xS_all n (List.mem_range.2 (by omega)))
theorem p2m8 : p2 (-8) = 1 / 256 := by decide +kernel
theorem intR {i j : Int} (h : i ≤ j) : (i : Rat) ≤ (j : Rat) := Rat.intCast_le_intCast.2 h
theorem sha4 {c : Option Nat} {j : Int} (h : Ex' .f32 c j (-4)) (h0 : 0 ≤ j) (h1 : j ≤ 16) : Sha c := by
  have g0 := intR h0
  have g1 := intR h1
  have c0 : ((0 : Int) : Rat) = 0 := rfl
  have c1 : ((16 : Int) : Rat) = 16 := rfl
  rw [c0] at g0
  rw [c1] at g1
  have hv := h.val
  rw [p2m4] at hv
  exact ⟨h.fin, by rw [hv]; grind, by rw [hv]; grind⟩
theorem sha8 {c : Option Nat} {j : Int} (h : Ex' .f32 c j (-8)) (h0 : 0 ≤ j) (h1 : j ≤ 256) : Sha c := by
  have g0 := intR h0
  have g1 := intR h1
  have c0 : ((0 : Int) : Rat) = 0 := rfl
  have c1 : ((256 : Int) : Rat) = 256 := rfl
  rw [c0] at g0
  rw [c1] at g1
  have hv := h.val
  rw [p2m8] at hv
  exact ⟨h.fin, by rw [hv]; grind, by rw [hv]; grind⟩
abbrev mulT (u t : Option Nat) : Option Nat := fop .mul .f32 u t
abbrev pushT (u t : Option Nat) : Option Nat := fop .add .f32 t (fop .mul .f32 u (fop .sub .f32 one32 t))
theorem mulT_sha {u t : Option Nat} {r s : Int} (hu : Ex' .f32 u r (-4)) (ht : Ex' .f32 t s (-4)) (hr0 : 0 ≤ r) (hr1 : r ≤ 16) (hs0 : 0 ≤ s) (hs1 : s ≤ 16) : Sha (mulT u t) ∧ cv .f32 (mulT u t) = cv .f32 u * cv .f32 t := by
  have h1 : r * s ≤ 16 * 16 := Int.mul_le_mul hr1 hs1 hs0 (by decide)
  have h0 : 0 ≤ r * s := Int.mul_nonneg hr0 hs0
  have he := hu.mul ht (by omega) (by decide) (by decide)
  refine ⟨sha8 he h0 h1, ?_⟩
  rw [he.val, hu.val, ht.val, Rat.intCast_mul, p2_add]
  grind
theorem pushT_sha {u t : Option Nat} {r s : Int} (hu : Ex' .f32 u r (-4)) (ht : Ex' .f32 t s (-4)) (hr0 : 0 ≤ r) (hr1 : r ≤ 16) (hs0 : 0 ≤ s) (hs1 : s ≤ 16) : Sha (pushT u t) ∧ cv .f32 (pushT u t) = cv .f32 t + cv .f32 u * (1 - cv .f32 t) := by
  have hd := one_ex.sub ht (by omega) (by decide) (by decide)
  have h1 : r * (16 - s) ≤ 16 * (16 - s) := Int.mul_le_mul_of_nonneg_right hr1 (by omega)
  have h0 : 0 ≤ r * (16 - s) := Int.mul_nonneg hr0 (by omega)
  have hm : Ex' .f32 (fop .mul .f32 u (fop .sub .f32 one32 t)) (r * (16 - s)) (-8) := hu.mul hd (by omega) (by decide) (by decide)
  have ht8 : Ex' .f32 t (s * 2 ^ 4) (-8) := ht.finer 4
  have he := ht8.add hm (by omega) (by decide) (by decide)
  refine ⟨sha8 he (by omega) (by omega), ?_⟩
  show cv .f32 (fop .add .f32 t (fop .mul .f32 u (fop .sub .f32 one32 t))) = _
  rw [he.val, hu.val, ht.val, Rat.intCast_add, Rat.intCast_mul, Rat.intCast_mul, Rat.intCast_sub, p2m8, p2m4]
  have c1 : ((16 : Int) : Rat) = 16 := rfl
  have c2 : ((2 ^ 4 : Int) : Rat) = 16 := rfl
  rw [c1, c2]
  grind
def chkS (c : Option Nat) : Bool := match c with
  | none => false
  | some b => decide (rung FloatKind.f32.format b < FloatKind.f32.format.infRung) && (decide (0 ≤ rv .f32 b) && decide (rv .f32 b ≤ 1))
theorem chkS_sha {c : Option Nat} (h : chkS c = true) : Sha c := by
  unfold chkS at h
  cases c with
  | none => cases h
  | some b =>
    simp only [Bool.and_eq_true, decide_eq_true_eq] at h
    exact ⟨h.1, h.2.1, h.2.2⟩
theorem shr_all : (List.range 5).all (fun m => (List.range (m + 1)).all fun i => m == 0 || chkS (shr (i : Int) (m : Int))) = true := by decide +kernel
theorem shr_sha {i m : Nat} (h0 : 1 ≤ m) (h1 : m ≤ 4) (hi : i ≤ m) : Sha (shr i m) := by
  have h2 := List.all_eq_true.1 (List.all_eq_true.1 shr_all m (List.mem_range.2 (by omega))) i (List.mem_range.2 (by omega))
  have h3 : (m == 0) = false := by simp; omega
  simp only [h3, Bool.false_or] at h2
  exact chkS_sha h2
theorem zero_sha : Sha (some 0) := sha4 zero_ex (by decide) (by decide)
theorem one_sha : Sha one32 := sha4 one_ex (by decide) (by decide)

/-! ## what is drawn -/
def is4 (s : S3) : Prop := BS s 4
theorem isQ_4 {s : S3} (h : isQ s) : is4 s := fun c => ⟨(isQ_ap h c).1.fin, (isQ_ap h c).2⟩
def chkB (c : Option Nat) : Bool := match c with
  | none => false
  | some b => decide (rung FloatKind.f32.format b < FloatKind.f32.format.infRung) && (decide (rv .f32 b ≤ 4) && decide (-4 ≤ rv .f32 b))
theorem chkB_bd {c : Option Nat} (h : chkB c = true) : Bd c 4 := by
  unfold chkB at h
  cases c with
  | none => cases h
  | some b =>
    simp only [Bool.and_eq_true, decide_eq_true_eq] at h
    exact ⟨h.1, h.2.1, h.2.2⟩
abbrev four32 : Option Nat := some 1082130432
theorem flat_all : (List.range 3).all (fun m => (List.range (m + 2)).all fun i => chkB (fop .mul .f32 four32 (fop .quo .f32 (some (floatOfInt .f32 (i : Int))) (some (floatOfInt .f32 (((m + 2 : Nat) : Int) - 1))))) && chkB (fop .mul .f32 two32 (fop .quo .f32 (some (floatOfInt .f32 (i : Int))) (some (floatOfInt .f32 (((m + 2 : Nat) : Int) - 1)))))) = true := by decide +kernel
theorem flat_part {M i : Nat} (h2 : 2 ≤ M) (h4 : M ≤ 4) (hi : i < M) : Bd (fop .mul .f32 four32 (fop .quo .f32 (some (floatOfInt .f32 (i : Int))) (some (floatOfInt .f32 ((M : Int) - 1))))) 4 ∧ Bd (fop .mul .f32 two32 (fop .quo .f32 (some (floatOfInt .f32 (i : Int))) (some (floatOfInt .f32 ((M : Int) - 1))))) 4 := by
  obtain ⟨m, rfl⟩ : ∃ m, M = m + 2 := ⟨M - 2, by omega⟩
  have h := List.all_eq_true.1 (List.all_eq_true.1 flat_all m (List.mem_range.2 (by omega))) i (List.mem_range.2 hi)
  rw [Bool.and_eq_true] at h
  exact ⟨chkB_bd h.1, chkB_bd h.2⟩
theorem flat_4 {M K : Nat} (hM : 2 ≤ M) (hM4 : M ≤ 4) (hK : 2 ≤ K) (hK4 : K ≤ 4) : ∀ s ∈ flatC M K four32 two32 (M * K), is4 s := by
  intro s hs
  unfold flatC at hs
  obtain ⟨k, hk, rfl⟩ := List.mem_map.1 hs
  have hk := List.mem_range.1 hk
  have h1 := (flat_part hM hM4 (i := k % M) (Nat.mod_lt _ (by omega))).1
  have h2 := (flat_part hK hK4 (i := k / M) (Nat.div_lt_of_lt_mul hk)).2
  intro c
  match c with
  | 0 => exact h1
  | 1 => exact h2
  | c + 2 => exact (bs_zero (by decide +kernel : (0 : Rat) ≤ 4)) 2

/-- What a sheet's spots are. -/
def Vs (ss : List S3) (M : Nat) : Nat → Nat → Nat → Rat := fun j i c => cv .f32 (pj c (ss.getD (j * M + i) z3))
theorem sap_of {ss : List S3} {M K : Nat} (hl : ss.length = M * K) (h : ∀ s ∈ ss, is4 s) : SAp ss M K (Vs ss M) 0 := by
  have key : ∀ p, is4 (ss.getD p z3) := by
    intro p
    by_cases hp : p < ss.length
    · rw [List.getD_eq_getElem?_getD, List.getElem?_eq_getElem hp]
      exact h _ (List.getElem_mem hp)
    · rw [List.getD_eq_getElem?_getD, List.getElem?_eq_none (by omega)]
      exact bs_zero (by decide +kernel)
  exact ⟨hl, fun j i _ _ c => ⟨(key _ c).fin, by constructor <;> (show _ ≤ _; unfold Vs; grind)⟩, fun j i _ _ c => (key _ c).ab.mono (by decide +kernel)⟩

/-! ## nearness -/
theorem finS8 {s : S3} {v : Nat → Rat} {e : Rat} (h : ApS s v e) (hv : ∀ c, Ab (v c) 8) (he : e ≤ 1) : FinS s (p2 126) := by
  have hb : (9 : Rat) ≤ p2 126 := by
    have h1 : p2 10 ≤ p2 126 := p2_mono (by decide)
    have h2 : p2 10 = 1024 := by decide +kernel
    grind
  have key : ∀ c, Ab (cv .f32 (pj c s)) (p2 126) := by
    intro c
    obtain ⟨x1, x2⟩ := (h c).ab (hv c)
    exact ⟨by grind, by grind⟩
  exact ⟨(h 0).fin, (h 1).fin, (h 2).fin, key 0, key 1, key 2⟩
theorem apart_of {s t : S3} {v : Nat → Rat} {e f : Rat} (h : ApS s v e) (h' : ApS t v f) (hb : ∀ c, Ab (v c) 8) (he : e ≤ 1) (hf : f ≤ 1) (hef : e + f ≤ 1 / 2048) : FinS s (p2 126) ∧ FinS t (p2 126) ∧ NearS s t BB := ⟨finS8 h hb he, finS8 h' hb hf, nearS_of h h' hef⟩

/-! ## all places of a sheet that the statement asks for -/
abbrev AF (s t : S3) : Prop := FinS s (p2 126) ∧ FinS t (p2 126) ∧ NearS s t BB
structure SheF (ss : List S3) (M K : Nat) (u v t : Option Nat) : Prop where
  valid : validC M K ss = true
  at_ : sheetAtOk M K ss u v = true
  fvalid : validC K M (flipL ss M K) = true
  again : flipL (flipL ss M K) K M = ss
  fat : sheetAtOk K M (flipL ss M K) v u = true
  cut : cutCan M K ss t = true
  vA : validC M K (cutA ss M t K) = true
  vB : validC M K (cutB ss M t K) = true
  aat : sheetAtOk M K (cutA ss M t K) u v = true
  bat : sheetAtOk M K ss (mulT u t) v = true
  cat : sheetAtOk M K (cutB ss M t K) u v = true
  dat : sheetAtOk M K ss (pushT u t) v = true
  eat : sheetAtOk M K ss (some 0) one32 = true
  n1 : AF (sheetAtC K M (flipL ss M K) v u) (sheetAtC M K ss u v)
  n2 : AF (sheetAtC M K (cutA ss M t K) u v) (sheetAtC M K ss (mulT u t) v)
  n3 : AF (sheetAtC M K (cutB ss M t K) u v) (sheetAtC M K ss (pushT u t) v)
  n4 : AF (sheetAtC M K ss (some 0) one32) (ss.getD (M * (K - 1)) z3)
theorem sheF {ss : List S3} {M K : Nat} {u v t : Option Nat} {r p s : Nat} (hl : ss.length = M * K) (h4 : ∀ s ∈ ss, is4 s) (hM : 2 ≤ M) (hM4 : M ≤ 4) (hK : 2 ≤ K) (hK4 : K ≤ 4)
    (hu : Ex' .f32 u r (-4)) (hv : Ex' .f32 v p (-4)) (ht : Ex' .f32 t s (-4)) (hr : r ≤ 16) (hp : p ≤ 16) (hs : s ≤ 16) : SheF ss M K u v t := by
  have hS := sap_of hl h4
  have su := sha4 hu (by omega) (by omega)
  have sv := sha4 hv (by omega) (by omega)
  have st := sha4 ht (by omega) (by omega)
  obtain ⟨sm, em⟩ := mulT_sha hu ht (by omega) (by omega) (by omega) (by omega)
  obtain ⟨sp, ep⟩ := pushT_sha hu ht (by omega) (by omega) (by omega) (by omega)
  have d0 : (0 : Rat) ≤ DD := by decide +kernel
  have c1 : (0 : Rat) + 8 * DD ≤ 1 / 2 := by decide +kernel
  have c2 : (0 : Rat) + 4 * DD ≤ 1 / 2 := by decide +kernel
  have c3 : (0 : Rat) ≤ 0 + 4 * DD := by decide +kernel
  have c4 : (0 : Rat) + 4 * DD + 8 * DD ≤ 1 / 2 := by decide +kernel
  have hF := hS.flip
  have hA := hS.front (by omega) st Rat.le_refl c2
  have hB := hS.back (by omega) st Rat.le_refl c2
  have hvl := hS.valid hM (by omega) hK (by omega)
  obtain ⟨a1, a2, a3⟩ := sheet_at hS hM (by omega) hK (by omega) Rat.le_refl c1 su sv
  obtain ⟨f1, f2, f3⟩ := sheet_at hF hK (by omega) hM (by omega) Rat.le_refl c1 sv su
  obtain ⟨l1, l2, l3⟩ := sheet_at hA hM (by omega) hK (by omega) c3 c4 su sv
  obtain ⟨r1, r2, r3⟩ := sheet_at hB hM (by omega) hK (by omega) c3 c4 su sv
  obtain ⟨m1, m2, m3⟩ := sheet_at hS hM (by omega) hK (by omega) Rat.le_refl c1 sm sv
  obtain ⟨p1, p2, p3⟩ := sheet_at hS hM (by omega) hK (by omega) Rat.le_refl c1 sp sv
  obtain ⟨e1, e2, e3⟩ := sheet_at hS hM (by omega) hK (by omega) Rat.le_refl c1 zero_sha one_sha
  have g1 : (0 : Rat) + 8 * DD ≤ 1 := by decide +kernel
  have g2 : (0 : Rat) + 4 * DD + 8 * DD ≤ 1 := by decide +kernel
  have g3 : (0 : Rat) + 8 * DD + (0 + 8 * DD) ≤ 1 / 2048 := by decide +kernel
  have g4 : (0 : Rat) + 4 * DD + 8 * DD + (0 + 8 * DD) ≤ 1 / 2048 := by decide +kernel
  have g5 : (0 : Rat) + 8 * DD + 0 ≤ 1 / 2048 := by decide +kernel
  have ef : atR (fun j i => Vs ss M i j) K M (cv .f32 v) (cv .f32 u) = atR (Vs ss M) M K (cv .f32 u) (cv .f32 v) := funext fun c => atR_flip _ _ _ _ _ _
  have ea : atR (fun j i => lerpN (cv .f32 t) i (Vs ss M j) 0) M K (cv .f32 u) (cv .f32 v) = atR (Vs ss M) M K (cv .f32 (mulT u t)) (cv .f32 v) := funext fun c => by rw [em]; exact atR_front _ _ _ _ _ _ hM4
  have eb : atR (fun j i => lerpN (cv .f32 t) (M - 1 - i) (Vs ss M j) i) M K (cv .f32 u) (cv .f32 v) = atR (Vs ss M) M K (cv .f32 (pushT u t)) (cv .f32 v) := funext fun c => by rw [ep]; exact atR_back _ _ _ _ _ _ hM4
  have ec : atR (Vs ss M) M K (cv .f32 (some 0)) (cv .f32 one32) = Vs ss M (K - 1) 0 := funext fun c => by rw [cv_zero, cv_one]; exact atR_corner _ _ _ _
  rw [ef] at f2
  rw [ea] at l2
  rw [eb] at r2
  rw [ec] at e2 e3
  have ix : (K - 1) * M + 0 = M * (K - 1) := by rw [Nat.mul_comm, Nat.add_zero]
  have hcn := hS.ap (K - 1) 0 (by omega) (by omega)
  rw [ix] at hcn
  exact ⟨hvl, a1, hF.valid hK (by omega) hM (by omega), flip_flip ss M K hl (by omega) (by omega), f1, by
    unfold cutCan
    rw [hvl, st.share]
    rfl, hA.valid hM (by omega) hK (by omega), hB.valid hM (by omega) hK (by omega), l1, m1, r1, p1, e1, apart_of f2 a2 a3 g1 g1 g3, apart_of l2 m2 m3 g2 g1 g4, apart_of r2 p2 p3 g2 g1 g4, apart_of e2 hcn e3 g1 (by decide +kernel) g5⟩

/-! ## tiles -/
theorem tiles_mem {ss : List S3} {M K p q : Nat} {s : S3} (h : s ∈ tilesL M K ss p q) : ∃ i j : Nat, i ≤ p ∧ j ≤ q ∧ s = atL ss M K (shr i p) (shr j q) := by
  unfold tilesL tAll at h
  obtain ⟨j, hj, h⟩ := List.mem_flatMap.1 h
  unfold tRow at h
  obtain ⟨i, hi, rfl⟩ := List.mem_map.1 h
  have hi := List.mem_range.1 hi
  have hj := List.mem_range.1 hj
  exact ⟨i, j, by simp at hi; omega, by simp at hj; omega, rfl⟩
theorem tiles_bs {ss : List S3} {M K p q : Nat} {X : Nat → Nat → Nat → Rat} (h : SAp ss M K X 0) (hM : 2 ≤ M) (hM4 : M ≤ 5) (hK : 2 ≤ K) (hK4 : K ≤ 5) (hp : 1 ≤ p) (hp4 : p ≤ 4) (hq : 1 ≤ q) (hq4 : q ≤ 4) : ∀ s ∈ tilesL M K ss p q, BS s 9 := by
  intro s hs
  obtain ⟨i, j, hi, hj, rfl⟩ := tiles_mem hs
  obtain ⟨a, b⟩ := at_ap h hM hM4 hK hK4 Rat.le_refl (by decide +kernel) (shr_sha hp hp4 hi) (shr_sha hq hq4 hj)
  intro c
  have := (a c).ab (b c)
  exact ⟨(a c).fin, this.mono (by decide +kernel)⟩
theorem bs_fin {s : S3} {M : Rat} (h : BS s M) : finS s = true := by
  have f0 : finC s.1 = true := fin_finC (h 0).fin
  have f1 : finC s.2.1 = true := fin_finC (h 1).fin
  have f2 : finC s.2.2 = true := fin_finC (h 2).fin
  unfold finS
  rw [f0, f1, f2]
  rfl
structure TileF (M K p q : Nat) (ss tt : List S3) : Prop where
  ok : tilesOk M K ss p q = true
  fin : finL tt = true
  len : tt.length = (q + 1) * (p + 1)
  few : fewL tt = true
  area : areaOk tt p q = true
  afin : Fin .f32 (areaC tt p q)
  ann : 0 ≤ cv .f32 (areaC tt p q)
  low : ∀ s ∈ tt, ∀ c, fltB .f32 (pj c s) (pj c (boxLow tt)) = false
  high : ∀ s ∈ tt, ∀ c, fgtB .f32 (pj c s) (pj c (boxHigh tt)) = false
theorem tileF {ss : List S3} {M K p q : Nat} {X : Nat → Nat → Nat → Rat} (h : SAp ss M K X 0) (hM : 2 ≤ M) (hM4 : M ≤ 5) (hK : 2 ≤ K) (hK4 : K ≤ 5) (hp : 1 ≤ p) (hp4 : p ≤ 4) (hq : 1 ≤ q) (hq4 : q ≤ 4) : TileF M K p q ss (tilesL M K ss p q) := by
  have hb := tiles_bs h hM hM4 hK hK4 hp hp4 hq hq4
  have hf : finL (tilesL M K ss p q) = true := finL_of fun s hs => bs_fin (hb s hs)
  have hl : (tilesL M K ss p q).length = (q + 1) * (p + 1) := by
    unfold tilesL
    rw [tAll_length]
    simp
  have hpq : inB (p : Int) 1 12 = true ∧ inB (q : Int) 1 12 = true := by
    unfold inB
    simp only [Bool.and_eq_true, decide_eq_true_eq]
    omega
  have h25 : (q + 1) * (p + 1) ≤ 5 * 5 := Nat.mul_le_mul (by omega) (by omega)
  have h1 : 1 * 1 ≤ (q + 1) * (p + 1) := Nat.mul_le_mul (by omega) (by omega)
  have hfew : fewL (tilesL M K ss p q) = true := by
    unfold fewL
    rw [hf, hl]
    simp only [Bool.and_true, Bool.and_eq_true, decide_eq_true_eq]
    omega
  have hcan : areaCan (tilesL M K ss p q) p q = true := by
    unfold areaCan
    rw [hpq.1, hpq.2, hf, hl]
    have e : (((q + 1) * (p + 1) : Nat) : Int) = ((p : Int) + 1) * ((q : Int) + 1) := by
      rw [Int.natCast_mul, Int.mul_comm]
      rfl
    rw [e]
    simp
  obtain ⟨a1, a2, a3⟩ := area_nn hb hcan (by omega) (by omega)
  refine ⟨?_, hf, hl, hfew, a1, a2, a3, fun s hs c => (box_holds hfew (fun s hs c => (hb s hs c).fin) c hs).1, fun s hs c => (box_holds hfew (fun s hs c => (hb s hs c).fin) c hs).2⟩
  unfold tilesOk tilesCan
  rw [h.valid hM hM4 hK hK4, hpq.1, hpq.2, hf]
  rfl

/-! ## edges -/
def wantIx (M K : Nat) (side : Int) : Nat := if side = 1 then M * (K - 1) else if side = 3 then M - 1 else 0
theorem edge_first {ss : List S3} {M K : Nat} (hM : 2 ≤ M) (hK : 2 ≤ K) (hl : ss.length = M * K) {side : Int} (h0 : 0 ≤ side) (h3 : side ≤ 3) :
    (edgeL ss M K side).length = (if side < 2 then M else K) ∧ (edgeL ss M K side).getD 0 z3 = ss.getD (wantIx M K side) z3 := by
  have hc : side = 0 ∨ side = 1 ∨ side = 2 ∨ side = 3 := by omega
  have r0 : ∀ j, j < K → (rowL ss M j).length = M ∧ (rowL ss M j).getD 0 z3 = ss.getD (M * j) z3 := by
    intro j hj
    refine ⟨rowL_length ss M K j hl hj, ?_⟩
    rw [rowL_getD ss M j 0 (by omega), Nat.mul_comm]
    rfl
  have c0 : ∀ i, (colL ss M K i).length = K ∧ (colL ss M K i).getD 0 z3 = ss.getD i z3 := by
    intro i
    unfold colL
    refine ⟨by simp, ?_⟩
    rw [List.getD_eq_getElem?_getD, List.getElem?_map, List.getElem?_range (by omega)]
    simp
  rcases hc with rfl | rfl | rfl | rfl
  · exact r0 0 (by omega)
  · exact r0 (K - 1) (by omega)
  · exact c0 0
  · exact c0 (M - 1)
end Go.Proofs.Ytefnlalldgbcaaa
