/-
  The plain law of flat sheets: normals, tiles, areas.
-/
import Derived.Test.YtefnlalldgbcaaaFy
namespace Go.Proofs.Ytefnlalldgbcaaa
open Go.RowKit

theorem quo_ap {c d : Option Nat} (hc : Fin .f32 c) (hd : Fin .f32 d) (h0 : cv .f32 d ≠ 0) {M : Rat} (hM : Ab (cv .f32 c / cv .f32 d) M) (hl : p2 (-126) ≤ M) (hu : 2 * M < p2 127) :
    Ap .f32 (fop .quo .f32 c d) (cv .f32 c / cv .f32 d) (3 * M * uk .f32) := by
  cases c with
  | none => exact hc.elim
  | some a =>
    cases d with
    | none => exact hd.elim
    | some b =>
      obtain ⟨q1, q2⟩ := quo_near hc hd h0 hM hl hu
      exact ⟨q1, q2⟩

/-! ## products of spots that lie flat -/
abbrev E3 : Rat := 33800 / 16777216
/-- The product of two nearly upright slopes. -/
theorem cross_flat {A B : S3} {W L : Rat} (hA : ApS A (FV W L 1 0) E2) (hB : ApS B (FV W L 0 1) E2) (za : Zr (pj 2 A)) (zb : Zr (pj 2 B)) (w0 : 0 ≤ W) (w8 : W ≤ 8) (l0 : 0 ≤ L) (l8 : L ≤ 8) :
    Zr (crossC A B).1 ∧ Zr (crossC A B).2.1 ∧ Ap .f32 (crossC A B).2.2 (W * L) E3 := by
  have a0 : Ap .f32 A.1 W E2 := (hA 0).to (show W * 1 = W by grind)
  have a1 : Ap .f32 A.2.1 0 E2 := (hA 1).to (show L * 0 = 0 by grind)
  have b0 : Ap .f32 B.1 0 E2 := (hB 0).to (show W * 0 = 0 by grind)
  have b1 : Ap .f32 B.2.1 L E2 := (hB 1).to (show L * 1 = L by grind)
  have za : Zr A.2.2 := za
  have zb : Zr B.2.2 := zb
  have g1 := p2m126
  have g2 := p2127
  refine ⟨zr_sub (zr_mul a1.fin zb.fin (.inr zb.val)) (zr_mul za.fin b1.fin (.inl za.val)), zr_sub (zr_mul za.fin b0.fin (.inl za.val)) (zr_mul a0.fin zb.fin (.inr zb.val)), ?_⟩
  have m1 := Ap.mul (M := 65) (A := 8) (B := 8) a0 b1 ⟨w8, by grind⟩ ⟨l8, by grind⟩ (by decide +kernel) (by grind) (by grind)
  rw [uk32] at m1
  have m1 := m1.mono (f := 33700 / 16777216) (by decide +kernel)
  have m2 := Ap.mul (M := 1) (A := 0) (B := 0) a1 b0 ⟨Rat.le_refl, by decide +kernel⟩ ⟨Rat.le_refl, by decide +kernel⟩ (by decide +kernel) (by grind) (by grind)
  rw [uk32] at m2
  have m2 := m2.mono (f := 2 / 16777216) (by decide +kernel)
  have hwl : W * L ≤ 64 := by
    have x1 := Rat.mul_le_mul_of_nonneg_right w8 l0
    grind
  have hwl0 := Rat.mul_nonneg w0 l0
  have s := Ap.sub (M := 66) m1 m2 ⟨by grind, by grind⟩ (by grind) (by grind)
  rw [uk32] at s
  exact (s.mono (f := E3) (by decide +kernel)).to (by grind)
/-- The length of what stands upright. -/
theorem long_flat {n : S3} (hx : Zr n.1) (hy : Zr n.2.1) (hz : Fin .f32 n.2.2) (h0 : 1 / 1024 ≤ cv .f32 n.2.2) (h1 : cv .f32 n.2.2 ≤ 1024) :
    Fin .f32 (rootC (dotC n n)) ∧ Ab (cv .f32 (rootC (dotC n n)) - cv .f32 n.2.2) (20 * ulp * cv .f32 n.2.2) := by
  have hxy := zr_add (zr_mul hx.fin hx.fin (.inl hx.val)) (zr_mul hy.fin hy.fin (.inl hy.val))
  generalize hzz : cv .f32 n.2.2 = z at h0 h1
  have zz1 : 1 / 1048576 ≤ z * z := by
    have g1 := Rat.mul_le_mul_of_nonneg_right h0 (show (0 : Rat) ≤ z by grind)
    have g2 := Rat.mul_le_mul_of_nonneg_left h0 (show (0 : Rat) ≤ 1 / 1024 by decide +kernel)
    grind
  have zz2 : z * z ≤ 1048576 := by
    have g1 := Rat.mul_le_mul_of_nonneg_right h1 (show (0 : Rat) ≤ z by grind)
    grind
  have hsm : p2 (-126) ≤ 1 / 1048576 := Rat.le_trans pmS (by decide +kernel)
  have hbig : (4194304 : Rat) < p2 127 := by
    have h := p2_big (n := 22) (by omega)
    have e : p2 (22 : Nat) = 4194304 := by decide +kernel
    rw [e] at h
    exact h
  have hsq : Ap .f32 (fop .mul .f32 n.2.2 n.2.2) (z * z) (z * z * ulp) := by
    obtain ⟨b, hb, hf⟩ : ∃ b, n.2.2 = some b ∧ Fin .f32 (some b) := by
      cases hn : n.2.2 with
      | none => rw [hn] at hz; exact hz.elim
      | some b => rw [hn] at hz; exact ⟨b, rfl, hz⟩
    rw [hb] at hzz ⊢
    have hzz : rv .f32 b = z := hzz
    obtain ⟨q1, q2⟩ := mul_near hf hf (M := z * z) (by rw [hzz]; exact ⟨Rat.le_refl, by grind⟩) (by grind) (by grind)
    rw [hzz, uk32] at q2
    exact ⟨q1, q2⟩
  have hdot := Ap.add (M := 2 * (z * z)) hxy.ap hsq ⟨by grind, by grind⟩ (by grind) (by grind)
  rw [uk32] at hdot
  obtain ⟨d1, d2⟩ := hdot.near
  exact root_sq hdot.fin h0 h1 (by
    show _ ≤ cv .f32 (dotC n n)
    have : dotC n n = fop .add .f32 (fop .add .f32 (fop .mul .f32 n.1 n.1) (fop .mul .f32 n.2.1 n.2.1)) (fop .mul .f32 n.2.2 n.2.2) := rfl
    rw [this]
    grind) (by
    show cv .f32 (dotC n n) ≤ _
    have : dotC n n = fop .add .f32 (fop .add .f32 (fop .mul .f32 n.1 n.1) (fop .mul .f32 n.2.1 n.2.1)) (fop .mul .f32 n.2.2 n.2.2) := rfl
    rw [this]
    grind)
def UV : Nat → Rat := fun c => match c with
  | 0 => 0
  | 1 => 0
  | _ => 1
theorem normal_flat {ss : List S3} {M K : Nat} {W L : Rat} {u v : Option Nat} (S : SlF ss M K W L u v) (w1 : 1 / 2 ≤ W) (w8 : W ≤ 8) (l1 : 1 / 2 ≤ L) (l8 : L ≤ 8) :
    normalOk M K ss u v = true ∧ ApS (normalC M K ss u v) UV (1 / 4096) := by
  obtain ⟨hok, ha, hb, za, zb⟩ := S
  unfold normalOk normalC nCan nCross nCrossOk
  rw [hok]
  generalize slopesA M K ss u v = A at ha za ⊢
  generalize slopesB M K ss u v = B at hb zb ⊢
  obtain ⟨cx, cy, cz⟩ := cross_flat ha hb za zb (by grind) w8 (by grind) l8
  have fA := ha.finS
  have fB := hb.finS
  generalize hC : crossC A B = C at cx cy cz ⊢
  have hwl : W * L ≤ 64 := by
    have x1 := Rat.mul_le_mul_of_nonneg_right w8 (show 0 ≤ L by grind)
    grind
  have hwl0 : 1 / 4 ≤ W * L := by
    have x1 := Rat.mul_le_mul_of_nonneg_right w1 (show 0 ≤ L by grind)
    grind
  obtain ⟨z1, z2⟩ := cz.near
  have e3 : (E3 : Rat) ≤ 1 / 100 := by decide +kernel
  have hz0 : 1 / 5 ≤ cv .f32 C.2.2 := by grind
  have hz1 : cv .f32 C.2.2 ≤ 65 := by grind
  have fC : finS C = true := by
    have f0 : finC C.1 = true := fin_finC cx.fin
    have f1 : finC C.2.1 = true := fin_finC cy.fin
    have f2 : finC C.2.2 = true := fin_finC cz.fin
    unfold finS
    rw [f0, f1, f2]
    rfl
  obtain ⟨lf, l1', l2'⟩ := long_flat cx cy cz.fin (by grind) (by grind)
  have hfc := fin_finC lf
  have hfc : finC (rootC (dotC C C)) = true := hfc
  have hl : longC (giveS C) = rootC (dotC C C) := by
    unfold longC giveC giveS
    rw [fC]
    simp only [cond_true]
    rw [fC, hfc]
    rfl
  have hlo : longOk (giveS C) = true := by
    unfold longOk giveS
    rw [fC]
    simp only [cond_true]
    rw [fC, hfc]
    rfl
  rw [fA, fB, fC]
  simp only [Bool.and_true, Bool.true_and, cond_true]
  rw [hl, hlo]
  have hg : giveS C = C := by
    unfold giveS
    rw [fC]
    rfl
  rw [hg]
  generalize rootC (dotC C C) = l at lf l1' l2' ⊢
  generalize hzv : cv .f32 C.2.2 = z at l1' l2' hz0 hz1
  have hl0 : 1 / 10 ≤ cv .f32 l := by grind
  have hgt : fgtB .f32 l (some 0) = true := by
    rw [fgt_iff lf zero_ex.fin, cv_zero]
    exact decide_eq_true (by grind)
  rw [hgt]
  simp only [Bool.and_true, Bool.true_and, cond_true]
  have hne : cv .f32 l ≠ 0 := by grind
  have hsm : p2 (-126) ≤ 1 := pm Rat.le_refl
  have hbig := p2127'
  -- the quotients
  have qz : ∀ c, Zr c → Ap .f32 (fop .quo .f32 c l) 0 (1 / 4096) := by
    intro c hc
    have e0 : cv .f32 c / cv .f32 l = 0 := by
      rw [hc.val, Rat.div_def]
      grind
    have := quo_ap hc.fin lf hne (M := 1) (by rw [e0]; exact ⟨by decide +kernel, by decide +kernel⟩) hsm (by grind)
    rw [e0, uk32] at this
    exact this.mono (by decide +kernel)
  have qo : Ap .f32 (fop .quo .f32 C.2.2 l) 1 (1 / 4096) := by
    have eq : cv .f32 C.2.2 / cv .f32 l * cv .f32 l = z := by rw [← hzv]; exact Rat.div_mul_cancel hne
    generalize hq : cv .f32 C.2.2 / cv .f32 l = q at eq
    have hl00 : 0 < cv .f32 l := by grind
    have q1 : q ≤ 1 + 22 * ulp := by
      refine Rat.le_of_mul_le_mul_right (c := cv .f32 l) ?_ hl00
      rw [eq]
      grind
    have q2 : 1 - 22 * ulp ≤ q := by
      refine Rat.le_of_mul_le_mul_right (c := cv .f32 l) ?_ hl00
      rw [eq]
      grind
    have := quo_ap cz.fin lf hne (M := 2) (by rw [hq]; exact ⟨by grind, by grind⟩) (pm (by decide +kernel)) (by grind)
    rw [hq, uk32] at this
    obtain ⟨n1, n2⟩ := this.near
    exact ⟨this.fin, by grind, by grind⟩
  have hap : ApS (quoS C l) UV (1 / 4096) := by
    intro c
    match c with
    | 0 => exact qz _ cx
    | 1 => exact qz _ cy
    | c + 2 => exact qo
  have hf := hap.finS
  unfold giveS
  rw [hf]
  exact ⟨rfl, hap⟩

/-! ## tiles -/
theorem flatMap_getD {α : Type} (f : Nat → List α) (c : Nat) (h : ∀ i, (f i).length = c) (d : α) : ∀ (n b r : Nat), b < n → r < c → ((List.range n).flatMap f).getD (b * c + r) d = (f b).getD r d
  | 0, b, _, hb, _ => by omega
  | n + 1, b, r, hb, hr => by
    have hl : ∀ n : Nat, ((List.range n).flatMap f).length = n * c := by
      intro n
      induction n with
      | zero => simp
      | succ n ih => rw [List.range_succ, List.flatMap_append, List.length_append, ih, List.flatMap_singleton, h, Nat.add_mul, Nat.one_mul]
    rw [List.range_succ, List.flatMap_append, List.flatMap_singleton, List.getD_eq_getElem?_getD]
    by_cases hbn : b < n
    · have hlt : b * c + r < n * c := by
        have := Nat.mul_le_mul_right c (show b + 1 ≤ n from hbn)
        rw [Nat.add_mul] at this
        omega
      rw [List.getElem?_append_left (by rw [hl]; exact hlt), ← List.getD_eq_getElem?_getD]
      exact flatMap_getD f c h d n b r hbn hr
    · have hbn : b = n := by omega
      subst hbn
      rw [List.getElem?_append_right (by rw [hl]; omega), hl, show b * c + r - b * c = r by omega, ← List.getD_eq_getElem?_getD]
theorem shr_tab : (List.range 5).all (fun m => (List.range (m + 1)).all fun i => m == 0 || chk (shr (i : Int) (m : Int)) ((i : Rat) / (m : Rat)) ulp) = true := by decide +kernel
theorem shr_ap {i m : Nat} (h0 : 1 ≤ m) (h1 : m ≤ 4) (hi : i ≤ m) : Ap .f32 (shr i m) ((i : Rat) / (m : Rat)) ulp := by
  have h2 := List.all_eq_true.1 (List.all_eq_true.1 shr_tab m (List.mem_range.2 (by omega))) i (List.mem_range.2 (by omega))
  have h3 : (m == 0) = false := by simp; omega
  simp only [h3, Bool.false_or] at h2
  exact chk_ap h2
abbrev E4 : Rat := 248 / 16777216
structure TL (tt : List S3) (p q : Nat) (W L : Rat) : Prop where
  len : tt.length = (q + 1) * (p + 1)
  ap : ∀ j i, j ≤ q → i ≤ p → ApS (tt.getD (j * (p + 1) + i) z3) (FV W L ((i : Rat) / (p : Rat)) ((j : Rat) / (q : Rat))) E4
  pz : Pz tt
theorem share_bd {i m : Nat} (h0 : 1 ≤ m) (hi : i ≤ m) : 0 ≤ (i : Rat) / (m : Rat) ∧ (i : Rat) / (m : Rat) ≤ 1 := by
  have hm := natPos (n := m) (by omega)
  have e : (i : Rat) / (m : Rat) * (m : Rat) = (i : Rat) := Rat.div_mul_cancel (by grind)
  have h1 : (i : Rat) ≤ (m : Rat) := natR hi
  have h2 : (0 : Rat) ≤ (i : Rat) := Rat.natCast_nonneg
  constructor
  · refine Rat.le_of_mul_le_mul_right (c := (m : Rat)) ?_ hm
    rw [e]; grind
  · refine Rat.le_of_mul_le_mul_right (c := (m : Rat)) ?_ hm
    rw [e]; grind
theorem fv_near {W L s t s' t' : Rat} (w0 : 0 ≤ W) (w8 : W ≤ 8) (l0 : 0 ≤ L) (l8 : L ≤ 8) (hs : Near s s' ulp) (ht : Near t t' ulp) (c : Nat) : Near (FV W L s t c) (FV W L s' t' c) (8 * ulp) := by
  have key : ∀ {x a b : Rat}, 0 ≤ x → x ≤ 8 → Near a b ulp → Near (x * a) (x * b) (8 * ulp) := by
    rintro x a b h0 h8 ⟨h1, h2⟩
    have g1 := Rat.mul_le_mul_of_nonneg_left h1 h0
    have g2 := Rat.mul_le_mul_of_nonneg_left h2 h0
    have g3 := Rat.mul_le_mul_of_nonneg_right h8 (show (0 : Rat) ≤ ulp by decide +kernel)
    exact ⟨by grind, by grind⟩
  match c with
  | 0 => exact key w0 w8 hs
  | 1 => exact key l0 l8 ht
  | c + 2 => exact ⟨(by decide +kernel : (0 : Rat) ≤ 0 + 8 * ulp), (by decide +kernel : (0 : Rat) ≤ 0 + 8 * ulp)⟩
theorem tl_of {ss : List S3} {M K p q : Nat} {W L : Rat} (h : SAp ss M K (FX W L M K) E0) (hz : Pz ss) (hM : 2 ≤ M) (hM5 : M ≤ 5) (hK : 2 ≤ K) (hK5 : K ≤ 5) (w0 : 0 ≤ W) (w8 : W ≤ 8) (l0 : 0 ≤ L) (l8 : L ≤ 8) (hp : 1 ≤ p) (hp4 : p ≤ 4) (hq : 1 ≤ q) (hq4 : q ≤ 4) : TL (tilesL M K ss p q) p q W L := by
  have get : ∀ j i, j ≤ q → i ≤ p → (tilesL M K ss p q).getD (j * (p + 1) + i) z3 = atL ss M K (shr i p) (shr j q) := by
    intro j i hj hi
    have e := flatMap_getD (fun (j : Nat) => tRow ss M K p q j (p + 1)) (p + 1) (fun j => tRow_length ss M K p q j (p + 1)) z3 (q + 1) j i (by omega) (by omega)
    have e2 : tilesL M K ss p q = (List.range (q + 1)).flatMap fun (j : Nat) => tRow ss M K p q j (p + 1) := rfl
    rw [e2, e]
    unfold tRow
    rw [List.getD_eq_getElem?_getD, List.getElem?_map, List.getElem?_range (by omega)]
    rfl
  have hl : (tilesL M K ss p q).length = (q + 1) * (p + 1) := by
    unfold tilesL
    rw [tAll_length]
    simp
  refine ⟨hl, ?_, ?_⟩
  · intro j i hj hi
    rw [get j i hj hi]
    have s1 := shr_sha hp hp4 hi
    have s2 := shr_sha hq hq4 hj
    obtain ⟨a, b⟩ := at_ap h hM hM5 hK hK5 (by decide +kernel) (by decide +kernel) s1 s2
    rw [at_flat hM hK] at a
    intro c
    obtain ⟨n1, n2⟩ := (a c).near
    obtain ⟨m1, m2⟩ := fv_near w0 w8 l0 l8 (shr_ap hp hp4 hi).near (shr_ap hq hq4 hj).near c
    have e4 : (E4 : Rat) = E0 + 8 * DD + 8 * ulp := by decide +kernel
    rw [e4]
    exact ⟨(a c).fin, by grind, by grind⟩
  · refine Pz.of fun k hk => ?_
    rw [hl] at hk
    have hpp : 0 < p + 1 := by omega
    have e : k = k / (p + 1) * (p + 1) + k % (p + 1) := by
      rw [Nat.mul_comm]
      exact (Nat.div_add_mod k (p + 1)).symm
    have h1 : k / (p + 1) < q + 1 := Nat.div_lt_of_lt_mul (by rw [Nat.mul_comm]; exact hk)
    have h2 := Nat.mod_lt k hpp
    rw [e, get _ _ (by omega) (by omega)]
    exact hz.at_ M K (shr_sha hp hp4 (by omega)) (shr_sha hq hq4 (by omega))
end Go.Proofs.Ytefnlalldgbcaaa
