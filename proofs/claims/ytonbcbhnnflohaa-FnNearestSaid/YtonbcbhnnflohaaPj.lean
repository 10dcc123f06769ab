/-
  FnNearest: every choice of an input keeps the law.
-/
import Derived.Test.YtonbcbhnnflohaaPi
import Derived.Test.YtonbcbhnnflohaaPf
namespace Go.Proofs.Ytonbcbhnnflohaa
open Go.RowKit

theorem ev_sv : ∀ i : Nat, i < 9 → ev (i : Int) = sv ((2 * i : Nat) : Int) := by decide +kernel
theorem share8 {k : Nat} (h : k < 9) : shareW (k : Nat) (8 : Nat) = some (ev (k : Int)) := by
  unfold shareW
  rw [of8]
  exact eW_ok (by omega) (by omega)

theorem ev01 {k : Nat} (h : k < 9) : T01 (ev (k : Int)) := by
  rw [ev_sv k h]
  exact (sv01 (k := 2 * k) (by omega)).1
/-! ## boxes -/
theorem sAt_ge {q s : Rat} (h0 : 0 ≤ s) (h1 : s ≤ 1) : ∀ (m : Nat) (X : List Rat), X.length = m + 1 → (∀ x ∈ X, q ≤ x) → q ≤ sAt m X s
  | 0, [], h, _ => by simp at h
  | 0, a :: r, _, hq => hq a List.mem_cons_self
  | m + 1, X, hl, hq => by
    refine sAt_ge h0 h1 m (nextS X s) (by rw [nextS_len]; omega) ?_
    clear hl
    induction X with
    | nil => intro x hx; cases hx
    | cons a r ih =>
      cases r with
      | nil => intro x hx; cases hx
      | cons b r =>
        intro x hx
        rcases List.mem_cons.1 hx with rfl | hx
        · exact cvx_ge (hq a List.mem_cons_self) (hq b (by simp)) h0 h1
        · exact ih (fun y hy => hq y (List.mem_cons_of_mem _ hy)) x hx
theorem sAt_le {q s : Rat} (h0 : 0 ≤ s) (h1 : s ≤ 1) : ∀ (m : Nat) (X : List Rat), X.length = m + 1 → (∀ x ∈ X, x ≤ q) → sAt m X s ≤ q
  | 0, [], h, _ => by simp at h
  | 0, a :: r, _, hq => hq a List.mem_cons_self
  | m + 1, X, hl, hq => by
    refine sAt_le h0 h1 m (nextS X s) (by rw [nextS_len]; omega) ?_
    clear hl
    induction X with
    | nil => intro x hx; cases hx
    | cons a r ih =>
      cases r with
      | nil => intro x hx; cases hx
      | cons b r =>
        intro x hx
        rcases List.mem_cons.1 hx with rfl | hx
        · exact cvx_le (hq a List.mem_cons_self) (hq b (by simp)) h0 h1
        · exact ih (fun y hy => hq y (List.mem_cons_of_mem _ hy)) x hx
theorem nextS_shift (a s : Rat) : ∀ X : List Rat, nextS (X.map (· + a)) s = (nextS X s).map (· + a)
  | [] => rfl
  | [x] => rfl
  | x :: y :: r => by
    have := nextS_shift a s (y :: r)
    simp only [List.map_cons, nextS] at this ⊢
    rw [this]
    congr 1
    grind
theorem sAt_shift (a s : Rat) : ∀ (m : Nat) (X : List Rat), X.length = m + 1 → sAt m (X.map (· + a)) s = sAt m X s + a
  | 0, [], h => by simp at h
  | 0, x :: r, _ => rfl
  | m + 1, X, h => by
    unfold sAt
    rw [nextS_shift]
    exact sAt_shift a s m _ (by rw [nextS_len]; omega)
theorem cond_flt {x y : Nat} (gx : G x) (gy : G y) : rF (cond (fltB .f32 (some x) (some y)) x y) ≤ rF x ∧ rF (cond (fltB .f32 (some x) (some y)) x y) ≤ rF y := by
  rw [flt_rF gx gy]
  by_cases h : rF x < rF y
  · rw [decide_eq_true h]; exact ⟨Rat.le_refl, by show rF x ≤ rF y; grind⟩
  · rw [decide_eq_false h]; exact ⟨by show rF y ≤ rF x; grind, Rat.le_refl⟩
theorem cond_fgt {x y : Nat} (gx : G x) (gy : G y) : rF x ≤ rF (cond (fgtB .f32 (some x) (some y)) x y) ∧ rF y ≤ rF (cond (fgtB .f32 (some x) (some y)) x y) := by
  rw [fgt_rF gx gy]
  by_cases h : rF y < rF x
  · rw [decide_eq_true h]; exact ⟨Rat.le_refl, by show rF y ≤ rF x; grind⟩
  · rw [decide_eq_false h]; exact ⟨by show rF x ≤ rF y; grind, Rat.le_refl⟩
theorem box_le {c : List Kn} (h0 : 0 < c.length) (hg : ∀ k ∈ c, G k.1 ∧ G k.2.1) : ∀ i, i ≤ c.length → ∀ j (_ : j < i) (hl : j < c.length), (rF (boxF c i).1.1 ≤ rF c[j].1 ∧ rF (boxF c i).1.2 ≤ rF c[j].2.1) ∧ rF c[j].1 ≤ rF (boxF c i).2.1 ∧ rF c[j].2.1 ≤ rF (boxF c i).2.2
  | 0, _, j, hj, _ => by omega
  | i + 1, hi, j, hj, hl => by
    obtain ⟨⟨a1, a2⟩, a3, a4⟩ := boxF_all (P := G) h0 hg i (by omega)
    obtain ⟨k1, k2⟩ := hg _ (List.getElem_mem (show i < c.length by omega))
    unfold boxF
    rw [getD_at (show i < c.length by omega)]
    have e1 := cond_flt k1 a1
    have e2 := cond_flt k2 a2
    have e3 := cond_fgt k1 a3
    have e4 := cond_fgt k2 a4
    by_cases hji : j = i
    · subst hji
      exact ⟨⟨e1.1, e2.1⟩, e3.1, e4.1⟩
    · obtain ⟨⟨b1, b2⟩, b3, b4⟩ := box_le h0 hg i (by omega) j (by omega) hl
      exact ⟨⟨Rat.le_trans e1.2 b1, Rat.le_trans e2.2 b2⟩, Rat.le_trans b3 e3.2, Rat.le_trans b4 e4.2⟩
/-! ## the moved curve -/
theorem mvX : ∀ x : Nat, x < 24 → fop .add .f32 (some (qv (x : Int))) (some 1077936128) = some (qv ((x : Int) + 12)) := by decide +kernel
theorem mvY : ∀ x : Nat, x < 17 → fop .add .f32 (some (qv ((x : Int) - 8))) (some 3229614080) = some (qv ((x : Int) - 24)) ∧ rung FloatKind.f32.format (qv ((x : Int) - 24)) < FloatKind.f32.format.infRung ∧ rF (qv ((x : Int) - 24)) = (((x : Int) - 24 : Int) : Rat) / 4 := by decide +kernel
theorem move_P : ∀ (c : List Kn), (∀ k ∈ c, BK 19 k) → ∃ d, moveC c (1077936128, 3229614080) = some d ∧ PL 0 d ((c.map fun k => rF k.1).map (· + 3)) ((c.map fun k => rF k.2.1).map (· + (-4)))
  | [], _ => ⟨[], rfl, .nil⟩
  | k :: c, h => by
    obtain ⟨d, hd, hP⟩ := move_P c fun q hq => h q (List.mem_cons_of_mem _ hq)
    obtain ⟨i, j, a1, a2, b1, b2, rfl⟩ := h k List.mem_cons_self
    have mx := mvX i.toNat (by omega)
    rw [show ((i.toNat : Nat) : Int) = i by omega] at mx
    obtain ⟨my, gy, vy⟩ := mvY (j + 8).toNat (by omega)
    rw [show (((j + 8).toNat : Nat) : Int) - 8 = j by omega, show (((j + 8).toNat : Nat) : Int) - 24 = j - 16 by omega] at my
    rw [show (((j + 8).toNat : Nat) : Int) - 24 = j - 16 by omega] at gy vy
    obtain ⟨g1, v1, i1⟩ := qvB_ok (i := i + 12) (by omega) (by omega)
    obtain ⟨g2, v2, _⟩ := qvB_ok (i := i) (by omega) (by omega)
    obtain ⟨g3, v3, _⟩ := qvB_ok (i := j) (by omega) (by omega)
    have c12 : ((12 : Int) : Rat) = 12 := rfl
    have c16 : ((16 : Int) : Rat) = 16 := rfl
    have e1 : rF (qv (i + 12)) = rF (qv i) + 3 := by rw [v1, v2, Rat.intCast_add, c12]; grind
    have e2 : rF (qv (j - 16)) = rF (qv j) + (-4) := by rw [vy, v3, Rat.intCast_sub, c16]; grind
    refine ⟨(qv (i + 12), qv (j - 16), 1065353216) :: d, ?_, ?_⟩
    · unfold moveC
      rw [mx, Option.bind_some, my, Option.bind_some, hd]
      rfl
    · have hK := exact_KP g1 gy i1 (fop_is my) (by
        rw [e1, v2]
        have := quarterB (i := i + 12) (by omega) (by omega)
        rw [Rat.intCast_add, c12] at this
        exact this.to (by grind) (by grind)) (by
        rw [vy]
        exact quarterB (by omega) (by omega))
      rw [e1, e2] at hK
      exact .cons hK hP
theorem long00 : longW 0 0 = some 0 := by decide +kernel
theorem max00 : maxW 0 0 = some 0 := by decide +kernel
theorem rF0 : rF 0 = 0 := by decide +kernel
theorem minus_self {k : Nat × Nat} (h1 : G k.1) (h2 : G k.2) : minusW k k = some (0, 0) := by
  unfold minusW
  rw [sub_self (k := .f32) h1, Option.bind_some, sub_self (k := .f32) h2, Option.bind_some]
theorem gd00 : Gd 0 := gd_of' G0 i32_0 (by rw [rF0]; constructor <;> grind)
theorem gap_self {a : Nat} (h : Fin .f64 (some a)) : gapW a a = some 0 := by
  unfold gapW
  rw [flt_iff h h]
  rw [if_neg (by simp), sub_self h]
theorem le00 : LeD 0 4562254508917369340 := ⟨Is_lit (by decide +kernel), by decide +kernel⟩
theorem f05 : 0 ≤ rF 1028443341 := by decide +kernel
theorem G05 : G 1028443341 := by show rung FloatKind.f32.format 1028443341 < _; decide +kernel
theorem GcC : Gd 1077936128 ∧ Gd 3229614080 := ⟨gd_of' G3 (Is_lit (by decide +kernel)) (by rw [three]; constructor <;> grind), gd_of' (by show rung FloatKind.f32.format 3229614080 < _; decide +kernel) (Is_lit (by decide +kernel)) (by
  have : rF 3229614080 = -4 := by decide +kernel
  rw [this]; constructor <;> grind)⟩
theorem F5 : Fin .f64 (some 4617315517961601024) := by show rung FloatKind.f64.format 4617315517961601024 < _; decide +kernel
theorem v5 : rv .f64 4617315517961601024 = 5 := by decide +kernel
/-- A bound, a little less or more. -/
theorem less001 {b : Nat} (h : Fin .f64 (some b)) (hb : Ab (rv .f64 b) 40) : ∃ s, fop .sub .f64 (some b) (some 4562254508917369340) = some s ∧ Fin .f64 (some s) ∧ rv .f64 s ≤ rv .f64 b - 99 / 100000 := by
  have v1 := v001
  have sm := small126
  have big : (64 : Rat) < p2 127 := by decide +kernel
  obtain ⟨b1, b2⟩ := hb
  obtain ⟨f, n⟩ := sub_near h F001 (M := 64) ⟨by grind, by grind⟩ (by grind) big
  obtain ⟨s, hs⟩ := fin_some' f
  rw [hs, u64] at n
  rw [hs] at f
  obtain ⟨n1, n2⟩ := n
  simp only [cv] at n1 n2
  exact ⟨s, hs, f, by grind⟩
theorem more001 {b : Nat} (h : Fin .f64 (some b)) (hb : Ab (rv .f64 b) 40) : ∃ s, fop .add .f64 (some b) (some 4562254508917369340) = some s ∧ Fin .f64 (some s) ∧ rv .f64 b + 99 / 100000 ≤ rv .f64 s := by
  have v1 := v001
  have sm := small126
  have big : (64 : Rat) < p2 127 := by decide +kernel
  obtain ⟨b1, b2⟩ := hb
  obtain ⟨f, n⟩ := add_near h F001 (M := 64) ⟨by grind, by grind⟩ (by grind) big
  obtain ⟨s, hs⟩ := fin_some' f
  rw [hs, u64] at n
  rw [hs] at f
  obtain ⟨n1, n2⟩ := n
  simp only [cv] at n1 n2
  exact ⟨s, hs, f, by grind⟩
theorem notlt {a b : Nat} (ha : Fin .f64 (some a)) (hb : Fin .f64 (some b)) (h : rv .f64 b ≤ rv .f64 a) : fltB .f64 (some a) (some b) = false := by
  rw [flt_iff ha hb]
  refine decide_eq_false ?_
  show ¬ rv .f64 a < rv .f64 b
  grind
theorem notgt {a b : Nat} (ha : Fin .f64 (some a)) (hb : Fin .f64 (some b)) (h : rv .f64 a ≤ rv .f64 b) : fgtB .f64 (some a) (some b) = false := by
  rw [fgt_iff ha hb]
  refine decide_eq_false ?_
  show ¬ rv .f64 b < rv .f64 a
  grind
/-- How far a point and the moved one are. -/
theorem five {n : Nat} {k q : Kn} {X Y : Rat} (h : KP n k X Y) (h' : KP n q (X + 3) (Y + (-4))) (hn : n < 5) : ∃ r l, minusW (k.1, k.2.1) (q.1, q.2.1) = some r ∧ longW r.1 r.2 = some l ∧ G l ∧ Is .f32 l (some l) ∧ Ab (rF l - 5) (7 / 10000) := by
  have hx : Px n ≤ 226 / 1000000 := by
    have : ∀ k, k < 5 → Px k ≤ 226 / 1000000 := by decide +kernel
    exact this n hn
  have z1 := h.zg (by omega)
  have z2 := h'.zg (by omega)
  have dx : Ab ((rF k.1 - rF q.1) - (-3)) (452 / 1000000) := (h.x.sub h'.x).to (by grind) (by grind)
  have dy : Ab ((rF k.2.1 - rF q.2.1) - 4) (452 / 1000000) := (h.y.sub h'.y).to (by grind) (by grind)
  obtain ⟨dx1, dx2⟩ := dx
  obtain ⟨dy1, dy2⟩ := dy
  obtain ⟨u, hu, gu, du⟩ := s32 (M := 5) z1.g1 z2.g1 ⟨by show rF k.1 - rF q.1 ≤ 5; grind, by show -5 ≤ rF k.1 - rF q.1; grind⟩ (by grind) (by grind)
  obtain ⟨v, hv, gv, dv⟩ := s32 (M := 5) z1.g2 z2.g2 ⟨by show rF k.2.1 - rF q.2.1 ≤ 5; grind, by show -5 ≤ rF k.2.1 - rF q.2.1; grind⟩ (by grind) (by grind)
  obtain ⟨u1, u2⟩ := du
  obtain ⟨v1, v2⟩ := dv
  have bu : Ab (rF u + 3) (46 / 100000) := ⟨by grind, by grind⟩
  have bv : Ab (rF v - 4) (46 / 100000) := ⟨by grind, by grind⟩
  obtain ⟨su1, su2⟩ := bu.mul bu
  obtain ⟨sv1, sv2⟩ := bv.mul bv
  have nn : ∀ w : Rat, 0 ≤ w * w := by
    intro w
    rcases (Rat.le_total : 0 ≤ w ∨ w ≤ 0) with h | h
    · exact Rat.mul_nonneg h h
    · have := Rat.mul_nonneg (a := -w) (b := -w) (by grind) (by grind)
      grind
  have nu := nn (rF u + 3)
  have nv := nn (rF v - 4)
  obtain ⟨bu1, bu2⟩ := bu
  obtain ⟨bv1, bv2⟩ := bv
  obtain ⟨l, hl, gl, il, l0, l1, l2⟩ := long_gen gu gv (fop_is hu) (fop_is hv) ⟨by grind, by grind⟩ ⟨by grind, by grind⟩ (Lo := 5 - 66 / 100000) (R := 5 + 66 / 100000) (by grind) (.inr (by grind)) (by grind) (by grind) (by grind) (by grind)
  exact ⟨(u, v), l, by unfold minusW; rw [hu, Option.bind_some, hv, Option.bind_some], hl, gl, il, ⟨by grind, by grind⟩⟩
end Go.Proofs.Ytonbcbhnnflohaa
