/-
  FnNumbers: one operation's cost; angles of finite points are finite (no program). (printed by gen_xde.py)
-/
import Derived.Test.YtclgplbikjmopaaGreatDoorDd
import Derived.Test.YtclgplbikjmopaaGreatDoorQr
namespace Go.Proofs.YtclgplbikjmopaaGreatDoor
open Go.RowKit

theorem bw_of {α : Type} (r : Nat) (k : Nat → Option α) : bw (some r) k = k r := force_eq r k
theorem rdF_mk {α : Type} {f : Ieee.Format} {x : Nat} {k : Bool → Nat → Int → Option α} {s : Bool} {m : Nat} {p : Int} (h : f.read x = .number s m p) : rdF f x k = k s m p := by
  unfold rdF
  simp only [force_eq, forceI_eq]
  unfold Ieee.Format.read at h
  dsimp only at h
  split at h
  · rename_i h1
    rw [if_pos h1]
    cases h
    rfl
  · rename_i h1
    rw [if_neg h1]
    split at h
    · rename_i h2
      rw [if_pos h2]
      cases h
      rfl
    · split at h <;> cases h
abbrev F (a : Nat) : Prop := Fin .f64 (some a)
abbrev rvd (a : Nat) : Rat := rv .f64 a
theorem mulF_fin {a b : Nat} (ha : F a) (hb : F b) : mulW a b = fop .mul .f64 (some a) (some b) := by
  obtain ⟨s, m, i, hr⟩ := fin_read ha
  obtain ⟨t, n, j, hs⟩ := fin_read hb
  show mulF a b = _
  unfold mulF
  rw [rdF_mk hr, rdF_mk hs]
  simp only [force_eq, forceI_eq, ← nearF_eq]
  show _ = (Ieee.Datum.product (FloatKind.f64.format.read a) (FloatKind.f64.format.read b)).map _
  rw [hr, hs]
  rfl
theorem addF_fin {a b : Nat} (ha : F a) (hb : F b) : addW a b = fop .add .f64 (some a) (some b) := by
  obtain ⟨s, m, i, hr⟩ := fin_read ha
  obtain ⟨t, n, j, hs⟩ := fin_read hb
  show addF a b = _
  unfold addF
  rw [rdF_mk hr, rdF_mk hs, sumF_eq]
  show _ = (Ieee.Datum.sum (FloatKind.f64.format.read a) (FloatKind.f64.format.read b)).map _
  rw [hr, hs]
theorem subF_fin {a b : Nat} (ha : F a) (hb : F b) : subW a b = fop .sub .f64 (some a) (some b) := by
  obtain ⟨s, m, i, hr⟩ := fin_read ha
  obtain ⟨t, n, j, hs⟩ := fin_read hb
  show subF a b = _
  unfold subF
  rw [rdF_mk hr, rdF_mk hs, sumF_eq]
  show _ = (Ieee.Datum.sum (FloatKind.f64.format.read a) (FloatKind.f64.format.read b).opposite).map _
  rw [hr, hs]
  rfl
theorem quoW_eq (a b : Nat) : quoW a b = fop .quo .f64 (some a) (some b) := by
  unfold quoW
  split
  · rename_i q hq
    exact (quoF_some hq).symm
  · rfl
abbrev eta : Rat := 1 / 1000000000
theorem p2m53 : uk .f64 = 1 / 9007199254740992 := by show p2 (-53) = _; decide +kernel
theorem big0 : p2 (-126) ≤ (4096 : Rat) := by decide +kernel
theorem big1 : (2 * 4096 : Rat) < p2 127 := by decide +kernel
theorem big2 : (4096 : Rat) < p2 127 := by decide +kernel
theorem fin_some {k : FloatKind} {c : Option Nat} (h : Fin k c) : ∃ r, c = some r := by
  cases c with
  | none => exact h.elim
  | some r => exact ⟨r, rfl⟩
theorem near_eta {x y : Rat} (h : Near x y (4096 * uk .f64)) : Near x y eta := by
  obtain ⟨h1, h2⟩ := h
  rw [p2m53] at h1 h2
  exact ⟨by grind, by grind⟩
theorem mul1 {a b : Nat} (ha : F a) (hb : F b) (h : Ab (rvd a * rvd b) 4096) : ∃ r, mulW a b = some r ∧ F r ∧ Near (rvd r) (rvd a * rvd b) eta := by
  obtain ⟨h1, h2⟩ := mul_near ha hb h big0 big2
  obtain ⟨r, hr⟩ := fin_some h1
  rw [hr] at h1 h2
  exact ⟨r, by rw [mulF_fin ha hb, hr], h1, near_eta h2⟩
theorem add1 {a b : Nat} (ha : F a) (hb : F b) (h : Ab (rvd a + rvd b) 4096) : ∃ r, addW a b = some r ∧ F r ∧ Near (rvd r) (rvd a + rvd b) eta := by
  obtain ⟨h1, h2⟩ := add_near ha hb h big0 big2
  obtain ⟨r, hr⟩ := fin_some h1
  rw [hr] at h1 h2
  exact ⟨r, by rw [addF_fin ha hb, hr], h1, near_eta h2⟩
theorem sub1 {a b : Nat} (ha : F a) (hb : F b) (h : Ab (rvd a - rvd b) 4096) : ∃ r, subW a b = some r ∧ F r ∧ Near (rvd r) (rvd a - rvd b) eta := by
  obtain ⟨h1, h2⟩ := sub_near ha hb h big0 big2
  obtain ⟨r, hr⟩ := fin_some h1
  rw [hr] at h1 h2
  exact ⟨r, by rw [subF_fin ha hb, hr], h1, near_eta h2⟩
theorem quo1 {a b : Nat} (ha : F a) (hb : F b) (h0 : rvd b ≠ 0) (h : Ab (rvd a / rvd b) 4096) : ∃ r, quoW a b = some r ∧ F r ∧ Near (rvd r) (rvd a / rvd b) eta := by
  obtain ⟨h1, h2, h3⟩ := quo_near ha hb h0 h big0 big1
  obtain ⟨r, hr⟩ := fin_some h1
  rw [hr] at h1 h2 h3
  refine ⟨r, by rw [quoW_eq, hr], h1, ?_⟩
  rw [p2m53] at h2 h3
  exact ⟨by show rv .f64 r ≤ _; have : cv .f64 (some r) = rv .f64 r := rfl; grind, by show _ ≤ rv .f64 r + _; have : cv .f64 (some r) = rv .f64 r := rfl; grind⟩
def inB (x : Nat) (lo hi : Rat) : Bool := decide (rung FloatKind.f64.format x < FloatKind.f64.format.infRung) && decide (lo ≤ rv .f64 x) && decide (rv .f64 x ≤ hi)
theorem inB_in {x : Nat} {lo hi : Rat} (h : inB x lo hi = true) : F x ∧ lo ≤ rvd x ∧ rvd x ≤ hi := by
  unfold inB at h
  simp only [Bool.and_eq_true, decide_eq_true_eq] at h
  exact ⟨h.1.1, h.1.2, h.2⟩
theorem xor_low {x : Nat} (h : x < 2 ^ 63) : x ^^^ 2 ^ 63 = 2 ^ 63 + x := by
  apply Nat.eq_of_testBit_eq
  intro i
  rw [Nat.testBit_xor, Nat.testBit_two_pow]
  rcases Nat.lt_trichotomy i 63 with hi | hi | hi
  · rw [Nat.testBit_two_pow_add_gt hi, decide_eq_false (by omega), Bool.xor_false]
  · subst hi
    rw [Nat.testBit_two_pow_add_eq, decide_eq_true rfl, Bool.xor_true]
  · have h1 : 2 ^ 64 ≤ 2 ^ i := Nat.pow_le_pow_right (by omega) hi
    rw [Nat.testBit_lt_two_pow (x := x) (i := i) (by omega), Nat.testBit_lt_two_pow (x := 2 ^ 63 + x) (i := i) (by omega), decide_eq_false (by omega)]
    rfl
theorem xor_high {x : Nat} (h : 2 ^ 63 ≤ x) (h' : x < 2 ^ 64) : x ^^^ 2 ^ 63 = x - 2 ^ 63 := by
  have e := xor_low (x := x - 2 ^ 63) (by omega)
  rw [show 2 ^ 63 + (x - 2 ^ 63) = x by omega] at e
  rw [← e, Nat.xor_assoc, Nat.xor_self, Nat.xor_zero, e]
theorem neg_words {x : Nat} (h : x < 2 ^ 64) : Op.negFloat .f64 x < 2 ^ 64 ∧ rung FloatKind.f64.format (Op.negFloat .f64 x) = rung FloatKind.f64.format x ∧ sgn FloatKind.f64.format (Op.negFloat .f64 x) = !sgn FloatKind.f64.format x := by
  have e : Op.negFloat .f64 x = x ^^^ 2 ^ 63 := rfl
  have hs : FloatKind.f64.format.signWeight = 2 ^ 63 := rfl
  rw [e]
  unfold rung sgn
  rw [hs]
  by_cases h1 : x < 2 ^ 63
  · rw [xor_low h1]
    refine ⟨by omega, by omega, ?_⟩
    rw [Nat.div_eq_of_lt h1, show (2 ^ 63 + x) / 2 ^ 63 = 1 by omega]
    rfl
  · rw [xor_high (by omega) h]
    refine ⟨by omega, by omega, ?_⟩
    rw [show (x - 2 ^ 63) / 2 ^ 63 = 0 by omega, show x / 2 ^ 63 = 1 by omega]
    rfl
theorem neg_ok {x : Nat} (hi : Is .f64 x (some x)) (h : Fin .f64 (some x)) : Fin .f64 (some (Op.negFloat .f64 x)) ∧ Is .f64 (Op.negFloat .f64 x) (some (Op.negFloat .f64 x)) ∧ rv .f64 (Op.negFloat .f64 x) = -rv .f64 x := by
  obtain ⟨h1, h2, h3⟩ := neg_words hi.1
  have hf : Fin .f64 (some (Op.negFloat .f64 x)) := by
    show rung _ _ < _
    rw [h2]
    exact h
  refine ⟨hf, ?_, ?_⟩
  · obtain ⟨s, m, p, hr⟩ := fin_read hf
    refine Is_lit ?_
    rw [Bool.and_eq_true, decide_eq_true_eq]
    refine ⟨h1, ?_⟩
    show (!(FloatKind.f64.format.read _).isNaN) = true
    rw [hr]
    rfl
  · rw [rv_fin .f64 _ hf, rv_fin .f64 x h, h2, h3]
    cases sgn FloatKind.f64.format x
    · show sg true * _ = -(sg false * _)
      simp only [sg]
      grind
    · show sg false * _ = -(sg true * _)
      simp only [sg]
      grind

/-! ## bounds -/
theorem div_ab {x d X Y D : Rat} (h : Ab x X) (hD : 0 < D) (hd : D ≤ d) (hY0 : 0 ≤ Y) (hY : X ≤ Y * D) : Ab (x / d) Y := by
  have hd0 : 0 < d := by grind
  have e : x / d * d = x := Rat.div_mul_cancel (by grind)
  obtain ⟨h1, h2⟩ := h
  generalize x / d = q at *
  constructor
  · rcases Rat.le_total (a := q) (b := Y) with g | g
    · exact g
    · have g1 := Rat.mul_le_mul_of_nonneg_right g (Rat.le_of_lt hd0)
      have g2 := Rat.mul_le_mul_of_nonneg_left hd hY0
      have g3 : q * d = Y * d := by grind
      have := mul_cancel hd0 g3
      grind
  · rcases Rat.le_total (a := -Y) (b := q) with g | g
    · exact g
    · have g1 := Rat.mul_le_mul_of_nonneg_right g (Rat.le_of_lt hd0)
      have g2 := Rat.mul_le_mul_of_nonneg_left hd hY0
      have g3 : q * d = -Y * d := by grind
      have := mul_cancel hd0 g3
      grind
theorem Near.abE {x y e Y Z : Rat} (h : Near x y e) (hy : Ab y Y) (hZ : Y + e ≤ Z) : Ab x Z := by
  obtain ⟨a, b⟩ := h
  obtain ⟨c, d⟩ := hy
  constructor <;> grind
theorem Ab.to {x y X Y : Rat} (hx : Ab x X) (h : x = y) (hX : X ≤ Y) : Ab y Y := by
  obtain ⟨a, b⟩ := hx
  constructor <;> grind
theorem quo_any {a b : Nat} (ha : F a) (hb : F b) (h : rvd a ≠ 0 ∨ rvd b ≠ 0) : ∃ r, quoW a b = some r := by
  obtain ⟨s, m, i, hr⟩ := fin_read ha
  obtain ⟨t, n, j, hs⟩ := fin_read hb
  rw [quoW_eq]
  show ∃ r, ((FloatKind.f64.format.read a).quotient (FloatKind.f64.format.fractionBits + 2) (FloatKind.f64.format.read b)).map FloatKind.f64.format.write = some r
  rw [hr, hs]
  by_cases hn : n = 0
  · have hm : m ≠ 0 := by
      rintro rfl
      subst hn
      rcases h with h | h
      · apply h; show dv (FloatKind.f64.format.read a) = 0; rw [hr]; simp [dv]
      · apply h; show dv (FloatKind.f64.format.read b) = 0; rw [hs]; simp [dv]
    subst hn
    simp [Ieee.Datum.quotient, hm]
  · simp [Ieee.Datum.quotient, hn]
theorem one_b : F w1 ∧ 1 ≤ rvd w1 ∧ rvd w1 ≤ 1 := inB_in (by decide +kernel)
theorem stp_ok {t : Nat} (ht : F t) (hA : Ab (rvd t) (11 / 10)) : ∃ t', angStp t = some t' ∧ F t' ∧ Ab (rvd t') (11 / 10) := by
  obtain ⟨f1, l1, l2⟩ := one_b
  have hm0 : 0 ≤ rvd t * rvd t := by
    rcases Rat.le_total (a := 0) (b := rvd t) with g | g
    · exact Rat.mul_nonneg g g
    · have := Rat.mul_nonneg (a := -rvd t) (b := -rvd t) (by grind) (by grind); grind
  have hmA := hA.mul hA
  obtain ⟨m, em, fm, nm⟩ := mul1 ht ht (hmA.to rfl (by decide +kernel))
  obtain ⟨nm1, nm2⟩ := nm
  obtain ⟨mA1, mA2⟩ := hmA
  have e121 : (11 / 10 : Rat) * (11 / 10) = 121 / 100 := by decide +kernel
  rw [e121] at mA1 mA2
  generalize rvd t * rvd t = tt at *
  obtain ⟨a, ea, fa, na1, na2⟩ := add1 (a := w1) (b := m) f1 fm (by constructor <;> grind)
  have a1 : 9 / 10 * (9 / 10) ≤ rvd a := by grind
  have a2 : rvd a ≤ 3 / 2 * (3 / 2) := by grind
  obtain ⟨fr, r0, r1, r2⟩ := sqrt_near fa (by show 0 ≤ rvd a; grind) a1 a2 (by decide +kernel) (by decide +kernel)
  obtain ⟨r, er⟩ := fin_some fr
  rw [er] at fr r0 r1 r2
  have er' : rootW a = some r := er
  have k : cv .f64 (some r) = rvd r := rfl
  rw [k, p2m53] at r1 r2
  obtain ⟨d, ed, fd, nd1, nd2⟩ := add1 (a := w1) (b := r) f1 fr (by constructor <;> grind)
  have d1 : 17 / 10 ≤ rvd d := by grind
  have hq := div_ab hA (D := 17 / 10) (Y := 1) (by decide +kernel) d1 (by decide +kernel) (by decide +kernel)
  obtain ⟨q, eq, fq, nq⟩ := quo1 ht fd (by grind) (hq.to rfl (by decide +kernel))
  refine ⟨q, ?_, fq, nq.abE hq (by decide +kernel)⟩
  unfold angStp
  rw [em, bw_of, ea, bw_of, er', bw_of, ed, bw_of, eq]
theorem iter_ok : ∀ (n : Nat) {t : Nat}, F t → Ab (rvd t) (11 / 10) → ∃ t', angIter n t = some t' ∧ F t' ∧ Ab (rvd t') (11 / 10)
  | 0, t, ht, hA => ⟨t, rfl, ht, hA⟩
  | n + 1, t, ht, hA => by
    obtain ⟨t1, e1, f1, b1⟩ := stp_ok ht hA
    obtain ⟨t2, e2, f2, b2⟩ := iter_ok n f1 b1
    exact ⟨t2, by rw [angIter, e1, bw_of, e2], f2, b2⟩
theorem sum_step {u p k q k' n : Nat} {B C : Rat} (hu : F u) (hU : Ab (rvd u) (5 / 4)) (hp : F p) (hP : Ab (rvd p) B) (hB : 5 / 4 * B + 2 ≤ 1000) (hC : 5 / 4 * B + 1 + 1 / 100 ≤ C) (hge : geW k w1 = true) (hq : quoW w1 k = some q) (hk : subW k w2 = some k') (hQ : inB q 0 1 = true) :
    ∃ p', angSum u (n + 1) p k = angSum u n p' k' ∧ F p' ∧ Ab (rvd p') C := by
  obtain ⟨fq, q1, q2⟩ := inB_in hQ
  have hup := hU.mul hP
  obtain ⟨b, eb, fb, nb1, nb2⟩ := mul1 hu hp (hup.to rfl (by grind))
  obtain ⟨u1, u2⟩ := hup
  obtain ⟨p', ep, fp, np1, np2⟩ := sub1 (a := q) (b := b) fq fb (by constructor <;> grind)
  refine ⟨p', ?_, fp, by constructor <;> grind⟩
  rw [angSum, hge, if_pos rfl, hq, bw_of, eb, bw_of, ep, bw_of, hk, bw_of]
theorem sum_ok {u : Nat} (hu : F u) (hU : Ab (rvd u) (5 / 4)) : ∃ p, angSum u 9 0 w15 = some p ∧ F p ∧ Ab (rvd p) 30 := by
  obtain ⟨z0, z1, z2⟩ := inB_in (x := 0) (lo := 0) (hi := 0) (by decide +kernel)
  obtain ⟨p1, e1, f1, b1⟩ := sum_step (n := 8) (k := 4624633867356078080) (q := 4589468260265693457) (k' := 4623507967449235456) (B := 0) (C := 11 / 10) hu hU z0 ⟨by grind, by grind⟩ (by decide +kernel) (by decide +kernel) (by decide +kernel) (by decide +kernel) (by decide +kernel) (by decide +kernel)
  obtain ⟨p2, e2, f2, b2⟩ := sum_step (n := 7) (k := 4623507967449235456) (q := 4590207312512236308) (k' := 4622382067542392832) (C := 3) hu hU f1 b1 (by decide +kernel) (by decide +kernel) (by decide +kernel) (by decide +kernel) (by decide +kernel) (by decide +kernel)
  obtain ⟨p3, e3, f3, b3⟩ := sum_step (n := 6) (k := 4622382067542392832) (q := 4591215111030249286) (k' := 4621256167635550208) (C := 5) hu hU f2 b2 (by decide +kernel) (by decide +kernel) (by decide +kernel) (by decide +kernel) (by decide +kernel) (by decide +kernel)
  obtain ⟨p4, e4, f4, b4⟩ := sum_step (n := 5) (k := 4621256167635550208) (q := 4592670820000712476) (k' := 4619567317775286272) (C := 8) hu hU f3 b3 (by decide +kernel) (by decide +kernel) (by decide +kernel) (by decide +kernel) (by decide +kernel) (by decide +kernel)
  obtain ⟨p5, e5, f5, b5⟩ := sum_step (n := 4) (k := 4619567317775286272) (q := 4594314991293244562) (k' := 4617315517961601024) (C := 12) hu hU f4 b4 (by decide +kernel) (by decide +kernel) (by decide +kernel) (by decide +kernel) (by decide +kernel) (by decide +kernel)
  obtain ⟨p6, e6, f6, b6⟩ := sum_step (n := 3) (k := 4617315517961601024) (q := 4596373779694328218) (k' := 4613937818241073152) (C := 17) hu hU f5 b5 (by decide +kernel) (by decide +kernel) (by decide +kernel) (by decide +kernel) (by decide +kernel) (by decide +kernel)
  obtain ⟨p7, e7, f7, b7⟩ := sum_step (n := 2) (k := 4613937818241073152) (q := 4599676419421066581) (k' := 4607182418800017408) (C := 23) hu hU f6 b6 (by decide +kernel) (by decide +kernel) (by decide +kernel) (by decide +kernel) (by decide +kernel) (by decide +kernel)
  obtain ⟨p8, e8, f8, b8⟩ := sum_step (n := 1) (k := 4607182418800017408) (q := 4607182418800017408) (k' := 13830554455654793216) (C := 30) hu hU f7 b7 (by decide +kernel) (by decide +kernel) (by decide +kernel) (by decide +kernel) (by decide +kernel) (by decide +kernel)
  have hend : angSum u 1 p8 13830554455654793216 = some p8 := by
    rw [angSum, show geW 13830554455654793216 w1 = false by decide +kernel]
    rfl
  exact ⟨p8, by rw [show w15 = 4624633867356078080 from rfl, e1, e2, e3, e4, e5, e6, e7, e8, hend], f8, b8⟩

end Go.Proofs.YtclgplbikjmopaaGreatDoor
