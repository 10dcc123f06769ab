/-
  FnLengths: a curve measured part by part is no longer than its frame, nearly, and no shorter than its ends are apart, nearly.
-/
import Derived.Test.YtonbcbhnnflohaaWj
import Derived.Test.YtonbcbhnnflohaaPa
namespace Go.Proofs.Ytonbcbhnnflohaa
open Go.RowKit

theorem HP.mono {n n' : Nat} {k : Kn} (h : HP n k) (hn : n ≤ n') : HP n' k := by
  have a := Rat.natCast_le_natCast.2 hn
  exact { h with x := h.x.to rfl (by grind), y := h.y.to rfl (by grind) }
/-- Both parts of a curve that is cut in the middle. -/
structure CutH (n m : Nat) (c : List Kn) (D : Rat) (l r : List Kn) (A B : Rat) (p q z : Kn) : Prop where
  cut : cutC m c 1056964608 = some (l, r)
  ll : l.length = m + 1
  lr : r.length = m + 1
  hl : ∀ k ∈ l, HP (n + m) k
  hr : ∀ k ∈ r, HP (n + m) k
  ul : UPl l A
  ur : UPl r.reverse B
  sum : A + B ≤ D + ((m * (m + 1) : Nat) : Rat) * rho
  el : Edge c l
  er : Edge c.reverse r
  hp : c.head? = some p
  hq : c.getLast? = some q
  zl : l.getLast? = some z
  zr : r.getLast? = some z
theorem cut_half : ∀ (m : Nat) {n : Nat} {c : List Kn} {D : Rat}, c.length = m + 1 → n + m ≤ 60 → (∀ k ∈ c, HP n k) → UPl c D → ∃ l r A B p q z, CutH n m c D l r A B p q z
  | 0, n, c, D, hl, hn, hk, hu => by
    match c, hl with
    | [k], _ =>
      refine ⟨[k], [k], 0, 0, k, k, k, ⟨rfl, rfl, rfl, hk, hk, .one k (by grind), .one k (by grind), ?_, .one k, .one k, rfl, rfl, rfl, rfl⟩⟩
      have := hu.nn
      show 0 + 0 ≤ D + ((0 : Nat) : Rat) * rho
      rw [show ((0 : Nat) : Rat) = 0 from rfl]
      grind
  | m + 1, n, c, D, hl, hn, hk, hu => by
    have hne : c ≠ [] := by intro h; rw [h] at hl; simp at hl
    obtain ⟨d, hd, hm, hh⟩ := next_half (n := n) (by omega) c hne hk
    have dl := hm.len
    obtain ⟨p, q, p', q', a, D', b, e1, e2, e3, e4, v1, u1, v2, hs⟩ := hm.up hu (by omega)
    obtain ⟨l, r, A, B, p1, q1, z, H⟩ := cut_half m (n := n + 1) (c := d) (by omega) (by omega) hh u1
    have lp : l.head? = some p' := by rw [H.el.head]; exact e3
    have rq : r.head? = some q' := by rw [H.er.head, List.head?_reverse]; exact e4
    obtain ⟨l', rfl⟩ : ∃ l', l = p' :: l' := by
      cases l with
      | nil => simp at lp
      | cons x l' => exact ⟨l', by simp at lp; rw [lp]⟩
    obtain ⟨r', rfl⟩ : ∃ r', r = q' :: r' := by
      cases r with
      | nil => simp at rq
      | cons x r' => exact ⟨r', by simp at rq; rw [rq]⟩
    obtain ⟨c', rfl⟩ : ∃ c', c = p :: c' := by
      cases c with
      | nil => simp at e1
      | cons x c' => exact ⟨c', by simp at e1; rw [e1]⟩
    obtain ⟨t, ht⟩ : ∃ t, (p :: c').reverse = q :: t := by
      have h : (p :: c').reverse.head? = some q := by rw [List.head?_reverse]; exact e2
      generalize (p :: c').reverse = L at h
      cases L with
      | nil => simp at h
      | cons x t => exact ⟨t, by simp at h; rw [h]⟩
    have hmr := hm.rev
    rw [ht] at hmr
    have hkp : HP (n + (m + 1)) p := (hk p (by simp)).mono (by omega)
    have hkq : HP (n + (m + 1)) q := (hk q (List.mem_of_getLast? e2)).mono (by omega)
    refine ⟨p :: p' :: l', q :: q' :: r', a + A, B + b, p, q, z, ⟨?_, by simp [H.ll], by simp [H.lr], ?_, ?_, .cons v1 H.ul, ?_, ?_, .cons hm H.el, ?_, rfl, e2, ?_, ?_⟩⟩
    · unfold cutC
      rw [e1, Option.bind_some, e2, Option.bind_some, hd, Option.bind_some, H.cut]
      rfl
    · intro k hk'
      rcases List.mem_cons.1 hk' with rfl | hk'
      · exact hkp
      · exact (H.hl k hk').mono (by omega)
    · intro k hk'
      rcases List.mem_cons.1 hk' with rfl | hk'
      · exact hkq
      · exact (H.hr k hk').mono (by omega)
    · rw [show (q :: q' :: r').reverse = (q' :: r').reverse ++ [q] from List.reverse_cons]
      exact H.ur.snoc (by rw [List.getLast?_reverse]; exact rq) v2
    · have hsum := H.sum
      have dm : (d.length : Rat) = (m : Rat) + 1 := by rw [show d.length = m + 1 by omega]; exact i1' m
      have e5 : (((m + 1) * (m + 1 + 1) : Nat) : Rat) = ((m * (m + 1) : Nat) : Rat) + 2 * ((m : Rat) + 1) := by
        rw [show (m + 1) * (m + 1 + 1) = m * (m + 1) + (m + 1) + (m + 1) by grind, Rat.natCast_add, Rat.natCast_add, i1']
        grind
      rw [e5]
      rw [dm] at hs
      grind
    · rw [ht]
      exact .cons hmr H.er
    · rw [List.getLast?_cons_cons]; exact H.zl
    · rw [List.getLast?_cons_cons]; exact H.zr
/-! ## a frame that hardly bends is hardly longer than its chord -/
def dev (a : Rat) : Nat → Rat → Rat
  | 0, _ => 0
  | m + 1, e => e + dev a m (e + a)
def FD (c : List Kn) (wx wy e : Rat) : Prop := match c with
  | x :: y :: _ => Le (rF y.1 - rF x.1 - wx) (rF y.2.1 - rF x.2.1 - wy) e
  | _ => True
theorem fr_dev {A B a wx wy lam : Rat} (ha : 0 ≤ a) (hab : A * A + B * B ≤ a * a) (hw : Le wx wy lam) : ∀ {c : List Kn} {ls : List Nat}, FrL c ls → SD A B c → ∀ {p q : Kn} {e : Rat}, c.head? = some p → c.getLast? = some q → FD c wx wy e → 0 ≤ e → lam + e + (ls.length : Rat) * a ≤ 39 →
    sumR ls ≤ ((ls.length : Rat) * lam + dev a ls.length e) + 4 * (U * ((ls.length : Rat) * lam + dev a ls.length e)) + (ls.length : Rat) * tn ∧ Le (rF q.1 - rF p.1 - (ls.length : Rat) * wx) (rF q.2.1 - rF p.2.1 - (ls.length : Rat) * wy) (dev a ls.length e)
  | _, _, .one k, _, p, q, e, hp, hq, _, _, _ => by
    obtain rfl : k = p := by simpa using hp
    obtain rfl : k = q := by simpa using hq
    have e0 : (([] : List Nat).length : Rat) = 0 := rfl
    rw [e0]
    refine ⟨?_, Le.zero.to (by grind) (by grind) Rat.le_refl⟩
    show (0 : Rat) ≤ 0 * lam + 0 + 4 * (U * (0 * lam + 0)) + 0 * tn
    grind
  | _, _, .cons (a := x) (b := y) (c := c) (l := l) (ls := ls) _ g h, hS, p, q, e, hp, hq, hF, he, h39 => by
    obtain rfl : x = p := by simpa using hp
    rw [List.getLast?_cons_cons] at hq
    have hF' : Le (rF y.1 - rF x.1 - wx) (rF y.2.1 - rF x.2.1 - wy) e := hF
    rw [List.length_cons, i1'] at h39 ⊢
    have n0 : (0 : Rat) ≤ (ls.length : Rat) := Rat.natCast_nonneg
    have na := Rat.mul_nonneg n0 ha
    have hlo := g.lo (lam + e) (by grind) ((hw.add hF').to (by grind) (by grind) Rat.le_refl)
    have hF2 : FD (y :: c) wx wy (e + a) := by
      cases c with
      | nil => exact trivial
      | cons z c =>
        cases hS with
        | cons s1 s2 _ =>
          show Le (rF z.1 - rF y.1 - wx) (rF z.2.1 - rF y.2.1 - wy) (e + a)
          exact (hF'.add (Le.of_ab s1 s2 ha hab)).to (by grind) (by grind) Rat.le_refl
    have hS2 : SD A B (y :: c) := by
      cases hS with
      | two => exact .one _
      | cons _ _ hh => exact hh
    obtain ⟨i1, i2⟩ := fr_dev ha hab hw h hS2 rfl hq hF2 (by grind) (by grind)
    rw [sumR]
    show rF l + sumR ls ≤ (((ls.length : Rat) + 1) * lam + (e + dev a ls.length (e + a))) + 4 * (U * (((ls.length : Rat) + 1) * lam + (e + dev a ls.length (e + a)))) + ((ls.length : Rat) + 1) * tn ∧ Le _ _ (e + dev a ls.length (e + a))
    refine ⟨by grind, (hF'.add i2).to (by grind) (by grind) Rat.le_refl⟩
theorem dev_le {a : Rat} (ha : 0 ≤ a) : ∀ m, m ≤ 5 → dev a m 0 ≤ 10 * a ∧ 0 ≤ dev a m 0 := by
  intro m hm
  match m, hm with
  | 0, _ => simp only [dev]; constructor <;> grind
  | 1, _ => simp only [dev]; constructor <;> grind
  | 2, _ => simp only [dev]; constructor <;> grind
  | 3, _ => simp only [dev]; constructor <;> grind
  | 4, _ => simp only [dev]; constructor <;> grind
  | 5, _ => simp only [dev]; constructor <;> grind
theorem fr_chord {A B a C D : Rat} {c : List Kn} {ls : List Nat} {p q : Kn} (ha : 0 ≤ a) (ha1 : a ≤ 1 / 10) (hab : A * A + B * B ≤ a * a) (hF : FrL c ls) (hS : SD A B c) (hU : UPl c D) (hD : D ≤ 30) (h1 : 1 ≤ ls.length) (h5 : ls.length ≤ 5) (hp : c.head? = some p) (hq : c.getLast? = some q) (hC : VL p q C) (hC30 : C ≤ 31) : sumR ls ≤ (C + 20 * a) + 4 * (U * (C + 20 * a)) + 5 * tn := by
  match c, hF, hS, hU with
  | _, .one k, _, _ => simp at h1
  | _, .cons (a := x) (b := y) (c := c) (l := l) (ls := ls) e g h, hS, .cons (d := d0) (D := D0) v0 hu0 =>
    have C0 := hC.nn
    have u0 := hu0.nn
    obtain ⟨d1, d2⟩ := dev_le ha (l :: ls).length h5
    have hv : FD (x :: y :: c) (rF y.1 - rF x.1) (rF y.2.1 - rF x.2.1) 0 := Le.zero.to (by grind) (by grind) Rat.le_refl
    have m0 : (1 : Rat) ≤ (((l :: ls).length : Nat) : Rat) := by
      have := Rat.natCast_le_natCast.2 h1
      exact this
    have m5 := i5 h5
    generalize hm : (((l :: ls).length : Nat) : Rat) = m at m0 m5
    have mne : m ≠ 0 := by grind
    have ma := Rat.mul_nonneg (a := 5 - m) (b := a) (by grind) ha
    -- the first step, m times, is near to the chord
    have b1 := (fr_dev ha hab v0 (.cons e g h) hS hp hq hv (by grind) (by rw [hm]; grind)).2
    rw [hm] at b1
    have base : Le (m * (rF y.1 - rF x.1)) (m * (rF y.2.1 - rF x.2.1)) (C + 10 * a) := (hC.add b1.neg).to (by grind) (by grind) (by grind)
    have mm : 1 / m * m = 1 := Rat.div_mul_cancel mne
    have mi : 0 ≤ 1 / m := by
      apply Rat.not_lt.1
      intro hlt
      have := Rat.mul_nonneg (a := -(1 / m)) (b := m) (by grind) (by grind)
      grind
    have hlam : Le (rF y.1 - rF x.1) (rF y.2.1 - rF x.2.1) (1 / m * (C + 10 * a)) := (base.smul mi).to (by rw [← Rat.mul_assoc, mm]; grind) (by rw [← Rat.mul_assoc, mm]; grind) Rat.le_refl
    have e2 : m * (1 / m * (C + 10 * a)) = C + 10 * a := by rw [← Rat.mul_assoc, Rat.mul_comm m, mm]; grind
    have hle : 1 / m * (C + 10 * a) ≤ C + 10 * a := by
      have := Rat.mul_nonneg (a := m - 1) (b := 1 / m * (C + 10 * a)) (by grind) hlam.nn
      grind
    have := (fr_dev ha hab hlam (.cons e g h) hS hp hq hv (by grind) (by rw [hm]; grind)).1
    rw [hm, e2] at this
    grind
/-! ## the numbers of one part -/
abbrev tb : Rat := 1 / 10000000000
theorem neg32 {x : Nat} (h : x < 2 ^ 32) : Op.negFloat .f32 x < 2 ^ 32 ∧ rung FloatKind.f32.format (Op.negFloat .f32 x) = rung FloatKind.f32.format x ∧ sgn FloatKind.f32.format (Op.negFloat .f32 x) = !sgn FloatKind.f32.format x := by
  have e : Op.negFloat .f32 x = x ^^^ 2 ^ 31 := rfl
  have hs : FloatKind.f32.format.signWeight = 2 ^ 31 := rfl
  have low : ∀ {x : Nat}, x < 2 ^ 31 → x ^^^ 2 ^ 31 = 2 ^ 31 + x := by
    intro x h
    apply Nat.eq_of_testBit_eq
    intro i
    rw [Nat.testBit_xor, Nat.testBit_two_pow]
    rcases Nat.lt_trichotomy i 31 with hi | hi | hi
    · rw [Nat.testBit_two_pow_add_gt hi, decide_eq_false (by omega), Bool.xor_false]
    · subst hi
      rw [Nat.testBit_two_pow_add_eq, decide_eq_true rfl, Bool.xor_true]
    · have h1 : 2 ^ 32 ≤ 2 ^ i := Nat.pow_le_pow_right (by omega) hi
      rw [Nat.testBit_lt_two_pow (x := x) (i := i) (by omega), Nat.testBit_lt_two_pow (x := 2 ^ 31 + x) (i := i) (by omega), decide_eq_false (by omega)]
      rfl
  rw [e]
  unfold rung sgn
  rw [hs]
  by_cases h1 : x < 2 ^ 31
  · rw [low h1]
    refine ⟨by omega, by omega, ?_⟩
    rw [Nat.div_eq_of_lt h1, show (2 ^ 31 + x) / 2 ^ 31 = 1 by omega]
    rfl
  · have e2 := low (x := x - 2 ^ 31) (by omega)
    rw [show 2 ^ 31 + (x - 2 ^ 31) = x by omega] at e2
    have e3 : x ^^^ 2 ^ 31 = x - 2 ^ 31 := by rw [← e2, Nat.xor_assoc, Nat.xor_self, Nat.xor_zero, e2]
    rw [e3]
    refine ⟨by omega, by omega, ?_⟩
    rw [show (x - 2 ^ 31) / 2 ^ 31 = 0 by omega, show x / 2 ^ 31 = 1 by omega]
    rfl
theorem neg32_ok {x : Nat} (hi : Is .f32 x (some x)) (h : G x) : G (Op.negFloat .f32 x) ∧ Is .f32 (Op.negFloat .f32 x) (some (Op.negFloat .f32 x)) ∧ rF (Op.negFloat .f32 x) = -rF x := by
  obtain ⟨h1, h2, h3⟩ := neg32 hi.1
  have hf : Fin .f32 (some (Op.negFloat .f32 x)) := by
    show rung _ _ < _
    rw [h2]
    exact h
  refine ⟨hf, ?_, ?_⟩
  · obtain ⟨s, m, p, hr⟩ := fin_read hf
    refine Is_lit ?_
    rw [Bool.and_eq_true, decide_eq_true_eq]
    refine ⟨h1, ?_⟩
    show (!(FloatKind.f32.format.read _).isNaN) = true
    rw [hr]
    rfl
  · show rv .f32 _ = -rv .f32 x
    rw [rv_fin .f32 _ hf, rv_fin .f32 x h, h2, h3]
    cases sgn FloatKind.f32.format x
    · show sg true * _ = -(sg false * _)
      simp only [sg]
      grind
    · show sg false * _ = -(sg true * _)
      simp only [sg]
      grind
structure PartF (c : List Kn) (D : Rat) (p q : Kn) (fl : List Nat) (ch df ab x y : Nat) : Prop where
  ok : PartOk c fl (sF fl) ch df ab
  fr : FrL c fl
  lc : Lg (rF q.1 - rF p.1) (rF q.2.1 - rF p.2.1) ch
  ef : Ab (rF (sF fl fl.length) - sumR fl) (10 * (U * (sumR fl + 1 / 1000000000)))
  gab : G ab
  ab : rF ab = rF df ∨ rF ab = -rF df
  ed : Ab (rF df - (rF (sF fl fl.length) - rF ch)) (40 * U)
  hx : fop .add .f32 (some (sF fl fl.length)) (some ch) = some x
  hy : fop .quo .f32 (some x) (some 1073741824) = some y
  gy : G y
  y1 : rF y ≤ D + 20 * (U * D) + tb
  y2 : VL p q (rF y + 20 * (U * rF y) + tb)
set_option maxHeartbeats 1000000 in
theorem part_ok {n m : Nat} {c : List Kn} {D : Rat} {p q : Kn} (hl : c.length = m + 1) (h1 : 1 ≤ m) (h5 : m ≤ 5) (hk : ∀ k ∈ c, HP n k) (hn : n ≤ 60) (hU : UPl c D) (hD : D ≤ 30) (hp : c.head? = some p) (hq : c.getLast? = some q) : ∃ fl ch df ab x y, PartF c D p q fl ch df ab x y := by
  have hs30 := sm30
  have hs30' := sm30'
  have big := big127
  have n0 : (0 : Rat) ≤ (n : Rat) := Rat.natCast_nonneg
  have n60 : (n : Rat) ≤ 60 := by
    have a := Rat.natCast_le_natCast.2 hn
    rw [show ((60 : Nat) : Rat) = 60 from rfl] at a
    exact a
  have hpb : ∀ k ∈ c, Pb k := fun k h => ⟨(hk k h).g1, (hk k h).g2, (hk k h).x.to rfl (by grind), (hk k h).y.to rfl (by grind)⟩
  have gc : GC c := by
    refine ⟨by omega, by omega, fun k h => ⟨gd_any (hk k h).g1 (hk k h).i1, gd_any (hk k h).g2 (hk k h).i2⟩, fun k h => ?_⟩
    rw [(hk k h).w]
    exact ⟨gd_any G1 i32_1', by decide +kernel⟩
  obtain ⟨fl, hfl⟩ := frl_ex c (by omega) hpb
  have lfl := hfl.len
  have fm : fl.length = m := by omega
  have D0 := hU.nn
  have s1 := hfl.upl hU (by grind)
  have f5 := i5 (i := fl.length) (by omega)
  have f0 : (0 : Rat) ≤ (fl.length : Rat) := Rat.natCast_nonneg
  have s0 : 0 ≤ sumR fl := by rw [← ps_all]; exact ps_nn hfl.nn (Nat.le_refl _)
  obtain ⟨hS, hS'⟩ := sums_near hfl.g hfl.nn (T := sumR fl + 1 / 1000000000) (by rw [ps_all]; grind) (by grind) (by grind) (by omega)
  obtain ⟨gf, if_, ef⟩ := hS' fl.length (Nat.le_refl _)
  rw [ps_all] at ef
  have tt := Rat.mul_nonneg (a := 5 - (fl.length : Rat)) (b := sumR fl + 1 / 1000000000) (by grind) (by grind)
  have ef : Ab (rF (sF fl fl.length) - sumR fl) (10 * (U * (sumR fl + 1 / 1000000000))) := ef.to rfl (by grind)
  -- the chord
  have hpm := hpb p (List.mem_of_head? hp)
  have hqm := hpb q (List.mem_of_getLast? hq)
  obtain ⟨r, ch, hr, hch, hg⟩ := len_near (a := pt p) (b := pt q) hpm.g1 hpm.g2 hqm.g1 hqm.g2 hpm.x hpm.y hqm.x hqm.y
  have hg : Lg (rF q.1 - rF p.1) (rF q.2.1 - rF p.2.1) ch := hg
  have c1 := hg.lo D (by grind) (hU.chord hp hq)
  have c0 := hg.nn
  have gch := hg.g
  have S1 := hfl.toUp.chord hp hq
  have S2 := hg.up
  have nn := hfl.nn
  have gg := hfl.g
  generalize hF : rF (sF fl fl.length) = F at *
  generalize hC : rF ch = C at *
  have F0 : 0 ≤ F + 1 / 1000000000000 := by obtain ⟨a, b⟩ := ef; grind
  have F1 : F ≤ 31 := by obtain ⟨a, b⟩ := ef; grind
  obtain ⟨df, hdf, gdf, ddf⟩ := s32 (M := 32) gf gch (by
    have e1 : rF (sF fl fl.length) = F := hF
    have e2 : rF ch = C := hC
    rw [e1, e2]
    constructor <;> grind) (by grind) (by grind)
  have idf := fop_is hdf
  obtain ⟨gn, in_, vn⟩ := neg32_ok idf gdf
  obtain ⟨ab, hab, gab, iab, _, _, hor⟩ := max_ok gdf gn idf in_
  -- what is added
  have hxM : Ab (rF (sF fl fl.length) + rF ch) (F + C + 1 / 100000000000) := by
    rw [hF, hC]
    constructor <;> grind
  obtain ⟨fx, nx⟩ := add_near (k := .f32) gf gch (M := F + C + 1 / 100000000000) hxM (by grind) (by grind)
  obtain ⟨x, hx⟩ := fin_some' fx
  rw [hx] at fx nx
  rw [u32] at nx
  have nx : Ab (rF x - (rF (sF fl fl.length) + rF ch)) ((F + C + 1 / 100000000000) * U) := nx.ab
  rw [hF, hC] at nx
  obtain ⟨x1, x2⟩ := nx
  have two : rF 1073741824 = 2 := two2
  have hbM : Ab (rv .f32 x / rv .f32 1073741824) ((F + C) * (1 + U) / 2 + 1 / 50000000000) := by
    show Ab (rF x / rF 1073741824) _
    rw [two]
    constructor <;> grind
  obtain ⟨fy, ny⟩ := quo_near (k := .f32) fx G2' (by show rF 1073741824 ≠ 0; rw [two]; grind) hbM (by grind) (by grind)
  obtain ⟨y, hy⟩ := fin_some' fy
  rw [hy] at fy ny
  rw [u32] at ny
  have ny : Ab (rF y - rF x / rF 1073741824) (3 * ((F + C) * (1 + U) / 2 + 1 / 50000000000) * U) := ny.ab
  rw [two] at ny
  obtain ⟨y1, y2⟩ := ny
  have avg := (S1.smul (c := 1 / 2) (by grind)).add (S2.smul (c := 1 / 2) (by grind))
  obtain ⟨e1, e2⟩ := ef
  refine ⟨fl, ch, df, ab, x, y, ⟨⟨gc, hfl.gaps, hS, gd_any gf if_, ?_, gd_any gch hg.is, hdf, hab, iab⟩, hfl, hg, by rw [hF]; exact ⟨e1, e2⟩, gab, ?_, ?_, hx, hy, fy, ?_, ?_⟩⟩
  · intro h1 h2
    have e3 : c[c.length - 1] = q := by
      rw [List.getLast?_eq_getElem?, List.getElem?_eq_getElem h1] at hq
      exact Option.some.inj hq
    have e4 : c[0] = p := by
      rw [List.head?_eq_getElem?, List.getElem?_eq_getElem h2] at hp
      exact Option.some.inj hp
    rw [e3, e4]
    exact ⟨r, hr, hch⟩
  · rcases hor with rfl | rfl
    · exact .inl rfl
    · exact .inr vn
  · rw [hF, hC] at ddf ⊢
    exact ddf.to rfl (by grind)
  · grind
  · exact avg.to (by grind) (by grind) (by grind)
end Go.Proofs.Ytonbcbhnnflohaa
