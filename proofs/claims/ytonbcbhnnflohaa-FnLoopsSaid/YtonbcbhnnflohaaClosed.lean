/-
  FnLoops: areas under curves, both ways.
-/
import Derived.Test.YtonbcbhnnflohaaLl
import Derived.Test.YtonbcbhnnflohaaLg
import Derived.Test.YtonbcbhnnflohaaRows
import Derived.JoinedOf
import Derived.KernelRfl
namespace Go.Proofs.Ytonbcbhnnflohaa
open Go.RowKit

/-! ## signs -/
theorem xor_low {x : Nat} (h : x < 2 ^ 63) : x ^^^ 2 ^ 63 = 2 ^ 63 + x := by
  apply Nat.eq_of_testBit_eq
  intro i
  rw [Nat.testBit_xor, Nat.testBit_two_pow]
  rcases Nat.lt_trichotomy i 63 with hi | hi | hi
  · rw [Nat.testBit_two_pow_add_gt hi, decide_eq_false (by omega), Bool.xor_false]
  · subst hi
    rw [Nat.testBit_two_pow_add_eq, decide_eq_true rfl, Bool.xor_true]
  · have h1 : 2 ^ 64 ≤ 2 ^ i := Nat.pow_le_pow_right (by omega) hi
    rw [Nat.testBit_lt_two_pow (x := x) (i := i) (by omega), Nat.testBit_lt_two_pow (x := 2 ^ 63 + x) (i := i) (by omega), decide_eq_false (by omega)]
    rfl
theorem xor_high {x : Nat} (h : 2 ^ 63 ≤ x) (h' : x < 2 ^ 64) : x ^^^ 2 ^ 63 = x - 2 ^ 63 := by
  have e := xor_low (x := x - 2 ^ 63) (by omega)
  rw [show 2 ^ 63 + (x - 2 ^ 63) = x by omega] at e
  rw [← e, Nat.xor_assoc, Nat.xor_self, Nat.xor_zero, e]
theorem neg_words {x : Nat} (h : x < 2 ^ 64) : Op.negFloat .f64 x < 2 ^ 64 ∧ rung FloatKind.f64.format (Op.negFloat .f64 x) = rung FloatKind.f64.format x ∧ sgn FloatKind.f64.format (Op.negFloat .f64 x) = !sgn FloatKind.f64.format x := by
  have e : Op.negFloat .f64 x = x ^^^ 2 ^ 63 := rfl
  have hs : FloatKind.f64.format.signWeight = 2 ^ 63 := rfl
  rw [e]
  unfold rung sgn
  rw [hs]
  by_cases h1 : x < 2 ^ 63
  · rw [xor_low h1]
    refine ⟨by omega, by omega, ?_⟩
    rw [Nat.div_eq_of_lt h1, show (2 ^ 63 + x) / 2 ^ 63 = 1 by omega]
    rfl
  · rw [xor_high (by omega) h]
    refine ⟨by omega, by omega, ?_⟩
    rw [show (x - 2 ^ 63) / 2 ^ 63 = 0 by omega, show x / 2 ^ 63 = 1 by omega]
    rfl
theorem neg_ok {x : Nat} (hi : Is .f64 x (some x)) (h : Fin .f64 (some x)) : Fin .f64 (some (Op.negFloat .f64 x)) ∧ Is .f64 (Op.negFloat .f64 x) (some (Op.negFloat .f64 x)) ∧ rv .f64 (Op.negFloat .f64 x) = -rv .f64 x := by
  obtain ⟨h1, h2, h3⟩ := neg_words hi.1
  have hf : Fin .f64 (some (Op.negFloat .f64 x)) := by
    show rung _ _ < _
    rw [h2]
    exact h
  refine ⟨hf, ?_, ?_⟩
  · obtain ⟨s, m, p, hr⟩ := fin_read hf
    refine Is_lit ?_
    rw [Bool.and_eq_true, decide_eq_true_eq]
    refine ⟨h1, ?_⟩
    show (!(FloatKind.f64.format.read _).isNaN) = true
    rw [hr]
    rfl
  · rw [rv_fin .f64 _ hf, rv_fin .f64 x h, h2, h3]
    cases sgn FloatKind.f64.format x
    · show sg true * _ = -(sg false * _)
      simp only [sg]
      grind
    · show sg false * _ = -(sg true * _)
      simp only [sg]
      grind
/-! ## near rows, near times -/
inductive LR (d B : Rat) : List Rat → List Rat → Prop
  | nil : LR d B [] []
  | cons {x x' X X'} : Ab (x - x') d → Ab x B → Ab x' B → LR d B X X' → LR d B (x :: X) (x' :: X')
theorem LR.self {B : Rat} : ∀ X : List Rat, (∀ x ∈ X, Ab x B) → LR 0 B X X
  | [], _ => .nil
  | x :: X, h => .cons (by constructor <;> grind) (h x List.mem_cons_self) (h x List.mem_cons_self) (LR.self X fun y hy => h y (List.mem_cons_of_mem _ hy))
theorem near_step {x y x' y' s t d B q : Rat} (hx : Ab (x - x') d) (hy : Ab (y - y') d) (h0 : 0 ≤ s) (h1 : s ≤ 1) (bx : Ab x' B) (bY : Ab y' B) (hq : Ab (s - t) q) : Ab (x * (1 - s) + y * s - (x' * (1 - t) + y' * t)) (d + 2 * (B * q)) := by
  have e1 := cvx hx hy h0 h1
  have e2 := (bY.sub bx).mul hq
  exact (e1.add e2).to (by grind) (by grind)
theorem LR.next {d B s t q : Rat} (h0 : 0 ≤ s) (h1 : s ≤ 1) (t0 : 0 ≤ t) (t1 : t ≤ 1) (hq : Ab (s - t) q) : ∀ {X X' : List Rat}, LR d B X X' → LR (d + 2 * (B * q)) B (nextS X s) (nextS X' t)
  | _, _, .nil => .nil
  | _, _, .cons a b c h => by
    cases h with
    | nil => exact .nil
    | cons a' b' c' h' =>
      exact .cons (near_step a a' h0 h1 c c' hq) (cvx b b' h0 h1) (cvx c c' t0 t1) (LR.next h0 h1 t0 t1 hq (.cons a' b' c' h'))
theorem LR.head {d B : Rat} (hd : 0 ≤ d) : ∀ {X X' : List Rat}, LR d B X X' → Ab (X.headD 0 - X'.headD 0) d
  | _, _, .nil => by show Ab (0 - 0) d; constructor <;> grind
  | _, _, .cons a _ _ _ => a
theorem LR.at_ {B s t q : Rat} (hB : 0 ≤ B) (h0 : 0 ≤ s) (h1 : s ≤ 1) (t0 : 0 ≤ t) (t1 : t ≤ 1) (hq : Ab (s - t) q) : ∀ (m : Nat) {d : Rat} {X X' : List Rat}, 0 ≤ d → LR d B X X' → Ab (sAt m X s - sAt m X' t) (d + 2 * ((m : Rat) * (B * q)))
  | 0, d, X, X', hd, h => by
    have e : ((0 : Nat) : Rat) = 0 := rfl
    rw [e]
    exact (h.head hd).to rfl (by grind)
  | m + 1, d, X, X', hd, h => by
    have q0 := hq.nonneg
    have p0 := Rat.mul_nonneg (a := B) (b := q) hB q0
    have := LR.at_ hB h0 h1 t0 t1 hq m (d := d + 2 * (B * q)) (by grind) (h.next h0 h1 t0 t1 hq)
    rw [Rat.natCast_add]
    have e : ((1 : Nat) : Rat) = 1 := rfl
    rw [e]
    exact this.to rfl (by grind)
/-! ## twelfths -/
def tw (k : Nat) : Nat := (shareW (k : Nat) (12 : Nat)).getD 0
theorem tw_table : ∀ k : Nat, k < 13 → (shareW (k : Nat) (12 : Nat)).isSome = true ∧ rung FloatKind.f32.format (tw k) < FloatKind.f32.format.infRung ∧ 0 ≤ rF (tw k) ∧ rF (tw k) ≤ 1 ∧ 1 - rF (tw k) - rF (tw (12 - k)) ≤ U ∧ -U ≤ 1 - rF (tw k) - rF (tw (12 - k)) := by decide +kernel
theorem tw_share {k : Nat} (h : k < 13) : shareW (k : Nat) (12 : Nat) = some (tw k) := by
  obtain ⟨r, hr⟩ := Option.isSome_iff_exists.1 (tw_table k h).1
  unfold tw
  rw [hr]
  rfl
theorem tw01 {k : Nat} (h : k < 13) : T01 (tw k) := ⟨(tw_table k h).2.1, fop_is (tw_share h), (tw_table k h).2.2.1, (tw_table k h).2.2.2.1⟩
theorem tw_back {k : Nat} (h : k < 13) : Ab (1 - rF (tw k) - rF (tw (12 - k))) U := ⟨(tw_table k h).2.2.2.2.1, (tw_table k h).2.2.2.2.2⟩
theorem gd_of2 {x : Nat} (h : G x) (hi : Is .f32 x (some x)) : Gd x := ⟨hi, 0, sub_self h, by decide +kernel⟩
/-- A point of a curve at a time. -/
theorem qat {c : List Kn} {X Y : List Rat} (h : QL 0 c X Y) (h2 : 2 ≤ c.length) (h5 : c.length ≤ 5) {t : Nat} (ht : T01 t) :
    ∃ k, AtOk c t k ∧ KQ (c.length - 1) k (sAt (c.length - 1) X (rF t)) (sAt (c.length - 1) Y (rF t)) := by
  obtain ⟨k, hk, hK⟩ := h.at_ ht.tm (by grind) (c.length - 1) (by omega) (by omega)
  rw [Nat.zero_add] at hK
  exact ⟨k, ⟨ht.Tm, hk, gd_of2 hK.g1 hK.i1, gd_of2 hK.g2 hK.i2⟩, hK⟩
theorem pts12 {c : List Kn} {X Y : List Rat} (h : QL 0 c X Y) (hg : GC c) (h2 : 2 ≤ c.length) (h5 : c.length ≤ 5) : ∃ ks : List Kn, ks.length = 13 ∧ (∀ tl : List Nat, tl.length = 13 → (∀ k (_ : k < tl.length), tl[k] = tw k) → PtsOk c 12 tl ks) ∧ ∀ k (_ : k < 13) (_ : k < ks.length), KQ (c.length - 1) ks[k] (sAt (c.length - 1) X (rF (tw k))) (sAt (c.length - 1) Y (rF (tw k))) := by
  obtain ⟨f, hf⟩ := Deep.choose_lt (n := 13) (p := fun (k : Nat) (y : Kn) => AtOk c (tw k) y ∧ KQ (c.length - 1) y (sAt (c.length - 1) X (rF (tw k))) (sAt (c.length - 1) Y (rF (tw k)))) (fun k hk => by
    have ht := tw01 hk
    generalize tw k = t at ht
    exact qat h h2 h5 ht)
  obtain ⟨kl, lk, gk⟩ : ∃ l : List Kn, l.length = 13 ∧ ∀ k (_ : k < l.length), l[k] = f k := ⟨(List.range 13).map f, by simp, fun k hk => by simp⟩
  refine ⟨kl, lk, ?_, ?_⟩
  · intro tl lt gt
    refine ⟨hg, by omega, by omega, lt, lk, ?_, ?_, ?_⟩
    · intro k hk
      rw [gt k hk]
      exact tw_share (by omega)
    · intro k hk hk'
      rw [gt k hk, gk k hk']
      exact (hf k (by omega)).1.at_
    · intro k hk
      obtain ⟨i, hi, rfl⟩ := List.mem_iff_getElem.1 hk
      rw [gk i hi]
      exact (hf i (by omega)).1.gd
  · intro k hk hk'
    rw [gk k hk']
    exact (hf k hk).2
/-! ## sums of cross products -/
abbrev TE : Rat := 1 / 20000
abbrev TD : Rat := 7 / 10000
theorem bw_of {α : Type} {o : Wd} {k : Nat → Option α} {r : Nat} {v : α} (h : o = some r) (h' : k r = some v) : bw o k = some v := by
  subst h
  exact h'
/-- A point near to exact numbers. -/
structure NC (p : Nat × Nat) (X Y : Rat) : Prop where
  g1 : G p.1
  g2 : G p.2
  ax : Ab X (19 / 4)
  ay : Ab Y 2
  x : Ab (rF p.1 - X) TE
  y : Ab (rF p.2 - Y) TE
theorem prod_near {x X y Y : Rat} (hX : Ab X (19 / 4)) (hY : Ab Y 2) (hx : Ab (x - X) TE) (hy : Ab (y - Y) TE) : Ab (x * y) (96 / 10) ∧ Ab (x * y - X * Y) (677 / 100 * TE) := by
  have bx : Ab x (48 / 10) := (hx.add hX).to (by grind) (by grind)
  have bY : Ab y (2 + TE) := (hy.add hY).to (by grind) (by grind)
  have e1 := hx.mul bY
  have e2 := hX.mul hy
  have e3 := hX.mul hY
  have e4 : Ab (x * y - X * Y) (677 / 100 * TE) := (e1.add e2).to (by grind) (by grind)
  exact ⟨(e4.add e3).to (by grind) (by grind), e4⟩
theorem cross_near {p q : Nat × Nat} {X Y X' Y' : Rat} (hp : NC p X Y) (hq : NC q X' Y') : ∃ r, crossW p q = some r ∧ G r ∧ Ab (X * Y' - Y * X') 19 ∧ Ab (rF r - (X * Y' - Y * X')) (1354 / 100 * TE + 40 * U) := by
  obtain ⟨b1, d1⟩ := prod_near hp.ax hq.ay hp.x hq.y
  obtain ⟨b2, d2⟩ := prod_near hq.ax hp.ay hq.x hp.y
  have b2' : Ab (rF p.2 * rF q.1) (96 / 10) := b2.to (by grind) (by grind)
  obtain ⟨u, hu, gu, du⟩ := m32 (M := 10) hp.g1 hq.g2 (b1.to rfl (by grind)) (by grind) (by grind)
  obtain ⟨v, hv, gv, dv⟩ := m32 (M := 10) hp.g2 hq.g1 (b2'.to rfl (by grind)) (by grind) (by grind)
  have e1 := hp.ax.mul hq.ay
  have e2 := hq.ax.mul hp.ay
  obtain ⟨r, hr, gr, dr⟩ := s32 (M := 20) gu gv ((((du.sub dv).add b1).sub b2').to (by grind) (by grind)) (by grind) (by grind)
  refine ⟨r, ?_, gr, (e1.sub e2).to (by grind) (by grind), ((((dr.add du).sub dv).add d1).sub d2).to (by grind) (by grind)⟩
  exact bw_of hu (bw_of hv hr)
def crL (X Y : Nat → Rat) : Nat → Nat → Rat
  | 0, _ => 0
  | k + 1, i => (X i * Y (i + 1) - Y i * X (i + 1)) + crL X Y k (i + 1)
theorem under_near {f : Nat → Nat × Nat} {X Y : Nat → Rat} (hf : ∀ i, i < 13 → NC (f i) (X i) (Y i)) : ∀ (k i s : Nat) (S : Rat), i + k = 12 → G s → Is .f32 s (some s) → Ab (rF s - S) ((i : Rat) * TD) → Ab S ((i : Rat) * 19) →
    ∃ r, underL f k i s = some r ∧ G r ∧ Is .f32 r (some r) ∧ Ab (rF r - (S + crL X Y k i)) (12 * TD) ∧ Ab (S + crL X Y k i) 228
  | 0, i, s, S, hi, gs, is_, h1, h2 => by
    obtain rfl : i = 12 := by omega
    have e : ((12 : Nat) : Rat) = 12 := rfl
    rw [e] at h1 h2
    exact ⟨s, rfl, gs, is_, h1.to (by show _ = rF s - (S + 0); grind) (by grind), h2.to (by show _ = S + 0; grind) (by grind)⟩
  | k + 1, i, s, S, hi, gs, is_, h1, h2 => by
    have i11 : (i : Rat) ≤ ((11 : Nat) : Rat) := Rat.natCast_le_natCast.2 (by omega)
    have e11 : ((11 : Nat) : Rat) = 11 := rfl
    rw [e11] at i11
    obtain ⟨c, hc, gc, bc, dc⟩ := cross_near (hf i (by omega)) (hf (i + 1) (by omega))
    have bs : Ab (rF s + rF c) 240 := (((h1.add h2).add dc).add bc).to (by grind) (by grind)
    obtain ⟨s', hs', gs', ds⟩ := a32 (M := 240) gs gc bs (by grind) (by grind)
    have ei : ((i + 1 : Nat) : Rat) = (i : Rat) + 1 := by rw [Rat.natCast_add]; rfl
    obtain ⟨r, hr, gr, ir, dr, br⟩ := under_near hf k (i + 1) s' (S + (X i * Y (i + 1) - Y i * X (i + 1))) (by omega) gs' (fop_is hs') (by rw [ei]; exact ((ds.add h1).add dc).to (by grind) (by grind)) (by rw [ei]; exact (h2.add bc).to rfl (by grind))
    refine ⟨r, ?_, gr, ir, dr.to (by rw [crL]; grind) (by grind), br.to (by rw [crL]; grind) (by grind)⟩
    exact bw_of hc (bw_of hs' hr)
theorem crL_back (X Y X' Y' : Nat → Rat) (hX : ∀ i, i < 13 → X' i = X (12 - i)) (hY : ∀ i, i < 13 → Y' i = Y (12 - i)) : crL X' Y' 12 0 = -crL X Y 12 0 := by
  simp only [crL, Nat.zero_add, Nat.reduceAdd]
  rw [hX 0 (by omega), hX 1 (by omega), hX 2 (by omega), hX 3 (by omega), hX 4 (by omega), hX 5 (by omega), hX 6 (by omega), hX 7 (by omega), hX 8 (by omega), hX 9 (by omega), hX 10 (by omega), hX 11 (by omega), hX 12 (by omega),
    hY 0 (by omega), hY 1 (by omega), hY 2 (by omega), hY 3 (by omega), hY 4 (by omega), hY 5 (by omega), hY 6 (by omega), hY 7 (by omega), hY 8 (by omega), hY 9 (by omega), hY 10 (by omega), hY 11 (by omega), hY 12 (by omega)]
  simp only [Nat.reduceSub, Nat.sub_zero, Nat.sub_self]
  grind
theorem underS_near {ks : List Kn} {X Y : Nat → Rat} (hf : ∀ i, i < 13 → NC (pAt ks i) (X i) (Y i)) : ∃ r, underS ks 12 = some r ∧ G r ∧ Is .f32 r (some r) ∧ Ab (rF r - crL X Y 12 0 / 2) (6 * TD + 1 / 40000) ∧ Ab (crL X Y 12 0) 228 := by
  have r0 : rF 0 = 0 := rF0'
  obtain ⟨s, hs, gs, is_, ds, bs⟩ := under_near hf 12 0 0 0 rfl G0 i32_0 (by rw [r0]; have e : ((0 : Nat) : Rat) = 0 := rfl; rw [e]; constructor <;> grind) (by have e : ((0 : Nat) : Rat) = 0 := rfl; rw [e]; constructor <;> grind)
  generalize crL X Y 12 0 = A at ds bs
  have bs' : Ab A 228 := bs.to (by grind) (by grind)
  have two : rF 1073741824 = 2 := two2
  have hb : Ab (rF s / rF 1073741824) 115 := by
    rw [two]
    have b2 := ds.add bs
    obtain ⟨c1, c2⟩ := b2
    constructor <;> grind
  obtain ⟨r, hr, gr, dr⟩ := q32 (M := 115) gs G2' (by rw [two]; grind) hb (by grind) (by grind)
  rw [two] at dr
  refine ⟨r, ?_, gr, fop_is hr, ?_, bs'⟩
  · exact bw_of hs hr
  · obtain ⟨d1, d2⟩ := ds
    obtain ⟨d3, d4⟩ := dr
    constructor <;> grind
end Go.Proofs.Ytonbcbhnnflohaa

namespace Go.Proofs.Ytonbcbhnnflohaa
open Go.RowKit

theorem gap01 {a b : Nat} (ha : Fin .f64 (some a)) (hb : Fin .f64 (some b)) (h : Ab (rv .f64 a - rv .f64 b) (95 / 10000)) : ∃ g, gapW a b = some g ∧ LtD g 4576918229304087675 := by
  have sm := small126
  have one := one127
  have v1 := v01
  obtain ⟨h1, h2⟩ := h
  obtain ⟨g, hg, fg, ig, bg⟩ : ∃ g, gapW a b = some g ∧ Fin .f64 (some g) ∧ Is .f64 g (some g) ∧ rv .f64 g ≤ 96 / 10000 := by
    unfold gapW
    by_cases hl : fltB .f64 (some a) (some b) = true
    · obtain ⟨f, n⟩ := sub_near hb ha (M := 1) ⟨by grind, by grind⟩ (by grind) one
      obtain ⟨s, hs⟩ := fin_some' f
      rw [hs, u64] at n
      rw [hs] at f
      obtain ⟨n1, n2⟩ := n
      simp only [cv] at n1 n2
      rw [if_pos hl]
      exact ⟨s, hs, f, fop_is hs, by grind⟩
    · obtain ⟨f, n⟩ := sub_near ha hb (M := 1) ⟨by grind, by grind⟩ (by grind) one
      obtain ⟨s, hs⟩ := fin_some' f
      rw [hs, u64] at n
      rw [hs] at f
      obtain ⟨n1, n2⟩ := n
      simp only [cv] at n1 n2
      rw [if_neg hl]
      exact ⟨s, hs, f, fop_is hs, by grind⟩
  refine ⟨g, hg, ig, ?_⟩
  rw [flt_iff fg F01]
  refine decide_eq_true ?_
  show rv .f64 g < rv .f64 4576918229304087675
  grind
theorem KQ.nc {n : Nat} {k : Kn} {X Y X' Y' : Rat} (h : KQ n k X Y) (hn : n < 5) (hx : Ab (X - X') (38 * U)) (hy : Ab (Y - Y') (38 * U)) (bx : Ab X' (19 / 4)) (bY : Ab Y' 2) : NC (k.1, k.2.1) X' Y' := by
  have q := Qx4 n hn
  exact ⟨h.g1, h.g2, bx, bY, (h.x.add hx).to (by grind) (by grind), (h.y.add hy).to (by grind) (by grind)⟩
theorem back_near {X : List Rat} {m : Nat} {B u v : Rat} (hl : X.length = m + 1) (h1 : 1 ≤ m) (h4 : m ≤ 4) (hB : B ≤ 19 / 4) (hX : ∀ x ∈ X, Ab x B) (hu0 : 0 ≤ u) (hu1 : u ≤ 1) (hv0 : 0 ≤ v) (hv1 : v ≤ 1) (h : Ab (1 - u - v) U) : Ab (sAt m X.reverse u - sAt m X v) (38 * U) := by
  have e := s_back hl h1 h4 (1 - u)
  rw [show 1 - (1 - u) = u by grind] at e
  rw [e]
  have B0 : 0 ≤ B := by
    cases X with
    | nil => simp at hl
    | cons a r => exact (hX a List.mem_cons_self).nonneg
  have q := LR.at_ B0 (s := 1 - u) (t := v) (by grind) (by grind) hv0 hv1 h m (d := 0) (by grind) (LR.self X hX)
  have m4 : (m : Rat) ≤ ((4 : Nat) : Rat) := Rat.natCast_le_natCast.2 h4
  rw [show ((4 : Nat) : Rat) = 4 from rfl] at m4
  have m0 : (0 : Rat) ≤ (m : Rat) := Rat.natCast_nonneg
  have p1 := Rat.mul_nonneg (a := 4 - (m : Rat)) (b := B) (by grind) B0
  exact q.to rfl (by grind)
theorem bk_ab {k : Kn} (h : BK 19 k) : Ab (rF k.1) (19 / 4) ∧ Ab (rF k.2.1) 2 := by
  obtain ⟨i, j, a1, a2, b1, b2, rfl⟩ := h
  obtain ⟨g1, v1, i1⟩ := qvB_ok (i := i) (by omega) (by omega)
  obtain ⟨g2, v2, i2⟩ := qvB_ok (i := j) (by omega) (by omega)
  have i0 : ((0 : Int) : Rat) ≤ (i : Rat) := Rat.intCast_le_intCast.2 a1
  have i19 : (i : Rat) ≤ ((19 : Int) : Rat) := Rat.intCast_le_intCast.2 a2
  have j0 : ((-8 : Int) : Rat) ≤ (j : Rat) := Rat.intCast_le_intCast.2 b1
  have j8 : (j : Rat) ≤ ((8 : Int) : Rat) := Rat.intCast_le_intCast.2 b2
  rw [show ((0 : Int) : Rat) = 0 from rfl] at i0
  rw [show ((19 : Int) : Rat) = 19 from rfl] at i19
  rw [show ((-8 : Int) : Rat) = -8 from rfl] at j0
  rw [show ((8 : Int) : Rat) = 8 from rfl] at j8
  exact ⟨by show Ab (rF (qv i)) _; rw [v1]; constructor <;> grind, by show Ab (rF (qv j)) _; rw [v2]; constructor <;> grind⟩
set_option maxHeartbeats 1000000 in
theorem un_all (c : List Kn) (h2 : 2 ≤ c.length) (h5 : c.length ≤ 5) (hQ : ∀ k ∈ c, BK 19 k) : ∃ d, UnOk c d := by
  have hQ' : ∀ k ∈ c.reverse, BK 19 k := fun k hk => hQ k (List.mem_reverse.1 hk)
  have lr : c.reverse.length = c.length := List.length_reverse
  have gc1 := (base_P c hQ).gc (by omega) h2 (by omega)
  have gc2 := (base_P c.reverse hQ').gc (by omega) (by omega) (by omega)
  obtain ⟨ks, lks, hks, Kks⟩ := pts12 (base_Q c hQ) gc1 h2 h5
  obtain ⟨ms, lms, hms, Kms⟩ := pts12 (base_Q c.reverse hQ') gc2 (by omega) (by omega)
  rw [lr, List.map_reverse, List.map_reverse] at Kms
  obtain ⟨tl, lt, gt⟩ : ∃ l : List Nat, l.length = 13 ∧ ∀ k (_ : k < l.length), l[k] = tw k := ⟨(List.range 13).map tw, by simp, fun k hk => by simp⟩
  have lX : (c.map fun k => rF k.1).length = c.length - 1 + 1 := by rw [List.length_map]; omega
  have lY : (c.map fun k => rF k.2.1).length = c.length - 1 + 1 := by rw [List.length_map]; omega
  have bX : ∀ x ∈ c.map (fun k => rF k.1), Ab x (19 / 4) := by
    intro x hx
    obtain ⟨k, hk, rfl⟩ := List.mem_map.1 hx
    exact (bk_ab (hQ k hk)).1
  have bY : ∀ x ∈ c.map (fun k => rF k.2.1), Ab x 2 := by
    intro x hx
    obtain ⟨k, hk, rfl⟩ := List.mem_map.1 hx
    exact (bk_ab (hQ k hk)).2
  have hn : c.length - 1 < 5 := by omega
  have hn1 : 1 ≤ c.length - 1 := by omega
  have hn4 : c.length - 1 ≤ 4 := by omega
  generalize c.map (fun k => rF k.1) = X at Kks Kms lX bX
  generalize c.map (fun k => rF k.2.1) = Y at Kks Kms lY bY
  generalize c.length - 1 = m at Kks Kms lX lY hn hn1 hn4
  have N1 : ∀ i, i < 13 → NC (pAt ks i) (sAt m X (rF (tw i))) (sAt m Y (rF (tw i))) := by
    intro i hi
    have K := Kks i hi (by omega)
    rw [pAt_eq (show i < ks.length by omega)]
    exact K.nc hn (by constructor <;> grind) (by constructor <;> grind) K.ax K.ay
  have N2 : ∀ i, i < 13 → NC (pAt ms i) (sAt m X (rF (tw (12 - i)))) (sAt m Y (rF (tw (12 - i)))) := by
    intro i hi
    have K := Kms i hi (by omega)
    have K' := Kks (12 - i) (by omega) (by omega)
    have T := tw01 hi
    have T' := tw01 (k := 12 - i) (by omega)
    have tb := tw_back hi
    rw [pAt_eq (show i < ms.length by omega)]
    exact K.nc hn (back_near lX hn1 hn4 (by grind) bX T.h0 T.h1 T'.h0 T'.h1 tb) (back_near lY hn1 hn4 (by grind) bY T.h0 T.h1 T'.h0 T'.h1 tb) K'.ax K'.ay
  have eb := crL_back (fun i => sAt m X (rF (tw i))) (fun i => sAt m Y (rF (tw i))) (fun i => sAt m X (rF (tw (12 - i)))) (fun i => sAt m Y (rF (tw (12 - i)))) (fun _ _ => rfl) (fun _ _ => rfl)
  obtain ⟨u, hu, gu, iu, du, bu⟩ := underS_near N1
  obtain ⟨o, ho, go, io, do_, _⟩ := underS_near N2
  rw [eb] at do_
  generalize crL (fun i => sAt m X (rF (tw i))) (fun i => sAt m Y (rF (tw i))) 12 0 = A at du do_ bu
  obtain ⟨b1, b2⟩ := bu
  obtain ⟨u1, u2⟩ := du
  obtain ⟨o1, o2⟩ := do_
  obtain ⟨cu, hcu, fu, vu, icu⟩ := wide gu iu ⟨by grind, by grind⟩
  obtain ⟨co, hco, fo, vo, ico⟩ := wide go io ⟨by grind, by grind⟩
  obtain ⟨fn, in_, vn⟩ := neg_ok ico fo
  obtain ⟨g, hg, lg⟩ := gap01 fu fn ⟨by rw [vn, vu, vo]; grind, by rw [vn, vu, vo]; grind⟩
  exact ⟨⟨tl, ks, ms, u, o, cu, co, g⟩, ⟨hks tl lt gt, hms tl lt gt, ⟨hu, gd_of2 gu iu⟩, ⟨ho, gd_of2 go io⟩, ⟨hcu, icu⟩, ⟨hco, in_⟩, hg, lg⟩⟩
end Go.Proofs.Ytonbcbhnnflohaa

namespace Go.Proofs.Ytonbcbhnnflohaa
open Go

abbrev sp : Char := Char.ofNat 32

theorem ws_sp (r : List Char) : wordsSigns (sp :: r) = [] :: wordsSigns r := rfl
theorem ws_ne (c : Char) (hc : c ≠ sp) (r : List Char) : wordsSigns (c :: r) = match wordsSigns r with | w :: ws => (c :: w) :: ws | [] => [[c]] := by
  rw [wordsSigns]
  · rfl
  · intro h; exact hc h
theorem ws_split : ∀ l : List Char, sp ∈ l → wordsSigns l = l.takeWhile (· != sp) :: wordsSigns (l.dropWhile (· != sp)).tail
  | [], h => by cases h
  | c :: r, h => by
    by_cases hc : c = sp
    · subst hc
      rw [ws_sp]
      simp
    · have hr : sp ∈ r := by
        rcases List.mem_cons.1 h with h | h
        · exact absurd h.symm hc
        · exact h
      rw [ws_ne c hc, ws_split r hr]
      simp [hc]

set_option maxRecDepth 1000000 in
noncomputable def initX : { l : List Char // Try.prog.initOrder = String.ofList l } := ⟨_, rfl⟩
theorem io : Try.prog.initOrder.toList = initX.1 := (congrArg String.toList initX.2).trans String.toList_ofList
noncomputable def r1 : List Char := (initX.1.dropWhile (· != sp)).tail
noncomputable def r2 : List Char := (r1.dropWhile (· != sp)).tail
noncomputable def r3 : List Char := (r2.dropWhile (· != sp)).tail
theorem ws_init : wordsSigns Try.prog.initOrder.toList = initX.1.takeWhile (· != sp) :: r1.takeWhile (· != sp) :: r2.takeWhile (· != sp) :: wordsSigns r3 := by
  rw [io, ws_split initX.1 (by decide +kernel), ws_split (initX.1.dropWhile (· != sp)).tail (by decide +kernel), ws_split ((initX.1.dropWhile (· != sp)).tail.dropWhile (· != sp)).tail (by decide +kernel)]
  rfl

theorem first : (initX.1.takeWhile (· != sp) == "harness".toList) = true := by kernel_rfl
theorem second : isSumSigns ((r1.takeWhile (· != sp))) = true := by kernel_rfl
theorem third : r2.takeWhile (· != sp) = "cut".toList := by kernel_rfl
theorem bmw (h s : List Char) (r : List (List Char)) (h1 : (h == "harness".toList) = true) (h2 : isSumSigns s = true) : behindMainWord (h :: s :: r) = r := by
  unfold behindMainWord
  simp only [h1, h2, Bool.true_or, Bool.and_true, if_true]
theorem bw_init : behindMainWord (wordsSigns Try.prog.initOrder.toList) = "cut".toList :: wordsSigns r3 :=
  (congrArg behindMainWord ws_init).trans ((bmw _ _ _ first second).trans (congrArg (· :: wordsSigns r3) third))

section
variable {P : Program} {z : List (List Char)} (h : behindMainWord (wordsSigns P.initOrder.toList) = "cut".toList :: z)
include h
theorem make_of : P.make = some .cut := by
  unfold Program.make
  rw [h]
  rfl
omit h in
theorem lifts_none (z : List (List Char)) : stripLifts liftWords ("cut".toList :: z) = ([], "cut".toList :: z) := by kernel_rfl
theorem headLifts_of : P.headLifts = [] := by
  unfold Program.headLifts
  simp only [h, lifts_none, ite_self]
omit h in
theorem nofin (z : List (List Char)) : (("cut".toList :: z).head? == some "carried".toList && ("cut".toList :: z).take 3 != ["carried".toList, "gc".toList, "cut".toList] || ([] : List String).contains "finals") = false := by kernel_rfl
theorem liftsFinal_of : P.liftsFinal = false := by
  unfold Program.liftsFinal
  rw [h, headLifts_of h]
  exact nofin _
omit h in
theorem cutWord (z : List (List Char)) (a b d : Bool) (ha : a = false) (hb : b = false) (hd : d = true) :
    ((("cut".toList == "gc".toList || "cut".toList == "spec".toList) && (z.isEmpty || z.head? == some "stop".toList)) ||
    ("cut".toList == "carried".toList && z.take 2 == ["gc".toList, "cut".toList] && !a && !b) ||
    (("cut".toList :: z).head? == some "cut".toList &&
      (([] : List String).contains "finals" || !a) && (([] : List String).contains "reflectrows" || !b) &&
      (([] : List String).contains "reflectrows" || !([] : List String).contains "leanrows") && d)) = true := by
  subst ha; subst hb; subst hd
  kernel_rfl
theorem mayEnter_of (h1 : P.laysLater = false) (h2 : P.bearsReflect = false) (h3 : P.doorFits [] = true) : P.mayEnter = true := by
  unfold Program.mayEnter
  rw [h]
  simp only [lifts_none]
  exact cutWord z _ _ _ h1 h2 h3
end
theorem isMade : Try.prog.make = some .cut := make_of bw_init
theorem noFinals : Try.prog.liftsFinal = false := liftsFinal_of bw_init
theorem e1 : Try.prog.laysLater = false := by kernel_rfl
theorem e2 : Try.prog.bearsReflect = false := by kernel_rfl
theorem e3 : Try.prog.doorFits [] = true := by kernel_rfl
theorem mayEnter_ : Try.prog.mayEnter = true := mayEnter_of bw_init e1 e2 e3

theorem closed_gen (P : Program) (k0 : P.mayEnter = true) (k1 : P.liftsFinal = false) (k2 : P.make = some .cut) (f : FuncId) (fn : Func) (s : ChangeSpec) (c : OpenClaim) (hl : c.lifted = false) (hm : c.make = .cut)
    (hA : (c.wf (OpenSpec.ofChange s) && laidOutB P && mapsRowed P && fn.params.all (P.readableRec ·) && namedTie P c.named s.vars && (c.stops == []) && (P.stops == []) && (c.knobs == []) && (P.stopKnobs == []) && (c.inPlace == P.inPlace f) && (c.unfollowed == P.unfollowed f) && (c.recurses == P.recurses f) && (c.named == P.varsNamed f) && (c.maps == (fn.params.toList ++ s.plain.varTypes P).any (P.mapsRec ·)) && (c.ifaces == (fn.params.toList ++ s.plain.varTypes P).any (P.ifacesRec ·)) && (c.mapsOut == P.mapsAmong fn.resultTypes.toList) && (c.loops == (fn.params.toList ++ s.plain.varTypes P).any (P.loopsFrom ·)) && (c.wideKeys == (fn.params.toList ++ s.plain.varTypes P ++ fn.resultTypes.toList).any (P.wideKeysFrom ·)) && s.vars.all (P.varReadable ·) && fn.resultTypes.all (fun t => P.readableRec t && decide (t < P.types.size)) && (c.ifacesOut == fn.resultTypes.toList.any (P.ifacesRec ·)) && (c.loopsOut == fn.resultTypes.toList.any (P.loopsFrom ·)) && (c.plainKeys == P.plainKeys) && c.shortTexts.isNone && P.stopsHeard) = true)
    (h28 : ((c.kinds == (if c.domain.isEmpty then [] else fn.params.toList.map fun t => match P.underlying t with | some (.int k) => some k | _ => none))) = true) (h29 : ((c.pinned == c.pinnedBy)) = true) (h30 : ((c.veiled == (fn.params.toList ++ s.plain.varTypes P ++ fn.resultTypes.toList).any (P.veiledRec ·))) = true) (h31 : (c.veiledFits P fn.params.toList (fn.params.toList ++ s.plain.varTypes P ++ fn.resultTypes.toList)) = true) : joinedFacts P f fn s c = true := by
  unfold joinedFacts
  rw [hA, k0, k1, k2, hl, hm]
  refine Bool.and_eq_true_iff.2 ⟨Bool.and_eq_true_iff.2 ⟨Bool.and_eq_true_iff.2 ⟨Bool.and_eq_true_iff.2 ⟨rfl, h28⟩, h29⟩, h30⟩, h31⟩
theorem closed_row (f : FuncId) (fn : Func) (s : ChangeSpec) (c : OpenClaim) (hl : c.lifted = false) (hm : c.make = .cut)
    (hA : (c.wf (OpenSpec.ofChange s) && laidOutB Try.prog && mapsRowed Try.prog && fn.params.all (Try.prog.readableRec ·) && namedTie Try.prog c.named s.vars && (c.stops == []) && (Try.prog.stops == []) && (c.knobs == []) && (Try.prog.stopKnobs == []) && (c.inPlace == Try.prog.inPlace f) && (c.unfollowed == Try.prog.unfollowed f) && (c.recurses == Try.prog.recurses f) && (c.named == Try.prog.varsNamed f) && (c.maps == (fn.params.toList ++ s.plain.varTypes Try.prog).any (Try.prog.mapsRec ·)) && (c.ifaces == (fn.params.toList ++ s.plain.varTypes Try.prog).any (Try.prog.ifacesRec ·)) && (c.mapsOut == Try.prog.mapsAmong fn.resultTypes.toList) && (c.loops == (fn.params.toList ++ s.plain.varTypes Try.prog).any (Try.prog.loopsFrom ·)) && (c.wideKeys == (fn.params.toList ++ s.plain.varTypes Try.prog ++ fn.resultTypes.toList).any (Try.prog.wideKeysFrom ·)) && s.vars.all (Try.prog.varReadable ·) && fn.resultTypes.all (fun t => Try.prog.readableRec t && decide (t < Try.prog.types.size)) && (c.ifacesOut == fn.resultTypes.toList.any (Try.prog.ifacesRec ·)) && (c.loopsOut == fn.resultTypes.toList.any (Try.prog.loopsFrom ·)) && (c.plainKeys == Try.prog.plainKeys) && c.shortTexts.isNone && Try.prog.stopsHeard) = true)
    (h28 : ((c.kinds == (if c.domain.isEmpty then [] else fn.params.toList.map fun t => match Try.prog.underlying t with | some (.int k) => some k | _ => none))) = true) (h29 : ((c.pinned == c.pinnedBy)) = true) (h30 : ((c.veiled == (fn.params.toList ++ s.plain.varTypes Try.prog ++ fn.resultTypes.toList).any (Try.prog.veiledRec ·))) = true) (h31 : (c.veiledFits Try.prog fn.params.toList (fn.params.toList ++ s.plain.varTypes Try.prog ++ fn.resultTypes.toList)) = true) : joinedFacts Try.prog f fn s c = true :=
  closed_gen Try.prog mayEnter_ noFinals isMade f fn s c hl hm hA h28 h29 h30 h31
end Go.Proofs.Ytonbcbhnnflohaa
