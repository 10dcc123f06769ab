/-
  FnLengths: measuring part by part comes to an end, near to the curve's length.
-/
import Derived.Test.YtonbcbhnnflohaaWk
import Derived.Test.YtonbcbhnnflohaaWh
namespace Go.Proofs.Ytonbcbhnnflohaa
open Go.RowKit

def aX : Nat → Rat
  | 0 => 39 / 100000
  | r + 1 => 4 * (aX r - 54 * U)
def bY : Nat → Rat
  | 0 => 197 / 100000
  | r + 1 => 4 * (bY r - 21 * U)
/-- What parts may cost. -/
def hh : Nat → Rat
  | 0 => 25 * U
  | r + 1 => 2 * hh r + 190 * U
def gg : Nat → Rat
  | 0 => 25 * U
  | r + 1 => 2 * gg r
theorem hh_nn : ∀ r, 25 * U ≤ hh r
  | 0 => Rat.le_refl
  | r + 1 => by
    have := hh_nn r
    show _ ≤ 2 * hh r + 190 * U
    grind
theorem gg_nn : ∀ r, 25 * U ≤ gg r
  | 0 => Rat.le_refl
  | r + 1 => by
    have := gg_nn r
    show _ ≤ 2 * gg r
    grind
theorem nearV : rF near0 = 1 / 16 := by decide +kernel
theorem nearG : G near0 := by show rung FloatKind.f32.format near0 < _; decide +kernel
theorem fle_near {ab : Nat} (hg : G ab) : fleB .f32 (some ab) (some near0) = decide (rF ab ≤ 1 / 16) := by
  have h1 : Fin .f32 (some ab) := hg
  have h2 : Fin .f32 (some near0) := nearG
  rw [fle_iff h1 h2]
  show decide (rF ab ≤ rF near0) = _
  rw [nearV]
/-- What measuring a curve gives. -/
structure NearR (r : Nat) (c : List Kn) (D : Rat) (p q : Kn) (s cnt s' cnt' : Nat) : Prop where
  look : LookR near0 (r + 2) c s cnt s' cnt'
  g : G s'
  i : Is .f32 s' (some s')
  top : rF s' ≤ rF s + D + 20 * (U * D) + hh r
  bot : VL p q ((rF s' - rF s) + 20 * (U * (rF s' - rF s)) + gg r)
  c1 : cnt + 1 ≤ cnt'
  c2 : cnt' ≤ cnt + 2 ^ r
set_option maxHeartbeats 1000000 in
theorem near_rec : ∀ (r : Nat) {n m : Nat} {c : List Kn} {D : Rat} {s cnt : Nat} {p q : Kn}, c.length = m + 1 → 1 ≤ m → m ≤ 5 → n + 5 * r ≤ 60 → (∀ k ∈ c, HP n k) → UPl c D → SD (aX r) (bY r) c → c.head? = some p → c.getLast? = some q → G s → Is .f32 s (some s) → gg r - 1 ≤ rF s → rF s + D + 20 * (U * D) + hh r ≤ 24 → cnt + 2 ^ r ≤ 1000 → ∃ s' cnt', NearR r c D p q s cnt s' cnt' := by
  intro r
  induction r with
  | zero =>
    intro n m c D s cnt p q hl h1 h5 hn hk hU hS hp hq gs is_ s0 h24 hc
    have D0 := hU.nn
    have hr := hh_nn 0
    have gr := gg_nn 0
    obtain ⟨fl, ch, df, ab, x, y, P⟩ := part_ok hl h1 h5 hk (by omega) hU (by grind) hp hq
    have lfl := P.fr.len
    have hch := fr_chord (a := 201 / 100000) (C := rF ch + 4 * (U * rF ch) + tn) (by grind) (by grind) (by show 39 / 100000 * (39 / 100000) + 197 / 100000 * (197 / 100000) ≤ _; decide +kernel) P.fr hS hU (by grind) (by omega) (by omega) hp hq P.lc.up (by have := P.lc.lo D (by grind) (hU.chord hp hq); grind)
    have hcl := P.lc.lo (sumR fl + 4 * (U * sumR fl) + (fl.length : Rat) * tn)
    have f5 := i5 (i := fl.length) (by omega)
    have s1 := P.fr.upl hU (by grind)
    have sn : 0 ≤ sumR fl := by rw [← ps_all]; exact ps_nn P.fr.nn (Nat.le_refl _)
    have hcl := hcl (by grind) (P.fr.toUp.chord hp hq)
    have hle : fleB .f32 (some ab) (some near0) = true := by
      rw [fle_near P.gab]
      refine decide_eq_true ?_
      have c0 := P.lc.nn
      obtain ⟨e1, e2⟩ := P.ef
      obtain ⟨d1, d2⟩ := P.ed
      rcases P.ab with h | h <;> (rw [h]; grind)
    obtain ⟨f, nr⟩ := add_near (k := .f32) gs P.gy (M := 24) (by
      have y1 := P.y1
      have y2 := P.y2.nn
      show Ab (rF s + rF y) 24
      constructor <;> grind) (by have := sm30; grind) (by have := big127; grind)
    obtain ⟨s', hs'⟩ := fin_some' f
    rw [hs'] at f nr
    rw [u32] at nr
    have nr : Ab (rF s' - (rF s + rF y)) (24 * U) := nr.ab
    obtain ⟨r1, r2⟩ := nr
    refine ⟨s', cnt + 1, ⟨.leaf P.ok (by omega) hle P.hx P.hy hs', f, fop_is hs', ?_, ?_, by omega, by omega⟩⟩
    · have y1 := P.y1
      show rF s' ≤ rF s + D + 20 * (U * D) + 25 * U
      grind
    · refine P.y2.to rfl rfl ?_
      show _ ≤ (rF s' - rF s) + 20 * (U * (rF s' - rF s)) + 25 * U
      grind
  | succ r ih =>
    intro n m c D s cnt p q hl h1 h5 hn hk hU hS hp hq gs is_ s0 h24 hc
    have D0 := hU.nn
    have hr := hh_nn r
    have gr := gg_nn r
    have hr1 : hh (r + 1) = 2 * hh r + 190 * U := rfl
    have gr1 : gg (r + 1) = 2 * gg r := rfl
    have hp2 : 2 ^ (r + 1) = 2 * 2 ^ r := by rw [Nat.pow_succ]; omega
    have hpp := Nat.two_pow_pos r
    have hD30 : D ≤ 30 := by grind
    obtain ⟨fl, ch, df, ab, x, y, P⟩ := part_ok hl h1 h5 hk (by omega) hU hD30 hp hq
    have y2 := P.y2
    have y1 := P.y1
    have yn := y2.nn
    by_cases hle : fleB .f32 (some ab) (some near0) = true
    · obtain ⟨f, nr⟩ := add_near (k := .f32) gs P.gy (M := 24) (by
        show Ab (rF s + rF y) 24
        constructor <;> grind) (by have := sm30; grind) (by have := big127; grind)
      obtain ⟨s', hs'⟩ := fin_some' f
      rw [hs'] at f nr
      rw [u32] at nr
      have nr : Ab (rF s' - (rF s + rF y)) (24 * U) := nr.ab
      obtain ⟨r1, r2⟩ := nr
      refine ⟨s', cnt + 1, ⟨.leaf P.ok (by omega) hle P.hx P.hy hs', f, fop_is hs', ?_, ?_, by omega, by omega⟩⟩
      · grind
      · refine y2.to rfl rfl ?_
        grind
    · rw [Bool.not_eq_true] at hle
      obtain ⟨l, r', A, B, p', q', z, H⟩ := cut_half m (n := n) hl (by omega) hk hU
      obtain rfl : p' = p := by have := H.hp; rw [hp] at this; exact (Option.some.inj this).symm
      obtain rfl : q' = q := by have := H.hq; rw [hq] at this; exact (Option.some.inj this).symm
      have hsum := H.sum
      have m30 : ((m * (m + 1) : Nat) : Rat) ≤ 30 := by
        have : m * (m + 1) ≤ 30 := by
          have := Nat.mul_le_mul h5 (show m + 1 ≤ 6 by omega)
          omega
        have a := Rat.natCast_le_natCast.2 this
        rw [show ((30 : Nat) : Rat) = 30 from rfl] at a
        exact a
      have A0 := H.ul.nn
      have B0 := H.ur.nn
      have hAB : A + B ≤ D + 189 * U := by grind
      have c6 : (c.length : Rat) ≤ 6 := by
        have a := Rat.natCast_le_natCast.2 (show c.length ≤ 6 by omega)
        rw [show ((6 : Nat) : Rat) = 6 from rfl] at a
        exact a
      have c6' : (c.reverse.length : Rat) ≤ 6 := by rw [List.length_reverse]; exact c6
      have ax : aX (r + 1) = 4 * (aX r - 54 * U) := rfl
      have by_ : bY (r + 1) = 4 * (bY r - 21 * U) := rfl
      have sl := (H.el.sd hS).mono (A' := aX r) (B' := bY r) (by rw [ax]; grind) (by rw [by_]; grind)
      have sr := ((H.er.sd hS.rev).mono (A' := aX r) (B' := bY r) (by rw [ax]; grind) (by rw [by_]; grind)).rev
      have lh : l.head? = some p' := by rw [H.el.head]; exact hp
      have rl : r'.reverse.getLast? = some q' := by rw [List.getLast?_reverse, H.er.head, List.head?_reverse]; exact hq
      have rh : r'.reverse.head? = some z := by rw [List.head?_reverse]; exact H.zr
      have lrr : r'.reverse.length = m + 1 := by rw [List.length_reverse]; exact H.lr
      have hkr : ∀ k ∈ r'.reverse, HP (n + m) k := fun k h => H.hr k (List.mem_reverse.1 h)
      have gcOf : ∀ {c : List Kn}, c.length = m + 1 → (∀ k ∈ c, HP (n + m) k) → GC c := by
        intro c hl hk
        refine ⟨by omega, by omega, fun k h => ⟨gd_any (hk k h).g1 (hk k h).i1, gd_any (hk k h).g2 (hk k h).i2⟩, fun k h => ?_⟩
        rw [(hk k h).w]
        exact ⟨gd_any G1 i32_1', by decide +kernel⟩
      obtain ⟨s1, n1, R1⟩ := ih (n := n + m) (m := m) (c := l) (D := A) (s := s) (cnt := cnt) (p := p') (q := z) H.ll h1 h5 (by omega) H.hl H.ul sl lh H.zl gs is_ (by grind) (by grind) (by omega)
      have t1 := R1.top
      have b1 := R1.bot
      have bn := b1.nn
      have k1 := R1.c1
      have k2 := R1.c2
      obtain ⟨s2, n2, R2⟩ := ih (n := n + m) (m := m) (c := r'.reverse) (D := B) (s := s1) (cnt := n1) (p := z) (q := q') lrr h1 h5 (by omega) hkr H.ur sr rh rl R1.g R1.i (by grind) (by grind) (by omega)
      have t2 := R2.top
      have b2 := R2.bot
      have k3 := R2.c1
      have k4 := R2.c2
      have hcut : cutC (c.length - 1) c 1056964608 = some (l, r') := by rw [hl, Nat.add_sub_cancel]; exact H.cut
      refine ⟨s2, n2, ⟨.node P.ok hle hcut (gcOf H.ll H.hl) (gcOf lrr hkr) R1.look R2.look, R2.g, R2.i, ?_, ?_, by omega, by omega⟩⟩
      · grind
      · exact (b1.add b2).to (by grind) (by grind) (by grind)
/-- Drawn curves. -/
theorem BR.sd : ∀ {c : List Kn} {i : Nat}, BR i c → i + c.length ≤ 6 → SD (3 / 2) 8 c
  | _, _, .nil _, _ => .nil
  | _, _, .cons _ (.nil _), _ => .one _
  | _, _, .cons _ (.cons _ (.nil _)), _ => .two _ _
  | _, i, .cons h1 (.cons h2 (.cons h3 hr)), hl => by
    have ih := BR.sd (.cons h2 (.cons h3 hr)) (by simp only [List.length_cons] at hl ⊢; omega)
    simp only [List.length_cons] at hl
    have v1 := h1.v (by omega)
    have v2 := h2.v (by omega)
    have v3 := h3.v (by omega)
    have e2 := i1' i
    have e3 := i1' (i + 1)
    have a1 := v1.x0
    have a2 := v1.x1
    have b1 := v2.x0
    have b2 := v2.x1
    have c1 := v3.x0
    have c2 := v3.x1
    rw [e2] at b1 b2 e3
    rw [e3] at c1 c2
    obtain ⟨y1, y2⟩ := v1.y
    obtain ⟨y3, y4⟩ := v2.y
    obtain ⟨y5, y6⟩ := v3.y
    refine .cons ?_ ?_ ih
    · constructor <;> grind
    · constructor <;> grind
theorem BR.hp : ∀ {c : List Kn} {i : Nat}, BR i c → i + c.length ≤ 6 → ∀ k ∈ c, HP 0 k
  | _, _, .nil _, _, k, hk => by cases hk
  | _, i, .cons (k := k0) h hr, hl, k, hk => by
    simp only [List.length_cons] at hl
    rcases List.mem_cons.1 hk with rfl | hk
    · have v := h.v (by omega)
      have i0 : (0 : Rat) ≤ (i : Rat) := Rat.natCast_nonneg
      have i5 := i5 (i := i) (by omega)
      have a1 := v.x0
      have a2 := v.x1
      have z : ((0 : Nat) : Rat) = 0 := rfl
      refine ⟨v.g1, v.g2, v.i1, v.i2, v.w, ?_, ?_⟩
      · rw [z]; constructor <;> grind
      · rw [z]; exact v.y.to rfl (by grind)
    · exact hr.hp (by omega) k hk
/-- Measuring a drawn curve. -/
structure NrF (c : List Kn) (nv np : Nat) : Prop where
  look : LookR near0 8 c 0 0 nv np
  g : G nv
  i : Is .f32 nv (some nv)
  np : 1 ≤ np ∧ np ≤ 64
  top : ∀ fl, FrL c fl → rF nv ≤ sumR fl + 14200 * U
  bot : Le ((xs c).getLastD 0 - (xs c).headD 0) ((ys c).getLastD 0 - (ys c).headD 0) (rF nv + 2200 * U)
  hi : rF nv ≤ 24
  lo : -1 ≤ rF nv
theorem near_ex {c : List Kn} (hB : BR 0 c) (h2 : 2 ≤ c.length) (h6 : c.length ≤ 6) : ∃ nv np, NrF c nv np := by
  obtain ⟨fl, hfl⟩ := frl_ex c (by omega) (hB.pb (by omega))
  have lfl := hfl.len
  have hfr := hB.frame (by omega) hfl
  have f5 := i5 (i := fl.length) (by omega)
  have f0 : (0 : Rat) ≤ (fl.length : Rat) := Rat.natCast_nonneg
  have sn : 0 ≤ sumR fl := by rw [← ps_all]; exact ps_nn hfl.nn (Nat.le_refl _)
  obtain ⟨p, hp⟩ : ∃ p, c.head? = some p := by
    cases c with
    | nil => simp at h2
    | cons a r => exact ⟨a, rfl⟩
  obtain ⟨q, hq⟩ : ∃ q, c.getLast? = some q := by
    have hne : c ≠ [] := by intro h; rw [h] at h2; simp at h2
    exact ⟨_, List.getLast?_eq_some_getLast hne⟩
  have a6 : 3 / 2 ≤ aX 6 := by decide +kernel
  have b6 : 8 ≤ bY 6 := by decide +kernel
  have h6' : hh 6 ≤ 13600 * U := by decide +kernel
  have g6 : gg 6 = 1600 * U := by decide +kernel
  have r0 : rF 0 = 0 := rF00
  obtain ⟨nv, np, R⟩ := near_rec 6 (n := 0) (m := c.length - 1) (c := c) (D := sumR fl + 4 * (U * sumR fl) + (fl.length : Rat) * tn) (s := 0) (cnt := 0) (p := p) (q := q) (by omega) (by omega) (by omega) (by omega) (hB.hp (by omega)) hfl.toUp ((hB.sd (by omega)).mono a6 b6) hp hq G0 i32_0 (by rw [r0, g6]; grind) (by rw [r0]; grind) (by omega)
  have top := R.top
  have bot := R.bot
  have k1 := R.c1
  have k2 := R.c2
  rw [r0] at top bot
  rw [g6] at bot
  have bn := bot.nn
  refine ⟨nv, np, ⟨R.look, R.g, R.i, ⟨by omega, by omega⟩, ?_, ?_, by grind, by grind⟩⟩
  · intro fl' hfl'
    have hfr' := hB.frame (by omega) hfl'
    have e : fl' = fl := by
      have key : ∀ {c : List Kn} {a b : List Nat}, FrL c a → FrL c b → a = b := by
        intro c a b ha
        induction ha generalizing b with
        | one => intro hb; cases hb; rfl
        | cons e _ _ ih =>
          intro hb
          cases hb with
          | cons e' _ hb' =>
            obtain ⟨r, hr, hl⟩ := e
            obtain ⟨r', hr', hl'⟩ := e'
            rw [hr] at hr'
            obtain rfl := Option.some.inj hr'
            rw [hl] at hl'
            rw [Option.some.inj hl', ih hb']
      exact key hfl' hfl
    subst e
    grind
  · have hx0 : (xs c).headD 0 = rF p.1 ∧ (ys c).headD 0 = rF p.2.1 := by
      cases c with
      | nil => simp at h2
      | cons a r =>
        obtain rfl : a = p := by simpa using hp
        exact ⟨rfl, rfl⟩
    have hx1 : (xs c).getLastD 0 = rF q.1 ∧ (ys c).getLastD 0 = rF q.2.1 := by
      have key : ∀ g : Kn → Rat, (c.map g).getLastD 0 = g q := by
        intro g
        rw [List.getLastD_eq_getLast?, List.getLast?_map, hq]
        rfl
      exact ⟨key _, key _⟩
    rw [hx0.1, hx0.2, hx1.1, hx1.2]
    exact bot.to rfl rfl (by grind)
end Go.Proofs.Ytonbcbhnnflohaa

namespace Go.Proofs.Ytonbcbhnnflohaa
open Go.RowKit

/-! ## times of pieces -/
def tq (n k : Nat) : Nat := (shareW (k : Nat) (n : Nat)).getD 0
def tqB (n k : Nat) : Bool := (shareW (k : Nat) (n : Nat)).isSome && decide (rung FloatKind.f32.format (tq n k) < FloatKind.f32.format.infRung) && decide (0 ≤ rF (tq n k)) && decide (rF (tq n k) ≤ 1) && (decide (n ≤ k) || decide (rF (tq n k) + 1 / 17 ≤ rF (tq n (k + 1))))
theorem tq_table : ∀ n : Nat, n < 17 → ∀ k : Nat, k < n + 1 → n = 0 ∨ tqB n k = true := by decide +kernel
theorem tq_ends : ∀ n : Nat, n < 17 → n = 0 ∨ rF (tq n 0) = 0 ∧ rF (tq n n) = 1 := by decide +kernel
theorem times_ex {n : Nat} (hn : n ≤ 16) (h1 : 1 ≤ n) : ∃ τ : Nat → Nat, (∀ k, k ≤ n → shareW (k : Nat) (n : Nat) = some (τ k)) ∧ (∀ k, k ≤ n → T01 (τ k)) ∧ (∀ k, k < n → rF (τ k) + 1 / 17 ≤ rF (τ (k + 1))) ∧ rF (τ 0) = 0 ∧ rF (τ n) = 1 := by
  have hs : ∀ k, k ≤ n → tqB n k = true := fun k hk => (tq_table n (by omega) k (by omega)).resolve_left (by omega)
  have he := (tq_ends n (by omega)).resolve_left (by omega)
  have share : ∀ k, k ≤ n → shareW (k : Nat) (n : Nat) = some (tq n k) := by
    intro k hk
    have h := hs k hk
    unfold tqB at h
    simp only [Bool.and_eq_true] at h
    obtain ⟨r, hr⟩ := Option.isSome_iff_exists.1 h.1.1.1.1
    unfold tq
    rw [hr]
    rfl
  refine ⟨tq n, share, ?_, ?_, he.1, he.2⟩
  · intro k hk
    have h := hs k hk
    unfold tqB at h
    simp only [Bool.and_eq_true, decide_eq_true_eq] at h
    exact ⟨h.1.1.1.2, fop_is (share k hk), h.1.1.2, h.1.2⟩
  · intro k hk
    have h := hs k (by omega)
    unfold tqB at h
    simp only [Bool.and_eq_true, Bool.or_eq_true, decide_eq_true_eq] at h
    exact h.2.resolve_left (by omega)
theorem FrL.lg : ∀ {c : List Kn} {ls : List Nat}, FrL c ls → ∀ i (_ : i < ls.length) (_ : i < c.length) (_ : i + 1 < c.length), Lg (rF c[i + 1].1 - rF c[i].1) (rF c[i + 1].2.1 - rF c[i].2.1) ls[i]
  | _, _, .one _, i, h, _, _ => by simp at h
  | _, _, .cons (a := a) (b := b) (c := c) (l := l) (ls := ls) _ g h, i, h1, h2, h3 => by
    match i with
    | 0 => simpa using g
    | i + 1 =>
      have := h.lg i (by simp at h1; exact h1) (by simp at h2 ⊢; omega) (by simp at h3 ⊢; omega)
      simpa using this
/-- What is told about chords. -/
structure ChF (c : List Kn) (n : Nat) (d : ChD) : Prop where
  top : ∀ fl, FrL c fl → rF (d.s n) ≤ sumR fl + 12300 * U
  bot : Le ((xs c).getLastD 0 - (xs c).headD 0) ((ys c).getLastD 0 - (ys c).headD 0) (rF (d.s n) + 1600 * U)
  up : ∀ k, k < n → rF (d.s k) + 14 / 1000 ≤ rF (d.s (k + 1))
  hi : rF (d.s n) ≤ 23
  z : d.s 0 = 0
  g : ∀ k, k ≤ n → G (d.s k) ∧ Is .f32 (d.s k) (some (d.s k))
theorem n16 {n : Nat} (h : n ≤ 16) : (n : Rat) ≤ 16 := by
  have a := Rat.natCast_le_natCast.2 h
  rw [show ((16 : Nat) : Rat) = 16 from rfl] at a
  exact a
set_option maxHeartbeats 1000000 in
theorem chords {c : List Kn} (hB : BR 0 c) (h2 : 2 ≤ c.length) (h6 : c.length ≤ 6) {n : Nat} (hn1 : 1 ≤ n) (hn16 : n ≤ 16) : ∃ d : ChD, ChOk c n d ∧ ChF c n d := by
  have gc := GC_of hB (by omega) h2
  have hE := hB.elr (by omega)
  have hU := hB.up (by omega)
  obtain ⟨τ, τs, τt, τu, τ0, τn⟩ := times_ex hn16 hn1
  obtain ⟨fl0, hfl0⟩ := frl_ex c (by omega) (hB.pb (by omega))
  have lX : (xs c).length = (c.length - 2) + 2 := by rw [List.length_map]; omega
  have lY : (ys c).length = c.length - 1 + 1 := by rw [List.length_map]; omega
  obtain ⟨f, hf⟩ := Deep.choose_lt (n := n + 1) (p := fun (k : Nat) (y : Kn) => AtOk c (τ k) y ∧ NE y (sAt (c.length - 1) (xs c) (rF (τ k))) (sAt (c.length - 1) (ys c) (rF (τ k))) (325 * U) (140 * U)) (fun k hk => by
    have ht := τt k (by omega)
    exact eat hE h2 h6 ht)
  obtain ⟨tl, lt, gt⟩ : ∃ l : List Nat, l.length = n + 1 ∧ ∀ k (_ : k < l.length), l[k] = τ k := ⟨(List.range (n + 1)).map τ, by simp, fun k hk => by simp⟩
  obtain ⟨kl, lk, gk⟩ : ∃ l : List Kn, l.length = n + 1 ∧ ∀ k (_ : k < l.length), l[k] = f k := ⟨(List.range (n + 1)).map f, by simp, fun k hk => by simp⟩
  have hP : PtsOk c n tl kl := by
    refine ⟨gc, hn1, by omega, lt, lk, ?_, ?_, ?_⟩
    · intro k hk
      rw [gt k hk]
      exact τs k (by omega)
    · intro k hk hk'
      rw [gt k hk, gk k hk']
      exact (hf k (by omega)).1.at_
    · intro k hk
      obtain ⟨i, hi, rfl⟩ := List.mem_iff_getElem.1 hk
      rw [gk i hi]
      exact (hf i (by omega)).1.gd
  have hpb : ∀ k ∈ kl, Pb k := by
    intro k hk
    obtain ⟨i, hi, rfl⟩ := List.mem_iff_getElem.1 hk
    rw [gk i hi]
    have N := (hf i (by omega)).2
    have a1 := N.x0
    have a2 := N.x1
    obtain ⟨e1, e2⟩ := N.x
    exact ⟨N.g1, N.g2, ⟨by grind, by grind⟩, (N.y.add N.ay).to (by grind) (by grind)⟩
  obtain ⟨ls, hls⟩ := frl_ex kl (by omega) hpb
  have ll := hls.len
  have lls : ls.length = n := by omega
  -- words of neighbours
  have lg : ∀ k, k < n → ∃ h : k < ls.length, Lg (rF (f (k + 1)).1 - rF (f k).1) (rF (f (k + 1)).2.1 - rF (f k).2.1) ls[k] := by
    intro k hk
    refine ⟨by omega, ?_⟩
    have := hls.lg k (by omega) (by omega) (by omega)
    rw [gk k (by omega), gk (k + 1) (by omega)] at this
    exact this
  -- partial sums against a curve of lengths
  have part : ∀ Q, Dom (xs c) (ys c) Q → sAt (c.length - 1) Q 1 - sAt (c.length - 1) Q 0 ≤ 30 → ∀ k, k ≤ n → ps ls k ≤ (sAt (c.length - 1) Q (rF (τ k)) - sAt (c.length - 1) Q 0) + 4 * (U * (sAt (c.length - 1) Q (rF (τ k)) - sAt (c.length - 1) Q 0)) + (k : Rat) * (709 * U) := by
    intro Q hQ hQ30 k
    induction k with
    | zero =>
      intro _
      rw [τ0, show ((0 : Nat) : Rat) = 0 from rfl]
      show (0 : Rat) ≤ _
      grind
    | succ k ih =>
      intro hk
      have ih := ih (by omega)
      obtain ⟨hkl, g⟩ := lg k (by omega)
      have t0 := τt k (by omega)
      have t1 := τt (k + 1) (by omega)
      have tu := τu k (by omega)
      have C := hQ.chord (c.length - 1) t0.h0 (by grind) t1.h1
      have C0 := (hQ.chord (c.length - 1) (s := 0) (s' := rF (τ k)) (by grind) t0.h0 t0.h1).nn
      have C1 := (hQ.chord (c.length - 1) (s := rF (τ (k + 1))) (s' := 1) t1.h0 t1.h1 (by grind)).nn
      have N0 := (hf k (by omega)).2
      have N1 := (hf (k + 1) (by omega)).2
      generalize sAt (c.length - 1) (xs c) (rF (τ (k + 1))) = x1 at *
      generalize sAt (c.length - 1) (xs c) (rF (τ k)) = x0 at *
      generalize sAt (c.length - 1) (ys c) (rF (τ (k + 1))) = y1 at *
      generalize sAt (c.length - 1) (ys c) (rF (τ k)) = y0 at *
      generalize sAt (c.length - 1) Q (rF (τ (k + 1))) = q1 at *
      generalize sAt (c.length - 1) Q (rF (τ k)) = q0 at *
      generalize sAt (c.length - 1) Q 0 = qa at *
      generalize sAt (c.length - 1) Q 1 = qb at *
      have e := Le.of_ab (N1.x.sub N0.x) (N1.y.sub N0.y) (d := 708 * U) (by grind) (by decide +kernel)
      have d' := (C.add e).to (x' := rF (f (k + 1)).1 - rF (f k).1) (y' := rF (f (k + 1)).2.1 - rF (f k).2.1) (by grind) (by grind) Rat.le_refl
      have := g.lo _ (by grind) d'
      have m : ps ls (k + 1) = ps ls k + rF ls[k] := by
        show ps ls k + rF (ls.getD k 0) = _
        rw [getD_of hkl]
      rw [m, i1']
      grind
  have qlen : ∀ fl, FrL c fl → (cumL 0 fl).length = c.length - 1 + 1 := by
    intro fl hfl
    have := hfl.len
    rw [cumL_len]
    omega
  have top0 : ∀ fl, FrL c fl → ps ls n ≤ sumR fl + 11560 * U := by
    intro fl hfl
    have hfr := hB.frame (by omega) hfl
    have hfl5 := hfl.len
    have hf5 := i5 (i := fl.length) (by omega)
    have hf0 : (0 : Rat) ≤ (fl.length : Rat) := Rat.natCast_nonneg
    have e1 := sAt1 _ _ (qlen fl hfl)
    have e0 := sAt0 _ _ (qlen fl hfl)
    rw [cumL_last] at e1
    have eh : (cumL 0 fl).headD 0 = 0 := by
      obtain ⟨r, hr⟩ := cumL_cons 0 fl
      rw [hr]
      rfl
    rw [eh] at e0
    have p := part (cumL 0 fl) (hfl.dom 0) (by rw [e1, e0]; grind) n (Nat.le_refl _)
    rw [τn, e1, e0] at p
    have nn := n16 hn16
    grind
  have hsum : ps ls n ≤ 22 := by
    have h := top0 fl0 hfl0
    have hfr := hB.frame (by omega) hfl0
    have hfl5 := hfl0.len
    have hf5 := i5 (i := fl0.length) (by omega)
    grind
  obtain ⟨hS, hS'⟩ := sums_near hls.g hls.nn (T := 22) (by rw [lls]; exact hsum) (by grind) (by grind) (by omega)
  have hG : ∀ k, k ≤ n → G (sF ls k) ∧ Is .f32 (sF ls k) (some (sF ls k)) ∧ Ab (rF (sF ls k) - ps ls k) (704 * U) := by
    intro k hk
    obtain ⟨a, b, e⟩ := hS' k (by omega)
    have nn := n16 (n := k) (by omega)
    exact ⟨a, b, e.to rfl (by grind)⟩
  have sE := (hG n (Nat.le_refl _)).2.2
  refine ⟨⟨tl, kl, ls, sF ls⟩, ⟨hP, hls.gaps, hS, fun k hk => gd_any (hG k hk).1 (hG k hk).2.1⟩, ⟨?_, ?_, ?_, ?_, rfl, fun k hk => ⟨(hG k hk).1, (hG k hk).2.1⟩⟩⟩
  · intro fl hfl
    have := top0 fl hfl
    show rF (sF ls n) ≤ _
    obtain ⟨s1, s2⟩ := sE
    grind
  · have ch := hls.chord
    have psn : ps ls n = sumR ls := by rw [← lls]; exact ps_all ls
    have N0 := (hf 0 (by omega)).2
    have N1 := (hf n (by omega)).2
    rw [τ0, sAt0 _ _ (by rw [lX]; omega), sAt0 _ _ lY] at N0
    rw [τn, sAt1 _ _ (by rw [lX]; omega), sAt1 _ _ lY] at N1
    have hx0 : (xs kl).headD 0 = rF (f 0).1 ∧ (ys kl).headD 0 = rF (f 0).2.1 := by
      have h := gk 0 (by omega)
      cases kl with
      | nil => simp at lk
      | cons a r =>
        have h : a = f 0 := by simpa using h
        subst h
        exact ⟨rfl, rfl⟩
    have hx1 : (xs kl).getLastD 0 = rF (f n).1 ∧ (ys kl).getLastD 0 = rF (f n).2.1 := by
      have h := gk n (by omega)
      have key : ∀ g : Kn → Rat, (kl.map g).getLastD 0 = g (f n) := by
        intro g
        have e : (kl.map g)[n]? = some (g (f n)) := by
          rw [List.getElem?_map, List.getElem?_eq_getElem (show n < kl.length by omega), h]
          rfl
        rw [List.getLastD_eq_getLast?, List.getLast?_eq_getElem?, List.length_map, lk, Nat.add_sub_cancel, e]
        rfl
      exact ⟨key _, key _⟩
    rw [hx0.1, hx0.2, hx1.1, hx1.2] at ch
    have e := Le.of_ab (N1.x.sub N0.x) (N1.y.sub N0.y) (d := 708 * U) (by grind) (by decide +kernel)
    have nn := n16 (n := ls.length) (by omega)
    obtain ⟨s1, s2⟩ := sE
    rw [psn] at s1 s2 hsum
    refine (ch.add e.neg).to (by grind) (by grind) ?_
    show _ ≤ rF (sF ls n) + 1600 * U
    grind
  · intro k hk
    obtain ⟨hkl, g⟩ := lg k hk
    have t0 := τt k (by omega)
    have t1 := τt (k + 1) (by omega)
    have tu := τu k (by omega)
    have R := hU.rise (by grind) t0.h0 (by grind) t1.h1 (c.length - 2) lX
    rw [show c.length - 2 + 1 = c.length - 1 by omega] at R
    have N0 := (hf k (by omega)).2
    have N1 := (hf (k + 1) (by omega)).2
    obtain ⟨a1, a2⟩ := N0.x
    obtain ⟨b1, b2⟩ := N1.x
    obtain ⟨u1, u2⟩ := g.up.ab.1
    obtain ⟨s1, s2⟩ := (hG k (by omega)).2.2
    obtain ⟨s3, s4⟩ := (hG (k + 1) (by omega)).2.2
    have m : ps ls (k + 1) = ps ls k + rF ls[k] := by
      show ps ls k + rF (ls.getD k 0) = _
      rw [getD_of hkl]
    have pn := ps_nn hls.nn (k := k) (by omega)
    have pm := ps_mono hls.nn (n - (k + 1)) (k + 1) (by omega)
    rw [show k + 1 + (n - (k + 1)) = n by omega] at pm
    show rF (sF ls k) + 14 / 1000 ≤ rF (sF ls (k + 1))
    grind
  · show rF (sF ls n) ≤ 23
    obtain ⟨s1, s2⟩ := sE
    grind
end Go.Proofs.Ytonbcbhnnflohaa
