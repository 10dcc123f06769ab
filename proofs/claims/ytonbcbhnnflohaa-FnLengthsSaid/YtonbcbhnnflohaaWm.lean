/-
  FnLengths: times along a curve go on.
-/
import Derived.Test.YtonbcbhnnflohaaWi
import Derived.Test.YtonbcbhnnflohaaWj
namespace Go.Proofs.Ytonbcbhnnflohaa
open Go.RowKit

/-! ## single words -/
theorem word_of_val {x y : Nat} (hx : G x) (hy : G y) (ix : Is .f32 x (some x)) (iy : Is .f32 y (some y)) (h : rF x = rF y) (h0 : 0 < rF x) : x = y := by
  have key : ∀ {z : Nat} (_ : G z), 0 < rF z → sgn FloatKind.f32.format z = false ∧ rF z = (mag FloatKind.f32.format (rung FloatKind.f32.format z) : Rat) * p2 FloatKind.f32.format.leastPlace := by
    intro z hz h0
    have e := rv_fin .f32 z hz
    have hp := q_nn (mag FloatKind.f32.format (rung FloatKind.f32.format z)) FloatKind.f32.format.leastPlace
    have h0' : 0 < rv .f32 z := h0
    cases hs : sgn FloatKind.f32.format z with
    | false =>
      rw [hs] at e
      refine ⟨rfl, ?_⟩
      show rv .f32 z = _
      rw [e]
      simp only [sg, Bool.false_eq_true, if_false]
      grind
    | true =>
      rw [hs] at e
      simp only [sg, if_true] at e
      grind
  obtain ⟨s1, v1⟩ := key hx h0
  obtain ⟨s2, v2⟩ := key hy (by rw [← h]; exact h0)
  rw [v1, v2] at h
  have hm := mul_cancel (p2_pos _) h
  have hm' : mag FloatKind.f32.format (rung FloatKind.f32.format x) = mag FloatKind.f32.format (rung FloatKind.f32.format y) := Rat.natCast_inj.1 hm
  exact word_eq FloatKind.f32.format (ww .f32) ix.1 iy.1 (by rw [s1, s2]) (mag_inj _ hm')
theorem quo_self {d : Nat} (h : G d) (h0 : rF d ≠ 0) : Ex' .f32 (fop .quo .f32 (some d) (some d)) 1 0 := by
  obtain ⟨s, m, i, hr⟩ := fin_read h
  have hm : m ≠ 0 := by
    rintro rfl
    apply h0
    show rv .f32 d = 0
    unfold rv
    rw [hr]
    simp [dv]
  have hf : FloatKind.f32.format.fractionBits + 2 = 25 := by decide
  have e : fop .quo .f32 (some d) (some d) = some (FloatKind.f32.format.write (.number (s ^^ s) (2 ^ 26) (i - i - (25 : Nat) - 1))) := by
    show ((FloatKind.f32.format.read d).quotient (FloatKind.f32.format.fractionBits + 2) (FloatKind.f32.format.read d)).map _ = _
    rw [hr, hf]
    simp only [Ieee.Datum.quotient, if_neg hm, Nat.add_sub_cancel, Nat.shiftLeft_eq]
    rw [Nat.mul_div_cancel_left _ (Nat.pos_of_ne_zero hm), Nat.mul_mod_right]
    rfl
  rw [e]
  refine write_ex ?_ (by decide) (by decide) (by decide)
  have e3 : i - i - ((25 : Nat) : Int) - 1 = -26 := by omega
  rw [e3, Bool.xor_self]
  show sg false * (((2 ^ 26 : Nat) : Rat) * p2 (-26)) = ((1 : Int) : Rat) * p2 0
  decide +kernel
theorem quo_zero {a b : Nat} (ha : G a) (hb : G b) (h : rF a = 0) (h0 : rF b ≠ 0) : ∃ r, fop .quo .f32 (some a) (some b) = some r ∧ G r ∧ rF r = 0 := by
  obtain ⟨s, m, i, hr⟩ := fin_read ha
  obtain ⟨t, n, j, hs⟩ := fin_read hb
  have hn : n ≠ 0 := by
    rintro rfl
    apply h0
    show rv .f32 b = 0
    unfold rv
    rw [hs]
    simp [dv]
  have hm : m = 0 := by
    have e : rv .f32 a = 0 := h
    unfold rv at e
    rw [hr] at e
    have e : sg s * ((m : Rat) * p2 i) = 0 := e
    have hp := p2_pos i
    have hm : (m : Rat) * p2 i = 0 := by
      cases s
      · simp only [sg, Bool.false_eq_true, if_false] at e; grind
      · simp only [sg, if_true] at e; grind
    apply Classical.byContradiction
    intro hne
    have := Rat.mul_pos (natPos hne) hp
    grind
  subst hm
  obtain ⟨e, he⟩ : ∃ e, fop .quo .f32 (some a) (some b) = some (FloatKind.f32.format.write (.number (s ^^ t) 0 e)) := by
    refine ⟨i - j - ((FloatKind.f32.format.fractionBits + 2 + n.log2 - Nat.log2 0 : Nat) : Int) - 1, ?_⟩
    show ((FloatKind.f32.format.read a).quotient (FloatKind.f32.format.fractionBits + 2) (FloatKind.f32.format.read b)).map _ = _
    rw [hr, hs]
    simp only [Ieee.Datum.quotient, if_neg hn, Nat.zero_shiftLeft, Nat.zero_div, Nat.zero_mod]
    rfl
  obtain ⟨w1, w2⟩ := write_zero .f32 (s ^^ t) e
  exact ⟨_, he, w1, w2⟩
theorem ex_zero {x : Nat} (h : G x) (h0 : rF x = 0) : Ex' .f32 (some x) 0 0 := ⟨h, by
  show rv .f32 x = ((0 : Int) : Rat) * p2 0
  have h0 : rv .f32 x = 0 := h0
  rw [h0]
  decide +kernel⟩
theorem z_of {c : Option Nat} {q : Int} (h : Ex' .f32 c 0 q) : ∃ r, c = some r ∧ G r ∧ rF r = 0 := by
  obtain ⟨r, hr, gr, vr⟩ := h.ex
  refine ⟨r, hr, gr, ?_⟩
  show rv .f32 r = 0
  rw [vr]
  show ((0 : Int) : Rat) * p2 q = 0
  rw [show ((0 : Int) : Rat) = 0 from rfl]
  grind
theorem ofInt_v (n : Int) (h : n.natAbs < 2 ^ 24) : G (floatOfInt .f32 n) ∧ rF (floatOfInt .f32 n) = (n : Rat) := by
  have e := Ex'_ofInt .f32 n h
  refine ⟨e.fin, ?_⟩
  have v : rv .f32 (floatOfInt .f32 n) = (n : Rat) * p2 0 := e.val
  show rv .f32 (floatOfInt .f32 n) = _
  rw [v, show p2 0 = 1 by decide +kernel]
  grind
theorem feq_false {a : Nat} (h : G a) (h0 : rF a ≠ 0) : feqB .f32 (some a) (some 0) = false := by
  have hg0 : Fin .f32 (some 0) := G0
  have h : Fin .f32 (some a) := h
  unfold feqB
  rw [ford_fin h hg0]
  have hv := rv_val h
  have hz := rv_val hg0
  have r0 : rv .f32 0 = 0 := rF00
  have key : Go.Proofs.Ytonbcbhnnflohaa.val FloatKind.f32.format a ≠ Go.Proofs.Ytonbcbhnnflohaa.val FloatKind.f32.format 0 := by
    intro e
    apply h0
    show rv .f32 a = 0
    rw [hv, e, ← hz, r0]
  rcases Int.lt_trichotomy (Go.Proofs.Ytonbcbhnnflohaa.val FloatKind.f32.format a) (Go.Proofs.Ytonbcbhnnflohaa.val FloatKind.f32.format 0) with h | h | h
  · rw [Int.compare_eq_lt.2 h]; rfl
  · exact absurd h key
  · rw [Int.compare_eq_gt.2 h]; rfl
theorem feq_true {a : Nat} (h : G a) (h0 : rF a = 0) : feqB .f32 (some a) (some 0) = true := by
  have hg0 : Fin .f32 (some 0) := G0
  have h : Fin .f32 (some a) := h
  unfold feqB
  rw [ford_fin h hg0]
  have hv := rv_val h
  have hz := rv_val hg0
  have r0 : rv .f32 0 = 0 := rF00
  have key : Go.Proofs.Ytonbcbhnnflohaa.val FloatKind.f32.format a = Go.Proofs.Ytonbcbhnnflohaa.val FloatKind.f32.format 0 := by
    have h0 : rv .f32 a = 0 := h0
    rw [h0] at hv
    rw [r0] at hz
    have e := mul_cancel (p2_pos _) (hv.symm.trans hz)
    exact Rat.intCast_inj.1 e
  rw [key]
  have : compare (Go.Proofs.Ytonbcbhnnflohaa.val FloatKind.f32.format 0) (Go.Proofs.Ytonbcbhnnflohaa.val FloatKind.f32.format 0) = .eq := by simp
  rw [this]
  rfl
theorem least {p : Nat → Prop} (hd : ∀ k, p k ∨ ¬ p k) : ∀ n, 1 ≤ n → p n → ∃ k, 1 ≤ k ∧ k ≤ n ∧ p k ∧ ∀ j, 1 ≤ j → j < k → ¬ p j
  | 0, h, _ => by omega
  | n + 1, _, h => by
    by_cases hn : ∃ k, 1 ≤ k ∧ k ≤ n ∧ p k
    · obtain ⟨k, k1, kn, hk⟩ := hn
      obtain ⟨k', a, b, c, d⟩ := least hd k k1 hk
      exact ⟨k', a, by omega, c, d⟩
    · exact ⟨n + 1, by omega, Nat.le_refl _, h, fun j j1 jn hj => hn ⟨j, j1, by omega, hj⟩⟩
  termination_by n => n
  decreasing_by omega
/-! ## places in a table -/
structure TabF (s : Nat → Nat) (n : Nat) : Prop where
  n1 : 1 ≤ n
  n16 : n ≤ 16
  g : ∀ k, k ≤ n → G (s k) ∧ Is .f32 (s k) (some (s k))
  z : s 0 = 0
  up : ∀ k, k < n → rF (s k) + 14 / 1000 ≤ rF (s (k + 1))
  hi : rF (s n) ≤ 23
theorem TabF.mono {s : Nat → Nat} {n : Nat} (h : TabF s n) : ∀ j k, k + j ≤ n → rF (s k) ≤ rF (s (k + j))
  | 0, _, _ => Rat.le_refl
  | j + 1, k, hk => by
    have := h.mono j k (by omega)
    have := h.up (k + j) (by omega)
    rw [show k + (j + 1) = k + j + 1 by omega]
    grind
theorem TabF.le {s : Nat → Nat} {n : Nat} (h : TabF s n) {i j : Nat} (hij : i ≤ j) (hj : j ≤ n) : rF (s i) ≤ rF (s j) := by
  have := h.mono (j - i) i (by omega)
  rwa [show i + (j - i) = j by omega] at this
theorem TabF.s0 {s : Nat → Nat} {n : Nat} (h : TabF s n) : rF (s 0) = 0 := by rw [h.z]; exact rF00
/-- A place in the table. -/
structure PlF (s : Nat → Nat) (n : Nat) (l k : Nat) (w : Rat) : Prop where
  k1 : 1 ≤ k
  kn : k ≤ n
  w0 : 0 ≤ w
  w1 : w ≤ 1
  at_ : rF l = rF (s (k - 1)) + w * (rF (s k) - rF (s (k - 1)))
theorem PlF.lt {s : Nat → Nat} {n l l' k k' : Nat} {w w' dl : Rat} (T : TabF s n) (h : PlF s n l k w) (h' : PlF s n l' k' w') (hd : 0 < dl) (hd1 : dl ≤ 1) (hl : rF l + dl ≤ rF l') : ((k : Rat) - 1 + w) + dl / 23 ≤ (k' : Rat) - 1 + w' := by
  have e := h.at_
  have e' := h'.at_
  have a0 := h.w0
  have a1 := h.w1
  have b0 := h'.w0
  have b1 := h'.w1
  have k1 := h.k1
  have kn := h.kn
  have k1' := h'.k1
  have kn' := h'.kn
  have c1 := T.up (k - 1) (by omega)
  have c2 := T.up (k' - 1) (by omega)
  rw [show k - 1 + 1 = k by omega] at c1
  rw [show k' - 1 + 1 = k' by omega] at c2
  have p0 := T.le (i := 0) (j := k - 1) (by omega) (by omega)
  have p0' := T.le (i := 0) (j := k' - 1) (by omega) (by omega)
  have p1 := T.le (i := k) (j := n) (by omega) (by omega)
  have p1' := T.le (i := k') (j := n) (by omega) (by omega)
  have hi := T.hi
  have s0 := T.s0
  rw [s0] at p0 p0'
  rcases Nat.lt_trichotomy k k' with h3 | h3 | h3
  · by_cases h4 : k + 2 ≤ k'
    · have q := Rat.natCast_le_natCast.2 h4
      rw [Rat.natCast_add, show ((2 : Nat) : Rat) = 2 from rfl] at q
      grind
    · obtain rfl : k' = k + 1 := by omega
      rw [i1', Nat.add_sub_cancel] at *
      have m1 := Rat.mul_nonneg (a := 1 - w) (b := 23 - (rF (s k) - rF (s (k - 1)))) (by grind) (by grind)
      have m2 := Rat.mul_nonneg (a := w') (b := 23 - (rF (s (k + 1)) - rF (s k))) (by grind) (by grind)
      grind
  · subst h3
    have m : 0 ≤ w' - w := by
      apply Rat.not_lt.1
      intro hlt
      have := Rat.mul_nonneg (a := w - w') (b := rF (s k) - rF (s (k - 1))) (by grind) (by grind)
      grind
    have m1 := Rat.mul_nonneg (a := w' - w) (b := 23 - (rF (s k) - rF (s (k - 1)))) m (by grind)
    grind
  · have q := T.le (i := k') (j := k - 1) (by omega) (by omega)
    have m1 := Rat.mul_nonneg (a := w) (b := rF (s k) - rF (s (k - 1))) a0 (by grind)
    have m2 := Rat.mul_nonneg (a := 1 - w') (b := rF (s k') - rF (s (k' - 1))) (by grind) (by grind)
    grind
/-- A time along a curve, with what is known of it. -/
structure TmR (s : Nat → Nat) (n sh l : Nat) (D : TmD) (w : Rat) : Prop where
  ok : TmOk s n sh D
  dl : D.l = l
  pl : PlF s n l D.k w
  g : G D.t
  t : Ab (rF D.t * (n : Rat) - ((D.k : Rat) - 1 + w)) ((n : Rat) * (30 * U))
  nz : (D.k = 1 → rF l = 0 → rF D.t = 0)
  no : (D.k = n → l = s n → rF D.t = 1)
set_option maxHeartbeats 1000000 in
theorem tm_ex {s : Nat → Nat} {n sh l : Nat} (T : TabF s n) (hsh : Tm sh) (hl : fop .mul .f32 (some sh) (some (s n)) = some l) (gl : G l) (l0 : 0 ≤ rF l) (lT : rF l ≤ rF (s n)) : ∃ D w, TmR s n sh l D w := by
  have s30 := sm30
  have big := big127
  have il := fop_is hl
  have n1 := T.n1
  have n16 := T.n16
  have hi := T.hi
  have s0 := T.s0
  obtain ⟨k, k1, kn, hk, hlo⟩ := least (p := fun k => rF l ≤ rF (s k)) (fun k => by
    by_cases h : rF l ≤ rF (s k)
    · exact .inl h
    · exact .inr h) n n1 lT
  have below : rF (s (k - 1)) ≤ rF l := by
    by_cases h : k = 1
    · subst h
      rw [Nat.sub_self, s0]
      exact l0
    · have := hlo (k - 1) (by omega) (by omega)
      exact Rat.le_of_lt (Rat.not_le.1 this)
  have hup := T.up (k - 1) (by omega)
  rw [show k - 1 + 1 = k by omega] at hup
  have p0 := T.le (i := 0) (j := k - 1) (by omega) (by omega)
  rw [s0] at p0
  have p1 := T.le (i := k) (j := n) kn (Nat.le_refl _)
  obtain ⟨gk, ik⟩ := T.g k kn
  obtain ⟨gk1, ik1⟩ := T.g (k - 1) (by omega)
  generalize hc : rF (s k) - rF (s (k - 1)) = c
  generalize hv : rF l - rF (s (k - 1)) = v
  have c0 : 14 / 1000 ≤ c := by grind
  have c23 : c ≤ 23 := by grind
  have v0 : 0 ≤ v := by grind
  have vc : v ≤ c := by grind
  have cne : c ≠ 0 := by grind
  have wc : v / c * c = v := Rat.div_mul_cancel cne
  generalize hw : v / c = w at wc
  have w0 : 0 ≤ w := by
    apply Rat.not_lt.1
    intro hlt
    have := Rat.mul_pos (a := -w) (b := c) (by grind) (by grind)
    grind
  have w1 : w ≤ 1 := by
    apply Rat.not_lt.1
    intro hlt
    have := Rat.mul_pos (a := w - 1) (b := c) (by grind) (by grind)
    grind
  -- differences
  obtain ⟨fd, nd⟩ := sub_near (k := .f32) gk gk1 (M := c) (by show Ab (rF (s k) - rF (s (k - 1))) c; rw [hc]; constructor <;> grind) (by grind) (by grind)
  obtain ⟨d, hd⟩ := fin_some' fd
  rw [hd] at fd nd
  rw [u32] at nd
  have nd : Ab (rF d - (rF (s k) - rF (s (k - 1)))) (c * U) := nd.ab
  rw [hc] at nd
  obtain ⟨fu, nu⟩ := sub_near (k := .f32) gl gk1 (M := c) (by show Ab (rF l - rF (s (k - 1))) c; rw [hv]; constructor <;> grind) (by grind) (by grind)
  obtain ⟨u, hu⟩ := fin_some' fu
  rw [hu] at fu nu
  rw [u32] at nu
  have nu : Ab (rF u - (rF l - rF (s (k - 1)))) (c * U) := nu.ab
  rw [hv] at nu
  obtain ⟨d1, d2⟩ := nd
  obtain ⟨u1, u2⟩ := nu
  have dpos : 13 / 1000 ≤ rF d := by grind
  have dne : rF d ≠ 0 := by grind
  have ud : rF u / rF d * rF d = rF u := Rat.div_mul_cancel dne
  have hM : Ab (rF u / rF d) (101 / 100) := by
    refine ab_of_mul (w := rF d) (by grind) ?_
    rw [ud]
    constructor <;> grind
  have hz : Ab (rF u / rF d - w) (21 / 10 * U) := by
    refine ab_of_mul (w := rF d) (by grind) ?_
    have e1 := Rat.mul_nonneg (a := w) (b := c * U - (rF d - c)) w0 (by grind)
    have e2 := Rat.mul_nonneg (a := w) (b := c * U + (rF d - c)) w0 (by grind)
    have e3 := Rat.mul_nonneg (a := 1 - w) (b := c * U) (by grind) (by grind)
    generalize rF u / rF d = z at ud
    constructor <;> grind
  obtain ⟨q, hq, gq, dq⟩ := q32 (M := 101 / 100) fu fd dne hM (by grind) (by grind)
  have eq : Ab (rF q - w) (6 * U) := (dq.add hz).to (by grind) (by grind)
  -- the place
  obtain ⟨gk0, vk0⟩ := ofInt_v ((k : Int) - 1) (by omega)
  obtain ⟨gn, vn⟩ := ofInt_v (n : Int) (by omega)
  have ek : (((k : Int) - 1 : Int) : Rat) = (k : Rat) - 1 := by rw [Rat.intCast_sub]; rfl
  rw [ek] at vk0
  have vn : rF (floatOfInt .f32 (n : Int)) = (n : Rat) := vn
  have kr1 : (1 : Rat) ≤ (k : Rat) := Rat.natCast_le_natCast.2 k1
  have krn : (k : Rat) ≤ (n : Rat) := Rat.natCast_le_natCast.2 kn
  have n16r : (n : Rat) ≤ 16 := by
    have a := Rat.natCast_le_natCast.2 n16
    rw [show ((16 : Nat) : Rat) = 16 from rfl] at a
    exact a
  obtain ⟨q1, q2⟩ := eq
  obtain ⟨a, ha, ga, da⟩ := a32 (M := 17) gk0 gq (by rw [vk0]; constructor <;> grind) (by grind) (by grind)
  rw [vk0] at da
  obtain ⟨a1, a2⟩ := da
  have nne : rF (floatOfInt .f32 (n : Int)) ≠ 0 := by rw [vn]; grind
  have an : rF a / rF (floatOfInt .f32 (n : Int)) * rF (floatOfInt .f32 (n : Int)) = rF a := Rat.div_mul_cancel nne
  have hM2 : Ab (rF a / rF (floatOfInt .f32 (n : Int))) (101 / 100) := by
    refine ab_of_mul (w := rF (floatOfInt .f32 (n : Int))) (by rw [vn]; grind) ?_
    rw [an, vn]
    constructor <;> grind
  obtain ⟨t, ht, gt, dt⟩ := q32 (M := 101 / 100) ga gn nne hM2 (by grind) (by grind)
  have tn' : Ab (rF t * (n : Rat) - rF a) ((n : Rat) * (31 / 10 * U)) := by
    rw [vn] at dt an
    obtain ⟨t1, t2⟩ := dt
    generalize rF a / (n : Rat) = z at an t1 t2
    have e1 := Rat.mul_nonneg (a := 3 * (101 / 100) * U - (rF t - z)) (b := (n : Rat)) (by grind) (by grind)
    have e2 := Rat.mul_nonneg (a := 3 * (101 / 100) * U + (rF t - z)) (b := (n : Rat)) (by grind) (by grind)
    constructor <;> grind
  obtain ⟨t1, t2⟩ := tn'
  have fge : ∀ j, j ≤ n → fgeB .f32 (some (s j)) (some l) = decide (rF l ≤ rF (s j)) := by
    intro j hj
    have h1 : Fin .f32 (some (s j)) := (T.g j hj).1
    have h2 : Fin .f32 (some l) := gl
    rw [fge_iff h1 h2]
    rfl
  refine ⟨⟨k, l, d, u, q, a, t⟩, w, ⟨⟨hsh, k1, kn, hl, il, ?_, ?_, hd, feq_false fd dne, hu, hq, ha, ht, gd_any gt (fop_is ht)⟩, rfl, ⟨k1, kn, w0, w1, by show rF l = _; rw [hc]; grind⟩, gt, ?_, ?_, ?_⟩⟩
  · intro j j1 jk
    have jk : j < k := jk
    rw [fge j (by omega)]
    exact decide_eq_false (hlo j j1 jk)
  · show fgeB .f32 (some (s k)) (some l) = true
    rw [fge k kn]
    exact decide_eq_true hk
  · show Ab (rF t * (n : Rat) - ((k : Rat) - 1 + w)) _
    constructor <;> grind
  · intro hk1 hl0
    have hk1 : k = 1 := hk1
    subst hk1
    show rF t = 0
    have e1 := (ex_zero gl hl0).sub (ex_zero gk1 (by rw [Nat.sub_self]; exact s0)) (by decide) (by decide) (by decide)
    rw [hu] at e1
    obtain ⟨u', hu', gu', vu⟩ := z_of e1
    obtain rfl := Option.some.inj hu'
    obtain ⟨q', hq', gq', vq⟩ := quo_zero fu fd vu dne
    rw [hq] at hq'
    obtain rfl := Option.some.inj hq'
    have e2 := (ex_zero gk0 (by rw [vk0]; show ((1 : Nat) : Rat) - 1 = 0; rw [show ((1 : Nat) : Rat) = 1 from rfl]; grind)).add (ex_zero gq' vq) (by decide) (by decide) (by decide)
    rw [ha] at e2
    obtain ⟨a', ha', ga', va⟩ := z_of e2
    obtain rfl := Option.some.inj ha'
    obtain ⟨t', ht', gt', vt⟩ := quo_zero ga gn va nne
    rw [ht] at ht'
    obtain rfl := Option.some.inj ht'
    exact vt
  · show k = n → l = s n → rF t = 1
    intro hkn hls
    subst hls
    subst hkn
    show rF t = 1
    rw [hd] at hu
    obtain rfl := Option.some.inj hu
    have e1 := quo_self fd dne
    rw [hq] at e1
    have e2 := (Ex'_ofInt .f32 ((k : Int) - 1) (by omega)).add e1 (by omega) (by decide) (by decide)
    rw [ha] at e2
    have va : rF a = (k : Rat) := by
      have v : rv .f32 a = (((k : Int) - 1 + 1 : Int) : Rat) * p2 0 := e2.val
      show rv .f32 a = _
      rw [v, show p2 0 = 1 by decide +kernel, show (k : Int) - 1 + 1 = (k : Int) by omega]
      show (k : Rat) * 1 = _
      grind
    have ha0 : 0 < rF a := by rw [va]; grind
    have iw : Is .f32 (floatOfInt .f32 (k : Int)) (some (floatOfInt .f32 (k : Int))) := Is_ofInt _ _
    have hw := word_of_val ga gn (fop_is ha) iw (by rw [va, vn]) ha0
    rw [← hw] at ht
    have e3 := quo_self ga (by grind)
    rw [ht] at e3
    have v : rv .f32 t = ((1 : Int) : Rat) * p2 0 := e3.val
    show rv .f32 t = 1
    rw [v]
    decide +kernel
end Go.Proofs.Ytonbcbhnnflohaa
