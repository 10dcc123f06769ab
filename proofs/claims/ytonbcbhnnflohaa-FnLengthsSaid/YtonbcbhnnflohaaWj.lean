/-
  FnLengths: curves that are cut in the middle: one rounding a point, frames that grow no longer, bends that fade.
-/
import Derived.Test.YtonbcbhnnflohaaWh
namespace Go.Proofs.Ytonbcbhnnflohaa
open Go.RowKit

/-! ## halves -/
theorem rep {x : Nat} (h : G x) (hb : Ab (rF x) 4096) : ∃ j q : Int, Ex' .f32 (some x) j q ∧ j.natAbs < 2 ^ 24 ∧ -149 ≤ q ∧ q ≤ 100 := by
  obtain ⟨m, k, hr, hm, hk⟩ := read_fin FloatKind.f32.format x h
  have hB : FloatKind.f32.format.binade = 8388608 := by decide
  have hL : FloatKind.f32.format.leastPlace = -149 := by decide
  have hv : rv .f32 x = sg (sgn FloatKind.f32.format x) * ((m : Rat) * p2 (-149 + (k : Int))) := by
    unfold rv
    rw [hr, hL]
    rfl
  have hm24 : m < 2 ^ 24 := by
    unfold mag at hm
    rw [hB] at hm hk
    generalize rung FloatKind.f32.format x = r at hm hk
    by_cases h1 : r < 8388608
    · rw [if_pos h1] at hm
      have : k = 0 := by rw [hk, Nat.div_eq_of_lt h1]
      subst this
      omega
    · rw [if_neg h1, ← hk] at hm
      have := Nat.eq_of_mul_eq_mul_right (Nat.two_pow_pos k) hm
      have := Nat.mod_lt r (show 0 < 8388608 by omega)
      omega
  have hj : ∃ j : Int, (j : Rat) = sg (sgn FloatKind.f32.format x) * (m : Rat) ∧ j.natAbs = m := by
    cases sgn FloatKind.f32.format x
    · refine ⟨(m : Int), ?_, by simp⟩
      simp only [sg, Bool.false_eq_true, if_false]
      show (m : Rat) = 1 * (m : Rat)
      grind
    · refine ⟨-(m : Int), ?_, by simp⟩
      simp only [sg, if_true]
      rw [Rat.intCast_neg]
      show -(m : Rat) = -1 * (m : Rat)
      grind
  obtain ⟨j, hj, hjm⟩ := hj
  have hv' : rv .f32 x = (j : Rat) * p2 (-149 + (k : Int)) := by rw [hv, hj]; grind
  by_cases h0 : m = 0
  · refine ⟨0, 0, ⟨h, ?_⟩, by simp, by omega, by omega⟩
    show rv .f32 x = _
    rw [hv, h0]
    simp
  · refine ⟨j, -149 + (k : Int), ⟨h, hv'⟩, by omega, by omega, ?_⟩
    apply Int.not_lt.1
    intro hlt
    have hp : p2 100 ≤ p2 (-149 + (k : Int)) := p2_mono (by omega)
    have h100 : (4097 : Rat) ≤ p2 100 := by decide +kernel
    have m1 : (1 : Rat) ≤ (m : Rat) := by
      have a := Rat.natCast_le_natCast.2 (show 1 ≤ m by omega)
      exact a
    have hX := mag_of_ab (s := sgn FloatKind.f32.format x) (x := (m : Rat) * p2 (-149 + (k : Int))) (M := 4096) (by rw [← hv]; exact hb)
    have := Rat.mul_nonneg (a := (m : Rat) - 1) (b := p2 (-149 + (k : Int))) (by grind) (by grind)
    grind
theorem ex_half : Ex' .f32 (some 1056964608) 1 (-1) := ⟨by show rung FloatKind.f32.format 1056964608 < _; decide +kernel, by decide +kernel⟩
theorem ex_one : Ex' .f32 (some 1065353216) 1 0 := ⟨G1, by decide +kernel⟩
theorem half_mul {x : Nat} (h : G x) (hb : Ab (rF x) 4096) : ∃ r, fop .mul .f32 (some x) (some 1056964608) = some r ∧ G r ∧ Is .f32 r (some r) ∧ Ab (rF r - rF x / 2) (1 / 1000000000000000000000000000000) := by
  obtain ⟨j, q, hx, hj, hq, hq1⟩ := rep h hb
  have hs := sm30
  by_cases h1 : -148 ≤ q
  · have e := hx.mul ex_half (by omega) (by omega) (by omega)
    obtain ⟨r, hr, gr, vr⟩ := e.ex
    refine ⟨r, hr, gr, fop_is hr, ?_⟩
    have hv : rv .f32 x = (j : Rat) * p2 q := hx.val
    have e1 : p2 q = 2 * p2 (q + -1) := by
      have : p2 q = p2 1 * p2 (q + -1) := by rw [← p2_add]; congr 1; omega
      rw [this]
      congr 1
    have : rF r = rF x / 2 := by
      show rv .f32 r = rv .f32 x / 2
      rw [vr, hv, Rat.intCast_mul, e1, show ((1 : Int) : Rat) = 1 from rfl]
      grind
    rw [this]
    constructor <;> grind
  · obtain rfl : q = -149 := by omega
    have hv : rv .f32 x = (j : Rat) * p2 (-149) := hx.val
    have hjr : Ab (j : Rat) 16777216 := by
      have a := Rat.intCast_le_intCast.2 (show j ≤ 16777216 by omega)
      have b := Rat.intCast_le_intCast.2 (show -16777216 ≤ j by omega)
      rw [show ((16777216 : Int) : Rat) = 16777216 from rfl] at a
      rw [show ((-16777216 : Int) : Rat) = -16777216 from rfl] at b
      exact ⟨a, by grind⟩
    have hp : 16777216 * p2 (-149) = 2 * p2 (-126) := by decide +kernel
    have pp := p2_pos (-149)
    have bx : Ab (rv .f32 x) (2 * p2 (-126)) := by
      rw [hv, ← hp]
      exact (hjr.mul (y := p2 (-149)) (Y := p2 (-149)) ⟨Rat.le_refl, by grind⟩)
    have vh : rv .f32 1056964608 = 1 / 2 := by decide +kernel
    have bm : Ab (rv .f32 x * rv .f32 1056964608) (p2 (-126)) := by
      rw [vh]
      obtain ⟨a, b⟩ := bx
      constructor <;> grind
    obtain ⟨f, n⟩ := mul_near (k := .f32) h ex_half.fin bm Rat.le_refl (by decide +kernel)
    obtain ⟨r, hr⟩ := fin_some' f
    rw [hr] at f n
    rw [u32] at n
    have n := n.ab
    refine ⟨r, hr, f, fop_is hr, ?_⟩
    rw [vh] at n
    show Ab (rv .f32 r - rv .f32 x / 2) _
    exact n.to (by show rv .f32 r - rv .f32 x * (1 / 2) = _; grind) (by grind)
theorem one_mul' {x : Nat} (h : G x) (hb : Ab (rF x) 4096) : ∃ r, fop .mul .f32 (some x) (some 1065353216) = some r ∧ G r ∧ Is .f32 r (some r) ∧ rF r = rF x := by
  obtain ⟨j, q, hx, hj, hq, hq1⟩ := rep h hb
  have e := hx.mul ex_one (by omega) (by omega) (by omega)
  obtain ⟨r, hr, gr, vr⟩ := e.ex
  refine ⟨r, hr, gr, fop_is hr, ?_⟩
  have hv : rv .f32 x = (j : Rat) * p2 q := hx.val
  show rv .f32 r = rv .f32 x
  rw [vr, hv, Rat.intCast_mul, show ((1 : Int) : Rat) = 1 from rfl, Int.add_zero]
  grind
/-- A plain point, not far out. -/
structure HP (n : Nat) (k : Kn) : Prop where
  g1 : G k.1
  g2 : G k.2.1
  i1 : Is .f32 k.1 (some k.1)
  i2 : Is .f32 k.2.1 (some k.2.1)
  w : k.2.2 = 1065353216
  x : Ab (rF k.1) (23 / 4 + (n : Rat) * (6 * U))
  y : Ab (rF k.2.1) (2 + (n : Rat) * (3 * U))
/-- The middle of two points, nearly. -/
structure MidK (a b r : Kn) : Prop where
  x : Ab (rF r.1 - (rF a.1 + rF b.1) / 2) (59 / 10 * U)
  y : Ab (rF r.2.1 - (rF a.2.1 + rF b.2.1) / 2) (21 / 10 * U)
theorem MidK.symm {a b r : Kn} (h : MidK a b r) : MidK b a r := ⟨h.x.to (by grind) Rat.le_refl, h.y.to (by grind) Rat.le_refl⟩
theorem half_blend {n : Nat} {a b : Kn} (ha : HP n a) (hb : HP n b) (hn : n ≤ 60) : ∃ r, blendC a b 1056964608 = some r ∧ HP (n + 1) r ∧ MidK a b r := by
  have n0 : (0 : Rat) ≤ (n : Rat) := Rat.natCast_nonneg
  have n60 : (n : Rat) ≤ 60 := by
    have a := Rat.natCast_le_natCast.2 hn
    rw [show ((60 : Nat) : Rat) = 60 from rfl] at a
    exact a
  have e1 : fop .sub .f32 (some 1065353216) (some 1056964608) = some 1056964608 := by decide +kernel
  have e2 : fop .mul .f32 (some 1065353216) (some 1056964608) = some 1056964608 := by decide +kernel
  have e3 : fop .add .f32 (some 1056964608) (some 1056964608) = some 1065353216 := by decide +kernel
  have e4 : fop .quo .f32 (some 1065353216) (some 1065353216) = some 1065353216 := by decide +kernel
  have ax := ha.x
  have ay := ha.y
  have bx := hb.x
  have bY := hb.y
  obtain ⟨p1, hp1, gp1, _, dp1⟩ := half_mul ha.g1 (ax.to rfl (by grind))
  obtain ⟨p2, hp2, gp2, _, dp2⟩ := half_mul ha.g2 (ay.to rfl (by grind))
  obtain ⟨z1, hz1, gz1, _, dz1⟩ := half_mul hb.g1 (bx.to rfl (by grind))
  obtain ⟨z2, hz2, gz2, _, dz2⟩ := half_mul hb.g2 (bY.to rfl (by grind))
  obtain ⟨ax1, ax2⟩ := ax
  obtain ⟨ay1, ay2⟩ := ay
  obtain ⟨bx1, bx2⟩ := bx
  obtain ⟨by1, by2⟩ := bY
  have cx : Ab ((rF a.1 + rF b.1) / 2) (23 / 4 + (n : Rat) * (6 * U)) := by constructor <;> grind
  have cy : Ab ((rF a.2.1 + rF b.2.1) / 2) (2 + (n : Rat) * (3 * U)) := by constructor <;> grind
  have sx : Ab (rF p1 + rF z1) (58 / 10) := ((dp1.add dz1).add cx).to (by grind) (by grind)
  have sy : Ab (rF p2 + rF z2) (201 / 100) := ((dp2.add dz2).add cy).to (by grind) (by grind)
  obtain ⟨m1, hm1, gm1, dm1⟩ := a32 gp1 gz1 sx (by grind) (by grind)
  obtain ⟨m2, hm2, gm2, dm2⟩ := a32 gp2 gz2 sy (by grind) (by grind)
  obtain ⟨r1, hr1, gr1, ir1, vr1⟩ := one_mul' gm1 ((dm1.add sx).to (by grind) (by grind))
  obtain ⟨r2, hr2, gr2, ir2, vr2⟩ := one_mul' gm2 ((dm2.add sy).to (by grind) (by grind))
  have M : MidK a b (r1, r2, 1065353216) := by
    constructor
    · show Ab (rF r1 - (rF a.1 + rF b.1) / 2) _
      rw [vr1]
      exact ((dm1.add dp1).add dz1).to (by grind) (by grind)
    · show Ab (rF r2 - (rF a.2.1 + rF b.2.1) / 2) _
      rw [vr2]
      exact ((dm2.add dp2).add dz2).to (by grind) (by grind)
  have M1 := M.x
  have M2 := M.y
  refine ⟨(r1, r2, 1065353216), ?_, ⟨gr1, gr2, ir1, ir2, rfl, ?_, ?_⟩, M⟩
  · unfold blendC scaledC plusC
    simp only [ha.w, hb.w, e1, e2, e3, e4, hp1, hp2, hz1, hz2, hm1, hm2, hr1, hr2, Option.bind_some]
  · rw [i1']
    exact (M1.add cx).to (by grind) (by grind)
  · rw [i1']
    exact (M2.add cy).to (by grind) (by grind)
/-! ## rows -/
inductive Mid : List Kn → List Kn → Prop
  | one (k) : Mid [k] []
  | cons {a b c r d} : MidK a b r → Mid (b :: c) d → Mid (a :: b :: c) (r :: d)
theorem Mid.len : ∀ {c d : List Kn}, Mid c d → d.length + 1 = c.length
  | _, _, .one _ => rfl
  | _, _, .cons _ h => by
    have := h.len
    simp only [List.length_cons] at this ⊢
    omega
theorem next_half {n : Nat} (hn : n ≤ 60) : ∀ (c : List Kn), c ≠ [] → (∀ k ∈ c, HP n k) → ∃ d, nextC c 1056964608 = some d ∧ Mid c d ∧ ∀ k ∈ d, HP (n + 1) k
  | [], h, _ => absurd rfl h
  | [k], _, _ => ⟨[], rfl, .one k, fun k hk => by cases hk⟩
  | a :: b :: c, _, h => by
    obtain ⟨d, hd, hm, hh⟩ := next_half hn (b :: c) (by simp) fun k hk => h k (List.mem_cons_of_mem _ hk)
    obtain ⟨r, hr, hp, hk⟩ := half_blend (h a (by simp)) (h b (by simp)) hn
    refine ⟨r :: d, ?_, .cons hk hm, ?_⟩
    · unfold nextC
      rw [hr, Option.bind_some, hd]
      rfl
    · intro k hk
      rcases List.mem_cons.1 hk with rfl | hk
      · exact hp
      · exact hh k hk
theorem Mid.snoc : ∀ {c d : List Kn} {p q r : Kn}, Mid c d → c.getLast? = some p → MidK p q r → Mid (c ++ [q]) (d ++ [r])
  | _, _, p, q, r, .one k, h, hm => by
    obtain rfl : k = p := by simpa using h
    exact .cons hm (.one q)
  | _, _, p, q, r, .cons e h0, h, hm => by
    rw [List.getLast?_cons_cons] at h
    exact .cons e (h0.snoc h hm)
theorem Mid.rev : ∀ {c d : List Kn}, Mid c d → Mid c.reverse d.reverse
  | _, _, .one k => .one k
  | _, _, .cons (a := a) (b := b) (c := c) (r := r) (d := d) e h => by
    have ih := h.rev
    rw [show (a :: b :: c).reverse = (b :: c).reverse ++ [a] from List.reverse_cons, show (r :: d).reverse = d.reverse ++ [r] from List.reverse_cons]
    exact ih.snoc (by rw [List.reverse_cons]; simp) e.symm
/-- The first points of all rows. -/
inductive Edge : List Kn → List Kn → Prop
  | one (k) : Edge [k] [k]
  | cons {k c d l} : Mid (k :: c) d → Edge d l → Edge (k :: c) (k :: l)
theorem Edge.head {c l : List Kn} (h : Edge c l) : l.head? = c.head? := by
  cases h <;> rfl
/-! ## lengths of frames -/
abbrev VL (p q : Kn) (d : Rat) : Prop := Le (rF q.1 - rF p.1) (rF q.2.1 - rF p.2.1) d
inductive UPl : List Kn → Rat → Prop
  | one (k) {D} : 0 ≤ D → UPl [k] D
  | cons {a b c d D} : VL a b d → UPl (b :: c) D → UPl (a :: b :: c) (d + D)
theorem UPl.nn : ∀ {c : List Kn} {D : Rat}, UPl c D → 0 ≤ D
  | _, _, .one _ h => h
  | _, _, .cons h h' => by
    have := h.nn
    have := h'.nn
    grind
theorem UPl.snoc : ∀ {c : List Kn} {D d : Rat} {p q : Kn}, UPl c D → c.getLast? = some p → VL p q d → UPl (c ++ [q]) (D + d)
  | _, _, d, p, q, .one k (D := D) hD, h, hv => by
    obtain rfl : k = p := by simpa using h
    have := UPl.cons (c := []) hv (UPl.one q (D := D) hD)
    rw [show d + D = D + d by grind] at this
    exact this
  | _, _, d, p, q, .cons (d := e) (D := D) e' h0, h, hv => by
    rw [List.getLast?_cons_cons] at h
    have := UPl.cons e' (h0.snoc h hv)
    rw [show e + (D + d) = e + D + d by grind] at this
    exact this
theorem UPl.chord : ∀ {c : List Kn} {D : Rat} {p q : Kn}, UPl c D → c.head? = some p → c.getLast? = some q → VL p q D
  | _, _, p, q, .one k hD, hp, hq => by
    obtain rfl : k = p := by simpa using hp
    obtain rfl : k = q := by simpa using hq
    exact Le.zero.to (by grind) (by grind) hD
  | _, _, p, q, .cons (a := a) (b := b) e h0, hp, hq => by
    obtain rfl : a = p := by simpa using hp
    rw [List.getLast?_cons_cons] at hq
    have := h0.chord rfl hq
    exact (e.add this).to (by grind) (by grind) Rat.le_refl
theorem FrL.upl : ∀ {c : List Kn} {ls : List Nat} {D : Rat}, FrL c ls → UPl c D → D ≤ 39 → sumR ls ≤ D + 4 * (U * D) + (ls.length : Rat) * tn
  | _, _, D, .one _, .one _ h, _ => by
    show (0 : Rat) ≤ D + 4 * (U * D) + ((0 : Nat) : Rat) * tn
    rw [show ((0 : Nat) : Rat) = 0 from rfl]
    grind
  | _, _, _, .cons (l := l) (ls := ls) _ g hr, .cons (d := d) (D := D) e h, hD => by
    have d0 := e.nn
    have D0 := h.nn
    have ih := hr.upl h (by grind)
    have := g.lo d (by grind) e
    rw [List.length_cons, i1', sumR]
    grind
theorem FrL.toUp : ∀ {c : List Kn} {ls : List Nat}, FrL c ls → UPl c (sumR ls + 4 * (U * sumR ls) + (ls.length : Rat) * tn)
  | _, _, .one k => .one k (by show (0 : Rat) ≤ 0 + 4 * (U * 0) + ((0 : Nat) : Rat) * tn; rw [show ((0 : Nat) : Rat) = 0 from rfl]; grind)
  | _, _, .cons (l := l) (ls := ls) _ g h => by
    have := UPl.cons g.up h.toUp
    rw [List.length_cons, i1', sumR]
    rw [show rF l + 4 * (U * rF l) + tn + (sumR ls + 4 * (U * sumR ls) + (ls.length : Rat) * tn) = rF l + sumR ls + 4 * (U * (rF l + sumR ls)) + ((ls.length : Rat) + 1) * tn by grind] at this
    exact this
abbrev rho : Rat := 63 / 10 * U
theorem mid_vl {a b r : Kn} {d : Rat} (h : VL a b d) (m : MidK a b r) : VL a r (d / 2 + rho) ∧ VL r b (d / 2 + rho) := by
  have e := Le.of_ab m.x m.y (d := rho) (by grind) (by decide +kernel)
  have hh := h.smul (c := 1 / 2) (by grind)
  constructor
  · exact (hh.add e).to (by grind) (by grind) (by grind)
  · exact (hh.add e.neg).to (by grind) (by grind) (by grind)
theorem Mid.up : ∀ {c d : List Kn} {D : Rat}, Mid c d → UPl c D → 2 ≤ c.length → ∃ p q p' q' a D' b, c.head? = some p ∧ c.getLast? = some q ∧ d.head? = some p' ∧ d.getLast? = some q' ∧ VL p p' a ∧ UPl d D' ∧ VL q' q b ∧ a + D' + b ≤ D + 2 * ((d.length : Rat) * rho)
  | _, _, _, .one _, _, h => by simp at h
  | _, _, _, .cons (a := a) (b := b) (r := r) m (.one _), .cons (d := d) (D := D) e (.one _ hD), _ => by
    obtain ⟨h1, h2⟩ := mid_vl e m
    refine ⟨a, b, r, r, d / 2 + rho, 0, d / 2 + rho, rfl, rfl, rfl, rfl, h1, .one r (by grind), h2, ?_⟩
    show _ ≤ d + D + 2 * (((0 + 1 : Nat) : Rat) * rho)
    rw [show ((0 + 1 : Nat) : Rat) = 1 from rfl]
    grind
  | _, _, _, .cons (a := a) (b := b) (r := r) m (.cons (a := _) (b := b2) (c := c) (r := r2) (d := d) m2 h), .cons (d := e0) (D := D) e hu, _ => by
    obtain ⟨h1, h2⟩ := mid_vl e m
    obtain ⟨p, q, p', q', a1, D1, b1, e1, e2, e3, e4, v1, u1, v2, hs⟩ := Mid.up (.cons m2 h) hu (by simp)
    obtain rfl : b = p := by simpa using e1
    obtain rfl : r2 = p' := by simpa using e3
    refine ⟨a, q, r, q', e0 / 2 + rho, (e0 / 2 + rho + a1) + D1, b1, rfl, ?_, rfl, ?_, h1, .cons ((h2.add v1).to (by grind) (by grind) Rat.le_refl) u1, v2, ?_⟩
    · rw [List.getLast?_cons_cons]; exact e2
    · rw [List.getLast?_cons_cons]; exact e4
    · rw [List.length_cons, i1']
      rw [List.length_cons] at hs ⊢
      grind
/-! ## bends -/
inductive SD (A B : Rat) : List Kn → Prop
  | nil : SD A B []
  | one (k) : SD A B [k]
  | two (a b) : SD A B [a, b]
  | cons {a b c l} : Ab (rF a.1 - 2 * rF b.1 + rF c.1) A → Ab (rF a.2.1 - 2 * rF b.2.1 + rF c.2.1) B → SD A B (b :: c :: l) → SD A B (a :: b :: c :: l)
theorem SD.mono {A B A' B' : Rat} (hA : A ≤ A') (hB : B ≤ B') : ∀ {c : List Kn}, SD A B c → SD A' B' c
  | _, .nil => .nil
  | _, .one k => .one k
  | _, .two a b => .two a b
  | _, .cons h h' hr => .cons (h.to rfl hA) (h'.to rfl hB) (hr.mono hA hB)
theorem SD.snoc {A B : Rat} : ∀ {l : List Kn} {p q r : Kn}, SD A B (l ++ [p, q]) → Ab (rF p.1 - 2 * rF q.1 + rF r.1) A → Ab (rF p.2.1 - 2 * rF q.2.1 + rF r.2.1) B → SD A B (l ++ [p, q, r])
  | [], _, _, _, _, h, h' => .cons h h' (.two _ _)
  | [_], _, _, _, .cons e e' hr, h, h' => .cons e e' (SD.snoc (l := []) hr h h')
  | [_, b], _, _, _, .cons e e' hr, h, h' => .cons e e' (SD.snoc (l := [b]) hr h h')
  | _ :: b :: c :: l, _, _, _, .cons e e' hr, h, h' => .cons e e' (SD.snoc (l := b :: c :: l) hr h h')
theorem SD.rev {A B : Rat} : ∀ {c : List Kn}, SD A B c → SD A B c.reverse
  | _, .nil => .nil
  | _, .one k => .one k
  | _, .two a b => .two b a
  | _, .cons (a := a) (b := b) (c := c) (l := l) h h' hr => by
    have ih := hr.rev
    rw [List.reverse_cons, List.reverse_cons, List.append_assoc] at ih
    rw [List.reverse_cons, List.reverse_cons, List.reverse_cons, List.append_assoc, List.append_assoc]
    exact SD.snoc ih (h.to (by grind) Rat.le_refl) (h'.to (by grind) Rat.le_refl)
theorem Mid.sd {A B : Rat} : ∀ {c d : List Kn}, Mid c d → SD A B c → SD (A + 24 * U) (B + 9 * U) d
  | _, _, .one _, _ => .nil
  | _, _, .cons _ (.one _), _ => .one _
  | _, _, .cons _ (.cons _ (.one _)), _ => .two _ _
  | _, _, .cons m1 (.cons m2 (.cons m3 h)), .cons a1 a2 hr => by
    have ih := Mid.sd (.cons m2 (.cons m3 h)) hr
    cases hr with
    | cons b1 b2 hr' =>
      refine .cons ?_ ?_ ih
      · obtain ⟨c1, c2⟩ := m1.x
        obtain ⟨c3, c4⟩ := m2.x
        obtain ⟨c5, c6⟩ := m3.x
        obtain ⟨c7, c8⟩ := a1
        obtain ⟨c9, c0⟩ := b1
        constructor <;> grind
      · obtain ⟨c1, c2⟩ := m1.y
        obtain ⟨c3, c4⟩ := m2.y
        obtain ⟨c5, c6⟩ := m3.y
        obtain ⟨c7, c8⟩ := a2
        obtain ⟨c9, c0⟩ := b2
        constructor <;> grind
theorem Edge.sd : ∀ {c l : List Kn} {A B : Rat}, Edge c l → SD A B c → SD (A / 4 + (6 * (c.length : Rat) + 18) * U) (B / 4 + (9 / 4 * (c.length : Rat) + 7) * U) l
  | _, _, _, _, .one k, _ => .one k
  | _, _, A, B, .cons (k := k) (c := c) (d := d) m e, hs => by
    have ih := e.sd (m.sd hs)
    have hl := m.len
    have hlr : (((k :: c).length : Nat) : Rat) = (d.length : Rat) + 1 := by rw [← hl]; exact i1' _
    have ih' := ih.mono (A' := A / 4 + (6 * (((k :: c).length : Nat) : Rat) + 18) * U) (B' := B / 4 + (9 / 4 * (((k :: c).length : Nat) : Rat) + 7) * U) (by rw [hlr]; grind) (by rw [hlr]; grind)
    have c0 : (0 : Rat) ≤ (((k :: c).length : Nat) : Rat) := Rat.natCast_nonneg
    cases e with
    | one k' => exact .two _ _
    | cons m' e' =>
      cases e' with
      | one k'' => 
        cases m with
        | cons m1 h1 =>
          cases m' with
          | cons m1' h1' =>
            cases h1' with
            | one =>
              cases h1 with
              | cons m2 h2 =>
                cases h2 with
                | one =>
                  cases hs with
                  | cons s1 s2 _ =>
                    refine .cons ?_ ?_ ih'
                    · obtain ⟨c1, c2⟩ := m1.x
                      obtain ⟨c3, c4⟩ := m2.x
                      obtain ⟨c5, c6⟩ := m1'.x
                      obtain ⟨c7, c8⟩ := s1
                      constructor <;> grind
                    · obtain ⟨c1, c2⟩ := m1.y
                      obtain ⟨c3, c4⟩ := m2.y
                      obtain ⟨c5, c6⟩ := m1'.y
                      obtain ⟨c7, c8⟩ := s2
                      constructor <;> grind
      | cons m'' e'' =>
        cases m with
        | cons m1 h1 =>
          cases m' with
          | cons m1' h1' =>
            cases h1 with
            | cons m2 h2 =>
              cases hs with
              | cons s1 s2 _ =>
                refine .cons ?_ ?_ ih'
                · obtain ⟨c1, c2⟩ := m1.x
                  obtain ⟨c3, c4⟩ := m2.x
                  obtain ⟨c5, c6⟩ := m1'.x
                  obtain ⟨c7, c8⟩ := s1
                  constructor <;> grind
                · obtain ⟨c1, c2⟩ := m1.y
                  obtain ⟨c3, c4⟩ := m2.y
                  obtain ⟨c5, c6⟩ := m1'.y
                  obtain ⟨c7, c8⟩ := s2
                  constructor <;> grind
end Go.Proofs.Ytonbcbhnnflohaa
