/-
  The plain law of flat sheets: the area of tiles.
-/
import Derived.Test.YtefnlalldgbcaaaFx
namespace Go.Proofs.Ytefnlalldgbcaaa
open Go.RowKit

/-! ## the corners of a triangle -/
theorem tri_getD (p : Nat) {q a b r : Nat} (ha : a < p) (hb : b < q) (hr : r < 6) : (triM p p q).getD (6 * (b * p + a) + r) 0 = (tri2 p b a).getD r 0 := by
  have h1 := flatMap_getD (fun (j : Nat) => triRow p j p) (p * 6) (fun j => triRow_length p j p) (0 : Int) q b (a * 6 + r) hb (by
    have := Nat.mul_le_mul_right 6 (show a + 1 ≤ p from ha)
    rw [Nat.add_mul] at this
    omega)
  have h2 := flatMap_getD (fun (i : Nat) => tri2 p b i) 6 (fun i => rfl) (0 : Int) p a r ha hr
  have e1 : triM p p q = (List.range q).flatMap fun (j : Nat) => triRow p j p := rfl
  have e2 : triRow p b p = (List.range p).flatMap fun (i : Nat) => tri2 p b i := rfl
  have e3 : 6 * (b * p + a) + r = b * (p * 6) + (a * 6 + r) := by rw [Nat.mul_add, ← Nat.mul_assoc, Nat.mul_comm 6 b, Nat.mul_assoc, Nat.mul_comm 6 p]; omega
  rw [e3, e1, h1, e2, h2]
theorem tri_ix (p : Nat) {q t : Nat} (ht : t < q * (p * 2)) : ∃ a b, a < p ∧ b < q ∧
    ((triIx (triM p p q) (3 * t) = b * (p + 1) + a ∧ triIx (triM p p q) (3 * t + 1) = b * (p + 1) + (a + 1) ∧ triIx (triM p p q) (3 * t + 2) = (b + 1) * (p + 1) + a) ∨
     (triIx (triM p p q) (3 * t) = b * (p + 1) + (a + 1) ∧ triIx (triM p p q) (3 * t + 1) = (b + 1) * (p + 1) + (a + 1) ∧ triIx (triM p p q) (3 * t + 2) = (b + 1) * (p + 1) + a)) := by
  have hp : 0 < p := by
    rcases Nat.eq_zero_or_pos p with h | h
    · subst h; simp at ht
    · exact h
  have h2 : t / 2 < q * p := by
    have e : q * (p * 2) = 2 * (q * p) := by rw [← Nat.mul_assoc, Nat.mul_comm]
    omega
  have ha := Nat.mod_lt (t / 2) hp
  have hb : t / 2 / p < q := Nat.div_lt_of_lt_mul (by rw [Nat.mul_comm]; exact h2)
  have ed : t / 2 = t / 2 / p * p + t / 2 % p := by
    rw [Nat.mul_comm]
    exact (Nat.div_add_mod (t / 2) p).symm
  refine ⟨t / 2 % p, t / 2 / p, ha, hb, ?_⟩
  generalize t / 2 / p = b at hb ed
  generalize t / 2 % p = a at ha ed
  have g := fun r hr => tri_getD p (q := q) (r := r) ha hb hr
  have eA : (b : Int) * ((p : Int) + 1) = ((b * (p + 1) : Nat) : Int) := by rw [Int.natCast_mul]; rfl
  have eB : (b + 1) * (p + 1) = b * (p + 1) + (p + 1) := by rw [Nat.add_mul, Nat.one_mul]
  unfold triIx
  have hs : t = 2 * (b * p + a) ∨ t = 2 * (b * p + a) + 1 := by omega
  rcases hs with rfl | rfl
  · left
    have e0 : 3 * (2 * (b * p + a)) = 6 * (b * p + a) + 0 := by omega
    have e1 : 3 * (2 * (b * p + a)) + 1 = 6 * (b * p + a) + 1 := by omega
    have e2 : 3 * (2 * (b * p + a)) + 2 = 6 * (b * p + a) + 2 := by omega
    rw [e1, e2, e0, g 0 (by omega), g 1 (by omega), g 2 (by omega), eB]
    refine ⟨?_, ?_, ?_⟩
    · show ((b : Int) * ((p : Int) + 1) + a).toNat = _
      omega
    · show ((b : Int) * ((p : Int) + 1) + a + 1).toNat = _
      omega
    · show ((b : Int) * ((p : Int) + 1) + a + p + 1).toNat = _
      omega
  · right
    have e0 : 3 * (2 * (b * p + a) + 1) = 6 * (b * p + a) + 3 := by omega
    have e1 : 3 * (2 * (b * p + a) + 1) + 1 = 6 * (b * p + a) + 4 := by omega
    have e2 : 3 * (2 * (b * p + a) + 1) + 2 = 6 * (b * p + a) + 5 := by omega
    rw [e1, e2, e0, g 3 (by omega), g 4 (by omega), g 5 (by omega), eB]
    refine ⟨?_, ?_, ?_⟩
    · show ((b : Int) * ((p : Int) + 1) + a + 1).toNat = _
      omega
    · show ((b : Int) * ((p : Int) + 1) + a + p + 1 + 1).toNat = _
      omega
    · show ((b : Int) * ((p : Int) + 1) + a + p + 1).toNat = _
      omega

/-! ## a triangle -/
abbrev Ed : Rat := 513 / 16777216
theorem less_ap {s t : S3} {v v' : Nat → Rat} (h : ApS s v E4) (h' : ApS t v' E4) (hd : ∀ c, Ab (v c - v' c) 8) : ApS (lessS s t) (fun c => v c - v' c) Ed := by
  intro c
  have g1 := p2m126
  have g2 := p2127
  have e4 : (E4 : Rat) = 248 / 16777216 := rfl
  obtain ⟨x1, x2⟩ := hd c
  have hs := Ap.sub (M := 9) (h c) (h' c) ⟨by grind, by grind⟩ (by grind) (by grind)
  rw [uk32] at hs
  rw [pj_less]
  exact hs.mono (by decide +kernel)
/-- A product of differences that lie flat. -/
theorem cross_tri {A B : S3} {x1 y1 x2 y2 w l : Rat} (a0 : Ap .f32 A.1 x1 Ed) (a1 : Ap .f32 A.2.1 y1 Ed) (b0 : Ap .f32 B.1 x2 Ed) (b1 : Ap .f32 B.2.1 y2 Ed) (za : Zr A.2.2) (zb : Zr B.2.2)
    {p q r s : Rat} (hx1 : Ab x1 p) (hy2 : Ab y2 q) (hy1 : Ab y1 r) (hx2 : Ab x2 s) (p8 : p ≤ 8) (q8 : q ≤ 8) (r8 : r ≤ 8) (s8 : s ≤ 8) (hz : x1 * y2 - y1 * x2 = w * l) (hsum : p + q + r + s ≤ w + 2 * l) :
    Zr (crossC A B).1 ∧ Zr (crossC A B).2.1 ∧ Ap .f32 (crossC A B).2.2 (w * l) ((w + 2 * l) * Ed + 270 * ulp) := by
  have g1 := p2m126
  have g2 := p2127
  refine ⟨zr_sub (zr_mul a1.fin zb.fin (.inr zb.val)) (zr_mul za.fin b1.fin (.inl za.val)), zr_sub (zr_mul za.fin b0.fin (.inl za.val)) (zr_mul a0.fin zb.fin (.inr zb.val)), ?_⟩
  have ed0 : (0 : Rat) ≤ Ed := by decide +kernel
  have bound : ∀ {x y : Rat}, 0 ≤ x → 0 ≤ y → x ≤ 8 → y ≤ 8 → (x + Ed) * (y + Ed) ≤ 65 := by
    intro x y hx hy hx8 hy8
    have h1 := Rat.mul_le_mul_of_nonneg_right (show x + Ed ≤ 8 + Ed by grind) (show (0 : Rat) ≤ y + Ed by grind)
    have h2 := Rat.mul_le_mul_of_nonneg_left (show y + Ed ≤ 8 + Ed by grind) (show (0 : Rat) ≤ 8 + Ed by decide +kernel)
    have h3 : (8 + Ed) * (8 + Ed) ≤ (65 : Rat) := by decide +kernel
    exact Rat.le_trans h1 (Rat.le_trans h2 h3)
  have m1 := Ap.mul (M := 65) a0 b1 hx1 hy2 (bound hx1.nonneg hy2.nonneg p8 q8) (by grind) (by grind)
  have m2 := Ap.mul (M := 65) a1 b0 hy1 hx2 (bound hy1.nonneg hx2.nonneg r8 s8) (by grind) (by grind)
  rw [uk32] at m1 m2
  have edd : (Ed : Rat) * Ed ≤ ulp := by decide +kernel
  have m1 := m1.mono (f := p * Ed + q * Ed + 66 * ulp) (by grind)
  have m2 := m2.mono (f := r * Ed + s * Ed + 66 * ulp) (by grind)
  have hb : ∀ {x : Rat}, 0 ≤ x → x ≤ 8 → x * Ed ≤ 1 / 2048 := by
    intro x hx h8
    have h1 := Rat.mul_le_mul_of_nonneg_right h8 ed0
    have h2 : 8 * Ed ≤ (1 / 2048 : Rat) := by decide +kernel
    exact Rat.le_trans h1 h2
  have b1' := hb hx1.nonneg p8
  have b2' := hb hy2.nonneg q8
  have b3' := hb hy1.nonneg r8
  have b4' := hb hx2.nonneg s8
  obtain ⟨x1a, x1b⟩ := (hx1.mul hy2)
  obtain ⟨x2a, x2b⟩ := (hy1.mul hx2)
  have pq : p * q ≤ 64 := by
    have h1 := Rat.mul_le_mul_of_nonneg_right p8 hy2.nonneg
    grind
  have rs : r * s ≤ 64 := by
    have h1 := Rat.mul_le_mul_of_nonneg_right r8 hx2.nonneg
    grind
  have sb := Ap.sub (M := 130) m1 m2 ⟨by grind, by grind⟩ (by grind) (by grind)
  rw [uk32] at sb
  have hse := Rat.mul_le_mul_of_nonneg_right hsum ed0
  exact (sb.mono (f := (w + 2 * l) * Ed + 270 * ulp) (by grind)).to hz
/-- Half of a triangle's double area. -/
theorem trm_flat {tt : List S3} {p q : Nat} {W L : Rat} (T : TL tt p q W L) (hp : 1 ≤ p) (hp4 : p ≤ 4) (hq : 1 ≤ q) (hq4 : q ≤ 4) (w1 : 1 / 2 ≤ W) (w8 : W ≤ 8) (l1 : 1 / 2 ≤ L) (l8 : L ≤ 8) {t : Nat} (ht : t < q * (p * 2)) :
    Ap .f32 (trmC tt (triM p p q) t) (W / (p : Rat) * (L / (q : Rat))) ((W / (p : Rat) + 2 * (L / (q : Rat))) * Ed + 300 * ulp + 20 * ulp * (W / (p : Rat) * (L / (q : Rat)))) := by
  obtain ⟨a, b, ha, hb, hix⟩ := tri_ix p ht
  have hpp := natPos (n := p) (by omega)
  have hqq := natPos (n := q) (by omega)
  have hp1 : ((1 : Nat) : Rat) ≤ (p : Rat) := natR hp
  have hq1 : ((1 : Nat) : Rat) ≤ (q : Rat) := natR hq
  have hp4' : (p : Rat) ≤ ((4 : Nat) : Rat) := natR hp4
  have hq4' : (q : Rat) ≤ ((4 : Nat) : Rat) := natR hq4
  have c1 : ((1 : Nat) : Rat) = 1 := rfl
  have c4 : ((4 : Nat) : Rat) = 4 := rfl
  rw [c1] at hp1 hq1
  rw [c4] at hp4' hq4'
  have eW : W / (p : Rat) * (p : Rat) = W := Rat.div_mul_cancel (by grind)
  have eL : L / (q : Rat) * (q : Rat) = L := Rat.div_mul_cancel (by grind)
  -- the grid
  have G : ∀ j i, j ≤ q → i ≤ p → ApS (tt.getD (j * (p + 1) + i) z3) (fun c => match c with | 0 => W / (p : Rat) * (i : Rat) | 1 => L / (q : Rat) * (j : Rat) | _ => 0) E4 := by
    intro j i hj hi c
    refine (T.ap j i hj hi c).to ?_
    match c with
    | 0 => exact div_mul
    | 1 => exact div_mul
    | c + 2 => rfl
  have Gz := T.pz
  generalize hw : W / (p : Rat) = w at eW G ⊢
  generalize hl : L / (q : Rat) = l at eL G ⊢
  have w0 : 1 / 8 ≤ w := by
    refine Rat.le_of_mul_le_mul_right (c := (p : Rat)) ?_ hpp
    rw [eW]; grind
  have w8' : w ≤ 8 := by
    refine Rat.le_of_mul_le_mul_right (c := (p : Rat)) ?_ hpp
    rw [eW]; grind
  have l0 : 1 / 8 ≤ l := by
    refine Rat.le_of_mul_le_mul_right (c := (q : Rat)) ?_ hqq
    rw [eL]; grind
  have l8' : l ≤ 8 := by
    refine Rat.le_of_mul_le_mul_right (c := (q : Rat)) ?_ hqq
    rw [eL]; grind
  have hwl0 : 1 / 64 ≤ w * l := by
    have x1 := Rat.mul_le_mul_of_nonneg_right w0 (show 0 ≤ l by grind)
    grind
  have hwl : w * l ≤ 64 := by
    have x1 := Rat.mul_le_mul_of_nonneg_right w8' (show 0 ≤ l by grind)
    grind
  have z8 : Ab (0 : Rat) 0 := ⟨Rat.le_refl, by decide +kernel⟩
  have aw : Ab w w := ⟨Rat.le_refl, by grind⟩
  have al : Ab l l := ⟨Rat.le_refl, by grind⟩
  have an : Ab (-w) w := ⟨by grind, Rat.le_refl⟩
  have sc : ∀ k : Nat, ((k + 1 : Nat) : Rat) = (k : Rat) + 1 := fun k => Rat.natCast_add k 1
  have core : Zr (crsS tt (triM p p q) t).1 ∧ Zr (crsS tt (triM p p q) t).2.1 ∧ Ap .f32 (crsS tt (triM p p q) t).2.2 (w * l) ((w + 2 * l) * Ed + 270 * ulp) := by
    unfold crsS l1S l2S
    have zl : ∀ k k', Zr (lessS (tt.getD k z3) (tt.getD k' z3)).2.2 := fun k k' => by
      have h1 : Zr (tt.getD k z3).2.2 := Gz k
      have h2 : Zr (tt.getD k' z3).2.2 := Gz k'
      exact zr_sub h1 h2
    have d8 : ∀ {x : Rat}, 0 ≤ x → x ≤ 8 → Ab x 8 := fun h0 h8 => ⟨h8, by grind⟩
    rcases hix with ⟨i0, i1, i2⟩ | ⟨i0, i1, i2⟩
    · rw [i0, i1, i2]
      have g0 := G b a (by omega) (by omega)
      have g1 := G b (a + 1) (by omega) (by omega)
      have g2 := G (b + 1) a (by omega) (by omega)
      have m1 := less_ap g1 g0 (fun c => by
        match c with
        | 0 =>
          show Ab (w * ((a + 1 : Nat) : Rat) - w * (a : Rat)) 8
          rw [sc]
          exact ⟨by grind, by grind⟩
        | 1 =>
          show Ab (l * (b : Rat) - l * (b : Rat)) 8
          exact ⟨by grind, by grind⟩
        | c + 2 =>
          show Ab ((0 : Rat) - 0) 8
          exact ⟨by decide +kernel, by decide +kernel⟩)
      have m2 := less_ap g2 g0 (fun c => by
        match c with
        | 0 =>
          show Ab (w * (a : Rat) - w * (a : Rat)) 8
          exact ⟨by grind, by grind⟩
        | 1 =>
          show Ab (l * ((b + 1 : Nat) : Rat) - l * (b : Rat)) 8
          rw [sc]
          exact ⟨by grind, by grind⟩
        | c + 2 =>
          show Ab ((0 : Rat) - 0) 8
          exact ⟨by decide +kernel, by decide +kernel⟩)
      have q0 : Ap .f32 (lessS (tt.getD (b * (p + 1) + (a + 1)) z3) (tt.getD (b * (p + 1) + a) z3)).1 w Ed := (m1 0).to (by show w * ((a + 1 : Nat) : Rat) - w * (a : Rat) = w; rw [sc]; grind)
      have q1 : Ap .f32 (lessS (tt.getD (b * (p + 1) + (a + 1)) z3) (tt.getD (b * (p + 1) + a) z3)).2.1 0 Ed := (m1 1).to (by show l * (b : Rat) - l * (b : Rat) = 0; grind)
      have r0 : Ap .f32 (lessS (tt.getD ((b + 1) * (p + 1) + a) z3) (tt.getD (b * (p + 1) + a) z3)).1 0 Ed := (m2 0).to (by show w * (a : Rat) - w * (a : Rat) = 0; grind)
      have r1 : Ap .f32 (lessS (tt.getD ((b + 1) * (p + 1) + a) z3) (tt.getD (b * (p + 1) + a) z3)).2.1 l Ed := (m2 1).to (by show l * ((b + 1 : Nat) : Rat) - l * (b : Rat) = l; rw [sc]; grind)
      exact cross_tri q0 q1 r0 r1 (zl _ _) (zl _ _) aw al z8 z8 w8' l8' (by decide +kernel) (by decide +kernel) (by grind) (by grind)
    · rw [i0, i1, i2]
      have g0 := G b (a + 1) (by omega) (by omega)
      have g1 := G (b + 1) (a + 1) (by omega) (by omega)
      have g2 := G (b + 1) a (by omega) (by omega)
      have m1 := less_ap g1 g0 (fun c => by
        match c with
        | 0 =>
          show Ab (w * ((a + 1 : Nat) : Rat) - w * ((a + 1 : Nat) : Rat)) 8
          exact ⟨by grind, by grind⟩
        | 1 =>
          show Ab (l * ((b + 1 : Nat) : Rat) - l * (b : Rat)) 8
          rw [sc]
          exact ⟨by grind, by grind⟩
        | c + 2 =>
          show Ab ((0 : Rat) - 0) 8
          exact ⟨by decide +kernel, by decide +kernel⟩)
      have m2 := less_ap g2 g0 (fun c => by
        match c with
        | 0 =>
          show Ab (w * (a : Rat) - w * ((a + 1 : Nat) : Rat)) 8
          rw [sc]
          exact ⟨by grind, by grind⟩
        | 1 =>
          show Ab (l * ((b + 1 : Nat) : Rat) - l * (b : Rat)) 8
          rw [sc]
          exact ⟨by grind, by grind⟩
        | c + 2 =>
          show Ab ((0 : Rat) - 0) 8
          exact ⟨by decide +kernel, by decide +kernel⟩)
      have q0 : Ap .f32 (lessS (tt.getD ((b + 1) * (p + 1) + (a + 1)) z3) (tt.getD (b * (p + 1) + (a + 1)) z3)).1 0 Ed := (m1 0).to (by show w * ((a + 1 : Nat) : Rat) - w * ((a + 1 : Nat) : Rat) = 0; grind)
      have q1 : Ap .f32 (lessS (tt.getD ((b + 1) * (p + 1) + (a + 1)) z3) (tt.getD (b * (p + 1) + (a + 1)) z3)).2.1 l Ed := (m1 1).to (by show l * ((b + 1 : Nat) : Rat) - l * (b : Rat) = l; rw [sc]; grind)
      have r0 : Ap .f32 (lessS (tt.getD ((b + 1) * (p + 1) + a) z3) (tt.getD (b * (p + 1) + (a + 1)) z3)).1 (-w) Ed := (m2 0).to (by show w * (a : Rat) - w * ((a + 1 : Nat) : Rat) = -w; rw [sc]; grind)
      have r1 : Ap .f32 (lessS (tt.getD ((b + 1) * (p + 1) + a) z3) (tt.getD (b * (p + 1) + (a + 1)) z3)).2.1 l Ed := (m2 1).to (by show l * ((b + 1 : Nat) : Rat) - l * (b : Rat) = l; rw [sc]; grind)
      exact cross_tri q0 q1 r0 r1 (zl _ _) (zl _ _) z8 al al an (by decide +kernel) l8' l8' w8' (by grind) (by grind)
  obtain ⟨cx, cy, cz⟩ := core
  obtain ⟨z1, z2⟩ := cz.near
  have he : (w + 2 * l) * Ed + 270 * ulp ≤ 1 / 1024 := by
    have h1 := Rat.mul_le_mul_of_nonneg_right (show w + 2 * l ≤ 24 by grind) (show (0 : Rat) ≤ Ed by decide +kernel)
    have h2 : 24 * Ed + 270 * ulp ≤ (1 / 1024 : Rat) := by decide +kernel
    grind
  obtain ⟨lf, n1, n2⟩ := long_flat cx cy cz.fin (by grind) (by grind)
  have e : trmC tt (triM p p q) t = rootC (dotC (crsS tt (triM p p q) t) (crsS tt (triM p p q) t)) := rfl
  rw [e]
  generalize cv .f32 (crsS tt (triM p p q) t).2.2 = z at z1 z2 n1 n2
  have hz : 20 * ulp * z ≤ 20 * ulp * (w * l) + 30 * ulp := by
    have := Rat.mul_le_mul_of_nonneg_left (show z ≤ w * l + 1 by grind) (show (0 : Rat) ≤ 20 * ulp by decide +kernel)
    grind
  exact ⟨lf, by grind, by grind⟩
end Go.Proofs.Ytefnlalldgbcaaa
