/-
  FnLengths: lengths and sums, with errors that shrink with the lengths.
-/
import Derived.Test.YtonbcbhnnflohaaWa
namespace Go.Proofs.Ytonbcbhnnflohaa
open Go.RowKit

abbrev tn : Rat := 1 / 1000000000000
theorem sm30 : p2 (-126) ≤ 1 / 1000000000000000000000000000000 := by decide +kernel
theorem sm30' : 0 < p2 (-126) := p2_pos _
theorem big127 : (4096 : Rat) < p2 127 := by decide +kernel
theorem long_rel {u v : Nat} (hu : G u) (hv : G v) (iu : Is .f32 u (some u)) (iv : Is .f32 v (some v)) (b1 : Ab (rF u) 20) (b2 : Ab (rF v) 20) :
    ∃ l, longW u v = some l ∧ G l ∧ Is .f32 l (some l) ∧ 0 ≤ rF l ∧ (∀ d, 0 ≤ d → d ≤ 40 → rF u * rF u + rF v * rF v ≤ d * d → rF l ≤ d + 2 * (U * d) + tn / 2) ∧ Le (rF u) (rF v) (rF l + 2 * (U * rF l) + tn / 2) := by
  have hp := big127
  have hs := sm30
  have hs' := sm30'
  obtain ⟨x, hx, fx, vx, _⟩ := wide hu iu (b1.to rfl (by grind))
  obtain ⟨y, hy, fy, vy, _⟩ := wide hv iv (b2.to rfl (by grind))
  have sq : ∀ {w : Rat}, Ab w 20 → 0 ≤ w * w ∧ w * w ≤ 400 := fun {w} hw => ⟨rsq_nn w, by have := (hw.mul hw).le; grind⟩
  obtain ⟨x0, x1⟩ := sq b1
  obtain ⟨y0, y1⟩ := sq b2
  rw [← vx] at x0 x1 ⊢
  rw [← vy] at y0 y1 ⊢
  obtain ⟨fp, np⟩ := mul_near fx fx (M := rv .f64 x * rv .f64 x + p2 (-126)) ⟨by grind, by grind⟩ (by grind) (by grind)
  have zp := mul_nn fx fx x0 (by grind)
  obtain ⟨p, hpp⟩ := fin_some' fp
  rw [hpp] at fp np zp
  obtain ⟨fq, nq⟩ := mul_near fy fy (M := rv .f64 y * rv .f64 y + p2 (-126)) ⟨by grind, by grind⟩ (by grind) (by grind)
  have zq := mul_nn fy fy y0 (by grind)
  obtain ⟨q, hqq⟩ := fin_some' fq
  rw [hqq] at fq nq zq
  rw [u64] at np nq
  obtain ⟨np1, np2⟩ := np
  obtain ⟨nq1, nq2⟩ := nq
  simp only [cv] at np1 np2 nq1 nq2 zp zq
  generalize hX : rv .f64 x * rv .f64 x = X at *
  generalize hY : rv .f64 y * rv .f64 y = Y at *
  obtain ⟨fs, ns⟩ := add_near fp fq (M := rv .f64 p + rv .f64 q + p2 (-126)) ⟨by grind, by grind⟩ (by grind) (by grind)
  have zs := add_nn fp fq (by grind) (by grind)
  obtain ⟨s, hss⟩ := fin_some' fs
  rw [hss] at fs ns zs
  rw [u64] at ns
  obtain ⟨ns1, ns2⟩ := ns
  simp only [cv] at ns1 ns2 zs
  have s1 : rv .f64 s ≤ (X + Y) + 4 * (E64 * (X + Y)) + 1 / 10000000000000000000000000000000000000000000 := by grind
  have s2 : X + Y ≤ rv .f64 s + 4 * (E64 * rv .f64 s) + 1 / 10000000000000000000000000000000000000000000 := by grind
  have s3 : rv .f64 s ≤ 1600 := by grind
  obtain ⟨fr, r0', _, _⟩ := sqrt_near fs zs (L := 0) (U := 40) (by grind) (by grind) (by grind) (by grind)
  obtain ⟨r, hrr⟩ := fin_some' fr
  have lowR : ∀ L, L * L ≤ rv .f64 s → L ≤ rv .f64 r + 3 * 40 * E64 := by
    intro L hL
    obtain ⟨_, _, h3, _⟩ := sqrt_near fs zs (L := L) (U := 40) hL (by grind) (by grind) (by grind)
    rw [hrr, u64] at h3
    exact h3
  have upR : ∀ V, 1 / 1000000000000000000000 ≤ V → V ≤ 1000 → rv .f64 s ≤ V * V → rv .f64 r ≤ V + 3 * V * E64 := by
    intro V h1 h2 h3
    obtain ⟨_, _, _, h4⟩ := sqrt_near fs zs (L := 0) (U := V) (by grind) h3 (by grind) (by grind)
    rw [hrr, u64] at h4
    exact h4
  rw [hrr] at fr r0'
  simp only [cv] at r0'
  have r1 : rv .f64 r ≤ 41 := by have := upR 40 (by grind) (by grind) (by grind); grind
  obtain ⟨fl, nl, l0⟩ := narrow_near fr (M := rv .f64 r + p2 (-126)) ⟨by grind, by grind⟩ (by grind) (by grind)
  obtain ⟨l, hll⟩ := fin_some' fl
  rw [hll] at fl nl l0
  rw [u32] at nl
  obtain ⟨nl1, nl2⟩ := nl
  have l0 := l0 r0'
  simp only [cv] at nl1 nl2 l0
  refine ⟨l, ?_, fl, ?_, l0, ?_, ?_⟩
  · unfold longW
    have e1 : rootW s = some r := hrr
    have e2 : cvW .f64 r .f32 = some l := hll
    rw [hx, Option.bind_some, hy, Option.bind_some, hpp, Option.bind_some, hqq, Option.bind_some, hss, Option.bind_some, e1, Option.bind_some, e2]
  · have hll : floatToFloatBits .f64 r .f32 = some l := hll
    obtain ⟨s', m', p', hr'⟩ := fin_read fr
    refine ⟨lt_of_wf (floatToFloatBits_wf (wf_of_lt _ _ (FloatKind.f64.format.sqrt_lt hrr)) hll), floatToFloatBits_not_nan hll ?_⟩
    show (FloatKind.f64.format.read r).isNaN = false
    rw [hr']
    rfl
  · intro d d0 d1 hd
    have dd := rsq_nn d
    have h1 := upR (d + 8 * (E64 * d) + 1 / 100000000000000000000) (by grind) (by grind) (by grind)
    show rv .f32 l ≤ _
    grind
  · have hs1 : rv .f64 s ≤ (rv .f64 r + 2 / 100000000000000) * (rv .f64 r + 2 / 100000000000000) := by
      apply Rat.not_lt.1
      intro hlt
      have := lowR (rv .f64 r + 2 / 100000000000000) (Rat.le_of_lt hlt)
      grind
    have rr : rv .f64 r ≤ rv .f32 l + 11 / 10 * (U * rv .f32 l) + 1 / 1000000000000000000000000 := by grind
    have hD : 0 ≤ rF l + 2 * (U * rF l) + tn / 2 := by
      have : 0 ≤ rF l := l0
      grind
    refine ⟨hD, ?_⟩
    rw [hX, hY]
    generalize hR : rv .f64 r + 2 / 100000000000000 = R at hs1
    have R0 : 0 ≤ R := by grind
    have R1 : R ≤ 42 := by grind
    have rR := rsq_nn R
    have k1 : X + Y ≤ (R + 8 * (E64 * R) + 1 / 100000000000000000000) * (R + 8 * (E64 * R) + 1 / 100000000000000000000) := by grind
    have k2 : R + 8 * (E64 * R) + 1 / 100000000000000000000 ≤ rF l + 2 * (U * rF l) + tn / 2 := by
      show _ ≤ rv .f32 l + 2 * (U * rv .f32 l) + tn / 2
      grind
    generalize hZ : R + 8 * (E64 * R) + 1 / 100000000000000000000 = Z at k1 k2
    have Z0 : 0 ≤ Z := by grind
    have := Rat.mul_nonneg (a := (rF l + 2 * (U * rF l) + tn / 2) - Z) (b := (rF l + 2 * (U * rF l) + tn / 2) + Z) (by grind) (by grind)
    grind
/-- A word for the length of an exact vector. -/
structure Lg (x y : Rat) (l : Nat) : Prop where
  g : G l
  is : Is .f32 l (some l)
  nn : 0 ≤ rF l
  up : Le x y (rF l + 4 * (U * rF l) + tn)
  lo : ∀ d, d ≤ 39 → Le x y d → rF l ≤ d + 4 * (U * d) + tn
theorem sub_rel {a b : Nat} (ha : G a) (hb : G b) (hx : Ab (rF b - rF a) 18) : ∃ r, fop .sub .f32 (some b) (some a) = some r ∧ G r ∧ Is .f32 r (some r) ∧ ∀ M, p2 (-126) ≤ M → M ≤ 4000 → Ab (rF b - rF a) M → Ab (rF r - (rF b - rF a)) (M * U) := by
  have hp := big127
  have hs := sm30
  obtain ⟨f, n⟩ := sub_near hb ha (M := 18) hx (by grind) (by grind)
  obtain ⟨r, hr⟩ := fin_some' f
  refine ⟨r, hr, by rw [hr] at f; exact f, fop_is hr, ?_⟩
  intro M h1 h2 hM
  obtain ⟨_, n'⟩ := sub_near hb ha hM h1 (by grind)
  rw [hr, u32] at n'
  exact n'.ab
theorem len_near {a b : Nat × Nat} (ga1 : G a.1) (ga2 : G a.2) (gb1 : G b.1) (gb2 : G b.2) (ba1 : Ab (rF a.1) 9) (ba2 : Ab (rF a.2) 9) (bb1 : Ab (rF b.1) 9) (bb2 : Ab (rF b.2) 9) :
    ∃ r l, minusW b a = some r ∧ longW r.1 r.2 = some l ∧ Lg (rF b.1 - rF a.1) (rF b.2 - rF a.2) l := by
  have hs := sm30
  have hs' := sm30'
  have bx : Ab (rF b.1 - rF a.1) 18 := (bb1.sub ba1).to rfl (by grind)
  have bY : Ab (rF b.2 - rF a.2) 18 := (bb2.sub ba2).to rfl (by grind)
  obtain ⟨u, hu, gu, iu, eu⟩ := sub_rel ga1 gb1 bx
  obtain ⟨v, hv, gv, iv, ev⟩ := sub_rel ga2 gb2 bY
  generalize rF b.1 - rF a.1 = x at *
  generalize rF b.2 - rF a.2 = y at *
  have eu0 := eu 18 (by grind) (by grind) bx
  have ev0 := ev 18 (by grind) (by grind) bY
  have cu : Ab (rF u) 19 := (eu0.add bx).to (by grind) (by grind)
  have cv' : Ab (rF v) 19 := (ev0.add bY).to (by grind) (by grind)
  obtain ⟨l, hl, gl, il, l0, lo, up⟩ := long_rel gu gv iu iv (cu.to rfl (by grind)) (cv'.to rfl (by grind))
  have lm := lo 30 (by grind) (by grind) (by have h1 := (cu.mul cu).le; have h2 := (cv'.mul cv').le; grind)
  refine ⟨(u, v), l, ?_, hl, gl, il, l0, ?_, ?_⟩
  · unfold minusW
    rw [hu, Option.bind_some, hv]
    rfl
  · generalize hT : rF l + 2 * (U * rF l) + tn / 2 = T at up
    have T0 := up.nn
    obtain ⟨t1, t2⟩ := up.ab
    have dx : Ab (rF u - x) (U * T + 7 / 100000000000000) := by
      refine (eu (T + 18 * U + 1 / 1000000000000000000000) (by grind) (by grind) ?_).to rfl (by grind)
      exact (t1.sub eu0).to (by grind) (by grind)
    have dy : Ab (rF v - y) (U * T + 7 / 100000000000000) := by
      refine (ev (T + 18 * U + 1 / 1000000000000000000000) (by grind) (by grind) ?_).to rfl (by grind)
      exact (t2.sub ev0).to (by grind) (by grind)
    have q0 : 0 ≤ U * T + 7 / 100000000000000 := by grind
    generalize hq : U * T + 7 / 100000000000000 = q at dx dy q0
    have e := Le.of_ab dx dy (d := 3 / 2 * q) (by grind) (by have := rsq_nn q; grind)
    exact (up.add e.neg).to (by grind) (by grind) (by grind)
  · intro d d1 hd
    obtain ⟨t1, t2⟩ := hd.ab
    have d0 := hd.nn
    have dx := eu (d + 1 / 1000000000000000000000) (by grind) (by grind) (t1.to rfl (by grind))
    have dy := ev (d + 1 / 1000000000000000000000) (by grind) (by grind) (t2.to rfl (by grind))
    have q0 : 0 ≤ (d + 1 / 1000000000000000000000) * U := by grind
    generalize hq : (d + 1 / 1000000000000000000000) * U = q at dx dy q0
    have e := Le.of_ab dx dy (d := 3 / 2 * q) (by grind) (by have := rsq_nn q; grind)
    have f := hd.add e
    have h := lo (d + 3 / 2 * q) (by grind) (by grind) (by have := (f.to (x' := rF u) (y' := rF v) (by grind) (by grind) Rat.le_refl).sq; exact this)
    grind
/-! ## sums -/
def ps (ls : List Nat) : Nat → Rat
  | 0 => 0
  | k + 1 => ps ls k + rF (ls.getD k 0)
def sF (ls : List Nat) : Nat → Nat
  | 0 => 0
  | k + 1 => (fop .add .f32 (some (sF ls k)) (some (ls.getD k 0))).getD 0
theorem getD_of {ls : List Nat} {k : Nat} (h : k < ls.length) : ls.getD k 0 = ls[k] := by simp [List.getD, h]
theorem ps_mono {ls : List Nat} (hn : ∀ l ∈ ls, 0 ≤ rF l) : ∀ (j k : Nat), k + j ≤ ls.length → ps ls k ≤ ps ls (k + j)
  | 0, _, _ => Rat.le_refl
  | j + 1, k, h => by
    have ih := ps_mono hn j k (by omega)
    show _ ≤ ps ls (k + j) + rF (ls.getD (k + j) 0)
    rw [getD_of (by omega)]
    have := hn _ (List.getElem_mem (show k + j < ls.length by omega))
    grind
theorem ps_nn {ls : List Nat} (hn : ∀ l ∈ ls, 0 ≤ rF l) {k : Nat} (h : k ≤ ls.length) : 0 ≤ ps ls k := by
  have := ps_mono hn k 0 (by omega)
  rw [Nat.zero_add] at this
  exact this
theorem rF00 : rF 0 = 0 := by decide +kernel
theorem sums_step {ls : List Nat} (hg : ∀ l ∈ ls, G l) (hn : ∀ l ∈ ls, 0 ≤ rF l) {T : Rat} (hT : ps ls ls.length ≤ T) (h0 : 1 / 100000000000000000000 ≤ T) (h1 : T ≤ 1000) (hlen : ls.length ≤ 20) : ∀ k, k ≤ ls.length →
    G (sF ls k) ∧ Is .f32 (sF ls k) (some (sF ls k)) ∧ Ab (rF (sF ls k) - ps ls k) ((k : Rat) * (2 * (U * T))) ∧ ∀ h : k < ls.length, fop .add .f32 (some (sF ls k)) (some ls[k]) = some (sF ls (k + 1)) := by
  have hp := big127
  have hs := sm30
  intro k
  induction k with
  | zero =>
    intro _
    have e0 : ((0 : Nat) : Rat) = 0 := rfl
    have ea : Ab (rF (sF ls 0) - ps ls 0) (((0 : Nat) : Rat) * (2 * (U * T))) := by
      show Ab (rF 0 - 0) _
      rw [rF00, e0]
      constructor <;> grind
    refine ⟨G0, i32_0, ea, ?_⟩
    intro h
    have m := ps_mono hn (ls.length - 1) 1 (by omega)
    rw [show 1 + (ls.length - 1) = ls.length by omega] at m
    have m1 : ps ls 1 = (0 : Rat) + rF ls[0] := by
      show (0 : Rat) + rF (ls.getD 0 0) = (0 : Rat) + rF ls[0]
      rw [getD_of h]
    have l0 := hn _ (List.getElem_mem h)
    obtain ⟨f, _⟩ := add_near (k := .f32) (a := 0) (b := ls[0]) G0 (hg _ (List.getElem_mem h)) (M := 2 * T) (by
      have : rv .f32 0 = 0 := rF00
      rw [this]
      have : rv .f32 ls[0] = rF ls[0] := rfl
      rw [this]
      constructor <;> grind) (by grind) (by grind)
    obtain ⟨r, hr⟩ := fin_some' f
    show fop .add .f32 (some 0) (some ls[0]) = some ((fop .add .f32 (some 0) (some (ls.getD 0 0))).getD 0)
    rw [getD_of h, hr]
    rfl
  | succ k ih =>
    intro hk
    obtain ⟨gk, ik, ek, nk⟩ := ih (by omega)
    have nk := nk (by omega)
    have l0 := hn _ (List.getElem_mem (show k < ls.length by omega))
    have gl := hg _ (List.getElem_mem (show k < ls.length by omega))
    have mk : ps ls (k + 1) = ps ls k + rF ls[k] := by
      show ps ls k + rF (ls.getD k 0) = _
      rw [getD_of (by omega)]
    have k20 : (k : Rat) ≤ ((20 : Nat) : Rat) := Rat.natCast_le_natCast.2 (by omega)
    rw [show ((20 : Nat) : Rat) = 20 from rfl] at k20
    have kn : (0 : Rat) ≤ (k : Rat) := Rat.natCast_nonneg
    have kT := Rat.mul_nonneg (a := 20 - (k : Rat)) (b := T) (by grind) (by grind)
    have kT' := Rat.mul_nonneg (a := (k : Rat)) (b := T) kn (by grind)
    have bnd : ∀ j (_ : j + 1 ≤ ls.length), ps ls (j + 1) ≤ T := by
      intro j hj
      have m := ps_mono hn (ls.length - (j + 1)) (j + 1) (by omega)
      rw [show j + 1 + (ls.length - (j + 1)) = ls.length by omega] at m
      exact Rat.le_trans m hT
    have pk := ps_nn hn (k := k) (by omega)
    have b1 := bnd k hk
    have hM : Ab (rF (sF ls k) + rF ls[k]) (2 * T) := by
      obtain ⟨e1, e2⟩ := ek
      constructor <;> grind
    obtain ⟨f, n⟩ := add_near (k := .f32) gk gl (M := 2 * T) hM (by grind) (by grind)
    rw [nk] at f n
    rw [u32] at n
    have n : Ab (rF (sF ls (k + 1)) - (rF (sF ls k) + rF ls[k])) (2 * T * U) := n.ab
    have ek1 : Ab (rF (sF ls (k + 1)) - ps ls (k + 1)) (((k + 1 : Nat) : Rat) * (2 * (U * T))) := by
      rw [mk, Rat.natCast_add, show ((1 : Nat) : Rat) = 1 from rfl]
      exact (n.add ek).to (by grind) (by grind)
    refine ⟨f, fop_is nk, ek1, ?_⟩
    intro h
    have l0' := hn _ (List.getElem_mem h)
    have gl' := hg _ (List.getElem_mem h)
    have mk' : ps ls (k + 1 + 1) = ps ls (k + 1) + rF ls[k + 1] := by
      show ps ls (k + 1) + rF (ls.getD (k + 1) 0) = _
      rw [getD_of h]
    have pk' := ps_nn hn (k := k + 1) (by omega)
    have b2 := bnd (k + 1) (by omega)
    have hM' : Ab (rF (sF ls (k + 1)) + rF ls[k + 1]) (2 * T) := by
      rw [Rat.natCast_add, show ((1 : Nat) : Rat) = 1 from rfl] at ek1
      obtain ⟨e1, e2⟩ := ek1
      constructor <;> grind
    obtain ⟨f', _⟩ := add_near (k := .f32) f gl' (M := 2 * T) hM' (by grind) (by grind)
    obtain ⟨r, hr⟩ := fin_some' f'
    show _ = some ((fop .add .f32 (some (sF ls (k + 1))) (some (ls.getD (k + 1) 0))).getD 0)
    rw [getD_of h, hr]
    rfl
theorem sums_near {ls : List Nat} (hg : ∀ l ∈ ls, G l) (hn : ∀ l ∈ ls, 0 ≤ rF l) {T : Rat} (hT : ps ls ls.length ≤ T) (h0 : 1 / 100000000000000000000 ≤ T) (h1 : T ≤ 1000) (hlen : ls.length ≤ 20) :
    SumsOk ls (sF ls) ∧ ∀ k, k ≤ ls.length → G (sF ls k) ∧ Is .f32 (sF ls k) (some (sF ls k)) ∧ Ab (rF (sF ls k) - ps ls k) ((k : Rat) * (2 * (U * T))) := by
  have h := sums_step hg hn hT h0 h1 hlen
  exact ⟨⟨rfl, fun i hi => (h i (by omega)).2.2.2 hi⟩, fun k hk => ⟨(h k hk).1, (h k hk).2.1, (h k hk).2.2.1⟩⟩
end Go.Proofs.Ytonbcbhnnflohaa

namespace Go.Proofs.Ytonbcbhnnflohaa
open Go.RowKit

/-- One part of a point of a blend. -/
theorem ebl {xa xb t w f v W m i r b D : Rat} (h0 : 0 ≤ t) (h1 : t ≤ 1) (hb : 1 ≤ b) (hxa : Ab xa b) (hxb : Ab xb b) (hD : Ab (xb - xa) D) (hw0 : 999 / 1000 ≤ w) (hw1 : w ≤ 1001 / 1000)
    (hf : Ab (f - w * (1 - t)) (21 / 10 * U)) (hv : Ab (v - w * t) (11 / 10 * U)) (hW : Ab (W - (f + v)) (11 / 10 * U)) (hi : Ab (i * W - 1) (7 / 2 * U)) (hm : Ab (m - (xa * f + xb * v)) (31 / 10 * (b * U))) (hr : Ab (r - m * i) (103 / 100 * (b * U))) :
    Ab (r - (xa * (1 - t) + xb * t)) (9 * (b * U) + 22 / 10 * (D * U)) := by
  have w1 := Rat.mul_nonneg (a := w) (b := 1 - t) (by grind) (by grind)
  have w2 := Rat.mul_nonneg (a := w) (b := t) (by grind) h0
  have D0 := hD.nonneg
  obtain ⟨f1, f2⟩ := hf
  obtain ⟨v1, v2⟩ := hv
  have hf0 : -(3 * U) ≤ f := by grind
  have hv0 : -(3 * U) ≤ v := by grind
  have hfv : 9989 / 10000 ≤ f + v ∧ f + v ≤ 10011 / 10000 := by constructor <;> grind
  have hu0 : (0 : Rat) ≤ 3 * U := by grind
  have hN := (part hxa hf0 hu0).add (part hxb hv0 hu0)
  have bf := Rat.mul_nonneg (a := b) (b := 10011 / 10000 - (f + v)) (by grind) (by grind)
  have hN' : Ab (xa * f + xb * v) (1002 / 1000 * b) := hN.to rfl (by grind)
  have hm9 : Ab m (1003 / 1000 * b) := (hm.add hN').to (by grind) (by grind)
  obtain ⟨W1, W2⟩ := hW
  have hW3 : Ab W (1002 / 1000) := ⟨by grind, by grind⟩
  have d1 := hm9.mul hi
  have d2 := hr.mul hW3
  have hd : Ab (r * W - (xa * f + xb * v)) (77 / 10 * (b * U)) := ((d2.add d1).add hm).to (by grind) (by grind)
  have hr9 : Ab r (102 / 100 * b) := by
    refine ab_of_mul (w := W) (by grind) ((hd.add hN').to (by grind) ?_)
    have := Rat.mul_nonneg (a := b) (b := W - 998 / 1000) (by grind) (by grind)
    grind
  have k1 := hr9.mul (⟨W1, W2⟩ : Ab (W - (f + v)) (11 / 10 * U))
  have k2 : Ab (t * (f - w * (1 - t)) - (1 - t) * (v - w * t)) (21 / 10 * U) := by
    have := cvx (x := -(v - w * t)) (y := f - w * (1 - t)) (X := 21 / 10 * U) (t := t) ⟨by grind, by grind⟩ ⟨by grind, by grind⟩ h0 h1
    exact this.to (by grind) Rat.le_refl
  have k3 := hD.mul k2
  have hs : Ab ((r - (xa * (1 - t) + xb * t)) * (f + v)) (885 / 100 * (b * U) + 21 / 10 * (D * U)) := ((hd.sub k1).sub k3).to (by grind) (by grind)
  refine ab_of_mul (w := f + v) (by grind) (hs.to rfl ?_)
  have e1 := Rat.mul_nonneg (a := b) (b := f + v - 9989 / 10000) (by grind) (by grind)
  have e2 := Rat.mul_nonneg (a := D) (b := f + v - 9989 / 10000) (by grind) (by grind)
  grind
/-- What a row's weights do. -/
structure BW (w t W : Nat) (o f v i : Nat) : Prop where
  ho : fop .sub .f32 (some 1065353216) (some t) = some o
  hf : fop .mul .f32 (some w) (some o) = some f
  hv : fop .mul .f32 (some w) (some t) = some v
  hW : fop .add .f32 (some f) (some v) = some W
  hi : fop .quo .f32 (some 1065353216) (some W) = some i
  gf : G f
  gv : G v
  gi : G i
  ef : Ab (rF f - rF w * (1 - rF t)) (21 / 10 * U)
  ev : Ab (rF v - rF w * rF t) (11 / 10 * U)
  eW : Ab (rF W - (rF f + rF v)) (11 / 10 * U)
  ei : Ab (rF i * rF W - 1) (7 / 2 * U)
  bf : Ab (rF f) (1002 / 1000)
  bv : Ab (rF v) (1002 / 1000)
  bi : Ab (rF i) (1003 / 1000)
theorem bw_near {w t : Nat} {e : Rat} (gw : G w) (hw : Ab (rF w - 1) e) (he : e ≤ 1 / 2000) (ht : T01 t) : ∃ W o f v i, BW w t W o f v i ∧ G W ∧ Is .f32 W (some W) ∧ Ab (rF W - 1) (e + 5 * U) := by
  have h0 := ht.h0
  have h1 := ht.h1
  have e0 := hw.nonneg
  have hW2 : Ab (rF w) (10005 / 10000) := by obtain ⟨a1, a2⟩ := hw; exact ⟨by grind, by grind⟩
  obtain ⟨o, ho, go, do_⟩ := s32 (M := 1) G1 ht.g (by rw [one3]; exact ⟨by grind, by grind⟩) (by grind) (by grind)
  rw [one3] at do_
  have o1 : Ab (rF o) (1 + U) := (do_.add (⟨by grind, by grind⟩ : Ab (1 - rF t) 1)).to (by grind) (by grind)
  obtain ⟨f, hf, gf, df⟩ := m32 (M := 10006 / 10000) gw go ((hW2.mul o1).to rfl (by grind)) (by grind) (by grind)
  obtain ⟨v, hv, gv, dv⟩ := m32 (M := 10006 / 10000) gw ht.g ((hW2.mul (⟨h1, by grind⟩ : Ab (rF t) 1)).to rfl (by grind)) (by grind) (by grind)
  have ef : Ab (rF f - rF w * (1 - rF t)) (21 / 10 * U) := (df.add (hW2.mul do_)).to (by grind) (by grind)
  have ev : Ab (rF v - rF w * rF t) (11 / 10 * U) := dv.to rfl (by grind)
  have hfv : Ab (rF f + rF v - rF w) (33 / 10 * U) := (ef.add ev).to (by grind) (by grind)
  have bfv : Ab (rF f + rF v) (1001 / 1000) := (hfv.add hW2).to (by grind) (by grind)
  obtain ⟨W, hW, gW, dW⟩ := a32 (M := 1001 / 1000) gf gv bfv (by grind) (by grind)
  have eW : Ab (rF W - (rF f + rF v)) (11 / 10 * U) := dW.to rfl (by grind)
  have eW1 : Ab (rF W - 1) (e + 5 * U) := ((eW.add hfv).add hw).to (by grind) (by grind)
  obtain ⟨a1, a2⟩ := eW1
  have hWne : rF W ≠ 0 := by grind
  have hinv : Ab (rF 1065353216 / rF W) (1001 / 1000) := by
    refine ab_of_mul (w := rF W) (by grind) ?_
    rw [Rat.div_mul_cancel hWne, one3]
    constructor <;> grind
  obtain ⟨i, hi, gi, di⟩ := q32 (M := 1001 / 1000) G1 gW hWne hinv (by grind) (by grind)
  have ei : Ab (rF i * rF W - 1) (7 / 2 * U) := by
    have h2 := di.mul (Y := 1001 / 1000) (y := rF W) ⟨by grind, by grind⟩
    have h3 : rF 1065353216 / rF W * rF W = 1 := by rw [Rat.div_mul_cancel hWne, one3]
    generalize rF 1065353216 / rF W = z at h2 h3
    exact h2.to (by grind) (by grind)
  have bi : Ab (rF i) (1003 / 1000) := by
    have h4 := ei.le
    have h5 := ei.ge
    refine ab_of_mul (w := rF W) (by grind) ⟨by grind, by grind⟩
  have t1 := Rat.mul_nonneg (a := rF w) (b := 1 - rF t) (by have := hw.ge; grind) (by grind)
  have t2 := Rat.mul_nonneg (a := rF w) (b := rF t) (by have := hw.ge; grind) h0
  have w9 := hW2.le
  refine ⟨W, o, f, v, i, ⟨ho, hf, hv, hW, hi, gf, gv, gi, ef, ev, eW, ei, ?_, ?_, bi⟩, gW, fop_is hW, ⟨a1, a2⟩⟩
  · obtain ⟨c1, c2⟩ := ef
    constructor <;> grind
  · obtain ⟨c1, c2⟩ := ev
    constructor <;> grind
/-- A point near to an exact one. -/
structure NE (k : Kn) (X Y e f : Rat) : Prop where
  g1 : G k.1
  g2 : G k.2.1
  i1 : Is .f32 k.1 (some k.1)
  i2 : Is .f32 k.2.1 (some k.2.1)
  x0 : 0 ≤ X
  x1 : X ≤ 23 / 4
  ay : Ab Y 2
  x : Ab (rF k.1 - X) e
  y : Ab (rF k.2.1 - Y) f
set_option maxHeartbeats 1000000 in
theorem ebl_near {a b : Kn} {w t W o f v i : Nat} {XA YA XB YB ex ey : Rat} (ha : NE a XA YA ex ey) (hb : NE b XB YB ex ey) (wa : a.2.2 = w) (wb : b.2.2 = w) (hB : BW w t W o f v i) (ht : T01 t) (hw0 : 999 / 1000 ≤ rF w) (hw1 : rF w ≤ 1001 / 1000) (hex : ex ≤ 1 / 1000) (hey : ey ≤ 1 / 1000) :
    ∃ r, blendC a b t = some r ∧ r.2.2 = W ∧ NE r (XA * (1 - rF t) + XB * rF t) (YA * (1 - rF t) + YB * rF t) (ex + 65 * U) (ey + 28 * U) := by
  have h0 := ht.h0
  have h1 := ht.h1
  have hex0 := ha.x.nonneg
  have hey0 := ha.y.nonneg
  have xa : Ab (rF a.1) (5752 / 1000) := by have := ha.x0; have := ha.x1; obtain ⟨c1, c2⟩ := ha.x; exact ⟨by grind, by grind⟩
  have xb : Ab (rF b.1) (5752 / 1000) := by have := hb.x0; have := hb.x1; obtain ⟨c1, c2⟩ := hb.x; exact ⟨by grind, by grind⟩
  have xd : Ab (rF b.1 - rF a.1) (5752 / 1000) := by have := ha.x0; have := ha.x1; have := hb.x0; have := hb.x1; obtain ⟨c1, c2⟩ := ha.x; obtain ⟨c3, c4⟩ := hb.x; exact ⟨by grind, by grind⟩
  have ya : Ab (rF a.2.1) (2002 / 1000) := (ha.y.add ha.ay).to (by grind) (by grind)
  have yb : Ab (rF b.2.1) (2002 / 1000) := (hb.y.add hb.ay).to (by grind) (by grind)
  have yd : Ab (rF b.2.1 - rF a.2.1) (4004 / 1000) := (yb.sub ya).to rfl (by grind)
  have q0 : ∀ {x c : Rat}, Ab x c → Ab (x * rF f) (1003 / 1000 * c) := fun hx => (hx.mul hB.bf).to rfl (by have := hx.nonneg; grind)
  have q1 : ∀ {x c : Rat}, Ab x c → Ab (x * rF v) (1003 / 1000 * c) := fun hx => (hx.mul hB.bv).to rfl (by have := hx.nonneg; grind)
  obtain ⟨p1, hp1, gp1, dp1⟩ := m32 (M := 1003 / 1000 * (5752 / 1000)) ha.g1 hB.gf (q0 xa) (by grind) (by grind)
  obtain ⟨p2, hp2, gp2, dp2⟩ := m32 (M := 1003 / 1000 * (2002 / 1000)) ha.g2 hB.gf (q0 ya) (by grind) (by grind)
  obtain ⟨z1, hz1, gz1, dz1⟩ := m32 (M := 1003 / 1000 * (5752 / 1000)) hb.g1 hB.gv (q1 xb) (by grind) (by grind)
  obtain ⟨z2, hz2, gz2, dz2⟩ := m32 (M := 1003 / 1000 * (2002 / 1000)) hb.g2 hB.gv (q1 yb) (by grind) (by grind)
  have w1 := Rat.mul_nonneg (a := rF w) (b := 1 - rF t) (by grind) (by grind)
  have w2 := Rat.mul_nonneg (a := rF w) (b := rF t) (by grind) h0
  obtain ⟨f1, f2⟩ := hB.ef
  obtain ⟨v1, v2⟩ := hB.ev
  have hf0 : -(3 * U) ≤ rF f := by grind
  have hv0 : -(3 * U) ≤ rF v := by grind
  have hfv : rF f + rF v ≤ 10011 / 10000 := by grind
  have hu0 : (0 : Rat) ≤ 3 * U := by grind
  have nx : Ab (rF a.1 * rF f + rF b.1 * rF v) (1002 / 1000 * (5752 / 1000)) := ((part xa hf0 hu0).add (part xb hv0 hu0)).to rfl (by grind)
  have ny : Ab (rF a.2.1 * rF f + rF b.2.1 * rF v) (1002 / 1000 * (2002 / 1000)) := ((part ya hf0 hu0).add (part yb hv0 hu0)).to rfl (by grind)
  obtain ⟨m1, hm1, gm1, dm1⟩ := a32 (M := 1003 / 1000 * (5752 / 1000)) gp1 gz1 (((dp1.add dz1).add nx).to (by grind) (by grind)) (by grind) (by grind)
  obtain ⟨m2, hm2, gm2, dm2⟩ := a32 (M := 1003 / 1000 * (2002 / 1000)) gp2 gz2 (((dp2.add dz2).add ny).to (by grind) (by grind)) (by grind) (by grind)
  have em1 : Ab (rF m1 - (rF a.1 * rF f + rF b.1 * rF v)) (31 / 10 * (5752 / 1000 * U)) := ((dm1.add dp1).add dz1).to (by grind) (by grind)
  have em2 : Ab (rF m2 - (rF a.2.1 * rF f + rF b.2.1 * rF v)) (31 / 10 * (2002 / 1000 * U)) := ((dm2.add dp2).add dz2).to (by grind) (by grind)
  have bm1 : Ab (rF m1) (1003 / 1000 * (5752 / 1000)) := (em1.add nx).to (by grind) (by grind)
  have bm2 : Ab (rF m2) (1003 / 1000 * (2002 / 1000)) := (em2.add ny).to (by grind) (by grind)
  obtain ⟨r1, hr1, gr1, dr1⟩ := m32 (M := 103 / 100 * (5752 / 1000)) gm1 hB.gi ((bm1.mul hB.bi).to rfl (by grind)) (by grind) (by grind)
  obtain ⟨r2, hr2, gr2, dr2⟩ := m32 (M := 103 / 100 * (2002 / 1000)) gm2 hB.gi ((bm2.mul hB.bi).to rfl (by grind)) (by grind) (by grind)
  have bx := ebl h0 h1 (by grind) xa xb xd hw0 hw1 hB.ef hB.ev hB.eW hB.ei em1 (dr1.to rfl (by grind))
  have bY := ebl h0 h1 (by grind) ya yb yd hw0 hw1 hB.ef hB.ev hB.eW hB.ei em2 (dr2.to rfl (by grind))
  have cx := cvx ha.x hb.x h0 h1
  have cy := cvx ha.y hb.y h0 h1
  refine ⟨(r1, r2, W), ?_, rfl, gr1, gr2, fop_is hr1, fop_is hr2, cvx_ge ha.x0 hb.x0 h0 h1, cvx_le ha.x1 hb.x1 h0 h1, cvx ha.ay hb.ay h0 h1, (bx.add cx).to (by grind) (by grind), (bY.add cy).to (by grind) (by grind)⟩
  unfold blendC scaledC plusC
  simp only [wa, wb, hB.ho, hB.hf, hB.hv, hB.hW, hB.hi, hp1, hp2, hz1, hz2, hm1, hm2, hr1, hr2, Option.bind_some]
/-! ## rows -/
def Ea (n : Nat) : Rat := (n : Rat) * (65 * U)
def Eb (n : Nat) : Rat := (n : Rat) * (28 * U)
theorem E_lim' (n : Nat) (h : n ≤ 6) : Ea n ≤ 1 / 1000 ∧ Eb n ≤ 1 / 1000 := by
  have a := Rat.natCast_le_natCast.2 h
  rw [show ((6 : Nat) : Rat) = 6 from rfl] at a
  unfold Ea Eb
  constructor <;> grind
theorem Ea_succ (n : Nat) : Ea (n + 1) = Ea n + 65 * U := by
  unfold Ea
  rw [Rat.natCast_add, show ((1 : Nat) : Rat) = 1 from rfl]
  grind
theorem Eb_succ (n : Nat) : Eb (n + 1) = Eb n + 28 * U := by
  unfold Eb
  rw [Rat.natCast_add, show ((1 : Nat) : Rat) = 1 from rfl]
  grind
inductive ELr (n w : Nat) : List Kn → List Rat → List Rat → Prop
  | nil : ELr n w [] [] []
  | cons {k c x X y Y} : k.2.2 = w → NE k x y (Ea n) (Eb n) → ELr n w c X Y → ELr n w (k :: c) (x :: X) (y :: Y)
theorem ELr.next {n w t W o f v i : Nat} (hB : BW w t W o f v i) (ht : T01 t) (hw0 : 999 / 1000 ≤ rF w) (hw1 : rF w ≤ 1001 / 1000) (hn : n ≤ 6) {c X Y} (h : ELr n w c X Y) : ∃ d, nextC c t = some d ∧ ELr (n + 1) W d (nextS X (rF t)) (nextS Y (rF t)) := by
  obtain ⟨l1, l2⟩ := E_lim' n hn
  induction h with
  | nil => exact ⟨[], rfl, .nil⟩
  | cons h0 h1 h2 ih =>
    cases h2 with
    | nil => exact ⟨[], rfl, .nil⟩
    | cons h3 h4 h5 =>
      obtain ⟨d, hd, hN⟩ := ih
      obtain ⟨r, hr, hW, hK⟩ := ebl_near h1 h4 h0 h3 hB ht hw0 hw1 l1 l2
      rw [← Ea_succ, ← Eb_succ] at hK
      refine ⟨r :: d, ?_, .cons hW hK hN⟩
      unfold nextC
      rw [hr, Option.bind_some, hd]
      rfl
theorem ELr.head {n w c X Y} (h : ELr n w c X Y) (h0 : 0 < c.length) : ∃ k, c.head? = some k ∧ NE k (X.headD 0) (Y.headD 0) (Ea n) (Eb n) := by
  cases h with
  | nil => simp at h0
  | cons _ h1 _ => exact ⟨_, rfl, h1⟩
theorem ELr.at_ {t : Nat} (ht : T01 t) : ∀ (m : Nat) {n w : Nat} {c : List Kn} {X Y : List Rat}, G w → Ab (rF w - 1) ((n : Rat) * (5 * U)) → ELr n w c X Y → c.length = m + 1 → n + m ≤ 6 → ∃ k, atK m c t = some k ∧ NE k (sAt m X (rF t)) (sAt m Y (rF t)) (Ea (n + m)) (Eb (n + m))
  | 0, n, w, c, X, Y, _, _, h, hl, hn => h.head (by omega)
  | m + 1, n, w, c, X, Y, gw, hw, h, hl, hn => by
    have n6 : (n : Rat) ≤ ((6 : Nat) : Rat) := Rat.natCast_le_natCast.2 (by omega)
    rw [show ((6 : Nat) : Rat) = 6 from rfl] at n6
    obtain ⟨W, o, f, v, i, hB, gW, _, hW⟩ := bw_near gw hw (by grind) ht
    obtain ⟨a1, a2⟩ := hw
    obtain ⟨d, hd, hN⟩ := h.next hB ht (by grind) (by grind) (by omega)
    obtain ⟨hdl, _⟩ := nextC_get t c d hd
    have hW' : Ab (rF W - 1) (((n + 1 : Nat) : Rat) * (5 * U)) := by
      rw [Rat.natCast_add, show ((1 : Nat) : Rat) = 1 from rfl]
      exact hW.to rfl (by grind)
    obtain ⟨k, hk, hK⟩ := ELr.at_ ht m gW hW' hN (by omega) (by omega)
    refine ⟨k, by unfold atK; rw [hd]; exact hk, ?_⟩
    rw [show n + (m + 1) = n + 1 + m by omega]
    exact hK
theorem gd_any {x : Nat} (h : G x) (hi : Is .f32 x (some x)) : Gd x := ⟨hi, 0, sub_self h, by decide +kernel⟩
/-- A point of a plain curve at any time, closely. -/
theorem eat {c : List Kn} {X Y : List Rat} (h : ELr 0 1065353216 c X Y) (h2 : 2 ≤ c.length) (h6 : c.length ≤ 6) {t : Nat} (ht : T01 t) :
    ∃ k, AtOk c t k ∧ NE k (sAt (c.length - 1) X (rF t)) (sAt (c.length - 1) Y (rF t)) (325 * U) (140 * U) := by
  have hw : Ab (rF 1065353216 - 1) (((0 : Nat) : Rat) * (5 * U)) := by
    rw [one3, show ((0 : Nat) : Rat) = 0 from rfl]
    constructor <;> grind
  obtain ⟨k, hk, hK⟩ := h.at_ ht (c.length - 1) G1 hw (by omega) (by omega)
  have n5 : ((0 + (c.length - 1) : Nat) : Rat) ≤ ((5 : Nat) : Rat) := Rat.natCast_le_natCast.2 (by omega)
  rw [show ((5 : Nat) : Rat) = 5 from rfl] at n5
  refine ⟨k, ⟨ht.Tm, hk, gd_any hK.g1 hK.i1, gd_any hK.g2 hK.i2⟩, { hK with x := hK.x.to rfl ?_, y := hK.y.to rfl ?_ }⟩
  · unfold Ea; grind
  · unfold Eb; grind
end Go.Proofs.Ytonbcbhnnflohaa
