/-
  FnLengths: drawn curves, frames.
-/
import Derived.Test.YtonbcbhnnflohaaWg
import Derived.Test.YtonbcbhnnflohaaWd
namespace Go.Proofs.Ytonbcbhnnflohaa
open Go.RowKit

inductive BR : Nat → List Kn → Prop
  | nil (i) : BR i []
  | cons {i k c} : BKi i k → BR (i + 1) c → BR i (k :: c)
theorem BR.of : ∀ (c : List Kn) (i : Nat), (∀ j (h : j < c.length), BKi (i + j) c[j]) → BR i c
  | [], i, _ => .nil i
  | k :: c, i, h => by
    refine .cons (h 0 (by simp)) (BR.of c (i + 1) fun j hj => ?_)
    have := h (j + 1) (by simp; omega)
    rw [show i + (j + 1) = i + 1 + j by omega] at this
    simpa using this
structure BV (i : Nat) (k : Kn) : Prop where
  g1 : G k.1
  g2 : G k.2.1
  i1 : Is .f32 k.1 (some k.1)
  i2 : Is .f32 k.2.1 (some k.2.1)
  w : k.2.2 = 1065353216
  x0 : (i : Rat) ≤ rF k.1
  x1 : rF k.1 ≤ (i : Rat) + 3 / 4
  y : Ab (rF k.2.1) 2
theorem BKi.v {i : Nat} {k : Kn} (h : BKi i k) (hi : i ≤ 5) : BV i k := by
  obtain ⟨p, j, a1, a2, b1, b2, rfl⟩ := h
  obtain ⟨g1, v1, i1⟩ := qvB_ok (i := 4 * (i : Int) + p) (by omega) (by omega)
  obtain ⟨g2, v2, i2⟩ := qvB_ok (i := j) (by omega) (by omega)
  have p0 : ((0 : Int) : Rat) ≤ (p : Rat) := Rat.intCast_le_intCast.2 a1
  have p3 : (p : Rat) ≤ ((3 : Int) : Rat) := Rat.intCast_le_intCast.2 a2
  have j0 : ((-8 : Int) : Rat) ≤ (j : Rat) := Rat.intCast_le_intCast.2 b1
  have j8 : (j : Rat) ≤ ((8 : Int) : Rat) := Rat.intCast_le_intCast.2 b2
  rw [show ((0 : Int) : Rat) = 0 from rfl] at p0
  rw [show ((3 : Int) : Rat) = 3 from rfl] at p3
  rw [show ((-8 : Int) : Rat) = -8 from rfl] at j0
  rw [show ((8 : Int) : Rat) = 8 from rfl] at j8
  have e : ((4 * (i : Int) + p : Int) : Rat) = 4 * (i : Rat) + (p : Rat) := by
    rw [Rat.intCast_add, Rat.intCast_mul]
    rfl
  rw [e] at v1
  refine ⟨g1, g2, i1, i2, rfl, ?_, ?_, ?_⟩
  · show (i : Rat) ≤ rF (qv (4 * (i : Int) + p)); rw [v1]; grind
  · show rF (qv (4 * (i : Int) + p)) ≤ _; rw [v1]; grind
  · show Ab (rF (qv j)) 2; rw [v2]; constructor <;> grind
abbrev xs (c : List Kn) : List Rat := c.map fun k => rF k.1
abbrev ys (c : List Kn) : List Rat := c.map fun k => rF k.2.1
theorem i5 {i : Nat} (h : i ≤ 5) : (i : Rat) ≤ 5 := by
  have a := Rat.natCast_le_natCast.2 h
  rw [show ((5 : Nat) : Rat) = 5 from rfl] at a
  exact a
theorem i1' (i : Nat) : ((i + 1 : Nat) : Rat) = (i : Rat) + 1 := by
  rw [Rat.natCast_add]
  rfl
theorem BR.elr : ∀ {c : List Kn} {i : Nat}, BR i c → i + c.length ≤ 6 → ELr 0 1065353216 c (xs c) (ys c)
  | _, _, .nil _, _ => .nil
  | _, i, .cons (c := c) h hr, hl => by
    simp only [List.length_cons] at hl
    have v := h.v (by omega)
    have i0 : (0 : Rat) ≤ (i : Rat) := Rat.natCast_nonneg
    have i5 := i5 (i := i) (by omega)
    have e1 : Ea 0 = 0 := by decide +kernel
    have e2 : Eb 0 = 0 := by decide +kernel
    refine .cons v.w ⟨v.g1, v.g2, v.i1, v.i2, ?_, ?_, v.y, ?_, ?_⟩ (hr.elr (by omega))
    · have := v.x0; grind
    · have := v.x1; grind
    · rw [e1]; constructor <;> grind
    · rw [e2]; constructor <;> grind
theorem BR.up : ∀ {c : List Kn} {i : Nat}, BR i c → i + c.length ≤ 6 → Up (1 / 4) (xs c)
  | _, _, .nil _, _ => .nil
  | _, _, .cons _ (.nil _), _ => .one _
  | _, i, .cons h (.cons h' hr), hl => by
    simp only [List.length_cons] at hl
    have v := h.v (by omega)
    have v' := h'.v (by omega)
    have e := i1' i
    refine .cons ?_ (BR.up (.cons h' hr) (by simp only [List.length_cons]; omega))
    have a := v.x1
    have b := v'.x0
    rw [e] at b
    grind
theorem GC_of {c : List Kn} {i : Nat} (h : BR i c) (hl : i + c.length ≤ 6) (h2 : 2 ≤ c.length) : GC c := by
  have key : ∀ {c : List Kn} {i : Nat}, BR i c → i + c.length ≤ 6 → ∀ k ∈ c, ∃ j, j ≤ 5 ∧ BKi j k := by
    intro c i h
    induction h with
    | nil => intro _ k hk; cases hk
    | @cons i k0 c h0 _ ih =>
      intro hl k hk
      simp only [List.length_cons] at hl
      rcases List.mem_cons.1 hk with rfl | hk
      · exact ⟨i, by omega, h0⟩
      · exact ih (by omega) k hk
  refine ⟨h2, by omega, ?_, ?_⟩
  · intro k hk
    obtain ⟨j, hj, hb⟩ := key h hl k hk
    have v := hb.v hj
    exact ⟨gd_any v.g1 v.i1, gd_any v.g2 v.i2⟩
  · intro k hk
    obtain ⟨j, hj, hb⟩ := key h hl k hk
    have v := hb.v hj
    rw [v.w]
    exact ⟨gd_any G1 i32_1', by decide +kernel⟩
/-! ## frames -/
/-- How far points are away from those before, as words. -/
inductive FrL : List Kn → List Nat → Prop
  | one (k) : FrL [k] []
  | cons {a b c l ls} : (∃ r, minusW (pt b) (pt a) = some r ∧ longW r.1 r.2 = some l) → Lg (rF b.1 - rF a.1) (rF b.2.1 - rF a.2.1) l → FrL (b :: c) ls → FrL (a :: b :: c) (l :: ls)
structure Pb (k : Kn) : Prop where
  g1 : G k.1
  g2 : G k.2.1
  x : Ab (rF k.1) 9
  y : Ab (rF k.2.1) 9
theorem frl_ex : ∀ (c : List Kn), 1 ≤ c.length → (∀ k ∈ c, Pb k) → ∃ ls, FrL c ls
  | [], h, _ => by simp at h
  | [k], _, _ => ⟨[], .one k⟩
  | a :: b :: c, _, h => by
    obtain ⟨ls, hls⟩ := frl_ex (b :: c) (by simp) fun k hk => h k (List.mem_cons_of_mem _ hk)
    have pa := h a (by simp)
    have pb := h b (by simp)
    obtain ⟨r, l, hr, hl, hg⟩ := len_near (a := pt a) (b := pt b) pa.g1 pa.g2 pb.g1 pb.g2 pa.x pa.y pb.x pb.y
    exact ⟨l :: ls, .cons ⟨r, hr, hl⟩ hg hls⟩
theorem FrL.len : ∀ {c : List Kn} {ls : List Nat}, FrL c ls → ls.length + 1 = c.length
  | _, _, .one _ => rfl
  | _, _, .cons _ _ h => by
    have := h.len
    simp only [List.length_cons] at this ⊢
    omega
theorem FrL.gaps : ∀ {c : List Kn} {ls : List Nat}, FrL c ls → GapsOk c ls
  | _, _, .one _ => ⟨rfl, fun i h => by simp at h⟩
  | _, _, .cons (a := a) (b := b) (c := c) (l := l) (ls := ls) e _ h => by
    have ih := h.gaps
    refine ⟨by have := h.len; simp only [List.length_cons] at this ⊢; omega, ?_⟩
    intro i h1 h2 h3
    match i with
    | 0 => simpa using e
    | i + 1 =>
      have := ih.at_ i (by simp at h1; exact h1) (by simp at h2 ⊢; omega) (by simp at h3 ⊢; omega)
      simpa using this
theorem FrL.all {P : Nat → Prop} (hP : ∀ {x y l}, Lg x y l → P l) : ∀ {c : List Kn} {ls : List Nat}, FrL c ls → ∀ l ∈ ls, P l
  | _, _, .one _, l, h => by cases h
  | _, _, .cons _ g hr, l, h => by
    rcases List.mem_cons.1 h with rfl | h
    · exact hP g
    · exact hr.all hP l h
theorem FrL.g {c : List Kn} {ls : List Nat} (h : FrL c ls) : ∀ l ∈ ls, G l := h.all (P := G) fun g => g.g
theorem FrL.nn {c : List Kn} {ls : List Nat} (h : FrL c ls) : ∀ l ∈ ls, 0 ≤ rF l := h.all (P := fun l => 0 ≤ rF l) fun g => g.nn
/-- The sum of a list, from the front. -/
def sumR : List Nat → Rat
  | [] => 0
  | l :: ls => rF l + sumR ls
theorem ps_cons (l : Nat) (ls : List Nat) : ∀ k, ps (l :: ls) (k + 1) = rF l + ps ls k
  | 0 => by show (0 : Rat) + rF l = rF l + 0; grind
  | k + 1 => by
    show ps (l :: ls) (k + 1) + rF ((l :: ls).getD (k + 1) 0) = rF l + (ps ls k + rF (ls.getD k 0))
    rw [ps_cons l ls k]
    have : (l :: ls).getD (k + 1) 0 = ls.getD k 0 := by simp
    rw [this]
    grind
theorem ps_all : ∀ ls : List Nat, ps ls ls.length = sumR ls
  | [] => rfl
  | l :: ls => by
    rw [List.length_cons, ps_cons, ps_all ls]
    rfl
/-- Cumulative lengths, somewhat more than they are. -/
def cumL : Rat → List Nat → List Rat
  | q, [] => [q]
  | q, l :: ls => q :: cumL (q + (rF l + 4 * (U * rF l) + tn)) ls
theorem cumL_len : ∀ (ls : List Nat) (q : Rat), (cumL q ls).length = ls.length + 1
  | [], _ => rfl
  | l :: ls, q => by simp only [cumL, List.length_cons, cumL_len ls]
theorem cumL_cons (q : Rat) (ls : List Nat) : ∃ r, cumL q ls = q :: r := by
  cases ls with
  | nil => exact ⟨[], rfl⟩
  | cons l ls => exact ⟨_, rfl⟩
theorem cumL_last : ∀ (ls : List Nat) (q : Rat), (cumL q ls).getLastD 0 = q + sumR ls + 4 * (U * sumR ls) + (ls.length : Rat) * tn
  | [], q => by
    show q = q + 0 + 4 * (U * 0) + ((0 : Nat) : Rat) * tn
    rw [show ((0 : Nat) : Rat) = 0 from rfl]
    grind
  | l :: ls, q => by
    obtain ⟨r, hr⟩ := cumL_cons (q + (rF l + 4 * (U * rF l) + tn)) ls
    have ih := cumL_last ls (q + (rF l + 4 * (U * rF l) + tn))
    rw [cumL]
    rw [hr] at ih ⊢
    rw [getLastD_cons2, ih, List.length_cons, i1', sumR]
    grind
theorem FrL.dom : ∀ {c : List Kn} {ls : List Nat} (q : Rat), FrL c ls → Dom (xs c) (ys c) (cumL q ls)
  | _, _, q, .one k => .one _ _ _
  | _, _, q, .cons (a := a) (b := b) (l := l) (ls := ls) _ g h => by
    have ih := h.dom (q + (rF l + 4 * (U * rF l) + tn))
    rw [cumL]
    obtain ⟨r, hr⟩ := cumL_cons (q + (rF l + 4 * (U * rF l) + tn)) ls
    rw [hr] at ih ⊢
    exact .cons (g.up.to rfl rfl (by grind)) ih
theorem FrL.chord : ∀ {c : List Kn} {ls : List Nat}, FrL c ls → Le ((xs c).getLastD 0 - (xs c).headD 0) ((ys c).getLastD 0 - (ys c).headD 0) (sumR ls + 4 * (U * sumR ls) + (ls.length : Rat) * tn)
  | _, _, .one k => Le.zero.to (by show (0 : Rat) = rF k.1 - rF k.1; grind) (by show (0 : Rat) = rF k.2.1 - rF k.2.1; grind) (by show (0 : Rat) ≤ 0 + 4 * (U * 0) + ((0 : Nat) : Rat) * tn; rw [show ((0 : Nat) : Rat) = 0 from rfl]; grind)
  | _, _, .cons (a := a) (b := b) (c := c) (l := l) (ls := ls) _ g h => by
    have ih := h.chord
    refine (g.up.add ih).to ?_ ?_ ?_
    · show _ = (rF a.1 :: rF b.1 :: xs c).getLastD 0 - rF a.1
      rw [getLastD_cons2]
      show _ + ((rF b.1 :: xs c).getLastD 0 - rF b.1) = _
      grind
    · show _ = (rF a.2.1 :: rF b.2.1 :: ys c).getLastD 0 - rF a.2.1
      rw [getLastD_cons2]
      show _ + ((rF b.2.1 :: ys c).getLastD 0 - rF b.2.1) = _
      grind
    · rw [List.length_cons, i1', sumR]
      grind
/-- A drawn curve's frame is not long. -/
theorem BR.frame : ∀ {c : List Kn} {i : Nat} {ls : List Nat}, BR i c → i + c.length ≤ 6 → FrL c ls → sumR ls ≤ (ls.length : Rat) * (437 / 100)
  | _, _, _, _, _, .one _ => by show (0 : Rat) ≤ ((0 : Nat) : Rat) * _; rw [show ((0 : Nat) : Rat) = 0 from rfl]; grind
  | _, i, _, .cons h (.cons h' hr), hl, .cons (l := l) (ls := ls) _ g hf => by
    have ih := BR.frame (.cons h' hr) (by simp only [List.length_cons] at hl ⊢; omega) hf
    simp only [List.length_cons] at hl
    have v := h.v (by omega)
    have v' := h'.v (by omega)
    have e := i1' i
    have a1 := v.x0
    have a2 := v.x1
    have b1 := v'.x0
    have b2 := v'.x1
    rw [e] at b1 b2
    have dy := v'.y.sub v.y
    have := g.lo (43668 / 10000) (by grind) (Le.of_ab (a := 7 / 4) (b := 4) ⟨by grind, by grind⟩ (dy.to rfl (by grind)) (by grind) (by grind))
    rw [List.length_cons, i1', sumR]
    grind
theorem BR.pb : ∀ {c : List Kn} {i : Nat}, BR i c → i + c.length ≤ 6 → ∀ k ∈ c, Pb k
  | _, _, .nil _, _, k, hk => by cases hk
  | _, i, .cons (k := k0) h hr, hl, k, hk => by
    simp only [List.length_cons] at hl
    rcases List.mem_cons.1 hk with rfl | hk
    · have v := h.v (by omega)
      have i0 : (0 : Rat) ≤ (i : Rat) := Rat.natCast_nonneg
      have i5 := i5 (i := i) (by omega)
      have a1 := v.x0
      have a2 := v.x1
      exact ⟨v.g1, v.g2, ⟨by grind, by grind⟩, v.y.to rfl (by grind)⟩
    · exact hr.pb (by omega) k hk
end Go.Proofs.Ytonbcbhnnflohaa
