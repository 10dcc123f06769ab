/-
  FnCurves: rows of knots near to exact ones.
-/
import Derived.Test.YtonbcbhnnflohaaZb
namespace Go.Proofs.Ytonbcbhnnflohaa
open Go.RowKit

/-- What k steps may cost. -/
def exN : Nat → Nat
  | 0 => 0
  | k + 1 => exN k + 360 * k + 2000
def Ew (k : Nat) : Rat := (10 * k : Nat) * U
def Ex_ (k : Nat) : Rat := (exN k : Nat) * U
theorem Ew_succ (k : Nat) : Ew (k + 1) = Ew k + 10 * U := by
  unfold Ew
  rw [show 10 * (k + 1) = 10 * k + 10 by omega, Rat.natCast_add]
  grind
theorem Ex_succ (k : Nat) : Ex_ (k + 1) = Ex_ k + 36 * Ew k + 2000 * U := by
  unfold Ex_ Ew
  rw [show exN (k + 1) = exN k + 36 * (10 * k) + 2000 by rw [exN]; omega, Rat.natCast_add, Rat.natCast_add, Rat.natCast_mul]
  grind
theorem E_lim : ∀ k, k < 13 → Ew k ≤ 1 / 1000 ∧ Ex_ k ≤ 1 / 300 := by decide +kernel
theorem Ew_nn (k : Nat) : 0 ≤ Ew k := by
  unfold Ew
  exact Rat.mul_nonneg Rat.natCast_nonneg (by grind)
theorem Ex_nn (k : Nat) : 0 ≤ Ex_ k := by
  unfold Ex_
  exact Rat.mul_nonneg Rat.natCast_nonneg (by grind)
abbrev KK (n : Nat) (k : Kn) (X Y W : Rat) : Prop := NK k X Y W (Ew n) (Ex_ n)
theorem NK.mono {k : Kn} {X Y W e' e f' f : Rat} (h : NK k X Y W e' e) (h1 : e' ≤ f') (h2 : e ≤ f) : NK k X Y W f' f := by
  have hm := Rat.mul_nonneg (a := f - e) (b := W) (by grind) (by have := h.lo; grind)
  exact { h with w := h.w.to rfl h1, x := h.x.to rfl (by grind), y := h.y.to rfl (by grind) }
theorem KK.step {n : Nat} {k : Kn} {X Y W : Rat} (h : KK n k X Y W) : KK (n + 1) k X Y W := by
  have h1 := Ew_nn n
  have h2 := Ex_nn n
  refine h.mono (by rw [Ew_succ]; grind) (by rw [Ex_succ]; grind)
theorem KK.steps {n : Nat} {k : Kn} {X Y W : Rat} (h : KK n k X Y W) : ∀ m, KK (n + m) k X Y W
  | 0 => h
  | m + 1 => (h.steps m).step
theorem KK.blend {n : Nat} {a b : Kn} {t : Nat} {XA YA WA XB YB WB s : Rat} (ha : KK n a XA YA WA) (hb : KK n b XB YB WB) (ht : TM t s 0) (hn : n < 13) :
    ∃ r, blendC a b t = some r ∧ KK (n + 1) r (XA * (1 - s) + XB * s) (YA * (1 - s) + YB * s) (WA * (1 - s) + WB * s) := by
  obtain ⟨l1, l2⟩ := E_lim n hn
  obtain ⟨r, hr, h⟩ := blend_near ha hb ht (by grind) (by grind) l1
  exact ⟨r, hr, h.mono (by rw [Ew_succ]; grind) (by rw [Ex_succ]; grind)⟩
theorem KK.blend4 {a b : Kn} {t : Nat} {XA YA WA XB YB WB s : Rat} (ha : KK 0 a XA YA WA) (hb : KK 0 b XB YB WB) (ht : TM t s (4 * U)) :
    ∃ r, blendC a b t = some r ∧ KK 4 r (XA * (1 - s) + XB * s) (YA * (1 - s) + YB * s) (WA * (1 - s) + WB * s) := by
  obtain ⟨l1, l2⟩ := E_lim 0 (by omega)
  obtain ⟨r, hr, h⟩ := blend_near ha hb ht (by grind) (by grind) l1
  exact ⟨r, hr, h.mono (by decide +kernel) (by decide +kernel)⟩
/-- Knots near to exact ones, one by one. -/
inductive NL (n : Nat) : List Kn → List Rat → List Rat → List Rat → Prop
  | nil : NL n [] [] [] []
  | cons {k c x X y Y w W} : KK n k x y w → NL n c X Y W → NL n (k :: c) (x :: X) (y :: Y) (w :: W)
theorem NL.len {n c X Y W} (h : NL n c X Y W) : X.length = c.length ∧ Y.length = c.length ∧ W.length = c.length := by
  induction h with
  | nil => exact ⟨rfl, rfl, rfl⟩
  | cons _ _ ih => simp [ih]
theorem NL.step {n c X Y W} (h : NL n c X Y W) : NL (n + 1) c X Y W := by
  induction h with
  | nil => exact .nil
  | cons h _ ih => exact .cons h.step ih
theorem NL.steps {n c X Y W} (h : NL n c X Y W) : ∀ m, NL (n + m) c X Y W
  | 0 => h
  | m + 1 => (h.steps m).step
theorem NL.append {n c X Y W c' X' Y' W'} (h : NL n c X Y W) (h' : NL n c' X' Y' W') : NL n (c ++ c') (X ++ X') (Y ++ Y') (W ++ W') := by
  induction h with
  | nil => exact h'
  | cons h _ ih => exact .cons h ih
theorem NL.rev {n c X Y W} (h : NL n c X Y W) : NL n c.reverse X.reverse Y.reverse W.reverse := by
  induction h with
  | nil => exact .nil
  | cons h _ ih =>
    simp only [List.reverse_cons]
    exact ih.append (.cons h .nil)
theorem NL.all {n c X Y W} (h : NL n c X Y W) : ∀ k ∈ c, ∃ x y w, KK n k x y w := by
  induction h with
  | nil => intro k hk; cases hk
  | cons h _ ih =>
    intro k hk
    rcases List.mem_cons.1 hk with rfl | hk
    · exact ⟨_, _, _, h⟩
    · exact ih k hk
/-! ## the exact rows -/
def nextS : List Rat → Rat → List Rat
  | a :: b :: r, s => (a * (1 - s) + b * s) :: nextS (b :: r) s
  | _, _ => []
def sAt : Nat → List Rat → Rat → Rat
  | 0, xs, _ => xs.headD 0
  | n + 1, xs, s => sAt n (nextS xs s) s
def sFst : Nat → List Rat → Rat → List Rat
  | 0, xs, _ => [xs.headD 0]
  | n + 1, xs, s => xs.headD 0 :: sFst n (nextS xs s) s
def sLst : Nat → List Rat → Rat → List Rat
  | 0, xs, _ => [xs.headD 0]
  | n + 1, xs, s => xs.getLastD 0 :: sLst n (nextS xs s) s
def sRaiseM (m : Nat) : Nat → List Rat → List Rat
  | i, a :: b :: r => (b * (1 - (i : Rat) / (m : Rat)) + a * ((i : Rat) / (m : Rat))) :: sRaiseM m (i + 1) (b :: r)
  | _, _ => []
def sRaise (xs : List Rat) : List Rat := xs.headD 0 :: (sRaiseM xs.length 1 xs ++ [xs.getLastD 0])
theorem nextS_len (s : Rat) : ∀ xs : List Rat, (nextS xs s).length = xs.length - 1
  | [] => rfl
  | [a] => rfl
  | a :: b :: r => by
    have := nextS_len s (b :: r)
    simp only [nextS, List.length_cons] at this ⊢
    omega
theorem NL.next {n c X Y W} {t : Nat} {s : Rat} (h : NL n c X Y W) (ht : TM t s 0) (hn : n < 13) : ∃ d, nextC c t = some d ∧ NL (n + 1) d (nextS X s) (nextS Y s) (nextS W s) := by
  induction h with
  | nil => exact ⟨[], rfl, .nil⟩
  | cons h1 h2 ih =>
    cases h2 with
    | nil => exact ⟨[], rfl, .nil⟩
    | cons h3 h4 =>
      obtain ⟨d, hd, hN⟩ := ih
      obtain ⟨r, hr, hK⟩ := h1.blend h3 ht hn
      refine ⟨r :: d, ?_, .cons hK hN⟩
      unfold nextC
      rw [hr, Option.bind_some, hd]
      rfl
theorem NL.head {n c X Y W} (h : NL n c X Y W) (h0 : 0 < c.length) : ∃ k, c.head? = some k ∧ KK n k (X.headD 0) (Y.headD 0) (W.headD 0) := by
  cases h with
  | nil => simp at h0
  | cons h1 _ => exact ⟨_, rfl, h1⟩
theorem getLastD_cons2 (a b : Rat) (l : List Rat) : (a :: b :: l).getLastD 0 = (b :: l).getLastD 0 := by simp
theorem NL.last {n c X Y W} (h : NL n c X Y W) (h0 : 0 < c.length) : ∃ k, c.getLast? = some k ∧ KK n k (X.getLastD 0) (Y.getLastD 0) (W.getLastD 0) := by
  induction h with
  | nil => simp at h0
  | cons h1 h2 ih =>
    cases h2 with
    | nil => exact ⟨_, rfl, h1⟩
    | cons h3 h4 =>
      obtain ⟨k, hk, hK⟩ := ih (by simp)
      refine ⟨k, by rw [List.getLast?_cons_cons]; exact hk, ?_⟩
      rw [getLastD_cons2, getLastD_cons2, getLastD_cons2]
      exact hK
theorem NL.at_ {t : Nat} {s : Rat} (ht : TM t s 0) : ∀ (m : Nat) {n : Nat} {c : List Kn} {X Y W : List Rat}, NL n c X Y W → c.length = m + 1 → n + m < 13 → ∃ k, atK m c t = some k ∧ KK (n + m) k (sAt m X s) (sAt m Y s) (sAt m W s)
  | 0, n, c, X, Y, W, h, hl, hn => h.head (by omega)
  | m + 1, n, c, X, Y, W, h, hl, hn => by
    obtain ⟨d, hd, hN⟩ := h.next ht (by omega)
    obtain ⟨hdl, _⟩ := nextC_get t c d hd
    obtain ⟨k, hk, hK⟩ := NL.at_ ht m hN (by omega) (by omega)
    refine ⟨k, by unfold atK; rw [hd]; exact hk, ?_⟩
    rw [show n + (m + 1) = n + 1 + m by omega]
    exact hK
theorem NL.cut {t : Nat} {s : Rat} (ht : TM t s 0) : ∀ (m : Nat) {n : Nat} {c : List Kn} {X Y W : List Rat}, NL n c X Y W → c.length = m + 1 → n + m < 13 → ∃ l r, cutC m c t = some (l, r) ∧ l.length = m + 1 ∧ r.length = m + 1 ∧ NL (n + m) l (sFst m X s) (sFst m Y s) (sFst m W s) ∧ NL (n + m) r (sLst m X s) (sLst m Y s) (sLst m W s)
  | 0, n, c, X, Y, W, h, hl, hn => by
    obtain ⟨k, hk, hK⟩ := h.head (by omega)
    exact ⟨[k], [k], by unfold cutC; rw [hk]; rfl, rfl, rfl, .cons hK .nil, .cons hK .nil⟩
  | m + 1, n, c, X, Y, W, h, hl, hn => by
    obtain ⟨k, hk, hK⟩ := h.head (by omega)
    obtain ⟨q, hq, hQ⟩ := h.last (by omega)
    obtain ⟨d, hd, hN⟩ := h.next ht (by omega)
    obtain ⟨hdl, _⟩ := nextC_get t c d hd
    obtain ⟨l, r, hc, h1, h2, hL, hR⟩ := NL.cut ht m hN (by omega) (by omega)
    rw [show n + 1 + m = n + (m + 1) by omega] at hL hR
    refine ⟨k :: l, q :: r, ?_, by simp [h1], by simp [h2], .cons (hK.steps _) hL, .cons (hQ.steps _) hR⟩
    unfold cutC
    rw [hk, Option.bind_some, hq, Option.bind_some, hd, Option.bind_some, hc]
    rfl
theorem NL.raiseM {m : Nat} (hs : ∀ i, 1 ≤ i → i < m → ∃ t, shareW (i : Nat) (m : Nat) = some t ∧ TM t ((i : Rat) / (m : Rat)) (4 * U)) {c X Y W} (h : NL 0 c X Y W) : ∀ i, 1 ≤ i → i + c.length ≤ m + 1 → ∃ l, raiseM m i c = some l ∧ NL 4 l (sRaiseM m i X) (sRaiseM m i Y) (sRaiseM m i W) := by
  induction h with
  | nil => intro i _ _; exact ⟨[], rfl, .nil⟩
  | cons h1 h2 ih =>
    intro i hi hl
    cases h2 with
    | nil => exact ⟨[], rfl, .nil⟩
    | cons h3 h4 =>
      simp only [List.length_cons] at hl
      obtain ⟨d, hd, hN⟩ := ih (i + 1) (by omega) (by simp only [List.length_cons]; omega)
      obtain ⟨t, ht, hT⟩ := hs i hi (by omega)
      obtain ⟨r, hr, hK⟩ := h3.blend4 h1 hT
      refine ⟨r :: d, ?_, .cons hK hN⟩
      unfold Go.Proofs.Ytonbcbhnnflohaa.raiseM
      rw [ht, Option.bind_some, hr, Option.bind_some, hd]
      rfl
theorem NL.raise {c X Y W} (hs : ∀ i, 1 ≤ i → i < c.length → ∃ t, shareW (i : Nat) (c.length : Nat) = some t ∧ TM t ((i : Rat) / (c.length : Rat)) (4 * U)) (h : NL 0 c X Y W) (h0 : 0 < c.length) : ∃ d, raiseC c = some d ∧ d.length = c.length + 1 ∧ NL 4 d (sRaise X) (sRaise Y) (sRaise W) := by
  obtain ⟨k, hk, hK⟩ := h.head h0
  obtain ⟨q, hq, hQ⟩ := h.last h0
  obtain ⟨l, hl, hL⟩ := h.raiseM hs 1 (by omega) (by omega)
  obtain ⟨hll, _⟩ := raiseM_get _ _ _ _ hl
  obtain ⟨e1, e2, e3⟩ := h.len
  refine ⟨k :: (l ++ [q]), ?_, by simp; omega, ?_⟩
  · unfold raiseC
    rw [hk, Option.bind_some, hq, Option.bind_some, hl]
    rfl
  · unfold sRaise
    rw [e1, e2, e3]
    exact .cons (hK.steps 4) (hL.append (.cons (hQ.steps 4) .nil))
/-! ## curves that are good -/
theorem gd_of {x : Nat} (h : G x) (hi : Is .f32 x (some x)) (hb : Ab (rF x) 5) : Gd x := by
  have h1 := fin_finC (c := some x) h
  obtain ⟨z, hz, _, _⟩ := s32 (M := 10) h h ((hb.sub hb).to rfl (by grind)) (by grind) (by grind)
  rw [hz] at h1
  exact ⟨hi, z, hz, h1⟩
theorem KK.gd {n : Nat} {k : Kn} {X Y W : Rat} (h : KK n k X Y W) (hn : n < 13) : Gd k.1 ∧ Gd k.2.1 := by
  obtain ⟨l1, l2⟩ := E_lim n hn
  exact ⟨gd_of h.g1 h.i1 ((four_of h.lo h.ax h.x (by grind)).to rfl (by grind)), gd_of h.g2 h.i2 ((four_of h.lo h.ay h.y (by grind)).to rfl (by grind))⟩
theorem cv0 : cv .f32 (some 0) = 0 := by decide +kernel
theorem G0 : G 0 := by show rung FloatKind.f32.format 0 < _; decide +kernel
theorem KK.wt {n : Nat} {k : Kn} {X Y W : Rat} (h : KK n k X Y W) (hn : n < 13) : Wt k.2.2 := by
  obtain ⟨l1, l2⟩ := E_lim n hn
  obtain ⟨a1, a2⟩ := h.w
  have lo := h.lo
  have hi := h.hi
  refine ⟨gd_of h.g3 h.i3 ⟨by grind, by grind⟩, ?_⟩
  have hg0 : Fin .f32 (some 0) := G0
  have hg3 : Fin .f32 (some k.2.2) := h.g3
  rw [fgt_iff hg3 hg0, cv0]
  refine decide_eq_true ?_
  show 0 < rF k.2.2
  grind
theorem NL.gc {n c X Y W} (h : NL n c X Y W) (hn : n < 13) (h2 : 2 ≤ c.length) (h8 : c.length ≤ 8) : GC c := by
  refine ⟨h2, h8, ?_, ?_⟩
  · intro k hk
    obtain ⟨x, y, w, hK⟩ := h.all k hk
    exact hK.gd hn
  · intro k hk
    obtain ⟨x, y, w, hK⟩ := h.all k hk
    exact hK.wt hn
theorem TM.tm {t : Nat} {s : Rat} (h : TM t s 0) (hi : Is .f32 t (some t)) : Tm t := by
  have h0 := h.h0
  have h1 := h.h1
  obtain ⟨a1, a2⟩ := h.tt
  have hg0 : Fin .f32 (some 0) := G0
  have hg1 : Fin .f32 (some 1065353216) := G1
  have hg : Fin .f32 (some t) := h.g
  refine ⟨hi, ?_, ?_⟩
  · rw [fge_iff hg hg0, cv0]
    refine decide_eq_true ?_
    show 0 ≤ rF t
    grind
  · rw [fle_iff hg hg1]
    refine decide_eq_true ?_
    show rF t ≤ rF 1065353216
    rw [one3]
    grind
end Go.Proofs.Ytonbcbhnnflohaa
