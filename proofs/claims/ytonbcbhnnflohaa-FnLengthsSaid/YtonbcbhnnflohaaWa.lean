/-
  FnNearest: the nearest place exists, and is no farther than others.
-/
import Derived.Test.YtonbcbhnnflohaaPh
import Derived.Deep.Slices
namespace Go.Proofs.Ytonbcbhnnflohaa
open Go.RowKit

/-! ## what is drawn -/
theorem qvB_table : ∀ x : Nat, x < 64 → rung FloatKind.f32.format (qv ((x : Int) - 16)) < FloatKind.f32.format.infRung ∧ rF (qv ((x : Int) - 16)) = (((x : Int) - 16 : Int) : Rat) / 4 := by decide +kernel
theorem qvB_ok {i : Int} (h1 : -16 ≤ i) (h2 : i ≤ 47) : G (qv i) ∧ rF (qv i) = (i : Rat) / 4 ∧ Is .f32 (qv i) (some (qv i)) := by
  have h := qvB_table (i + 16).toNat (by omega)
  rw [show (((i + 16).toNat : Nat) : Int) - 16 = i by omega] at h
  exact ⟨h.1, h.2, fop_is (qB_ok h1 h2)⟩
theorem i32_1' : Is .f32 1065353216 (some 1065353216) := Is_lit (by decide +kernel)
/-! ## distances -/
/-! ## the search -/
theorem two2 : rF 1073741824 = 2 := by decide +kernel
theorem G2' : G 1073741824 := by show rung FloatKind.f32.format 1073741824 < _; decide +kernel
end Go.Proofs.Ytonbcbhnnflohaa

namespace Go.Proofs.Ytonbcbhnnflohaa
open Go.RowKit

/-- A vector is no longer than d. -/
structure Le (x y d : Rat) : Prop where
  nn : 0 ≤ d
  sq : x * x + y * y ≤ d * d
theorem rsq_nn (x : Rat) : 0 ≤ x * x := by
  rcases (Rat.le_total : 0 ≤ x ∨ x ≤ 0) with h | h
  · exact Rat.mul_nonneg h h
  · have := Rat.mul_nonneg (a := -x) (b := -x) (by grind) (by grind)
    grind
theorem cauchy {x y u v d e : Rat} (hd : 0 ≤ d) (he : 0 ≤ e) (h : x * x + y * y ≤ d * d) (h' : u * u + v * v ≤ e * e) : x * u + y * v ≤ d * e := by
  have n1 := Rat.mul_nonneg hd he
  refine sq_le n1 ?_
  have a1 := rsq_nn x
  have a2 := rsq_nn y
  have e1 := Rat.mul_nonneg (a := d * d - (x * x + y * y)) (b := e * e) (by grind) (rsq_nn e)
  have e2 := Rat.mul_nonneg (a := x * x + y * y) (b := e * e - (u * u + v * v)) (by grind) (by grind)
  have e3 := rsq_nn (x * v - y * u)
  grind
theorem Le.add {x y u v d e : Rat} (h : Le x y d) (h' : Le u v e) : Le (x + u) (y + v) (d + e) := by
  have h1 := h.nn
  have h2 := h'.nn
  have h3 := h.sq
  have h4 := h'.sq
  have c := cauchy h1 h2 h3 h4
  exact ⟨by grind, by grind⟩
theorem Le.smul {x y d c : Rat} (hc : 0 ≤ c) (h : Le x y d) : Le (c * x) (c * y) (c * d) := by
  refine ⟨Rat.mul_nonneg hc h.nn, ?_⟩
  have := Rat.mul_nonneg (a := c * c) (b := d * d - (x * x + y * y)) (rsq_nn c) (by have := h.sq; grind)
  grind
theorem Le.neg {x y d : Rat} (h : Le x y d) : Le (-x) (-y) d := ⟨h.nn, by have := h.sq; grind⟩
theorem Le.to {x y d x' y' d' : Rat} (h : Le x y d) (hx : x = x') (hy : y = y') (hd : d ≤ d') : Le x' y' d' := by
  subst hx
  subst hy
  have h1 := h.nn
  have h2 := h.sq
  have e1 := Rat.mul_nonneg (a := d' - d) (b := d' + d) (by grind) (by grind)
  exact ⟨by grind, by grind⟩
theorem Le.zero : Le 0 0 0 := ⟨by grind, by grind⟩
theorem Le.of_ab {x y a b d : Rat} (hx : Ab x a) (hy : Ab y b) (hd : 0 ≤ d) (h : a * a + b * b ≤ d * d) : Le x y d := by
  refine ⟨hd, ?_⟩
  obtain ⟨x1, x2⟩ := hx
  obtain ⟨y1, y2⟩ := hy
  have e1 := Rat.mul_nonneg (a := a - x) (b := a + x) (by grind) (by grind)
  have e2 := Rat.mul_nonneg (a := b - y) (b := b + y) (by grind) (by grind)
  grind
theorem Le.ab {x y d : Rat} (h : Le x y d) : Ab x d ∧ Ab y d := by
  have h1 := h.nn
  have h2 := h.sq
  have s1 := rsq_nn x
  have s2 := rsq_nn y
  refine ⟨⟨sq_le h1 (by grind), ?_⟩, ⟨sq_le h1 (by grind), ?_⟩⟩
  · have := sq_le (a := -x) h1 (by grind)
    grind
  · have := sq_le (a := -y) h1 (by grind)
    grind
/-! ## rows -/
inductive Dom : List Rat → List Rat → List Rat → Prop
  | nil : Dom [] [] []
  | one (x y q) : Dom [x] [y] [q]
  | cons {x x' y y' q q' X Y Q} : Le (x' - x) (y' - y) (q' - q) → Dom (x' :: X) (y' :: Y) (q' :: Q) → Dom (x :: x' :: X) (y :: y' :: Y) (q :: q' :: Q)
theorem Dom.next {s : Rat} (h0 : 0 ≤ s) (h1 : s ≤ 1) : ∀ {X Y Q : List Rat}, Dom X Y Q → Dom (nextS X s) (nextS Y s) (nextS Q s)
  | _, _, _, .nil => .nil
  | _, _, _, .one _ _ _ => .nil
  | _, _, _, .cons h hd => by
    cases hd with
    | one => exact .one _ _ _
    | cons h' hd' =>
      have ih := Dom.next h0 h1 (.cons h' hd')
      refine .cons ?_ ih
      exact ((h.smul (c := 1 - s) (by grind)).add (h'.smul h0)).to (by grind) (by grind) (by grind)
inductive El : List Rat → List Rat → List Rat → List Rat → List Rat → List Rat → Prop
  | nil : El [] [] [] [] [] []
  | cons {x y q x' y' q' X Y Q X' Y' Q'} : Le (x' - x) (y' - y) (q' - q) → El X Y Q X' Y' Q' → El (x :: X) (y :: Y) (q :: Q) (x' :: X') (y' :: Y') (q' :: Q')
theorem Dom.self : ∀ {X Y Q : List Rat}, Dom X Y Q → El X Y Q X Y Q
  | _, _, _, .nil => .nil
  | _, _, _, .one _ _ _ => .cons (Le.zero.to (by grind) (by grind) (by grind)) .nil
  | _, _, _, .cons _ hd => .cons (Le.zero.to (by grind) (by grind) (by grind)) hd.self
theorem El.next {s s' : Rat} (h1 : 0 ≤ s') (h2 : s' ≤ 1) (h : s ≤ s') : ∀ {X Y Q X' Y' Q' : List Rat}, El X Y Q X' Y' Q' → Dom X Y Q → El (nextS X s) (nextS Y s) (nextS Q s) (nextS X' s') (nextS Y' s') (nextS Q' s')
  | _, _, _, _, _, _, .nil, _ => .nil
  | _, _, _, _, _, _, .cons e .nil, _ => .nil
  | _, _, _, _, _, _, .cons e (.cons e' he), .cons hd hd' => by
    have ih := El.next h1 h2 h (.cons e' he) hd'
    refine .cons ?_ ih
    exact (((e.smul (c := 1 - s') (by grind)).add (e'.smul h1)).add (hd.smul (c := s' - s) (by grind))).to (by grind) (by grind) (by grind)
theorem El.head : ∀ {X Y Q X' Y' Q' : List Rat}, El X Y Q X' Y' Q' → Le (X'.headD 0 - X.headD 0) (Y'.headD 0 - Y.headD 0) (Q'.headD 0 - Q.headD 0)
  | _, _, _, _, _, _, .nil => Le.zero.to (by show (0 : Rat) = 0 - 0; grind) (by show (0 : Rat) = 0 - 0; grind) (by show (0 : Rat) ≤ 0 - 0; grind)
  | _, _, _, _, _, _, .cons e _ => e
theorem El.at_ {s s' : Rat} (h0 : 0 ≤ s) (h1 : s ≤ 1) (h2 : s' ≤ 1) (h : s ≤ s') : ∀ (m : Nat) {X Y Q X' Y' Q' : List Rat}, El X Y Q X' Y' Q' → Dom X Y Q → Le (sAt m X' s' - sAt m X s) (sAt m Y' s' - sAt m Y s) (sAt m Q' s' - sAt m Q s)
  | 0, _, _, _, _, _, _, he, _ => he.head
  | m + 1, _, _, _, _, _, _, he, hd => El.at_ h0 h1 h2 h m (he.next (by grind) h2 h hd) (hd.next h0 h1)
/-- A curve's chord is no longer than the chord of the curve of its frame's lengths. -/
theorem Dom.chord {X Y Q : List Rat} (hd : Dom X Y Q) (m : Nat) {s s' : Rat} (h0 : 0 ≤ s) (h : s ≤ s') (h1 : s' ≤ 1) : Le (sAt m X s' - sAt m X s) (sAt m Y s' - sAt m Y s) (sAt m Q s' - sAt m Q s) :=
  El.at_ h0 (by grind) h1 h m hd.self hd
/-! ## rows that rise -/
inductive Up (a : Rat) : List Rat → Prop
  | nil : Up a []
  | one (x) : Up a [x]
  | cons {x x' X} : x + a ≤ x' → Up a (x' :: X) → Up a (x :: x' :: X)
theorem Up.next {a s : Rat} (h0 : 0 ≤ s) (h1 : s ≤ 1) : ∀ {X : List Rat}, Up a X → Up a (nextS X s)
  | _, .nil => .nil
  | _, .one _ => .nil
  | _, .cons (x := z) (x' := x) h hd => by
    cases hd with
    | one => exact .one _
    | @cons _ x' X h' hd' =>
      have ih := Up.next h0 h1 (.cons h' hd')
      refine .cons ?_ ih
      have e1 := Rat.mul_nonneg (a := x - z - a) (b := 1 - s) (by grind) (by grind)
      have e2 := Rat.mul_nonneg (a := x' - x - a) (b := s) (by grind) h0
      grind
inductive Ov (b : Rat) : List Rat → List Rat → Prop
  | nil : Ov b [] []
  | cons {x x' X X'} : x + b ≤ x' → Ov b X X' → Ov b (x :: X) (x' :: X')
theorem Ov.first {a s s' : Rat} (h : s ≤ s') : ∀ {X : List Rat}, Up a X → Ov ((s' - s) * a) (nextS X s) (nextS X s')
  | _, .nil => .nil
  | _, .one _ => .nil
  | _, .cons (x := x) (x' := x') h' hd => by
    refine .cons ?_ (Ov.first h hd)
    have e1 := Rat.mul_nonneg (a := s' - s) (b := x' - x - a) (by grind) (by grind)
    grind
theorem Ov.next {a b s s' : Rat} (ha : 0 ≤ a) (h1 : 0 ≤ s') (h2 : s' ≤ 1) (h : s ≤ s') : ∀ {X X' : List Rat}, Ov b X X' → Up a X → Ov b (nextS X s) (nextS X' s')
  | _, _, .nil, _ => .nil
  | _, _, .cons _ .nil, _ => .nil
  | _, _, .cons (x := x) (x' := x') e (.cons (x := z) (x' := z') e' he), .cons hu hu' => by
    refine .cons ?_ (Ov.next ha h1 h2 h (.cons e' he) hu')
    have e1 := Rat.mul_nonneg (a := x' - x - b) (b := 1 - s') (by grind) (by grind)
    have e2 := Rat.mul_nonneg (a := z' - z - b) (b := s') (by grind) h1
    have e3 := Rat.mul_nonneg (a := s' - s) (b := z - x) (by grind) (by grind)
    grind
theorem Ov.at_ {a b s s' : Rat} (ha : 0 ≤ a) (h0 : 0 ≤ s) (h1 : s ≤ 1) (h2 : s' ≤ 1) (h : s ≤ s') : ∀ (m : Nat) {X X' : List Rat}, X.length = m + 1 → Ov b X X' → Up a X → sAt m X s + b ≤ sAt m X' s'
  | 0, _, _, hl, .nil, _ => by simp at hl
  | 0, _, _, _, .cons e _, _ => e
  | m + 1, X, _, hl, ho, hu => Ov.at_ ha h0 h1 h2 h m (by rw [nextS_len, hl]; rfl) (ho.next ha (by grind) h2 h hu) (hu.next h0 h1)
/-- What rises by a from point to point rises at least so much in a unit of time. -/
theorem Up.rise {a s s' : Rat} (ha : 0 ≤ a) (h0 : 0 ≤ s) (h : s ≤ s') (h1 : s' ≤ 1) (m : Nat) {X : List Rat} (hl : X.length = m + 2) (hu : Up a X) : sAt (m + 1) X s + (s' - s) * a ≤ sAt (m + 1) X s' :=
  Ov.at_ ha h0 (by grind) h1 h m (by rw [nextS_len, hl]; rfl) (Ov.first h hu) (hu.next h0 (by grind))
end Go.Proofs.Ytonbcbhnnflohaa

namespace Go.Proofs.Ytonbcbhnnflohaa
open Go.RowKit

/-- How far points are away from those before. -/
structure GapsOk (ks : List Kn) (ls : List Nat) : Prop where
  len : ls.length + 1 = ks.length
  at_ : ∀ i (_ : i < ls.length) (_ : i < ks.length) (_ : i + 1 < ks.length), ∃ r, minusW (pt ks[i + 1]) (pt ks[i]) = some r ∧ longW r.1 r.2 = some ls[i]
/-- Sums from left to right. -/
structure SumsOk (ls : List Nat) (s : Nat → Nat) : Prop where
  h0 : s 0 = 0
  at_ : ∀ i (_ : i < ls.length), fop .add .f32 (some (s i)) (some ls[i]) = some (s (i + 1))
theorem RdV.get1 {w : World} {base : Option Addr} {vs : List Value} {i : Nat} (h : RdV w base vs) (hi : i < vs.length) : ∃ blk off arr t fr, base = some ⟨blk, off, none⟩ ∧ w.heap[blk]? = some (.cells arr t fr) ∧ ∀ (k : Nat) (hk : k < vs.length) (j : Int), j = (k : Int) → arr[off + j.toNat * 1]? = some vs[k] := by
  rcases h with rfl | ⟨blk, off, arr, t, fr, hb, hw, h3⟩
  · simp at hi
  · refine ⟨blk, off, arr, t, fr, hb, hw, ?_⟩
    rintro k hk j rfl
    have := h3 k _ (List.getElem?_eq_getElem hk)
    simpa using this
attribute [local irreducible] Code.wp wpList Oper.wp Calls bodyPost Exit.then Exit.inBlock fop fltB fgtB feqB fleB floatOfInt floatToFloatBits longW

theorem addUp_ok (ls : List Nat) (s : Nat → Nat) (h : SumsOk ls s) (hl : ls.length ≤ 1000000) (base : Option Addr) (cap : Nat) (w : World) (hr : RdV w base (ls.map vF)) : CV Try.prog 84 [.slice base ls.length cap] w (.float .f32 (s ls.length)) := by
  have h0 := h.h0
  refine enter Try.func84 rfl rfl rfl rfl ?_
  intro a st
  (repeat' (first | refine c_seq ?_  | refine c_region ?_  | refine l_do ?_  | refine l_nil ?_  | refine x_then ?_  | refine x_thenE ?_  | refine x_blkN ?_  | refine x_blkE ?_  | refine wp_ret ?_  | refine wp_skip ?_  | refine wp_block ?_  | refine wp_exit ?_  | refine c_condT st rfl ?_  | refine c_condF st rfl ?_  | ((first | refine o_move st rfl rfl ?_  | refine o_assign st rfl rfl ?_  | refine o_loadS st rfl (by repeat constructor) rfl rfl ?_  | refine o_len st rfl rfl ?_  | refine o_add64 st rfl rfl rfl (by omega) (by omega) ?_); clear st; intro _ st)  | (refine o_lss st rfl rfl rfl ?_ ?_ <;> clear st <;> intro _ _ st <;> (try (exfalso; omega)))))
  refine wp_loop_ghost (fun z a w' => ∃ i : Nat, i ≤ ls.length ∧ z = ls.length - i ∧ St w Try.f84.ntmps a w' [(3, .float .f32 (s i)), (6, .slice base ls.length cap), (7, .int .i64 (ls.length : Nat)), (8, .int .i64 (i : Nat))] []) ls.length ⟨0, by omega, by omega, by rw [h0]; exact (st.fit (by repeat (first | exact trivial  | refine And.intro rfl ?_))).subL (by repeat (first | exact List.Sublist.refl _  | apply List.Sublist.cons_cons  | apply List.Sublist.cons  | exact List.nil_sublist _))⟩ ?_
  clear st
  rintro z a w' ⟨i, hi, rfl, st⟩
  by_cases hlt : i < ls.length
  · have hq := h.at_ i hlt
    obtain ⟨blk, off, arr, t, fr, rfl, hw, g⟩ := hr.get1 (i := i) (by rw [List.length_map]; omega)
    have g1 := g i (by rw [List.length_map]; omega) _ rfl
    rw [List.getElem_map] at g1
    have st := st.addOld hw
    (repeat' (first | (refine o_indexAddr st rfl rfl (by omega) (by omega) rfl ?_; clear st; intro _ st)  | (refine o_loadS st rfl (by repeat constructor) g1 rfl ?_; clear st; intro _ st)  | (refine o_fopK st rfl rfl hq rfl ?_; clear st; intro _ st)  | refine c_seq ?_  | refine c_region ?_  | refine l_do ?_  | refine l_nil ?_  | refine x_then ?_  | refine x_thenE ?_  | refine x_blkN ?_  | refine x_blkE ?_  | refine wp_ret ?_  | refine wp_skip ?_  | refine wp_block ?_  | refine wp_exit ?_  | refine c_condT st rfl ?_  | refine c_condF st rfl ?_  | ((first | refine o_move st rfl rfl ?_  | refine o_assign st rfl rfl ?_  | refine o_loadS st rfl (by repeat constructor) rfl rfl ?_  | refine o_len st rfl rfl ?_  | refine o_add64 st rfl rfl rfl (by omega) (by omega) ?_); clear st; intro _ st)  | (refine o_lss st rfl rfl rfl ?_ ?_ <;> clear st <;> intro _ _ st <;> (try (exfalso; omega)))))
    exact ⟨ls.length - (i + 1), by omega, i + 1, by omega, rfl, (st.fit (by repeat (first | exact trivial  | refine And.intro rfl ?_))).subL (by repeat (first | exact List.Sublist.refl _  | apply List.Sublist.cons_cons  | apply List.Sublist.cons  | exact List.nil_sublist _))⟩
  · obtain rfl : i = ls.length := by omega
    (repeat' (first | refine c_seq ?_  | refine c_region ?_  | refine l_do ?_  | refine l_nil ?_  | refine x_then ?_  | refine x_thenE ?_  | refine x_blkN ?_  | refine x_blkE ?_  | refine wp_ret ?_  | refine wp_skip ?_  | refine wp_block ?_  | refine wp_exit ?_  | refine c_condT st rfl ?_  | refine c_condF st rfl ?_  | ((first | refine o_move st rfl rfl ?_  | refine o_assign st rfl rfl ?_  | refine o_loadS st rfl (by repeat constructor) rfl rfl ?_  | refine o_len st rfl rfl ?_  | refine o_add64 st rfl rfl rfl (by omega) (by omega) ?_); clear st; intro _ st)  | (refine o_lss st rfl rfl rfl ?_ ?_ <;> clear st <;> intro _ _ st <;> (try (exfalso; omega)))))
    refine post1 st Try.results84 (rd_t st rfl) ?_
    exact ⟨rfl, st.ex0⟩
theorem ifNumber_ok (x : Nat) (h : Gd x) (w : World) : CV Try.prog 65 [.float .f32 x] w (.tuple #[.float .f32 x, .bool true]) := by
  have c1 := fun w => IsFinite_ok x h w
  refine enter Try.func65 rfl rfl rfl rfl ?_
  intro y st
  (repeat' (first | (refine o_callV st rfl (c1 _) rfl ?_; clear st; intro _ _ st)  | refine c_seq ?_  | refine c_region ?_  | refine l_do ?_  | refine l_nil ?_  | refine x_then ?_  | refine wp_ret ?_  | refine wp_skip ?_  | refine c_condF st rfl ?_  | ((first | refine o_move st rfl rfl ?_  | refine o_assign st rfl rfl ?_  | refine o_notT st rfl rfl ?_ ); clear st; intro _ st)))
  refine post2 st Try.results65 (rd_t st rfl) (rd_t st rfl) ?_
  exact ⟨rfl, st.ex0⟩
set_option maxHeartbeats 8000000 in
theorem longsOf_ok (ks : List Kn) (ls : List Nat) (h : GapsOk ks ls) (hl : ks.length ≤ 1000) (base : Option Addr) (cap : Nat) (w : World) (hr : RdV w base (ks.map vPt)) :
    CM1 Try.prog 85 [.slice base ks.length cap] w fun v b o => ∃ cap pad, v = .slice (some ⟨b, 0, none⟩) ls.length cap ∧ o = oV 29 (ls.map vF) pad := by
  have hlen := h.len
  obtain ⟨blk, off, arr, t, fr, rfl, hw, g⟩ := hr.get1 (i := 0) (by rw [List.length_map]; omega)
  refine enter Try.func85 rfl rfl rfl rfl ?_
  intro a st
  have st := st.addOld hw
  (repeat' (first | (refine o_buildSlice0 st rfl ?_; clear st; intro blk0 _ _ st)  | refine c_seq ?_  | refine c_region ?_  | refine l_do ?_  | refine l_nil ?_  | refine x_then ?_  | refine x_thenE ?_  | refine x_blkN ?_  | refine x_blkE ?_  | refine wp_ret ?_  | refine wp_skip ?_  | refine wp_block ?_  | refine wp_exit ?_  | refine c_condT st rfl ?_  | refine c_condF st rfl ?_  | ((first | refine o_move st rfl rfl ?_  | refine o_assign st rfl rfl ?_  | refine o_len st rfl rfl ?_  | refine o_add64 st rfl rfl rfl (by omega) (by omega) ?_ ); clear st; intro _ st)  | (refine o_lss st rfl rfl rfl ?_ ?_ <;> clear st <;> intro _ _ st <;> (try (exfalso; omega)))))
  refine wp_loop_ghost (fun z a w' => ∃ (i blk1 cp : Nat) (pad : List Value), i ≤ ls.length ∧ z = ls.length - i ∧ ((ls.take i).map vF ++ pad).length = cp ∧ St w Try.f85.ntmps a w' [(0, .slice (some ⟨blk, off, none⟩) ks.length cap), (3, .slice (some ⟨blk1, 0, none⟩) i cp), (4, .int .i64 ((i : Int) + 1))] (⟨blk1, true, oV 29 ((ls.take i).map vF) pad⟩ :: ⟨blk, false, .cells arr t fr⟩ :: [])) ls.length ⟨0, blk0, 0, [], by omega, by omega, rfl, (st.fit (by repeat (first | exact trivial  | refine And.intro rfl ?_))).subL (by repeat (first | exact List.Sublist.refl _  | apply List.Sublist.cons_cons  | apply List.Sublist.cons  | exact List.nil_sublist _))⟩ ?_
  clear st
  rintro z a w' ⟨i, blk1, cp, pad, hi, rfl, hp, st⟩
  have hlk : ((ls.take i).map vF).length = i := by rw [List.length_map, List.length_take]; omega
  by_cases hlt : i < ls.length
  · obtain ⟨r, hr1, hr2⟩ := h.at_ i hlt (by omega) (by omega)
    have c1 := fun w => minus_ok (pt ks[i + 1]) (pt ks[i]) r hr1 w
    have c2 := fun w => LongOf_ok r.1 r.2 ls[i] hr2 w
    have g1 := g (i + 1) (by rw [List.length_map]; omega) ((i : Int) + 1) (by omega)
    have g2 := g i (by rw [List.length_map]; omega) ((i : Int) + 1 - 1) (by omega)
    rw [List.getElem_map] at g1 g2
    have e1 : (ls.take i).map vF ++ [vF ls[i]] = (ls.take (i + 1)).map vF := by rw [List.take_succ_eq_append_getElem (by omega), List.map_append]; rfl
    (repeat' (first | refine c_seq ?_  | refine c_region ?_  | refine l_do ?_  | refine l_nil ?_  | refine x_then ?_  | refine x_thenE ?_  | refine x_blkN ?_  | refine x_blkE ?_  | refine wp_ret ?_  | refine wp_skip ?_  | refine wp_block ?_  | refine wp_exit ?_  | refine c_condT st rfl ?_  | refine c_condF st rfl ?_  | ((first | refine o_move st rfl rfl ?_  | refine o_assign st rfl rfl ?_  | refine o_len st rfl rfl ?_  | refine o_add64 st rfl rfl rfl (by omega) (by omega) ?_ ); clear st; intro _ st)  | (refine o_lss st rfl rfl rfl ?_ ?_ <;> clear st <;> intro _ _ st <;> (try (exfalso; omega)))))
    refine c_draw (Lh := [⟨blk, false, .cells arr t fr⟩]) (last := 14) hm_ (by decide +kernel) (by decide +kernel) st ?_; clear st; intro _ st
    refine d_v 0 st (by repeat constructor) rfl (by decide +kernel) rfl (v_move st rfl) ?_; clear st; intro _ st
    refine d_v 1 st (by repeat constructor) rfl (by decide +kernel) rfl (v_move st rfl) ?_; clear st; intro _ st
    refine d_v 2 st (by repeat constructor) rfl (by decide +kernel) rfl (v_move st rfl) ?_; clear st; intro _ st
    refine d_v 3 st (by repeat constructor) rfl (by decide +kernel) rfl (v_indexAddr st rfl rfl (by omega) (by omega)) ?_; clear st; intro _ st
    refine d_v 4 st (by repeat constructor) rfl (by decide +kernel) rfl (v_loadS st rfl (by repeat constructor) g1) ?_; clear st; intro _ st
    refine d_v 5 st (by repeat constructor) rfl (by decide +kernel) rfl (v_move st rfl) ?_; clear st; intro _ st
    refine d_v 6 st (by repeat constructor) rfl (by decide +kernel) rfl (v_move st rfl) ?_; clear st; intro _ st
    refine d_v 7 st (by repeat constructor) rfl (by decide +kernel) rfl (v_sub64 st rfl rfl (by omega) (by omega)) ?_; clear st; intro _ st
    refine d_v 8 st (by repeat constructor) rfl (by decide +kernel) rfl (v_indexAddr st rfl rfl (by omega) (by omega)) ?_; clear st; intro _ st
    refine d_v 9 st (by repeat constructor) rfl (by decide +kernel) rfl (v_loadS st rfl (by repeat constructor) g2) ?_; clear st; intro _ st
    refine d_one 10 (by decide +kernel) rfl ?_
    refine o_callV st rfl (c1 _) rfl ?_; clear st; intro _ _ st
    refine kh st (by repeat constructor) ?_
    refine d_one 11 (by decide +kernel) rfl ?_
    refine o_callV st rfl (c2 _) rfl ?_; clear st; intro _ _ st
    refine kh st (by repeat constructor) ?_
    refine d_one 12 (by decide +kernel) rfl ?_
    refine o_buildSlice st rfl rfl rfl rfl rfl rfl ?_; clear st; intro _ _ _ st
    refine kh st (by repeat constructor) ?_
    refine d_one 13 (by decide +kernel) rfl ?_
    refine o_append1V rfl st rfl rfl (by repeat constructor) (by repeat constructor) hlk hp rfl (by omega) rfl ?_; clear st; intro blk2 cap2 pad2 _ _ hp2 st
    refine kh st (by repeat constructor) ?_
    refine d_one 14 (by decide +kernel) rfl ?_
    (first | (refine o_assign st rfl rfl ?_; clear st; intro _ st))
    refine k_last ?_
    refine d_done (by decide +kernel) ?_
    (repeat' (first | refine c_seq ?_  | refine c_region ?_  | refine l_do ?_  | refine l_nil ?_  | refine x_then ?_  | refine x_thenE ?_  | refine x_blkN ?_  | refine x_blkE ?_  | refine wp_ret ?_  | refine wp_skip ?_  | refine wp_block ?_  | refine wp_exit ?_  | refine c_condT st rfl ?_  | refine c_condF st rfl ?_  | ((first | refine o_move st rfl rfl ?_  | refine o_assign st rfl rfl ?_  | refine o_len st rfl rfl ?_  | refine o_add64 st rfl rfl rfl (by omega) (by omega) ?_ ); clear st; intro _ st)  | (refine o_lss st rfl rfl rfl ?_ ?_ <;> clear st <;> intro _ _ st <;> (try (exfalso; omega)))))
    refine ⟨ls.length - (i + 1), by omega, i + 1, blk2, cap2, pad2, by omega, rfl, by rw [← e1]; exact hp2, ?_⟩
    rw [← e1]
    exact (st.fit (by repeat (first | exact trivial  | refine And.intro rfl ?_))).subL (by repeat (first | exact List.Sublist.refl _  | apply List.Sublist.cons_cons  | apply List.Sublist.cons  | exact List.nil_sublist _))
  · obtain rfl : i = ls.length := by omega
    rw [List.take_length] at st
    (repeat' (first | refine c_seq ?_  | refine c_region ?_  | refine l_do ?_  | refine l_nil ?_  | refine x_then ?_  | refine x_thenE ?_  | refine x_blkN ?_  | refine x_blkE ?_  | refine wp_ret ?_  | refine wp_skip ?_  | refine wp_block ?_  | refine wp_exit ?_  | refine c_condT st rfl ?_  | refine c_condF st rfl ?_  | ((first | refine o_move st rfl rfl ?_  | refine o_assign st rfl rfl ?_  | refine o_len st rfl rfl ?_  | refine o_add64 st rfl rfl rfl (by omega) (by omega) ?_ ); clear st; intro _ st)  | (refine o_lss st rfl rfl rfl ?_ ?_ <;> clear st <;> intro _ _ st <;> (try (exfalso; omega)))))
    refine post1 st Try.results85 (rd_t st rfl) ?_
    exact ⟨_, blk1, _, rfl, ⟨cp, pad, rfl, rfl⟩, st.ex1 (by repeat constructor)⟩
theorem FrameLong_ok (c : List Kn) (hg : GC c) (ls : List Nat) (s : Nat → Nat) (h : GapsOk c ls) (hs : SumsOk ls s) (hd : Gd (s ls.length)) (v : Value) (w : World) (hv : CrV w c v) :
    CV Try.prog 35 [v] w (.tuple #[.float .f32 (s ls.length), .bool true]) := by
  have h0 := hg.lo
  have h8 := hg.hi
  have hlen := h.len
  have c1 := fun v w hv => ValidCurve_ok c v hg w hv
  have c2 := fun base cap w hr => longsOf_ok c ls h (by omega) base cap w hr
  have c3 := fun base cap w hr => addUp_ok ls s hs (by omega) base cap w hr
  have c4 := fun w => ifNumber_ok _ hd w
  have hv0 := hv
  obtain ⟨bp, cp, bw, cw, rfl, hp, hw⟩ := hv
  refine enter Try.func35 rfl rfl rfl rfl ?_
  intro a st
  (repeat' (first | (refine o_boxA (d := 1) st rfl rfl ?_; clear st; intro p1 _ _ st)  | (refine o_callV st rfl (c1 _ _ (hv0.mono st.below)) rfl ?_; clear st; intro _ _ st)  | (refine o_callM1 st rfl (c2 _ _ _ (hp.mono st.below)) rfl ?_; clear st; rintro _ bl _ ⟨capl, padl, rfl, rfl⟩ _ _ st)  | (refine o_callV st rfl (c3 _ _ _ (RdV.of (st.heap (by repeat constructor)))) rfl ?_; clear st; intro _ _ st)  | (refine o_callV st rfl (c4 _) rfl ?_; clear st; intro _ _ st)  | refine c_seq ?_  | refine c_region ?_  | refine l_do ?_  | refine l_nil ?_  | refine x_then ?_  | refine wp_ret ?_  | refine wp_skip ?_  | refine c_condF st rfl ?_  | (refine o_assign st rfl rfl ?_; clear st; intro _ st)  | ((first | refine o_boxA st rfl rfl ?_ ); clear st; intro _ _ _ st)  | ((first | refine o_fieldAddr st rfl rfl ?_  | refine o_loadS st rfl (by repeat constructor) rfl rfl ?_  | refine o_load2 st rfl (by repeat constructor) rfl ?_  | refine o_extract st rfl rfl rfl ?_  | refine o_notT st rfl rfl ?_ ); clear st; intro _ st)))
  refine post2 st Try.results35 (rd_t st rfl) (rd_t st rfl) ?_
  exact ⟨rfl, st.ex0⟩
theorem ChordLong_ok (c : List Kn) (n : Nat) (ts : List Nat) (ks : List Kn) (ls : List Nat) (s : Nat → Nat) (hP : PtsOk c n ts ks) (h : GapsOk ks ls) (hs : SumsOk ls s) (hd : Gd (s ls.length)) (v : Value) (w : World) (hv : CrV w c v) :
    CV Try.prog 34 [v, .int .i64 n] w (.tuple #[.float .f32 (s ls.length), .bool true]) := by
  have hlen := h.len
  have hlk := hP.lk
  have h64 := hP.h64
  have c1 := fun v w hv => pointsAt_ok c hP.gc n ts ks hP.h1 hP.h64 hP.lt hP.lk hP.ht hP.hk hP.hgd v w hv
  have c2 := fun base cap w hr => longsOf_ok ks ls h (by omega) base cap w hr
  rw [hlk] at c2
  have c3 := fun base cap w hr => addUp_ok ls s hs (by omega) base cap w hr
  have c4 := fun w => ifNumber_ok _ hd w
  have hv0 := hv
  obtain ⟨bp, cp, bw, cw, rfl, hp, hw⟩ := hv
  refine enter Try.func34 rfl rfl rfl rfl ?_
  intro a st
  (repeat' (first | (refine o_boxA (d := 2) st rfl rfl ?_; clear st; intro p2 _ _ st)  | (refine o_callM1 st rfl (c1 _ _ (hv0.mono st.below)) rfl ?_; clear st; rintro _ bk _ ⟨capk, padk, rfl, rfl⟩ _ _ st)  | (refine o_callM1 st rfl (c2 _ _ _ (RdV.of (st.heap (by repeat constructor)))) rfl ?_; clear st; rintro _ bl _ ⟨capl, padl, rfl, rfl⟩ _ _ st)  | (refine o_callV st rfl (c3 _ _ _ (RdV.of (st.heap (by repeat constructor)))) rfl ?_; clear st; intro _ _ st)  | (refine o_callV st rfl (c4 _) rfl ?_; clear st; intro _ _ st)  | refine c_seq ?_  | refine c_region ?_  | refine l_do ?_  | refine l_nil ?_  | refine x_then ?_  | refine wp_ret ?_  | refine wp_skip ?_  | refine c_condF st rfl ?_  | ((first | refine o_move st rfl rfl ?_  | refine o_assign st rfl rfl ?_); clear st; intro _ st)  | ((first | refine o_boxA st rfl rfl ?_ ); clear st; intro _ _ _ st)  | ((first | refine o_load2 st rfl (by repeat constructor) rfl ?_  | refine o_extract st rfl rfl rfl ?_  | refine o_notT st rfl rfl ?_ ); clear st; intro _ st)))
  refine post2 st Try.results34 (rd_t st rfl) (rd_t st rfl) ?_
  exact ⟨rfl, st.ex0⟩
end Go.Proofs.Ytonbcbhnnflohaa
