/-
  FnLoops: what the tables tell about the rings.
-/
import Derived.Test.YtonbcbhnnflohaaLj
import Derived.Test.YtonbcbhnnflohaaLg
import Derived.Test.YtonbcbhnnflohaaYj
namespace Go.Proofs.Ytonbcbhnnflohaa
open Go.RowKit

theorem stp_some {n i : Nat} {p : Nat × Nat} (h : stpW n i = some p) : ∃ f q, fop .quo .f64 (some (floatOfInt .f64 (i : Int))) (some (floatOfInt .f64 (n : Int))) = some f ∧ phS f = some q ∧ scaledC q 1073741824 = some p := by
  unfold stpW at h
  obtain ⟨f, hf, h⟩ := bw_some h
  obtain ⟨a, b, hp, h⟩ := bw2_some h
  obtain ⟨u, hu, h⟩ := bw_some h
  obtain ⟨v, hv, h⟩ := bw_some h
  refine ⟨f, (a, b), quoW_some hf, hp, ?_⟩
  rw [← h]
  unfold scaledC
  rw [hu, hv]
  rfl
theorem longQ_some {u v r : Nat} (h : longQ u v = some r) : longW u v = some r := by
  unfold longQ at h
  obtain ⟨x, hx, h⟩ := bw_some h
  obtain ⟨y, hy, h⟩ := bw_some h
  obtain ⟨p, hp, h⟩ := bw_some h
  obtain ⟨q, hq, h⟩ := bw_some h
  obtain ⟨s, hs, h⟩ := bw_some h
  obtain ⟨t, ht, h⟩ := bw_some h
  unfold longW
  rw [hx, Option.bind_some, hy, Option.bind_some, show fop .mul .f64 (some x) (some x) = some p from mulF_some hp, Option.bind_some, show fop .mul .f64 (some y) (some y) = some q from mulF_some hq, Option.bind_some, show fop .add .f64 (some p) (some q) = some s from addF_some hs, Option.bind_some, ht, Option.bind_some]
  exact h
theorem minusQ_some {a b r : Nat × Nat} (h : minusQ a b = some r) : minusW a b = some r := by
  unfold minusQ at h
  obtain ⟨u, hu, h⟩ := bw_some h
  obtain ⟨v, hv, h⟩ := bw_some h
  unfold minusW
  rw [hu, Option.bind_some, hv, Option.bind_some]
  exact h
theorem nz_some {m : Nat × Nat} (h : nz m = true) : feqB .f32 (some m.1) (some 0) = false ∨ feqB .f32 (some m.1) (some 0) = true ∧ feqB .f32 (some m.2) (some 0) = false := by
  unfold nz at h
  cases h1 : feqB .f32 (some m.1) (some 0)
  · exact .inl rfl
  · rw [h1] at h
    cases h2 : feqB .f32 (some m.2) (some 0)
    · exact .inr ⟨rfl, rfl⟩
    · rw [h2] at h; cases h
theorem turn_ok {n : Nat} {ps qs : List Kn} {l : List Nat} {m : List (Nat × Nat)} {g s : List Nat} (h : turnB n ps qs l m g s = true) (hl : ps.length = n) :
    TurnsOk ps qs (fun i => l.getD i 0) (fun i => m.getD i (0, 0)) (fun i => g.getD i 0) (fun i => s.getD i 0) := by
  subst hl
  unfold turnB at h
  simp only [Bool.and_eq_true, beq_iff_eq] at h
  obtain ⟨⟨⟨h1, h2⟩, h3⟩, h4⟩ := h
  have key := fun i (hi : i < ps.length) => List.all_eq_true.1 h4 i (List.mem_range.2 hi)
  simp only [Bool.and_eq_true, beq_iff_eq] at key
  exact ⟨h1, fun i hi => by
    obtain ⟨⟨⟨⟨⟨⟨⟨⟨⟨⟨⟨k1, k2⟩, k3⟩, k4⟩, k5⟩, k6⟩, k7⟩, k8⟩, k9⟩, k10⟩, k11⟩, k12⟩ := key i hi
    exact minusQ_some k1, fun i hi => by
    obtain ⟨⟨⟨⟨⟨⟨⟨⟨⟨⟨⟨k1, k2⟩, k3⟩, k4⟩, k5⟩, k6⟩, k7⟩, k8⟩, k9⟩, k10⟩, k11⟩, k12⟩ := key i hi
    exact ⟨longQ_some k2, chk_is k3, k4⟩, fun i hi => by
    obtain ⟨⟨⟨⟨⟨⟨⟨⟨⟨⟨⟨k1, k2⟩, k3⟩, k4⟩, k5⟩, k6⟩, k7⟩, k8⟩, k9⟩, k10⟩, k11⟩, k12⟩ := key i hi
    exact k5, fun i hi => by
    obtain ⟨⟨⟨⟨⟨⟨⟨⟨⟨⟨⟨k1, k2⟩, k3⟩, k4⟩, k5⟩, k6⟩, k7⟩, k8⟩, k9⟩, k10⟩, k11⟩, k12⟩ := key i hi
    exact ⟨chk_is k6, chk_is k7, k8, k9, nz_some k10, k11⟩, h2, fun i hi => by
    obtain ⟨⟨⟨⟨⟨⟨⟨⟨⟨⟨⟨k1, k2⟩, k3⟩, k4⟩, k5⟩, k6⟩, k7⟩, k8⟩, k9⟩, k10⟩, k11⟩, k12⟩ := key i hi
    exact k12, Gd_lit h3⟩
theorem loop_ok {n : Nat} {ps : List Kn} (h3 : 3 ≤ n) (h10 : n ≤ 10) (hl : ps.length = n) (h : ps.all (fun k => gdB k.1 && gdB k.2.1) = true) : LoopOk ps := by
  refine ⟨by omega, by omega, fun k hk => ?_⟩
  have := List.all_eq_true.1 h k hk
  rw [Bool.and_eq_true] at this
  exact ⟨Gd_lit this.1, Gd_lit this.2⟩
theorem gapB_ok {a b y tol : Nat} (h : gapB a b y tol = true) : gapW a b = some y ∧ LtD y tol := by
  unfold gapB at h
  simp only [Bool.and_eq_true, beq_iff_eq] at h
  exact ⟨h.1.1, chk_is h.1.2, h.2⟩
theorem movL_get (x y : Nat) : ∀ (c d : List Kn), movL c x y = some d → d.length = c.length ∧ ∀ i, i < c.length → fop .add .f32 (some (pAt c i).1) (some x) = some (pAt d i).1 ∧ fop .add .f32 (some (pAt c i).2) (some y) = some (pAt d i).2
  | [], d, h => by
    obtain rfl := Option.some.inj h
    exact ⟨rfl, fun i h => by simp at h⟩
  | k :: c, d, h => by
    rw [movL] at h
    obtain ⟨u, hu, h⟩ := bw_some h
    obtain ⟨v, hv, h⟩ := bw_some h
    cases hm : movL c x y with
    | none => rw [hm] at h; cases h
    | some l =>
      rw [hm] at h
      obtain rfl := Option.some.inj h
      obtain ⟨a1, a2⟩ := movL_get x y c l hm
      refine ⟨by rw [List.length_cons, List.length_cons, a1], fun i hi => ?_⟩
      cases i with
      | zero => exact ⟨hu, hv⟩
      | succ i => exact a2 i (by rw [List.length_cons] at hi; omega)
/-- What the moved ring's table tells. -/
theorem mov_ok {ring : List Kn} {c1 x y : Nat} (h : movB ring c1 x y = true) : ∃ mv a2 c2 y3, movL ring x y = some mv ∧ mv.all (fun k => gdB k.1 && gdB k.2.1) = true ∧ areaS mv = some a2 ∧ gdB a2 = true ∧ cvW .f32 a2 .f64 = some c2 ∧ chk .f64 c2 = true ∧ gapW c2 c1 = some y3 ∧ LtD y3 4576918229304087675 := by
  unfold movB at h
  cases hm : movL ring x y with
  | none => rw [hm] at h; cases h
  | some mv =>
    rw [hm] at h
    simp only [Bool.and_eq_true] at h
    obtain ⟨h1, h⟩ := h
    cases ha : areaS mv with
    | none => rw [ha] at h; cases h
    | some a2 =>
      rw [ha] at h
      simp only [force_eq, Bool.and_eq_true] at h
      obtain ⟨h2, h⟩ := h
      cases hc : cvW .f32 a2 .f64 with
      | none => rw [hc] at h; cases h
      | some c2 =>
        rw [hc] at h
        simp only [Bool.and_eq_true] at h
        obtain ⟨h3, h⟩ := h
        cases hg : gapW c2 c1 with
        | none => rw [hg] at h; cases h
        | some y3 =>
          rw [hg] at h
          simp only [Bool.and_eq_true] at h
          exact ⟨mv, a2, c2, y3, rfl, h1, ha, h2, hc, h3, hg, chk_is h.1, h.2⟩
theorem movT_at {d : RgL} (h : movT d = true) {x y : Nat} (hx : x < 17) (hy : y < 17) : movB d.ring d.c1 (qv ((x : Int) - 8)) (qv ((y : Int) - 8)) = true := by
  have h1 := List.all_eq_true.1 h x (List.mem_range.2 hx)
  rw [force_eq] at h1
  have h2 := List.all_eq_true.1 h1 y (List.mem_range.2 hy)
  rw [force_eq] at h2
  exact h2
theorem rg_ok {n : Nat} {d : RgL} (hB : ringB n d = true) (hC : ringC n d = true) (hT : turnB n d.ring d.qs d.ls d.ms d.gs d.ss = true) (hU : turnB n d.ring.reverse d.qs' d.ls' d.ms' d.gs' d.ss' = true) {x y : Nat} (hM : movB d.ring d.c1 x y = true) : ∃ D, RgOk n (x, y) D := by
  unfold ringB at hB
  simp only [Bool.and_eq_true, beq_iff_eq, decide_eq_true_eq] at hB
  obtain ⟨⟨⟨⟨b1, b2⟩, b3⟩, b4⟩, b5⟩ := hB
  unfold ringC at hC
  simp only [Bool.and_eq_true, beq_iff_eq] at hC
  obtain ⟨⟨⟨⟨⟨⟨⟨⟨⟨⟨⟨⟨⟨⟨⟨⟨⟨⟨⟨⟨k1, k2⟩, k3⟩, k4⟩, k5⟩, k6⟩, k7⟩, k8⟩, k9⟩, k10⟩, k11⟩, k12⟩, k13⟩, k14⟩, k15⟩, k16⟩, k17⟩, k18⟩, k19⟩, k20⟩, k21⟩ := hC
  obtain ⟨mv, a2, c2, y3, m1, m2, m3, m4, m5, m6, m7, m8⟩ := mov_ok hM
  obtain ⟨e1, e2⟩ := movL_get x y d.ring mv m1
  have lr : d.ring.reverse.length = n := by rw [List.length_reverse]; exact b1
  have b5' : d.ring.reverse.all (fun k => gdB k.1 && gdB k.2.1) = true := by rw [List.all_reverse]; exact b5
  refine ⟨⟨d.ring, mv, d.qs, fun i => d.ls.getD i 0, fun i => d.ms.getD i (0, 0), fun i => d.gs.getD i 0, fun i => d.ss.getD i 0, d.qs', fun i => d.ls'.getD i 0, fun i => d.ms'.getD i (0, 0), fun i => d.gs'.getD i 0, fun i => d.ss'.getD i 0, d.a1, a2, d.a3, d.b1, d.b2, d.c1, c2, d.c3, d.y1, d.y2, y3, d.y4⟩, ?_⟩
  exact {
    n3 := b2
    n10 := b3
    lr := b1
    lm := by show mv.length = n; rw [e1]; exact b1
    hr := fun i hi => stp_some (by have := List.all_eq_true.1 b4 i (List.mem_range.2 hi); rwa [beq_iff_eq] at this)
    hm := fun i hi => e2 i (by rw [b1]; exact hi)
    o1 := loop_ok b2 b3 b1 b5
    o2 := loop_ok b2 b3 (by rw [e1]; exact b1) m2
    o3 := loop_ok b2 b3 lr b5'
    t1 := turn_ok hT b1
    t2 := turn_ok hU lr
    w1 := by show windL (pAt d.ring) d.ring.length _ d.ring.length 0 0 = _; rw [b1]; exact k1
    w2 := by show windL (pAt d.ring) d.ring.length _ d.ring.length 0 0 = _; rw [b1]; exact k2
    w3 := by show windL (pAt d.ring.reverse) d.ring.reverse.length _ d.ring.reverse.length 0 0 = _; rw [lr]; exact k3
    a1 := k4
    a2 := m3
    a3 := k5
    g1 := Gd_lit k6
    g2 := Gd_lit m4
    g3 := Gd_lit k7
    p1 := ⟨chk_is k8, k9⟩
    b1 := by show cvW .f32 (d.ss.getD d.ring.length 0) .f64 = _ ∧ _; rw [b1]; exact ⟨k10, chk_is k11⟩
    b2 := by show cvW .f32 (d.ss'.getD d.ring.reverse.length 0) .f64 = _ ∧ _; rw [lr]; exact ⟨k12, chk_is k13⟩
    c1 := ⟨k14, chk_is k15, chk_is k16⟩
    c2 := ⟨m5, chk_is m6⟩
    c3 := ⟨k17, chk_is k18⟩
    y1 := gapB_ok k19
    y2 := gapB_ok k20
    y3 := ⟨m7, m8⟩
    y4 := gapB_ok k21 }
theorem ring_all (n x y : Nat) (h3 : 3 ≤ n) (h10 : n ≤ 10) (hx : x < 17) (hy : y < 17) : ∃ d, RgOk n (qv ((x : Int) - 8), qv ((y : Int) - 8)) d := by
  match n, h3, h10 with
  | 3, _, _ => exact rg_ok rgB3 rgC3 rgT3 rgU3 (movT_at mv3 hx hy)
  | 4, _, _ => exact rg_ok rgB4 rgC4 rgT4 rgU4 (movT_at mv4 hx hy)
  | 5, _, _ => exact rg_ok rgB5 rgC5 rgT5 rgU5 (movT_at mv5 hx hy)
  | 6, _, _ => exact rg_ok rgB6 rgC6 rgT6 rgU6 (movT_at mv6 hx hy)
  | 7, _, _ => exact rg_ok rgB7 rgC7 rgT7 rgU7 (movT_at mv7 hx hy)
  | 8, _, _ => exact rg_ok rgB8 rgC8 rgT8 rgU8 (movT_at mv8 hx hy)
  | 9, _, _ => exact rg_ok rgB9 rgC9 rgT9 rgU9 (movT_at mv9 hx hy)
  | 10, _, _ => exact rg_ok rgB10 rgC10 rgT10 rgU10 (movT_at mv10 hx hy)
end Go.Proofs.Ytonbcbhnnflohaa

namespace Go.Proofs.Ytonbcbhnnflohaa
open Go.RowKit

theorem cut_le (neg : Bool) (n drop t : Nat) (h : n < 2 ^ (t + drop)) : Ieee.Toward.cut .even neg n drop ≤ 2 ^ t := by
  unfold Ieee.Toward.cut
  dsimp only
  generalize hg : (1 <<< min drop (n.log2 + 2)) = gap
  have hg' : gap = 2 ^ min drop (n.log2 + 2) := by rw [← hg, Nat.one_shiftLeft]
  have hpos : 0 < gap := by rw [hg']; exact Nat.two_pow_pos _
  have hlow : n / gap < 2 ^ t := by
    rcases Nat.le_total drop (n.log2 + 2) with hd | hd
    · rw [hg', Nat.min_eq_left hd]
      exact Nat.div_lt_of_lt_mul (by rw [← Nat.pow_add, Nat.add_comm]; exact h)
    · rw [hg', Nat.min_eq_right hd]
      have : n < 2 ^ (n.log2 + 2) := Nat.lt_of_lt_of_le Nat.lt_log2_self (Nat.pow_le_pow_right (by decide) (by omega))
      rw [Nat.div_eq_of_lt this]
      exact Nat.two_pow_pos _
  generalize (decide (gap < 2 * (n % gap)) || gap == 2 * (n % gap) && n / gap % 2 == 1) = b
  cases b <;> simp <;> omega

theorem rung_word (f : Ieee.Format) (neg : Bool) (r : Nat) (h : r < f.signWeight) : rung f (f.word neg r) = r := (read_word f neg r h).2

end Go.Proofs.Ytonbcbhnnflohaa
