/-
  FnNearest: the nearest place exists, and is no farther than others.
-/
import Derived.Test.YtonbcbhnnflohaaPh
import Derived.Deep.Slices
namespace Go.Proofs.Ytonbcbhnnflohaa
open Go.RowKit

theorem Pw0 : Pw 0 = 0 := by decide +kernel
theorem Px0 : Px 0 = 0 := by decide +kernel
/-! ## what is drawn -/
theorem qvB_table : ∀ x : Nat, x < 64 → rung FloatKind.f32.format (qv ((x : Int) - 16)) < FloatKind.f32.format.infRung ∧ rF (qv ((x : Int) - 16)) = (((x : Int) - 16 : Int) : Rat) / 4 := by decide +kernel
theorem qvB_ok {i : Int} (h1 : -16 ≤ i) (h2 : i ≤ 47) : G (qv i) ∧ rF (qv i) = (i : Rat) / 4 ∧ Is .f32 (qv i) (some (qv i)) := by
  have h := qvB_table (i + 16).toNat (by omega)
  rw [show (((i + 16).toNat : Nat) : Int) - 16 = i by omega] at h
  exact ⟨h.1, h.2, fop_is (qB_ok h1 h2)⟩
theorem quarterB {i : Int} (h1 : -32 ≤ i) (h2 : i ≤ 32) : Ab ((i : Rat) / 4) 8 := by
  have a := Rat.intCast_le_intCast.2 h1
  have b := Rat.intCast_le_intCast.2 h2
  have e1 : ((-32 : Int) : Rat) = -32 := rfl
  have e2 : ((32 : Int) : Rat) = 32 := rfl
  rw [e1] at a
  rw [e2] at b
  constructor <;> grind
theorem i32_1' : Is .f32 1065353216 (some 1065353216) := Is_lit (by decide +kernel)
theorem exact_KP {x y : Nat} (gx : G x) (gy : G y) (ix : Is .f32 x (some x)) (iy : Is .f32 y (some y)) (bx : Ab (rF x) 8) (by_ : Ab (rF y) 8) : KP 0 (x, y, 1065353216) (rF x) (rF y) := by
  refine ⟨gx, gy, G1, ix, iy, i32_1', bx, by_, ?_, ?_, ?_⟩
  · rw [Pw0]; show Ab (rF 1065353216 - 1) 0; rw [one3]; constructor <;> grind
  · rw [Px0]; constructor <;> grind
  · rw [Px0]; constructor <;> grind
theorem base_P : ∀ (c : List Kn), (∀ k ∈ c, BK 19 k) → PL 0 c (c.map fun k => rF k.1) (c.map fun k => rF k.2.1)
  | [], _ => .nil
  | k :: c, h => by
    refine .cons ?_ (base_P c fun q hq => h q (List.mem_cons_of_mem _ hq))
    obtain ⟨i, j, a1, a2, b1, b2, rfl⟩ := h k List.mem_cons_self
    obtain ⟨g1, v1, i1⟩ := qvB_ok (i := i) (by omega) (by omega)
    obtain ⟨g2, v2, i2⟩ := qvB_ok (i := j) (by omega) (by omega)
    exact exact_KP g1 g2 i1 i2 (by rw [v1]; exact quarterB (by omega) (by omega)) (by rw [v2]; exact quarterB (by omega) (by omega))
theorem sv01 {k : Nat} (h : k < 17) : T01 (sv (k : Int)) ∧ rF (sv (k : Int)) = (k : Rat) / 16 := by
  obtain ⟨h1, h2⟩ := sv_table k h
  have e : rF (sv (k : Int)) = (k : Rat) / 16 := by
    rw [h2, p2m8, Rat.intCast_mul]
    have : (((k : Nat) : Int) : Rat) = (k : Rat) := rfl
    have e16 : ((16 : Int) : Rat) = 16 := rfl
    rw [this, e16]
    grind
  have k0 : (0 : Rat) ≤ (k : Rat) := Rat.natCast_nonneg
  have k1 : (k : Rat) ≤ ((16 : Nat) : Rat) := Rat.natCast_le_natCast.2 (by omega)
  have e2 : ((16 : Nat) : Rat) = 16 := rfl
  rw [e2] at k1
  exact ⟨⟨h1, fop_is (sW_ok (by omega) (by omega)), by rw [e]; grind, by rw [e]; grind⟩, e⟩
theorem of16 : floatOfInt .f32 ((16 : Nat) : Int) = 1098907648 := by decide +kernel
theorem of8 : floatOfInt .f32 ((8 : Nat) : Int) = 1090519040 := by decide +kernel
theorem share16 {k : Nat} (h : k < 17) : shareW (k : Nat) (16 : Nat) = some (sv (k : Int)) := by
  unfold shareW
  rw [of16]
  exact sW_ok (by omega) (by omega)
/-! ## distances -/
structure ZG (z : Nat × Nat) : Prop where
  g1 : G z.1
  g2 : G z.2
  i1 : Is .f32 z.1 (some z.1)
  i2 : Is .f32 z.2 (some z.2)
  b1 : Ab (rF z.1) (81 / 10)
  b2 : Ab (rF z.2) (81 / 10)
theorem KP.zg {n : Nat} {k : Kn} {X Y : Rat} (h : KP n k X Y) (hn : n < 7) : ZG (k.1, k.2.1) := ⟨h.g1, h.g2, h.i1, h.i2, h.b1 hn, h.b2 hn⟩
theorem far_ex {a b : Nat × Nat} (ha : ZG a) (hb : ZG b) : ∃ r l, minusW a b = some r ∧ longW r.1 r.2 = some l ∧ G l ∧ Is .f32 l (some l) ∧ 0 ≤ rF l ∧ rF l ≤ 31 := by
  obtain ⟨u, hu, gu, du⟩ := s32 (M := 17) ha.g1 hb.g1 ((ha.b1.sub hb.b1).to rfl (by grind)) (by grind) (by grind)
  obtain ⟨v, hv, gv, dv⟩ := s32 (M := 17) ha.g2 hb.g2 ((ha.b2.sub hb.b2).to rfl (by grind)) (by grind) (by grind)
  have bu : Ab (rF u) 17 := (du.add (ha.b1.sub hb.b1)).to (by grind) (by grind)
  have bv : Ab (rF v) 17 := (dv.add (ha.b2.sub hb.b2)).to (by grind) (by grind)
  have su := (bu.mul bu).le
  have sv' := (bv.mul bv).le
  obtain ⟨l, hl, gl, il, l0, _, l1⟩ := long_gen gu gv (fop_is hu) (fop_is hv) (bu.to rfl (by grind)) (bv.to rfl (by grind)) (Lo := 0) (R := 30) (by grind) (.inl rfl) (by grind) (by grind) (by grind) (by grind)
  exact ⟨(u, v), l, by unfold minusW; rw [hu, Option.bind_some, hv, Option.bind_some], hl, gl, il, l0, by grind⟩
theorem far_t {c : List Kn} {X Y : List Rat} (h : PL 0 c X Y) (h2 : 2 ≤ c.length) (h5 : c.length ≤ 5) {z : Nat × Nat} (hz : ZG z) {t : Nat} (ht : T01 t) :
    ∃ k r l, AtOk c t k ∧ minusW (k.1, k.2.1) z = some r ∧ longW r.1 r.2 = some l ∧ farT c z t = some l ∧ G l ∧ Is .f32 l (some l) ∧ 0 ≤ rF l ∧ rF l ≤ 31 := by
  obtain ⟨k, hk, hK⟩ := pat h h2 h5 ht
  obtain ⟨r, l, hr, hl, gl, il, l0, l1⟩ := far_ex (hK.zg (by omega)) hz
  refine ⟨k, r, l, hk, hr, hl, ?_, gl, il, l0, l1⟩
  unfold farT
  rw [hk.at_, Option.bind_some, hr, Option.bind_some, hl]
theorem flt_rF {a b : Nat} (ha : G a) (hb : G b) : fltB .f32 (some a) (some b) = decide (rF a < rF b) := flt_iff (k := .f32) ha hb
theorem fgt_rF {a b : Nat} (ha : G a) (hb : G b) : fgtB .f32 (some a) (some b) = decide (rF b < rF a) := fgt_iff (k := .f32) ha hb
theorem bestF_least {x : Nat → Nat} {n : Nat} (hx : ∀ k, k < n → G (x k)) : ∀ i, i ≤ n → ∀ k, k < i → rF (bestF x i).2 ≤ rF (x k)
  | 0, _, k, hk => by omega
  | i + 1, hi, k, hk => by
    unfold bestF
    split
    · rename_i hc
      by_cases hki : k = i
      · subst hki; exact Rat.le_refl
      · have h0 : i ≠ 0 := by omega
        rcases hc with hc | hc
        · exact absurd hc h0
        · obtain ⟨b1, b2⟩ := bestF_le x i (by omega)
          rw [b2, flt_rF (hx i (by omega)) (hx _ (by omega))] at hc
          have hc := of_decide_eq_true hc
          have := bestF_least hx i (by omega) k (by omega)
          rw [b2] at this
          show rF (x i) ≤ rF (x k)
          grind
    · rename_i hc
      have h0 : i ≠ 0 := fun h => hc (.inl h)
      by_cases hki : k = i
      · subst hki
        obtain ⟨b1, b2⟩ := bestF_le x k (by omega)
        have hn : ¬ fltB .f32 (some (x k)) (some (bestF x k).2) = true := fun h => hc (.inr h)
        rw [b2, flt_rF (hx k (by omega)) (hx _ (by omega))] at hn
        rw [b2]
        have hn : ¬ rF (x k) < rF (x (bestF x k).1) := fun h => hn (decide_eq_true h)
        grind
      · exact bestF_least hx i (by omega) k (by omega)
theorem best_pack (x : Nat → Nat) (n : Nat) (h : 0 < n) : ∃ b least, b < n ∧ bestF x n = (b, least) ∧ least = x b := ⟨_, _, (bestF_le x n h).1, rfl, (bestF_le x n h).2⟩
/-! ## the search -/
def wq : Nat → Rat
  | 0 => 1 / 16
  | k + 1 => 2 / 3 * wq k - 6 * U
theorem wq_table : ∀ k, k < 25 → 18 * U ≤ wq k ∧ wq k ≤ 1 := by decide +kernel
theorem three : rF 1077936128 = 3 := by decide +kernel
theorem G3 : G 1077936128 := by show rung FloatKind.f32.format 1077936128 < _; decide +kernel
theorem two2 : rF 1073741824 = 2 := by decide +kernel
theorem G2' : G 1073741824 := by show rung FloatKind.f32.format 1073741824 < _; decide +kernel
structure Iv (w : Rat) (lo hi : Nat) : Prop where
  l : T01 lo
  h : T01 hi
  w : w ≤ rF hi - rF lo
theorem round_ex {c : List Kn} {X Y : List Rat} (h : PL 0 c X Y) (h2 : 2 ≤ c.length) (h5 : c.length ≤ 5) {z : Nat × Nat} (hz : ZG z) {w : Rat} {lo hi : Nat} (hI : Iv w lo hi) (hw : 18 * U ≤ w) : ∃ r : Nat × Nat, RoundOk c z lo hi r.1 r.2 ∧ Iv (2 / 3 * w - 6 * U) r.1 r.2 := by
  obtain ⟨hl, hh, hwd⟩ := hI
  have l0 := hl.h0
  have l1 := hl.h1
  have h0 := hh.h0
  have h1 := hh.h1
  obtain ⟨d, hd, gd, dd⟩ := s32 (M := 1) hh.g hl.g ⟨by grind, by grind⟩ (by grind) (by grind)
  obtain ⟨d1, d2⟩ := dd
  have q3 : rF d / rF 1077936128 = rF d / 3 := by rw [three]
  obtain ⟨th, hth, gth, dth⟩ := q32 (M := 1) gd G3 (by rw [three]; grind) (by rw [q3]; exact ⟨by grind, by grind⟩) (by grind) (by grind)
  rw [q3] at dth
  obtain ⟨t1, t2⟩ := dth
  obtain ⟨p, hp, gp, dp⟩ := a32 (M := 2) hl.g gth ⟨by grind, by grind⟩ (by grind) (by grind)
  obtain ⟨q, hq, gq, dq⟩ := s32 (M := 2) hh.g gth ⟨by grind, by grind⟩ (by grind) (by grind)
  obtain ⟨p1, p2⟩ := dp
  obtain ⟨q1, q2⟩ := dq
  have tp : T01 p := ⟨gp, fop_is hp, by grind, by grind⟩
  have tq : T01 q := ⟨gq, fop_is hq, by grind, by grind⟩
  obtain ⟨_, _, fp, _, _, _, hfp, _, ip, _, _⟩ := far_t h h2 h5 hz tp
  obtain ⟨_, _, fq, _, _, _, hfq, _, iq, _, _⟩ := far_t h h2 h5 hz tq
  by_cases hc : fltB .f32 (some fp) (some fq) = true
  · exact ⟨(lo, q), ⟨d, th, p, q, fp, fq, hd, hth, hp, hq, hfp, hfq, ip, iq, by rw [if_pos hc], by rw [if_pos hc]⟩, hl, tq, by show _ ≤ rF q - rF lo; grind⟩
  · exact ⟨(p, hi), ⟨d, th, p, q, fp, fq, hd, hth, hp, hq, hfp, hfq, ip, iq, by rw [if_neg hc], by rw [if_neg hc]⟩, tp, hh, by show _ ≤ rF hi - rF p; grind⟩
theorem search {c : List Kn} {X Y : List Rat} (h : PL 0 c X Y) (h2 : 2 ≤ c.length) (h5 : c.length ≤ 5) {z : Nat × Nat} (hz : ZG z) {lo hi : Nat} (hI : Iv (1 / 16) lo hi) : ∃ s : Nat → Nat × Nat, s 0 = (lo, hi) ∧ (∀ k, k < 24 → RoundOk c z (s k).1 (s k).2 (s (k + 1)).1 (s (k + 1)).2) ∧ Iv (wq 24) (s 24).1 (s 24).2 := by
  have key : ∀ n, n ≤ 24 → ∃ s : Nat → Nat × Nat, s 0 = (lo, hi) ∧ (∀ k, k < n → RoundOk c z (s k).1 (s k).2 (s (k + 1)).1 (s (k + 1)).2) ∧ Iv (wq n) (s n).1 (s n).2 := by
    intro n
    induction n with
    | zero => intro _; exact ⟨fun _ => (lo, hi), rfl, fun k hk => by omega, hI⟩
    | succ n ih =>
      intro hn
      obtain ⟨s, s0, hs, hi'⟩ := ih (by omega)
      obtain ⟨r, hr, hrI⟩ := round_ex h h2 h5 hz hi' (wq_table n (by omega)).1
      refine ⟨fun k => if k ≤ n then s k else r, by simp [s0], ?_, by
        show Iv _ (if n + 1 ≤ n then s (n + 1) else r).1 (if n + 1 ≤ n then s (n + 1) else r).2
        rw [if_neg (by omega)]
        exact hrI⟩
      intro k hk
      by_cases hkn : k = n
      · subst hkn
        show RoundOk c z (if k ≤ k then s k else r).1 (if k ≤ k then s k else r).2 (if k + 1 ≤ k then s (k + 1) else r).1 (if k + 1 ≤ k then s (k + 1) else r).2
        rw [if_pos (Nat.le_refl k), if_neg (by omega)]
        exact hr
      · have a1 : k ≤ n := by omega
        have a2 : k + 1 ≤ n := by omega
        simp only [a1, a2, if_true]
        exact hs k (by omega)
  exact key 24 (by omega)
attribute [local irreducible] fop longW minusW atK sv in
set_option maxHeartbeats 1000000 in
/-- The nearest place. -/
theorem nr_all {c : List Kn} {X Y : List Rat} (h : PL 0 c X Y) (h2 : 2 ≤ c.length) (h5 : c.length ≤ 5) {z : Nat × Nat} (hz : ZG z) :
    ∃ D, NrOk c z 16 D ∧ T01 D.t ∧ G D.f ∧ Is .f32 D.f (some D.f) ∧ 0 ≤ rF D.f ∧ rF D.f ≤ 31 ∧ ∀ k, k < 17 → rF D.f ≤ rF (D.x k) ∧ G (D.x k) ∧ ∃ p r, AtOk c (sv (k : Int)) p ∧ minusW (p.1, p.2.1) z = some r ∧ longW r.1 r.2 = some (D.x k) ∧ rF (D.x k) ≤ 31 ∧ Is .f32 (D.x k) (some (D.x k)) := by
  have each : ∀ k : Nat, k < 17 → ∃ p r l, AtOk c (sv (k : Int)) p ∧ minusW (p.1, p.2.1) z = some r ∧ longW r.1 r.2 = some l ∧ farT c z (sv (k : Int)) = some l ∧ G l ∧ Is .f32 l (some l) ∧ 0 ≤ rF l ∧ rF l ≤ 31 := by
    intro k hk
    have ht : T01 (sv (k : Int)) := (sv01 hk).1
    generalize sv (k : Int) = t at ht
    exact far_t h h2 h5 hz ht
  obtain ⟨f, hf⟩ := Deep.choose_lt (n := 17) (p := fun (k : Nat) (y : Kn × (Nat × Nat) × Nat) => AtOk c (sv (k : Int)) y.1 ∧ minusW (y.1.1, y.1.2.1) z = some y.2.1 ∧ longW y.2.1.1 y.2.1.2 = some y.2.2 ∧ farT c z (sv (k : Int)) = some y.2.2 ∧ G y.2.2 ∧ Is .f32 y.2.2 (some y.2.2) ∧ 0 ≤ rF y.2.2 ∧ rF y.2.2 ≤ 31) (fun k hk => by
    obtain ⟨p, r, l, hh⟩ := each k hk
    exact ⟨(p, r, l), hh⟩)
  have hG : ∀ k, k < 17 → G ((fun k => (f k).2.2) k) := fun k hk => (hf k hk).2.2.2.2.1
  obtain ⟨b, least, hb1, hbe, hb2⟩ : ∃ b least, b < 17 ∧ bestF (fun k => (f k).2.2) 17 = (b, least) ∧ least = (f b).2.2 := best_pack _ 17 (by omega)
  have hleast := bestF_least hG 17 (by omega)
  rw [hbe] at hleast
  have hI : Iv (1 / 16) (sv ((b - 1 : Nat) : Int)) (sv ((min 16 (b + 1) : Nat) : Int)) := by
    obtain ⟨t1, e1⟩ := sv01 (k := b - 1) (by omega)
    obtain ⟨t2, e2⟩ := sv01 (k := min 16 (b + 1)) (by omega)
    refine ⟨t1, t2, ?_⟩
    rw [e1, e2]
    have : ((b - 1 + 1 : Nat) : Rat) ≤ ((min 16 (b + 1) : Nat) : Rat) := Rat.natCast_le_natCast.2 (by omega)
    rw [Rat.natCast_add] at this
    have e1 : ((1 : Nat) : Rat) = 1 := rfl
    rw [e1] at this
    grind
  obtain ⟨s, s0, hs, hE⟩ := search h h2 h5 hz hI
  obtain ⟨el, eh, ew⟩ := hE
  have hw24 := (wq_table 24 (by omega)).1
  have l0 := el.h0
  have l1 := el.h1
  have u0 := eh.h0
  have u1 := eh.h1
  obtain ⟨m, hm, gm, dm⟩ := a32 (M := 2) el.g eh.g ⟨by grind, by grind⟩ (by grind) (by grind)
  obtain ⟨m1, m2⟩ := dm
  have qq : rF m / rF 1073741824 = rF m / 2 := by rw [two2]
  obtain ⟨sx, hsx, gsx, dsx⟩ := q32 (M := 2) gm G2' (by rw [two2]; grind) (by rw [qq]; exact ⟨by grind, by grind⟩) (by grind) (by grind)
  rw [qq] at dsx
  obtain ⟨x1, x2⟩ := dsx
  have ts : T01 sx := ⟨gsx, fop_is hsx, by grind, by grind⟩
  obtain ⟨_, _, fs, _, _, _, hfs, gfs, ifs, fs0, fs1⟩ := far_t h h2 h5 hz ts
  obtain ⟨hb3, hb4, hb5, hb6, hb7, hb8, hb9, hb10⟩ := hf b hb1
  obtain ⟨tl, lt17, gt⟩ : ∃ l : List Nat, l.length = 17 ∧ ∀ k (_ : k < l.length), l[k] = sv (k : Int) := ⟨(List.range 17).map fun k => sv ((k : Nat) : Int), by simp, fun k hk => by simp⟩
  obtain ⟨kl, lk17, gk⟩ : ∃ l : List Kn, l.length = 17 ∧ ∀ k (_ : k < l.length), l[k] = (f k).1 := ⟨(List.range 17).map fun k => (f k).1, by simp, fun k hk => by simp⟩
  have gcc := h.gc (by omega) h2 (by omega)
  have mk : ∀ t fv, (t = if fltB .f32 (some least) (some fs) = true then sv (b : Int) else sx) → farT c z t = some fv → G fv → Is .f32 fv (some fv) → rF fv ≤ 31 → 0 ≤ rF fv → NrOk c z 16 ⟨tl, kl, fun k => (f k).2.2, fun k => (s k).1, fun k => (s k).2, m, sx, fs, t, fv⟩ := by
    intro t fv htt hfv gfv ifv bfv bfv0
    refine { gc := gcc, gz := ⟨gd_of' hz.g1 hz.i1 (hz.b1.to rfl (by grind)), gd_of' hz.g2 hz.i2 (hz.b2.to rfl (by grind))⟩, h1 := by omega, h64 := by omega, lt := lt17, lk := lk17, ht := ?_, hk := ?_, hgd := ?_, hx := ?_, ix := fun k hk => (hf k hk).2.2.2.2.2.1, lo0 := ?_, hi0 := ?_, round := hs, m := hm, s := hsx, fs := hfs, ifs := ifs, t := ?_, f := hfv, gf := gd_of' gfv ifv ⟨by grind, by grind⟩ }
    · intro k hk
      have hk : k < tl.length := hk
      show shareW (k : Nat) (16 : Nat) = some tl[k]
      rw [gt k hk]
      exact share16 (by omega)
    · intro k hk hk'
      have hk : k < tl.length := hk
      have hk' : k < kl.length := hk'
      show atK _ c tl[k] = some kl[k]
      rw [gt k hk, gk k hk']
      exact (hf k (by omega)).1.at_
    · intro k hk
      obtain ⟨i, hi, rfl⟩ := List.mem_iff_getElem.1 (show k ∈ kl from hk)
      rw [gk i hi]
      exact (hf i (by omega)).1.gd
    · intro k hk
      have hk : k < kl.length := hk
      show ∃ r, minusW (kl[k].1, kl[k].2.1) z = some r ∧ _
      rw [gk k hk]
      exact ⟨_, (hf k (by omega)).2.1, (hf k (by omega)).2.2.1⟩
    · intro hh
      show (s 0).1 = tl[(bestF (fun k => (f k).2.2) 17).1 - 1]
      rw [gt _ hh, s0, hbe]
    · intro hh
      show (s 0).2 = tl[min 16 ((bestF (fun k => (f k).2.2) 17).1 + 1)]
      rw [gt _ hh, s0, hbe]
    · intro hh
      show t = if fltB .f32 (some (bestF (fun k => (f k).2.2) 17).2) (some fs) = true then tl[(bestF (fun k => (f k).2.2) 17).1] else sx
      rw [gt _ hh, hbe]
      exact htt
  have all : ∀ fv, rF fv ≤ rF least → ∀ k, k < 17 → rF fv ≤ rF (f k).2.2 ∧ G (f k).2.2 ∧ ∃ p r, AtOk c (sv (k : Int)) p ∧ minusW (p.1, p.2.1) z = some r ∧ longW r.1 r.2 = some (f k).2.2 ∧ rF (f k).2.2 ≤ 31 ∧ Is .f32 (f k).2.2 (some (f k).2.2) := by
    intro fv hle k hk
    obtain ⟨a1, a2, a3, a4, a5, a6, a7, a8⟩ := hf k hk
    exact ⟨Rat.le_trans hle (hleast k hk), a5, (f k).1, (f k).2.1, a1, a2, a3, a8, a6⟩
  by_cases hc : fltB .f32 (some least) (some fs) = true
  · exact ⟨_, mk (sv (b : Int)) least (by rw [if_pos hc]) (by rw [hb2]; exact hb6) (by rw [hb2]; exact hb7) (by rw [hb2]; exact hb8) (by rw [hb2]; exact hb10) (by rw [hb2]; exact hb9), (sv01 hb1).1, by show G least; rw [hb2]; exact hb7, by show Is .f32 least (some least); rw [hb2]; exact hb8, by show 0 ≤ rF least; rw [hb2]; exact hb9, by show rF least ≤ 31; rw [hb2]; exact hb10, all least Rat.le_refl⟩
  · have hle : rF fs ≤ rF least := by
      rw [flt_rF (by rw [hb2]; exact hb7) gfs] at hc
      have hc : ¬ rF least < rF fs := fun h => hc (decide_eq_true h)
      grind
    exact ⟨_, mk sx fs (by rw [if_neg hc]) hfs gfs ifs fs1 fs0, ts, gfs, ifs, fs0, fs1, all fs hle⟩
end Go.Proofs.Ytonbcbhnnflohaa
