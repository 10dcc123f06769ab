/-
  FnNearest: every choice of an input keeps the law, put together.
-/
import Derived.Test.YtonbcbhnnflohaaPj
namespace Go.Proofs.Ytonbcbhnnflohaa
open Go.RowKit

theorem at_uniq {c : List Kn} {t : Nat} {p q : Kn} (h : AtOk c t p) (h' : AtOk c t q) : p = q := by
  have e := h.at_
  rw [h'.at_] at e
  exact (Option.some.inj e).symm
/-- The points at eighths, of a curve and of another that is as long. -/
theorem pts8 {c : List Kn} {X Y : List Rat} (h : PL 0 c X Y) (h2 : 2 ≤ c.length) (h5 : c.length ≤ 5) : ∃ ks : List Kn, ks.length = 9 ∧ (∀ tl : List Nat, tl.length = 9 → (∀ k (_ : k < tl.length), tl[k] = ev (k : Int)) → PtsOk c 8 tl ks) ∧ ∀ k (_ : k < 9) (_ : k < ks.length), KP (c.length - 1) ks[k] (sAt (c.length - 1) X (rF (ev (k : Int)))) (sAt (c.length - 1) Y (rF (ev (k : Int)))) := by
  obtain ⟨f, hf⟩ := Deep.choose_lt (n := 9) (p := fun (k : Nat) (y : Kn) => AtOk c (ev (k : Int)) y ∧ KP (c.length - 1) y (sAt (c.length - 1) X (rF (ev (k : Int)))) (sAt (c.length - 1) Y (rF (ev (k : Int))))) (fun k hk => by
    have ht := ev01 hk
    generalize ev (k : Int) = t at ht
    exact pat h h2 h5 ht)
  obtain ⟨kl, lk, gk⟩ : ∃ l : List Kn, l.length = 9 ∧ ∀ k (_ : k < l.length), l[k] = f k := ⟨(List.range 9).map f, by simp, fun k hk => by simp⟩
  refine ⟨kl, lk, ?_, ?_⟩
  · intro tl lt gt
    refine ⟨h.gc (by omega) h2 (by omega), by omega, by omega, lt, lk, ?_, ?_, ?_⟩
    · intro k hk
      rw [gt k hk]
      exact share8 (by omega)
    · intro k hk hk'
      rw [gt k hk, gk k hk']
      exact (hf k (by omega)).1.at_
    · intro k hk
      obtain ⟨i, hi, rfl⟩ := List.mem_iff_getElem.1 hk
      rw [gk i hi]
      exact (hf i (by omega)).1.gd
  · intro k hk hk'
    rw [gk k hk']
    exact (hf k hk).2
/-- The greatest of numbers that are near to five. -/
theorem maxes {x : Nat → Nat} (hx : ∀ k, k < 9 → G (x k) ∧ Is .f32 (x k) (some (x k)) ∧ Ab (rF (x k) - 5) (7 / 10000)) : ∃ m : Nat → Nat, m 0 = 0 ∧ (∀ k, k < 9 → maxW (m k) (x k) = some (m (k + 1))) ∧ G (m 9) ∧ Is .f32 (m 9) (some (m 9)) ∧ Ab (rF (m 9) - 5) (7 / 10000) := by
  have key : ∀ n, n ≤ 9 → ∃ m : Nat → Nat, m 0 = 0 ∧ (∀ k, k < n → maxW (m k) (x k) = some (m (k + 1))) ∧ G (m n) ∧ Is .f32 (m n) (some (m n)) ∧ (n = 0 ∨ Ab (rF (m n) - 5) (7 / 10000)) ∧ (n = 0 → m n = 0) := by
    intro n
    induction n with
    | zero => intro _; exact ⟨fun _ => 0, rfl, fun k hk => by omega, G0, i32_0, .inl rfl, fun _ => rfl⟩
    | succ n ih =>
      intro hn
      obtain ⟨m, m0, hm, gm, im, bm, zm⟩ := ih (by omega)
      obtain ⟨gx, ix, bx⟩ := hx n (by omega)
      obtain ⟨r, hr, gr, ir, r1, r2, r3⟩ := max_ok gm gx im ix
      refine ⟨fun k => if k ≤ n then m k else r, by simp [m0], ?_, ?_, ?_, .inr ?_, fun h => by omega⟩
      · intro k hk
        by_cases hkn : k = n
        · subst hkn
          show maxW (if k ≤ k then m k else r) (x k) = some (if k + 1 ≤ k then m (k + 1) else r)
          rw [if_pos (Nat.le_refl k), if_neg (by omega)]
          exact hr
        · show maxW (if k ≤ n then m k else r) (x k) = some (if k + 1 ≤ n then m (k + 1) else r)
          rw [if_pos (by omega), if_pos (by omega)]
          exact hm k (by omega)
      · show G (if n + 1 ≤ n then m (n + 1) else r)
        rw [if_neg (by omega)]
        exact gr
      · show Is .f32 (if n + 1 ≤ n then m (n + 1) else r) (some (if n + 1 ≤ n then m (n + 1) else r))
        rw [if_neg (by omega)]
        exact ir
      · show Ab (rF (if n + 1 ≤ n then m (n + 1) else r) - 5) (7 / 10000)
        rw [if_neg (by omega)]
        rcases r3 with h | h
        · rcases bm with hb | hb
          · have z := zm hb
            rw [z] at h
            rw [h, rF0] at r2
            obtain ⟨_, bx2⟩ := bx
            exfalso
            grind
          · rw [h]; exact hb
        · rw [h]; exact bx
  obtain ⟨m, m0, hm, gm, im, bm, _⟩ := key 9 (by omega)
  exact ⟨m, m0, hm, gm, im, bm.resolve_left (by omega)⟩
set_option maxHeartbeats 4000000 in
theorem fn_all (c : List Kn) (h2 : 2 ≤ c.length) (h5 : c.length ≤ 5) (hQ : ∀ k ∈ c, BK 19 k) (i x y : Nat) (hi : i < 9) (hx : x < 33) (hy : y < 33) : ∃ d, FnOk c (ev (i : Int)) (qv ((x : Int) - 8), qv ((y : Int) - 16)) d := by
  have hP := base_P c hQ
  have gcc := hP.gc (by omega) h2 (by omega)
  have Ti := ev01 hi
  obtain ⟨eX, eY⟩ := hP.len
  obtain ⟨k, Ak, Kk⟩ := pat hP h2 h5 Ti
  have zk := Kk.zg (by omega)
  obtain ⟨D1, N1, t1, g1, i1, p1, _, all1⟩ := nr_all hP h2 h5 zk
  -- the first nearest place is at the point
  have hz1 : rF D1.f = 0 := by
    obtain ⟨le, _, p, r, hp, hr, hl, _, _⟩ := all1 (2 * i) (by omega)
    rw [← ev_sv i hi] at hp
    obtain rfl := at_uniq Ak hp
    rw [minus_self zk.g1 zk.g2] at hr
    obtain rfl := Option.some.inj hr
    rw [long00] at hl
    rw [← Option.some.inj hl, rF0] at le
    grind
  -- the second point
  have zz : ZG (qv ((x : Int) - 8), qv ((y : Int) - 16)) := by
    obtain ⟨a1, a2, a3⟩ := qvB_ok (i := (x : Int) - 8) (by omega) (by omega)
    obtain ⟨b1, b2, b3⟩ := qvB_ok (i := (y : Int) - 16) (by omega) (by omega)
    exact ⟨a1, b1, a3, b3, (by show Ab (rF _) _; rw [a2]; exact (quarterB (by omega) (by omega)).to rfl (by grind)), (by show Ab (rF _) _; rw [b2]; exact (quarterB (by omega) (by omega)).to rfl (by grind))⟩
  generalize (qv ((x : Int) - 8), qv ((y : Int) - 16)) = z at zz
  obtain ⟨D2, N2, t2, g2, i2, p2, q2, all2⟩ := nr_all hP h2 h5 zz
  obtain ⟨kh, r, l, Ah, hr, hl, hf, gl, il, l0, l1⟩ := far_t hP h2 h5 zz t2
  have hfl : l = D2.f := by
    have e := N2.f
    rw [hf] at e
    exact Option.some.inj e
  obtain ⟨u, hu, hr'⟩ := ob hr
  obtain ⟨v, hv, hr'⟩ := ob hr'
  obtain rfl := Option.some.inj hr'
  obtain ⟨a1, ha1, fa1, va1, ia1⟩ := wide gl il ⟨by grind, by grind⟩
  obtain ⟨ls, hls, fls, bls⟩ := less001 fa1 ⟨by rw [va1]; grind, by rw [va1]; grind⟩
  -- the box
  have hc : ∀ k ∈ c, (G k.1 ∧ Is .f32 k.1 (some k.1) ∧ Ab (rF k.1) 8) ∧ (G k.2.1 ∧ Is .f32 k.2.1 (some k.2.1) ∧ Ab (rF k.2.1) 8) := by
    intro k hk
    obtain ⟨i, j, a1, a2, b1, b2, rfl⟩ := hQ k hk
    obtain ⟨g1, v1, i1⟩ := qvB_ok (i := i) (by omega) (by omega)
    obtain ⟨g2, v2, i2⟩ := qvB_ok (i := j) (by omega) (by omega)
    exact ⟨⟨g1, i1, by show Ab (rF _) _; rw [v1]; exact quarterB (by omega) (by omega)⟩, g2, i2, by show Ab (rF _) _; rw [v2]; exact quarterB (by omega) (by omega)⟩
  have h0 : 0 < c.length := by omega
  obtain ⟨⟨B1, B3⟩, B2, B4⟩ := boxF_all (P := fun x => G x ∧ Is .f32 x (some x) ∧ Ab (rF x) 8) h0 hc c.length (Nat.le_refl _)
  have hbox := box_le h0 (fun k hk => ⟨(hc k hk).1.1, (hc k hk).2.1⟩) c.length (Nat.le_refl _)
  obtain ⟨b1, hb1, fb1, vb1, _⟩ := wide B1.1 B1.2.1 (B1.2.2.to rfl (by grind))
  obtain ⟨b2, hb2, fb2, vb2, _⟩ := wide B2.1 B2.2.1 (B2.2.2.to rfl (by grind))
  obtain ⟨b3, hb3, fb3, vb3, _⟩ := wide B3.1 B3.2.1 (B3.2.2.to rfl (by grind))
  obtain ⟨b4, hb4, fb4, vb4, _⟩ := wide B4.1 B4.2.1 (B4.2.2.to rfl (by grind))
  obtain ⟨s1, hs1, fs1, bs1⟩ := less001 fb1 (by rw [vb1]; exact B1.2.2.to rfl (by grind))
  obtain ⟨s2, hs2, fs2, bs2⟩ := more001 fb2 (by rw [vb2]; exact B2.2.2.to rfl (by grind))
  obtain ⟨s3, hs3, fs3, bs3⟩ := less001 fb3 (by rw [vb3]; exact B3.2.2.to rfl (by grind))
  obtain ⟨s4, hs4, fs4, bs4⟩ := more001 fb4 (by rw [vb4]; exact B4.2.2.to rfl (by grind))
  have hpx := Px4 (c.length - 1) (by omega)
  -- the sixteenths
  have hpr : ∀ k, k < 17 → ∃ p, PrOk c z ls s1 s2 s3 s4 k p := by
    intro k hk
    obtain ⟨le, gx, p, r, hp, hr, hl, bx, ix⟩ := all2 k hk
    have Tk := (sv01 hk).1
    obtain ⟨p', Ap, Kp⟩ := pat hP h2 h5 Tk
    obtain rfl := at_uniq hp Ap
    have zp := Kp.zg (by omega)
    obtain ⟨u, hu, hr'⟩ := ob hr
    obtain ⟨v, hv, hr'⟩ := ob hr'
    obtain rfl := Option.some.inj hr'
    have px0 : 0 ≤ rF (D2.x k) := by grind
    obtain ⟨a, ha, fa, va, ia⟩ := wide gx ix ⟨by grind, by grind⟩
    obtain ⟨ax, hax, fax, vax, iax⟩ := wide Kp.g1 Kp.i1 (zp.b1.to rfl (by grind))
    obtain ⟨ay, hay, fay, vay, iay⟩ := wide Kp.g2 Kp.i2 (zp.b2.to rfl (by grind))
    have inX : ∀ q, (∀ j (hj : j < c.length), q ≤ rF c[j].1) → q ≤ sAt (c.length - 1) (c.map fun k => rF k.1) (rF (sv (k : Int))) := fun q hq => sAt_ge Tk.h0 Tk.h1 _ _ (by omega) (by
      intro x hx
      obtain ⟨e, he, rfl⟩ := List.mem_map.1 hx
      obtain ⟨j, hj, rfl⟩ := List.mem_iff_getElem.1 he
      exact hq j hj)
    have inX' : ∀ q, (∀ j (hj : j < c.length), rF c[j].1 ≤ q) → sAt (c.length - 1) (c.map fun k => rF k.1) (rF (sv (k : Int))) ≤ q := fun q hq => sAt_le Tk.h0 Tk.h1 _ _ (by omega) (by
      intro x hx
      obtain ⟨e, he, rfl⟩ := List.mem_map.1 hx
      obtain ⟨j, hj, rfl⟩ := List.mem_iff_getElem.1 he
      exact hq j hj)
    have inY : ∀ q, (∀ j (hj : j < c.length), q ≤ rF c[j].2.1) → q ≤ sAt (c.length - 1) (c.map fun k => rF k.2.1) (rF (sv (k : Int))) := fun q hq => sAt_ge Tk.h0 Tk.h1 _ _ (by omega) (by
      intro x hx
      obtain ⟨e, he, rfl⟩ := List.mem_map.1 hx
      obtain ⟨j, hj, rfl⟩ := List.mem_iff_getElem.1 he
      exact hq j hj)
    have inY' : ∀ q, (∀ j (hj : j < c.length), rF c[j].2.1 ≤ q) → sAt (c.length - 1) (c.map fun k => rF k.2.1) (rF (sv (k : Int))) ≤ q := fun q hq => sAt_le Tk.h0 Tk.h1 _ _ (by omega) (by
      intro x hx
      obtain ⟨e, he, rfl⟩ := List.mem_map.1 hx
      obtain ⟨j, hj, rfl⟩ := List.mem_iff_getElem.1 he
      exact hq j hj)
    have m1 := inX _ fun j hj => (hbox j hj hj).1.1
    have m2 := inX' _ fun j hj => (hbox j hj hj).2.1
    have m3 := inY _ fun j hj => (hbox j hj hj).1.2
    have m4 := inY' _ fun j hj => (hbox j hj hj).2.2
    obtain ⟨kx1, kx2⟩ := Kp.x
    obtain ⟨ky1, ky2⟩ := Kp.y
    refine ⟨p, hp, ⟨u, D2.x k, a, hu, v, hv, hl, ha, ia, notlt fa fls ?_⟩, ⟨ax, hax, iax, notlt fax fs1 ?_, notgt fax fs2 ?_⟩, ay, hay, iay, notlt fay fs3 ?_, notgt fay fs4 ?_⟩
    · rw [va]
      rw [va1, hfl] at bls
      grind
    · rw [vax]; rw [vb1] at bs1; grind
    · rw [vax]; rw [vb2] at bs2; grind
    · rw [vay]; rw [vb3] at bs3; grind
    · rw [vay]; rw [vb4] at bs4; grind
  obtain ⟨ps, hps⟩ := Deep.choose_lt hpr
  -- the moved curve
  obtain ⟨m, hm, hM⟩ := move_P c hQ
  obtain ⟨hml, _⟩ := moveC_get _ c m hm
  obtain ⟨ks, lks, hks, Kks⟩ := pts8 hP h2 h5
  obtain ⟨ms, lms, hms, Kms⟩ := pts8 hM (by omega) (by omega)
  obtain ⟨tl, lt, gt⟩ : ∃ l : List Nat, l.length = 9 ∧ ∀ k (_ : k < l.length), l[k] = ev (k : Int) := ⟨(List.range 9).map fun k => ev ((k : Nat) : Int), by simp, fun k hk => by simp⟩
  have each : ∀ k, k < 9 → ∃ l, (∀ (a : k < ks.length) (b : k < ms.length), ∃ r, minusW (ks[k].1, ks[k].2.1) (ms[k].1, ms[k].2.1) = some r ∧ longW r.1 r.2 = some l) ∧ G l ∧ Is .f32 l (some l) ∧ Ab (rF l - 5) (7 / 10000) := by
    intro k hk
    have K1 := Kks k hk (by omega)
    have K2 := Kms k hk (by omega)
    rw [hml, sAt_shift _ _ _ _ (by omega), sAt_shift _ _ _ _ (by omega)] at K2
    obtain ⟨r, l, e1, e2, e3, e4, e5⟩ := five K1 K2 (by omega)
    exact ⟨l, fun _ _ => ⟨r, e1, e2⟩, e3, e4, e5⟩
  obtain ⟨x1, hx1⟩ := Deep.choose_lt each
  obtain ⟨m1, hm10, hm1, gm1, im1, bm1⟩ := maxes (x := x1) fun k hk => ⟨(hx1 k hk).2.1, (hx1 k hk).2.2.1, (hx1 k hk).2.2.2⟩
  obtain ⟨bm1a, bm1b⟩ := bm1
  obtain ⟨w1, hw1, fw1, vw1, iw1⟩ := wide gm1 im1 ⟨by grind, by grind⟩
  have sm := small126
  have one := one127
  obtain ⟨g, hg, fg, ig, bg⟩ : ∃ g, gapW w1 4617315517961601024 = some g ∧ Fin .f64 (some g) ∧ Is .f64 g (some g) ∧ rv .f64 g ≤ 71 / 100000 := by
    unfold gapW
    by_cases hb : fltB .f64 (some w1) (some 4617315517961601024) = true
    · obtain ⟨f, n⟩ := sub_near F5 fw1 (M := 1) ⟨by rw [v5, vw1]; grind, by rw [v5, vw1]; grind⟩ (by grind) one
      obtain ⟨s, hs⟩ := fin_some' f
      rw [hs, u64, v5, vw1] at n
      rw [hs] at f
      obtain ⟨n1, n2⟩ := n
      simp only [cv] at n1 n2
      rw [if_pos hb]
      exact ⟨s, hs, f, fop_is hs, by grind⟩
    · obtain ⟨f, n⟩ := sub_near fw1 F5 (M := 1) ⟨by rw [v5, vw1]; grind, by rw [v5, vw1]; grind⟩ (by grind) one
      obtain ⟨s, hs⟩ := fin_some' f
      rw [hs, u64, v5, vw1] at n
      rw [hs] at f
      obtain ⟨n1, n2⟩ := n
      simp only [cv] at n1 n2
      rw [if_neg hb]
      exact ⟨s, hs, f, fop_is hs, by grind⟩
  have v1' := v001
  have lD : LtD g 4562254508917369340 := by
    refine ⟨ig, ?_⟩
    rw [flt_iff fg F001]
    refine decide_eq_true ?_
    show rv .f64 g < rv .f64 4562254508917369340
    grind
  have T1 := t1.h0
  have T1' := t1.h1
  refine ⟨⟨k, D1, D2, kh, u, v, l, a1, a1, 0, ls, b1, b2, b3, b4, s1, s2, s3, s4, ps, tl, ks, ms, m, fun _ => 0, fun _ => 0, x1, m1, w1, g⟩, ?_⟩
  refine { gc := gcc, ha := Ak, n1 := N1, c1 := ⟨i1, ?_, ?_⟩, c2 := ⟨t1.i, ?_, ?_⟩, n2 := N2, hh := Ah, u := hu, v := hv, l := hl, a1 := ha1, i1 := ia1, a2 := by rw [← hfl]; exact ha1, i2 := ia1, g := gap_self fa1, gl := le00, ls := hls, b1 := hb1, b2 := hb2, b3 := hb3, b4 := hb4, s1 := hs1, s2 := hs2, s3 := hs3, s4 := hs4, pr := hps, p1 := hks tl lt gt, f1 := ⟨?_, fun _ _ => gd00, rfl, fun _ _ => max00⟩, e1 := ⟨i32_0, by show feqB .f32 (some 0) (some 0) = true; decide +kernel⟩, m := hm, gm := hM.gc (by omega) (by omega) (by omega), gz := GcC, p2 := hms tl lt gt, f2 := ⟨?_, ?_, hm10, hm1⟩, w1 := hw1, iw := iw1, g2 := hg, l2 := lD }
  · rw [flt_rF g1 G0, rF0]
    exact decide_eq_false (by grind)
  · rw [fgt_rF g1 G05]
    have := f05
    exact decide_eq_false (by grind)
  · rw [flt_rF t1.g G0, rF0]
    exact decide_eq_false (by grind)
  · rw [fgt_rF t1.g G1, one3]
    exact decide_eq_false (by grind)
  · intro j hj _
    have hj : j < ks.length := hj
    have K1 := Kks j (by omega) hj
    exact ⟨(0, 0), minus_self K1.g1 K1.g2, long00⟩
  · intro j hj hj'
    have hj : j < ks.length := hj
    have hj' : j < ms.length := hj'
    exact (hx1 j (by omega)).1 hj hj'
  · intro j hj
    obtain ⟨_, a, b, c1, c2⟩ := hx1 j hj
    exact gd_of' a b ⟨by grind, by grind⟩
end Go.Proofs.Ytonbcbhnnflohaa
