/-
  FnLengths: every choice of a curve keeps the law.
-/
import Derived.Test.YtonbcbhnnflohaaWi
import Derived.Test.YtonbcbhnnflohaaWm
import Derived.Test.YtonbcbhnnflohaaRows
import Derived.JoinedOf
import Derived.KernelRfl
namespace Go.Proofs.Ytonbcbhnnflohaa
open Go.RowKit

/-! ## wide numbers -/
theorem less001' {b : Nat} (h : Fin .f64 (some b)) (hb : Ab (rv .f64 b) 40) : ∃ s, fop .sub .f64 (some b) (some 4562254508917369340) = some s ∧ Fin .f64 (some s) ∧ rv .f64 s ≤ rv .f64 b - 99 / 100000 := by
  have v1 := v001
  have sm := small126
  have big := big127
  obtain ⟨b1, b2⟩ := hb
  obtain ⟨f, n⟩ := sub_near h F001 (M := 64) ⟨by grind, by grind⟩ (by grind) (by grind)
  obtain ⟨s, hs⟩ := fin_some' f
  rw [hs, u64] at n
  rw [hs] at f
  obtain ⟨n1, n2⟩ := n
  simp only [cv] at n1 n2
  exact ⟨s, hs, f, by grind⟩
theorem more001' {b : Nat} (h : Fin .f64 (some b)) (hb : Ab (rv .f64 b) 40) : ∃ s, fop .add .f64 (some b) (some 4562254508917369340) = some s ∧ Fin .f64 (some s) ∧ rv .f64 b + 99 / 100000 ≤ rv .f64 s := by
  have v1 := v001
  have sm := small126
  have big := big127
  obtain ⟨b1, b2⟩ := hb
  obtain ⟨f, n⟩ := add_near h F001 (M := 64) ⟨by grind, by grind⟩ (by grind) (by grind)
  obtain ⟨s, hs⟩ := fin_some' f
  rw [hs, u64] at n
  rw [hs] at f
  obtain ⟨n1, n2⟩ := n
  simp only [cv] at n1 n2
  exact ⟨s, hs, f, by grind⟩
theorem notlt' {k : FloatKind} {a b : Nat} (ha : Fin k (some a)) (hb : Fin k (some b)) (h : rv k b ≤ rv k a) : fltB k (some a) (some b) = false := by
  rw [flt_iff ha hb]
  refine decide_eq_false ?_
  show ¬ rv k a < rv k b
  grind
theorem notgt' {k : FloatKind} {a b : Nat} (ha : Fin k (some a)) (hb : Fin k (some b)) (h : rv k a ≤ rv k b) : fgtB k (some a) (some b) = false := by
  rw [fgt_iff ha hb]
  refine decide_eq_false ?_
  show ¬ rv k b < rv k a
  grind
theorem gap001 {a b : Nat} (ha : Fin .f64 (some a)) (hb : Fin .f64 (some b)) (h : Ab (rv .f64 a - rv .f64 b) (95 / 100000)) : ∃ g, gapW a b = some g ∧ LeD g 4562254508917369340 ∧ LtD g 4562254508917369340 := by
  have sm := small126
  have one := one127
  have v1 := v001
  obtain ⟨h1, h2⟩ := h
  obtain ⟨g, hg, fg, ig, bg⟩ : ∃ g, gapW a b = some g ∧ Fin .f64 (some g) ∧ Is .f64 g (some g) ∧ rv .f64 g ≤ 96 / 100000 := by
    unfold gapW
    by_cases hl : fltB .f64 (some a) (some b) = true
    · obtain ⟨f, n⟩ := sub_near hb ha (M := 1 / 1000) ⟨by grind, by grind⟩ (by grind) (by grind)
      obtain ⟨s, hs⟩ := fin_some' f
      rw [hs, u64] at n
      rw [hs] at f
      obtain ⟨n1, n2⟩ := n
      simp only [cv] at n1 n2
      rw [if_pos hl]
      exact ⟨s, hs, f, fop_is hs, by grind⟩
    · obtain ⟨f, n⟩ := sub_near ha hb (M := 1 / 1000) ⟨by grind, by grind⟩ (by grind) (by grind)
      obtain ⟨s, hs⟩ := fin_some' f
      rw [hs, u64] at n
      rw [hs] at f
      obtain ⟨n1, n2⟩ := n
      simp only [cv] at n1 n2
      rw [if_neg hl]
      exact ⟨s, hs, f, fop_is hs, by grind⟩
  refine ⟨g, hg, ⟨ig, notgt' fg F001 (by grind)⟩, ⟨ig, ?_⟩⟩
  rw [flt_iff fg F001]
  refine decide_eq_true ?_
  show rv .f64 g < rv .f64 4562254508917369340
  grind
theorem one64 : Fin .f64 (some 4607182418800017408) ∧ rv .f64 4607182418800017408 = 1 := ⟨by show rung FloatKind.f64.format 4607182418800017408 < _; decide +kernel, by decide +kernel⟩
/-! ## shares -/
def shm (m k : Nat) : Nat := (shareW (k : Nat) ((m : Int) - 1)).getD 0
def shB (m k : Nat) : Bool := (shareW (k : Nat) ((m : Int) - 1)).isSome && decide (rung FloatKind.f32.format (shm m k) < FloatKind.f32.format.infRung) && decide (0 ≤ rF (shm m k)) && decide (rF (shm m k) ≤ 1) && (decide (m ≤ k + 1) || decide (rF (shm m k) + 1 / 7 ≤ rF (shm m (k + 1))))
theorem sh_table : ∀ m : Nat, m < 8 → ∀ k : Nat, k < m → m < 2 ∨ shB m k = true := by decide +kernel
theorem sh_ends : ∀ m : Nat, m < 8 → m < 2 ∨ shm m 0 = 0 ∧ shm m (m - 1) = 1065353216 := by decide +kernel
theorem shares_ex {m : Nat} (h2 : 2 ≤ m) (h7 : m ≤ 7) : ∃ σ : Nat → Nat, (∀ k, k < m → shareW (k : Nat) ((m : Int) - 1) = some (σ k)) ∧ (∀ k, k < m → T01 (σ k)) ∧ (∀ k, k + 1 < m → rF (σ k) + 1 / 7 ≤ rF (σ (k + 1))) ∧ σ 0 = 0 ∧ σ (m - 1) = 1065353216 := by
  have hs : ∀ k, k < m → shB m k = true := fun k hk => (sh_table m (by omega) k hk).resolve_left (by omega)
  have he := (sh_ends m (by omega)).resolve_left (by omega)
  have share : ∀ k, k < m → shareW (k : Nat) ((m : Int) - 1) = some (shm m k) := by
    intro k hk
    have h := hs k hk
    unfold shB at h
    simp only [Bool.and_eq_true] at h
    obtain ⟨r, hr⟩ := Option.isSome_iff_exists.1 h.1.1.1.1
    unfold shm
    rw [hr]
    rfl
  refine ⟨shm m, share, ?_, ?_, he.1, he.2⟩
  · intro k hk
    have h := hs k hk
    unfold shB at h
    simp only [Bool.and_eq_true, decide_eq_true_eq] at h
    exact ⟨h.1.1.1.2, fop_is (share k hk), h.1.1.2, h.1.2⟩
  · intro k hk
    have h := hs k (by omega)
    unfold shB at h
    simp only [Bool.and_eq_true, Bool.or_eq_true, decide_eq_true_eq] at h
    exact h.2.resolve_left (by omega)
theorem share_l {s : Nat → Nat} {n sh : Nat} (T : TabF s n) (hsh : T01 sh) : ∃ l, fop .mul .f32 (some sh) (some (s n)) = some l ∧ G l ∧ 0 ≤ rF l ∧ Ab (rF l - rF sh * rF (s n)) (23 * U) := by
  have big := big127
  have hi := T.hi
  have t0 := T.le (i := 0) (j := n) (by omega) (Nat.le_refl _)
  rw [T.s0] at t0
  have h0 := hsh.h0
  have h1 := hsh.h1
  have p0 := Rat.mul_nonneg h0 t0
  have p1 := Rat.mul_nonneg (a := 1 - rF sh) (b := rF (s n)) (by grind) t0
  obtain ⟨l, hl, gl, dl⟩ := m32 (M := 23) hsh.g (T.g n (Nat.le_refl _)).1 ⟨by grind, by grind⟩ (by grind) (by grind)
  have z := mul_nn (k := .f32) hsh.g (T.g n (Nat.le_refl _)).1 p0 (by show rF sh * rF (s n) < _; grind)
  rw [hl] at z
  exact ⟨l, hl, gl, z, dl⟩
theorem TmR.le {s : Nat → Nat} {n sh l sh' l' : Nat} {D D' : TmD} {w w' : Rat} (T : TabF s n) (h : TmR s n sh l D w) (h' : TmR s n sh' l' D' w') (hl : rF l + 19 / 10000 ≤ rF l') : rF D.t ≤ rF D'.t := by
  have e := h.pl.lt T h'.pl (dl := 19 / 10000) (by grind) (by grind) hl
  obtain ⟨a1, a2⟩ := h.t
  obtain ⟨b1, b2⟩ := h'.t
  have n16 := n16 T.n16
  have n1 : (1 : Rat) ≤ (n : Rat) := Rat.natCast_le_natCast.2 T.n1
  apply Rat.not_lt.1
  intro hlt
  have := Rat.mul_pos (a := rF D.t - rF D'.t) (b := (n : Rat)) (by grind) (by grind)
  grind
theorem TmR.pos {s : Nat → Nat} {n sh l sh' l' : Nat} {D D' : TmD} {w w' : Rat} (T : TabF s n) (h : TmR s n sh l D w) (h' : TmR s n sh' l' D' w') (hl : rF l + 19 / 10000 ≤ rF l') : 0 ≤ rF D'.t := by
  have e := h.pl.lt T h'.pl (dl := 19 / 10000) (by grind) (by grind) hl
  obtain ⟨b1, b2⟩ := h'.t
  have n16 := n16 T.n16
  have n1 : (1 : Rat) ≤ (n : Rat) := Rat.natCast_le_natCast.2 T.n1
  have k1 : (1 : Rat) ≤ (D.k : Rat) := Rat.natCast_le_natCast.2 h.pl.k1
  have w0 := h.pl.w0
  apply Rat.not_lt.1
  intro hlt
  have := Rat.mul_pos (a := -rF D'.t) (b := (n : Rat)) (by grind) (by grind)
  grind
theorem TmR.one {s : Nat → Nat} {n sh l sh' l' : Nat} {D D' : TmD} {w w' : Rat} (T : TabF s n) (h : TmR s n sh l D w) (h' : TmR s n sh' l' D' w') (hl : rF l + 19 / 10000 ≤ rF l') : rF D.t ≤ 1 := by
  have e := h.pl.lt T h'.pl (dl := 19 / 10000) (by grind) (by grind) hl
  obtain ⟨b1, b2⟩ := h.t
  have n16 := n16 T.n16
  have n1 : (1 : Rat) ≤ (n : Rat) := Rat.natCast_le_natCast.2 T.n1
  have kn : (D'.k : Rat) ≤ (n : Rat) := Rat.natCast_le_natCast.2 h'.pl.kn
  have w1 := h'.pl.w1
  apply Rat.not_lt.1
  intro hlt
  have := Rat.mul_pos (a := rF D.t - 1) (b := (n : Rat)) (by grind) (by grind)
  grind
theorem TmR.zero {s : Nat → Nat} {n sh l : Nat} {D : TmD} {w : Rat} (T : TabF s n) (h : TmR s n sh l D w) (hl : rF l = 0) : rF D.t = 0 := by
  refine h.nz ?_ hl
  have P := h.pl
  have k1 := P.k1
  have kn := P.kn
  have w0 := P.w0
  have e := P.at_
  apply Classical.byContradiction
  intro hne
  have a := T.le (i := 1) (j := D.k - 1) (by omega) (by omega)
  have b := T.up 0 (by have := T.n1; omega)
  have c := T.up (D.k - 1) (by omega)
  rw [show D.k - 1 + 1 = D.k by omega] at c
  rw [T.s0] at b
  have := Rat.mul_nonneg (a := w) (b := rF (s D.k) - rF (s (D.k - 1))) w0 (by grind)
  grind
theorem TmR.last {s : Nat → Nat} {n sh l : Nat} {D : TmD} {w : Rat} (T : TabF s n) (h : TmR s n sh l D w) (hl : l = s n) : rF D.t = 1 := by
  refine h.no ?_ hl
  have P := h.pl
  have k1 := P.k1
  have kn := P.kn
  have w1 := P.w1
  have e := P.at_
  rw [hl] at e
  apply Classical.byContradiction
  intro hne
  have a := T.le (i := D.k + 1) (j := n) (by omega) (Nat.le_refl _)
  have b := T.up D.k (by omega)
  have c := T.up (D.k - 1) (by omega)
  rw [show D.k - 1 + 1 = D.k by omega] at c
  have := Rat.mul_nonneg (a := 1 - w) (b := rF (s D.k) - rF (s (D.k - 1))) (by grind) (by grind)
  grind
theorem in01 {x : Nat} (h : G x) (h0 : 0 ≤ rF x) (h1 : rF x ≤ 1) : In01 x := by
  have a : rv .f32 0 = 0 := rF00
  have b : rv .f32 1065353216 = 1 := one3
  exact ⟨notlt' h G0 (by rw [a]; exact h0), notgt' h G1 (by rw [b]; exact h1)⟩
instance : Inhabited TmD := ⟨⟨0, 0, 0, 0, 0, 0, 0⟩⟩
set_option maxHeartbeats 1000000 in
theorem ev_ex {s : Nat → Nat} {n m : Nat} (T : TabF s n) (h2 : 2 ≤ m) (h7 : m ≤ 7) : ∃ e, EvOk s n m e := by
  obtain ⟨σ, σs, σt, σu, σ0, σ1⟩ := shares_ex h2 h7
  have n1 := T.n1
  have hi := T.hi
  obtain ⟨gn, in_⟩ := T.g n (Nat.le_refl _)
  have tlow : 14 / 1000 ≤ rF (s n) := by
    have a := T.up 0 (by omega)
    have b := T.le (i := 1) (j := n) (by omega) (Nat.le_refl _)
    rw [T.s0] at a
    rw [Nat.zero_add] at a
    grind
  -- the first, the last
  have lastL : fop .mul .f32 (some 1065353216) (some (s n)) = some (s n) := by
    obtain ⟨j, q, hx, hj, hq, hq1⟩ := rep gn ⟨by grind, by grind⟩
    have e := ex_one.mul hx (by omega) (by omega) (by omega)
    obtain ⟨r, hr, gr, vr⟩ := e.ex
    have hv : rv .f32 (s n) = (j : Rat) * p2 q := hx.val
    have : rF r = rF (s n) := by
      show rv .f32 r = rv .f32 (s n)
      rw [vr, hv, Rat.intCast_mul, show ((1 : Int) : Rat) = 1 from rfl, Int.zero_add]
      grind
    rw [hr, word_of_val gr gn (fop_is hr) in_ this (by rw [this]; grind)]
  have firstL : ∃ l, fop .mul .f32 (some 0) (some (s n)) = some l ∧ G l ∧ rF l = 0 := by
    obtain ⟨j, q, hx, hj, hq, hq1⟩ := rep gn ⟨by grind, by grind⟩
    have e := (ex_zero G0 rF00).mul hx (by omega) (by omega) (by omega)
    rw [Int.zero_mul] at e
    obtain ⟨r, hr, gr, vr⟩ := z_of e
    exact ⟨r, hr, gr, vr⟩
  have all : ∀ k, k < m → ∃ y : Nat × TmD × Rat, fop .mul .f32 (some (σ k)) (some (s n)) = some y.1 ∧ Ab (rF y.1 - rF (σ k) * rF (s n)) (23 * U) ∧ TmR s n (σ k) y.1 y.2.1 y.2.2 := by
    intro k hk
    have ht := σt k hk
    obtain ⟨l, hl, gl, l0, dl⟩ := share_l T ht
    have lT : rF l ≤ rF (s n) := by
      by_cases hk1 : k + 1 < m
      · have u := σu k hk1
        have t1 := (σt (k + 1) hk1).h1
        have := Rat.mul_nonneg (a := 6 / 7 - rF (σ k)) (b := rF (s n)) (by grind) (by grind)
        obtain ⟨d1, d2⟩ := dl
        grind
      · obtain rfl : k = m - 1 := by omega
        rw [σ1, lastL] at hl
        obtain rfl := Option.some.inj hl
        exact Rat.le_refl
    obtain ⟨D, w, R⟩ := tm_ex T ht.Tm hl gl l0 lT
    exact ⟨(l, D, w), hl, dl, R⟩
  obtain ⟨f, hf⟩ := Deep.choose_lt (n := m) (p := fun (k : Nat) (y : Nat × TmD × Rat) => fop .mul .f32 (some (σ k)) (some (s n)) = some y.1 ∧ Ab (rF y.1 - rF (σ k) * rF (s n)) (23 * U) ∧ TmR s n (σ k) y.1 y.2.1 y.2.2) all
  have f0 : rF (f 0).1 = 0 := by
    obtain ⟨l, hl, gl, vl⟩ := firstL
    have h := (hf 0 (by omega)).1
    rw [σ0, hl] at h
    rw [← Option.some.inj h]
    exact vl
  have f1 : (f (m - 1)).1 = s n := by
    have h := (hf (m - 1) (by omega)).1
    rw [σ1, lastL] at h
    exact (Option.some.inj h).symm
  have step : ∀ k, k + 1 < m → rF (f k).1 + 19 / 10000 ≤ rF (f (k + 1)).1 := by
    intro k hk
    have u := σu k hk
    obtain ⟨_, ⟨d1, d2⟩, _⟩ := hf k (by omega)
    obtain ⟨_, ⟨d3, d4⟩, _⟩ := hf (k + 1) hk
    have := Rat.mul_nonneg (a := rF (σ (k + 1)) - rF (σ k) - 1 / 7) (b := rF (s n)) (by grind) (by grind)
    grind
  have up0 : ∀ k, 0 < k → k < m → rF (f 0).1 + 19 / 10000 ≤ rF (f k).1 := by
    intro k
    induction k with
    | zero => intro h; omega
    | succ k ih =>
      intro _ hk
      have a := step k hk
      by_cases h : k = 0
      · subst h; exact a
      · have := ih (by omega) (by omega)
        grind
  have up1 : ∀ j k, k + j = m - 1 → 0 < j → rF (f k).1 + 19 / 10000 ≤ rF (f (m - 1)).1 := by
    intro j
    induction j with
    | zero => intro k _ h; omega
    | succ j ih =>
      intro k hk _
      have a := step k (by omega)
      by_cases h : j = 0
      · subst h
        rw [show m - 1 = k + 1 by omega]
        exact a
      · have := ih (k + 1) (by omega) (by omega)
        grind
  have R0 := (hf 0 (by omega)).2.2
  have R1 := (hf (m - 1) (by omega)).2.2
  have t0 := R0.zero T f0
  have t1 := R1.last T f1
  have inAll : ∀ k, k < m → In01 (f k).2.1.t := by
    intro k hk
    have R := (hf k hk).2.2
    refine in01 R.g ?_ ?_
    · by_cases h : k = 0
      · subst h; rw [t0]; exact Rat.le_refl
      · exact R0.pos T R (up0 k (by omega) hk)
    · by_cases h : k = m - 1
      · subst h; rw [t1]; exact Rat.le_refl
      · exact R.one T R1 (up1 (m - 1 - k) k (by omega) (by omega))
  -- the half
  have hhalf : rF 1056964608 = 1 / 2 := by decide +kernel
  obtain ⟨lh, hlh, glh, l0, dl⟩ := share_l T (sh := 1056964608) ⟨by show rung FloatKind.f32.format 1056964608 < _; decide +kernel, Is_lit (by decide +kernel), by rw [hhalf]; grind, by rw [hhalf]; grind⟩
  rw [hhalf] at dl
  obtain ⟨d1, d2⟩ := dl
  obtain ⟨H, wh, RH⟩ := tm_ex T tm_half hlh glh l0 (by grind)
  have hb : rF (f 0).1 + 19 / 10000 ≤ rF lh := by rw [f0]; grind
  have ht : rF lh + 19 / 10000 ≤ rF (f (m - 1)).1 := by rw [f1]; grind
  obtain ⟨w, hw, fw, vw, iw⟩ := wide R1.g R1.ok.gd.is (by rw [t1]; constructor <;> grind)
  rw [t1] at vw
  obtain ⟨g, hg, lg, _⟩ := gap001 fw one64.1 (by rw [vw, one64.2]; constructor <;> grind)
  refine ⟨⟨σ, fun k => (f k).2.1, H, w, g⟩, ⟨σs, fun k hk => (hf k hk).2.2.ok, RH.ok, in01 RH.g (R0.pos T RH hb) (RH.one T R1 ht), feq_true R0.g t0, hw, iw, hg, lg, inAll, ?_⟩⟩
  intro k h0 hk
  have R := (hf k hk).2.2
  have R' := (hf (k - 1) (by omega)).2.2
  have a := step (k - 1) (by omega)
  rw [show k - 1 + 1 = k by omega] at a
  exact notlt' R.g R'.g (R'.le T R a)
/-! ## the law -/
set_option maxHeartbeats 1000000 in
theorem fl_all (c : List Kn) (h2 : 2 ≤ c.length) (h6 : c.length ≤ 6) (hQ : ∀ i (_ : i < c.length), BKi i c[i]) (n : Nat) (hn1 : 1 ≤ n) (hn16 : n ≤ 16) : ∃ d, FlOk c n d ∧ ∀ m, 2 ≤ m → m ≤ 7 → ∃ e, EvOk d.C.s n m e := by
  have hB : BR 0 c := BR.of c 0 (fun j hj => by rw [Nat.zero_add]; exact hQ j hj)
  have gc := GC_of hB (by omega) h2
  obtain ⟨C, hC, F⟩ := chords hB h2 h6 hn1 hn16
  obtain ⟨nv, np, N⟩ := near_ex hB h2 h6
  obtain ⟨fl, hfl⟩ := frl_ex c (by omega) (hB.pb (by omega))
  have T : TabF C.s n := ⟨hn1, hn16, F.g, F.z, F.up, F.hi⟩
  have lfl := hfl.len
  have hfr := hB.frame (by omega) hfl
  have f5 := i5 (i := fl.length) (by omega)
  have f0 : (0 : Rat) ≤ (fl.length : Rat) := Rat.natCast_nonneg
  have sn : 0 ≤ sumR fl := by rw [← ps_all]; exact ps_nn hfl.nn (Nat.le_refl _)
  obtain ⟨hS, hS'⟩ := sums_near hfl.g hfl.nn (T := 22) (by rw [ps_all]; grind) (by grind) (by grind) (by omega)
  obtain ⟨gf, if_, ef⟩ := hS' fl.length (Nat.le_refl _)
  rw [ps_all] at ef
  obtain ⟨e1, e2⟩ := ef
  -- the ends
  have pb := hB.pb (by omega)
  have hl : c.length - 1 < c.length := by omega
  have h0 : 0 < c.length := by omega
  have pl := pb _ (List.getElem_mem hl)
  have p0 := pb _ (List.getElem_mem h0)
  obtain ⟨r, el, hr, hel, hg⟩ := len_near (a := pt c[0]) (b := pt c[c.length - 1]) p0.g1 p0.g2 pl.g1 pl.g2 p0.x p0.y pl.x pl.y
  obtain ⟨eu, heu, hr⟩ := ob hr
  obtain ⟨ev, hev, hr⟩ := ob hr
  obtain rfl := Option.some.inj hr
  have hx0 : (xs c).headD 0 = rF c[0].1 ∧ (ys c).headD 0 = rF c[0].2.1 := by
    cases c with
    | nil => simp at h2
    | cons a r => exact ⟨rfl, rfl⟩
  have hx1 : (xs c).getLastD 0 = rF c[c.length - 1].1 ∧ (ys c).getLastD 0 = rF c[c.length - 1].2.1 := by
    have key : ∀ g : Kn → Rat, (c.map g).getLastD 0 = g c[c.length - 1] := by
      intro g
      rw [List.getLastD_eq_getLast?, List.getLast?_map, List.getLast?_eq_getElem?, List.getElem?_eq_getElem hl]
      rfl
    exact ⟨key _, key _⟩
  have bc := F.bot
  have bn := N.bot
  rw [hx0.1, hx0.2, hx1.1, hx1.2] at bc bn
  have tc := F.top fl hfl
  have tn_ := N.top fl hfl
  have hi := F.hi
  have nhi := N.hi
  have nlo := N.lo
  have ec := hg.lo _ (by grind) bc
  have en := hg.lo _ (by grind) bn
  have enn := hg.nn
  have t0 := T.le (i := 0) (j := n) (by omega) (Nat.le_refl _)
  rw [T.s0] at t0
  obtain ⟨gn, in_⟩ := F.g n (Nat.le_refl _)
  obtain ⟨e6, he6, fe6, ve6, _⟩ := wide hg.g hg.is ⟨by grind, by grind⟩
  obtain ⟨x6, hx6, fx6, vx6, ix6⟩ := wide gn in_ ⟨by grind, by grind⟩
  obtain ⟨f6, hf6, ff6, vf6, _⟩ := wide gf if_ ⟨by grind, by grind⟩
  obtain ⟨n6, hn6, fn6, vn6, in6⟩ := wide N.g N.i ⟨by grind, by grind⟩
  obtain ⟨hi', hhi, fhi, vhi⟩ := more001' ff6 (by rw [vf6]; constructor <;> grind)
  obtain ⟨lo', hlo, flo, vlo⟩ := less001' fe6 (by rw [ve6]; constructor <;> grind)
  refine ⟨⟨C, fl, sF fl, nv, np, eu, ev, el, e6, x6, f6, n6, hi', lo'⟩, ⟨gc, hC, hfl.gaps, hS, gd_any gf if_, N.look, gd_any N.g N.i, ⟨N.np.1, Nat.le_trans N.np.2 (by decide)⟩, fun _ _ => heu, fun _ _ => hev, hel, he6, hx6, hf6, hn6, ix6, in6, hhi, hlo, ?_, ?_, ?_, ?_, ?_, ?_⟩, fun m m2 m7 => ev_ex T m2 m7⟩
  · exact notgt' fx6 fhi (by rw [vx6]; rw [vf6] at vhi; grind)
  · exact notlt' fx6 flo (by rw [vx6]; rw [ve6] at vlo; grind)
  · exact notgt' fn6 fhi (by rw [vn6]; rw [vf6] at vhi; grind)
  · exact notlt' fn6 flo (by rw [vn6]; rw [ve6] at vlo; grind)
  · intro k hk
    have a := T.le (i := 0) (j := k) (by omega) hk
    rw [T.s0] at a
    have z : rv .f32 0 = 0 := rF00
    exact notlt' (F.g k hk).1 G0 (by rw [z]; exact a)
  · intro k hk0 hk
    have a := F.up (k - 1) (by omega)
    rw [show k - 1 + 1 = k by omega] at a
    exact notlt' (F.g k hk).1 (F.g (k - 1) (by omega)).1 (by show rF (C.s (k - 1)) ≤ rF (C.s k); grind)
theorem ln_all (c : List Kn) (h2 : c.length = 2) (hQ : ∀ i (_ : i < c.length), BKi i c[i]) (n : Nat) (hn1 : 1 ≤ n) (hn16 : n ≤ 16) : ∃ d, LnOk c n d := by
  have hB : BR 0 c := BR.of c 0 (fun j hj => by rw [Nat.zero_add]; exact hQ j hj)
  obtain ⟨C, hC, F⟩ := chords hB (by omega) (by omega) hn1 hn16
  have pb := hB.pb (by omega)
  match c, h2 with
  | [a, b], _ =>
    have pa := pb a (by simp)
    have pb' := pb b (by simp)
    obtain ⟨r, l, hr, hl, hg⟩ := len_near (a := pt a) (b := pt b) pa.g1 pa.g2 pb'.g1 pb'.g2 pa.x pa.y pb'.x pb'.y
    have hfl : FrL [a, b] [l] := .cons ⟨r, hr, hl⟩ hg (.one b)
    have tc := F.top [l] hfl
    have hfr := hB.frame (by simp) hfl
    have bc : Le (rF b.1 - rF a.1) (rF b.2.1 - rF a.2.1) (rF (C.s n) + 1600 * U) := F.bot
    have s1 : sumR [l] = rF l + 0 := rfl
    rw [s1] at tc hfr
    have l1 : ((([l] : List Nat).length : Nat) : Rat) = 1 := rfl
    rw [l1] at hfr
    have hi := F.hi
    have ec := hg.lo _ (by grind) bc
    have enn := hg.nn
    have bnn := bc.nn
    obtain ⟨gn, in_⟩ := F.g n (Nat.le_refl _)
    obtain ⟨u, hu, hr⟩ := ob hr
    obtain ⟨v, hv, hr⟩ := ob hr
    obtain rfl := Option.some.inj hr
    obtain ⟨x, hx, fx, vx, ix⟩ := wide gn in_ ⟨by grind, by grind⟩
    obtain ⟨y, hy, fy, vy, iy⟩ := wide hg.g hg.is ⟨by grind, by grind⟩
    obtain ⟨g, hg', _, lg⟩ := gap001 fx fy (by rw [vx, vy]; constructor <;> grind)
    exact ⟨⟨C, x, u, v, l, y, g⟩, ⟨hC, hx, fun _ _ => hu, fun _ _ => hv, hl, hy, ix, iy, hg', lg⟩⟩
end Go.Proofs.Ytonbcbhnnflohaa

namespace Go.Proofs.Ytonbcbhnnflohaa
open Go

abbrev sp : Char := Char.ofNat 32

theorem ws_sp (r : List Char) : wordsSigns (sp :: r) = [] :: wordsSigns r := rfl
theorem ws_ne (c : Char) (hc : c ≠ sp) (r : List Char) : wordsSigns (c :: r) = match wordsSigns r with | w :: ws => (c :: w) :: ws | [] => [[c]] := by
  rw [wordsSigns]
  · rfl
  · intro h; exact hc h
theorem ws_split : ∀ l : List Char, sp ∈ l → wordsSigns l = l.takeWhile (· != sp) :: wordsSigns (l.dropWhile (· != sp)).tail
  | [], h => by cases h
  | c :: r, h => by
    by_cases hc : c = sp
    · subst hc
      rw [ws_sp]
      simp
    · have hr : sp ∈ r := by
        rcases List.mem_cons.1 h with h | h
        · exact absurd h.symm hc
        · exact h
      rw [ws_ne c hc, ws_split r hr]
      simp [hc]

set_option maxRecDepth 1000000 in
noncomputable def initX : { l : List Char // Try.prog.initOrder = String.ofList l } := ⟨_, rfl⟩
theorem io : Try.prog.initOrder.toList = initX.1 := (congrArg String.toList initX.2).trans String.toList_ofList
noncomputable def r1 : List Char := (initX.1.dropWhile (· != sp)).tail
noncomputable def r2 : List Char := (r1.dropWhile (· != sp)).tail
noncomputable def r3 : List Char := (r2.dropWhile (· != sp)).tail
theorem ws_init : wordsSigns Try.prog.initOrder.toList = initX.1.takeWhile (· != sp) :: r1.takeWhile (· != sp) :: r2.takeWhile (· != sp) :: wordsSigns r3 := by
  rw [io, ws_split initX.1 (by decide +kernel), ws_split (initX.1.dropWhile (· != sp)).tail (by decide +kernel), ws_split ((initX.1.dropWhile (· != sp)).tail.dropWhile (· != sp)).tail (by decide +kernel)]
  rfl

theorem first : (initX.1.takeWhile (· != sp) == "harness".toList) = true := by kernel_rfl
theorem second : isSumSigns ((r1.takeWhile (· != sp))) = true := by kernel_rfl
theorem third : r2.takeWhile (· != sp) = "cut".toList := by kernel_rfl
theorem bmw (h s : List Char) (r : List (List Char)) (h1 : (h == "harness".toList) = true) (h2 : isSumSigns s = true) : behindMainWord (h :: s :: r) = r := by
  unfold behindMainWord
  simp only [h1, h2, Bool.true_or, Bool.and_true, if_true]
theorem bw_init : behindMainWord (wordsSigns Try.prog.initOrder.toList) = "cut".toList :: wordsSigns r3 :=
  (congrArg behindMainWord ws_init).trans ((bmw _ _ _ first second).trans (congrArg (· :: wordsSigns r3) third))

section
variable {P : Program} {z : List (List Char)} (h : behindMainWord (wordsSigns P.initOrder.toList) = "cut".toList :: z)
include h
theorem make_of : P.make = some .cut := by
  unfold Program.make
  rw [h]
  rfl
omit h in
theorem lifts_none (z : List (List Char)) : stripLifts liftWords ("cut".toList :: z) = ([], "cut".toList :: z) := by kernel_rfl
theorem headLifts_of : P.headLifts = [] := by
  unfold Program.headLifts
  simp only [h, lifts_none, ite_self]
omit h in
theorem nofin (z : List (List Char)) : (("cut".toList :: z).head? == some "carried".toList && ("cut".toList :: z).take 3 != ["carried".toList, "gc".toList, "cut".toList] || ([] : List String).contains "finals") = false := by kernel_rfl
theorem liftsFinal_of : P.liftsFinal = false := by
  unfold Program.liftsFinal
  rw [h, headLifts_of h]
  exact nofin _
omit h in
theorem cutWord (z : List (List Char)) (a b d : Bool) (ha : a = false) (hb : b = false) (hd : d = true) :
    ((("cut".toList == "gc".toList || "cut".toList == "spec".toList) && (z.isEmpty || z.head? == some "stop".toList)) ||
    ("cut".toList == "carried".toList && z.take 2 == ["gc".toList, "cut".toList] && !a && !b) ||
    (("cut".toList :: z).head? == some "cut".toList &&
      (([] : List String).contains "finals" || !a) && (([] : List String).contains "reflectrows" || !b) &&
      (([] : List String).contains "reflectrows" || !([] : List String).contains "leanrows") && d)) = true := by
  subst ha; subst hb; subst hd
  kernel_rfl
theorem mayEnter_of (h1 : P.laysLater = false) (h2 : P.bearsReflect = false) (h3 : P.doorFits [] = true) : P.mayEnter = true := by
  unfold Program.mayEnter
  rw [h]
  simp only [lifts_none]
  exact cutWord z _ _ _ h1 h2 h3
end
theorem isMade : Try.prog.make = some .cut := make_of bw_init
theorem noFinals : Try.prog.liftsFinal = false := liftsFinal_of bw_init
theorem e1 : Try.prog.laysLater = false := by kernel_rfl
theorem e2 : Try.prog.bearsReflect = false := by kernel_rfl
theorem e3 : Try.prog.doorFits [] = true := by kernel_rfl
theorem mayEnter_ : Try.prog.mayEnter = true := mayEnter_of bw_init e1 e2 e3

theorem closed_gen (P : Program) (k0 : P.mayEnter = true) (k1 : P.liftsFinal = false) (k2 : P.make = some .cut) (f : FuncId) (fn : Func) (s : ChangeSpec) (c : OpenClaim) (hl : c.lifted = false) (hm : c.make = .cut)
    (hA : (c.wf (OpenSpec.ofChange s) && laidOutB P && mapsRowed P && fn.params.all (P.readableRec ·) && namedTie P c.named s.vars && (c.stops == []) && (P.stops == []) && (c.knobs == []) && (P.stopKnobs == []) && (c.inPlace == P.inPlace f) && (c.unfollowed == P.unfollowed f) && (c.recurses == P.recurses f) && (c.named == P.varsNamed f) && (c.maps == (fn.params.toList ++ s.plain.varTypes P).any (P.mapsRec ·)) && (c.ifaces == (fn.params.toList ++ s.plain.varTypes P).any (P.ifacesRec ·)) && (c.mapsOut == P.mapsAmong fn.resultTypes.toList) && (c.loops == (fn.params.toList ++ s.plain.varTypes P).any (P.loopsFrom ·)) && (c.wideKeys == (fn.params.toList ++ s.plain.varTypes P ++ fn.resultTypes.toList).any (P.wideKeysFrom ·)) && s.vars.all (P.varReadable ·) && fn.resultTypes.all (fun t => P.readableRec t && decide (t < P.types.size)) && (c.ifacesOut == fn.resultTypes.toList.any (P.ifacesRec ·)) && (c.loopsOut == fn.resultTypes.toList.any (P.loopsFrom ·)) && (c.plainKeys == P.plainKeys) && c.shortTexts.isNone && P.stopsHeard) = true)
    (h28 : ((c.kinds == (if c.domain.isEmpty then [] else fn.params.toList.map fun t => match P.underlying t with | some (.int k) => some k | _ => none))) = true) (h29 : ((c.pinned == c.pinnedBy)) = true) (h30 : ((c.veiled == (fn.params.toList ++ s.plain.varTypes P ++ fn.resultTypes.toList).any (P.veiledRec ·))) = true) (h31 : (c.veiledFits P fn.params.toList (fn.params.toList ++ s.plain.varTypes P ++ fn.resultTypes.toList)) = true) : joinedFacts P f fn s c = true := by
  unfold joinedFacts
  rw [hA, k0, k1, k2, hl, hm]
  refine Bool.and_eq_true_iff.2 ⟨Bool.and_eq_true_iff.2 ⟨Bool.and_eq_true_iff.2 ⟨Bool.and_eq_true_iff.2 ⟨rfl, h28⟩, h29⟩, h30⟩, h31⟩
theorem closed_row (f : FuncId) (fn : Func) (s : ChangeSpec) (c : OpenClaim) (hl : c.lifted = false) (hm : c.make = .cut)
    (hA : (c.wf (OpenSpec.ofChange s) && laidOutB Try.prog && mapsRowed Try.prog && fn.params.all (Try.prog.readableRec ·) && namedTie Try.prog c.named s.vars && (c.stops == []) && (Try.prog.stops == []) && (c.knobs == []) && (Try.prog.stopKnobs == []) && (c.inPlace == Try.prog.inPlace f) && (c.unfollowed == Try.prog.unfollowed f) && (c.recurses == Try.prog.recurses f) && (c.named == Try.prog.varsNamed f) && (c.maps == (fn.params.toList ++ s.plain.varTypes Try.prog).any (Try.prog.mapsRec ·)) && (c.ifaces == (fn.params.toList ++ s.plain.varTypes Try.prog).any (Try.prog.ifacesRec ·)) && (c.mapsOut == Try.prog.mapsAmong fn.resultTypes.toList) && (c.loops == (fn.params.toList ++ s.plain.varTypes Try.prog).any (Try.prog.loopsFrom ·)) && (c.wideKeys == (fn.params.toList ++ s.plain.varTypes Try.prog ++ fn.resultTypes.toList).any (Try.prog.wideKeysFrom ·)) && s.vars.all (Try.prog.varReadable ·) && fn.resultTypes.all (fun t => Try.prog.readableRec t && decide (t < Try.prog.types.size)) && (c.ifacesOut == fn.resultTypes.toList.any (Try.prog.ifacesRec ·)) && (c.loopsOut == fn.resultTypes.toList.any (Try.prog.loopsFrom ·)) && (c.plainKeys == Try.prog.plainKeys) && c.shortTexts.isNone && Try.prog.stopsHeard) = true)
    (h28 : ((c.kinds == (if c.domain.isEmpty then [] else fn.params.toList.map fun t => match Try.prog.underlying t with | some (.int k) => some k | _ => none))) = true) (h29 : ((c.pinned == c.pinnedBy)) = true) (h30 : ((c.veiled == (fn.params.toList ++ s.plain.varTypes Try.prog ++ fn.resultTypes.toList).any (Try.prog.veiledRec ·))) = true) (h31 : (c.veiledFits Try.prog fn.params.toList (fn.params.toList ++ s.plain.varTypes Try.prog ++ fn.resultTypes.toList)) = true) : joinedFacts Try.prog f fn s c = true :=
  closed_gen Try.prog mayEnter_ noFinals isMade f fn s c hl hm hA h28 h29 h30 h31
end Go.Proofs.Ytonbcbhnnflohaa
