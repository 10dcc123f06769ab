/-
  FnCircles: the products of the phasors (a table), and what the law asks of two places.
-/
import Derived.Test.YtlllekaiickkoaaCo
namespace Go.Proofs.Ytlllekaiickkoaa
open Go.RowKit

theorem prodX_some {a b c : Nat × Nat} (h : prodX a b c = some true) : ∃ ab, mulC a b = some ab ∧ Is .f32 ab.1 (some ab.1) ∧ Is .f32 ab.2 (some ab.2) ∧ nearW ab c tol1 = some true := by
  unfold prodX at h
  obtain ⟨u, v, h1, h⟩ := bw2_some h
  rw [mulX_eq] at h1
  rw [nearX_eq] at h
  refine ⟨(u, v), h1, ?_, ?_, h⟩
  all_goals
    unfold mulC at h1
    obtain ⟨_, _, h1⟩ := bw_some h1
    obtain ⟨_, _, h1⟩ := bw_some h1
    obtain ⟨_, _, h1⟩ := bw_some h1
    obtain ⟨_, _, h1⟩ := bw_some h1
    obtain ⟨_, _, h1⟩ := bw_some h1
    obtain ⟨_, _, h1⟩ := bw_some h1
    obtain ⟨x, hx, h1⟩ := bw_some h1
    obtain ⟨_, _, h1⟩ := bw_some h1
    obtain ⟨_, _, h1⟩ := bw_some h1
    obtain ⟨y, hy, h1⟩ := bw_some h1
    obtain ⟨u', hu, h1⟩ := bw_some h1
    obtain ⟨v', hv, h1⟩ := bw_some h1
    have h1 : (u', v') = (u, v) := Option.some.inj h1
    obtain ⟨rfl, rfl⟩ := Prod.mk.inj h1
  · exact nar_is (fop_is (subF_some hx)) hu
  · exact nar_is (fop_is (addF_some hy)) hv
theorem t_prod : ((List.range 64).all fun j => (List.range 64).all fun k => prodX (pt j) (pt k) (pt (j + k)) == some true) = true := by decide +kernel
theorem prod_at (j k : Nat) : prodX (pt j) (pt k) (pt (j + k)) = some true := by
  have h := List.all_eq_true.1 (List.all_eq_true.1 t_prod (j % 64) (List.mem_range.2 (Nat.mod_lt _ (by decide)))) (k % 64) (List.mem_range.2 (Nat.mod_lt _ (by decide)))
  have e1 : ∀ k, pt (k % 64) = pt k := fun k => by unfold pt; rw [Nat.mod_mod]
  have e2 : pt (j % 64 + k % 64) = pt (j + k) := by unfold pt; rw [← Nat.add_mod]
  simp only [beq_iff_eq, e1, e2] at h
  exact h
theorem rounds (x y : Int) (hx0 : -128 ≤ x) (hx1 : x < 128) (hy0 : -128 ≤ y) (hy1 : y < 128) : ∃ a b c t z p q s i g gd p1 ab, Round x y a b c t z p q s i g gd p1 ab := by
  obtain ⟨n, hn⟩ : ∃ n : Nat, x = (n : Int) - 128 := ⟨(x + 128).toNat, by omega⟩
  obtain ⟨m, hm⟩ : ∃ m : Nat, y = (m : Int) - 128 := ⟨(y + 128).toNat, by omega⟩
  have px := ph_at (n := n + 128) (by omega)
  have py := ph_at (n := m + 128) (by omega)
  have pxy := ph_at (n := n + m) (by omega)
  have ex : (((n + 128 : Nat) : Int) - 256) = x := by omega
  have ey : (((m + 128 : Nat) : Int) - 256) = y := by omega
  have exy : (((n + m : Nat) : Int) - 256) = x + y := by omega
  rw [ex] at px
  rw [ey] at py
  rw [exy] at pxy
  have pe : pt (n + 128 + (m + 128)) = pt (n + m) := by
    have e : (n + 128 + (m + 128)) % 64 = (n + m) % 64 := by omega
    unfold pt
    rw [e]
  obtain ⟨ab, h1, h2, h3, h4⟩ := prodX_some (prod_at (n + 128) (m + 128))
  rw [pe] at h4
  have ht := List.all_eq_true.1 t_turn n (List.mem_range.2 (by omega))
  simp only [beq_iff_eq] at ht
  rw [← hn] at ht
  obtain ⟨gd, t, s, z, i, q, g1, g2, g3, g4, g5, g6, g7, g8, g9, g10⟩ := turnX_some ht
  have ho := List.all_eq_true.1 t_one ((n + 128) % 64) (List.mem_range.2 (Nat.mod_lt _ (by decide)))
  have e1 : pt ((n + 128) % 64) = pt (n + 128) := by unfold pt; rw [Nat.mod_mod]
  simp only [beq_iff_eq, e1] at ho
  obtain ⟨p, p1, o1, o2, o3, o4⟩ := oneX_some ho
  refine ⟨pt (n + 128), pt (m + 128), pt (n + m), t, z, p, q, s, i, at_ (n + 128), gd, p1, ab, ?_⟩
  refine ⟨px, py, pxy, ang_at _, g1, g2, g3, g4, g5, o1, o2, o3, o4, h1, h2, h3, (is_at _).1, (is_at _).2, h4, g6, g7, g8, g9, g10, ?_⟩
  intro h16
  have hd : (n + 128) % 64 = 0 ∨ (n + 128) % 64 = 16 ∨ (n + 128) % 64 = 32 ∨ (n + 128) % 64 = 48 := by
    have h17 : x % 16 = 0 := by
      have := Int.tmod_eq_emod (a := x) (b := 16)
      split at this <;> omega
    omega
  have hr : reX (pt (n + 128)) = some true := by
    have hre := List.all_eq_true.1 t_re ((n + 128) % 64) (by rcases hd with h | h | h | h <;> rw [h] <;> decide)
    simp only [beq_iff_eq, e1] at hre
    exact hre
  exact reX_some (is_at _).1 hr
end Go.Proofs.Ytlllekaiickkoaa
