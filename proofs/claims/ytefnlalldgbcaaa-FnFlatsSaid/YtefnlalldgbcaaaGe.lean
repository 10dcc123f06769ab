/-
  Crosses of drawn spots: upright to the first; corners and moves.
-/
import Derived.Test.YtefnlalldgbcaaaGd
import Derived.Test.YtefnlalldgbcaaaW
namespace Go.Proofs.Ytefnlalldgbcaaa
open Go.RowKit

theorem qE_all : (List.range 33).all (fun n => chkE (qC ((n : Int) - 16)) ((n : Int) - 16) (-2)) = true := by decide +kernel
theorem qE {i : Int} (h0 : -16 ≤ i) (h1 : i ≤ 16) : Ex' .f32 (qC i) i (-2) := by
  have := List.all_eq_true.1 qE_all (i + 16).toNat (List.mem_range.2 (by omega))
  have e : (((i + 16).toNat : Nat) : Int) - 16 = i := by omega
  simp only [e] at this
  exact chkE_ex this
theorem ib {a b : Int} {A B : Nat} (ha : a.natAbs ≤ A) (hb : b.natAbs ≤ B) : (a * b).natAbs ≤ A * B := by
  rw [Int.natAbs_mul]
  exact Nat.mul_le_mul ha hb
/-- The numbers of a cross. -/
theorem cross_ex {s t : S3} (hs : isQ s) (ht : isQ t) : ∃ i j k u v w : Int, i.natAbs ≤ 16 ∧ j.natAbs ≤ 16 ∧ k.natAbs ≤ 16 ∧ u.natAbs ≤ 512 ∧ v.natAbs ≤ 512 ∧ w.natAbs ≤ 512 ∧ u * i + v * j + w * k = 0 ∧
    Ex' .f32 s.1 i (-2) ∧ Ex' .f32 s.2.1 j (-2) ∧ Ex' .f32 s.2.2 k (-2) ∧ Ex' .f32 (crossC s t).1 u (-4) ∧ Ex' .f32 (crossC s t).2.1 v (-4) ∧ Ex' .f32 (crossC s t).2.2 w (-4) := by
  obtain ⟨i, j, k, rfl, hi0, hi1, hj0, hj1, hk0, hk1⟩ := hs
  obtain ⟨i', j', k', rfl, hi0', hi1', hj0', hj1', hk0', hk1'⟩ := ht
  have b := fun {x y : Int} (hx : x.natAbs ≤ 16) (hy : y.natAbs ≤ 16) => ib hx hy
  have m : ∀ {x y : Int}, -16 ≤ x → x ≤ 16 → -16 ≤ y → y ≤ 16 → Ex' .f32 (fop .mul .f32 (qC x) (qC y)) (x * y) (-4) := by
    intro x y h1 h2 h3 h4
    have := ib (a := x) (b := y) (A := 16) (B := 16) (by omega) (by omega)
    exact (qE h1 h2).mul (qE h3 h4) (by omega) (by decide) (by decide)
  have d : ∀ {x y x' y' : Int}, -16 ≤ x → x ≤ 16 → -16 ≤ y → y ≤ 16 → -16 ≤ x' → x' ≤ 16 → -16 ≤ y' → y' ≤ 16 → (x * y - x' * y').natAbs ≤ 512 ∧ Ex' .f32 (fop .sub .f32 (fop .mul .f32 (qC x) (qC y)) (fop .mul .f32 (qC x') (qC y'))) (x * y - x' * y') (-4) := by
    intro x y x' y' h1 h2 h3 h4 h5 h6 h7 h8
    have a1 := ib (a := x) (b := y) (A := 16) (B := 16) (by omega) (by omega)
    have a2 := ib (a := x') (b := y') (A := 16) (B := 16) (by omega) (by omega)
    exact ⟨by omega, (m h1 h2 h3 h4).sub (m h5 h6 h7 h8) (by omega) (by decide) (by decide)⟩
  have k0 : -16 ≤ k := by omega
  have k1 : k ≤ 16 := by omega
  have k0' : -16 ≤ k' := by omega
  have k1' : k' ≤ 16 := by omega
  obtain ⟨a1, e1⟩ := d hj0 hj1 k0' k1' k0 k1 hj0' hj1'
  obtain ⟨a2, e2⟩ := d k0 k1 hi0' hi1' hi0 hi1 k0' k1'
  obtain ⟨a3, e3⟩ := d hi0 hi1 hj0' hj1' hj0 hj1 hi0' hi1'
  exact ⟨i, j, k, _, _, _, by omega, by omega, by omega, a1, a2, a3, by grind, qE hi0 hi1, qE hj0 hj1, qE k0 k1, e1, e2, e3⟩
theorem ex_bd {c : Option Nat} {u : Int} (h : Ex' .f32 c u (-4)) (hu : u.natAbs ≤ 512) : Bd c 32 := by
  have g0 := intR (i := -512) (j := u) (by omega)
  have g1 := intR (i := u) (j := 512) (by omega)
  have c0 : ((-512 : Int) : Rat) = -512 := rfl
  have c1 : ((512 : Int) : Rat) = 512 := rfl
  rw [c0] at g0
  rw [c1] at g1
  refine ⟨h.fin, ?_⟩
  rw [h.val, p2m4]
  exact ⟨by grind, by grind⟩
/-- What is told of the cross of two drawn spots. -/
structure CrF (s t : S3) : Prop where
  ok : (finS s && finS t && finS (crossC s t)) = true
  eq : (bif finS s && finS t then giveS (crossC s t) else z3) = crossC s t
  bd : BS (crossC s t) 32
  lok : longOk (crossC s t) = true
  lf : Fin .f32 (longC (crossC s t))
  l0 : 0 ≤ cv .f32 (longC (crossC s t))
theorem crF {s t : S3} (hs : isQ s) (ht : isQ t) : CrF s t := by
  obtain ⟨i, j, k, u, v, w, _, _, _, hu, hv, hw, _, _, _, _, e1, e2, e3⟩ := cross_ex hs ht
  have hb : BS (crossC s t) 32 := by
    intro c
    match c with
    | 0 => exact ex_bd e1 hu
    | 1 => exact ex_bd e2 hv
    | c + 2 => exact ex_bd e3 hw
  have h0 : finS (crossC s t) = true := bs_fin hb
  have h1 := isQ_fin hs
  have h2 := isQ_fin ht
  obtain ⟨d1, d2⟩ := dot_nn (s := crossC s t) (fun c => (hb c).mono (by decide +kernel))
  obtain ⟨r1, r2, _⟩ := root_fin d1.fin d2 d1.ab.le
  have hfc : finC (rootC (dotC (crossC s t) (crossC s t))) = true := fin_finC r1
  have hl : longC (crossC s t) = rootC (dotC (crossC s t) (crossC s t)) := by
    unfold longC giveC
    rw [h0, hfc]
    rfl
  refine ⟨by rw [h0, h1, h2]; rfl, by unfold giveS; rw [h0, h1, h2]; rfl, hb, by unfold longOk; rw [h0, hfc]; rfl, by rw [hl]; exact r1, by rw [hl]; exact r2⟩
/-! ## corners, moves -/
structure CoF (s1 s2 s3 s4 : S3) : Prop where
  valid : validC 2 2 (crn s1 s2 s3 s4) = true
  mv : mvOk 2 2 (crn s1 s2 s3 s4) 3 s1 = true
theorem coF {s1 s2 s3 s4 : S3} (h1 : isQ s1) (h2 : isQ s2) (h3 : isQ s3) (h4 : isQ s4) : CoF s1 s2 s3 s4 := by
  have f1 := isQ_fin h1
  have f2 := isQ_fin h2
  have f3 := isQ_fin h3
  have f4 := isQ_fin h4
  have hv : validC 2 2 (crn s1 s2 s3 s4) = true := by
    have hf : finL (crn s1 s2 s3 s4) = true := by simp [finL, crn, f1, f2, f3, f4]
    unfold validC
    rw [hf]
    have : (crn s1 s2 s3 s4).length = 4 := rfl
    rw [this]
    decide
  refine ⟨hv, ?_⟩
  unfold mvOk
  rw [hv, f1]
  have : (crn s1 s2 s3 s4).length = 4 := rfl
  rw [this]
  decide
theorem isQ_b {s : S3} (h : isQ s) : BS s 4 := isQ_4 h
end Go.Proofs.Ytefnlalldgbcaaa
