/-
  Spots that are near to numbers; shares; what is drawn; nearness of gaps.
-/
import Derived.Test.YtefnlalldgbcaaaGap
import Derived.Test.YtefnlalldgbcaaaPick
namespace Go.Proofs.Ytefnlalldgbcaaa
open Go.RowKit

section
variable {P : Program} {w0 w : World} {N : Nat} {a : Act} {E : List (Nat × Value)} {L Lh : List Ent} {K : Act → World → Prop} {Q : Exit → Act → World → Prop}
theorem v_flssK {x y : Operand} {t ys : TypeId} {k : FloatKind} {i j : Nat} {ci cj : Option Nat} {r : Bool} (st : St w0 N a w E L) (hx : evE E x = some (.float k i)) (hy : evE E y = some (.float k j)) (hi : Is k i ci) (hj : Is k j cj) (hr : fltB k ci cj = r) : Vl P a Lh (.binOp .lss t x y ys) (.bool r) := by
  subst hr
  intro d ty pos aft g w' _
  simp only [execOp, evE_eval st hx, evE_eval st hy, eqGuard_at_float, Sem.run_bind, Sem.run_pure, Result.andThen_ok, binOp_float_cmp_lss, hi.order hj]
  rfl
theorem v_fgtrK {x y : Operand} {t ys : TypeId} {k : FloatKind} {i j : Nat} {ci cj : Option Nat} {r : Bool} (st : St w0 N a w E L) (hx : evE E x = some (.float k i)) (hy : evE E y = some (.float k j)) (hi : Is k i ci) (hj : Is k j cj) (hr : fgtB k ci cj = r) : Vl P a Lh (.binOp .gtr t x y ys) (.bool r) := by
  subst hr
  intro d ty pos aft g w' _
  simp only [execOp, evE_eval st hx, evE_eval st hy, eqGuard_at_float, Sem.run_bind, Sem.run_pure, Result.andThen_ok, binOp_float_cmp_gtr, hi.order hj]
  rfl
end

/-- A part of a spot. -/
def pj : Nat → S3 → Option Nat
  | 0, s => s.1
  | 1, s => s.2.1
  | _, s => s.2.2
theorem pj_add (c : Nat) (s t : S3) : pj c (addS s t) = fop .add .f32 (pj c s) (pj c t) := by
  match c with
  | 0 => rfl
  | 1 => rfl
  | c + 2 => rfl
theorem pj_times (c : Nat) (s : S3) (x : Option Nat) : pj c (timesS s x) = fop .mul .f32 (pj c s) x := by
  match c with
  | 0 => rfl
  | 1 => rfl
  | c + 2 => rfl
/-- All parts are near to numbers. -/
def ApS (s : S3) (v : Nat → Rat) (e : Rat) : Prop := ∀ c, Ap .f32 (pj c s) (v c) e
theorem ApS.mono {s v e f} (h : ApS s v e) (hf : e ≤ f) : ApS s v f := fun c => (h c).mono hf
theorem ApS.finS {s v e} (h : ApS s v e) : finS s = true := by
  have f0 : Fin .f32 s.1 := (h 0).fin
  have f1 : Fin .f32 s.2.1 := (h 1).fin
  have f2 : Fin .f32 s.2.2 := (h 2).fin
  unfold Go.Proofs.Ytefnlalldgbcaaa.finS finC
  rw [fin_finC f0, fin_finC f1, fin_finC f2]
  rfl
abbrev uu : Rat := p2 (-24)
theorem uu_val : uu = 1 / 16777216 := by decide +kernel
theorem uk32 : uk .f32 = 1 / 16777216 := uu_val
theorem p2m126 : p2 (-126) ≤ 1 / 16777216 := by
  have : p2 (-126) ≤ p2 (-24) := p2_mono (by decide)
  rw [show p2 (-24) = 1 / 16777216 from uu_val] at this
  exact this
theorem p2127 : (1000 : Rat) < p2 127 := by
  have h : p2 10 < p2 127 := by
    have h1 : p2 11 ≤ p2 127 := p2_mono (by decide)
    have h2 : p2 10 < p2 11 := by decide +kernel
    grind
  have e : p2 10 = 1024 := by decide +kernel
  rw [e] at h
  grind

def chk (c : Option Nat) (v e : Rat) : Bool := match c with
  | none => false
  | some b => decide (rung FloatKind.f32.format b < FloatKind.f32.format.infRung) && (decide (rv .f32 b ≤ v + e) && decide (v ≤ rv .f32 b + e))
theorem chk_ap {c : Option Nat} {v e : Rat} (h : chk c v e = true) : Ap .f32 c v e := by
  unfold chk at h
  cases c with
  | none => cases h
  | some b =>
    simp only [Bool.and_eq_true, decide_eq_true_eq] at h
    exact ⟨h.1, h.2.1, h.2.2⟩
theorem qC_all : (List.range 33).all (fun n => chk (qC ((n : Int) - 16)) ((((n : Int) - 16 : Int) : Rat) / 4) 0) = true := by decide +kernel
theorem qC_ap {i : Int} (h0 : -16 ≤ i) (h1 : i ≤ 16) : Ap .f32 (qC i) ((i : Rat) / 4) 0 := by
  have := List.all_eq_true.1 qC_all (i + 16).toNat (List.mem_range.2 (by omega))
  have e : (((i + 16).toNat : Nat) : Int) - 16 = i := by omega
  simp only [e] at this
  exact chk_ap this
theorem isQ_ap {s : S3} (h : isQ s) (c : Nat) : Ap .f32 (pj c s) (cv .f32 (pj c s)) 0 ∧ Ab (cv .f32 (pj c s)) 4 := by
  obtain ⟨i, j, k, rfl, hi0, hi1, hj0, hj1, hk0, hk1⟩ := h
  have key : ∀ {n : Int}, -16 ≤ n → n ≤ 16 → Ap .f32 (qC n) (cv .f32 (qC n)) 0 ∧ Ab (cv .f32 (qC n)) 4 := by
    intro n h0 h1
    have ha := qC_ap h0 h1
    obtain ⟨n1, n2⟩ := ha.near
    have g0 : ((-16 : Int) : Rat) ≤ (n : Rat) := Rat.intCast_le_intCast.2 h0
    have g1 : (n : Rat) ≤ ((16 : Int) : Rat) := Rat.intCast_le_intCast.2 h1
    have c0 : ((-16 : Int) : Rat) = -16 := rfl
    have c1 : ((16 : Int) : Rat) = 16 := rfl
    rw [c0] at g0
    rw [c1] at g1
    exact ⟨⟨ha.fin, by grind, by grind⟩, by grind, by grind⟩
  match c with
  | 0 => exact key hi0 hi1
  | 1 => exact key hj0 hj1
  | c + 2 => exact key (by omega) (by omega)
/-- A sixteenth of a number, as a float. -/
def xC (i : Int) : Option Nat := fop .quo .f32 (some (floatOfInt .f32 i)) (some 1098907648)
def chkE (c : Option Nat) (j q : Int) : Bool := match c with
  | none => false
  | some b => decide (rung FloatKind.f32.format b < FloatKind.f32.format.infRung) && decide (rv .f32 b = (j : Rat) * p2 q)
theorem chkE_ex {c : Option Nat} {j q : Int} (h : chkE c j q = true) : Ex' .f32 c j q := by
  unfold chkE at h
  cases c with
  | none => cases h
  | some b =>
    simp only [Bool.and_eq_true, decide_eq_true_eq] at h
    exact ⟨h.1, h.2⟩
theorem zero_ex : Ex' .f32 (some 0) 0 (-4) := chkE_ex (by decide +kernel)
theorem one_ex : Ex' .f32 one32 16 (-4) := chkE_ex (by decide +kernel)
theorem p2m4 : p2 (-4) = 1 / 16 := by decide +kernel

theorem getD_mem {ss : List S3} {p : Nat} (h : p < ss.length) : ss.getD p z3 ∈ ss := by
  rw [List.getD_eq_getElem?_getD, List.getElem?_eq_getElem h]
  exact List.getElem_mem h
theorem finL_of {ss : List S3} (h : ∀ s ∈ ss, finS s = true) : finL ss = true := List.all_eq_true.2 h
abbrev BB : Rat := p2 (-11)
theorem BB_val : BB = 1 / 2048 := by decide +kernel
theorem nearS_of {s t : S3} {v : Nat → Rat} {e f : Rat} (h : ApS s v e) (h' : ApS t v f) (hef : e + f ≤ 1 / 2048) : NearS s t BB := by
  have key : ∀ c, Ab (cv .f32 (pj c s) - cv .f32 (pj c t)) BB := by
    intro c
    obtain ⟨x1, x2⟩ := (h c).near
    obtain ⟨y1, y2⟩ := (h' c).near
    rw [BB_val]
    exact ⟨by grind, by grind⟩
  exact ⟨key 0, key 1, key 2⟩
theorem lit1 : Fin .f64 (some 4576918229304087675) ∧ 2 * BB < rv .f64 4576918229304087675 := ⟨by show rung FloatKind.f64.format _ < _; decide +kernel, by decide +kernel⟩
theorem lit2 : Fin .f64 (some 4562254508917369340) ∧ 2 * BB < rv .f64 4562254508917369340 := ⟨by show rung FloatKind.f64.format _ < _; decide +kernel, by decide +kernel⟩
theorem bb0 : p2 (-126) ≤ BB := by decide +kernel
theorem bb1 : BB < p2 127 := by decide +kernel

theorem gap_ngt {r l : Nat} (hr : Fin .f64 (some r)) (hl : Fin .f64 (some l)) (h : rv .f64 r ≤ 2 * BB) (hb : 2 * BB < rv .f64 l) : fgtB .f64 (some r) (some l) = false := by
  rw [fgt_iff hr hl]
  have : ¬ cv .f64 (some l) < cv .f64 (some r) := by
    show ¬ rv .f64 l < rv .f64 r
    grind
  simp [this]

end Go.Proofs.Ytefnlalldgbcaaa
