/-
  FnCircles: the same words, computed with each number told once: orders, conversions, whole parts.
-/
import Derived.Test.YtlllekaiickkoaaCn
namespace Go.Proofs.Ytlllekaiickkoaa
open Go.RowKit

abbrev sgl : Ieee.Format := FloatKind.f32.format
/-- How two words stand. -/
def ordF (f : Ieee.Format) (x y : Nat) : Option Ordering := rdF f x fun s m i => rdF f y fun t n j =>
  forceI (min i j) fun base =>
  forceI (Ieee.signed s m (i - base).toNat) fun a =>
  forceI (Ieee.signed t n (j - base).toNat) fun b => some (compare a b)
theorem ordF_some {f : Ieee.Format} {x y : Nat} {o : Ordering} (h : ordF f x y = some o) : f.order x y = some o := by
  obtain ⟨s, m, i, hr, h⟩ := rdF_some h
  obtain ⟨t, n, j, hs, h⟩ := rdF_some h
  simp only [forceI_eq] at h
  unfold Ieee.Format.order
  rw [hr, hs]
  exact h
def geF (k : FloatKind) (x y : Nat) : Bool := match ordF k.format x y with
  | some .lt => false
  | some _ => true
  | none => fgeB k (some x) (some y)
theorem geF_eq (k : FloatKind) (x y : Nat) : geF k x y = fgeB k (some x) (some y) := by
  unfold geF
  have e : ford k (some x) (some y) = k.format.order x y := rfl
  split
  · rename_i h
    unfold fgeB
    rw [e, ordF_some h]
    rfl
  · rename_i o ho h
    unfold fgeB
    rw [e, ordF_some h]
    cases o
    · exact absurd rfl ho
    · rfl
    · rfl
  · rfl
def gtF (k : FloatKind) (x y : Nat) : Bool := match ordF k.format x y with
  | some .gt => true
  | some _ => false
  | none => fgtB k (some x) (some y)
theorem gtF_eq (k : FloatKind) (x y : Nat) : gtF k x y = fgtB k (some x) (some y) := by
  unfold gtF
  have e : ford k (some x) (some y) = k.format.order x y := rfl
  split
  · rename_i h
    unfold fgtB
    rw [e, ordF_some h]
    rfl
  · rename_i o ho h
    unfold fgtB
    rw [e, ordF_some h]
    cases o
    · rfl
    · rfl
    · exact absurd rfl ho
  · rfl
def ltF (k : FloatKind) (x y : Nat) : Bool := match ordF k.format x y with
  | some .lt => true
  | some _ => false
  | none => fltB k (some x) (some y)
theorem ltF_eq (k : FloatKind) (x y : Nat) : ltF k x y = fltB k (some x) (some y) := by
  unfold ltF
  have e : ford k (some x) (some y) = k.format.order x y := rfl
  split
  · rename_i h
    unfold fltB
    rw [e, ordF_some h]
    rfl
  · rename_i o ho h
    unfold fltB
    rw [e, ordF_some h]
    cases o
    · exact absurd rfl ho
    · rfl
    · rfl
  · rfl
def leF (k : FloatKind) (x y : Nat) : Bool := match ordF k.format x y with
  | some .gt => false
  | some _ => true
  | none => fleB k (some x) (some y)
theorem leF_eq (k : FloatKind) (x y : Nat) : leF k x y = fleB k (some x) (some y) := by
  unfold leF
  have e : ford k (some x) (some y) = k.format.order x y := rfl
  split
  · rename_i h
    unfold fleB
    rw [e, ordF_some h]
    rfl
  · rename_i o ho h
    unfold fleB
    rw [e, ordF_some h]
    cases o
    · rfl
    · rfl
    · exact absurd rfl ho
  · rfl
def eqF (k : FloatKind) (x y : Nat) : Bool := match ordF k.format x y with
  | some .eq => true
  | some _ => false
  | none => feqB k (some x) (some y)
theorem eqF_eq (k : FloatKind) (x y : Nat) : eqF k x y = feqB k (some x) (some y) := by
  unfold eqF
  have e : ford k (some x) (some y) = k.format.order x y := rfl
  split
  · rename_i h
    unfold feqB
    rw [e, ordF_some h]
    rfl
  · rename_i o ho h
    unfold feqB
    rw [e, ordF_some h]
    cases o
    · rfl
    · exact absurd rfl ho
    · rfl
  · rfl
/-- A conversion between the kinds. -/
def cvtF (s d : FloatKind) (x : Nat) : Option Nat := rdF s.format x fun t m e =>
  force (nearF d.format t m e) fun r => if r % d.format.signWeight < d.format.infRung then some r else none
theorem cvtF_some {s d : FloatKind} (hne : s ≠ d) {x r : Nat} (h : cvtF s d x = some r) : fcv s d (some x) = some r := by
  obtain ⟨t, m, e, hr, h⟩ := rdF_some h
  simp only [force_eq, ← nearF_eq] at h
  split at h
  · rename_i hi
    have h : d.format.nearest t m e = r := Option.some.inj h
    show floatToFloatBits s x d = some r
    unfold floatToFloatBits
    rw [if_neg hne]
    have hr' : s.decode x = .number t m e := hr
    rw [hr']
    show (if (d.format.read (d.format.nearest t m e)).isInfinity = true then none else some (d.format.nearest t m e)) = some r
    rw [h] at hi ⊢
    have hf : (d.format.read r).isInfinity = false := by
      unfold Ieee.Format.read
      simp only [hi, if_true]
      split <;> rfl
    rw [hf]
    rfl
  · cases h
def narX (x : Nat) : Wd := match cvtF .f64 .f32 x with
  | some r => some r
  | none => nar x
theorem narX_eq (x : Nat) : narX x = nar x := by
  unfold narX
  split
  · rename_i h; exact (cvtF_some (by decide) h).symm
  · rfl
def widX (x : Nat) : Wd := match cvtF .f32 .f64 x with
  | some r => some r
  | none => wid x
theorem widX_eq (x : Nat) : widX x = wid x := by
  unfold widX
  split
  · rename_i h; exact (cvtF_some (by decide) h).symm
  · rfl
/-- A whole number's word. -/
def ofX (n : Int) : Nat := force n.natAbs fun a => nearF dbl (decide (n < 0)) a 0
theorem ofX_eq (n : Int) : ofX n = floatOfInt .f64 n := by
  unfold ofX
  rw [force_eq, ← nearF_eq]
  rfl
/-- The whole number of a word. -/
def i64X (x : Nat) : Option Int := match rdF dbl x fun s m i =>
    force (m <<< i.toNat) fun a => force (1 <<< min (-i).toNat (lgF a + 2)) fun gap => force (a / gap) fun q =>
    if q < 9223372036854775808 then some (if s then -(q : Int) else (q : Int)) else none with
  | some n => some n
  | none => i64W x
theorem i64X_eq (x : Nat) : i64X x = i64W x := by
  unfold i64X
  split
  · rename_i n h
    obtain ⟨s, m, i, hr, h⟩ := rdF_some h
    simp only [force_eq, ← lgF_eq] at h
    split at h
    · rename_i hq
      have h := Option.some.inj h
      unfold i64W floatToIntVal
      have hr' : FloatKind.f64.decode x = .number s m i := hr
      rw [hr']
      have e : Ieee.Datum.toInt .zero (.number s m i) = some n := by
        rw [← h]
        simp only [Ieee.Datum.toInt, Ieee.Datum.integral, Ieee.Toward.cut, Ieee.signed, Bool.toNat_false, Nat.add_zero, Nat.shiftLeft_zero]
      rw [e]
      have hb : IntKind.i64.min ≤ n ∧ n ≤ IntKind.i64.max := by
        show -9223372036854775808 ≤ n ∧ n ≤ 9223372036854775807
        have key : ∀ q : Nat, q < 9223372036854775808 → (if s = true then -(q : Int) else (q : Int)) = n → -9223372036854775808 ≤ n ∧ n ≤ 9223372036854775807 := by
          intro q h1 h2
          cases s <;> simp only [Bool.false_eq_true, if_true, if_false] at h2 <;> omega
        exact key _ hq h
      simp only [if_pos hb]
    · cases h
  · rfl

/-! ## the same functions -/
def fracX (x : Nat) : Wd :=
  bi (i64X x) fun n =>
  force (ofX n) fun m =>
  bw (subW x m) fun f =>
  if ltF .f64 f 0 then addW f w1 else some f
theorem fracX_eq (x : Nat) : fracX x = fracW x := by
  unfold fracX fracW
  simp only [force_eq, i64X_eq, ofX_eq, ltF_eq]
  rfl
def sinSumX (u : Nat) : Nat → Nat → Nat → Wd
  | 0, _, _ => none
  | n + 1, p, k => if geF .f64 k w1 then
      bw (sinStep u p k) fun p' =>
      bw (subW k w1) fun k' =>
      sinSumX u n p' k'
    else some p
theorem sinSumX_eq (u : Nat) : ∀ n p k, sinSumX u n p k = sinSum u n p k
  | 0, _, _ => rfl
  | n + 1, p, k => by
    rw [sinSumX, sinSum]
    simp only [geF_eq, sinSumX_eq u n]
    rfl
def sineX (x : Nat) : Wd :=
  bw (fracX x) fun f0 =>
  bw (if geF .f64 f0 w05 then subW f0 w05 else some f0) fun f1 =>
  bw (if gtF .f64 f1 w025 then subW w05 f1 else some f1) fun f2 =>
  bw (mulW f2 wTau) fun z =>
  bw (mulW z z) fun u =>
  bw (sinSumX u 9 w1 w8) fun p =>
  bw (mulW z p) fun r =>
  if geF .f64 f0 w05 then some (Op.negFloat .f64 r) else some r
theorem sineX_eq (x : Nat) : sineX x = sineW x := by
  unfold sineX sineW
  simp only [fracX_eq, geF_eq, gtF_eq, sinSumX_eq]
  rfl
def quartersX : Nat → Nat → Nat → Option (Nat × Nat)
  | 0, _, _ => none
  | n + 1, f, q => if geF .f64 f w025 then
      bw (subW f w025) fun f' =>
      quartersX n f' (q + 1)
    else some (f, q)
theorem quartersX_eq : ∀ n f q, quartersX n f q = quarters n f q
  | 0, _, _ => rfl
  | n + 1, f, q => by
    rw [quartersX, quarters]
    simp only [geF_eq, quartersX_eq n]
    rfl
/-- The phasor of a fraction of a turn. -/
def phX (f : Nat) : Option (Nat × Nat) :=
  bw2 (quartersX 5 f 0) fun g q =>
  bw (subW w025 g) fun h =>
  bw (sineX h) fun c =>
  bw (sineX g) fun s =>
  bw (subW 0 c) fun nc =>
  bw (subW 0 s) fun ns =>
  bw (force (if q = 1 then ns else if q = 2 then nc else if q = 3 then s else c) narX) fun a' =>
  bw (force (if q = 1 then c else if q = 2 then ns else if q = 3 then nc else s) narX) fun b' =>
  some (a', b')
theorem phX_eq (x : Nat) : phasorW x = bw (fracX x) phX := by
  unfold phX phasorW
  simp only [force_eq, fracX_eq, quartersX_eq, sineX_eq, narX_eq]

def gapX (a b : Nat) : Wd := if ltF .f64 a b then subW b a else subW a b
theorem gapX_eq (a b : Nat) : gapX a b = gapW a b := by
  unfold gapX gapW
  rw [ltF_eq]
  rfl
def mulX (x y : Nat × Nat) : Option (Nat × Nat) :=
  bw (widX x.1) fun a =>
  bw (widX x.2) fun b =>
  bw (widX y.1) fun c =>
  bw (widX y.2) fun d =>
  bw (mulW a c) fun p =>
  bw (mulW b d) fun q =>
  bw (subW p q) fun u =>
  bw (mulW a d) fun r =>
  bw (mulW b c) fun s =>
  bw (addW r s) fun v =>
  bw (narX u) fun u' =>
  bw (narX v) fun v' =>
  some (u', v')
theorem mulX_eq (x y : Nat × Nat) : mulX x y = mulC x y := by
  unfold mulX mulC
  simp only [widX_eq, narX_eq]
def nearX (x y : Nat × Nat) (most : Nat) : Option Bool :=
  bw (widX x.1) fun a =>
  bw (widX y.1) fun b =>
  bw (gapX a b) fun p =>
  bw (widX x.2) fun c =>
  bw (widX y.2) fun d =>
  bw (gapX c d) fun q =>
  some (leF .f64 p most && leF .f64 q most)
theorem nearX_eq (x y : Nat × Nat) (most : Nat) : nearX x y most = nearW x y most := by
  unfold nearX nearW
  simp only [widX_eq, gapX_eq, leF_eq]
/-- A product is near to a phasor. -/
def prodX (a b c : Nat × Nat) : Option Bool := bw2 (mulX a b) fun u v => nearX (u, v) c tol1
def powX (x : Nat × Nat) : Wd :=
  bw (widX x.1) fun a =>
  bw (widX x.2) fun b =>
  bw (mulW a a) fun p =>
  bw (mulW b b) fun q =>
  bw (addW p q) fun s =>
  narX s
theorem powX_eq (x : Nat × Nat) : powX x = powerW x := by
  unfold powX powerW
  simp only [widX_eq, narX_eq]
def angSumX (u : Nat) : Nat → Nat → Nat → Wd
  | 0, _, _ => none
  | n + 1, p, k => if geF .f64 k w1 then
      bw (quoW w1 k) fun a =>
      bw (mulW u p) fun b =>
      bw (subW a b) fun p' =>
      bw (subW k w2) fun k' =>
      angSumX u n p' k'
    else some p
theorem angSumX_eq (u : Nat) : ∀ n p k, angSumX u n p k = angSum u n p k
  | 0, _, _ => rfl
  | n + 1, p, k => by
    rw [angSumX, angSum]
    simp only [geF_eq, angSumX_eq u n]
    rfl
def angX (y x : Nat) : Wd :=
  bw (widX y) fun yy =>
  bw (widX x) fun xx =>
  bw (absO yy) fun a =>
  bw (absO xx) fun b =>
  bw (quoW a b) fun t0 =>
  bw (if gtF .f64 a b then quoW b a else some t0) fun t1 =>
  bw (angIter 3 t1) fun t =>
  bw (mulW t t) fun u =>
  bw (angSumX u 9 0 w15) fun p =>
  bw (mulW t p) fun m =>
  bw (mulW w8 m) fun m8 =>
  bw (quoW m8 wTau) fun g0 =>
  bw (if gtF .f64 a b then subW w025 g0 else some g0) fun g1 =>
  bw (if ltF .f32 x 0 then subW w05 g1 else some g1) fun g2 =>
  force (if ltF .f32 y 0 then Op.negFloat .f64 g2 else g2) narX
theorem angX_eq (y x : Nat) : angX y x = angleW y x := by
  unfold angX angleW
  simp only [force_eq, widX_eq, narX_eq, gtF_eq, ltF_eq, angSumX_eq]
  rfl
end Go.Proofs.Ytlllekaiickkoaa
