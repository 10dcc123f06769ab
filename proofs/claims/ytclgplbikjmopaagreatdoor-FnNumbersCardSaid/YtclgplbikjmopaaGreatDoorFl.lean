/-
  Floats up to the bits of a NaN: a class is 'none' (a NaN, whichever) or 'some bits'. What each operation gives is a function of the classes.
-/
import Derived.WalkKit
import Derived.WalkSpells
import Derived.WalkLawsBesides
namespace Go.Proofs.YtclgplbikjmopaaGreatDoor
open Go.RowKit

def cl (k : FloatKind) (b : Nat) : Option Nat := if (k.decode b).isNaN then none else some b

/-- The word b has the class c. -/
def Is (k : FloatKind) (b : Nat) (c : Option Nat) : Prop := b < 2 ^ k.format.width ∧ cl k b = c

def fop (op : BinOp) (k : FloatKind) (x y : Option Nat) : Option Nat := x.bind fun a => y.bind fun b => floatBits op k a b
def ford (k : FloatKind) (x y : Option Nat) : Option Ordering := x.bind fun a => y.bind fun b => k.format.order a b

theorem isNaN_iff {d : Ieee.Datum} : d.isNaN = true ↔ ∃ s t, d = .nan s t := by
  cases d <;> simp [Ieee.Datum.isNaN]

theorem cl_none {k b} : cl k b = none ↔ ∃ s t, k.decode b = .nan s t := by
  unfold cl
  rw [← isNaN_iff]
  split <;> simp_all

theorem cl_some {k b r} (h : cl k b = some r) : r = b ∧ (k.decode b).isNaN = false := by
  unfold cl at h
  split at h
  · cases h
  · simp_all

theorem read_word (f : Ieee.Format) (neg : Bool) (r : Nat) (h : r < f.signWeight) : (f.word neg r) / f.signWeight % 2 = (if neg then 1 else 0) ∧ (f.word neg r) % f.signWeight = r := by
  have hp : 0 < f.signWeight := Nat.two_pow_pos _
  unfold Ieee.Format.word
  cases neg
  · simp [Nat.div_eq_of_lt h, Nat.mod_eq_of_lt h]
  · simp [Nat.add_div_left r hp, Nat.div_eq_of_lt h, Nat.mod_eq_of_lt h]

theorem not_nan_word (f : Ieee.Format) (neg : Bool) (r : Nat) (h : r ≤ f.infRung) : (f.read (f.word neg r)).isNaN = false := by
  have hlt := Nat.lt_of_le_of_lt h f.infRung_lt
  have := (read_word f neg r hlt).2
  unfold Ieee.Format.read
  simp only [this]
  split
  · rfl
  · split
    · rfl
    · split
      · rfl
      · omega

theorem not_nan_write (f : Ieee.Format) (d : Ieee.Datum) (h : d.isNaN = false) : (f.read (f.write d)).isNaN = false := by
  cases d with
  | number s m e =>
    unfold Ieee.Format.write Ieee.Format.nearest
    dsimp only
    split
    · exact not_nan_word f _ _ (Nat.zero_le _)
    · exact not_nan_word f _ _ (Nat.min_le_right ..)
  | infinity s => exact not_nan_word f _ _ (Nat.le_refl _)
  | nan s t => cases h

theorem sum_not_nan {a b d} (h : Ieee.Datum.sum a b = some d) : d.isNaN = false := by
  cases a <;> cases b <;> simp only [Ieee.Datum.sum] at h <;> first | (cases h; rfl) | (cases h; done) | (split at h <;> cases h; rfl) | skip

theorem product_not_nan {a b d} (h : Ieee.Datum.product a b = some d) : d.isNaN = false := by
  cases a <;> cases b <;> simp only [Ieee.Datum.product] at h <;> first | (cases h; rfl) | (cases h; done) | (split at h <;> cases h; rfl) | skip

theorem quotient_not_nan {n a b d} (h : Ieee.Datum.quotient n a b = some d) : d.isNaN = false := by
  cases a <;> cases b <;> simp only [Ieee.Datum.quotient] at h <;> first | (cases h; rfl) | (cases h; done) | skip
  split at h
  · split at h <;> cases h; rfl
  · cases h; rfl

theorem root_not_nan {n a d} (h : Ieee.Datum.root n a = some d) : d.isNaN = false := by
  cases a with
  | number s m e =>
    simp only [Ieee.Datum.root] at h
    split at h
    · cases h; rfl
    · split at h <;> cases h; rfl
  | infinity s => simp only [Ieee.Datum.root] at h; split at h <;> cases h; rfl
  | nan s t => simp [Ieee.Datum.root] at h

theorem floatBits_not_nan {op k a b r} (h : floatBits op k a b = some r) : cl k r = some r := by
  have key : ∀ o : Option Ieee.Datum, (∀ d, o = some d → d.isNaN = false) → o.map k.format.write = some r → cl k r = some r := by
    intro o ho hm
    cases o with
    | none => cases hm
    | some d =>
      cases hm
      unfold cl FloatKind.decode
      rw [not_nan_write k.format d (ho d rfl)]
      simp
  unfold floatBits at h
  split at h
  · exact key _ (fun d hd => sum_not_nan hd) h
  · exact key _ (fun d hd => sum_not_nan hd) h
  · exact key _ (fun d hd => product_not_nan hd) h
  · exact key _ (fun d hd => quotient_not_nan hd) h
  · cases h

theorem floatBits_nan_left {op k a b} (h : cl k a = none) : floatBits op k a b = none := by
  obtain ⟨s, t, h⟩ := cl_none.1 h
  have h' : k.format.read a = .nan s t := h
  unfold floatBits
  split <;> simp [Ieee.Format.add, Ieee.Format.sub, Ieee.Format.mul, Ieee.Format.div, h', Ieee.Datum.sum, Ieee.Datum.product, Ieee.Datum.quotient]

theorem floatBits_nan_right {op k a b} (h : cl k b = none) : floatBits op k a b = none := by
  obtain ⟨s, t, h⟩ := cl_none.1 h
  have h' : k.format.read b = .nan s t := h
  unfold floatBits
  split <;> simp only [Ieee.Format.add, Ieee.Format.sub, Ieee.Format.mul, Ieee.Format.div, h', Ieee.Datum.opposite] <;> cases k.format.read a <;> simp [Ieee.Datum.sum, Ieee.Datum.product, Ieee.Datum.quotient]

theorem fop_cl (op : BinOp) (k : FloatKind) (a b : Nat) : fop op k (cl k a) (cl k b) = floatBits op k a b := by
  cases ha : cl k a with
  | none => simp [fop, floatBits_nan_left ha]
  | some x =>
    obtain ⟨rfl, _⟩ := cl_some ha
    cases hb : cl k b with
    | none => simp [fop, floatBits_nan_right hb]
    | some y => obtain ⟨rfl, _⟩ := cl_some hb; simp [fop]

theorem ford_cl (k : FloatKind) (a b : Nat) : ford k (cl k a) (cl k b) = k.format.order a b := by
  cases ha : cl k a with
  | none =>
    obtain ⟨s, t, h⟩ := cl_none.1 ha
    have h' : k.format.read a = .nan s t := h
    simp [ford, Ieee.Format.order, h', Ieee.Datum.order]
  | some x =>
    obtain ⟨rfl, _⟩ := cl_some ha
    cases hb : cl k b with
    | none =>
      obtain ⟨s, t, h⟩ := cl_none.1 hb
      have h' : k.format.read b = .nan s t := h
      simp only [ford, Ieee.Format.order, h']
      cases k.format.read x <;> simp [Ieee.Datum.order]
    | some y => obtain ⟨rfl, _⟩ := cl_some hb; simp [ford]

/-! ## NaNs that are drawn -/
theorem cl_of_big (k : FloatKind) (b : Nat) (h : k.format.infRung < b % k.format.signWeight) : cl k b = none := by
  rw [cl_none]
  unfold FloatKind.decode Ieee.Format.read
  have hb : k.format.binade ≤ k.format.infRung := by cases k <;> decide
  simp only
  rw [if_neg (by omega), if_neg (by omega), if_neg (by omega)]
  exact ⟨_, _, rfl⟩

theorem nan32 (t : Nat) : Is .f32 ((t % 2) * 2 ^ 31 + 0x7f800000 + 1 + (t / 2) % (2 ^ 23 - 1)) none := by
  have h1 : t % 2 < 2 := Nat.mod_lt _ (by omega)
  have h2 : (t / 2) % (2 ^ 23 - 1) < 2 ^ 23 - 1 := Nat.mod_lt _ (by decide)
  generalize t % 2 = x at h1
  generalize (t / 2) % (2 ^ 23 - 1) = y at h2
  have hs : FloatKind.f32.format.signWeight = 2147483648 := by decide
  have hi : FloatKind.f32.format.infRung = 2139095040 := by decide
  have hw : 2 ^ FloatKind.f32.format.width = 4294967296 := by decide
  refine ⟨by rw [hw]; omega, cl_of_big _ _ ?_⟩
  rw [hs, hi]
  omega

theorem nan64 (t : Nat) : Is .f64 ((t % 2) * 2 ^ 63 + 0x7ff0000000000000 + 1 + (t / 2) % (2 ^ 52 - 1)) none := by
  have h1 : t % 2 < 2 := Nat.mod_lt _ (by omega)
  have h2 : (t / 2) % (2 ^ 52 - 1) < 2 ^ 52 - 1 := Nat.mod_lt _ (by decide)
  generalize t % 2 = x at h1
  generalize (t / 2) % (2 ^ 52 - 1) = y at h2
  have hs : FloatKind.f64.format.signWeight = 9223372036854775808 := by decide
  have hi : FloatKind.f64.format.infRung = 9218868437227405312 := by decide
  have hw : 2 ^ FloatKind.f64.format.width = 18446744073709551616 := by decide
  refine ⟨by rw [hw]; omega, cl_of_big _ _ ?_⟩
  rw [hs, hi]
  omega

section
variable {P : Program} (w : World)

theorem run_nanBits (k : FloatKind) (x y : Nat) : ∃ r, (choose (.nanBits k x y)).run P w = .ok r (w.drewN 1) ∧ Is k r none := by
  cases k
  · exact ⟨_, rfl, nan32 _⟩
  · exact ⟨_, rfl, nan64 _⟩
theorem run_nanConv (k : FloatKind) (x : Nat) : ∃ r, (choose (.nanConv k x)).run P w = .ok r (w.drewN 1) ∧ Is k r none := by
  cases k
  · exact ⟨_, rfl, nan32 _⟩
  · exact ⟨_, rfl, nan64 _⟩

theorem lt_of_wf {k : FloatKind} {b : Nat} (h : (Lit.float k b).wf = true) : b < 2 ^ k.format.width := by
  cases k <;> simp [Lit.wf] at h <;> exact h

def isArith : BinOp → Bool
  | .add | .sub | .mul | .quo => true
  | _ => false

/-- '+', '-', '*', '/': always a float of the class that the classes give. -/
theorem run_fop (op : BinOp) (hop : isArith op = true) (t : TypeId) (k : FloatKind) (x y : Nat) :
    ∃ r n, (binOp op t (.float k x) (.float k y)).run P w = .ok (.float k r) (w.drewN n) ∧ Is k r (fop op k (cl k x) (cl k y)) := by
  rw [fop_cl]
  cases hb : floatBits op k x y with
  | some r => exact ⟨r, 0, run_float_arith w op t k x y r hb, lt_of_wf (floatBits_wf hb), floatBits_not_nan hb⟩
  | none =>
    obtain ⟨r, hr, hn⟩ := run_nanBits (P := P) w k x y
    refine ⟨r, 1, ?_, hn⟩
    unfold floatBits at hb
    cases op <;> simp [isArith] at hop <;> simp only at hb <;>
      simp only [binOp, Op.floatArith, hb, Sem.run_bind, Sem.run_pure, Result.andThen_ok, hr, ne_eq, not_true_eq_false, if_false]
end

theorem Is_lit {k : FloatKind} {b : Nat} (h : (decide (b < 2 ^ k.format.width) && !(k.decode b).isNaN) = true) : Is k b (some b) := by
  simp at h
  refine ⟨h.1, ?_⟩
  unfold cl
  simp [h.2]

/-! ## conversions -/
/-- 'float64(x)' of a float32, 'float32(x)' of a float64 that does not overflow. -/
def fcv (s d : FloatKind) (x : Option Nat) : Option Nat := x.bind fun b => floatToFloatBits s b d

theorem floatToFloatBits_not_nan {s d b r} (h : floatToFloatBits s b d = some r) (hb : (s.decode b).isNaN = false) : cl d r = some r := by
  unfold floatToFloatBits at h
  split at h
  · rename_i e; subst e; cases h; unfold cl; simp [hb]
  · split at h
    · cases h
    · cases h; unfold cl FloatKind.decode FloatKind.encode; rw [not_nan_write _ _ rfl]; simp
    · split at h
      · cases h
      · cases h; unfold cl FloatKind.decode FloatKind.encode; rw [not_nan_write _ _ rfl]; simp

/-- The narrowing does not overflow (a NaN and an infinity do not). -/
def fits (s d : FloatKind) (x : Option Nat) : Prop := ∀ b, x = some b → ∃ r, floatToFloatBits s b d = some r

theorem run_fcv {P : Program} (w : World) (src dst : TypeId) (s d : FloatKind) (b : Nat) (hne : s ≠ d) (hs : (P.underlying src).isSome = true) (hd : P.underlying dst = some (.float d)) (hf : fits s d (cl s b)) :
    ∃ r n, (convert src dst (.float s b)).run P w = .ok (.float d r) (w.drewN n) ∧ Is d r (fcv s d (cl s b)) := by
  obtain ⟨u, hs'⟩ := Option.isSome_iff_exists.1 hs
  cases hc : cl s b with
  | none =>
    obtain ⟨sg, t, hn⟩ := cl_none.1 hc
    obtain ⟨r, hr, hi⟩ := run_nanConv (P := P) w d b
    refine ⟨r, 1, ?_, by simpa [fcv] using hi⟩
    cases u <;> simp only [convert, run_underlying hs', run_underlying hd, Conv.floatToFloat, hne, hn, if_false, Sem.run_bind, Sem.run_pure, Result.andThen_ok, hr]
  | some x =>
    obtain ⟨rfl, hb⟩ := cl_some hc
    obtain ⟨r, hr⟩ := hf x hc
    refine ⟨r, 0, run_convert_float_float w src dst s d x r (by simp [hs']) hd hr, ?_, ?_⟩
    · unfold floatToFloatBits at hr
      rw [if_neg hne] at hr
      split at hr
      · cases hr
      · cases hr; exact d.format.write_lt _
      · split at hr
        · cases hr
        · cases hr; exact d.format.write_lt _
    · rw [floatToFloatBits_not_nan hr hb]; simp [fcv, hr]

end Go.Proofs.YtclgplbikjmopaaGreatDoor
