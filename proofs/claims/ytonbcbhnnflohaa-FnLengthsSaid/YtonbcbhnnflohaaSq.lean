/-
  Floats up to the bits of a NaN: a class is 'none' (a NaN, whichever) or 'some bits'. What each operation gives is a function of the classes.
-/
import Derived.WalkKit
import Derived.WalkSpells
import Derived.WalkLawsBesides
namespace Go.Proofs.Ytonbcbhnnflohaa
open Go.RowKit

def cl (k : FloatKind) (b : Nat) : Option Nat := if (k.decode b).isNaN then none else some b

/-- The word b has the class c. -/
def Is (k : FloatKind) (b : Nat) (c : Option Nat) : Prop := b < 2 ^ k.format.width ∧ cl k b = c

def fop (op : BinOp) (k : FloatKind) (x y : Option Nat) : Option Nat := x.bind fun a => y.bind fun b => floatBits op k a b
def ford (k : FloatKind) (x y : Option Nat) : Option Ordering := x.bind fun a => y.bind fun b => k.format.order a b

theorem isNaN_iff {d : Ieee.Datum} : d.isNaN = true ↔ ∃ s t, d = .nan s t := by
  cases d <;> simp [Ieee.Datum.isNaN]

theorem cl_none {k b} : cl k b = none ↔ ∃ s t, k.decode b = .nan s t := by
  unfold cl
  rw [← isNaN_iff]
  split <;> simp_all

theorem cl_some {k b r} (h : cl k b = some r) : r = b ∧ (k.decode b).isNaN = false := by
  unfold cl at h
  split at h
  · cases h
  · simp_all

theorem read_word (f : Ieee.Format) (neg : Bool) (r : Nat) (h : r < f.signWeight) : (f.word neg r) / f.signWeight % 2 = (if neg then 1 else 0) ∧ (f.word neg r) % f.signWeight = r := by
  have hp : 0 < f.signWeight := Nat.two_pow_pos _
  unfold Ieee.Format.word
  cases neg
  · simp [Nat.div_eq_of_lt h, Nat.mod_eq_of_lt h]
  · simp [Nat.add_div_left r hp, Nat.div_eq_of_lt h, Nat.mod_eq_of_lt h]

theorem not_nan_word (f : Ieee.Format) (neg : Bool) (r : Nat) (h : r ≤ f.infRung) : (f.read (f.word neg r)).isNaN = false := by
  have hlt := Nat.lt_of_le_of_lt h f.infRung_lt
  have := (read_word f neg r hlt).2
  unfold Ieee.Format.read
  simp only [this]
  split
  · rfl
  · split
    · rfl
    · split
      · rfl
      · omega

theorem not_nan_write (f : Ieee.Format) (d : Ieee.Datum) (h : d.isNaN = false) : (f.read (f.write d)).isNaN = false := by
  cases d with
  | number s m e =>
    unfold Ieee.Format.write Ieee.Format.nearest
    dsimp only
    split
    · exact not_nan_word f _ _ (Nat.zero_le _)
    · exact not_nan_word f _ _ (Nat.min_le_right ..)
  | infinity s => exact not_nan_word f _ _ (Nat.le_refl _)
  | nan s t => cases h

theorem sum_not_nan {a b d} (h : Ieee.Datum.sum a b = some d) : d.isNaN = false := by
  cases a <;> cases b <;> simp only [Ieee.Datum.sum] at h <;> first | (cases h; rfl) | (cases h; done) | (split at h <;> cases h; rfl) | skip

theorem product_not_nan {a b d} (h : Ieee.Datum.product a b = some d) : d.isNaN = false := by
  cases a <;> cases b <;> simp only [Ieee.Datum.product] at h <;> first | (cases h; rfl) | (cases h; done) | (split at h <;> cases h; rfl) | skip

theorem quotient_not_nan {n a b d} (h : Ieee.Datum.quotient n a b = some d) : d.isNaN = false := by
  cases a <;> cases b <;> simp only [Ieee.Datum.quotient] at h <;> first | (cases h; rfl) | (cases h; done) | skip
  split at h
  · split at h <;> cases h; rfl
  · cases h; rfl

theorem floatBits_not_nan {op k a b r} (h : floatBits op k a b = some r) : cl k r = some r := by
  have key : ∀ o : Option Ieee.Datum, (∀ d, o = some d → d.isNaN = false) → o.map k.format.write = some r → cl k r = some r := by
    intro o ho hm
    cases o with
    | none => cases hm
    | some d =>
      cases hm
      unfold cl FloatKind.decode
      rw [not_nan_write k.format d (ho d rfl)]
      simp
  unfold floatBits at h
  split at h
  · exact key _ (fun d hd => sum_not_nan hd) h
  · exact key _ (fun d hd => sum_not_nan hd) h
  · exact key _ (fun d hd => product_not_nan hd) h
  · exact key _ (fun d hd => quotient_not_nan hd) h
  · cases h

theorem ford_cl (k : FloatKind) (a b : Nat) : ford k (cl k a) (cl k b) = k.format.order a b := by
  cases ha : cl k a with
  | none =>
    obtain ⟨s, t, h⟩ := cl_none.1 ha
    have h' : k.format.read a = .nan s t := h
    simp [ford, Ieee.Format.order, h', Ieee.Datum.order]
  | some x =>
    obtain ⟨rfl, _⟩ := cl_some ha
    cases hb : cl k b with
    | none =>
      obtain ⟨s, t, h⟩ := cl_none.1 hb
      have h' : k.format.read b = .nan s t := h
      simp only [ford, Ieee.Format.order, h']
      cases k.format.read x <;> simp [Ieee.Datum.order]
    | some y => obtain ⟨rfl, _⟩ := cl_some hb; simp [ford]

/-! ## NaNs that are drawn -/
section
variable {P : Program} (w : World)

theorem lt_of_wf {k : FloatKind} {b : Nat} (h : (Lit.float k b).wf = true) : b < 2 ^ k.format.width := by
  cases k <;> simp [Lit.wf] at h <;> exact h

end

theorem Is_lit {k : FloatKind} {b : Nat} (h : (decide (b < 2 ^ k.format.width) && !(k.decode b).isNaN) = true) : Is k b (some b) := by
  simp at h
  refine ⟨h.1, ?_⟩
  unfold cl
  simp [h.2]

/-! ## conversions -/
/-- 'float64(x)' of a float32, 'float32(x)' of a float64 that does not overflow. -/
def fcv (s d : FloatKind) (x : Option Nat) : Option Nat := x.bind fun b => floatToFloatBits s b d

theorem floatToFloatBits_not_nan {s d b r} (h : floatToFloatBits s b d = some r) (hb : (s.decode b).isNaN = false) : cl d r = some r := by
  unfold floatToFloatBits at h
  split at h
  · rename_i e; subst e; cases h; unfold cl; simp [hb]
  · split at h
    · cases h
    · cases h; unfold cl FloatKind.decode FloatKind.encode; rw [not_nan_write _ _ rfl]; simp
    · split at h
      · cases h
      · cases h; unfold cl FloatKind.decode FloatKind.encode; rw [not_nan_write _ _ rfl]; simp

end Go.Proofs.Ytonbcbhnnflohaa

namespace Go.Proofs.Ytonbcbhnnflohaa
open Go.RowKit

/-- The magnitude of a rung, in units of the least place. -/
def mag (f : Ieee.Format) (r : Nat) : Nat := if r < f.binade then r else (f.binade + r % f.binade) * 2 ^ (r / f.binade - 1)

theorem binade_pos (f : Ieee.Format) : 0 < f.binade := Nat.two_pow_pos _

theorem mag_lt (f : Ieee.Format) {r r' : Nat} (h : r < r') : mag f r < mag f r' := by
  have hB := binade_pos f
  unfold mag
  generalize f.binade = B at hB
  have e1 := Nat.div_add_mod r B
  have e2 := Nat.div_add_mod r' B
  have m1 := Nat.mod_lt r hB
  have m2 := Nat.mod_lt r' hB
  have hq : r / B ≤ r' / B := Nat.div_le_div_right (Nat.le_of_lt h)
  by_cases h1 : r < B
  · rw [if_pos h1]
    by_cases h2 : r' < B
    · rw [if_pos h2]; exact h
    · rw [if_neg h2]
      have : 1 ≤ 2 ^ (r' / B - 1) := Nat.one_le_two_pow
      calc r < B := h1
        _ ≤ (B + r' % B) * 1 := by omega
        _ ≤ _ := Nat.mul_le_mul_left _ this
  · have h2 : ¬ r' < B := by omega
    rw [if_neg h1, if_neg h2]
    have hq1 : 1 ≤ r / B := Nat.div_pos (by omega) hB
    rcases Nat.lt_or_eq_of_le hq with hlt | heq
    · have hp : 2 ^ (r / B) ≤ 2 ^ (r' / B - 1) := Nat.pow_le_pow_right (by decide) (by omega)
      have hs : 2 ^ (r / B) = 2 ^ (r / B - 1) * 2 := by rw [← Nat.pow_succ]; congr 1; omega
      have hpos : 0 < 2 ^ (r / B - 1) := Nat.two_pow_pos _
      calc (B + r % B) * 2 ^ (r / B - 1) < (B * 2) * 2 ^ (r / B - 1) := Nat.mul_lt_mul_of_pos_right (by omega) hpos
        _ = B * 2 ^ (r / B) := by rw [hs, Nat.mul_assoc, Nat.mul_comm 2]
        _ ≤ B * 2 ^ (r' / B - 1) := Nat.mul_le_mul_left _ hp
        _ ≤ _ := Nat.mul_le_mul_right _ (by omega)
    · have hm : r % B < r' % B := by rw [heq] at e1; omega
      rw [heq]
      exact Nat.mul_lt_mul_of_pos_right (by omega) (Nat.two_pow_pos _)

theorem mag_inj (f : Ieee.Format) {r r' : Nat} (h : mag f r = mag f r') : r = r' := by
  rcases Nat.lt_trichotomy r r' with h1 | h1 | h1
  · have := mag_lt f h1; omega
  · exact h1
  · have := mag_lt f h1; omega

def sgn (f : Ieee.Format) (x : Nat) : Bool := x / f.signWeight % 2 == 1
def rung (f : Ieee.Format) (x : Nat) : Nat := x % f.signWeight

theorem word_eq (f : Ieee.Format) (hw : 2 ^ f.width = 2 * f.signWeight) {x y : Nat} (hx : x < 2 ^ f.width) (hy : y < 2 ^ f.width) (hs : sgn f x = sgn f y) (hr : rung f x = rung f y) : x = y := by
  have hp : 0 < f.signWeight := Nat.two_pow_pos _
  unfold sgn at hs
  unfold rung at hr
  rw [hw] at hx hy
  generalize f.signWeight = S at *
  have e1 := Nat.div_add_mod x S
  have e2 := Nat.div_add_mod y S
  have q1 : x / S < 2 := Nat.div_lt_of_lt_mul (by omega)
  have q2 : y / S < 2 := Nat.div_lt_of_lt_mul (by omega)
  have hq : x / S = y / S := by
    rw [Nat.mod_eq_of_lt q1, Nat.mod_eq_of_lt q2] at hs
    generalize x / S = a at *
    generalize y / S = b at *
    have ha : a = 0 ∨ a = 1 := by omega
    have hb : b = 0 ∨ b = 1 := by omega
    rcases ha with rfl | rfl <;> rcases hb with rfl | rfl <;> simp at hs <;> rfl
  rw [← e1, ← e2, hq, hr]

/-- What a finite word reads as. -/
theorem read_fin (f : Ieee.Format) (x : Nat) (h : rung f x < f.infRung) : ∃ (m : Nat) (k : Nat), f.read x = .number (sgn f x) m (f.leastPlace + k) ∧ m * 2 ^ k = mag f (rung f x) ∧ k = rung f x / f.binade - 1 := by
  unfold rung at *
  unfold mag Ieee.Format.read sgn
  dsimp only
  by_cases h1 : x % f.signWeight < f.binade
  · rw [if_pos h1, if_pos h1]
    refine ⟨x % f.signWeight, 0, by simp, by simp, ?_⟩
    rw [Nat.div_eq_of_lt h1]
  · rw [if_neg h1, if_pos h, if_neg h1]
    exact ⟨_, _, rfl, rfl, rfl⟩

theorem signed_eq (s : Bool) (m k : Nat) : Ieee.signed s m k = if s then -((m * 2 ^ k : Nat) : Int) else ((m * 2 ^ k : Nat) : Int) := by
  unfold Ieee.signed
  rw [Nat.shiftLeft_eq]

/-- How two finite words compare: as their signed magnitudes. -/
def val (f : Ieee.Format) (x : Nat) : Int := if sgn f x then -(mag f (rung f x) : Int) else (mag f (rung f x) : Int)

theorem cmp_scale (a b : Int) (k : Nat) : compare (a * ((2 ^ k : Nat) : Int)) (b * ((2 ^ k : Nat) : Int)) = compare a b := by
  have hp : (0 : Int) < ((2 ^ k : Nat) : Int) := by exact_mod_cast Nat.two_pow_pos k
  show compareOfLessAndEq _ _ = compareOfLessAndEq _ _
  unfold compareOfLessAndEq
  rcases Int.lt_trichotomy a b with h | h | h
  · rw [if_pos h, if_pos (Int.mul_lt_mul_of_pos_right h hp)]
  · subst h; simp
  · have h' := Int.mul_lt_mul_of_pos_right h hp
    rw [if_neg (by omega), if_neg (by omega), if_neg (by omega), if_neg (by omega)]

theorem order_fin (f : Ieee.Format) (x y : Nat) (hx : rung f x < f.infRung) (hy : rung f y < f.infRung) : f.order x y = some (compare (val f x) (val f y)) := by
  obtain ⟨m, k, hr, hm, _⟩ := read_fin f x hx
  obtain ⟨n, l, hs, hn, _⟩ := read_fin f y hy
  unfold Ieee.Format.order
  rw [hr, hs]
  simp only [Ieee.Datum.order]
  congr 1
  have hmin : min (f.leastPlace + (k : Int)) (f.leastPlace + (l : Int)) = f.leastPlace + ((min k l : Nat) : Int) := by omega
  rw [hmin, signed_eq, signed_eq, show (f.leastPlace + (k : Int) - (f.leastPlace + ((min k l : Nat) : Int))).toNat = k - min k l by omega,
    show (f.leastPlace + (l : Int) - (f.leastPlace + ((min k l : Nat) : Int))).toNat = l - min k l by omega]
  rw [← cmp_scale _ _ (min k l)]
  have h1 : m * 2 ^ (k - min k l) * 2 ^ min k l = mag f (rung f x) := by rw [Nat.mul_assoc, ← Nat.pow_add, ← hm]; congr 2; omega
  have h2 : n * 2 ^ (l - min k l) * 2 ^ min k l = mag f (rung f y) := by rw [Nat.mul_assoc, ← Nat.pow_add, ← hn]; congr 2; omega
  unfold val
  rw [← h1, ← h2]
  congr 1 <;> split <;> push_cast <;> simp [Int.neg_mul]

theorem order_self (f : Ieee.Format) (x : Nat) (n : (f.read x).isNaN = false) : f.order x x = some .eq := by
  unfold Ieee.Format.order
  cases h : f.read x with
  | number s m e => simp [Ieee.Datum.order]
  | infinity s => simp [Ieee.Datum.order]
  | nan s t => rw [h] at n; cases n

theorem bb (k : FloatKind) : k.format.binade ≤ k.format.infRung := by cases k <;> decide
theorem ww (k : FloatKind) : 2 ^ k.format.width = 2 * k.format.signWeight := by cases k <;> decide

/-- Same class: equal and of one sign, or both NaN. -/
theorem feqB_self (k : FloatKind) (b : Nat) (c : Nat) (h : Is k b (some c)) : ford k (some c) (some c) = some .eq := by
  obtain ⟨rfl, hn⟩ := cl_some h.2
  exact order_self k.format c hn

theorem sgn_word (f : Ieee.Format) (neg : Bool) (r : Nat) (h : r < f.signWeight) : sgn f (f.word neg r) = neg := by
  unfold sgn
  rw [(read_word f neg r h).1]
  cases neg <;> rfl

end Go.Proofs.Ytonbcbhnnflohaa

namespace Go.Proofs.Ytonbcbhnnflohaa
open Go.RowKit

theorem cut_le (neg : Bool) (n drop t : Nat) (h : n < 2 ^ (t + drop)) : Ieee.Toward.cut .even neg n drop ≤ 2 ^ t := by
  unfold Ieee.Toward.cut
  dsimp only
  generalize hg : (1 <<< min drop (n.log2 + 2)) = gap
  have hg' : gap = 2 ^ min drop (n.log2 + 2) := by rw [← hg, Nat.one_shiftLeft]
  have hpos : 0 < gap := by rw [hg']; exact Nat.two_pow_pos _
  have hlow : n / gap < 2 ^ t := by
    rcases Nat.le_total drop (n.log2 + 2) with hd | hd
    · rw [hg', Nat.min_eq_left hd]
      exact Nat.div_lt_of_lt_mul (by rw [← Nat.pow_add, Nat.add_comm]; exact h)
    · rw [hg', Nat.min_eq_right hd]
      have : n < 2 ^ (n.log2 + 2) := Nat.lt_of_lt_of_le Nat.lt_log2_self (Nat.pow_le_pow_right (by decide) (by omega))
      rw [Nat.div_eq_of_lt this]
      exact Nat.two_pow_pos _
  generalize (decide (gap < 2 * (n % gap)) || gap == 2 * (n % gap) && n / gap % 2 == 1) = b
  cases b <;> simp <;> omega

theorem rung_word (f : Ieee.Format) (neg : Bool) (r : Nat) (h : r < f.signWeight) : rung f (f.word neg r) = r := (read_word f neg r h).2

/-- The class of a root. -/
def sqrtC (c : Option Nat) : Option Nat := c.bind FloatKind.f64.format.sqrt

end Go.Proofs.Ytonbcbhnnflohaa
