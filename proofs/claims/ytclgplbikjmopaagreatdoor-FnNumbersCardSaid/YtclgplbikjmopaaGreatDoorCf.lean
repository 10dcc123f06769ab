/-
  The operations on wide floats once more, with each number told before it is handed on: the kernel computes each once.
-/
import Derived.Test.YtclgplbikjmopaaGreatDoorRules
namespace Go.Proofs.YtclgplbikjmopaaGreatDoor

def force {α : Type} (x : Nat) (k : Nat → α) : α := Nat.casesOn (motive := fun _ => α) (Nat.add x 1) (k 0) (fun n => k n)
theorem force_eq {α : Type} (x : Nat) (k : Nat → α) : force x k = k x := rfl
def forceI {α : Type} (x : Int) (k : Int → α) : α := Int.casesOn (motive := fun _ => α) x (fun n => force n fun m => k (.ofNat m)) (fun n => force n fun m => k (.negSucc m))
theorem forceI_eq {α : Type} (x : Int) (k : Int → α) : forceI x k = k x := by
  cases x with
  | ofNat n => exact force_eq n fun m => k (.ofNat m)
  | negSucc n => exact force_eq n fun m => k (.negSucc m)
/-- A logarithm by halving the number of digits. -/
def lgA : Nat → Nat → Nat → Nat
  | 0, _, a => a
  | j + 1, n, a => Bool.casesOn (motive := fun _ => Nat) (Nat.ble (Nat.pow 2 (Nat.pow 2 j)) n) (lgA j n a) (force (Nat.div n (Nat.pow 2 (Nat.pow 2 j))) fun m => force (Nat.add a (Nat.pow 2 j)) fun b => lgA j m b)
theorem lg_div {n k : Nat} (h : 2 ^ k ≤ n) : n.log2 = (n / 2 ^ k).log2 + k := by
  have hn : n ≠ 0 := by have := Nat.two_pow_pos k; omega
  have hm : n / 2 ^ k ≠ 0 := by have := Nat.div_pos h (Nat.two_pow_pos k); omega
  rw [Nat.log2_eq_iff hn]
  have h1 := Nat.log2_self_le hm
  have h2 : n / 2 ^ k < 2 ^ ((n / 2 ^ k).log2 + 1) := Nat.lt_log2_self
  refine ⟨?_, ?_⟩
  · rw [Nat.pow_add]
    exact (Nat.le_div_iff_mul_le (Nat.two_pow_pos k)).1 h1
  · have h3 := (Nat.div_lt_iff_lt_mul (Nat.two_pow_pos k)).1 h2
    rw [← Nat.pow_add] at h3
    have e : (n / 2 ^ k).log2 + 1 + k = (n / 2 ^ k).log2 + k + 1 := by omega
    rw [e] at h3
    exact h3
theorem lgA_eq : ∀ (j n a : Nat), n < 2 ^ 2 ^ j → lgA j n a = n.log2 + a
  | 0, n, a, h => by
    have h : n < 2 := h
    have : n.log2 = 0 := by
      rcases Nat.eq_zero_or_pos n with rfl | h0
      · rfl
      · obtain rfl : n = 1 := by omega
        rfl
    rw [this, Nat.zero_add]
    rfl
  | j + 1, n, a, h => by
    rw [lgA]
    simp only [force_eq]
    have e1 : Nat.pow 2 (Nat.pow 2 j) = 2 ^ 2 ^ j := rfl
    have e2 : Nat.div n (Nat.pow 2 (Nat.pow 2 j)) = n / 2 ^ 2 ^ j := rfl
    cases hb : Nat.ble (Nat.pow 2 (Nat.pow 2 j)) n
    · have : ¬ 2 ^ 2 ^ j ≤ n := fun hc => by rw [show Nat.ble (Nat.pow 2 (Nat.pow 2 j)) n = true from Nat.ble_eq_true_of_le hc] at hb; cases hb
      exact lgA_eq j n a (by omega)
    · have hle : 2 ^ 2 ^ j ≤ n := Nat.le_of_ble_eq_true hb
      have hd : n / 2 ^ 2 ^ j < 2 ^ 2 ^ j := by
        rw [Nat.div_lt_iff_lt_mul (Nat.two_pow_pos _), ← Nat.pow_add]
        have : 2 ^ j + 2 ^ j = 2 ^ (j + 1) := by rw [Nat.pow_succ]; omega
        rw [this]
        exact h
      show lgA j (n / 2 ^ 2 ^ j) (a + 2 ^ j) = _
      rw [lgA_eq j _ _ hd, lg_div hle]
      omega
def lgF (n : Nat) : Nat := Bool.casesOn (motive := fun _ => Nat) (Nat.ble (Nat.pow 2 128) n) (lgA 7 n 0) (Bool.casesOn (motive := fun _ => Nat) (Nat.ble (Nat.pow 2 2048) n) (lgA 11 n 0) n.log2)
set_option exponentiation.threshold 4096 in
theorem lgF_eq (n : Nat) : n.log2 = lgF n := by
  unfold lgF
  cases h1 : Nat.ble (Nat.pow 2 128) n
  · have : ¬ 2 ^ 128 ≤ n := fun hc => by rw [show Nat.ble (Nat.pow 2 128) n = true from Nat.ble_eq_true_of_le hc] at h1; cases h1
    exact (lgA_eq 7 n 0 (by omega)).symm
  · cases h2 : Nat.ble (Nat.pow 2 2048) n
    · have : ¬ 2 ^ 2048 ≤ n := fun hc => by rw [show Nat.ble (Nat.pow 2 2048) n = true from Nat.ble_eq_true_of_le hc] at h2; cases h2
      exact (lgA_eq 11 n 0 (Nat.lt_of_not_le this)).symm
    · rfl
def cutF (n drop : Nat) : Nat :=
  force (1 <<< min drop (lgF n + 2)) fun gap =>
  force (n / gap) fun low =>
  force (n % gap) fun rest =>
  low + (gap < 2 * rest || (gap == 2 * rest && low % 2 == 1)).toNat
theorem cutF_eq (neg : Bool) (n drop : Nat) : Ieee.Toward.cut .even neg n drop = cutF n drop := by
  unfold Ieee.Toward.cut cutF
  simp only [force_eq, ← lgF_eq]
def nearF (f : Ieee.Format) (neg : Bool) (mag : Nat) (place : Int) : Nat :=
  if mag = 0 then f.word neg 0 else
  forceI (max (place + lgF mag - f.fractionBits) f.leastPlace) fun last =>
  force (mag <<< (place - last).toNat) fun a =>
  force (last - place).toNat fun d =>
  force (cutF a d) fun kept =>
  f.word neg (min ((last - f.leastPlace).toNat * f.binade + kept) f.infRung)
theorem nearF_eq (f : Ieee.Format) (neg : Bool) (mag : Nat) (place : Int) : f.nearest neg mag place = nearF f neg mag place := by
  unfold Ieee.Format.nearest nearF
  simp only [force_eq, forceI_eq, cutF_eq, ← lgF_eq]
def rdF {α : Type} (f : Ieee.Format) (x : Nat) (k : Bool → Nat → Int → Option α) : Option α :=
  force (x % f.signWeight) fun rung =>
  if rung < f.binade then forceI f.leastPlace fun p => k (x / f.signWeight % 2 == 1) rung p
  else if rung < f.infRung then force (f.binade + rung % f.binade) fun m => forceI (f.leastPlace + (rung / f.binade - 1 : Nat)) fun p => k (x / f.signWeight % 2 == 1) m p
  else none
theorem rdF_some {α : Type} {f : Ieee.Format} {x : Nat} {k : Bool → Nat → Int → Option α} {v : α} (h : rdF f x k = some v) : ∃ s m p, f.read x = .number s m p ∧ k s m p = some v := by
  unfold rdF at h
  simp only [force_eq, forceI_eq] at h
  unfold Ieee.Format.read
  by_cases h1 : x % f.signWeight < f.binade
  · rw [if_pos h1] at h
    exact ⟨_, _, _, by simp only [if_pos h1], h⟩
  · rw [if_neg h1] at h
    by_cases h2 : x % f.signWeight < f.infRung
    · rw [if_pos h2] at h
      exact ⟨_, _, _, by simp only [if_neg h1, if_pos h2], h⟩
    · rw [if_neg h2] at h
      cases h
abbrev dbl : Ieee.Format := FloatKind.f64.format
def mulF (x y : Nat) : Option Nat := rdF dbl x fun s m i => rdF dbl y fun t n j => force (m * n) fun g => forceI (i + j) fun e => some (nearF dbl (s ^^ t) g e)
theorem mulF_some {x y r : Nat} (h : mulF x y = some r) : fop .mul .f64 (some x) (some y) = some r := by
  obtain ⟨s, m, i, hr, h⟩ := rdF_some h
  obtain ⟨t, n, j, hs, h⟩ := rdF_some h
  simp only [force_eq, forceI_eq, ← nearF_eq] at h
  show (Ieee.Datum.product (FloatKind.f64.format.read x) (FloatKind.f64.format.read y)).map _ = _
  rw [hr, hs]
  exact h
def sumF (s : Bool) (m : Nat) (i : Int) (t : Bool) (n : Nat) (j : Int) : Option Nat :=
  forceI (min i j) fun base =>
  forceI (Ieee.signed s m (i - base).toNat + Ieee.signed t n (j - base).toNat) fun total =>
  force total.natAbs fun g => some (nearF dbl (if total = 0 then s && t else total < 0) g base)
theorem sumF_eq (s : Bool) (m : Nat) (i : Int) (t : Bool) (n : Nat) (j : Int) : sumF s m i t n j = (Ieee.Datum.sum (.number s m i) (.number t n j)).map FloatKind.f64.format.write := by
  unfold sumF
  simp only [force_eq, forceI_eq, ← nearF_eq]
  rfl
def addF (x y : Nat) : Option Nat := rdF dbl x fun s m i => rdF dbl y fun t n j => sumF s m i t n j
theorem addF_some {x y r : Nat} (h : addF x y = some r) : fop .add .f64 (some x) (some y) = some r := by
  obtain ⟨s, m, i, hr, h⟩ := rdF_some h
  obtain ⟨t, n, j, hs, h⟩ := rdF_some h
  rw [sumF_eq] at h
  show (Ieee.Datum.sum (FloatKind.f64.format.read x) (FloatKind.f64.format.read y)).map _ = _
  rw [hr, hs]
  exact h
def subF (x y : Nat) : Option Nat := rdF dbl x fun s m i => rdF dbl y fun t n j => sumF s m i (!t) n j
theorem subF_some {x y r : Nat} (h : subF x y = some r) : fop .sub .f64 (some x) (some y) = some r := by
  obtain ⟨s, m, i, hr, h⟩ := rdF_some h
  obtain ⟨t, n, j, hs, h⟩ := rdF_some h
  rw [sumF_eq] at h
  show (Ieee.Datum.sum (FloatKind.f64.format.read x) (FloatKind.f64.format.read y).opposite).map _ = _
  rw [hr, hs]
  exact h
def quoF (x y : Nat) : Option Nat := rdF dbl x fun s m i => rdF dbl y fun t n j =>
  if n = 0 then none else
  force (54 + lgF n - lgF m) fun more =>
  force (m <<< more) fun dividend =>
  force (2 * (dividend / n) + (dividend % n != 0).toNat) fun g =>
  forceI (i - j - more - 1) fun e => some (nearF dbl (s ^^ t) g e)
theorem quoF_some {x y r : Nat} (h : quoF x y = some r) : fop .quo .f64 (some x) (some y) = some r := by
  obtain ⟨s, m, i, hr, h⟩ := rdF_some h
  obtain ⟨t, n, j, hs, h⟩ := rdF_some h
  by_cases hn : n = 0
  · rw [if_pos hn] at h
    cases h
  rw [if_neg hn] at h
  simp only [force_eq, forceI_eq, ← nearF_eq, ← lgF_eq] at h
  show (Ieee.Datum.quotient (FloatKind.f64.format.fractionBits + 2) (FloatKind.f64.format.read x) (FloatKind.f64.format.read y)).map _ = _
  rw [hr, hs]
  simp only [Ieee.Datum.quotient, if_neg hn]
  exact h
end Go.Proofs.YtclgplbikjmopaaGreatDoor
