/-
  FnCircles in words: what sine, phasors, angles, products and tenths compute, where no NaN comes (plain functions, no program).
-/
import Derived.Test.YtclgplbikjmopaaGreatDoorCf
namespace Go.Proofs.YtclgplbikjmopaaGreatDoor

abbrev Wd := Option Nat
def bw {α : Type} (o : Wd) (k : Nat → Option α) : Option α := match o with
  | none => none
  | some r => force r k
theorem bw_some {α : Type} {o : Wd} {k : Nat → Option α} {v : α} (h : bw o k = some v) : ∃ r, o = some r ∧ k r = some v := by
  cases o with
  | none => cases h
  | some r => exact ⟨r, rfl, by rw [← force_eq r k]; exact h⟩
def bw2 {α : Type} (o : Option (Nat × Nat)) (k : Nat → Nat → Option α) : Option α := match o with
  | none => none
  | some p => force p.1 fun a => force p.2 fun b => k a b
theorem bw2_some {α : Type} {o : Option (Nat × Nat)} {k : Nat → Nat → Option α} {v : α} (h : bw2 o k = some v) : ∃ a b, o = some (a, b) ∧ k a b = some v := by
  cases o with
  | none => cases h
  | some p =>
    refine ⟨p.1, p.2, rfl, ?_⟩
    have h : (force p.1 fun a => force p.2 fun b => k a b) = some v := h
    rw [force_eq, force_eq] at h
    exact h
def bi {α : Type} (o : Option Int) (k : Int → Option α) : Option α := match o with
  | none => none
  | some (.ofNat n) => force n fun m => k (.ofNat m)
  | some (.negSucc n) => force n fun m => k (.negSucc m)
theorem bi_some {α : Type} {o : Option Int} {k : Int → Option α} {v : α} (h : bi o k = some v) : ∃ r, o = some r ∧ k r = some v := by
  match o, h with
  | some (.ofNat n), h => exact ⟨_, rfl, by have h : (force n fun m => k (.ofNat m)) = some v := h; rw [force_eq] at h; exact h⟩
  | some (.negSucc n), h => exact ⟨_, rfl, by have h : (force n fun m => k (.negSucc m)) = some v := h; rw [force_eq] at h; exact h⟩
def mulW (x y : Nat) : Wd := mulF x y
def addW (x y : Nat) : Wd := addF x y
def subW (x y : Nat) : Wd := subF x y
def quoW (x y : Nat) : Wd := match quoF x y with
  | some r => some r
  | none => fop .quo .f64 (some x) (some y)
theorem quoW_some {x y r : Nat} (h : quoW x y = some r) : fop .quo .f64 (some x) (some y) = some r := by
  unfold quoW at h
  split at h
  · rename_i q hq
    cases h
    exact quoF_some hq
  · exact h
def geW (x y : Nat) : Bool := fgeB .f64 (some x) (some y)
def gtW (x y : Nat) : Bool := fgtB .f64 (some x) (some y)
def ltW (x y : Nat) : Bool := fltB .f64 (some x) (some y)
abbrev w0_ : Nat := 0
abbrev w025 : Nat := 4598175219545276416
abbrev w05 : Nat := 4602678819172646912
abbrev w1 : Nat := 4607182418800017408
abbrev w2 : Nat := 4611686018427387904
abbrev w8 : Nat := 4620693217682128896
abbrev w15 : Nat := 4624633867356078080
abbrev w25 : Nat := 4627730092099895296
abbrev w64 : Nat := 4634204016564240384
abbrev wTau : Nat := 4618760256179416344
def i64W (x : Nat) : Option Int := floatToIntVal .f64 x .i64
def ofIntW (n : Int) : Nat := floatOfInt .f64 n

/-- What is behind the point. -/
def fracW (x : Nat) : Wd :=
  bi (i64W x) fun n =>
  bw (subW x (ofIntW n)) fun f =>
  if ltW f 0 then addW f w1 else some f
/-- One step of the sine's sum. -/
def sinStep (u p k : Nat) : Wd :=
  bw (mulW u p) fun a =>
  bw (mulW w2 k) fun b =>
  bw (mulW w2 k) fun c =>
  bw (addW c w1) fun d =>
  bw (mulW b d) fun e =>
  bw (quoW a e) fun q =>
  subW w1 q
def sinSum (u : Nat) : Nat → Nat → Nat → Wd
  | 0, _, _ => none
  | n + 1, p, k => if geW k w1 then
      bw (sinStep u p k) fun p' =>
      bw (subW k w1) fun k' =>
      sinSum u n p' k'
    else some p
def sineW (x : Nat) : Wd :=
  bw (fracW x) fun f0 =>
  bw (if geW f0 w05 then subW f0 w05 else some f0) fun f1 =>
  bw (if gtW f1 w025 then subW w05 f1 else some f1) fun f2 =>
  bw (mulW f2 wTau) fun z =>
  bw (mulW z z) fun u =>
  bw (sinSum u 9 w1 w8) fun p =>
  bw (mulW z p) fun r =>
  if geW f0 w05 then some (Op.negFloat .f64 r) else some r
def quarters : Nat → Nat → Nat → Option (Nat × Nat)
  | 0, _, _ => none
  | n + 1, f, q => if geW f w025 then
      bw (subW f w025) fun f' =>
      quarters n f' (q + 1)
    else some (f, q)
def nar (x : Nat) : Wd := fcv .f64 .f32 (some x)
def wid (x : Nat) : Wd := fcv .f32 .f64 (some x)
def phasorW (x : Nat) : Option (Nat × Nat) :=
  bw (fracW x) fun f =>
  bw2 (quarters 5 f 0) fun g q =>
  bw (subW w025 g) fun h =>
  bw (sineW h) fun c =>
  bw (sineW g) fun s =>
  bw (subW 0 c) fun nc =>
  bw (subW 0 s) fun ns =>
  bw (nar (if q = 1 then ns else if q = 2 then nc else if q = 3 then s else c)) fun a' =>
  bw (nar (if q = 1 then c else if q = 2 then ns else if q = 3 then nc else s)) fun b' =>
  some (a', b')
def mulC (x y : Nat × Nat) : Option (Nat × Nat) :=
  bw (wid x.1) fun a =>
  bw (wid x.2) fun b =>
  bw (wid y.1) fun c =>
  bw (wid y.2) fun d =>
  bw (mulW a c) fun p =>
  bw (mulW b d) fun q =>
  bw (subW p q) fun u =>
  bw (mulW a d) fun r =>
  bw (mulW b c) fun s =>
  bw (addW r s) fun v =>
  bw (nar u) fun u' =>
  bw (nar v) fun v' =>
  some (u', v')
def logSum (u : Nat) : Nat → Nat → Nat → Wd
  | 0, _, _ => none
  | n + 1, q, k => if geW k w1 then
      bw (quoW w1 k) fun a =>
      bw (mulW u q) fun b =>
      bw (addW a b) fun q' =>
      bw (subW k w2) fun k' =>
      logSum u n q' k'
    else some q
def logUp : Nat → Nat → Nat → Option (Nat × Nat)
  | 0, _, _ => none
  | n + 1, x, e => if geW x 4609434218613702656 then
      bw (quoW x w2) fun x' =>
      bw (addW e w1) fun e' =>
      logUp n x' e'
    else some (x, e)
def logDown : Nat → Nat → Nat → Option (Nat × Nat)
  | 0, _, _ => none
  | n + 1, x, e => if ltW x 4604930618986332160 then
      bw (mulW x w2) fun x' =>
      bw (subW e w1) fun e' =>
      logDown n x' e'
    else some (x, e)
def logW (x : Nat) : Wd :=
  bw2 (logUp 20 x 0) fun x1 e1 =>
  bw2 (logDown 20 x1 e1) fun x2 e2 =>
  bw (subW x2 w1) fun a =>
  bw (addW x2 w1) fun b =>
  bw (quoW a b) fun s =>
  bw (mulW s s) fun u =>
  bw (logSum u 14 0 w25) fun q =>
  bw (mulW s q) fun m =>
  bw (mulW w2 m) fun n =>
  bw (mulW e2 4604418534313441775) fun o =>
  addW n o
def floorW (x : Nat) : Nat := FloatKind.f64.encode ((FloatKind.f64.decode x).integral .down)
/-- The tenths of decibels of a power (a float32's word). -/
def tenthsW (x : Nat) : Option Int :=
  bw (wid x) fun y =>
  bw (logW y) fun l =>
  bw (mulW l 4631308968768463603) fun a =>
  bw (addW a w05) fun b =>
  i64W (floorW b)
def powW (i : Nat) : Wd := fop .quo .f32 (some (floatOfInt .f32 (i : Int))) (some 1090519040)
def angStep (t : Nat) : Wd :=
  bw (mulW t t) fun m =>
  bw (addW w1 m) fun a =>
  bw (sqrtW a) fun r =>
  bw (addW w1 r) fun d =>
  quoW t d
where sqrtW (x : Nat) : Wd := match FloatKind.f64.format.sqrt x with | some r => some r | none => none
end Go.Proofs.YtclgplbikjmopaaGreatDoor
