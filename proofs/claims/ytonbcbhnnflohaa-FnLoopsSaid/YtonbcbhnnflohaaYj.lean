/-
  FnCurves: curves that are valid, cut, turned, raised. (printed by a program)
-/
import Derived.Test.YtonbcbhnnflohaaYh
import Derived.Test.YtonbcbhnnflohaaFl
import Derived.Laws.ComplexArith
namespace Go.Proofs.Ytonbcbhnnflohaa
open Go.RowKit
section
variable {w0 w : World} {N : Nat} {a : Act} {E : List (Nat × Value)} {L : List Ent}
end
/-- A curve that is told, and 'true'. -/
def OwnT (c : List Kn) (v : Value) (b : Nat) (o : Obj) (b' : Nat) (o' : Obj) : Prop := ∃ u, v = .tuple #[u, .bool true] ∧ OwnC c u b o b' o'
/-- The shares of a raised curve. -/
def shareW (i m : Int) : Option Nat := fop .quo .f32 (some (floatOfInt .f32 i)) (some (floatOfInt .f32 m))
attribute [local irreducible] Code.wp wpList Oper.wp Calls bodyPost Exit.then Exit.inBlock

end Go.Proofs.Ytonbcbhnnflohaa

namespace Go.Proofs.Ytonbcbhnnflohaa
open Go.RowKit

/-- The magnitude of a rung, in units of the least place. -/
def mag (f : Ieee.Format) (r : Nat) : Nat := if r < f.binade then r else (f.binade + r % f.binade) * 2 ^ (r / f.binade - 1)

theorem binade_pos (f : Ieee.Format) : 0 < f.binade := Nat.two_pow_pos _

def sgn (f : Ieee.Format) (x : Nat) : Bool := x / f.signWeight % 2 == 1
def rung (f : Ieee.Format) (x : Nat) : Nat := x % f.signWeight

/-- What a finite word reads as. -/
theorem read_fin (f : Ieee.Format) (x : Nat) (h : rung f x < f.infRung) : ∃ (m : Nat) (k : Nat), f.read x = .number (sgn f x) m (f.leastPlace + k) ∧ m * 2 ^ k = mag f (rung f x) ∧ k = rung f x / f.binade - 1 := by
  unfold rung at *
  unfold mag Ieee.Format.read sgn
  dsimp only
  by_cases h1 : x % f.signWeight < f.binade
  · rw [if_pos h1, if_pos h1]
    refine ⟨x % f.signWeight, 0, by simp, by simp, ?_⟩
    rw [Nat.div_eq_of_lt h1]
  · rw [if_neg h1, if_pos h, if_neg h1]
    exact ⟨_, _, rfl, rfl, rfl⟩

theorem signed_eq (s : Bool) (m k : Nat) : Ieee.signed s m k = if s then -((m * 2 ^ k : Nat) : Int) else ((m * 2 ^ k : Nat) : Int) := by
  unfold Ieee.signed
  rw [Nat.shiftLeft_eq]

/-- How two finite words compare: as their signed magnitudes. -/
def val (f : Ieee.Format) (x : Nat) : Int := if sgn f x then -(mag f (rung f x) : Int) else (mag f (rung f x) : Int)

theorem cmp_scale (a b : Int) (k : Nat) : compare (a * ((2 ^ k : Nat) : Int)) (b * ((2 ^ k : Nat) : Int)) = compare a b := by
  have hp : (0 : Int) < ((2 ^ k : Nat) : Int) := by exact_mod_cast Nat.two_pow_pos k
  show compareOfLessAndEq _ _ = compareOfLessAndEq _ _
  unfold compareOfLessAndEq
  rcases Int.lt_trichotomy a b with h | h | h
  · rw [if_pos h, if_pos (Int.mul_lt_mul_of_pos_right h hp)]
  · subst h; simp
  · have h' := Int.mul_lt_mul_of_pos_right h hp
    rw [if_neg (by omega), if_neg (by omega), if_neg (by omega), if_neg (by omega)]

theorem order_fin (f : Ieee.Format) (x y : Nat) (hx : rung f x < f.infRung) (hy : rung f y < f.infRung) : f.order x y = some (compare (val f x) (val f y)) := by
  obtain ⟨m, k, hr, hm, _⟩ := read_fin f x hx
  obtain ⟨n, l, hs, hn, _⟩ := read_fin f y hy
  unfold Ieee.Format.order
  rw [hr, hs]
  simp only [Ieee.Datum.order]
  congr 1
  have hmin : min (f.leastPlace + (k : Int)) (f.leastPlace + (l : Int)) = f.leastPlace + ((min k l : Nat) : Int) := by omega
  rw [hmin, signed_eq, signed_eq, show (f.leastPlace + (k : Int) - (f.leastPlace + ((min k l : Nat) : Int))).toNat = k - min k l by omega,
    show (f.leastPlace + (l : Int) - (f.leastPlace + ((min k l : Nat) : Int))).toNat = l - min k l by omega]
  rw [← cmp_scale _ _ (min k l)]
  have h1 : m * 2 ^ (k - min k l) * 2 ^ min k l = mag f (rung f x) := by rw [Nat.mul_assoc, ← Nat.pow_add, ← hm]; congr 2; omega
  have h2 : n * 2 ^ (l - min k l) * 2 ^ min k l = mag f (rung f y) := by rw [Nat.mul_assoc, ← Nat.pow_add, ← hn]; congr 2; omega
  unfold val
  rw [← h1, ← h2]
  congr 1 <;> split <;> push_cast <;> simp [Int.neg_mul]

theorem bb (k : FloatKind) : k.format.binade ≤ k.format.infRung := by cases k <;> decide
theorem sgn_word (f : Ieee.Format) (neg : Bool) (r : Nat) (h : r < f.signWeight) : sgn f (f.word neg r) = neg := by
  unfold sgn
  rw [(read_word f neg r h).1]
  cases neg <;> rfl

end Go.Proofs.Ytonbcbhnnflohaa

namespace Go.Proofs.Ytonbcbhnnflohaa
open Go.RowKit

section
variable {P : Program} {w0 w : World} {N : Nat} {a : Act} {E : List (Nat × Value)} {L : List Ent} {K : Act → World → Prop} {Q : Exit → Act → World → Prop}
variable {d : Nat} {ty : TypeId} {pos : String} {aft : Array Edge} {g : Option (Nat × Bool)}
theorem o_ext {f : FuncId} {args : List Operand} {tys : Array TypeId} {vs : List Value} {v : Value} (st : St w0 N a w E L) (ha : evs E args = some vs)
    (hc : (callFunc f vs.toArray).run P w = .ok (.value v) w) (hd : Nat.blt d N = true) (h : ∀ a', St w0 N a' w ((d, v) :: E) L → K a' w) : Oper.wp P ⟨some d, .call { callee := .value (.func f), args := args.toArray, argTypes := tys }, ty, pos, aft, g⟩ a w K Q := by
  refine o_val (v := v) (w' := w) ?_ (h _ (st.put d hd _))
  simp [execOp, resolve, invoke, Deferred.ofValue, Act.eval, evs_map st ha, hc]
end
def rootW (x : Nat) : Option Nat := FloatKind.f64.format.sqrt x
theorem ext_root (x r : Nat) (h : rootW x = some r) (w : World) : (callFunc 127 [.float .f64 x].toArray).run Try.prog w = .ok (.value (.float .f64 r)) w := by
  rw [run_callFunc_extern (fn := Try.f127) (e := Extern.MathSqrt.sqrt) Try.func127 (by kernel_rfl) (by kernel_rfl) (by kernel_rfl) (by kernel_rfl)]
  have hd : Extern.MathSqrt.sqrt [.float .f64 x].toArray = (match FloatKind.f64.format.sqrt x with
    | some r => pure (.float .f64 r)
    | none => do pure (.float .f64 (← choose (.nanBits .f64 x x)))) := rfl
  have h : FloatKind.f64.format.sqrt x = some r := h
  rw [hd, h]
  rfl
attribute [local irreducible] Code.wp wpList Oper.wp Calls bodyPost Exit.then Exit.inBlock
theorem Sqrt_ok (x r : Nat) (h : rootW x = some r) (w : World) : CV Try.prog 104 [.float .f64 x] w (.float .f64 r) := by
  refine enter Try.func104 rfl rfl rfl rfl ?_
  intro y st
  (repeat' (first | (refine o_ext st rfl (ext_root x r h _) rfl ?_; clear st; intro _ st)  | refine c_seq ?_  | refine c_region ?_  | refine l_do ?_  | refine l_nil ?_  | refine x_then ?_  | refine wp_ret ?_  | ((first | refine o_move st rfl rfl ?_  | refine o_assign st rfl rfl ?_); clear st; intro _ st)))
  refine post1 st Try.results104 (rd_t st rfl) ?_
  exact ⟨rfl, st.ex0⟩
/-! ## how far -/
/-- A number in other bits. -/
def cvW (s : FloatKind) (x : Nat) (k : FloatKind) : Option Nat := floatToFloatBits s x k
def longW (u v : Nat) : Option Nat :=
  (cvW .f32 u .f64).bind fun x => (cvW .f32 v .f64).bind fun y => (fop .mul .f64 (some x) (some x)).bind fun p => (fop .mul .f64 (some y) (some y)).bind fun q =>
  (fop .add .f64 (some p) (some q)).bind fun s => (rootW s).bind fun r => cvW .f64 r .f32
theorem LongOf_ok (u v r : Nat) (h : longW u v = some r) (w : World) : CV Try.prog 53 [.complex .f32 u v] w (.float .f32 r) := by
  obtain ⟨x, hx, h⟩ := ob h
  obtain ⟨y, hy, h⟩ := ob h
  obtain ⟨p, hp, h⟩ := ob h
  obtain ⟨q, hq, h⟩ := ob h
  obtain ⟨s, hs, h⟩ := ob h
  obtain ⟨z, hz, h⟩ := ob h
  have c0 : ∀ w, CV Try.prog 111 [.complex .f32 u v] w (.tuple #[.float .f64 x, .float .f64 y]) := by
    intro w
    refine enter Try.func111 rfl rfl rfl rfl ?_
    intro a st
    (repeat' (first | (refine o_real st rfl rfl ?_; clear st; intro _ st)  | (refine o_imag st rfl rfl ?_; clear st; intro _ st)  | (refine o_fcvW st rfl hx rfl ?_; clear st; intro _ st)  | (refine o_fcvW st rfl hy rfl ?_; clear st; intro _ st)  | refine c_seq ?_  | refine c_region ?_  | refine l_do ?_  | refine l_nil ?_  | refine x_then ?_  | refine wp_ret ?_  | ((first | refine o_move st rfl rfl ?_  | refine o_assign st rfl rfl ?_ ); clear st; intro _ st)))
    refine post2 st Try.results111 (rd_t st rfl) (rd_t st rfl) ?_
    exact ⟨rfl, st.ex0⟩
  have c1 : ∀ w, CV Try.prog 105 [.complex .f32 u v] w (.float .f64 s) := by
    intro w
    refine enter Try.func105 rfl rfl rfl rfl ?_
    intro a st
    (repeat' (first | (refine o_callV st rfl (c0 _) rfl ?_; clear st; intro _ _ st)  | (refine o_fopK st rfl rfl hp rfl ?_; clear st; intro _ st)  | (refine o_fopK st rfl rfl hq rfl ?_; clear st; intro _ st)  | (refine o_fopK st rfl rfl hs rfl ?_; clear st; intro _ st)  | refine c_seq ?_  | refine c_region ?_  | refine l_do ?_  | refine l_nil ?_  | refine x_then ?_  | refine wp_ret ?_  | ((first | refine o_move st rfl rfl ?_  | refine o_assign st rfl rfl ?_  | refine o_extract st rfl rfl rfl ?_); clear st; intro _ st) ))
    refine post1 st Try.results105 (rd_t st rfl) ?_
    exact ⟨rfl, st.ex0⟩
  refine enter Try.func53 rfl rfl rfl rfl ?_
  intro a st
  (repeat' (first | (refine o_callV st rfl (c1 _) rfl ?_; clear st; intro _ _ st)  | (refine o_callV st rfl (Sqrt_ok _ _ hz _) rfl ?_; clear st; intro _ _ st)  | (refine o_fcvW st rfl h rfl ?_; clear st; intro _ st)  | refine c_seq ?_  | refine c_region ?_  | refine l_do ?_  | refine l_nil ?_  | refine x_then ?_  | refine wp_ret ?_  | ((first | refine o_move st rfl rfl ?_  | refine o_assign st rfl rfl ?_ ); clear st; intro _ st)))
  refine post1 st Try.results53 (rd_t st rfl) ?_
  exact ⟨rfl, st.ex0⟩
end Go.Proofs.Ytonbcbhnnflohaa
