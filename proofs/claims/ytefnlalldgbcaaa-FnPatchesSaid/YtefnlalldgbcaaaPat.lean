/-
  Contracts: the spot of a patch for two shares; the reference's side.
-/
import Derived.Test.YtefnlalldgbcaaaRq
import Derived.Test.YtefnlalldgbcaaaAp
namespace Go.Proofs.Ytefnlalldgbcaaa
open Go.RowKit

section
variable {P : Program} {w0 w : World} {N : Nat} {a : Act} {E : List (Nat × Value)} {L : List Ent} {K : Act → World → Prop} {Q : Exit → Act → World → Prop} {d : Nat} {ty : TypeId} {pos : String} {aft : Array Edge} {g : Option (Nat × Bool)}
/-- A comparison of floats whose value is known. -/
theorem o_fgeqK {x y : Operand} {t ys : TypeId} {k : FloatKind} {i j : Nat} {ci cj : Option Nat} {r : Bool} (st : St w0 N a w E L) (hx : evE E x = some (.float k i)) (hy : evE E y = some (.float k j)) (hi : Is k i ci) (hj : Is k j cj) (hr : fgeB k ci cj = r) (hd : Nat.blt d N = true)
    (h : ∀ a', St w0 N a' w ((d, .bool r) :: E) L → K a' w) : Oper.wp P ⟨some d, .binOp .geq t x y ys, ty, pos, aft, g⟩ a w K Q := by
  cases r
  · exact o_fgeq st hx hy hi hj hd (fun ht => by rw [hr] at ht; cases ht) fun _ => h
  · exact o_fgeq st hx hy hi hj hd (fun _ => h) fun ht => by rw [hr] at ht; cases ht
end

/-! ## shares -/
def geZ (c : Option Nat) : Bool := fgeB .f32 c (some 0)
/-- The third share. -/
def cPat (a b : Option Nat) : Option Nat := fop .sub .f32 (fop .sub .f32 one32 a) b
def patCan (ss : List S3) (d : Int) (a b : Option Nat) : Bool := patchC ss d 3 && (geZ a && (geZ b && geZ (cPat a b)))

/-! ## what is computed -/
def pat1 (ss : List S3) (c a b : Option Nat) (d i j : Nat) : S3 := addS (addS (timesS (ss.getD (plc d i j) z3) c) (timesS (ss.getD (plc d (i + 1) j) z3) a)) (timesS (ss.getD (plc d i (j + 1)) z3) b)
def pRow (ss : List S3) (c a b : Option Nat) (d j i : Nat) : List S3 := (List.range i).map fun i => pat1 ss c a b d i j
def pAll (ss : List S3) (c a b : Option Nat) (d j : Nat) : List S3 := (List.range j).flatMap fun j => pRow ss c a b d j (d - j)
def pN (c a b : Option Nat) : Nat → List S3 → List S3
  | 0, ss => ss
  | d + 1, ss => pN c a b d (pAll ss c a b (d + 1) (d + 1))
def patAt (ss : List S3) (d : Int) (a b : Option Nat) : S3 := (pN (cPat a b) a b d.toNat ss).headD z3
theorem pRow_succ (ss : List S3) (c a b : Option Nat) (d j i : Nat) : pRow ss c a b d j (i + 1) = pRow ss c a b d j i ++ [pat1 ss c a b d i j] := by simp [pRow, List.range_succ]
theorem pRow_length (ss : List S3) (c a b : Option Nat) (d j i : Nat) : (pRow ss c a b d j i).length = i := by simp [pRow]
theorem pAll_length (ss : List S3) (c a b : Option Nat) (d : Nat) (hd : d ≤ 2) : (pAll ss c a b (d + 1) (d + 1)).length = tot d := by
  have hc : d = 0 ∨ d = 1 ∨ d = 2 := by omega
  rcases hc with rfl | rfl | rfl <;> rfl
def patC (ss : List S3) (d : Int) (a b : Option Nat) : S3 := bif patCan ss d a b then giveS (patAt ss d a b) else z3
def patOk (ss : List S3) (d : Int) (a b : Option Nat) : Bool := patCan ss d a b && finS (patAt ss d a b)

attribute [local irreducible] Code.wp wpList Oper.wp Calls bodyPost Exit.then Exit.inBlock

end Go.Proofs.Ytefnlalldgbcaaa
