/-
  Facts of the types and functions of this seat, as instances (written by wip/gen_types.py).
-/
import Derived.Test.YtefnlalldgbcaaaChecked
import Derived.Test.YtefnlalldgbcaaaRules
import Derived.Test.YtefnlalldgbcaaaStep
import Derived.ProofKit
import Derived.OpenShut
import Derived.ChangeOld
import Derived.Below
import Derived.Deep.Slices
import Derived.Lib.SmallJoins
namespace Go.Proofs.Ytefnlalldgbcaaa
instance : ScaT Try.prog 2 := ⟨Try.isAgg2, Try.sizeOf2⟩
instance : IntT Try.prog 2 .i64 := ⟨Try.underlying2⟩
theorem einfo2 : Try.prog.info? 2 = some Try.t2 := by kernel_rfl
instance : ElemT Try.prog 2 1 8 [.int .i64 0] := ⟨_, _, einfo2, rfl, rfl, rfl, rfl, rfl, by decide⟩
instance : ScaT Try.prog 3 := ⟨Try.isAgg3, Try.sizeOf3⟩
instance : IntT Try.prog 3 .i64 := ⟨Try.underlying3⟩
instance : BoolT Try.prog 4 := ⟨Try.underlying4⟩
instance : ScaT Try.prog 5 := ⟨Try.isAgg5, Try.sizeOf5⟩
instance : IntT Try.prog 5 .u8 := ⟨Try.underlying5⟩
theorem einfo5 : Try.prog.info? 5 = some Try.t5 := by kernel_rfl
instance : ElemT Try.prog 5 1 1 [.int .u8 0] := ⟨_, _, einfo5, rfl, rfl, rfl, rfl, rfl, by decide⟩
instance : ScaT Try.prog 22 := ⟨Try.isAgg22, Try.sizeOf22⟩
instance : FloatT Try.prog 22 .f32 := ⟨Try.underlying22⟩
instance : ZeroT Try.prog 22 [.float .f32 0] := ⟨_, Try.zeroValue22, rfl⟩
theorem einfo22 : Try.prog.info? 22 = some Try.t22 := by kernel_rfl
instance : ElemT Try.prog 22 1 4 [.float .f32 0] := ⟨_, _, einfo22, rfl, rfl, rfl, rfl, rfl, by decide⟩
instance : AggT Try.prog 26 3 := ⟨Try.isAgg26, Try.sizeOf26⟩
instance : FieldT Try.prog 26 0 0 := ⟨fun b o w => by simp [Instr.fieldAt, Try.runUnderlying26, Instr.sureAddr, fieldPlace, Try.sizeOf22, Addr.add_lit], fun cs v w h => by simp [Instr.field, Try.runUnderlying26, asAgg, part, Try.isAgg22, h]⟩
instance : FieldT Try.prog 26 1 1 := ⟨fun b o w => by simp [Instr.fieldAt, Try.runUnderlying26, Instr.sureAddr, fieldPlace, Try.sizeOf22, Addr.add_lit], fun cs v w h => by simp [Instr.field, Try.runUnderlying26, asAgg, part, Try.isAgg22, h]⟩
instance : FieldT Try.prog 26 2 2 := ⟨fun b o w => by simp [Instr.fieldAt, Try.runUnderlying26, Instr.sureAddr, fieldPlace, Try.sizeOf22, Addr.add_lit], fun cs v w h => by simp [Instr.field, Try.runUnderlying26, asAgg, part, Try.isAgg22, h]⟩
instance : ZeroT Try.prog 26 [.float .f32 0, .float .f32 0, .float .f32 0] := ⟨_, Try.zeroValue26, rfl⟩
theorem einfo26 : Try.prog.info? 26 = some Try.t26 := by kernel_rfl
instance : ElemT Try.prog 26 3 12 [.float .f32 0, .float .f32 0, .float .f32 0] := ⟨_, _, einfo26, rfl, rfl, rfl, rfl, rfl, by decide⟩
instance : ScaT Try.prog 31 := ⟨Try.isAgg31, Try.sizeOf31⟩
instance : SliceT Try.prog 31 2 := ⟨Try.underlying31⟩
instance : ScaT Try.prog 44 := ⟨Try.isAgg44, Try.sizeOf44⟩
instance : SliceT Try.prog 44 26 := ⟨Try.underlying44⟩
instance : ZeroT Try.prog 44 [.slice none 0 0] := ⟨_, Try.zeroValue44, rfl⟩
instance : AggT Try.prog 46 3 := ⟨Try.isAgg46, Try.sizeOf46⟩
instance : FieldT Try.prog 46 0 0 := ⟨fun b o w => by simp [Instr.fieldAt, Try.runUnderlying46, Instr.sureAddr, fieldPlace, Try.sizeOf2, Addr.add_lit], fun cs v w h => by simp [Instr.field, Try.runUnderlying46, asAgg, part, Try.isAgg2, h]⟩
instance : FieldT Try.prog 46 1 1 := ⟨fun b o w => by simp [Instr.fieldAt, Try.runUnderlying46, Instr.sureAddr, fieldPlace, Try.sizeOf2, Addr.add_lit], fun cs v w h => by simp [Instr.field, Try.runUnderlying46, asAgg, part, Try.isAgg2, h]⟩
instance : FieldT Try.prog 46 2 2 := ⟨fun b o w => by simp [Instr.fieldAt, Try.runUnderlying46, Instr.sureAddr, fieldPlace, Try.sizeOf44, Addr.add_lit], fun cs v w h => by simp [Instr.field, Try.runUnderlying46, asAgg, part, Try.isAgg44, h]⟩
instance : ZeroT Try.prog 46 [.int .i64 0, .int .i64 0, .slice none 0 0] := ⟨_, Try.zeroValue46, rfl⟩
instance : ScaT Try.prog 57 := ⟨Try.isAgg57, Try.sizeOf57⟩
instance : SliceT Try.prog 57 5 := ⟨Try.underlying57⟩
instance : FloatT Try.prog 64 .f64 := ⟨Try.underlying64⟩
instance : ScaT Try.prog 141 := ⟨Try.isAgg141, Try.sizeOf141⟩
instance : SliceT Try.prog 141 22 := ⟨Try.underlying141⟩
instance : ZeroT Try.prog 141 [.slice none 0 0] := ⟨_, Try.zeroValue141, rfl⟩
instance : ScaT Try.prog 155 := ⟨Try.isAgg155, Try.sizeOf155⟩
instance : IntT Try.prog 155 .u64 := ⟨Try.underlying155⟩
instance : FieldT Try.prog 157 0 0 := ⟨fun b o w => by simp [Instr.fieldAt, Try.runUnderlying157, Instr.sureAddr, fieldPlace, Try.sizeOf57, Addr.add_lit], fun cs v w h => by simp [Instr.field, Try.runUnderlying157, asAgg, part, Try.isAgg57, h]⟩
instance : FieldT Try.prog 157 1 1 := ⟨fun b o w => by simp [Instr.fieldAt, Try.runUnderlying157, Instr.sureAddr, fieldPlace, Try.sizeOf3, Addr.add_lit], fun cs v w h => by simp [Instr.field, Try.runUnderlying157, asAgg, part, Try.isAgg3, h]⟩
instance : FieldT Try.prog 157 2 2 := ⟨fun b o w => by simp [Instr.fieldAt, Try.runUnderlying157, Instr.sureAddr, fieldPlace, Try.sizeOf155, Addr.add_lit], fun cs v w h => by simp [Instr.field, Try.runUnderlying157, asAgg, part, Try.isAgg155, h]⟩
instance : FnT Try.prog 32 := ⟨Try.call32⟩
instance : FnT Try.prog 34 := ⟨Try.call34⟩
instance : FnT Try.prog 41 := ⟨Try.call41⟩
instance : FnT Try.prog 46 := ⟨Try.call46⟩
instance : FnT Try.prog 55 := ⟨Try.call55⟩
instance : FnT Try.prog 56 := ⟨Try.call56⟩
instance : FnT Try.prog 57 := ⟨Try.call57⟩
instance : FnT Try.prog 60 := ⟨Try.call60⟩
instance : FnT Try.prog 62 := ⟨Try.call62⟩
instance : FnT Try.prog 65 := ⟨Try.call65⟩
instance : FnT Try.prog 70 := ⟨Try.call70⟩
instance : FnT Try.prog 72 := ⟨Try.call72⟩
instance : FnT Try.prog 81 := ⟨Try.call81⟩
instance : FnT Try.prog 83 := ⟨Try.call83⟩
instance : FnT Try.prog 85 := ⟨Try.call85⟩
instance : FnT Try.prog 87 := ⟨Try.call87⟩
instance : FnT Try.prog 91 := ⟨Try.call91⟩
instance : FnT Try.prog 95 := ⟨Try.call95⟩
instance : FnT Try.prog 97 := ⟨Try.call97⟩
instance : FnT Try.prog 98 := ⟨Try.call98⟩
instance : FnT Try.prog 101 := ⟨Try.call101⟩
instance : FnT Try.prog 103 := ⟨Try.call103⟩
instance : FnT Try.prog 106 := ⟨Try.call106⟩
instance : FnT Try.prog 107 := ⟨Try.call107⟩
instance : FnT Try.prog 110 := ⟨Try.call110⟩
instance : FnT Try.prog 111 := ⟨Try.call111⟩
instance : FnT Try.prog 112 := ⟨Try.call112⟩
instance : FnT Try.prog 114 := ⟨Try.call114⟩
instance : FnT Try.prog 120 := ⟨Try.call120⟩
instance : FnT Try.prog 123 := ⟨Try.call123⟩
instance : FnT Try.prog 124 := ⟨Try.call124⟩
instance : FnT Try.prog 127 := ⟨Try.call127⟩
instance : FnT Try.prog 128 := ⟨Try.call128⟩
instance : FnT Try.prog 129 := ⟨Try.call129⟩
instance : FnT Try.prog 132 := ⟨Try.call132⟩
instance : FnT Try.prog 133 := ⟨Try.call133⟩
instance : FnT Try.prog 135 := ⟨Try.call135⟩
instance : FnT Try.prog 146 := ⟨Try.call146⟩
instance : FnT Try.prog 147 := ⟨Try.call147⟩
instance : FnT Try.prog 149 := ⟨Try.call149⟩
instance : FnT Try.prog 151 := ⟨Try.call151⟩
instance : FnT Try.prog 154 := ⟨Try.call154⟩
instance : FnT Try.prog 155 := ⟨Try.call155⟩
instance : FnT Try.prog 159 := ⟨Try.call159⟩
instance : FnT Try.prog 160 := ⟨Try.call160⟩
instance : FnT Try.prog 161 := ⟨Try.call161⟩
instance : FnT Try.prog 162 := ⟨Try.call162⟩
instance : FnT Try.prog 163 := ⟨Try.call163⟩
instance : FnT Try.prog 165 := ⟨Try.call165⟩
instance : FnT Try.prog 166 := ⟨Try.call166⟩
instance : FnT Try.prog 167 := ⟨Try.call167⟩
instance : FnT Try.prog 170 := ⟨Try.call170⟩
instance : FnT Try.prog 174 := ⟨Try.call174⟩
instance : FnT Try.prog 175 := ⟨Try.call175⟩
instance : FnT Try.prog 177 := ⟨Try.call177⟩
instance : FnT Try.prog 178 := ⟨Try.call178⟩
instance : FnT Try.prog 179 := ⟨Try.call179⟩
instance : FnT Try.prog 180 := ⟨Try.call180⟩
instance : FnT Try.prog 182 := ⟨Try.call182⟩
instance : FnT Try.prog 185 := ⟨Try.call185⟩
instance : FnT Try.prog 186 := ⟨Try.call186⟩
instance : FnT Try.prog 188 := ⟨Try.call188⟩
instance : FnT Try.prog 191 := ⟨Try.call191⟩
instance : FnT Try.prog 192 := ⟨Try.call192⟩
instance : FnT Try.prog 194 := ⟨Try.call194⟩
end Go.Proofs.Ytefnlalldgbcaaa

namespace Go.Proofs.Ytefnlalldgbcaaa
open Go.RowKit
attribute [local irreducible] Code.wp wpList Oper.wp Calls bodyPost Exit.then Exit.inBlock

/-- Is a number finite: by classes. -/
def finC (c : Option Nat) : Bool := feqB .f32 (fop .sub .f32 c c) (some 0)

theorem IsFinite_ok (x : Nat) (c : Option Nat) (hx : Is .f32 x c) (w : World) : CV Try.prog 160 [.float .f32 x] w (.bool (finC c)) := by
  refine enter Try.func160 rfl rfl rfl rfl ?_
  intro a st
  (repeat' (first | refine c_seq ?_  | refine c_region ?_  | refine l_do ?_  | refine l_nil ?_  | refine x_then ?_  | refine wp_ret ?_  | ((first | refine o_move st rfl rfl ?_  | refine o_assign st rfl rfl ?_); clear st; intro _ st)  | (refine o_fop rfl st rfl rfl (by first | assumption | exact Is_ofInt _ _ | exact Is_lit (by decide +kernel)) (by first | assumption | exact Is_ofInt _ _ | exact Is_lit (by decide +kernel)) rfl ?_; clear st; intro _ _ _ _ st)  | (refine o_feql st rfl rfl (by first | assumption | exact Is_ofInt _ _ | exact Is_lit (by decide +kernel)) (by first | assumption | exact Is_ofInt _ _ | exact Is_lit (by decide +kernel)) rfl ?_ ?_ <;> clear st <;> intro _ _ st <;> (try simp_all))))
  all_goals
    refine post1 st Try.results160 (rd_t st rfl) ?_
    exact ⟨by simp [finC, *], st.ex0⟩

/-- The closure of areFinite. -/
theorem areFinite1_ok (x : Nat) (c : Option Nat) (hx : Is .f32 x c) (w : World) : CV Try.prog 175 [.float .f32 x] w (.bool (!finC c)) := by
  refine enter Try.func175 rfl rfl rfl rfl ?_
  intro a st
  (repeat' (first | (refine o_callB st rfl (IsFinite_ok _ _ (by first | assumption | exact Is_ofInt _ _ | exact Is_lit (by decide +kernel)) _) rfl ?_ ?_ <;> clear st <;> intro _ _ _ st)  | refine c_seq ?_  | refine c_region ?_  | refine l_do ?_  | refine l_nil ?_  | refine x_then ?_  | refine wp_ret ?_  | ((first | refine o_move st rfl rfl ?_  | refine o_assign st rfl rfl ?_  | refine o_notT st rfl rfl ?_  | refine o_notF st rfl rfl ?_); clear st; intro _ st)))
  all_goals
    refine post1 st Try.results175 (rd_t st rfl) ?_
    exact ⟨by simp [*], st.ex0⟩

/-- The classes of a spot's parts. -/
abbrev S3 := Option Nat × Option Nat × Option Nat
def finS (s : S3) : Bool := finC s.1 && (finC s.2.1 && finC s.2.2)
/-- The words of a spot. -/
abbrev B3 := Nat × Nat × Nat
def vS (b : B3) : Value := .agg [.float .f32 b.1, .float .f32 b.2.1, .float .f32 b.2.2].toArray
structure IsS (b : B3) (s : S3) : Prop where
  x : Is .f32 b.1 s.1
  y : Is .f32 b.2.1 s.2.1
  z : Is .f32 b.2.2 s.2.2

end Go.Proofs.Ytefnlalldgbcaaa

namespace Go.Proofs.Ytefnlalldgbcaaa
open Go.ChangeShapes Go.WideShapes Go.ChangeAt Go.RowKit Go.Joins

theorem own_ : ownKnob Try.prog.godebug = none := by kernel_rfl
theorem laidOut_ : laidOutB Try.prog = true := by kernel_rfl

section
variable {H : Type} {enc : TypeId × Value → H} {w : World} {base : Nat} {spare : Nat → Bool} {held : Bool}

end
end Go.Proofs.Ytefnlalldgbcaaa
