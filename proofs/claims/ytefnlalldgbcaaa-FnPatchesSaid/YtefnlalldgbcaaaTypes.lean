/-
  Facts of the types and functions of this seat, as instances (written by wip/gen_types.py).
-/
import Derived.Test.YtefnlalldgbcaaaChecked
import Derived.Test.YtefnlalldgbcaaaRules
namespace Go.Proofs.Ytefnlalldgbcaaa
instance : IntT Try.prog 2 .i64 := ⟨Try.underlying2⟩
instance : ScaT Try.prog 3 := ⟨Try.isAgg3, Try.sizeOf3⟩
instance : IntT Try.prog 3 .i64 := ⟨Try.underlying3⟩
instance : ScaT Try.prog 5 := ⟨Try.isAgg5, Try.sizeOf5⟩
instance : IntT Try.prog 5 .u8 := ⟨Try.underlying5⟩
theorem einfo5 : Try.prog.info? 5 = some Try.t5 := by kernel_rfl
instance : ElemT Try.prog 5 1 1 [.int .u8 0] := ⟨_, _, einfo5, rfl, rfl, rfl, rfl, rfl, by decide⟩
instance : ScaT Try.prog 22 := ⟨Try.isAgg22, Try.sizeOf22⟩
instance : FloatT Try.prog 22 .f32 := ⟨Try.underlying22⟩
theorem einfo22 : Try.prog.info? 22 = some Try.t22 := by kernel_rfl
instance : ElemT Try.prog 22 1 4 [.float .f32 0] := ⟨_, _, einfo22, rfl, rfl, rfl, rfl, rfl, by decide⟩
instance : AggT Try.prog 26 3 := ⟨Try.isAgg26, Try.sizeOf26⟩
instance : FieldT Try.prog 26 0 0 := ⟨fun b o w => by simp [Instr.fieldAt, Try.runUnderlying26, Instr.sureAddr, fieldPlace, Try.sizeOf22, Addr.add_lit], fun cs v w h => by simp [Instr.field, Try.runUnderlying26, asAgg, part, Try.isAgg22, h]⟩
instance : FieldT Try.prog 26 1 1 := ⟨fun b o w => by simp [Instr.fieldAt, Try.runUnderlying26, Instr.sureAddr, fieldPlace, Try.sizeOf22, Addr.add_lit], fun cs v w h => by simp [Instr.field, Try.runUnderlying26, asAgg, part, Try.isAgg22, h]⟩
instance : FieldT Try.prog 26 2 2 := ⟨fun b o w => by simp [Instr.fieldAt, Try.runUnderlying26, Instr.sureAddr, fieldPlace, Try.sizeOf22, Addr.add_lit], fun cs v w h => by simp [Instr.field, Try.runUnderlying26, asAgg, part, Try.isAgg22, h]⟩
instance : ZeroT Try.prog 26 [.float .f32 0, .float .f32 0, .float .f32 0] := ⟨_, Try.zeroValue26, rfl⟩
theorem einfo26 : Try.prog.info? 26 = some Try.t26 := by kernel_rfl
instance : ElemT Try.prog 26 3 12 [.float .f32 0, .float .f32 0, .float .f32 0] := ⟨_, _, einfo26, rfl, rfl, rfl, rfl, rfl, by decide⟩
instance : ScaT Try.prog 44 := ⟨Try.isAgg44, Try.sizeOf44⟩
instance : SliceT Try.prog 44 26 := ⟨Try.underlying44⟩
theorem einfo44 : Try.prog.info? 44 = some Try.t44 := by kernel_rfl
instance : ElemT Try.prog 44 1 24 [.slice none 0 0] := ⟨_, _, einfo44, rfl, rfl, rfl, rfl, rfl, by decide⟩
instance : ScaT Try.prog 57 := ⟨Try.isAgg57, Try.sizeOf57⟩
instance : SliceT Try.prog 57 5 := ⟨Try.underlying57⟩
instance : FloatT Try.prog 64 .f64 := ⟨Try.underlying64⟩
instance : SliceT Try.prog 120 44 := ⟨Try.underlying120⟩
instance : SliceT Try.prog 141 22 := ⟨Try.underlying141⟩
instance : ScaT Try.prog 155 := ⟨Try.isAgg155, Try.sizeOf155⟩
instance : IntT Try.prog 155 .u64 := ⟨Try.underlying155⟩
instance : FieldT Try.prog 157 0 0 := ⟨fun b o w => by simp [Instr.fieldAt, Try.runUnderlying157, Instr.sureAddr, fieldPlace, Try.sizeOf57, Addr.add_lit], fun cs v w h => by simp [Instr.field, Try.runUnderlying157, asAgg, part, Try.isAgg57, h]⟩
instance : FieldT Try.prog 157 1 1 := ⟨fun b o w => by simp [Instr.fieldAt, Try.runUnderlying157, Instr.sureAddr, fieldPlace, Try.sizeOf3, Addr.add_lit], fun cs v w h => by simp [Instr.field, Try.runUnderlying157, asAgg, part, Try.isAgg3, h]⟩
instance : FieldT Try.prog 157 2 2 := ⟨fun b o w => by simp [Instr.fieldAt, Try.runUnderlying157, Instr.sureAddr, fieldPlace, Try.sizeOf155, Addr.add_lit], fun cs v w h => by simp [Instr.field, Try.runUnderlying157, asAgg, part, Try.isAgg155, h]⟩
instance : FnT Try.prog 32 := ⟨Try.call32⟩
instance : FnT Try.prog 55 := ⟨Try.call55⟩
instance : FnT Try.prog 56 := ⟨Try.call56⟩
instance : FnT Try.prog 57 := ⟨Try.call57⟩
instance : FnT Try.prog 58 := ⟨Try.call58⟩
instance : FnT Try.prog 59 := ⟨Try.call59⟩
instance : FnT Try.prog 60 := ⟨Try.call60⟩
instance : FnT Try.prog 98 := ⟨Try.call98⟩
instance : FnT Try.prog 101 := ⟨Try.call101⟩
instance : FnT Try.prog 110 := ⟨Try.call110⟩
instance : FnT Try.prog 111 := ⟨Try.call111⟩
instance : FnT Try.prog 123 := ⟨Try.call123⟩
instance : FnT Try.prog 124 := ⟨Try.call124⟩
instance : FnT Try.prog 125 := ⟨Try.call125⟩
instance : FnT Try.prog 126 := ⟨Try.call126⟩
instance : FnT Try.prog 127 := ⟨Try.call127⟩
instance : FnT Try.prog 128 := ⟨Try.call128⟩
instance : FnT Try.prog 129 := ⟨Try.call129⟩
instance : FnT Try.prog 146 := ⟨Try.call146⟩
instance : FnT Try.prog 160 := ⟨Try.call160⟩
instance : FnT Try.prog 174 := ⟨Try.call174⟩
instance : FnT Try.prog 175 := ⟨Try.call175⟩
instance : FnT Try.prog 178 := ⟨Try.call178⟩
instance : FnT Try.prog 179 := ⟨Try.call179⟩
instance : FnT Try.prog 180 := ⟨Try.call180⟩
instance : FnT Try.prog 188 := ⟨Try.call188⟩
instance : FnT Try.prog 191 := ⟨Try.call191⟩
instance : FnT Try.prog 192 := ⟨Try.call192⟩
end Go.Proofs.Ytefnlalldgbcaaa
