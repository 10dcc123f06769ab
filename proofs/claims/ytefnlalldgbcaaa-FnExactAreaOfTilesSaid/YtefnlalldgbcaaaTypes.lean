/-
  Facts of the types and functions of this seat, as instances (written by wip/gen_types.py).
-/
import Derived.Test.YtefnlalldgbcaaaChecked
import Derived.Test.YtefnlalldgbcaaaRules
namespace Go.Proofs.Ytefnlalldgbcaaa
instance : ScaT Try.prog 1 := ⟨Try.isAgg1, Try.sizeOf1⟩
instance : ZeroT Try.prog 1 [.nilFunc] := ⟨_, Try.zeroValue1, rfl⟩
instance : ScaT Try.prog 2 := ⟨Try.isAgg2, Try.sizeOf2⟩
instance : IntT Try.prog 2 .i64 := ⟨Try.underlying2⟩
instance : ZeroT Try.prog 2 [.int .i64 0] := ⟨_, Try.zeroValue2, rfl⟩
theorem einfo2 : Try.prog.info? 2 = some Try.t2 := by kernel_rfl
instance : ElemT Try.prog 2 1 8 [.int .i64 0] := ⟨_, _, einfo2, rfl, rfl, rfl, rfl, rfl, by decide⟩
instance : ScaT Try.prog 3 := ⟨Try.isAgg3, Try.sizeOf3⟩
instance : IntT Try.prog 3 .i64 := ⟨Try.underlying3⟩
instance : ZeroT Try.prog 3 [.int .i64 0] := ⟨_, Try.zeroValue3, rfl⟩
instance : ScaT Try.prog 4 := ⟨Try.isAgg4, Try.sizeOf4⟩
instance : BoolT Try.prog 4 := ⟨Try.underlying4⟩
instance : ZeroT Try.prog 4 [.bool false] := ⟨_, Try.zeroValue4, rfl⟩
instance : ScaT Try.prog 5 := ⟨Try.isAgg5, Try.sizeOf5⟩
instance : IntT Try.prog 5 .u8 := ⟨Try.underlying5⟩
instance : ZeroT Try.prog 5 [.int .u8 0] := ⟨_, Try.zeroValue5, rfl⟩
theorem einfo5 : Try.prog.info? 5 = some Try.t5 := by kernel_rfl
instance : ElemT Try.prog 5 1 1 [.int .u8 0] := ⟨_, _, einfo5, rfl, rfl, rfl, rfl, rfl, by decide⟩
instance : ScaT Try.prog 6 := ⟨Try.isAgg6, Try.sizeOf6⟩
instance : IntT Try.prog 6 .u8 := ⟨Try.underlying6⟩
instance : ZeroT Try.prog 6 [.int .u8 0] := ⟨_, Try.zeroValue6, rfl⟩
instance : AggT Try.prog 7 4 := ⟨Try.isAgg7, Try.sizeOf7⟩
instance : FieldT Try.prog 7 0 0 := ⟨fun b o w => by simp [Instr.fieldAt, Try.runUnderlying7, Instr.sureAddr, fieldPlace, Try.sizeOf2, Addr.add_lit], fun cs v w h => by simp [Instr.field, Try.runUnderlying7, asAgg, part, Try.isAgg2, h]⟩
instance : FieldT Try.prog 7 1 1 := ⟨fun b o w => by simp [Instr.fieldAt, Try.runUnderlying7, Instr.sureAddr, fieldPlace, Try.sizeOf3, Addr.add_lit], fun cs v w h => by simp [Instr.field, Try.runUnderlying7, asAgg, part, Try.isAgg3, h]⟩
instance : FieldT Try.prog 7 2 2 := ⟨fun b o w => by simp [Instr.fieldAt, Try.runUnderlying7, Instr.sureAddr, fieldPlace, Try.sizeOf4, Addr.add_lit], fun cs v w h => by simp [Instr.field, Try.runUnderlying7, asAgg, part, Try.isAgg4, h]⟩
instance : FieldT Try.prog 7 3 3 := ⟨fun b o w => by simp [Instr.fieldAt, Try.runUnderlying7, Instr.sureAddr, fieldPlace, Try.sizeOf6, Addr.add_lit], fun cs v w h => by simp [Instr.field, Try.runUnderlying7, asAgg, part, Try.isAgg6, h]⟩
instance : ZeroT Try.prog 7 [.int .i64 0, .int .i64 0, .bool false, .int .u8 0] := ⟨_, Try.zeroValue7, rfl⟩
instance : AggT Try.prog 8 4 := ⟨Try.isAgg8, Try.sizeOf8⟩
instance : FieldT Try.prog 8 0 0 := ⟨fun b o w => by simp [Instr.fieldAt, Try.runUnderlying8, Instr.sureAddr, fieldPlace, Try.sizeOf2, Addr.add_lit], fun cs v w h => by simp [Instr.field, Try.runUnderlying8, asAgg, part, Try.isAgg2, h]⟩
instance : FieldT Try.prog 8 1 1 := ⟨fun b o w => by simp [Instr.fieldAt, Try.runUnderlying8, Instr.sureAddr, fieldPlace, Try.sizeOf3, Addr.add_lit], fun cs v w h => by simp [Instr.field, Try.runUnderlying8, asAgg, part, Try.isAgg3, h]⟩
instance : FieldT Try.prog 8 2 2 := ⟨fun b o w => by simp [Instr.fieldAt, Try.runUnderlying8, Instr.sureAddr, fieldPlace, Try.sizeOf4, Addr.add_lit], fun cs v w h => by simp [Instr.field, Try.runUnderlying8, asAgg, part, Try.isAgg4, h]⟩
instance : FieldT Try.prog 8 3 3 := ⟨fun b o w => by simp [Instr.fieldAt, Try.runUnderlying8, Instr.sureAddr, fieldPlace, Try.sizeOf6, Addr.add_lit], fun cs v w h => by simp [Instr.field, Try.runUnderlying8, asAgg, part, Try.isAgg6, h]⟩
instance : ZeroT Try.prog 8 [.int .i64 0, .int .i64 0, .bool false, .int .u8 0] := ⟨_, Try.zeroValue8, rfl⟩
instance : ScaT Try.prog 9 := ⟨Try.isAgg9, Try.sizeOf9⟩
instance : ZeroT Try.prog 9 [.string ByteArray.empty] := ⟨_, Try.zeroValue9, rfl⟩
instance : ScaT Try.prog 10 := ⟨Try.isAgg10, Try.sizeOf10⟩
instance : ZeroT Try.prog 10 [.string ByteArray.empty] := ⟨_, Try.zeroValue10, rfl⟩
instance : ScaT Try.prog 11 := ⟨Try.isAgg11, Try.sizeOf11⟩
instance : ZeroT Try.prog 11 [.string ByteArray.empty] := ⟨_, Try.zeroValue11, rfl⟩
instance : ScaT Try.prog 12 := ⟨Try.isAgg12, Try.sizeOf12⟩
instance : IntT Try.prog 12 .u64 := ⟨Try.underlying12⟩
instance : ZeroT Try.prog 12 [.int .u64 0] := ⟨_, Try.zeroValue12, rfl⟩
instance : AggT Try.prog 13 2 := ⟨Try.isAgg13, Try.sizeOf13⟩
instance : FieldT Try.prog 13 0 0 := ⟨fun b o w => by simp [Instr.fieldAt, Try.runUnderlying13, Instr.sureAddr, fieldPlace, Try.sizeOf9, Addr.add_lit], fun cs v w h => by simp [Instr.field, Try.runUnderlying13, asAgg, part, Try.isAgg9, h]⟩
instance : FieldT Try.prog 13 1 1 := ⟨fun b o w => by simp [Instr.fieldAt, Try.runUnderlying13, Instr.sureAddr, fieldPlace, Try.sizeOf12, Addr.add_lit], fun cs v w h => by simp [Instr.field, Try.runUnderlying13, asAgg, part, Try.isAgg12, h]⟩
instance : ZeroT Try.prog 13 [.string ByteArray.empty, .int .u64 0] := ⟨_, Try.zeroValue13, rfl⟩
instance : AggT Try.prog 14 2 := ⟨Try.isAgg14, Try.sizeOf14⟩
instance : FieldT Try.prog 14 0 0 := ⟨fun b o w => by simp [Instr.fieldAt, Try.runUnderlying14, Instr.sureAddr, fieldPlace, Try.sizeOf9, Addr.add_lit], fun cs v w h => by simp [Instr.field, Try.runUnderlying14, asAgg, part, Try.isAgg9, h]⟩
instance : FieldT Try.prog 14 1 1 := ⟨fun b o w => by simp [Instr.fieldAt, Try.runUnderlying14, Instr.sureAddr, fieldPlace, Try.sizeOf12, Addr.add_lit], fun cs v w h => by simp [Instr.field, Try.runUnderlying14, asAgg, part, Try.isAgg12, h]⟩
instance : ZeroT Try.prog 14 [.string ByteArray.empty, .int .u64 0] := ⟨_, Try.zeroValue14, rfl⟩
instance : ScaT Try.prog 15 := ⟨Try.isAgg15, Try.sizeOf15⟩
instance : ZeroT Try.prog 15 [.pointer none] := ⟨_, Try.zeroValue15, rfl⟩
instance : ScaT Try.prog 16 := ⟨Try.isAgg16, Try.sizeOf16⟩
instance : ZeroT Try.prog 16 [.pointer none] := ⟨_, Try.zeroValue16, rfl⟩
instance : ScaT Try.prog 17 := ⟨Try.isAgg17, Try.sizeOf17⟩
instance : ZeroT Try.prog 17 [.pointer none] := ⟨_, Try.zeroValue17, rfl⟩
instance : AggT Try.prog 18 1 := ⟨Try.isAgg18, Try.sizeOf18⟩
instance : FieldT Try.prog 18 0 0 := ⟨fun b o w => by simp [Instr.fieldAt, Try.runUnderlying18, Instr.sureAddr, fieldPlace, Try.sizeOf17, Addr.add_lit], fun cs v w h => by simp [Instr.field, Try.runUnderlying18, asAgg, part, Try.isAgg17, h]⟩
instance : ZeroT Try.prog 18 [.pointer none] := ⟨_, Try.zeroValue18, rfl⟩
instance : AggT Try.prog 19 1 := ⟨Try.isAgg19, Try.sizeOf19⟩
instance : FieldT Try.prog 19 0 0 := ⟨fun b o w => by simp [Instr.fieldAt, Try.runUnderlying19, Instr.sureAddr, fieldPlace, Try.sizeOf17, Addr.add_lit], fun cs v w h => by simp [Instr.field, Try.runUnderlying19, asAgg, part, Try.isAgg17, h]⟩
instance : ZeroT Try.prog 19 [.pointer none] := ⟨_, Try.zeroValue19, rfl⟩
instance : ScaT Try.prog 21 := ⟨Try.isAgg21, Try.sizeOf21⟩
instance : IntT Try.prog 21 .i32 := ⟨Try.underlying21⟩
instance : ZeroT Try.prog 21 [.int .i32 0] := ⟨_, Try.zeroValue21, rfl⟩
instance : ScaT Try.prog 22 := ⟨Try.isAgg22, Try.sizeOf22⟩
instance : FloatT Try.prog 22 .f32 := ⟨Try.underlying22⟩
instance : ZeroT Try.prog 22 [.float .f32 0] := ⟨_, Try.zeroValue22, rfl⟩
theorem einfo22 : Try.prog.info? 22 = some Try.t22 := by kernel_rfl
instance : ElemT Try.prog 22 1 4 [.float .f32 0] := ⟨_, _, einfo22, rfl, rfl, rfl, rfl, rfl, by decide⟩
instance : AggT Try.prog 23 3 := ⟨Try.isAgg23, Try.sizeOf23⟩
instance : FieldT Try.prog 23 0 0 := ⟨fun b o w => by simp [Instr.fieldAt, Try.runUnderlying23, Instr.sureAddr, fieldPlace, Try.sizeOf22, Addr.add_lit], fun cs v w h => by simp [Instr.field, Try.runUnderlying23, asAgg, part, Try.isAgg22, h]⟩
instance : FieldT Try.prog 23 1 1 := ⟨fun b o w => by simp [Instr.fieldAt, Try.runUnderlying23, Instr.sureAddr, fieldPlace, Try.sizeOf22, Addr.add_lit], fun cs v w h => by simp [Instr.field, Try.runUnderlying23, asAgg, part, Try.isAgg22, h]⟩
instance : FieldT Try.prog 23 2 2 := ⟨fun b o w => by simp [Instr.fieldAt, Try.runUnderlying23, Instr.sureAddr, fieldPlace, Try.sizeOf22, Addr.add_lit], fun cs v w h => by simp [Instr.field, Try.runUnderlying23, asAgg, part, Try.isAgg22, h]⟩
instance : ZeroT Try.prog 23 [.float .f32 0, .float .f32 0, .float .f32 0] := ⟨_, Try.zeroValue23, rfl⟩
instance : AggT Try.prog 24 3 := ⟨Try.isAgg24, Try.sizeOf24⟩
instance : FieldT Try.prog 24 0 0 := ⟨fun b o w => by simp [Instr.fieldAt, Try.runUnderlying24, Instr.sureAddr, fieldPlace, Try.sizeOf22, Addr.add_lit], fun cs v w h => by simp [Instr.field, Try.runUnderlying24, asAgg, part, Try.isAgg22, h]⟩
instance : FieldT Try.prog 24 1 1 := ⟨fun b o w => by simp [Instr.fieldAt, Try.runUnderlying24, Instr.sureAddr, fieldPlace, Try.sizeOf22, Addr.add_lit], fun cs v w h => by simp [Instr.field, Try.runUnderlying24, asAgg, part, Try.isAgg22, h]⟩
instance : FieldT Try.prog 24 2 2 := ⟨fun b o w => by simp [Instr.fieldAt, Try.runUnderlying24, Instr.sureAddr, fieldPlace, Try.sizeOf22, Addr.add_lit], fun cs v w h => by simp [Instr.field, Try.runUnderlying24, asAgg, part, Try.isAgg22, h]⟩
instance : ZeroT Try.prog 24 [.float .f32 0, .float .f32 0, .float .f32 0] := ⟨_, Try.zeroValue24, rfl⟩
theorem einfo24 : Try.prog.info? 24 = some Try.t24 := by kernel_rfl
instance : ElemT Try.prog 24 3 12 [.float .f32 0, .float .f32 0, .float .f32 0] := ⟨_, _, einfo24, rfl, rfl, rfl, rfl, rfl, by decide⟩
instance : ScaT Try.prog 25 := ⟨Try.isAgg25, Try.sizeOf25⟩
instance : ZeroT Try.prog 25 [.nilFunc] := ⟨_, Try.zeroValue25, rfl⟩
instance : AggT Try.prog 26 3 := ⟨Try.isAgg26, Try.sizeOf26⟩
instance : FieldT Try.prog 26 0 0 := ⟨fun b o w => by simp [Instr.fieldAt, Try.runUnderlying26, Instr.sureAddr, fieldPlace, Try.sizeOf22, Addr.add_lit], fun cs v w h => by simp [Instr.field, Try.runUnderlying26, asAgg, part, Try.isAgg22, h]⟩
instance : FieldT Try.prog 26 1 1 := ⟨fun b o w => by simp [Instr.fieldAt, Try.runUnderlying26, Instr.sureAddr, fieldPlace, Try.sizeOf22, Addr.add_lit], fun cs v w h => by simp [Instr.field, Try.runUnderlying26, asAgg, part, Try.isAgg22, h]⟩
instance : FieldT Try.prog 26 2 2 := ⟨fun b o w => by simp [Instr.fieldAt, Try.runUnderlying26, Instr.sureAddr, fieldPlace, Try.sizeOf22, Addr.add_lit], fun cs v w h => by simp [Instr.field, Try.runUnderlying26, asAgg, part, Try.isAgg22, h]⟩
instance : ZeroT Try.prog 26 [.float .f32 0, .float .f32 0, .float .f32 0] := ⟨_, Try.zeroValue26, rfl⟩
theorem einfo26 : Try.prog.info? 26 = some Try.t26 := by kernel_rfl
instance : ElemT Try.prog 26 3 12 [.float .f32 0, .float .f32 0, .float .f32 0] := ⟨_, _, einfo26, rfl, rfl, rfl, rfl, rfl, by decide⟩
instance : ScaT Try.prog 27 := ⟨Try.isAgg27, Try.sizeOf27⟩
instance : ZeroT Try.prog 27 [.nilFunc] := ⟨_, Try.zeroValue27, rfl⟩
instance : ScaT Try.prog 28 := ⟨Try.isAgg28, Try.sizeOf28⟩
instance : ZeroT Try.prog 28 [.nilFunc] := ⟨_, Try.zeroValue28, rfl⟩
instance : ScaT Try.prog 29 := ⟨Try.isAgg29, Try.sizeOf29⟩
instance : ZeroT Try.prog 29 [.nilFunc] := ⟨_, Try.zeroValue29, rfl⟩
instance : ScaT Try.prog 30 := ⟨Try.isAgg30, Try.sizeOf30⟩
instance : ZeroT Try.prog 30 [.nilFunc] := ⟨_, Try.zeroValue30, rfl⟩
instance : ScaT Try.prog 31 := ⟨Try.isAgg31, Try.sizeOf31⟩
instance : SliceT Try.prog 31 2 := ⟨Try.underlying31⟩
instance : ZeroT Try.prog 31 [.slice none 0 0] := ⟨_, Try.zeroValue31, rfl⟩
instance : ScaT Try.prog 33 := ⟨Try.isAgg33, Try.sizeOf33⟩
instance : ZeroT Try.prog 33 [.nilFunc] := ⟨_, Try.zeroValue33, rfl⟩
instance : ScaT Try.prog 34 := ⟨Try.isAgg34, Try.sizeOf34⟩
instance : ZeroT Try.prog 34 [.nilFunc] := ⟨_, Try.zeroValue34, rfl⟩
instance : ScaT Try.prog 35 := ⟨Try.isAgg35, Try.sizeOf35⟩
instance : ZeroT Try.prog 35 [.nilFunc] := ⟨_, Try.zeroValue35, rfl⟩
instance : ScaT Try.prog 36 := ⟨Try.isAgg36, Try.sizeOf36⟩
instance : ZeroT Try.prog 36 [.nilFunc] := ⟨_, Try.zeroValue36, rfl⟩
instance : ScaT Try.prog 38 := ⟨Try.isAgg38, Try.sizeOf38⟩
instance : ZeroT Try.prog 38 [.nilFunc] := ⟨_, Try.zeroValue38, rfl⟩
instance : ScaT Try.prog 39 := ⟨Try.isAgg39, Try.sizeOf39⟩
instance : SliceT Try.prog 39 24 := ⟨Try.underlying39⟩
instance : ZeroT Try.prog 39 [.slice none 0 0] := ⟨_, Try.zeroValue39, rfl⟩
instance : AggT Try.prog 40 3 := ⟨Try.isAgg40, Try.sizeOf40⟩
instance : FieldT Try.prog 40 0 0 := ⟨fun b o w => by simp [Instr.fieldAt, Try.runUnderlying40, Instr.sureAddr, fieldPlace, Try.sizeOf2, Addr.add_lit], fun cs v w h => by simp [Instr.field, Try.runUnderlying40, asAgg, part, Try.isAgg2, h]⟩
instance : FieldT Try.prog 40 1 1 := ⟨fun b o w => by simp [Instr.fieldAt, Try.runUnderlying40, Instr.sureAddr, fieldPlace, Try.sizeOf2, Addr.add_lit], fun cs v w h => by simp [Instr.field, Try.runUnderlying40, asAgg, part, Try.isAgg2, h]⟩
instance : FieldT Try.prog 40 2 2 := ⟨fun b o w => by simp [Instr.fieldAt, Try.runUnderlying40, Instr.sureAddr, fieldPlace, Try.sizeOf39, Addr.add_lit], fun cs v w h => by simp [Instr.field, Try.runUnderlying40, asAgg, part, Try.isAgg39, h]⟩
instance : ZeroT Try.prog 40 [.int .i64 0, .int .i64 0, .slice none 0 0] := ⟨_, Try.zeroValue40, rfl⟩
instance : AggT Try.prog 41 3 := ⟨Try.isAgg41, Try.sizeOf41⟩
instance : FieldT Try.prog 41 0 0 := ⟨fun b o w => by simp [Instr.fieldAt, Try.runUnderlying41, Instr.sureAddr, fieldPlace, Try.sizeOf2, Addr.add_lit], fun cs v w h => by simp [Instr.field, Try.runUnderlying41, asAgg, part, Try.isAgg2, h]⟩
instance : FieldT Try.prog 41 1 1 := ⟨fun b o w => by simp [Instr.fieldAt, Try.runUnderlying41, Instr.sureAddr, fieldPlace, Try.sizeOf2, Addr.add_lit], fun cs v w h => by simp [Instr.field, Try.runUnderlying41, asAgg, part, Try.isAgg2, h]⟩
instance : FieldT Try.prog 41 2 2 := ⟨fun b o w => by simp [Instr.fieldAt, Try.runUnderlying41, Instr.sureAddr, fieldPlace, Try.sizeOf39, Addr.add_lit], fun cs v w h => by simp [Instr.field, Try.runUnderlying41, asAgg, part, Try.isAgg39, h]⟩
instance : ZeroT Try.prog 41 [.int .i64 0, .int .i64 0, .slice none 0 0] := ⟨_, Try.zeroValue41, rfl⟩
instance : ScaT Try.prog 42 := ⟨Try.isAgg42, Try.sizeOf42⟩
instance : ZeroT Try.prog 42 [.nilFunc] := ⟨_, Try.zeroValue42, rfl⟩
instance : ScaT Try.prog 43 := ⟨Try.isAgg43, Try.sizeOf43⟩
instance : ZeroT Try.prog 43 [.nilFunc] := ⟨_, Try.zeroValue43, rfl⟩
instance : ScaT Try.prog 44 := ⟨Try.isAgg44, Try.sizeOf44⟩
instance : SliceT Try.prog 44 26 := ⟨Try.underlying44⟩
instance : ZeroT Try.prog 44 [.slice none 0 0] := ⟨_, Try.zeroValue44, rfl⟩
theorem einfo44 : Try.prog.info? 44 = some Try.t44 := by kernel_rfl
instance : ElemT Try.prog 44 1 24 [.slice none 0 0] := ⟨_, _, einfo44, rfl, rfl, rfl, rfl, rfl, by decide⟩
instance : AggT Try.prog 45 3 := ⟨Try.isAgg45, Try.sizeOf45⟩
instance : FieldT Try.prog 45 0 0 := ⟨fun b o w => by simp [Instr.fieldAt, Try.runUnderlying45, Instr.sureAddr, fieldPlace, Try.sizeOf2, Addr.add_lit], fun cs v w h => by simp [Instr.field, Try.runUnderlying45, asAgg, part, Try.isAgg2, h]⟩
instance : FieldT Try.prog 45 1 1 := ⟨fun b o w => by simp [Instr.fieldAt, Try.runUnderlying45, Instr.sureAddr, fieldPlace, Try.sizeOf2, Addr.add_lit], fun cs v w h => by simp [Instr.field, Try.runUnderlying45, asAgg, part, Try.isAgg2, h]⟩
instance : FieldT Try.prog 45 2 2 := ⟨fun b o w => by simp [Instr.fieldAt, Try.runUnderlying45, Instr.sureAddr, fieldPlace, Try.sizeOf44, Addr.add_lit], fun cs v w h => by simp [Instr.field, Try.runUnderlying45, asAgg, part, Try.isAgg44, h]⟩
instance : ZeroT Try.prog 45 [.int .i64 0, .int .i64 0, .slice none 0 0] := ⟨_, Try.zeroValue45, rfl⟩
instance : AggT Try.prog 46 3 := ⟨Try.isAgg46, Try.sizeOf46⟩
instance : FieldT Try.prog 46 0 0 := ⟨fun b o w => by simp [Instr.fieldAt, Try.runUnderlying46, Instr.sureAddr, fieldPlace, Try.sizeOf2, Addr.add_lit], fun cs v w h => by simp [Instr.field, Try.runUnderlying46, asAgg, part, Try.isAgg2, h]⟩
instance : FieldT Try.prog 46 1 1 := ⟨fun b o w => by simp [Instr.fieldAt, Try.runUnderlying46, Instr.sureAddr, fieldPlace, Try.sizeOf2, Addr.add_lit], fun cs v w h => by simp [Instr.field, Try.runUnderlying46, asAgg, part, Try.isAgg2, h]⟩
instance : FieldT Try.prog 46 2 2 := ⟨fun b o w => by simp [Instr.fieldAt, Try.runUnderlying46, Instr.sureAddr, fieldPlace, Try.sizeOf44, Addr.add_lit], fun cs v w h => by simp [Instr.field, Try.runUnderlying46, asAgg, part, Try.isAgg44, h]⟩
instance : ZeroT Try.prog 46 [.int .i64 0, .int .i64 0, .slice none 0 0] := ⟨_, Try.zeroValue46, rfl⟩
instance : ScaT Try.prog 47 := ⟨Try.isAgg47, Try.sizeOf47⟩
instance : ZeroT Try.prog 47 [.nilFunc] := ⟨_, Try.zeroValue47, rfl⟩
instance : ScaT Try.prog 48 := ⟨Try.isAgg48, Try.sizeOf48⟩
instance : ZeroT Try.prog 48 [.nilFunc] := ⟨_, Try.zeroValue48, rfl⟩
instance : ScaT Try.prog 49 := ⟨Try.isAgg49, Try.sizeOf49⟩
instance : ZeroT Try.prog 49 [.nilFunc] := ⟨_, Try.zeroValue49, rfl⟩
instance : ScaT Try.prog 50 := ⟨Try.isAgg50, Try.sizeOf50⟩
instance : ZeroT Try.prog 50 [.nilFunc] := ⟨_, Try.zeroValue50, rfl⟩
instance : ScaT Try.prog 51 := ⟨Try.isAgg51, Try.sizeOf51⟩
instance : ZeroT Try.prog 51 [.nilFunc] := ⟨_, Try.zeroValue51, rfl⟩
instance : ScaT Try.prog 53 := ⟨Try.isAgg53, Try.sizeOf53⟩
instance : ZeroT Try.prog 53 [.nilFunc] := ⟨_, Try.zeroValue53, rfl⟩
instance : ScaT Try.prog 54 := ⟨Try.isAgg54, Try.sizeOf54⟩
instance : ZeroT Try.prog 54 [.nilFunc] := ⟨_, Try.zeroValue54, rfl⟩
instance : ScaT Try.prog 55 := ⟨Try.isAgg55, Try.sizeOf55⟩
instance : ZeroT Try.prog 55 [.nilFunc] := ⟨_, Try.zeroValue55, rfl⟩
instance : ScaT Try.prog 56 := ⟨Try.isAgg56, Try.sizeOf56⟩
instance : ZeroT Try.prog 56 [.nilFunc] := ⟨_, Try.zeroValue56, rfl⟩
instance : ScaT Try.prog 57 := ⟨Try.isAgg57, Try.sizeOf57⟩
instance : SliceT Try.prog 57 5 := ⟨Try.underlying57⟩
instance : ZeroT Try.prog 57 [.slice none 0 0] := ⟨_, Try.zeroValue57, rfl⟩
instance : ScaT Try.prog 58 := ⟨Try.isAgg58, Try.sizeOf58⟩
instance : ZeroT Try.prog 58 [.nilFunc] := ⟨_, Try.zeroValue58, rfl⟩
instance : ScaT Try.prog 59 := ⟨Try.isAgg59, Try.sizeOf59⟩
instance : ZeroT Try.prog 59 [.nilFunc] := ⟨_, Try.zeroValue59, rfl⟩
instance : ScaT Try.prog 60 := ⟨Try.isAgg60, Try.sizeOf60⟩
instance : ZeroT Try.prog 60 [.nilFunc] := ⟨_, Try.zeroValue60, rfl⟩
instance : ScaT Try.prog 61 := ⟨Try.isAgg61, Try.sizeOf61⟩
instance : ZeroT Try.prog 61 [.nilFunc] := ⟨_, Try.zeroValue61, rfl⟩
instance : ScaT Try.prog 63 := ⟨Try.isAgg63, Try.sizeOf63⟩
instance : ZeroT Try.prog 63 [.nilFunc] := ⟨_, Try.zeroValue63, rfl⟩
instance : ScaT Try.prog 64 := ⟨Try.isAgg64, Try.sizeOf64⟩
instance : FloatT Try.prog 64 .f64 := ⟨Try.underlying64⟩
instance : ZeroT Try.prog 64 [.float .f64 0] := ⟨_, Try.zeroValue64, rfl⟩
instance : ScaT Try.prog 65 := ⟨Try.isAgg65, Try.sizeOf65⟩
instance : ZeroT Try.prog 65 [.nilFunc] := ⟨_, Try.zeroValue65, rfl⟩
instance : ScaT Try.prog 67 := ⟨Try.isAgg67, Try.sizeOf67⟩
instance : ZeroT Try.prog 67 [.nilFunc] := ⟨_, Try.zeroValue67, rfl⟩
instance : ScaT Try.prog 68 := ⟨Try.isAgg68, Try.sizeOf68⟩
instance : ZeroT Try.prog 68 [.nilFunc] := ⟨_, Try.zeroValue68, rfl⟩
instance : ScaT Try.prog 70 := ⟨Try.isAgg70, Try.sizeOf70⟩
instance : ZeroT Try.prog 70 [.nilFunc] := ⟨_, Try.zeroValue70, rfl⟩
instance : ScaT Try.prog 71 := ⟨Try.isAgg71, Try.sizeOf71⟩
instance : ZeroT Try.prog 71 [.nilFunc] := ⟨_, Try.zeroValue71, rfl⟩
instance : ScaT Try.prog 72 := ⟨Try.isAgg72, Try.sizeOf72⟩
instance : ZeroT Try.prog 72 [.nilFunc] := ⟨_, Try.zeroValue72, rfl⟩
instance : ScaT Try.prog 73 := ⟨Try.isAgg73, Try.sizeOf73⟩
instance : ZeroT Try.prog 73 [.nilFunc] := ⟨_, Try.zeroValue73, rfl⟩
instance : ScaT Try.prog 74 := ⟨Try.isAgg74, Try.sizeOf74⟩
instance : ZeroT Try.prog 74 [.nilFunc] := ⟨_, Try.zeroValue74, rfl⟩
instance : ScaT Try.prog 75 := ⟨Try.isAgg75, Try.sizeOf75⟩
instance : ZeroT Try.prog 75 [.nilFunc] := ⟨_, Try.zeroValue75, rfl⟩
instance : ScaT Try.prog 76 := ⟨Try.isAgg76, Try.sizeOf76⟩
instance : ZeroT Try.prog 76 [.nilFunc] := ⟨_, Try.zeroValue76, rfl⟩
instance : ScaT Try.prog 77 := ⟨Try.isAgg77, Try.sizeOf77⟩
instance : ZeroT Try.prog 77 [.nilFunc] := ⟨_, Try.zeroValue77, rfl⟩
instance : ScaT Try.prog 78 := ⟨Try.isAgg78, Try.sizeOf78⟩
instance : ZeroT Try.prog 78 [.nilFunc] := ⟨_, Try.zeroValue78, rfl⟩
instance : ScaT Try.prog 79 := ⟨Try.isAgg79, Try.sizeOf79⟩
instance : ZeroT Try.prog 79 [.nilFunc] := ⟨_, Try.zeroValue79, rfl⟩
instance : ScaT Try.prog 80 := ⟨Try.isAgg80, Try.sizeOf80⟩
instance : ZeroT Try.prog 80 [.nilFunc] := ⟨_, Try.zeroValue80, rfl⟩
instance : ScaT Try.prog 81 := ⟨Try.isAgg81, Try.sizeOf81⟩
instance : ZeroT Try.prog 81 [.nilFunc] := ⟨_, Try.zeroValue81, rfl⟩
instance : ScaT Try.prog 82 := ⟨Try.isAgg82, Try.sizeOf82⟩
instance : ZeroT Try.prog 82 [.nilFunc] := ⟨_, Try.zeroValue82, rfl⟩
instance : ScaT Try.prog 83 := ⟨Try.isAgg83, Try.sizeOf83⟩
instance : ZeroT Try.prog 83 [.nilFunc] := ⟨_, Try.zeroValue83, rfl⟩
instance : ScaT Try.prog 84 := ⟨Try.isAgg84, Try.sizeOf84⟩
instance : ZeroT Try.prog 84 [.nilFunc] := ⟨_, Try.zeroValue84, rfl⟩
instance : ScaT Try.prog 85 := ⟨Try.isAgg85, Try.sizeOf85⟩
instance : ZeroT Try.prog 85 [.nilFunc] := ⟨_, Try.zeroValue85, rfl⟩
instance : ScaT Try.prog 86 := ⟨Try.isAgg86, Try.sizeOf86⟩
instance : ZeroT Try.prog 86 [.nilFunc] := ⟨_, Try.zeroValue86, rfl⟩
instance : ScaT Try.prog 88 := ⟨Try.isAgg88, Try.sizeOf88⟩
instance : ZeroT Try.prog 88 [.nilFunc] := ⟨_, Try.zeroValue88, rfl⟩
instance : ScaT Try.prog 89 := ⟨Try.isAgg89, Try.sizeOf89⟩
instance : ZeroT Try.prog 89 [.nilFunc] := ⟨_, Try.zeroValue89, rfl⟩
instance : ScaT Try.prog 90 := ⟨Try.isAgg90, Try.sizeOf90⟩
instance : ZeroT Try.prog 90 [.nilFunc] := ⟨_, Try.zeroValue90, rfl⟩
instance : ScaT Try.prog 92 := ⟨Try.isAgg92, Try.sizeOf92⟩
instance : ZeroT Try.prog 92 [.nilFunc] := ⟨_, Try.zeroValue92, rfl⟩
instance : ScaT Try.prog 93 := ⟨Try.isAgg93, Try.sizeOf93⟩
instance : ZeroT Try.prog 93 [.nilFunc] := ⟨_, Try.zeroValue93, rfl⟩
instance : ScaT Try.prog 94 := ⟨Try.isAgg94, Try.sizeOf94⟩
instance : ZeroT Try.prog 94 [.nilFunc] := ⟨_, Try.zeroValue94, rfl⟩
instance : ScaT Try.prog 95 := ⟨Try.isAgg95, Try.sizeOf95⟩
instance : ZeroT Try.prog 95 [.nilFunc] := ⟨_, Try.zeroValue95, rfl⟩
instance : ScaT Try.prog 96 := ⟨Try.isAgg96, Try.sizeOf96⟩
instance : ZeroT Try.prog 96 [.nilFunc] := ⟨_, Try.zeroValue96, rfl⟩
instance : ScaT Try.prog 97 := ⟨Try.isAgg97, Try.sizeOf97⟩
instance : ZeroT Try.prog 97 [.nilFunc] := ⟨_, Try.zeroValue97, rfl⟩
instance : ScaT Try.prog 98 := ⟨Try.isAgg98, Try.sizeOf98⟩
instance : ZeroT Try.prog 98 [.nilFunc] := ⟨_, Try.zeroValue98, rfl⟩
instance : ScaT Try.prog 99 := ⟨Try.isAgg99, Try.sizeOf99⟩
instance : ZeroT Try.prog 99 [.nilFunc] := ⟨_, Try.zeroValue99, rfl⟩
instance : ScaT Try.prog 100 := ⟨Try.isAgg100, Try.sizeOf100⟩
instance : ZeroT Try.prog 100 [.nilFunc] := ⟨_, Try.zeroValue100, rfl⟩
instance : ScaT Try.prog 101 := ⟨Try.isAgg101, Try.sizeOf101⟩
instance : ZeroT Try.prog 101 [.nilFunc] := ⟨_, Try.zeroValue101, rfl⟩
instance : ScaT Try.prog 102 := ⟨Try.isAgg102, Try.sizeOf102⟩
instance : ZeroT Try.prog 102 [.nilFunc] := ⟨_, Try.zeroValue102, rfl⟩
instance : ScaT Try.prog 103 := ⟨Try.isAgg103, Try.sizeOf103⟩
instance : ZeroT Try.prog 103 [.nilFunc] := ⟨_, Try.zeroValue103, rfl⟩
instance : ScaT Try.prog 104 := ⟨Try.isAgg104, Try.sizeOf104⟩
instance : ZeroT Try.prog 104 [.nilFunc] := ⟨_, Try.zeroValue104, rfl⟩
instance : ScaT Try.prog 105 := ⟨Try.isAgg105, Try.sizeOf105⟩
instance : ZeroT Try.prog 105 [.nilFunc] := ⟨_, Try.zeroValue105, rfl⟩
instance : ScaT Try.prog 106 := ⟨Try.isAgg106, Try.sizeOf106⟩
instance : ZeroT Try.prog 106 [.nilFunc] := ⟨_, Try.zeroValue106, rfl⟩
instance : ScaT Try.prog 107 := ⟨Try.isAgg107, Try.sizeOf107⟩
instance : ZeroT Try.prog 107 [.nilFunc] := ⟨_, Try.zeroValue107, rfl⟩
instance : ScaT Try.prog 108 := ⟨Try.isAgg108, Try.sizeOf108⟩
instance : ZeroT Try.prog 108 [.nilFunc] := ⟨_, Try.zeroValue108, rfl⟩
instance : ScaT Try.prog 109 := ⟨Try.isAgg109, Try.sizeOf109⟩
instance : ZeroT Try.prog 109 [.nilFunc] := ⟨_, Try.zeroValue109, rfl⟩
instance : ScaT Try.prog 110 := ⟨Try.isAgg110, Try.sizeOf110⟩
instance : ZeroT Try.prog 110 [.pointer none] := ⟨_, Try.zeroValue110, rfl⟩
instance : ScaT Try.prog 111 := ⟨Try.isAgg111, Try.sizeOf111⟩
instance : ZeroT Try.prog 111 [.nilFunc] := ⟨_, Try.zeroValue111, rfl⟩
instance : ScaT Try.prog 112 := ⟨Try.isAgg112, Try.sizeOf112⟩
instance : ZeroT Try.prog 112 [.nilFunc] := ⟨_, Try.zeroValue112, rfl⟩
instance : ScaT Try.prog 113 := ⟨Try.isAgg113, Try.sizeOf113⟩
instance : ZeroT Try.prog 113 [.nilFunc] := ⟨_, Try.zeroValue113, rfl⟩
instance : ScaT Try.prog 114 := ⟨Try.isAgg114, Try.sizeOf114⟩
instance : ZeroT Try.prog 114 [.nilFunc] := ⟨_, Try.zeroValue114, rfl⟩
instance : ScaT Try.prog 115 := ⟨Try.isAgg115, Try.sizeOf115⟩
instance : ZeroT Try.prog 115 [.nilFunc] := ⟨_, Try.zeroValue115, rfl⟩
instance : ScaT Try.prog 116 := ⟨Try.isAgg116, Try.sizeOf116⟩
instance : ZeroT Try.prog 116 [.pointer none] := ⟨_, Try.zeroValue116, rfl⟩
instance : ScaT Try.prog 117 := ⟨Try.isAgg117, Try.sizeOf117⟩
instance : ZeroT Try.prog 117 [.nilFunc] := ⟨_, Try.zeroValue117, rfl⟩
instance : ScaT Try.prog 118 := ⟨Try.isAgg118, Try.sizeOf118⟩
instance : ZeroT Try.prog 118 [.nilFunc] := ⟨_, Try.zeroValue118, rfl⟩
instance : ScaT Try.prog 119 := ⟨Try.isAgg119, Try.sizeOf119⟩
instance : ZeroT Try.prog 119 [.nilFunc] := ⟨_, Try.zeroValue119, rfl⟩
instance : ScaT Try.prog 120 := ⟨Try.isAgg120, Try.sizeOf120⟩
instance : SliceT Try.prog 120 44 := ⟨Try.underlying120⟩
instance : ZeroT Try.prog 120 [.slice none 0 0] := ⟨_, Try.zeroValue120, rfl⟩
instance : ScaT Try.prog 121 := ⟨Try.isAgg121, Try.sizeOf121⟩
instance : ZeroT Try.prog 121 [.nilFunc] := ⟨_, Try.zeroValue121, rfl⟩
instance : ScaT Try.prog 122 := ⟨Try.isAgg122, Try.sizeOf122⟩
instance : ZeroT Try.prog 122 [.nilFunc] := ⟨_, Try.zeroValue122, rfl⟩
instance : ScaT Try.prog 123 := ⟨Try.isAgg123, Try.sizeOf123⟩
instance : ZeroT Try.prog 123 [.nilFunc] := ⟨_, Try.zeroValue123, rfl⟩
instance : ScaT Try.prog 124 := ⟨Try.isAgg124, Try.sizeOf124⟩
instance : ZeroT Try.prog 124 [.nilFunc] := ⟨_, Try.zeroValue124, rfl⟩
instance : ScaT Try.prog 125 := ⟨Try.isAgg125, Try.sizeOf125⟩
instance : ZeroT Try.prog 125 [.nilFunc] := ⟨_, Try.zeroValue125, rfl⟩
instance : ScaT Try.prog 126 := ⟨Try.isAgg126, Try.sizeOf126⟩
instance : ZeroT Try.prog 126 [.nilFunc] := ⟨_, Try.zeroValue126, rfl⟩
instance : ScaT Try.prog 127 := ⟨Try.isAgg127, Try.sizeOf127⟩
instance : ZeroT Try.prog 127 [.nilFunc] := ⟨_, Try.zeroValue127, rfl⟩
instance : ScaT Try.prog 128 := ⟨Try.isAgg128, Try.sizeOf128⟩
instance : ZeroT Try.prog 128 [.nilFunc] := ⟨_, Try.zeroValue128, rfl⟩
instance : ScaT Try.prog 129 := ⟨Try.isAgg129, Try.sizeOf129⟩
instance : ZeroT Try.prog 129 [.nilFunc] := ⟨_, Try.zeroValue129, rfl⟩
instance : ScaT Try.prog 130 := ⟨Try.isAgg130, Try.sizeOf130⟩
instance : ZeroT Try.prog 130 [.nilFunc] := ⟨_, Try.zeroValue130, rfl⟩
instance : ScaT Try.prog 131 := ⟨Try.isAgg131, Try.sizeOf131⟩
instance : ZeroT Try.prog 131 [.nilFunc] := ⟨_, Try.zeroValue131, rfl⟩
instance : ScaT Try.prog 132 := ⟨Try.isAgg132, Try.sizeOf132⟩
instance : ZeroT Try.prog 132 [.nilFunc] := ⟨_, Try.zeroValue132, rfl⟩
instance : ScaT Try.prog 133 := ⟨Try.isAgg133, Try.sizeOf133⟩
instance : ZeroT Try.prog 133 [.nilFunc] := ⟨_, Try.zeroValue133, rfl⟩
instance : ScaT Try.prog 134 := ⟨Try.isAgg134, Try.sizeOf134⟩
instance : ZeroT Try.prog 134 [.nilFunc] := ⟨_, Try.zeroValue134, rfl⟩
instance : ScaT Try.prog 135 := ⟨Try.isAgg135, Try.sizeOf135⟩
instance : ZeroT Try.prog 135 [.nilFunc] := ⟨_, Try.zeroValue135, rfl⟩
instance : ScaT Try.prog 136 := ⟨Try.isAgg136, Try.sizeOf136⟩
instance : ZeroT Try.prog 136 [.nilFunc] := ⟨_, Try.zeroValue136, rfl⟩
instance : ScaT Try.prog 137 := ⟨Try.isAgg137, Try.sizeOf137⟩
instance : ZeroT Try.prog 137 [.nilFunc] := ⟨_, Try.zeroValue137, rfl⟩
instance : ScaT Try.prog 138 := ⟨Try.isAgg138, Try.sizeOf138⟩
instance : ZeroT Try.prog 138 [.nilFunc] := ⟨_, Try.zeroValue138, rfl⟩
instance : ScaT Try.prog 139 := ⟨Try.isAgg139, Try.sizeOf139⟩
instance : ZeroT Try.prog 139 [.nilFunc] := ⟨_, Try.zeroValue139, rfl⟩
instance : ScaT Try.prog 140 := ⟨Try.isAgg140, Try.sizeOf140⟩
instance : ZeroT Try.prog 140 [.nilFunc] := ⟨_, Try.zeroValue140, rfl⟩
instance : ScaT Try.prog 141 := ⟨Try.isAgg141, Try.sizeOf141⟩
instance : SliceT Try.prog 141 22 := ⟨Try.underlying141⟩
instance : ZeroT Try.prog 141 [.slice none 0 0] := ⟨_, Try.zeroValue141, rfl⟩
instance : ScaT Try.prog 142 := ⟨Try.isAgg142, Try.sizeOf142⟩
instance : ZeroT Try.prog 142 [.nilFunc] := ⟨_, Try.zeroValue142, rfl⟩
instance : ScaT Try.prog 143 := ⟨Try.isAgg143, Try.sizeOf143⟩
instance : ZeroT Try.prog 143 [.nilFunc] := ⟨_, Try.zeroValue143, rfl⟩
instance : ScaT Try.prog 144 := ⟨Try.isAgg144, Try.sizeOf144⟩
instance : ZeroT Try.prog 144 [.nilFunc] := ⟨_, Try.zeroValue144, rfl⟩
instance : ScaT Try.prog 146 := ⟨Try.isAgg146, Try.sizeOf146⟩
instance : ZeroT Try.prog 146 [.nilFunc] := ⟨_, Try.zeroValue146, rfl⟩
instance : ScaT Try.prog 147 := ⟨Try.isAgg147, Try.sizeOf147⟩
instance : ZeroT Try.prog 147 [.nilFunc] := ⟨_, Try.zeroValue147, rfl⟩
instance : ScaT Try.prog 148 := ⟨Try.isAgg148, Try.sizeOf148⟩
instance : ZeroT Try.prog 148 [.nilFunc] := ⟨_, Try.zeroValue148, rfl⟩
instance : ScaT Try.prog 149 := ⟨Try.isAgg149, Try.sizeOf149⟩
instance : ZeroT Try.prog 149 [.nilFunc] := ⟨_, Try.zeroValue149, rfl⟩
instance : ScaT Try.prog 150 := ⟨Try.isAgg150, Try.sizeOf150⟩
instance : ZeroT Try.prog 150 [.nilFunc] := ⟨_, Try.zeroValue150, rfl⟩
instance : ScaT Try.prog 151 := ⟨Try.isAgg151, Try.sizeOf151⟩
instance : ZeroT Try.prog 151 [.nilFunc] := ⟨_, Try.zeroValue151, rfl⟩
instance : ScaT Try.prog 152 := ⟨Try.isAgg152, Try.sizeOf152⟩
instance : ZeroT Try.prog 152 [.nilFunc] := ⟨_, Try.zeroValue152, rfl⟩
instance : ScaT Try.prog 153 := ⟨Try.isAgg153, Try.sizeOf153⟩
instance : ZeroT Try.prog 153 [.nilFunc] := ⟨_, Try.zeroValue153, rfl⟩
instance : ScaT Try.prog 154 := ⟨Try.isAgg154, Try.sizeOf154⟩
instance : ZeroT Try.prog 154 [.nilFunc] := ⟨_, Try.zeroValue154, rfl⟩
instance : ScaT Try.prog 155 := ⟨Try.isAgg155, Try.sizeOf155⟩
instance : IntT Try.prog 155 .u64 := ⟨Try.underlying155⟩
instance : ZeroT Try.prog 155 [.int .u64 0] := ⟨_, Try.zeroValue155, rfl⟩
instance : AggT Try.prog 156 3 := ⟨Try.isAgg156, Try.sizeOf156⟩
instance : FieldT Try.prog 156 0 0 := ⟨fun b o w => by simp [Instr.fieldAt, Try.runUnderlying156, Instr.sureAddr, fieldPlace, Try.sizeOf57, Addr.add_lit], fun cs v w h => by simp [Instr.field, Try.runUnderlying156, asAgg, part, Try.isAgg57, h]⟩
instance : FieldT Try.prog 156 1 1 := ⟨fun b o w => by simp [Instr.fieldAt, Try.runUnderlying156, Instr.sureAddr, fieldPlace, Try.sizeOf3, Addr.add_lit], fun cs v w h => by simp [Instr.field, Try.runUnderlying156, asAgg, part, Try.isAgg3, h]⟩
instance : FieldT Try.prog 156 2 2 := ⟨fun b o w => by simp [Instr.fieldAt, Try.runUnderlying156, Instr.sureAddr, fieldPlace, Try.sizeOf155, Addr.add_lit], fun cs v w h => by simp [Instr.field, Try.runUnderlying156, asAgg, part, Try.isAgg155, h]⟩
instance : ZeroT Try.prog 156 [.slice none 0 0, .int .i64 0, .int .u64 0] := ⟨_, Try.zeroValue156, rfl⟩
instance : AggT Try.prog 157 3 := ⟨Try.isAgg157, Try.sizeOf157⟩
instance : FieldT Try.prog 157 0 0 := ⟨fun b o w => by simp [Instr.fieldAt, Try.runUnderlying157, Instr.sureAddr, fieldPlace, Try.sizeOf57, Addr.add_lit], fun cs v w h => by simp [Instr.field, Try.runUnderlying157, asAgg, part, Try.isAgg57, h]⟩
instance : FieldT Try.prog 157 1 1 := ⟨fun b o w => by simp [Instr.fieldAt, Try.runUnderlying157, Instr.sureAddr, fieldPlace, Try.sizeOf3, Addr.add_lit], fun cs v w h => by simp [Instr.field, Try.runUnderlying157, asAgg, part, Try.isAgg3, h]⟩
instance : FieldT Try.prog 157 2 2 := ⟨fun b o w => by simp [Instr.fieldAt, Try.runUnderlying157, Instr.sureAddr, fieldPlace, Try.sizeOf155, Addr.add_lit], fun cs v w h => by simp [Instr.field, Try.runUnderlying157, asAgg, part, Try.isAgg155, h]⟩
instance : ZeroT Try.prog 157 [.slice none 0 0, .int .i64 0, .int .u64 0] := ⟨_, Try.zeroValue157, rfl⟩
instance : ScaT Try.prog 158 := ⟨Try.isAgg158, Try.sizeOf158⟩
instance : ZeroT Try.prog 158 [.nilFunc] := ⟨_, Try.zeroValue158, rfl⟩
instance : ScaT Try.prog 159 := ⟨Try.isAgg159, Try.sizeOf159⟩
instance : ZeroT Try.prog 159 [.nilFunc] := ⟨_, Try.zeroValue159, rfl⟩
instance : ScaT Try.prog 160 := ⟨Try.isAgg160, Try.sizeOf160⟩
instance : ZeroT Try.prog 160 [.nilFunc] := ⟨_, Try.zeroValue160, rfl⟩
instance : ScaT Try.prog 161 := ⟨Try.isAgg161, Try.sizeOf161⟩
instance : ZeroT Try.prog 161 [.nilFunc] := ⟨_, Try.zeroValue161, rfl⟩
instance : ScaT Try.prog 162 := ⟨Try.isAgg162, Try.sizeOf162⟩
instance : ZeroT Try.prog 162 [.nilFunc] := ⟨_, Try.zeroValue162, rfl⟩
instance : ScaT Try.prog 163 := ⟨Try.isAgg163, Try.sizeOf163⟩
instance : ZeroT Try.prog 163 [.nilFunc] := ⟨_, Try.zeroValue163, rfl⟩
instance : ScaT Try.prog 164 := ⟨Try.isAgg164, Try.sizeOf164⟩
instance : ZeroT Try.prog 164 [.nilFunc] := ⟨_, Try.zeroValue164, rfl⟩
instance : ScaT Try.prog 165 := ⟨Try.isAgg165, Try.sizeOf165⟩
instance : ZeroT Try.prog 165 [.nilFunc] := ⟨_, Try.zeroValue165, rfl⟩
instance : ScaT Try.prog 166 := ⟨Try.isAgg166, Try.sizeOf166⟩
instance : ZeroT Try.prog 166 [.nilFunc] := ⟨_, Try.zeroValue166, rfl⟩
instance : ScaT Try.prog 167 := ⟨Try.isAgg167, Try.sizeOf167⟩
instance : ZeroT Try.prog 167 [.nilFunc] := ⟨_, Try.zeroValue167, rfl⟩
instance : ScaT Try.prog 168 := ⟨Try.isAgg168, Try.sizeOf168⟩
instance : ZeroT Try.prog 168 [.nilFunc] := ⟨_, Try.zeroValue168, rfl⟩
instance : ScaT Try.prog 169 := ⟨Try.isAgg169, Try.sizeOf169⟩
instance : IntT Try.prog 169 .u32 := ⟨Try.underlying169⟩
instance : ZeroT Try.prog 169 [.int .u32 0] := ⟨_, Try.zeroValue169, rfl⟩
instance : ScaT Try.prog 170 := ⟨Try.isAgg170, Try.sizeOf170⟩
instance : ZeroT Try.prog 170 [.nilFunc] := ⟨_, Try.zeroValue170, rfl⟩
instance : ScaT Try.prog 171 := ⟨Try.isAgg171, Try.sizeOf171⟩
instance : IntT Try.prog 171 .u64 := ⟨Try.underlying171⟩
instance : ZeroT Try.prog 171 [.int .u64 0] := ⟨_, Try.zeroValue171, rfl⟩
instance : ScaT Try.prog 172 := ⟨Try.isAgg172, Try.sizeOf172⟩
instance : ZeroT Try.prog 172 [.nilFunc] := ⟨_, Try.zeroValue172, rfl⟩
instance : AggT Try.prog 173 4 := ⟨Try.isAgg173, Try.sizeOf173⟩
instance : FieldT Try.prog 173 0 0 := ⟨fun b o w => by simp [Instr.fieldAt, Try.runUnderlying173, Instr.sureAddr, fieldPlace, Try.sizeOf17, Addr.add_lit], fun cs v w h => by simp [Instr.field, Try.runUnderlying173, asAgg, part, Try.isAgg17, h]⟩
instance : FieldT Try.prog 173 1 1 := ⟨fun b o w => by simp [Instr.fieldAt, Try.runUnderlying173, Instr.sureAddr, fieldPlace, Try.sizeOf17, Addr.add_lit], fun cs v w h => by simp [Instr.field, Try.runUnderlying173, asAgg, part, Try.isAgg17, h]⟩
instance : FieldT Try.prog 173 2 2 := ⟨fun b o w => by simp [Instr.fieldAt, Try.runUnderlying173, Instr.sureAddr, fieldPlace, Try.sizeOf17, Addr.add_lit], fun cs v w h => by simp [Instr.field, Try.runUnderlying173, asAgg, part, Try.isAgg17, h]⟩
instance : FieldT Try.prog 173 3 3 := ⟨fun b o w => by simp [Instr.fieldAt, Try.runUnderlying173, Instr.sureAddr, fieldPlace, Try.sizeOf9, Addr.add_lit], fun cs v w h => by simp [Instr.field, Try.runUnderlying173, asAgg, part, Try.isAgg9, h]⟩
instance : ZeroT Try.prog 173 [.pointer none, .pointer none, .pointer none, .string ByteArray.empty] := ⟨_, Try.zeroValue173, rfl⟩
instance : AggT Try.prog 174 4 := ⟨Try.isAgg174, Try.sizeOf174⟩
instance : FieldT Try.prog 174 0 0 := ⟨fun b o w => by simp [Instr.fieldAt, Try.runUnderlying174, Instr.sureAddr, fieldPlace, Try.sizeOf17, Addr.add_lit], fun cs v w h => by simp [Instr.field, Try.runUnderlying174, asAgg, part, Try.isAgg17, h]⟩
instance : FieldT Try.prog 174 1 1 := ⟨fun b o w => by simp [Instr.fieldAt, Try.runUnderlying174, Instr.sureAddr, fieldPlace, Try.sizeOf17, Addr.add_lit], fun cs v w h => by simp [Instr.field, Try.runUnderlying174, asAgg, part, Try.isAgg17, h]⟩
instance : FieldT Try.prog 174 2 2 := ⟨fun b o w => by simp [Instr.fieldAt, Try.runUnderlying174, Instr.sureAddr, fieldPlace, Try.sizeOf17, Addr.add_lit], fun cs v w h => by simp [Instr.field, Try.runUnderlying174, asAgg, part, Try.isAgg17, h]⟩
instance : FieldT Try.prog 174 3 3 := ⟨fun b o w => by simp [Instr.fieldAt, Try.runUnderlying174, Instr.sureAddr, fieldPlace, Try.sizeOf9, Addr.add_lit], fun cs v w h => by simp [Instr.field, Try.runUnderlying174, asAgg, part, Try.isAgg9, h]⟩
instance : ZeroT Try.prog 174 [.pointer none, .pointer none, .pointer none, .string ByteArray.empty] := ⟨_, Try.zeroValue174, rfl⟩
-- type 176: a struct with a field that is no single cell
-- type 177: a struct with a field that is no single cell
instance : ScaT Try.prog 178 := ⟨Try.isAgg178, Try.sizeOf178⟩
instance : ZeroT Try.prog 178 [.nilFunc] := ⟨_, Try.zeroValue178, rfl⟩
instance : ScaT Try.prog 179 := ⟨Try.isAgg179, Try.sizeOf179⟩
instance : IntT Try.prog 179 .u8 := ⟨Try.underlying179⟩
instance : ZeroT Try.prog 179 [.int .u8 0] := ⟨_, Try.zeroValue179, rfl⟩
instance : ScaT Try.prog 180 := ⟨Try.isAgg180, Try.sizeOf180⟩
instance : IntT Try.prog 180 .u8 := ⟨Try.underlying180⟩
instance : ZeroT Try.prog 180 [.int .u8 0] := ⟨_, Try.zeroValue180, rfl⟩
instance : ScaT Try.prog 181 := ⟨Try.isAgg181, Try.sizeOf181⟩
instance : ZeroT Try.prog 181 [.nilFunc] := ⟨_, Try.zeroValue181, rfl⟩
instance : ScaT Try.prog 182 := ⟨Try.isAgg182, Try.sizeOf182⟩
instance : ZeroT Try.prog 182 [.pointer none] := ⟨_, Try.zeroValue182, rfl⟩
instance : ScaT Try.prog 183 := ⟨Try.isAgg183, Try.sizeOf183⟩
instance : IntT Try.prog 183 .i32 := ⟨Try.underlying183⟩
instance : ZeroT Try.prog 183 [.int .i32 0] := ⟨_, Try.zeroValue183, rfl⟩
instance : ScaT Try.prog 184 := ⟨Try.isAgg184, Try.sizeOf184⟩
instance : IntT Try.prog 184 .i32 := ⟨Try.underlying184⟩
instance : ZeroT Try.prog 184 [.int .i32 0] := ⟨_, Try.zeroValue184, rfl⟩
instance : AggT Try.prog 185 11 := ⟨Try.isAgg185, Try.sizeOf185⟩
instance : FieldT Try.prog 185 0 0 := ⟨fun b o w => by simp [Instr.fieldAt, Try.runUnderlying185, Instr.sureAddr, fieldPlace, Try.sizeOf12, Addr.add_lit], fun cs v w h => by simp [Instr.field, Try.runUnderlying185, asAgg, part, Try.isAgg12, h]⟩
instance : FieldT Try.prog 185 1 1 := ⟨fun b o w => by simp [Instr.fieldAt, Try.runUnderlying185, Instr.sureAddr, fieldPlace, Try.sizeOf12, Addr.add_lit], fun cs v w h => by simp [Instr.field, Try.runUnderlying185, asAgg, part, Try.isAgg12, h]⟩
instance : FieldT Try.prog 185 2 2 := ⟨fun b o w => by simp [Instr.fieldAt, Try.runUnderlying185, Instr.sureAddr, fieldPlace, Try.sizeOf169, Addr.add_lit], fun cs v w h => by simp [Instr.field, Try.runUnderlying185, asAgg, part, Try.isAgg169, h]⟩
instance : FieldT Try.prog 185 3 3 := ⟨fun b o w => by simp [Instr.fieldAt, Try.runUnderlying185, Instr.sureAddr, fieldPlace, Try.sizeOf179, Addr.add_lit], fun cs v w h => by simp [Instr.field, Try.runUnderlying185, asAgg, part, Try.isAgg179, h]⟩
instance : FieldT Try.prog 185 4 4 := ⟨fun b o w => by simp [Instr.fieldAt, Try.runUnderlying185, Instr.sureAddr, fieldPlace, Try.sizeOf5, Addr.add_lit], fun cs v w h => by simp [Instr.field, Try.runUnderlying185, asAgg, part, Try.isAgg5, h]⟩
instance : FieldT Try.prog 185 5 5 := ⟨fun b o w => by simp [Instr.fieldAt, Try.runUnderlying185, Instr.sureAddr, fieldPlace, Try.sizeOf5, Addr.add_lit], fun cs v w h => by simp [Instr.field, Try.runUnderlying185, asAgg, part, Try.isAgg5, h]⟩
instance : FieldT Try.prog 185 6 6 := ⟨fun b o w => by simp [Instr.fieldAt, Try.runUnderlying185, Instr.sureAddr, fieldPlace, Try.sizeOf180, Addr.add_lit], fun cs v w h => by simp [Instr.field, Try.runUnderlying185, asAgg, part, Try.isAgg180, h]⟩
instance : FieldT Try.prog 185 7 7 := ⟨fun b o w => by simp [Instr.fieldAt, Try.runUnderlying185, Instr.sureAddr, fieldPlace, Try.sizeOf181, Addr.add_lit], fun cs v w h => by simp [Instr.field, Try.runUnderlying185, asAgg, part, Try.isAgg181, h]⟩
instance : FieldT Try.prog 185 8 8 := ⟨fun b o w => by simp [Instr.fieldAt, Try.runUnderlying185, Instr.sureAddr, fieldPlace, Try.sizeOf182, Addr.add_lit], fun cs v w h => by simp [Instr.field, Try.runUnderlying185, asAgg, part, Try.isAgg182, h]⟩
instance : FieldT Try.prog 185 9 9 := ⟨fun b o w => by simp [Instr.fieldAt, Try.runUnderlying185, Instr.sureAddr, fieldPlace, Try.sizeOf183, Addr.add_lit], fun cs v w h => by simp [Instr.field, Try.runUnderlying185, asAgg, part, Try.isAgg183, h]⟩
instance : FieldT Try.prog 185 10 10 := ⟨fun b o w => by simp [Instr.fieldAt, Try.runUnderlying185, Instr.sureAddr, fieldPlace, Try.sizeOf184, Addr.add_lit], fun cs v w h => by simp [Instr.field, Try.runUnderlying185, asAgg, part, Try.isAgg184, h]⟩
instance : ZeroT Try.prog 185 [.int .u64 0, .int .u64 0, .int .u32 0, .int .u8 0, .int .u8 0, .int .u8 0, .int .u8 0, .nilFunc, .pointer none, .int .i32 0, .int .i32 0] := ⟨_, Try.zeroValue185, rfl⟩
instance : AggT Try.prog 186 11 := ⟨Try.isAgg186, Try.sizeOf186⟩
instance : FieldT Try.prog 186 0 0 := ⟨fun b o w => by simp [Instr.fieldAt, Try.runUnderlying186, Instr.sureAddr, fieldPlace, Try.sizeOf12, Addr.add_lit], fun cs v w h => by simp [Instr.field, Try.runUnderlying186, asAgg, part, Try.isAgg12, h]⟩
instance : FieldT Try.prog 186 1 1 := ⟨fun b o w => by simp [Instr.fieldAt, Try.runUnderlying186, Instr.sureAddr, fieldPlace, Try.sizeOf12, Addr.add_lit], fun cs v w h => by simp [Instr.field, Try.runUnderlying186, asAgg, part, Try.isAgg12, h]⟩
instance : FieldT Try.prog 186 2 2 := ⟨fun b o w => by simp [Instr.fieldAt, Try.runUnderlying186, Instr.sureAddr, fieldPlace, Try.sizeOf169, Addr.add_lit], fun cs v w h => by simp [Instr.field, Try.runUnderlying186, asAgg, part, Try.isAgg169, h]⟩
instance : FieldT Try.prog 186 3 3 := ⟨fun b o w => by simp [Instr.fieldAt, Try.runUnderlying186, Instr.sureAddr, fieldPlace, Try.sizeOf179, Addr.add_lit], fun cs v w h => by simp [Instr.field, Try.runUnderlying186, asAgg, part, Try.isAgg179, h]⟩
instance : FieldT Try.prog 186 4 4 := ⟨fun b o w => by simp [Instr.fieldAt, Try.runUnderlying186, Instr.sureAddr, fieldPlace, Try.sizeOf5, Addr.add_lit], fun cs v w h => by simp [Instr.field, Try.runUnderlying186, asAgg, part, Try.isAgg5, h]⟩
instance : FieldT Try.prog 186 5 5 := ⟨fun b o w => by simp [Instr.fieldAt, Try.runUnderlying186, Instr.sureAddr, fieldPlace, Try.sizeOf5, Addr.add_lit], fun cs v w h => by simp [Instr.field, Try.runUnderlying186, asAgg, part, Try.isAgg5, h]⟩
instance : FieldT Try.prog 186 6 6 := ⟨fun b o w => by simp [Instr.fieldAt, Try.runUnderlying186, Instr.sureAddr, fieldPlace, Try.sizeOf180, Addr.add_lit], fun cs v w h => by simp [Instr.field, Try.runUnderlying186, asAgg, part, Try.isAgg180, h]⟩
instance : FieldT Try.prog 186 7 7 := ⟨fun b o w => by simp [Instr.fieldAt, Try.runUnderlying186, Instr.sureAddr, fieldPlace, Try.sizeOf181, Addr.add_lit], fun cs v w h => by simp [Instr.field, Try.runUnderlying186, asAgg, part, Try.isAgg181, h]⟩
instance : FieldT Try.prog 186 8 8 := ⟨fun b o w => by simp [Instr.fieldAt, Try.runUnderlying186, Instr.sureAddr, fieldPlace, Try.sizeOf182, Addr.add_lit], fun cs v w h => by simp [Instr.field, Try.runUnderlying186, asAgg, part, Try.isAgg182, h]⟩
instance : FieldT Try.prog 186 9 9 := ⟨fun b o w => by simp [Instr.fieldAt, Try.runUnderlying186, Instr.sureAddr, fieldPlace, Try.sizeOf183, Addr.add_lit], fun cs v w h => by simp [Instr.field, Try.runUnderlying186, asAgg, part, Try.isAgg183, h]⟩
instance : FieldT Try.prog 186 10 10 := ⟨fun b o w => by simp [Instr.fieldAt, Try.runUnderlying186, Instr.sureAddr, fieldPlace, Try.sizeOf184, Addr.add_lit], fun cs v w h => by simp [Instr.field, Try.runUnderlying186, asAgg, part, Try.isAgg184, h]⟩
instance : ZeroT Try.prog 186 [.int .u64 0, .int .u64 0, .int .u32 0, .int .u8 0, .int .u8 0, .int .u8 0, .int .u8 0, .nilFunc, .pointer none, .int .i32 0, .int .i32 0] := ⟨_, Try.zeroValue186, rfl⟩
instance : ScaT Try.prog 187 := ⟨Try.isAgg187, Try.sizeOf187⟩
instance : ZeroT Try.prog 187 [.pointer none] := ⟨_, Try.zeroValue187, rfl⟩
instance : FnT Try.prog 2 := ⟨Try.call2⟩
instance : FnT Try.prog 3 := ⟨Try.call3⟩
instance : FnT Try.prog 4 := ⟨Try.call4⟩
instance : FnT Try.prog 5 := ⟨Try.call5⟩
instance : FnT Try.prog 6 := ⟨Try.call6⟩
instance : FnT Try.prog 7 := ⟨Try.call7⟩
instance : FnT Try.prog 8 := ⟨Try.call8⟩
instance : FnT Try.prog 9 := ⟨Try.call9⟩
instance : FnT Try.prog 10 := ⟨Try.call10⟩
instance : FnT Try.prog 11 := ⟨Try.call11⟩
instance : FnT Try.prog 12 := ⟨Try.call12⟩
instance : FnT Try.prog 13 := ⟨Try.call13⟩
instance : FnT Try.prog 14 := ⟨Try.call14⟩
instance : FnT Try.prog 15 := ⟨Try.call15⟩
instance : FnT Try.prog 16 := ⟨Try.call16⟩
instance : FnT Try.prog 17 := ⟨Try.call17⟩
instance : FnT Try.prog 18 := ⟨Try.call18⟩
instance : FnT Try.prog 19 := ⟨Try.call19⟩
instance : FnT Try.prog 20 := ⟨Try.call20⟩
instance : FnT Try.prog 21 := ⟨Try.call21⟩
instance : FnT Try.prog 22 := ⟨Try.call22⟩
instance : FnT Try.prog 23 := ⟨Try.call23⟩
instance : FnT Try.prog 24 := ⟨Try.call24⟩
instance : FnT Try.prog 25 := ⟨Try.call25⟩
instance : FnT Try.prog 26 := ⟨Try.call26⟩
instance : FnT Try.prog 27 := ⟨Try.call27⟩
instance : FnT Try.prog 28 := ⟨Try.call28⟩
instance : FnT Try.prog 29 := ⟨Try.call29⟩
instance : FnT Try.prog 30 := ⟨Try.call30⟩
instance : FnT Try.prog 31 := ⟨Try.call31⟩
instance : FnT Try.prog 32 := ⟨Try.call32⟩
instance : FnT Try.prog 33 := ⟨Try.call33⟩
instance : FnT Try.prog 34 := ⟨Try.call34⟩
instance : FnT Try.prog 35 := ⟨Try.call35⟩
instance : FnT Try.prog 36 := ⟨Try.call36⟩
instance : FnT Try.prog 37 := ⟨Try.call37⟩
instance : FnT Try.prog 38 := ⟨Try.call38⟩
instance : FnT Try.prog 39 := ⟨Try.call39⟩
instance : FnT Try.prog 40 := ⟨Try.call40⟩
instance : FnT Try.prog 41 := ⟨Try.call41⟩
instance : FnT Try.prog 42 := ⟨Try.call42⟩
instance : FnT Try.prog 43 := ⟨Try.call43⟩
instance : FnT Try.prog 44 := ⟨Try.call44⟩
instance : FnT Try.prog 45 := ⟨Try.call45⟩
instance : FnT Try.prog 46 := ⟨Try.call46⟩
instance : FnT Try.prog 47 := ⟨Try.call47⟩
instance : FnT Try.prog 48 := ⟨Try.call48⟩
instance : FnT Try.prog 49 := ⟨Try.call49⟩
instance : FnT Try.prog 50 := ⟨Try.call50⟩
instance : FnT Try.prog 51 := ⟨Try.call51⟩
instance : FnT Try.prog 52 := ⟨Try.call52⟩
instance : FnT Try.prog 53 := ⟨Try.call53⟩
instance : FnT Try.prog 54 := ⟨Try.call54⟩
instance : FnT Try.prog 55 := ⟨Try.call55⟩
instance : FnT Try.prog 56 := ⟨Try.call56⟩
instance : FnT Try.prog 57 := ⟨Try.call57⟩
instance : FnT Try.prog 58 := ⟨Try.call58⟩
instance : FnT Try.prog 59 := ⟨Try.call59⟩
instance : FnT Try.prog 60 := ⟨Try.call60⟩
instance : FnT Try.prog 61 := ⟨Try.call61⟩
instance : FnT Try.prog 62 := ⟨Try.call62⟩
instance : FnT Try.prog 63 := ⟨Try.call63⟩
instance : FnT Try.prog 64 := ⟨Try.call64⟩
instance : FnT Try.prog 65 := ⟨Try.call65⟩
instance : FnT Try.prog 66 := ⟨Try.call66⟩
instance : FnT Try.prog 67 := ⟨Try.call67⟩
instance : FnT Try.prog 68 := ⟨Try.call68⟩
instance : FnT Try.prog 69 := ⟨Try.call69⟩
instance : FnT Try.prog 70 := ⟨Try.call70⟩
instance : FnT Try.prog 71 := ⟨Try.call71⟩
instance : FnT Try.prog 72 := ⟨Try.call72⟩
instance : FnT Try.prog 73 := ⟨Try.call73⟩
instance : FnT Try.prog 74 := ⟨Try.call74⟩
instance : FnT Try.prog 75 := ⟨Try.call75⟩
instance : FnT Try.prog 76 := ⟨Try.call76⟩
instance : FnT Try.prog 77 := ⟨Try.call77⟩
instance : FnT Try.prog 78 := ⟨Try.call78⟩
instance : FnT Try.prog 79 := ⟨Try.call79⟩
instance : FnT Try.prog 80 := ⟨Try.call80⟩
instance : FnT Try.prog 81 := ⟨Try.call81⟩
instance : FnT Try.prog 82 := ⟨Try.call82⟩
instance : FnT Try.prog 83 := ⟨Try.call83⟩
instance : FnT Try.prog 84 := ⟨Try.call84⟩
instance : FnT Try.prog 85 := ⟨Try.call85⟩
instance : FnT Try.prog 86 := ⟨Try.call86⟩
instance : FnT Try.prog 87 := ⟨Try.call87⟩
instance : FnT Try.prog 88 := ⟨Try.call88⟩
instance : FnT Try.prog 89 := ⟨Try.call89⟩
instance : FnT Try.prog 90 := ⟨Try.call90⟩
instance : FnT Try.prog 91 := ⟨Try.call91⟩
instance : FnT Try.prog 92 := ⟨Try.call92⟩
instance : FnT Try.prog 93 := ⟨Try.call93⟩
instance : FnT Try.prog 94 := ⟨Try.call94⟩
instance : FnT Try.prog 95 := ⟨Try.call95⟩
instance : FnT Try.prog 96 := ⟨Try.call96⟩
instance : FnT Try.prog 97 := ⟨Try.call97⟩
instance : FnT Try.prog 98 := ⟨Try.call98⟩
instance : FnT Try.prog 99 := ⟨Try.call99⟩
instance : FnT Try.prog 100 := ⟨Try.call100⟩
instance : FnT Try.prog 101 := ⟨Try.call101⟩
instance : FnT Try.prog 102 := ⟨Try.call102⟩
instance : FnT Try.prog 103 := ⟨Try.call103⟩
instance : FnT Try.prog 104 := ⟨Try.call104⟩
instance : FnT Try.prog 105 := ⟨Try.call105⟩
instance : FnT Try.prog 106 := ⟨Try.call106⟩
instance : FnT Try.prog 107 := ⟨Try.call107⟩
instance : FnT Try.prog 108 := ⟨Try.call108⟩
instance : FnT Try.prog 109 := ⟨Try.call109⟩
instance : FnT Try.prog 110 := ⟨Try.call110⟩
instance : FnT Try.prog 111 := ⟨Try.call111⟩
instance : FnT Try.prog 112 := ⟨Try.call112⟩
instance : FnT Try.prog 113 := ⟨Try.call113⟩
instance : FnT Try.prog 114 := ⟨Try.call114⟩
instance : FnT Try.prog 115 := ⟨Try.call115⟩
instance : FnT Try.prog 116 := ⟨Try.call116⟩
instance : FnT Try.prog 117 := ⟨Try.call117⟩
instance : FnT Try.prog 118 := ⟨Try.call118⟩
instance : FnT Try.prog 119 := ⟨Try.call119⟩
instance : FnT Try.prog 120 := ⟨Try.call120⟩
instance : FnT Try.prog 121 := ⟨Try.call121⟩
instance : FnT Try.prog 122 := ⟨Try.call122⟩
instance : FnT Try.prog 123 := ⟨Try.call123⟩
instance : FnT Try.prog 124 := ⟨Try.call124⟩
instance : FnT Try.prog 125 := ⟨Try.call125⟩
instance : FnT Try.prog 126 := ⟨Try.call126⟩
instance : FnT Try.prog 127 := ⟨Try.call127⟩
instance : FnT Try.prog 128 := ⟨Try.call128⟩
instance : FnT Try.prog 129 := ⟨Try.call129⟩
instance : FnT Try.prog 130 := ⟨Try.call130⟩
instance : FnT Try.prog 131 := ⟨Try.call131⟩
instance : FnT Try.prog 132 := ⟨Try.call132⟩
instance : FnT Try.prog 133 := ⟨Try.call133⟩
instance : FnT Try.prog 134 := ⟨Try.call134⟩
instance : FnT Try.prog 135 := ⟨Try.call135⟩
instance : FnT Try.prog 136 := ⟨Try.call136⟩
instance : FnT Try.prog 137 := ⟨Try.call137⟩
instance : FnT Try.prog 138 := ⟨Try.call138⟩
instance : FnT Try.prog 139 := ⟨Try.call139⟩
instance : FnT Try.prog 140 := ⟨Try.call140⟩
instance : FnT Try.prog 141 := ⟨Try.call141⟩
instance : FnT Try.prog 142 := ⟨Try.call142⟩
instance : FnT Try.prog 143 := ⟨Try.call143⟩
instance : FnT Try.prog 144 := ⟨Try.call144⟩
instance : FnT Try.prog 145 := ⟨Try.call145⟩
instance : FnT Try.prog 146 := ⟨Try.call146⟩
instance : FnT Try.prog 147 := ⟨Try.call147⟩
instance : FnT Try.prog 148 := ⟨Try.call148⟩
instance : FnT Try.prog 149 := ⟨Try.call149⟩
instance : FnT Try.prog 150 := ⟨Try.call150⟩
instance : FnT Try.prog 151 := ⟨Try.call151⟩
instance : FnT Try.prog 152 := ⟨Try.call152⟩
instance : FnT Try.prog 153 := ⟨Try.call153⟩
instance : FnT Try.prog 154 := ⟨Try.call154⟩
instance : FnT Try.prog 155 := ⟨Try.call155⟩
instance : FnT Try.prog 156 := ⟨Try.call156⟩
instance : FnT Try.prog 157 := ⟨Try.call157⟩
instance : FnT Try.prog 158 := ⟨Try.call158⟩
instance : FnT Try.prog 159 := ⟨Try.call159⟩
instance : FnT Try.prog 160 := ⟨Try.call160⟩
instance : FnT Try.prog 161 := ⟨Try.call161⟩
instance : FnT Try.prog 162 := ⟨Try.call162⟩
instance : FnT Try.prog 163 := ⟨Try.call163⟩
instance : FnT Try.prog 164 := ⟨Try.call164⟩
instance : FnT Try.prog 165 := ⟨Try.call165⟩
instance : FnT Try.prog 166 := ⟨Try.call166⟩
instance : FnT Try.prog 167 := ⟨Try.call167⟩
instance : FnT Try.prog 168 := ⟨Try.call168⟩
instance : FnT Try.prog 169 := ⟨Try.call169⟩
instance : FnT Try.prog 170 := ⟨Try.call170⟩
instance : FnT Try.prog 171 := ⟨Try.call171⟩
instance : FnT Try.prog 172 := ⟨Try.call172⟩
instance : FnT Try.prog 173 := ⟨Try.call173⟩
instance : FnT Try.prog 174 := ⟨Try.call174⟩
instance : FnT Try.prog 175 := ⟨Try.call175⟩
instance : FnT Try.prog 176 := ⟨Try.call176⟩
instance : FnT Try.prog 177 := ⟨Try.call177⟩
instance : FnT Try.prog 178 := ⟨Try.call178⟩
instance : FnT Try.prog 179 := ⟨Try.call179⟩
instance : FnT Try.prog 180 := ⟨Try.call180⟩
instance : FnT Try.prog 181 := ⟨Try.call181⟩
instance : FnT Try.prog 182 := ⟨Try.call182⟩
instance : FnT Try.prog 183 := ⟨Try.call183⟩
instance : FnT Try.prog 184 := ⟨Try.call184⟩
instance : FnT Try.prog 185 := ⟨Try.call185⟩
instance : FnT Try.prog 186 := ⟨Try.call186⟩
instance : FnT Try.prog 187 := ⟨Try.call187⟩
instance : FnT Try.prog 188 := ⟨Try.call188⟩
instance : FnT Try.prog 189 := ⟨Try.call189⟩
instance : FnT Try.prog 191 := ⟨Try.call191⟩
instance : FnT Try.prog 192 := ⟨Try.call192⟩
instance : FnT Try.prog 193 := ⟨Try.call193⟩
instance : FnT Try.prog 194 := ⟨Try.call194⟩
end Go.Proofs.Ytefnlalldgbcaaa
