/-
  Facts of the types and functions of this seat, as instances (written by wip/gen_types.py).
-/
import Derived.Test.YtclgplbikjmopaaGreatDoorChecked
import Derived.Test.YtclgplbikjmopaaGreatDoorRules
namespace Go.Proofs.YtclgplbikjmopaaGreatDoor
instance : ScaT Tryz.prog 1 := ⟨Tryz.isAgg1, Tryz.sizeOf1⟩
instance : ZeroT Tryz.prog 1 [.nilFunc] := ⟨_, Tryz.zeroValue1, rfl⟩
instance : ScaT Tryz.prog 2 := ⟨Tryz.isAgg2, Tryz.sizeOf2⟩
instance : IntT Tryz.prog 2 .i64 := ⟨Tryz.underlying2⟩
instance : ZeroT Tryz.prog 2 [.int .i64 0] := ⟨_, Tryz.zeroValue2, rfl⟩
theorem einfo2 : Tryz.prog.info? 2 = some Tryz.t2 := by kernel_rfl
instance : ElemT Tryz.prog 2 1 8 [.int .i64 0] := ⟨_, _, einfo2, rfl, rfl, rfl, rfl, rfl, by decide⟩
instance : ScaT Tryz.prog 3 := ⟨Tryz.isAgg3, Tryz.sizeOf3⟩
instance : IntT Tryz.prog 3 .i64 := ⟨Tryz.underlying3⟩
instance : ZeroT Tryz.prog 3 [.int .i64 0] := ⟨_, Tryz.zeroValue3, rfl⟩
instance : ScaT Tryz.prog 4 := ⟨Tryz.isAgg4, Tryz.sizeOf4⟩
instance : BoolT Tryz.prog 4 := ⟨Tryz.underlying4⟩
instance : ZeroT Tryz.prog 4 [.bool false] := ⟨_, Tryz.zeroValue4, rfl⟩
instance : ScaT Tryz.prog 5 := ⟨Tryz.isAgg5, Tryz.sizeOf5⟩
instance : IntT Tryz.prog 5 .u8 := ⟨Tryz.underlying5⟩
instance : ZeroT Tryz.prog 5 [.int .u8 0] := ⟨_, Tryz.zeroValue5, rfl⟩
theorem einfo5 : Tryz.prog.info? 5 = some Tryz.t5 := by kernel_rfl
instance : ElemT Tryz.prog 5 1 1 [.int .u8 0] := ⟨_, _, einfo5, rfl, rfl, rfl, rfl, rfl, by decide⟩
instance : ScaT Tryz.prog 6 := ⟨Tryz.isAgg6, Tryz.sizeOf6⟩
instance : IntT Tryz.prog 6 .u8 := ⟨Tryz.underlying6⟩
instance : ZeroT Tryz.prog 6 [.int .u8 0] := ⟨_, Tryz.zeroValue6, rfl⟩
instance : AggT Tryz.prog 7 4 := ⟨Tryz.isAgg7, Tryz.sizeOf7⟩
instance : FieldT Tryz.prog 7 0 0 := ⟨fun b o w => by simp [Instr.fieldAt, Tryz.runUnderlying7, Instr.sureAddr, fieldPlace, Tryz.sizeOf2, Addr.add_lit], fun cs v w h => by simp [Instr.field, Tryz.runUnderlying7, asAgg, part, Tryz.isAgg2, h]⟩
instance : FieldT Tryz.prog 7 1 1 := ⟨fun b o w => by simp [Instr.fieldAt, Tryz.runUnderlying7, Instr.sureAddr, fieldPlace, Tryz.sizeOf3, Addr.add_lit], fun cs v w h => by simp [Instr.field, Tryz.runUnderlying7, asAgg, part, Tryz.isAgg3, h]⟩
instance : FieldT Tryz.prog 7 2 2 := ⟨fun b o w => by simp [Instr.fieldAt, Tryz.runUnderlying7, Instr.sureAddr, fieldPlace, Tryz.sizeOf4, Addr.add_lit], fun cs v w h => by simp [Instr.field, Tryz.runUnderlying7, asAgg, part, Tryz.isAgg4, h]⟩
instance : FieldT Tryz.prog 7 3 3 := ⟨fun b o w => by simp [Instr.fieldAt, Tryz.runUnderlying7, Instr.sureAddr, fieldPlace, Tryz.sizeOf6, Addr.add_lit], fun cs v w h => by simp [Instr.field, Tryz.runUnderlying7, asAgg, part, Tryz.isAgg6, h]⟩
instance : ZeroT Tryz.prog 7 [.int .i64 0, .int .i64 0, .bool false, .int .u8 0] := ⟨_, Tryz.zeroValue7, rfl⟩
instance : AggT Tryz.prog 8 4 := ⟨Tryz.isAgg8, Tryz.sizeOf8⟩
instance : FieldT Tryz.prog 8 0 0 := ⟨fun b o w => by simp [Instr.fieldAt, Tryz.runUnderlying8, Instr.sureAddr, fieldPlace, Tryz.sizeOf2, Addr.add_lit], fun cs v w h => by simp [Instr.field, Tryz.runUnderlying8, asAgg, part, Tryz.isAgg2, h]⟩
instance : FieldT Tryz.prog 8 1 1 := ⟨fun b o w => by simp [Instr.fieldAt, Tryz.runUnderlying8, Instr.sureAddr, fieldPlace, Tryz.sizeOf3, Addr.add_lit], fun cs v w h => by simp [Instr.field, Tryz.runUnderlying8, asAgg, part, Tryz.isAgg3, h]⟩
instance : FieldT Tryz.prog 8 2 2 := ⟨fun b o w => by simp [Instr.fieldAt, Tryz.runUnderlying8, Instr.sureAddr, fieldPlace, Tryz.sizeOf4, Addr.add_lit], fun cs v w h => by simp [Instr.field, Tryz.runUnderlying8, asAgg, part, Tryz.isAgg4, h]⟩
instance : FieldT Tryz.prog 8 3 3 := ⟨fun b o w => by simp [Instr.fieldAt, Tryz.runUnderlying8, Instr.sureAddr, fieldPlace, Tryz.sizeOf6, Addr.add_lit], fun cs v w h => by simp [Instr.field, Tryz.runUnderlying8, asAgg, part, Tryz.isAgg6, h]⟩
instance : ZeroT Tryz.prog 8 [.int .i64 0, .int .i64 0, .bool false, .int .u8 0] := ⟨_, Tryz.zeroValue8, rfl⟩
instance : ScaT Tryz.prog 9 := ⟨Tryz.isAgg9, Tryz.sizeOf9⟩
instance : ZeroT Tryz.prog 9 [.string ByteArray.empty] := ⟨_, Tryz.zeroValue9, rfl⟩
theorem einfo9 : Tryz.prog.info? 9 = some Tryz.t9 := by kernel_rfl
instance : ElemT Tryz.prog 9 1 16 [.string ByteArray.empty] := ⟨_, _, einfo9, rfl, rfl, rfl, rfl, rfl, by decide⟩
instance : ScaT Tryz.prog 10 := ⟨Tryz.isAgg10, Tryz.sizeOf10⟩
instance : ZeroT Tryz.prog 10 [.string ByteArray.empty] := ⟨_, Tryz.zeroValue10, rfl⟩
instance : ScaT Tryz.prog 11 := ⟨Tryz.isAgg11, Tryz.sizeOf11⟩
instance : ZeroT Tryz.prog 11 [.string ByteArray.empty] := ⟨_, Tryz.zeroValue11, rfl⟩
instance : ScaT Tryz.prog 12 := ⟨Tryz.isAgg12, Tryz.sizeOf12⟩
instance : IntT Tryz.prog 12 .u64 := ⟨Tryz.underlying12⟩
instance : ZeroT Tryz.prog 12 [.int .u64 0] := ⟨_, Tryz.zeroValue12, rfl⟩
instance : AggT Tryz.prog 13 2 := ⟨Tryz.isAgg13, Tryz.sizeOf13⟩
instance : FieldT Tryz.prog 13 0 0 := ⟨fun b o w => by simp [Instr.fieldAt, Tryz.runUnderlying13, Instr.sureAddr, fieldPlace, Tryz.sizeOf9, Addr.add_lit], fun cs v w h => by simp [Instr.field, Tryz.runUnderlying13, asAgg, part, Tryz.isAgg9, h]⟩
instance : FieldT Tryz.prog 13 1 1 := ⟨fun b o w => by simp [Instr.fieldAt, Tryz.runUnderlying13, Instr.sureAddr, fieldPlace, Tryz.sizeOf12, Addr.add_lit], fun cs v w h => by simp [Instr.field, Tryz.runUnderlying13, asAgg, part, Tryz.isAgg12, h]⟩
instance : ZeroT Tryz.prog 13 [.string ByteArray.empty, .int .u64 0] := ⟨_, Tryz.zeroValue13, rfl⟩
instance : AggT Tryz.prog 14 2 := ⟨Tryz.isAgg14, Tryz.sizeOf14⟩
instance : FieldT Tryz.prog 14 0 0 := ⟨fun b o w => by simp [Instr.fieldAt, Tryz.runUnderlying14, Instr.sureAddr, fieldPlace, Tryz.sizeOf9, Addr.add_lit], fun cs v w h => by simp [Instr.field, Tryz.runUnderlying14, asAgg, part, Tryz.isAgg9, h]⟩
instance : FieldT Tryz.prog 14 1 1 := ⟨fun b o w => by simp [Instr.fieldAt, Tryz.runUnderlying14, Instr.sureAddr, fieldPlace, Tryz.sizeOf12, Addr.add_lit], fun cs v w h => by simp [Instr.field, Tryz.runUnderlying14, asAgg, part, Tryz.isAgg12, h]⟩
instance : ZeroT Tryz.prog 14 [.string ByteArray.empty, .int .u64 0] := ⟨_, Tryz.zeroValue14, rfl⟩
instance : ScaT Tryz.prog 15 := ⟨Tryz.isAgg15, Tryz.sizeOf15⟩
instance : ZeroT Tryz.prog 15 [.pointer none] := ⟨_, Tryz.zeroValue15, rfl⟩
instance : ScaT Tryz.prog 16 := ⟨Tryz.isAgg16, Tryz.sizeOf16⟩
instance : ZeroT Tryz.prog 16 [.pointer none] := ⟨_, Tryz.zeroValue16, rfl⟩
instance : ScaT Tryz.prog 17 := ⟨Tryz.isAgg17, Tryz.sizeOf17⟩
instance : ZeroT Tryz.prog 17 [.pointer none] := ⟨_, Tryz.zeroValue17, rfl⟩
instance : AggT Tryz.prog 18 1 := ⟨Tryz.isAgg18, Tryz.sizeOf18⟩
instance : FieldT Tryz.prog 18 0 0 := ⟨fun b o w => by simp [Instr.fieldAt, Tryz.runUnderlying18, Instr.sureAddr, fieldPlace, Tryz.sizeOf17, Addr.add_lit], fun cs v w h => by simp [Instr.field, Tryz.runUnderlying18, asAgg, part, Tryz.isAgg17, h]⟩
instance : ZeroT Tryz.prog 18 [.pointer none] := ⟨_, Tryz.zeroValue18, rfl⟩
instance : AggT Tryz.prog 19 1 := ⟨Tryz.isAgg19, Tryz.sizeOf19⟩
instance : FieldT Tryz.prog 19 0 0 := ⟨fun b o w => by simp [Instr.fieldAt, Tryz.runUnderlying19, Instr.sureAddr, fieldPlace, Tryz.sizeOf17, Addr.add_lit], fun cs v w h => by simp [Instr.field, Tryz.runUnderlying19, asAgg, part, Tryz.isAgg17, h]⟩
instance : ZeroT Tryz.prog 19 [.pointer none] := ⟨_, Tryz.zeroValue19, rfl⟩
instance : ScaT Tryz.prog 21 := ⟨Tryz.isAgg21, Tryz.sizeOf21⟩
instance : IntT Tryz.prog 21 .i32 := ⟨Tryz.underlying21⟩
instance : ZeroT Tryz.prog 21 [.int .i32 0] := ⟨_, Tryz.zeroValue21, rfl⟩
instance : ScaT Tryz.prog 22 := ⟨Tryz.isAgg22, Tryz.sizeOf22⟩
instance : SliceT Tryz.prog 22 5 := ⟨Tryz.underlying22⟩
instance : ZeroT Tryz.prog 22 [.slice none 0 0] := ⟨_, Tryz.zeroValue22, rfl⟩
instance : ScaT Tryz.prog 23 := ⟨Tryz.isAgg23, Tryz.sizeOf23⟩
instance : ZeroT Tryz.prog 23 [.nilFunc] := ⟨_, Tryz.zeroValue23, rfl⟩
instance : ScaT Tryz.prog 24 := ⟨Tryz.isAgg24, Tryz.sizeOf24⟩
instance : FloatT Tryz.prog 24 .f32 := ⟨Tryz.underlying24⟩
instance : ZeroT Tryz.prog 24 [.float .f32 0] := ⟨_, Tryz.zeroValue24, rfl⟩
theorem einfo24 : Tryz.prog.info? 24 = some Tryz.t24 := by kernel_rfl
instance : ElemT Tryz.prog 24 1 4 [.float .f32 0] := ⟨_, _, einfo24, rfl, rfl, rfl, rfl, rfl, by decide⟩
instance : ScaT Tryz.prog 25 := ⟨Tryz.isAgg25, Tryz.sizeOf25⟩
instance : ZeroT Tryz.prog 25 [.nilFunc] := ⟨_, Tryz.zeroValue25, rfl⟩
instance : ScaT Tryz.prog 27 := ⟨Tryz.isAgg27, Tryz.sizeOf27⟩
instance : ZeroT Tryz.prog 27 [.nilFunc] := ⟨_, Tryz.zeroValue27, rfl⟩
instance : ScaT Tryz.prog 28 := ⟨Tryz.isAgg28, Tryz.sizeOf28⟩
instance : ZeroT Tryz.prog 28 [.nilFunc] := ⟨_, Tryz.zeroValue28, rfl⟩
instance : ScaT Tryz.prog 29 := ⟨Tryz.isAgg29, Tryz.sizeOf29⟩
instance : ZeroT Tryz.prog 29 [.nilFunc] := ⟨_, Tryz.zeroValue29, rfl⟩
instance : ScaT Tryz.prog 30 := ⟨Tryz.isAgg30, Tryz.sizeOf30⟩
instance : SliceT Tryz.prog 30 24 := ⟨Tryz.underlying30⟩
instance : ZeroT Tryz.prog 30 [.slice none 0 0] := ⟨_, Tryz.zeroValue30, rfl⟩
instance : ScaT Tryz.prog 31 := ⟨Tryz.isAgg31, Tryz.sizeOf31⟩
instance : ZeroT Tryz.prog 31 [.nilFunc] := ⟨_, Tryz.zeroValue31, rfl⟩
instance : ScaT Tryz.prog 32 := ⟨Tryz.isAgg32, Tryz.sizeOf32⟩
instance : ZeroT Tryz.prog 32 [.nilFunc] := ⟨_, Tryz.zeroValue32, rfl⟩
instance : ScaT Tryz.prog 33 := ⟨Tryz.isAgg33, Tryz.sizeOf33⟩
instance : ZeroT Tryz.prog 33 [.nilFunc] := ⟨_, Tryz.zeroValue33, rfl⟩
instance : ScaT Tryz.prog 35 := ⟨Tryz.isAgg35, Tryz.sizeOf35⟩
instance : ZeroT Tryz.prog 35 [.nilFunc] := ⟨_, Tryz.zeroValue35, rfl⟩
instance : ScaT Tryz.prog 37 := ⟨Tryz.isAgg37, Tryz.sizeOf37⟩
instance : ZeroT Tryz.prog 37 [.nilFunc] := ⟨_, Tryz.zeroValue37, rfl⟩
instance : ScaT Tryz.prog 38 := ⟨Tryz.isAgg38, Tryz.sizeOf38⟩
instance : ZeroT Tryz.prog 38 [.nilFunc] := ⟨_, Tryz.zeroValue38, rfl⟩
instance : ScaT Tryz.prog 39 := ⟨Tryz.isAgg39, Tryz.sizeOf39⟩
instance : ZeroT Tryz.prog 39 [.nilFunc] := ⟨_, Tryz.zeroValue39, rfl⟩
instance : ScaT Tryz.prog 40 := ⟨Tryz.isAgg40, Tryz.sizeOf40⟩
instance : ZeroT Tryz.prog 40 [.nilFunc] := ⟨_, Tryz.zeroValue40, rfl⟩
instance : ScaT Tryz.prog 41 := ⟨Tryz.isAgg41, Tryz.sizeOf41⟩
instance : ZeroT Tryz.prog 41 [.nilFunc] := ⟨_, Tryz.zeroValue41, rfl⟩
instance : ScaT Tryz.prog 42 := ⟨Tryz.isAgg42, Tryz.sizeOf42⟩
instance : CplxT Tryz.prog 42 .f32 := ⟨Tryz.underlying42⟩
instance : ZeroT Tryz.prog 42 [.complex .f32 0 0] := ⟨_, Tryz.zeroValue42, rfl⟩
instance : ScaT Tryz.prog 43 := ⟨Tryz.isAgg43, Tryz.sizeOf43⟩
instance : ZeroT Tryz.prog 43 [.nilFunc] := ⟨_, Tryz.zeroValue43, rfl⟩
instance : ScaT Tryz.prog 44 := ⟨Tryz.isAgg44, Tryz.sizeOf44⟩
instance : FloatT Tryz.prog 44 .f64 := ⟨Tryz.underlying44⟩
instance : ZeroT Tryz.prog 44 [.float .f64 0] := ⟨_, Tryz.zeroValue44, rfl⟩
instance : ScaT Tryz.prog 45 := ⟨Tryz.isAgg45, Tryz.sizeOf45⟩
instance : ZeroT Tryz.prog 45 [.pointer none] := ⟨_, Tryz.zeroValue45, rfl⟩
instance : ScaT Tryz.prog 46 := ⟨Tryz.isAgg46, Tryz.sizeOf46⟩
instance : ZeroT Tryz.prog 46 [.nilFunc] := ⟨_, Tryz.zeroValue46, rfl⟩
instance : ScaT Tryz.prog 47 := ⟨Tryz.isAgg47, Tryz.sizeOf47⟩
instance : ZeroT Tryz.prog 47 [.nilFunc] := ⟨_, Tryz.zeroValue47, rfl⟩
instance : ScaT Tryz.prog 48 := ⟨Tryz.isAgg48, Tryz.sizeOf48⟩
instance : ZeroT Tryz.prog 48 [.nilFunc] := ⟨_, Tryz.zeroValue48, rfl⟩
instance : ScaT Tryz.prog 49 := ⟨Tryz.isAgg49, Tryz.sizeOf49⟩
instance : ZeroT Tryz.prog 49 [.nilFunc] := ⟨_, Tryz.zeroValue49, rfl⟩
instance : ScaT Tryz.prog 50 := ⟨Tryz.isAgg50, Tryz.sizeOf50⟩
instance : ZeroT Tryz.prog 50 [.nilFunc] := ⟨_, Tryz.zeroValue50, rfl⟩
instance : ScaT Tryz.prog 51 := ⟨Tryz.isAgg51, Tryz.sizeOf51⟩
instance : ZeroT Tryz.prog 51 [.nilFunc] := ⟨_, Tryz.zeroValue51, rfl⟩
instance : ScaT Tryz.prog 52 := ⟨Tryz.isAgg52, Tryz.sizeOf52⟩
instance : ZeroT Tryz.prog 52 [.nilFunc] := ⟨_, Tryz.zeroValue52, rfl⟩
instance : ScaT Tryz.prog 53 := ⟨Tryz.isAgg53, Tryz.sizeOf53⟩
instance : IntT Tryz.prog 53 .u32 := ⟨Tryz.underlying53⟩
instance : ZeroT Tryz.prog 53 [.int .u32 0] := ⟨_, Tryz.zeroValue53, rfl⟩
instance : ScaT Tryz.prog 54 := ⟨Tryz.isAgg54, Tryz.sizeOf54⟩
instance : ZeroT Tryz.prog 54 [.nilFunc] := ⟨_, Tryz.zeroValue54, rfl⟩
instance : ScaT Tryz.prog 55 := ⟨Tryz.isAgg55, Tryz.sizeOf55⟩
instance : ZeroT Tryz.prog 55 [.nilFunc] := ⟨_, Tryz.zeroValue55, rfl⟩
instance : ScaT Tryz.prog 56 := ⟨Tryz.isAgg56, Tryz.sizeOf56⟩
instance : ZeroT Tryz.prog 56 [.nilFunc] := ⟨_, Tryz.zeroValue56, rfl⟩
instance : ScaT Tryz.prog 57 := ⟨Tryz.isAgg57, Tryz.sizeOf57⟩
instance : SliceT Tryz.prog 57 9 := ⟨Tryz.underlying57⟩
instance : ZeroT Tryz.prog 57 [.slice none 0 0] := ⟨_, Tryz.zeroValue57, rfl⟩
instance : ScaT Tryz.prog 58 := ⟨Tryz.isAgg58, Tryz.sizeOf58⟩
instance : ZeroT Tryz.prog 58 [.nilFunc] := ⟨_, Tryz.zeroValue58, rfl⟩
instance : ScaT Tryz.prog 59 := ⟨Tryz.isAgg59, Tryz.sizeOf59⟩
instance : ZeroT Tryz.prog 59 [.nilFunc] := ⟨_, Tryz.zeroValue59, rfl⟩
instance : ScaT Tryz.prog 60 := ⟨Tryz.isAgg60, Tryz.sizeOf60⟩
instance : ZeroT Tryz.prog 60 [.nilFunc] := ⟨_, Tryz.zeroValue60, rfl⟩
instance : ScaT Tryz.prog 61 := ⟨Tryz.isAgg61, Tryz.sizeOf61⟩
instance : ZeroT Tryz.prog 61 [.nilFunc] := ⟨_, Tryz.zeroValue61, rfl⟩
instance : ScaT Tryz.prog 62 := ⟨Tryz.isAgg62, Tryz.sizeOf62⟩
instance : ZeroT Tryz.prog 62 [.nilFunc] := ⟨_, Tryz.zeroValue62, rfl⟩
instance : ScaT Tryz.prog 63 := ⟨Tryz.isAgg63, Tryz.sizeOf63⟩
instance : ZeroT Tryz.prog 63 [.nilFunc] := ⟨_, Tryz.zeroValue63, rfl⟩
instance : ScaT Tryz.prog 64 := ⟨Tryz.isAgg64, Tryz.sizeOf64⟩
instance : IntT Tryz.prog 64 .u64 := ⟨Tryz.underlying64⟩
instance : ZeroT Tryz.prog 64 [.int .u64 0] := ⟨_, Tryz.zeroValue64, rfl⟩
instance : AggT Tryz.prog 65 3 := ⟨Tryz.isAgg65, Tryz.sizeOf65⟩
instance : FieldT Tryz.prog 65 0 0 := ⟨fun b o w => by simp [Instr.fieldAt, Tryz.runUnderlying65, Instr.sureAddr, fieldPlace, Tryz.sizeOf22, Addr.add_lit], fun cs v w h => by simp [Instr.field, Tryz.runUnderlying65, asAgg, part, Tryz.isAgg22, h]⟩
instance : FieldT Tryz.prog 65 1 1 := ⟨fun b o w => by simp [Instr.fieldAt, Tryz.runUnderlying65, Instr.sureAddr, fieldPlace, Tryz.sizeOf3, Addr.add_lit], fun cs v w h => by simp [Instr.field, Tryz.runUnderlying65, asAgg, part, Tryz.isAgg3, h]⟩
instance : FieldT Tryz.prog 65 2 2 := ⟨fun b o w => by simp [Instr.fieldAt, Tryz.runUnderlying65, Instr.sureAddr, fieldPlace, Tryz.sizeOf64, Addr.add_lit], fun cs v w h => by simp [Instr.field, Tryz.runUnderlying65, asAgg, part, Tryz.isAgg64, h]⟩
instance : ZeroT Tryz.prog 65 [.slice none 0 0, .int .i64 0, .int .u64 0] := ⟨_, Tryz.zeroValue65, rfl⟩
instance : AggT Tryz.prog 66 3 := ⟨Tryz.isAgg66, Tryz.sizeOf66⟩
instance : FieldT Tryz.prog 66 0 0 := ⟨fun b o w => by simp [Instr.fieldAt, Tryz.runUnderlying66, Instr.sureAddr, fieldPlace, Tryz.sizeOf22, Addr.add_lit], fun cs v w h => by simp [Instr.field, Tryz.runUnderlying66, asAgg, part, Tryz.isAgg22, h]⟩
instance : FieldT Tryz.prog 66 1 1 := ⟨fun b o w => by simp [Instr.fieldAt, Tryz.runUnderlying66, Instr.sureAddr, fieldPlace, Tryz.sizeOf3, Addr.add_lit], fun cs v w h => by simp [Instr.field, Tryz.runUnderlying66, asAgg, part, Tryz.isAgg3, h]⟩
instance : FieldT Tryz.prog 66 2 2 := ⟨fun b o w => by simp [Instr.fieldAt, Tryz.runUnderlying66, Instr.sureAddr, fieldPlace, Tryz.sizeOf64, Addr.add_lit], fun cs v w h => by simp [Instr.field, Tryz.runUnderlying66, asAgg, part, Tryz.isAgg64, h]⟩
instance : ZeroT Tryz.prog 66 [.slice none 0 0, .int .i64 0, .int .u64 0] := ⟨_, Tryz.zeroValue66, rfl⟩
instance : ScaT Tryz.prog 67 := ⟨Tryz.isAgg67, Tryz.sizeOf67⟩
instance : ZeroT Tryz.prog 67 [.nilFunc] := ⟨_, Tryz.zeroValue67, rfl⟩
instance : ScaT Tryz.prog 68 := ⟨Tryz.isAgg68, Tryz.sizeOf68⟩
instance : ZeroT Tryz.prog 68 [.nilFunc] := ⟨_, Tryz.zeroValue68, rfl⟩
instance : ScaT Tryz.prog 69 := ⟨Tryz.isAgg69, Tryz.sizeOf69⟩
instance : SliceT Tryz.prog 69 2 := ⟨Tryz.underlying69⟩
instance : ZeroT Tryz.prog 69 [.slice none 0 0] := ⟨_, Tryz.zeroValue69, rfl⟩
instance : ScaT Tryz.prog 70 := ⟨Tryz.isAgg70, Tryz.sizeOf70⟩
instance : ZeroT Tryz.prog 70 [.nilFunc] := ⟨_, Tryz.zeroValue70, rfl⟩
instance : ScaT Tryz.prog 71 := ⟨Tryz.isAgg71, Tryz.sizeOf71⟩
instance : ZeroT Tryz.prog 71 [.nilFunc] := ⟨_, Tryz.zeroValue71, rfl⟩
instance : ScaT Tryz.prog 72 := ⟨Tryz.isAgg72, Tryz.sizeOf72⟩
instance : ZeroT Tryz.prog 72 [.nilFunc] := ⟨_, Tryz.zeroValue72, rfl⟩
instance : ScaT Tryz.prog 73 := ⟨Tryz.isAgg73, Tryz.sizeOf73⟩
instance : ZeroT Tryz.prog 73 [.nilFunc] := ⟨_, Tryz.zeroValue73, rfl⟩
instance : ScaT Tryz.prog 74 := ⟨Tryz.isAgg74, Tryz.sizeOf74⟩
instance : ZeroT Tryz.prog 74 [.nilFunc] := ⟨_, Tryz.zeroValue74, rfl⟩
instance : ScaT Tryz.prog 75 := ⟨Tryz.isAgg75, Tryz.sizeOf75⟩
instance : ZeroT Tryz.prog 75 [.nilFunc] := ⟨_, Tryz.zeroValue75, rfl⟩
instance : ScaT Tryz.prog 79 := ⟨Tryz.isAgg79, Tryz.sizeOf79⟩
instance : ZeroT Tryz.prog 79 [.nilFunc] := ⟨_, Tryz.zeroValue79, rfl⟩
instance : ScaT Tryz.prog 80 := ⟨Tryz.isAgg80, Tryz.sizeOf80⟩
instance : IntT Tryz.prog 80 .u64 := ⟨Tryz.underlying80⟩
instance : ZeroT Tryz.prog 80 [.int .u64 0] := ⟨_, Tryz.zeroValue80, rfl⟩
instance : ScaT Tryz.prog 82 := ⟨Tryz.isAgg82, Tryz.sizeOf82⟩
instance : ZeroT Tryz.prog 82 [.nilFunc] := ⟨_, Tryz.zeroValue82, rfl⟩
instance : ScaT Tryz.prog 83 := ⟨Tryz.isAgg83, Tryz.sizeOf83⟩
instance : ZeroT Tryz.prog 83 [.nilFunc] := ⟨_, Tryz.zeroValue83, rfl⟩
instance : ScaT Tryz.prog 84 := ⟨Tryz.isAgg84, Tryz.sizeOf84⟩
instance : ZeroT Tryz.prog 84 [.pointer none] := ⟨_, Tryz.zeroValue84, rfl⟩
instance : AggT Tryz.prog 85 2 := ⟨Tryz.isAgg85, Tryz.sizeOf85⟩
instance : FieldT Tryz.prog 85 0 0 := ⟨fun b o w => by simp [Instr.fieldAt, Tryz.runUnderlying85, Instr.sureAddr, fieldPlace, Tryz.sizeOf84, Addr.add_lit], fun cs v w h => by simp [Instr.field, Tryz.runUnderlying85, asAgg, part, Tryz.isAgg84, h]⟩
instance : FieldT Tryz.prog 85 1 1 := ⟨fun b o w => by simp [Instr.fieldAt, Tryz.runUnderlying85, Instr.sureAddr, fieldPlace, Tryz.sizeOf22, Addr.add_lit], fun cs v w h => by simp [Instr.field, Tryz.runUnderlying85, asAgg, part, Tryz.isAgg22, h]⟩
instance : ZeroT Tryz.prog 85 [.pointer none, .slice none 0 0] := ⟨_, Tryz.zeroValue85, rfl⟩
instance : AggT Tryz.prog 86 2 := ⟨Tryz.isAgg86, Tryz.sizeOf86⟩
instance : FieldT Tryz.prog 86 0 0 := ⟨fun b o w => by simp [Instr.fieldAt, Tryz.runUnderlying86, Instr.sureAddr, fieldPlace, Tryz.sizeOf84, Addr.add_lit], fun cs v w h => by simp [Instr.field, Tryz.runUnderlying86, asAgg, part, Tryz.isAgg84, h]⟩
instance : FieldT Tryz.prog 86 1 1 := ⟨fun b o w => by simp [Instr.fieldAt, Tryz.runUnderlying86, Instr.sureAddr, fieldPlace, Tryz.sizeOf22, Addr.add_lit], fun cs v w h => by simp [Instr.field, Tryz.runUnderlying86, asAgg, part, Tryz.isAgg22, h]⟩
instance : ZeroT Tryz.prog 86 [.pointer none, .slice none 0 0] := ⟨_, Tryz.zeroValue86, rfl⟩
instance : ScaT Tryz.prog 87 := ⟨Tryz.isAgg87, Tryz.sizeOf87⟩
instance : ZeroT Tryz.prog 87 [.nilFunc] := ⟨_, Tryz.zeroValue87, rfl⟩
instance : ScaT Tryz.prog 89 := ⟨Tryz.isAgg89, Tryz.sizeOf89⟩
instance : ZeroT Tryz.prog 89 [.nilFunc] := ⟨_, Tryz.zeroValue89, rfl⟩
instance : ScaT Tryz.prog 90 := ⟨Tryz.isAgg90, Tryz.sizeOf90⟩
instance : ZeroT Tryz.prog 90 [.nilFunc] := ⟨_, Tryz.zeroValue90, rfl⟩
instance : ScaT Tryz.prog 91 := ⟨Tryz.isAgg91, Tryz.sizeOf91⟩
instance : ZeroT Tryz.prog 91 [.nilFunc] := ⟨_, Tryz.zeroValue91, rfl⟩
instance : ScaT Tryz.prog 92 := ⟨Tryz.isAgg92, Tryz.sizeOf92⟩
instance : ZeroT Tryz.prog 92 [.nilFunc] := ⟨_, Tryz.zeroValue92, rfl⟩
instance : ScaT Tryz.prog 93 := ⟨Tryz.isAgg93, Tryz.sizeOf93⟩
instance : ZeroT Tryz.prog 93 [.nilFunc] := ⟨_, Tryz.zeroValue93, rfl⟩
instance : ScaT Tryz.prog 94 := ⟨Tryz.isAgg94, Tryz.sizeOf94⟩
instance : ZeroT Tryz.prog 94 [.nilFunc] := ⟨_, Tryz.zeroValue94, rfl⟩
instance : ScaT Tryz.prog 96 := ⟨Tryz.isAgg96, Tryz.sizeOf96⟩
instance : ZeroT Tryz.prog 96 [.nilFunc] := ⟨_, Tryz.zeroValue96, rfl⟩
instance : ScaT Tryz.prog 97 := ⟨Tryz.isAgg97, Tryz.sizeOf97⟩
instance : ZeroT Tryz.prog 97 [.nilFunc] := ⟨_, Tryz.zeroValue97, rfl⟩
instance : ScaT Tryz.prog 99 := ⟨Tryz.isAgg99, Tryz.sizeOf99⟩
instance : ZeroT Tryz.prog 99 [.nilFunc] := ⟨_, Tryz.zeroValue99, rfl⟩
instance : ScaT Tryz.prog 101 := ⟨Tryz.isAgg101, Tryz.sizeOf101⟩
instance : ZeroT Tryz.prog 101 [.nilFunc] := ⟨_, Tryz.zeroValue101, rfl⟩
instance : ScaT Tryz.prog 103 := ⟨Tryz.isAgg103, Tryz.sizeOf103⟩
instance : ZeroT Tryz.prog 103 [.nilFunc] := ⟨_, Tryz.zeroValue103, rfl⟩
instance : ScaT Tryz.prog 104 := ⟨Tryz.isAgg104, Tryz.sizeOf104⟩
instance : ZeroT Tryz.prog 104 [.pointer none] := ⟨_, Tryz.zeroValue104, rfl⟩
instance : ScaT Tryz.prog 105 := ⟨Tryz.isAgg105, Tryz.sizeOf105⟩
instance : ZeroT Tryz.prog 105 [.nilFunc] := ⟨_, Tryz.zeroValue105, rfl⟩
instance : ScaT Tryz.prog 106 := ⟨Tryz.isAgg106, Tryz.sizeOf106⟩
instance : ZeroT Tryz.prog 106 [.nilFunc] := ⟨_, Tryz.zeroValue106, rfl⟩
instance : ScaT Tryz.prog 107 := ⟨Tryz.isAgg107, Tryz.sizeOf107⟩
instance : IntT Tryz.prog 107 .i64 := ⟨Tryz.underlying107⟩
instance : ZeroT Tryz.prog 107 [.int .i64 0] := ⟨_, Tryz.zeroValue107, rfl⟩
instance : ScaT Tryz.prog 108 := ⟨Tryz.isAgg108, Tryz.sizeOf108⟩
instance : ZeroT Tryz.prog 108 [.nilFunc] := ⟨_, Tryz.zeroValue108, rfl⟩
instance : ScaT Tryz.prog 109 := ⟨Tryz.isAgg109, Tryz.sizeOf109⟩
instance : ZeroT Tryz.prog 109 [.nilFunc] := ⟨_, Tryz.zeroValue109, rfl⟩
instance : ScaT Tryz.prog 110 := ⟨Tryz.isAgg110, Tryz.sizeOf110⟩
instance : ZeroT Tryz.prog 110 [.pointer none] := ⟨_, Tryz.zeroValue110, rfl⟩
instance : ScaT Tryz.prog 111 := ⟨Tryz.isAgg111, Tryz.sizeOf111⟩
instance : ZeroT Tryz.prog 111 [.nilFunc] := ⟨_, Tryz.zeroValue111, rfl⟩
instance : ScaT Tryz.prog 112 := ⟨Tryz.isAgg112, Tryz.sizeOf112⟩
instance : ZeroT Tryz.prog 112 [.nilFunc] := ⟨_, Tryz.zeroValue112, rfl⟩
instance : ScaT Tryz.prog 113 := ⟨Tryz.isAgg113, Tryz.sizeOf113⟩
instance : ZeroT Tryz.prog 113 [.nilFunc] := ⟨_, Tryz.zeroValue113, rfl⟩
instance : ScaT Tryz.prog 114 := ⟨Tryz.isAgg114, Tryz.sizeOf114⟩
instance : ZeroT Tryz.prog 114 [.nilFunc] := ⟨_, Tryz.zeroValue114, rfl⟩
instance : ScaT Tryz.prog 117 := ⟨Tryz.isAgg117, Tryz.sizeOf117⟩
instance : ZeroT Tryz.prog 117 [.nilFunc] := ⟨_, Tryz.zeroValue117, rfl⟩
instance : ScaT Tryz.prog 118 := ⟨Tryz.isAgg118, Tryz.sizeOf118⟩
instance : ZeroT Tryz.prog 118 [.nilFunc] := ⟨_, Tryz.zeroValue118, rfl⟩
instance : ScaT Tryz.prog 119 := ⟨Tryz.isAgg119, Tryz.sizeOf119⟩
instance : ZeroT Tryz.prog 119 [.pointer none] := ⟨_, Tryz.zeroValue119, rfl⟩
instance : ScaT Tryz.prog 120 := ⟨Tryz.isAgg120, Tryz.sizeOf120⟩
instance : ZeroT Tryz.prog 120 [.nilFunc] := ⟨_, Tryz.zeroValue120, rfl⟩
instance : ScaT Tryz.prog 121 := ⟨Tryz.isAgg121, Tryz.sizeOf121⟩
instance : ZeroT Tryz.prog 121 [.nilFunc] := ⟨_, Tryz.zeroValue121, rfl⟩
instance : ScaT Tryz.prog 122 := ⟨Tryz.isAgg122, Tryz.sizeOf122⟩
instance : ZeroT Tryz.prog 122 [.nilFunc] := ⟨_, Tryz.zeroValue122, rfl⟩
instance : ScaT Tryz.prog 124 := ⟨Tryz.isAgg124, Tryz.sizeOf124⟩
instance : ZeroT Tryz.prog 124 [.nilFunc] := ⟨_, Tryz.zeroValue124, rfl⟩
instance : ScaT Tryz.prog 125 := ⟨Tryz.isAgg125, Tryz.sizeOf125⟩
instance : ZeroT Tryz.prog 125 [.nilFunc] := ⟨_, Tryz.zeroValue125, rfl⟩
instance : ScaT Tryz.prog 126 := ⟨Tryz.isAgg126, Tryz.sizeOf126⟩
instance : ZeroT Tryz.prog 126 [.nilFunc] := ⟨_, Tryz.zeroValue126, rfl⟩
instance : AggT Tryz.prog 127 3 := ⟨Tryz.isAgg127, Tryz.sizeOf127⟩
instance : FieldT Tryz.prog 127 0 0 := ⟨fun b o w => by simp [Instr.fieldAt, Tryz.runUnderlying127, Instr.sureAddr, fieldPlace, Tryz.sizeOf9, Addr.add_lit], fun cs v w h => by simp [Instr.field, Tryz.runUnderlying127, asAgg, part, Tryz.isAgg9, h]⟩
instance : FieldT Tryz.prog 127 1 1 := ⟨fun b o w => by simp [Instr.fieldAt, Tryz.runUnderlying127, Instr.sureAddr, fieldPlace, Tryz.sizeOf9, Addr.add_lit], fun cs v w h => by simp [Instr.field, Tryz.runUnderlying127, asAgg, part, Tryz.isAgg9, h]⟩
instance : FieldT Tryz.prog 127 2 2 := ⟨fun b o w => by simp [Instr.fieldAt, Tryz.runUnderlying127, Instr.sureAddr, fieldPlace, Tryz.sizeOf77, Addr.add_lit], fun cs v w h => by simp [Instr.field, Tryz.runUnderlying127, asAgg, part, Tryz.isAgg77, h]⟩
instance : ZeroT Tryz.prog 127 [.string ByteArray.empty, .string ByteArray.empty, .nilIface] := ⟨_, Tryz.zeroValue127, rfl⟩
instance : AggT Tryz.prog 128 3 := ⟨Tryz.isAgg128, Tryz.sizeOf128⟩
instance : FieldT Tryz.prog 128 0 0 := ⟨fun b o w => by simp [Instr.fieldAt, Tryz.runUnderlying128, Instr.sureAddr, fieldPlace, Tryz.sizeOf9, Addr.add_lit], fun cs v w h => by simp [Instr.field, Tryz.runUnderlying128, asAgg, part, Tryz.isAgg9, h]⟩
instance : FieldT Tryz.prog 128 1 1 := ⟨fun b o w => by simp [Instr.fieldAt, Tryz.runUnderlying128, Instr.sureAddr, fieldPlace, Tryz.sizeOf9, Addr.add_lit], fun cs v w h => by simp [Instr.field, Tryz.runUnderlying128, asAgg, part, Tryz.isAgg9, h]⟩
instance : FieldT Tryz.prog 128 2 2 := ⟨fun b o w => by simp [Instr.fieldAt, Tryz.runUnderlying128, Instr.sureAddr, fieldPlace, Tryz.sizeOf77, Addr.add_lit], fun cs v w h => by simp [Instr.field, Tryz.runUnderlying128, asAgg, part, Tryz.isAgg77, h]⟩
instance : ZeroT Tryz.prog 128 [.string ByteArray.empty, .string ByteArray.empty, .nilIface] := ⟨_, Tryz.zeroValue128, rfl⟩
instance : ScaT Tryz.prog 129 := ⟨Tryz.isAgg129, Tryz.sizeOf129⟩
instance : ZeroT Tryz.prog 129 [.nilFunc] := ⟨_, Tryz.zeroValue129, rfl⟩
instance : ScaT Tryz.prog 130 := ⟨Tryz.isAgg130, Tryz.sizeOf130⟩
instance : ZeroT Tryz.prog 130 [.nilFunc] := ⟨_, Tryz.zeroValue130, rfl⟩
instance : ScaT Tryz.prog 131 := ⟨Tryz.isAgg131, Tryz.sizeOf131⟩
instance : ZeroT Tryz.prog 131 [.pointer none] := ⟨_, Tryz.zeroValue131, rfl⟩
instance : AggT Tryz.prog 132 1 := ⟨Tryz.isAgg132, Tryz.sizeOf132⟩
instance : FieldT Tryz.prog 132 0 0 := ⟨fun b o w => by simp [Instr.fieldAt, Tryz.runUnderlying132, Instr.sureAddr, fieldPlace, Tryz.sizeOf9, Addr.add_lit], fun cs v w h => by simp [Instr.field, Tryz.runUnderlying132, asAgg, part, Tryz.isAgg9, h]⟩
instance : ZeroT Tryz.prog 132 [.string ByteArray.empty] := ⟨_, Tryz.zeroValue132, rfl⟩
instance : AggT Tryz.prog 133 1 := ⟨Tryz.isAgg133, Tryz.sizeOf133⟩
instance : FieldT Tryz.prog 133 0 0 := ⟨fun b o w => by simp [Instr.fieldAt, Tryz.runUnderlying133, Instr.sureAddr, fieldPlace, Tryz.sizeOf9, Addr.add_lit], fun cs v w h => by simp [Instr.field, Tryz.runUnderlying133, asAgg, part, Tryz.isAgg9, h]⟩
instance : ZeroT Tryz.prog 133 [.string ByteArray.empty] := ⟨_, Tryz.zeroValue133, rfl⟩
instance : AggT Tryz.prog 137 2 := ⟨Tryz.isAgg137, Tryz.sizeOf137⟩
instance : FieldT Tryz.prog 137 0 0 := ⟨fun b o w => by simp [Instr.fieldAt, Tryz.runUnderlying137, Instr.sureAddr, fieldPlace, Tryz.sizeOf5, Addr.add_lit], fun cs v w h => by simp [Instr.field, Tryz.runUnderlying137, asAgg, part, Tryz.isAgg5, h]⟩
instance : FieldT Tryz.prog 137 1 1 := ⟨fun b o w => by simp [Instr.fieldAt, Tryz.runUnderlying137, Instr.sureAddr, fieldPlace, Tryz.sizeOf5, Addr.add_lit], fun cs v w h => by simp [Instr.field, Tryz.runUnderlying137, asAgg, part, Tryz.isAgg5, h]⟩
instance : ZeroT Tryz.prog 137 [.int .u8 0, .int .u8 0] := ⟨_, Tryz.zeroValue137, rfl⟩
instance : AggT Tryz.prog 138 2 := ⟨Tryz.isAgg138, Tryz.sizeOf138⟩
instance : FieldT Tryz.prog 138 0 0 := ⟨fun b o w => by simp [Instr.fieldAt, Tryz.runUnderlying138, Instr.sureAddr, fieldPlace, Tryz.sizeOf5, Addr.add_lit], fun cs v w h => by simp [Instr.field, Tryz.runUnderlying138, asAgg, part, Tryz.isAgg5, h]⟩
instance : FieldT Tryz.prog 138 1 1 := ⟨fun b o w => by simp [Instr.fieldAt, Tryz.runUnderlying138, Instr.sureAddr, fieldPlace, Tryz.sizeOf5, Addr.add_lit], fun cs v w h => by simp [Instr.field, Tryz.runUnderlying138, asAgg, part, Tryz.isAgg5, h]⟩
instance : ZeroT Tryz.prog 138 [.int .u8 0, .int .u8 0] := ⟨_, Tryz.zeroValue138, rfl⟩
instance : ScaT Tryz.prog 140 := ⟨Tryz.isAgg140, Tryz.sizeOf140⟩
instance : ZeroT Tryz.prog 140 [.nilFunc] := ⟨_, Tryz.zeroValue140, rfl⟩
instance : AggT Tryz.prog 141 4 := ⟨Tryz.isAgg141, Tryz.sizeOf141⟩
instance : FieldT Tryz.prog 141 0 0 := ⟨fun b o w => by simp [Instr.fieldAt, Tryz.runUnderlying141, Instr.sureAddr, fieldPlace, Tryz.sizeOf17, Addr.add_lit], fun cs v w h => by simp [Instr.field, Tryz.runUnderlying141, asAgg, part, Tryz.isAgg17, h]⟩
instance : FieldT Tryz.prog 141 1 1 := ⟨fun b o w => by simp [Instr.fieldAt, Tryz.runUnderlying141, Instr.sureAddr, fieldPlace, Tryz.sizeOf17, Addr.add_lit], fun cs v w h => by simp [Instr.field, Tryz.runUnderlying141, asAgg, part, Tryz.isAgg17, h]⟩
instance : FieldT Tryz.prog 141 2 2 := ⟨fun b o w => by simp [Instr.fieldAt, Tryz.runUnderlying141, Instr.sureAddr, fieldPlace, Tryz.sizeOf17, Addr.add_lit], fun cs v w h => by simp [Instr.field, Tryz.runUnderlying141, asAgg, part, Tryz.isAgg17, h]⟩
instance : FieldT Tryz.prog 141 3 3 := ⟨fun b o w => by simp [Instr.fieldAt, Tryz.runUnderlying141, Instr.sureAddr, fieldPlace, Tryz.sizeOf9, Addr.add_lit], fun cs v w h => by simp [Instr.field, Tryz.runUnderlying141, asAgg, part, Tryz.isAgg9, h]⟩
instance : ZeroT Tryz.prog 141 [.pointer none, .pointer none, .pointer none, .string ByteArray.empty] := ⟨_, Tryz.zeroValue141, rfl⟩
instance : AggT Tryz.prog 142 4 := ⟨Tryz.isAgg142, Tryz.sizeOf142⟩
instance : FieldT Tryz.prog 142 0 0 := ⟨fun b o w => by simp [Instr.fieldAt, Tryz.runUnderlying142, Instr.sureAddr, fieldPlace, Tryz.sizeOf17, Addr.add_lit], fun cs v w h => by simp [Instr.field, Tryz.runUnderlying142, asAgg, part, Tryz.isAgg17, h]⟩
instance : FieldT Tryz.prog 142 1 1 := ⟨fun b o w => by simp [Instr.fieldAt, Tryz.runUnderlying142, Instr.sureAddr, fieldPlace, Tryz.sizeOf17, Addr.add_lit], fun cs v w h => by simp [Instr.field, Tryz.runUnderlying142, asAgg, part, Tryz.isAgg17, h]⟩
instance : FieldT Tryz.prog 142 2 2 := ⟨fun b o w => by simp [Instr.fieldAt, Tryz.runUnderlying142, Instr.sureAddr, fieldPlace, Tryz.sizeOf17, Addr.add_lit], fun cs v w h => by simp [Instr.field, Tryz.runUnderlying142, asAgg, part, Tryz.isAgg17, h]⟩
instance : FieldT Tryz.prog 142 3 3 := ⟨fun b o w => by simp [Instr.fieldAt, Tryz.runUnderlying142, Instr.sureAddr, fieldPlace, Tryz.sizeOf9, Addr.add_lit], fun cs v w h => by simp [Instr.field, Tryz.runUnderlying142, asAgg, part, Tryz.isAgg9, h]⟩
instance : ZeroT Tryz.prog 142 [.pointer none, .pointer none, .pointer none, .string ByteArray.empty] := ⟨_, Tryz.zeroValue142, rfl⟩
-- type 144: a struct with a field that is no single cell
-- type 145: a struct with a field that is no single cell
instance : ScaT Tryz.prog 146 := ⟨Tryz.isAgg146, Tryz.sizeOf146⟩
instance : IntT Tryz.prog 146 .u8 := ⟨Tryz.underlying146⟩
instance : ZeroT Tryz.prog 146 [.int .u8 0] := ⟨_, Tryz.zeroValue146, rfl⟩
instance : ScaT Tryz.prog 147 := ⟨Tryz.isAgg147, Tryz.sizeOf147⟩
instance : IntT Tryz.prog 147 .u8 := ⟨Tryz.underlying147⟩
instance : ZeroT Tryz.prog 147 [.int .u8 0] := ⟨_, Tryz.zeroValue147, rfl⟩
instance : ScaT Tryz.prog 148 := ⟨Tryz.isAgg148, Tryz.sizeOf148⟩
instance : ZeroT Tryz.prog 148 [.nilFunc] := ⟨_, Tryz.zeroValue148, rfl⟩
instance : ScaT Tryz.prog 149 := ⟨Tryz.isAgg149, Tryz.sizeOf149⟩
instance : IntT Tryz.prog 149 .i32 := ⟨Tryz.underlying149⟩
instance : ZeroT Tryz.prog 149 [.int .i32 0] := ⟨_, Tryz.zeroValue149, rfl⟩
instance : ScaT Tryz.prog 150 := ⟨Tryz.isAgg150, Tryz.sizeOf150⟩
instance : IntT Tryz.prog 150 .i32 := ⟨Tryz.underlying150⟩
instance : ZeroT Tryz.prog 150 [.int .i32 0] := ⟨_, Tryz.zeroValue150, rfl⟩
instance : AggT Tryz.prog 151 11 := ⟨Tryz.isAgg151, Tryz.sizeOf151⟩
instance : FieldT Tryz.prog 151 0 0 := ⟨fun b o w => by simp [Instr.fieldAt, Tryz.runUnderlying151, Instr.sureAddr, fieldPlace, Tryz.sizeOf12, Addr.add_lit], fun cs v w h => by simp [Instr.field, Tryz.runUnderlying151, asAgg, part, Tryz.isAgg12, h]⟩
instance : FieldT Tryz.prog 151 1 1 := ⟨fun b o w => by simp [Instr.fieldAt, Tryz.runUnderlying151, Instr.sureAddr, fieldPlace, Tryz.sizeOf12, Addr.add_lit], fun cs v w h => by simp [Instr.field, Tryz.runUnderlying151, asAgg, part, Tryz.isAgg12, h]⟩
instance : FieldT Tryz.prog 151 2 2 := ⟨fun b o w => by simp [Instr.fieldAt, Tryz.runUnderlying151, Instr.sureAddr, fieldPlace, Tryz.sizeOf53, Addr.add_lit], fun cs v w h => by simp [Instr.field, Tryz.runUnderlying151, asAgg, part, Tryz.isAgg53, h]⟩
instance : FieldT Tryz.prog 151 3 3 := ⟨fun b o w => by simp [Instr.fieldAt, Tryz.runUnderlying151, Instr.sureAddr, fieldPlace, Tryz.sizeOf146, Addr.add_lit], fun cs v w h => by simp [Instr.field, Tryz.runUnderlying151, asAgg, part, Tryz.isAgg146, h]⟩
instance : FieldT Tryz.prog 151 4 4 := ⟨fun b o w => by simp [Instr.fieldAt, Tryz.runUnderlying151, Instr.sureAddr, fieldPlace, Tryz.sizeOf5, Addr.add_lit], fun cs v w h => by simp [Instr.field, Tryz.runUnderlying151, asAgg, part, Tryz.isAgg5, h]⟩
instance : FieldT Tryz.prog 151 5 5 := ⟨fun b o w => by simp [Instr.fieldAt, Tryz.runUnderlying151, Instr.sureAddr, fieldPlace, Tryz.sizeOf5, Addr.add_lit], fun cs v w h => by simp [Instr.field, Tryz.runUnderlying151, asAgg, part, Tryz.isAgg5, h]⟩
instance : FieldT Tryz.prog 151 6 6 := ⟨fun b o w => by simp [Instr.fieldAt, Tryz.runUnderlying151, Instr.sureAddr, fieldPlace, Tryz.sizeOf147, Addr.add_lit], fun cs v w h => by simp [Instr.field, Tryz.runUnderlying151, asAgg, part, Tryz.isAgg147, h]⟩
instance : FieldT Tryz.prog 151 7 7 := ⟨fun b o w => by simp [Instr.fieldAt, Tryz.runUnderlying151, Instr.sureAddr, fieldPlace, Tryz.sizeOf148, Addr.add_lit], fun cs v w h => by simp [Instr.field, Tryz.runUnderlying151, asAgg, part, Tryz.isAgg148, h]⟩
instance : FieldT Tryz.prog 151 8 8 := ⟨fun b o w => by simp [Instr.fieldAt, Tryz.runUnderlying151, Instr.sureAddr, fieldPlace, Tryz.sizeOf104, Addr.add_lit], fun cs v w h => by simp [Instr.field, Tryz.runUnderlying151, asAgg, part, Tryz.isAgg104, h]⟩
instance : FieldT Tryz.prog 151 9 9 := ⟨fun b o w => by simp [Instr.fieldAt, Tryz.runUnderlying151, Instr.sureAddr, fieldPlace, Tryz.sizeOf149, Addr.add_lit], fun cs v w h => by simp [Instr.field, Tryz.runUnderlying151, asAgg, part, Tryz.isAgg149, h]⟩
instance : FieldT Tryz.prog 151 10 10 := ⟨fun b o w => by simp [Instr.fieldAt, Tryz.runUnderlying151, Instr.sureAddr, fieldPlace, Tryz.sizeOf150, Addr.add_lit], fun cs v w h => by simp [Instr.field, Tryz.runUnderlying151, asAgg, part, Tryz.isAgg150, h]⟩
instance : ZeroT Tryz.prog 151 [.int .u64 0, .int .u64 0, .int .u32 0, .int .u8 0, .int .u8 0, .int .u8 0, .int .u8 0, .nilFunc, .pointer none, .int .i32 0, .int .i32 0] := ⟨_, Tryz.zeroValue151, rfl⟩
instance : AggT Tryz.prog 152 11 := ⟨Tryz.isAgg152, Tryz.sizeOf152⟩
instance : FieldT Tryz.prog 152 0 0 := ⟨fun b o w => by simp [Instr.fieldAt, Tryz.runUnderlying152, Instr.sureAddr, fieldPlace, Tryz.sizeOf12, Addr.add_lit], fun cs v w h => by simp [Instr.field, Tryz.runUnderlying152, asAgg, part, Tryz.isAgg12, h]⟩
instance : FieldT Tryz.prog 152 1 1 := ⟨fun b o w => by simp [Instr.fieldAt, Tryz.runUnderlying152, Instr.sureAddr, fieldPlace, Tryz.sizeOf12, Addr.add_lit], fun cs v w h => by simp [Instr.field, Tryz.runUnderlying152, asAgg, part, Tryz.isAgg12, h]⟩
instance : FieldT Tryz.prog 152 2 2 := ⟨fun b o w => by simp [Instr.fieldAt, Tryz.runUnderlying152, Instr.sureAddr, fieldPlace, Tryz.sizeOf53, Addr.add_lit], fun cs v w h => by simp [Instr.field, Tryz.runUnderlying152, asAgg, part, Tryz.isAgg53, h]⟩
instance : FieldT Tryz.prog 152 3 3 := ⟨fun b o w => by simp [Instr.fieldAt, Tryz.runUnderlying152, Instr.sureAddr, fieldPlace, Tryz.sizeOf146, Addr.add_lit], fun cs v w h => by simp [Instr.field, Tryz.runUnderlying152, asAgg, part, Tryz.isAgg146, h]⟩
instance : FieldT Tryz.prog 152 4 4 := ⟨fun b o w => by simp [Instr.fieldAt, Tryz.runUnderlying152, Instr.sureAddr, fieldPlace, Tryz.sizeOf5, Addr.add_lit], fun cs v w h => by simp [Instr.field, Tryz.runUnderlying152, asAgg, part, Tryz.isAgg5, h]⟩
instance : FieldT Tryz.prog 152 5 5 := ⟨fun b o w => by simp [Instr.fieldAt, Tryz.runUnderlying152, Instr.sureAddr, fieldPlace, Tryz.sizeOf5, Addr.add_lit], fun cs v w h => by simp [Instr.field, Tryz.runUnderlying152, asAgg, part, Tryz.isAgg5, h]⟩
instance : FieldT Tryz.prog 152 6 6 := ⟨fun b o w => by simp [Instr.fieldAt, Tryz.runUnderlying152, Instr.sureAddr, fieldPlace, Tryz.sizeOf147, Addr.add_lit], fun cs v w h => by simp [Instr.field, Tryz.runUnderlying152, asAgg, part, Tryz.isAgg147, h]⟩
instance : FieldT Tryz.prog 152 7 7 := ⟨fun b o w => by simp [Instr.fieldAt, Tryz.runUnderlying152, Instr.sureAddr, fieldPlace, Tryz.sizeOf148, Addr.add_lit], fun cs v w h => by simp [Instr.field, Tryz.runUnderlying152, asAgg, part, Tryz.isAgg148, h]⟩
instance : FieldT Tryz.prog 152 8 8 := ⟨fun b o w => by simp [Instr.fieldAt, Tryz.runUnderlying152, Instr.sureAddr, fieldPlace, Tryz.sizeOf104, Addr.add_lit], fun cs v w h => by simp [Instr.field, Tryz.runUnderlying152, asAgg, part, Tryz.isAgg104, h]⟩
instance : FieldT Tryz.prog 152 9 9 := ⟨fun b o w => by simp [Instr.fieldAt, Tryz.runUnderlying152, Instr.sureAddr, fieldPlace, Tryz.sizeOf149, Addr.add_lit], fun cs v w h => by simp [Instr.field, Tryz.runUnderlying152, asAgg, part, Tryz.isAgg149, h]⟩
instance : FieldT Tryz.prog 152 10 10 := ⟨fun b o w => by simp [Instr.fieldAt, Tryz.runUnderlying152, Instr.sureAddr, fieldPlace, Tryz.sizeOf150, Addr.add_lit], fun cs v w h => by simp [Instr.field, Tryz.runUnderlying152, asAgg, part, Tryz.isAgg150, h]⟩
instance : ZeroT Tryz.prog 152 [.int .u64 0, .int .u64 0, .int .u32 0, .int .u8 0, .int .u8 0, .int .u8 0, .int .u8 0, .nilFunc, .pointer none, .int .i32 0, .int .i32 0] := ⟨_, Tryz.zeroValue152, rfl⟩
instance : FnT Tryz.prog 2 := ⟨Tryz.call2⟩
instance : FnT Tryz.prog 3 := ⟨Tryz.call3⟩
instance : FnT Tryz.prog 4 := ⟨Tryz.call4⟩
instance : FnT Tryz.prog 5 := ⟨Tryz.call5⟩
instance : FnT Tryz.prog 6 := ⟨Tryz.call6⟩
instance : FnT Tryz.prog 7 := ⟨Tryz.call7⟩
instance : FnT Tryz.prog 8 := ⟨Tryz.call8⟩
instance : FnT Tryz.prog 9 := ⟨Tryz.call9⟩
instance : FnT Tryz.prog 10 := ⟨Tryz.call10⟩
instance : FnT Tryz.prog 11 := ⟨Tryz.call11⟩
instance : FnT Tryz.prog 12 := ⟨Tryz.call12⟩
instance : FnT Tryz.prog 13 := ⟨Tryz.call13⟩
instance : FnT Tryz.prog 14 := ⟨Tryz.call14⟩
instance : FnT Tryz.prog 15 := ⟨Tryz.call15⟩
instance : FnT Tryz.prog 16 := ⟨Tryz.call16⟩
instance : FnT Tryz.prog 17 := ⟨Tryz.call17⟩
instance : FnT Tryz.prog 18 := ⟨Tryz.call18⟩
instance : FnT Tryz.prog 19 := ⟨Tryz.call19⟩
instance : FnT Tryz.prog 20 := ⟨Tryz.call20⟩
instance : FnT Tryz.prog 21 := ⟨Tryz.call21⟩
instance : FnT Tryz.prog 22 := ⟨Tryz.call22⟩
instance : FnT Tryz.prog 23 := ⟨Tryz.call23⟩
instance : FnT Tryz.prog 24 := ⟨Tryz.call24⟩
instance : FnT Tryz.prog 25 := ⟨Tryz.call25⟩
instance : FnT Tryz.prog 28 := ⟨Tryz.call28⟩
instance : FnT Tryz.prog 29 := ⟨Tryz.call29⟩
instance : FnT Tryz.prog 30 := ⟨Tryz.call30⟩
instance : FnT Tryz.prog 31 := ⟨Tryz.call31⟩
instance : FnT Tryz.prog 32 := ⟨Tryz.call32⟩
instance : FnT Tryz.prog 33 := ⟨Tryz.call33⟩
instance : FnT Tryz.prog 34 := ⟨Tryz.call34⟩
instance : FnT Tryz.prog 35 := ⟨Tryz.call35⟩
instance : FnT Tryz.prog 36 := ⟨Tryz.call36⟩
instance : FnT Tryz.prog 37 := ⟨Tryz.call37⟩
instance : FnT Tryz.prog 38 := ⟨Tryz.call38⟩
instance : FnT Tryz.prog 39 := ⟨Tryz.call39⟩
instance : FnT Tryz.prog 40 := ⟨Tryz.call40⟩
instance : FnT Tryz.prog 41 := ⟨Tryz.call41⟩
instance : FnT Tryz.prog 42 := ⟨Tryz.call42⟩
instance : FnT Tryz.prog 45 := ⟨Tryz.call45⟩
instance : FnT Tryz.prog 46 := ⟨Tryz.call46⟩
instance : FnT Tryz.prog 47 := ⟨Tryz.call47⟩
instance : FnT Tryz.prog 48 := ⟨Tryz.call48⟩
instance : FnT Tryz.prog 49 := ⟨Tryz.call49⟩
instance : FnT Tryz.prog 50 := ⟨Tryz.call50⟩
instance : FnT Tryz.prog 52 := ⟨Tryz.call52⟩
instance : FnT Tryz.prog 53 := ⟨Tryz.call53⟩
instance : FnT Tryz.prog 54 := ⟨Tryz.call54⟩
instance : FnT Tryz.prog 55 := ⟨Tryz.call55⟩
instance : FnT Tryz.prog 56 := ⟨Tryz.call56⟩
instance : FnT Tryz.prog 57 := ⟨Tryz.call57⟩
instance : FnT Tryz.prog 58 := ⟨Tryz.call58⟩
instance : FnT Tryz.prog 59 := ⟨Tryz.call59⟩
instance : FnT Tryz.prog 60 := ⟨Tryz.call60⟩
instance : FnT Tryz.prog 61 := ⟨Tryz.call61⟩
instance : FnT Tryz.prog 62 := ⟨Tryz.call62⟩
instance : FnT Tryz.prog 63 := ⟨Tryz.call63⟩
instance : FnT Tryz.prog 64 := ⟨Tryz.call64⟩
instance : FnT Tryz.prog 65 := ⟨Tryz.call65⟩
instance : FnT Tryz.prog 66 := ⟨Tryz.call66⟩
instance : FnT Tryz.prog 67 := ⟨Tryz.call67⟩
instance : FnT Tryz.prog 68 := ⟨Tryz.call68⟩
instance : FnT Tryz.prog 69 := ⟨Tryz.call69⟩
instance : FnT Tryz.prog 70 := ⟨Tryz.call70⟩
instance : FnT Tryz.prog 71 := ⟨Tryz.call71⟩
instance : FnT Tryz.prog 72 := ⟨Tryz.call72⟩
instance : FnT Tryz.prog 73 := ⟨Tryz.call73⟩
instance : FnT Tryz.prog 74 := ⟨Tryz.call74⟩
instance : FnT Tryz.prog 75 := ⟨Tryz.call75⟩
instance : FnT Tryz.prog 76 := ⟨Tryz.call76⟩
instance : FnT Tryz.prog 77 := ⟨Tryz.call77⟩
instance : FnT Tryz.prog 78 := ⟨Tryz.call78⟩
instance : FnT Tryz.prog 79 := ⟨Tryz.call79⟩
instance : FnT Tryz.prog 80 := ⟨Tryz.call80⟩
instance : FnT Tryz.prog 81 := ⟨Tryz.call81⟩
instance : FnT Tryz.prog 82 := ⟨Tryz.call82⟩
instance : FnT Tryz.prog 83 := ⟨Tryz.call83⟩
instance : FnT Tryz.prog 84 := ⟨Tryz.call84⟩
instance : FnT Tryz.prog 85 := ⟨Tryz.call85⟩
instance : FnT Tryz.prog 88 := ⟨Tryz.call88⟩
instance : FnT Tryz.prog 89 := ⟨Tryz.call89⟩
instance : FnT Tryz.prog 91 := ⟨Tryz.call91⟩
instance : FnT Tryz.prog 92 := ⟨Tryz.call92⟩
instance : FnT Tryz.prog 93 := ⟨Tryz.call93⟩
instance : FnT Tryz.prog 94 := ⟨Tryz.call94⟩
instance : FnT Tryz.prog 95 := ⟨Tryz.call95⟩
instance : FnT Tryz.prog 96 := ⟨Tryz.call96⟩
instance : FnT Tryz.prog 97 := ⟨Tryz.call97⟩
instance : FnT Tryz.prog 98 := ⟨Tryz.call98⟩
instance : FnT Tryz.prog 100 := ⟨Tryz.call100⟩
instance : FnT Tryz.prog 101 := ⟨Tryz.call101⟩
instance : FnT Tryz.prog 102 := ⟨Tryz.call102⟩
instance : FnT Tryz.prog 104 := ⟨Tryz.call104⟩
instance : FnT Tryz.prog 134 := ⟨Tryz.call134⟩
end Go.Proofs.YtclgplbikjmopaaGreatDoor
