/-
  Facts of the types and functions of this seat, as instances (written by wip/gen_types.py).
-/
import Derived.Test.YtlllekaiickkoaaChecked
import Derived.Test.YtlllekaiickkoaaRules
namespace Go.Proofs.Ytlllekaiickkoaa
instance : ScaT Try.prog 1 := ⟨Try.isAgg1, Try.sizeOf1⟩
instance : ZeroT Try.prog 1 [.nilFunc] := ⟨_, Try.zeroValue1, rfl⟩
instance : ScaT Try.prog 2 := ⟨Try.isAgg2, Try.sizeOf2⟩
instance : IntT Try.prog 2 .i64 := ⟨Try.underlying2⟩
instance : ZeroT Try.prog 2 [.int .i64 0] := ⟨_, Try.zeroValue2, rfl⟩
instance : ScaT Try.prog 3 := ⟨Try.isAgg3, Try.sizeOf3⟩
instance : IntT Try.prog 3 .i64 := ⟨Try.underlying3⟩
instance : ZeroT Try.prog 3 [.int .i64 0] := ⟨_, Try.zeroValue3, rfl⟩
instance : ScaT Try.prog 4 := ⟨Try.isAgg4, Try.sizeOf4⟩
instance : BoolT Try.prog 4 := ⟨Try.underlying4⟩
instance : ZeroT Try.prog 4 [.bool false] := ⟨_, Try.zeroValue4, rfl⟩
instance : ScaT Try.prog 5 := ⟨Try.isAgg5, Try.sizeOf5⟩
instance : IntT Try.prog 5 .u8 := ⟨Try.underlying5⟩
instance : ZeroT Try.prog 5 [.int .u8 0] := ⟨_, Try.zeroValue5, rfl⟩
theorem einfo5 : Try.prog.info? 5 = some Try.t5 := by kernel_rfl
instance : ElemT Try.prog 5 1 1 [.int .u8 0] := ⟨_, _, einfo5, rfl, rfl, rfl, rfl, rfl, by decide⟩
instance : ScaT Try.prog 6 := ⟨Try.isAgg6, Try.sizeOf6⟩
instance : IntT Try.prog 6 .u8 := ⟨Try.underlying6⟩
instance : ZeroT Try.prog 6 [.int .u8 0] := ⟨_, Try.zeroValue6, rfl⟩
instance : AggT Try.prog 7 4 := ⟨Try.isAgg7, Try.sizeOf7⟩
instance : FieldT Try.prog 7 0 0 := ⟨fun b o w => by simp [Instr.fieldAt, Try.runUnderlying7, Instr.sureAddr, fieldPlace, Try.sizeOf2, Addr.add_lit], fun cs v w h => by simp [Instr.field, Try.runUnderlying7, asAgg, part, Try.isAgg2, h]⟩
instance : FieldT Try.prog 7 1 1 := ⟨fun b o w => by simp [Instr.fieldAt, Try.runUnderlying7, Instr.sureAddr, fieldPlace, Try.sizeOf3, Addr.add_lit], fun cs v w h => by simp [Instr.field, Try.runUnderlying7, asAgg, part, Try.isAgg3, h]⟩
instance : FieldT Try.prog 7 2 2 := ⟨fun b o w => by simp [Instr.fieldAt, Try.runUnderlying7, Instr.sureAddr, fieldPlace, Try.sizeOf4, Addr.add_lit], fun cs v w h => by simp [Instr.field, Try.runUnderlying7, asAgg, part, Try.isAgg4, h]⟩
instance : FieldT Try.prog 7 3 3 := ⟨fun b o w => by simp [Instr.fieldAt, Try.runUnderlying7, Instr.sureAddr, fieldPlace, Try.sizeOf6, Addr.add_lit], fun cs v w h => by simp [Instr.field, Try.runUnderlying7, asAgg, part, Try.isAgg6, h]⟩
instance : ZeroT Try.prog 7 [.int .i64 0, .int .i64 0, .bool false, .int .u8 0] := ⟨_, Try.zeroValue7, rfl⟩
instance : AggT Try.prog 8 4 := ⟨Try.isAgg8, Try.sizeOf8⟩
instance : FieldT Try.prog 8 0 0 := ⟨fun b o w => by simp [Instr.fieldAt, Try.runUnderlying8, Instr.sureAddr, fieldPlace, Try.sizeOf2, Addr.add_lit], fun cs v w h => by simp [Instr.field, Try.runUnderlying8, asAgg, part, Try.isAgg2, h]⟩
instance : FieldT Try.prog 8 1 1 := ⟨fun b o w => by simp [Instr.fieldAt, Try.runUnderlying8, Instr.sureAddr, fieldPlace, Try.sizeOf3, Addr.add_lit], fun cs v w h => by simp [Instr.field, Try.runUnderlying8, asAgg, part, Try.isAgg3, h]⟩
instance : FieldT Try.prog 8 2 2 := ⟨fun b o w => by simp [Instr.fieldAt, Try.runUnderlying8, Instr.sureAddr, fieldPlace, Try.sizeOf4, Addr.add_lit], fun cs v w h => by simp [Instr.field, Try.runUnderlying8, asAgg, part, Try.isAgg4, h]⟩
instance : FieldT Try.prog 8 3 3 := ⟨fun b o w => by simp [Instr.fieldAt, Try.runUnderlying8, Instr.sureAddr, fieldPlace, Try.sizeOf6, Addr.add_lit], fun cs v w h => by simp [Instr.field, Try.runUnderlying8, asAgg, part, Try.isAgg6, h]⟩
instance : ZeroT Try.prog 8 [.int .i64 0, .int .i64 0, .bool false, .int .u8 0] := ⟨_, Try.zeroValue8, rfl⟩
instance : ScaT Try.prog 9 := ⟨Try.isAgg9, Try.sizeOf9⟩
instance : ZeroT Try.prog 9 [.string ByteArray.empty] := ⟨_, Try.zeroValue9, rfl⟩
instance : ScaT Try.prog 10 := ⟨Try.isAgg10, Try.sizeOf10⟩
instance : ZeroT Try.prog 10 [.string ByteArray.empty] := ⟨_, Try.zeroValue10, rfl⟩
instance : ScaT Try.prog 11 := ⟨Try.isAgg11, Try.sizeOf11⟩
instance : ZeroT Try.prog 11 [.string ByteArray.empty] := ⟨_, Try.zeroValue11, rfl⟩
instance : ScaT Try.prog 12 := ⟨Try.isAgg12, Try.sizeOf12⟩
instance : IntT Try.prog 12 .u64 := ⟨Try.underlying12⟩
instance : ZeroT Try.prog 12 [.int .u64 0] := ⟨_, Try.zeroValue12, rfl⟩
instance : AggT Try.prog 13 2 := ⟨Try.isAgg13, Try.sizeOf13⟩
instance : FieldT Try.prog 13 0 0 := ⟨fun b o w => by simp [Instr.fieldAt, Try.runUnderlying13, Instr.sureAddr, fieldPlace, Try.sizeOf9, Addr.add_lit], fun cs v w h => by simp [Instr.field, Try.runUnderlying13, asAgg, part, Try.isAgg9, h]⟩
instance : FieldT Try.prog 13 1 1 := ⟨fun b o w => by simp [Instr.fieldAt, Try.runUnderlying13, Instr.sureAddr, fieldPlace, Try.sizeOf12, Addr.add_lit], fun cs v w h => by simp [Instr.field, Try.runUnderlying13, asAgg, part, Try.isAgg12, h]⟩
instance : ZeroT Try.prog 13 [.string ByteArray.empty, .int .u64 0] := ⟨_, Try.zeroValue13, rfl⟩
instance : AggT Try.prog 14 2 := ⟨Try.isAgg14, Try.sizeOf14⟩
instance : FieldT Try.prog 14 0 0 := ⟨fun b o w => by simp [Instr.fieldAt, Try.runUnderlying14, Instr.sureAddr, fieldPlace, Try.sizeOf9, Addr.add_lit], fun cs v w h => by simp [Instr.field, Try.runUnderlying14, asAgg, part, Try.isAgg9, h]⟩
instance : FieldT Try.prog 14 1 1 := ⟨fun b o w => by simp [Instr.fieldAt, Try.runUnderlying14, Instr.sureAddr, fieldPlace, Try.sizeOf12, Addr.add_lit], fun cs v w h => by simp [Instr.field, Try.runUnderlying14, asAgg, part, Try.isAgg12, h]⟩
instance : ZeroT Try.prog 14 [.string ByteArray.empty, .int .u64 0] := ⟨_, Try.zeroValue14, rfl⟩
instance : ScaT Try.prog 15 := ⟨Try.isAgg15, Try.sizeOf15⟩
instance : ZeroT Try.prog 15 [.pointer none] := ⟨_, Try.zeroValue15, rfl⟩
instance : ScaT Try.prog 16 := ⟨Try.isAgg16, Try.sizeOf16⟩
instance : ZeroT Try.prog 16 [.pointer none] := ⟨_, Try.zeroValue16, rfl⟩
instance : ScaT Try.prog 17 := ⟨Try.isAgg17, Try.sizeOf17⟩
instance : ZeroT Try.prog 17 [.pointer none] := ⟨_, Try.zeroValue17, rfl⟩
instance : AggT Try.prog 18 1 := ⟨Try.isAgg18, Try.sizeOf18⟩
instance : FieldT Try.prog 18 0 0 := ⟨fun b o w => by simp [Instr.fieldAt, Try.runUnderlying18, Instr.sureAddr, fieldPlace, Try.sizeOf17, Addr.add_lit], fun cs v w h => by simp [Instr.field, Try.runUnderlying18, asAgg, part, Try.isAgg17, h]⟩
instance : ZeroT Try.prog 18 [.pointer none] := ⟨_, Try.zeroValue18, rfl⟩
instance : AggT Try.prog 19 1 := ⟨Try.isAgg19, Try.sizeOf19⟩
instance : FieldT Try.prog 19 0 0 := ⟨fun b o w => by simp [Instr.fieldAt, Try.runUnderlying19, Instr.sureAddr, fieldPlace, Try.sizeOf17, Addr.add_lit], fun cs v w h => by simp [Instr.field, Try.runUnderlying19, asAgg, part, Try.isAgg17, h]⟩
instance : ZeroT Try.prog 19 [.pointer none] := ⟨_, Try.zeroValue19, rfl⟩
instance : ScaT Try.prog 21 := ⟨Try.isAgg21, Try.sizeOf21⟩
instance : IntT Try.prog 21 .i32 := ⟨Try.underlying21⟩
instance : ZeroT Try.prog 21 [.int .i32 0] := ⟨_, Try.zeroValue21, rfl⟩
instance : ScaT Try.prog 22 := ⟨Try.isAgg22, Try.sizeOf22⟩
instance : SliceT Try.prog 22 5 := ⟨Try.underlying22⟩
instance : ZeroT Try.prog 22 [.slice none 0 0] := ⟨_, Try.zeroValue22, rfl⟩
instance : ScaT Try.prog 23 := ⟨Try.isAgg23, Try.sizeOf23⟩
instance : ZeroT Try.prog 23 [.nilFunc] := ⟨_, Try.zeroValue23, rfl⟩
instance : ScaT Try.prog 24 := ⟨Try.isAgg24, Try.sizeOf24⟩
instance : ZeroT Try.prog 24 [.nilFunc] := ⟨_, Try.zeroValue24, rfl⟩
instance : ScaT Try.prog 25 := ⟨Try.isAgg25, Try.sizeOf25⟩
instance : CplxT Try.prog 25 .f32 := ⟨Try.underlying25⟩
instance : ZeroT Try.prog 25 [.complex .f32 0 0] := ⟨_, Try.zeroValue25, rfl⟩
instance : ScaT Try.prog 26 := ⟨Try.isAgg26, Try.sizeOf26⟩
instance : ZeroT Try.prog 26 [.nilFunc] := ⟨_, Try.zeroValue26, rfl⟩
instance : ScaT Try.prog 27 := ⟨Try.isAgg27, Try.sizeOf27⟩
instance : FloatT Try.prog 27 .f64 := ⟨Try.underlying27⟩
instance : ZeroT Try.prog 27 [.float .f64 0] := ⟨_, Try.zeroValue27, rfl⟩
instance : ScaT Try.prog 28 := ⟨Try.isAgg28, Try.sizeOf28⟩
instance : FloatT Try.prog 28 .f32 := ⟨Try.underlying28⟩
instance : ZeroT Try.prog 28 [.float .f32 0] := ⟨_, Try.zeroValue28, rfl⟩
instance : ScaT Try.prog 29 := ⟨Try.isAgg29, Try.sizeOf29⟩
instance : ZeroT Try.prog 29 [.nilFunc] := ⟨_, Try.zeroValue29, rfl⟩
instance : ScaT Try.prog 30 := ⟨Try.isAgg30, Try.sizeOf30⟩
instance : ZeroT Try.prog 30 [.nilFunc] := ⟨_, Try.zeroValue30, rfl⟩
instance : ScaT Try.prog 31 := ⟨Try.isAgg31, Try.sizeOf31⟩
instance : ZeroT Try.prog 31 [.nilFunc] := ⟨_, Try.zeroValue31, rfl⟩
instance : ScaT Try.prog 32 := ⟨Try.isAgg32, Try.sizeOf32⟩
instance : ZeroT Try.prog 32 [.nilFunc] := ⟨_, Try.zeroValue32, rfl⟩
instance : ScaT Try.prog 34 := ⟨Try.isAgg34, Try.sizeOf34⟩
instance : ZeroT Try.prog 34 [.nilFunc] := ⟨_, Try.zeroValue34, rfl⟩
instance : ScaT Try.prog 35 := ⟨Try.isAgg35, Try.sizeOf35⟩
instance : ZeroT Try.prog 35 [.nilFunc] := ⟨_, Try.zeroValue35, rfl⟩
instance : ScaT Try.prog 36 := ⟨Try.isAgg36, Try.sizeOf36⟩
instance : ZeroT Try.prog 36 [.nilFunc] := ⟨_, Try.zeroValue36, rfl⟩
instance : ScaT Try.prog 37 := ⟨Try.isAgg37, Try.sizeOf37⟩
instance : ZeroT Try.prog 37 [.nilFunc] := ⟨_, Try.zeroValue37, rfl⟩
instance : ScaT Try.prog 38 := ⟨Try.isAgg38, Try.sizeOf38⟩
instance : ZeroT Try.prog 38 [.nilFunc] := ⟨_, Try.zeroValue38, rfl⟩
instance : ScaT Try.prog 39 := ⟨Try.isAgg39, Try.sizeOf39⟩
instance : ZeroT Try.prog 39 [.nilFunc] := ⟨_, Try.zeroValue39, rfl⟩
instance : ScaT Try.prog 40 := ⟨Try.isAgg40, Try.sizeOf40⟩
instance : ZeroT Try.prog 40 [.nilFunc] := ⟨_, Try.zeroValue40, rfl⟩
instance : ScaT Try.prog 42 := ⟨Try.isAgg42, Try.sizeOf42⟩
instance : ZeroT Try.prog 42 [.nilFunc] := ⟨_, Try.zeroValue42, rfl⟩
instance : ScaT Try.prog 43 := ⟨Try.isAgg43, Try.sizeOf43⟩
instance : ZeroT Try.prog 43 [.nilFunc] := ⟨_, Try.zeroValue43, rfl⟩
instance : ScaT Try.prog 44 := ⟨Try.isAgg44, Try.sizeOf44⟩
instance : ZeroT Try.prog 44 [.nilFunc] := ⟨_, Try.zeroValue44, rfl⟩
instance : ScaT Try.prog 45 := ⟨Try.isAgg45, Try.sizeOf45⟩
instance : ZeroT Try.prog 45 [.nilFunc] := ⟨_, Try.zeroValue45, rfl⟩
instance : ScaT Try.prog 46 := ⟨Try.isAgg46, Try.sizeOf46⟩
instance : IntT Try.prog 46 .u64 := ⟨Try.underlying46⟩
instance : ZeroT Try.prog 46 [.int .u64 0] := ⟨_, Try.zeroValue46, rfl⟩
instance : ScaT Try.prog 47 := ⟨Try.isAgg47, Try.sizeOf47⟩
instance : ZeroT Try.prog 47 [.nilFunc] := ⟨_, Try.zeroValue47, rfl⟩
instance : ScaT Try.prog 48 := ⟨Try.isAgg48, Try.sizeOf48⟩
instance : ZeroT Try.prog 48 [.nilFunc] := ⟨_, Try.zeroValue48, rfl⟩
instance : ScaT Try.prog 49 := ⟨Try.isAgg49, Try.sizeOf49⟩
instance : ZeroT Try.prog 49 [.nilFunc] := ⟨_, Try.zeroValue49, rfl⟩
instance : ScaT Try.prog 50 := ⟨Try.isAgg50, Try.sizeOf50⟩
instance : ZeroT Try.prog 50 [.nilFunc] := ⟨_, Try.zeroValue50, rfl⟩
instance : ScaT Try.prog 51 := ⟨Try.isAgg51, Try.sizeOf51⟩
instance : IntT Try.prog 51 .u32 := ⟨Try.underlying51⟩
instance : ZeroT Try.prog 51 [.int .u32 0] := ⟨_, Try.zeroValue51, rfl⟩
instance : ScaT Try.prog 52 := ⟨Try.isAgg52, Try.sizeOf52⟩
instance : ZeroT Try.prog 52 [.nilFunc] := ⟨_, Try.zeroValue52, rfl⟩
instance : ScaT Try.prog 53 := ⟨Try.isAgg53, Try.sizeOf53⟩
instance : IntT Try.prog 53 .u64 := ⟨Try.underlying53⟩
instance : ZeroT Try.prog 53 [.int .u64 0] := ⟨_, Try.zeroValue53, rfl⟩
instance : ScaT Try.prog 54 := ⟨Try.isAgg54, Try.sizeOf54⟩
instance : ZeroT Try.prog 54 [.nilFunc] := ⟨_, Try.zeroValue54, rfl⟩
instance : AggT Try.prog 55 4 := ⟨Try.isAgg55, Try.sizeOf55⟩
instance : FieldT Try.prog 55 0 0 := ⟨fun b o w => by simp [Instr.fieldAt, Try.runUnderlying55, Instr.sureAddr, fieldPlace, Try.sizeOf17, Addr.add_lit], fun cs v w h => by simp [Instr.field, Try.runUnderlying55, asAgg, part, Try.isAgg17, h]⟩
instance : FieldT Try.prog 55 1 1 := ⟨fun b o w => by simp [Instr.fieldAt, Try.runUnderlying55, Instr.sureAddr, fieldPlace, Try.sizeOf17, Addr.add_lit], fun cs v w h => by simp [Instr.field, Try.runUnderlying55, asAgg, part, Try.isAgg17, h]⟩
instance : FieldT Try.prog 55 2 2 := ⟨fun b o w => by simp [Instr.fieldAt, Try.runUnderlying55, Instr.sureAddr, fieldPlace, Try.sizeOf17, Addr.add_lit], fun cs v w h => by simp [Instr.field, Try.runUnderlying55, asAgg, part, Try.isAgg17, h]⟩
instance : FieldT Try.prog 55 3 3 := ⟨fun b o w => by simp [Instr.fieldAt, Try.runUnderlying55, Instr.sureAddr, fieldPlace, Try.sizeOf9, Addr.add_lit], fun cs v w h => by simp [Instr.field, Try.runUnderlying55, asAgg, part, Try.isAgg9, h]⟩
instance : ZeroT Try.prog 55 [.pointer none, .pointer none, .pointer none, .string ByteArray.empty] := ⟨_, Try.zeroValue55, rfl⟩
instance : AggT Try.prog 56 4 := ⟨Try.isAgg56, Try.sizeOf56⟩
instance : FieldT Try.prog 56 0 0 := ⟨fun b o w => by simp [Instr.fieldAt, Try.runUnderlying56, Instr.sureAddr, fieldPlace, Try.sizeOf17, Addr.add_lit], fun cs v w h => by simp [Instr.field, Try.runUnderlying56, asAgg, part, Try.isAgg17, h]⟩
instance : FieldT Try.prog 56 1 1 := ⟨fun b o w => by simp [Instr.fieldAt, Try.runUnderlying56, Instr.sureAddr, fieldPlace, Try.sizeOf17, Addr.add_lit], fun cs v w h => by simp [Instr.field, Try.runUnderlying56, asAgg, part, Try.isAgg17, h]⟩
instance : FieldT Try.prog 56 2 2 := ⟨fun b o w => by simp [Instr.fieldAt, Try.runUnderlying56, Instr.sureAddr, fieldPlace, Try.sizeOf17, Addr.add_lit], fun cs v w h => by simp [Instr.field, Try.runUnderlying56, asAgg, part, Try.isAgg17, h]⟩
instance : FieldT Try.prog 56 3 3 := ⟨fun b o w => by simp [Instr.fieldAt, Try.runUnderlying56, Instr.sureAddr, fieldPlace, Try.sizeOf9, Addr.add_lit], fun cs v w h => by simp [Instr.field, Try.runUnderlying56, asAgg, part, Try.isAgg9, h]⟩
instance : ZeroT Try.prog 56 [.pointer none, .pointer none, .pointer none, .string ByteArray.empty] := ⟨_, Try.zeroValue56, rfl⟩
-- type 58: a struct with a field that is no single cell
-- type 59: a struct with a field that is no single cell
instance : ScaT Try.prog 60 := ⟨Try.isAgg60, Try.sizeOf60⟩
instance : ZeroT Try.prog 60 [.nilFunc] := ⟨_, Try.zeroValue60, rfl⟩
instance : ScaT Try.prog 61 := ⟨Try.isAgg61, Try.sizeOf61⟩
instance : IntT Try.prog 61 .u8 := ⟨Try.underlying61⟩
instance : ZeroT Try.prog 61 [.int .u8 0] := ⟨_, Try.zeroValue61, rfl⟩
instance : ScaT Try.prog 62 := ⟨Try.isAgg62, Try.sizeOf62⟩
instance : IntT Try.prog 62 .u8 := ⟨Try.underlying62⟩
instance : ZeroT Try.prog 62 [.int .u8 0] := ⟨_, Try.zeroValue62, rfl⟩
instance : ScaT Try.prog 63 := ⟨Try.isAgg63, Try.sizeOf63⟩
instance : ZeroT Try.prog 63 [.nilFunc] := ⟨_, Try.zeroValue63, rfl⟩
instance : ScaT Try.prog 64 := ⟨Try.isAgg64, Try.sizeOf64⟩
instance : ZeroT Try.prog 64 [.pointer none] := ⟨_, Try.zeroValue64, rfl⟩
instance : ScaT Try.prog 65 := ⟨Try.isAgg65, Try.sizeOf65⟩
instance : IntT Try.prog 65 .i32 := ⟨Try.underlying65⟩
instance : ZeroT Try.prog 65 [.int .i32 0] := ⟨_, Try.zeroValue65, rfl⟩
instance : ScaT Try.prog 66 := ⟨Try.isAgg66, Try.sizeOf66⟩
instance : IntT Try.prog 66 .i32 := ⟨Try.underlying66⟩
instance : ZeroT Try.prog 66 [.int .i32 0] := ⟨_, Try.zeroValue66, rfl⟩
instance : AggT Try.prog 67 11 := ⟨Try.isAgg67, Try.sizeOf67⟩
instance : FieldT Try.prog 67 0 0 := ⟨fun b o w => by simp [Instr.fieldAt, Try.runUnderlying67, Instr.sureAddr, fieldPlace, Try.sizeOf12, Addr.add_lit], fun cs v w h => by simp [Instr.field, Try.runUnderlying67, asAgg, part, Try.isAgg12, h]⟩
instance : FieldT Try.prog 67 1 1 := ⟨fun b o w => by simp [Instr.fieldAt, Try.runUnderlying67, Instr.sureAddr, fieldPlace, Try.sizeOf12, Addr.add_lit], fun cs v w h => by simp [Instr.field, Try.runUnderlying67, asAgg, part, Try.isAgg12, h]⟩
instance : FieldT Try.prog 67 2 2 := ⟨fun b o w => by simp [Instr.fieldAt, Try.runUnderlying67, Instr.sureAddr, fieldPlace, Try.sizeOf51, Addr.add_lit], fun cs v w h => by simp [Instr.field, Try.runUnderlying67, asAgg, part, Try.isAgg51, h]⟩
instance : FieldT Try.prog 67 3 3 := ⟨fun b o w => by simp [Instr.fieldAt, Try.runUnderlying67, Instr.sureAddr, fieldPlace, Try.sizeOf61, Addr.add_lit], fun cs v w h => by simp [Instr.field, Try.runUnderlying67, asAgg, part, Try.isAgg61, h]⟩
instance : FieldT Try.prog 67 4 4 := ⟨fun b o w => by simp [Instr.fieldAt, Try.runUnderlying67, Instr.sureAddr, fieldPlace, Try.sizeOf5, Addr.add_lit], fun cs v w h => by simp [Instr.field, Try.runUnderlying67, asAgg, part, Try.isAgg5, h]⟩
instance : FieldT Try.prog 67 5 5 := ⟨fun b o w => by simp [Instr.fieldAt, Try.runUnderlying67, Instr.sureAddr, fieldPlace, Try.sizeOf5, Addr.add_lit], fun cs v w h => by simp [Instr.field, Try.runUnderlying67, asAgg, part, Try.isAgg5, h]⟩
instance : FieldT Try.prog 67 6 6 := ⟨fun b o w => by simp [Instr.fieldAt, Try.runUnderlying67, Instr.sureAddr, fieldPlace, Try.sizeOf62, Addr.add_lit], fun cs v w h => by simp [Instr.field, Try.runUnderlying67, asAgg, part, Try.isAgg62, h]⟩
instance : FieldT Try.prog 67 7 7 := ⟨fun b o w => by simp [Instr.fieldAt, Try.runUnderlying67, Instr.sureAddr, fieldPlace, Try.sizeOf63, Addr.add_lit], fun cs v w h => by simp [Instr.field, Try.runUnderlying67, asAgg, part, Try.isAgg63, h]⟩
instance : FieldT Try.prog 67 8 8 := ⟨fun b o w => by simp [Instr.fieldAt, Try.runUnderlying67, Instr.sureAddr, fieldPlace, Try.sizeOf64, Addr.add_lit], fun cs v w h => by simp [Instr.field, Try.runUnderlying67, asAgg, part, Try.isAgg64, h]⟩
instance : FieldT Try.prog 67 9 9 := ⟨fun b o w => by simp [Instr.fieldAt, Try.runUnderlying67, Instr.sureAddr, fieldPlace, Try.sizeOf65, Addr.add_lit], fun cs v w h => by simp [Instr.field, Try.runUnderlying67, asAgg, part, Try.isAgg65, h]⟩
instance : FieldT Try.prog 67 10 10 := ⟨fun b o w => by simp [Instr.fieldAt, Try.runUnderlying67, Instr.sureAddr, fieldPlace, Try.sizeOf66, Addr.add_lit], fun cs v w h => by simp [Instr.field, Try.runUnderlying67, asAgg, part, Try.isAgg66, h]⟩
instance : ZeroT Try.prog 67 [.int .u64 0, .int .u64 0, .int .u32 0, .int .u8 0, .int .u8 0, .int .u8 0, .int .u8 0, .nilFunc, .pointer none, .int .i32 0, .int .i32 0] := ⟨_, Try.zeroValue67, rfl⟩
instance : AggT Try.prog 68 11 := ⟨Try.isAgg68, Try.sizeOf68⟩
instance : FieldT Try.prog 68 0 0 := ⟨fun b o w => by simp [Instr.fieldAt, Try.runUnderlying68, Instr.sureAddr, fieldPlace, Try.sizeOf12, Addr.add_lit], fun cs v w h => by simp [Instr.field, Try.runUnderlying68, asAgg, part, Try.isAgg12, h]⟩
instance : FieldT Try.prog 68 1 1 := ⟨fun b o w => by simp [Instr.fieldAt, Try.runUnderlying68, Instr.sureAddr, fieldPlace, Try.sizeOf12, Addr.add_lit], fun cs v w h => by simp [Instr.field, Try.runUnderlying68, asAgg, part, Try.isAgg12, h]⟩
instance : FieldT Try.prog 68 2 2 := ⟨fun b o w => by simp [Instr.fieldAt, Try.runUnderlying68, Instr.sureAddr, fieldPlace, Try.sizeOf51, Addr.add_lit], fun cs v w h => by simp [Instr.field, Try.runUnderlying68, asAgg, part, Try.isAgg51, h]⟩
instance : FieldT Try.prog 68 3 3 := ⟨fun b o w => by simp [Instr.fieldAt, Try.runUnderlying68, Instr.sureAddr, fieldPlace, Try.sizeOf61, Addr.add_lit], fun cs v w h => by simp [Instr.field, Try.runUnderlying68, asAgg, part, Try.isAgg61, h]⟩
instance : FieldT Try.prog 68 4 4 := ⟨fun b o w => by simp [Instr.fieldAt, Try.runUnderlying68, Instr.sureAddr, fieldPlace, Try.sizeOf5, Addr.add_lit], fun cs v w h => by simp [Instr.field, Try.runUnderlying68, asAgg, part, Try.isAgg5, h]⟩
instance : FieldT Try.prog 68 5 5 := ⟨fun b o w => by simp [Instr.fieldAt, Try.runUnderlying68, Instr.sureAddr, fieldPlace, Try.sizeOf5, Addr.add_lit], fun cs v w h => by simp [Instr.field, Try.runUnderlying68, asAgg, part, Try.isAgg5, h]⟩
instance : FieldT Try.prog 68 6 6 := ⟨fun b o w => by simp [Instr.fieldAt, Try.runUnderlying68, Instr.sureAddr, fieldPlace, Try.sizeOf62, Addr.add_lit], fun cs v w h => by simp [Instr.field, Try.runUnderlying68, asAgg, part, Try.isAgg62, h]⟩
instance : FieldT Try.prog 68 7 7 := ⟨fun b o w => by simp [Instr.fieldAt, Try.runUnderlying68, Instr.sureAddr, fieldPlace, Try.sizeOf63, Addr.add_lit], fun cs v w h => by simp [Instr.field, Try.runUnderlying68, asAgg, part, Try.isAgg63, h]⟩
instance : FieldT Try.prog 68 8 8 := ⟨fun b o w => by simp [Instr.fieldAt, Try.runUnderlying68, Instr.sureAddr, fieldPlace, Try.sizeOf64, Addr.add_lit], fun cs v w h => by simp [Instr.field, Try.runUnderlying68, asAgg, part, Try.isAgg64, h]⟩
instance : FieldT Try.prog 68 9 9 := ⟨fun b o w => by simp [Instr.fieldAt, Try.runUnderlying68, Instr.sureAddr, fieldPlace, Try.sizeOf65, Addr.add_lit], fun cs v w h => by simp [Instr.field, Try.runUnderlying68, asAgg, part, Try.isAgg65, h]⟩
instance : FieldT Try.prog 68 10 10 := ⟨fun b o w => by simp [Instr.fieldAt, Try.runUnderlying68, Instr.sureAddr, fieldPlace, Try.sizeOf66, Addr.add_lit], fun cs v w h => by simp [Instr.field, Try.runUnderlying68, asAgg, part, Try.isAgg66, h]⟩
instance : ZeroT Try.prog 68 [.int .u64 0, .int .u64 0, .int .u32 0, .int .u8 0, .int .u8 0, .int .u8 0, .int .u8 0, .nilFunc, .pointer none, .int .i32 0, .int .i32 0] := ⟨_, Try.zeroValue68, rfl⟩
instance : ScaT Try.prog 69 := ⟨Try.isAgg69, Try.sizeOf69⟩
instance : ZeroT Try.prog 69 [.pointer none] := ⟨_, Try.zeroValue69, rfl⟩
instance : FnT Try.prog 2 := ⟨Try.call2⟩
instance : FnT Try.prog 3 := ⟨Try.call3⟩
instance : FnT Try.prog 4 := ⟨Try.call4⟩
instance : FnT Try.prog 5 := ⟨Try.call5⟩
instance : FnT Try.prog 6 := ⟨Try.call6⟩
instance : FnT Try.prog 7 := ⟨Try.call7⟩
instance : FnT Try.prog 8 := ⟨Try.call8⟩
instance : FnT Try.prog 9 := ⟨Try.call9⟩
instance : FnT Try.prog 10 := ⟨Try.call10⟩
instance : FnT Try.prog 11 := ⟨Try.call11⟩
instance : FnT Try.prog 12 := ⟨Try.call12⟩
instance : FnT Try.prog 13 := ⟨Try.call13⟩
instance : FnT Try.prog 14 := ⟨Try.call14⟩
instance : FnT Try.prog 15 := ⟨Try.call15⟩
instance : FnT Try.prog 16 := ⟨Try.call16⟩
instance : FnT Try.prog 17 := ⟨Try.call17⟩
instance : FnT Try.prog 18 := ⟨Try.call18⟩
instance : FnT Try.prog 19 := ⟨Try.call19⟩
instance : FnT Try.prog 20 := ⟨Try.call20⟩
instance : FnT Try.prog 21 := ⟨Try.call21⟩
instance : FnT Try.prog 22 := ⟨Try.call22⟩
instance : FnT Try.prog 23 := ⟨Try.call23⟩
instance : FnT Try.prog 24 := ⟨Try.call24⟩
instance : FnT Try.prog 25 := ⟨Try.call25⟩
instance : FnT Try.prog 26 := ⟨Try.call26⟩
instance : FnT Try.prog 29 := ⟨Try.call29⟩
instance : FnT Try.prog 31 := ⟨Try.call31⟩
instance : FnT Try.prog 32 := ⟨Try.call32⟩
instance : FnT Try.prog 34 := ⟨Try.call34⟩
instance : FnT Try.prog 35 := ⟨Try.call35⟩
instance : FnT Try.prog 36 := ⟨Try.call36⟩
instance : FnT Try.prog 38 := ⟨Try.call38⟩
instance : FnT Try.prog 39 := ⟨Try.call39⟩
instance : FnT Try.prog 41 := ⟨Try.call41⟩
end Go.Proofs.Ytlllekaiickkoaa
