/-
  Facts of the types and functions of this seat, as instances (written by wip/gen_types.py).
-/
import Derived.Test.YtonbcbhnnflohaaChecked
import Derived.Test.YtonbcbhnnflohaaRules
namespace Go.Proofs.Ytonbcbhnnflohaa
instance : ScaT Try.prog 1 := ⟨Try.isAgg1, Try.sizeOf1⟩
instance : ZeroT Try.prog 1 [.nilFunc] := ⟨_, Try.zeroValue1, rfl⟩
instance : ScaT Try.prog 2 := ⟨Try.isAgg2, Try.sizeOf2⟩
instance : IntT Try.prog 2 .i64 := ⟨Try.underlying2⟩
instance : ZeroT Try.prog 2 [.int .i64 0] := ⟨_, Try.zeroValue2, rfl⟩
instance : ScaT Try.prog 3 := ⟨Try.isAgg3, Try.sizeOf3⟩
instance : IntT Try.prog 3 .i64 := ⟨Try.underlying3⟩
instance : ZeroT Try.prog 3 [.int .i64 0] := ⟨_, Try.zeroValue3, rfl⟩
instance : ScaT Try.prog 4 := ⟨Try.isAgg4, Try.sizeOf4⟩
instance : BoolT Try.prog 4 := ⟨Try.underlying4⟩
instance : ZeroT Try.prog 4 [.bool false] := ⟨_, Try.zeroValue4, rfl⟩
instance : ScaT Try.prog 5 := ⟨Try.isAgg5, Try.sizeOf5⟩
instance : IntT Try.prog 5 .u8 := ⟨Try.underlying5⟩
instance : ZeroT Try.prog 5 [.int .u8 0] := ⟨_, Try.zeroValue5, rfl⟩
theorem einfo5 : Try.prog.info? 5 = some Try.t5 := by kernel_rfl
instance : ElemT Try.prog 5 1 1 [.int .u8 0] := ⟨_, _, einfo5, rfl, rfl, rfl, rfl, rfl, by decide⟩
instance : ScaT Try.prog 6 := ⟨Try.isAgg6, Try.sizeOf6⟩
instance : IntT Try.prog 6 .u8 := ⟨Try.underlying6⟩
instance : ZeroT Try.prog 6 [.int .u8 0] := ⟨_, Try.zeroValue6, rfl⟩
instance : AggT Try.prog 7 4 := ⟨Try.isAgg7, Try.sizeOf7⟩
instance : FieldT Try.prog 7 0 0 := ⟨fun b o w => by simp [Instr.fieldAt, Try.runUnderlying7, Instr.sureAddr, fieldPlace, Try.sizeOf2, Addr.add_lit], fun cs v w h => by simp [Instr.field, Try.runUnderlying7, asAgg, part, Try.isAgg2, h]⟩
instance : FieldT Try.prog 7 1 1 := ⟨fun b o w => by simp [Instr.fieldAt, Try.runUnderlying7, Instr.sureAddr, fieldPlace, Try.sizeOf3, Addr.add_lit], fun cs v w h => by simp [Instr.field, Try.runUnderlying7, asAgg, part, Try.isAgg3, h]⟩
instance : FieldT Try.prog 7 2 2 := ⟨fun b o w => by simp [Instr.fieldAt, Try.runUnderlying7, Instr.sureAddr, fieldPlace, Try.sizeOf4, Addr.add_lit], fun cs v w h => by simp [Instr.field, Try.runUnderlying7, asAgg, part, Try.isAgg4, h]⟩
instance : FieldT Try.prog 7 3 3 := ⟨fun b o w => by simp [Instr.fieldAt, Try.runUnderlying7, Instr.sureAddr, fieldPlace, Try.sizeOf6, Addr.add_lit], fun cs v w h => by simp [Instr.field, Try.runUnderlying7, asAgg, part, Try.isAgg6, h]⟩
instance : ZeroT Try.prog 7 [.int .i64 0, .int .i64 0, .bool false, .int .u8 0] := ⟨_, Try.zeroValue7, rfl⟩
instance : AggT Try.prog 8 4 := ⟨Try.isAgg8, Try.sizeOf8⟩
instance : FieldT Try.prog 8 0 0 := ⟨fun b o w => by simp [Instr.fieldAt, Try.runUnderlying8, Instr.sureAddr, fieldPlace, Try.sizeOf2, Addr.add_lit], fun cs v w h => by simp [Instr.field, Try.runUnderlying8, asAgg, part, Try.isAgg2, h]⟩
instance : FieldT Try.prog 8 1 1 := ⟨fun b o w => by simp [Instr.fieldAt, Try.runUnderlying8, Instr.sureAddr, fieldPlace, Try.sizeOf3, Addr.add_lit], fun cs v w h => by simp [Instr.field, Try.runUnderlying8, asAgg, part, Try.isAgg3, h]⟩
instance : FieldT Try.prog 8 2 2 := ⟨fun b o w => by simp [Instr.fieldAt, Try.runUnderlying8, Instr.sureAddr, fieldPlace, Try.sizeOf4, Addr.add_lit], fun cs v w h => by simp [Instr.field, Try.runUnderlying8, asAgg, part, Try.isAgg4, h]⟩
instance : FieldT Try.prog 8 3 3 := ⟨fun b o w => by simp [Instr.fieldAt, Try.runUnderlying8, Instr.sureAddr, fieldPlace, Try.sizeOf6, Addr.add_lit], fun cs v w h => by simp [Instr.field, Try.runUnderlying8, asAgg, part, Try.isAgg6, h]⟩
instance : ZeroT Try.prog 8 [.int .i64 0, .int .i64 0, .bool false, .int .u8 0] := ⟨_, Try.zeroValue8, rfl⟩
instance : ScaT Try.prog 9 := ⟨Try.isAgg9, Try.sizeOf9⟩
instance : ZeroT Try.prog 9 [.string ByteArray.empty] := ⟨_, Try.zeroValue9, rfl⟩
instance : ScaT Try.prog 10 := ⟨Try.isAgg10, Try.sizeOf10⟩
instance : ZeroT Try.prog 10 [.string ByteArray.empty] := ⟨_, Try.zeroValue10, rfl⟩
instance : ScaT Try.prog 11 := ⟨Try.isAgg11, Try.sizeOf11⟩
instance : ZeroT Try.prog 11 [.string ByteArray.empty] := ⟨_, Try.zeroValue11, rfl⟩
instance : ScaT Try.prog 12 := ⟨Try.isAgg12, Try.sizeOf12⟩
instance : IntT Try.prog 12 .u64 := ⟨Try.underlying12⟩
instance : ZeroT Try.prog 12 [.int .u64 0] := ⟨_, Try.zeroValue12, rfl⟩
instance : AggT Try.prog 13 2 := ⟨Try.isAgg13, Try.sizeOf13⟩
instance : FieldT Try.prog 13 0 0 := ⟨fun b o w => by simp [Instr.fieldAt, Try.runUnderlying13, Instr.sureAddr, fieldPlace, Try.sizeOf9, Addr.add_lit], fun cs v w h => by simp [Instr.field, Try.runUnderlying13, asAgg, part, Try.isAgg9, h]⟩
instance : FieldT Try.prog 13 1 1 := ⟨fun b o w => by simp [Instr.fieldAt, Try.runUnderlying13, Instr.sureAddr, fieldPlace, Try.sizeOf12, Addr.add_lit], fun cs v w h => by simp [Instr.field, Try.runUnderlying13, asAgg, part, Try.isAgg12, h]⟩
instance : ZeroT Try.prog 13 [.string ByteArray.empty, .int .u64 0] := ⟨_, Try.zeroValue13, rfl⟩
instance : AggT Try.prog 14 2 := ⟨Try.isAgg14, Try.sizeOf14⟩
instance : FieldT Try.prog 14 0 0 := ⟨fun b o w => by simp [Instr.fieldAt, Try.runUnderlying14, Instr.sureAddr, fieldPlace, Try.sizeOf9, Addr.add_lit], fun cs v w h => by simp [Instr.field, Try.runUnderlying14, asAgg, part, Try.isAgg9, h]⟩
instance : FieldT Try.prog 14 1 1 := ⟨fun b o w => by simp [Instr.fieldAt, Try.runUnderlying14, Instr.sureAddr, fieldPlace, Try.sizeOf12, Addr.add_lit], fun cs v w h => by simp [Instr.field, Try.runUnderlying14, asAgg, part, Try.isAgg12, h]⟩
instance : ZeroT Try.prog 14 [.string ByteArray.empty, .int .u64 0] := ⟨_, Try.zeroValue14, rfl⟩
instance : ScaT Try.prog 15 := ⟨Try.isAgg15, Try.sizeOf15⟩
instance : ZeroT Try.prog 15 [.pointer none] := ⟨_, Try.zeroValue15, rfl⟩
instance : ScaT Try.prog 16 := ⟨Try.isAgg16, Try.sizeOf16⟩
instance : ZeroT Try.prog 16 [.pointer none] := ⟨_, Try.zeroValue16, rfl⟩
instance : ScaT Try.prog 17 := ⟨Try.isAgg17, Try.sizeOf17⟩
instance : ZeroT Try.prog 17 [.pointer none] := ⟨_, Try.zeroValue17, rfl⟩
instance : AggT Try.prog 18 1 := ⟨Try.isAgg18, Try.sizeOf18⟩
instance : FieldT Try.prog 18 0 0 := ⟨fun b o w => by simp [Instr.fieldAt, Try.runUnderlying18, Instr.sureAddr, fieldPlace, Try.sizeOf17, Addr.add_lit], fun cs v w h => by simp [Instr.field, Try.runUnderlying18, asAgg, part, Try.isAgg17, h]⟩
instance : ZeroT Try.prog 18 [.pointer none] := ⟨_, Try.zeroValue18, rfl⟩
instance : AggT Try.prog 19 1 := ⟨Try.isAgg19, Try.sizeOf19⟩
instance : FieldT Try.prog 19 0 0 := ⟨fun b o w => by simp [Instr.fieldAt, Try.runUnderlying19, Instr.sureAddr, fieldPlace, Try.sizeOf17, Addr.add_lit], fun cs v w h => by simp [Instr.field, Try.runUnderlying19, asAgg, part, Try.isAgg17, h]⟩
instance : ZeroT Try.prog 19 [.pointer none] := ⟨_, Try.zeroValue19, rfl⟩
instance : ScaT Try.prog 21 := ⟨Try.isAgg21, Try.sizeOf21⟩
instance : IntT Try.prog 21 .i32 := ⟨Try.underlying21⟩
instance : ZeroT Try.prog 21 [.int .i32 0] := ⟨_, Try.zeroValue21, rfl⟩
instance : ScaT Try.prog 22 := ⟨Try.isAgg22, Try.sizeOf22⟩
instance : SliceT Try.prog 22 5 := ⟨Try.underlying22⟩
instance : ZeroT Try.prog 22 [.slice none 0 0] := ⟨_, Try.zeroValue22, rfl⟩
instance : ScaT Try.prog 23 := ⟨Try.isAgg23, Try.sizeOf23⟩
instance : ZeroT Try.prog 23 [.nilFunc] := ⟨_, Try.zeroValue23, rfl⟩
instance : ScaT Try.prog 24 := ⟨Try.isAgg24, Try.sizeOf24⟩
instance : SliceT Try.prog 24 31 := ⟨Try.underlying24⟩
instance : ZeroT Try.prog 24 [.slice none 0 0] := ⟨_, Try.zeroValue24, rfl⟩
instance : ScaT Try.prog 25 := ⟨Try.isAgg25, Try.sizeOf25⟩
instance : SliceT Try.prog 25 29 := ⟨Try.underlying25⟩
instance : ZeroT Try.prog 25 [.slice none 0 0] := ⟨_, Try.zeroValue25, rfl⟩
instance : AggT Try.prog 26 2 := ⟨Try.isAgg26, Try.sizeOf26⟩
instance : FieldT Try.prog 26 0 0 := ⟨fun b o w => by simp [Instr.fieldAt, Try.runUnderlying26, Instr.sureAddr, fieldPlace, Try.sizeOf24, Addr.add_lit], fun cs v w h => by simp [Instr.field, Try.runUnderlying26, asAgg, part, Try.isAgg24, h]⟩
instance : FieldT Try.prog 26 1 1 := ⟨fun b o w => by simp [Instr.fieldAt, Try.runUnderlying26, Instr.sureAddr, fieldPlace, Try.sizeOf25, Addr.add_lit], fun cs v w h => by simp [Instr.field, Try.runUnderlying26, asAgg, part, Try.isAgg25, h]⟩
instance : ZeroT Try.prog 26 [.slice none 0 0, .slice none 0 0] := ⟨_, Try.zeroValue26, rfl⟩
instance : AggT Try.prog 27 2 := ⟨Try.isAgg27, Try.sizeOf27⟩
instance : FieldT Try.prog 27 0 0 := ⟨fun b o w => by simp [Instr.fieldAt, Try.runUnderlying27, Instr.sureAddr, fieldPlace, Try.sizeOf24, Addr.add_lit], fun cs v w h => by simp [Instr.field, Try.runUnderlying27, asAgg, part, Try.isAgg24, h]⟩
instance : FieldT Try.prog 27 1 1 := ⟨fun b o w => by simp [Instr.fieldAt, Try.runUnderlying27, Instr.sureAddr, fieldPlace, Try.sizeOf25, Addr.add_lit], fun cs v w h => by simp [Instr.field, Try.runUnderlying27, asAgg, part, Try.isAgg25, h]⟩
instance : ZeroT Try.prog 27 [.slice none 0 0, .slice none 0 0] := ⟨_, Try.zeroValue27, rfl⟩
theorem einfo27 : Try.prog.info? 27 = some Try.t27 := by kernel_rfl
instance : ElemT Try.prog 27 2 48 [.slice none 0 0, .slice none 0 0] := ⟨_, _, einfo27, rfl, rfl, rfl, rfl, rfl, by decide⟩
instance : ScaT Try.prog 28 := ⟨Try.isAgg28, Try.sizeOf28⟩
instance : ZeroT Try.prog 28 [.nilFunc] := ⟨_, Try.zeroValue28, rfl⟩
instance : ScaT Try.prog 29 := ⟨Try.isAgg29, Try.sizeOf29⟩
instance : FloatT Try.prog 29 .f32 := ⟨Try.underlying29⟩
instance : ZeroT Try.prog 29 [.float .f32 0] := ⟨_, Try.zeroValue29, rfl⟩
theorem einfo29 : Try.prog.info? 29 = some Try.t29 := by kernel_rfl
instance : ElemT Try.prog 29 1 4 [.float .f32 0] := ⟨_, _, einfo29, rfl, rfl, rfl, rfl, rfl, by decide⟩
instance : ScaT Try.prog 30 := ⟨Try.isAgg30, Try.sizeOf30⟩
instance : ZeroT Try.prog 30 [.nilFunc] := ⟨_, Try.zeroValue30, rfl⟩
instance : ScaT Try.prog 31 := ⟨Try.isAgg31, Try.sizeOf31⟩
instance : CplxT Try.prog 31 .f32 := ⟨Try.underlying31⟩
instance : ZeroT Try.prog 31 [.complex .f32 0 0] := ⟨_, Try.zeroValue31, rfl⟩
theorem einfo31 : Try.prog.info? 31 = some Try.t31 := by kernel_rfl
instance : ElemT Try.prog 31 1 8 [.complex .f32 0 0] := ⟨_, _, einfo31, rfl, rfl, rfl, rfl, rfl, by decide⟩
instance : ScaT Try.prog 33 := ⟨Try.isAgg33, Try.sizeOf33⟩
instance : ZeroT Try.prog 33 [.nilFunc] := ⟨_, Try.zeroValue33, rfl⟩
instance : ScaT Try.prog 35 := ⟨Try.isAgg35, Try.sizeOf35⟩
instance : ZeroT Try.prog 35 [.nilFunc] := ⟨_, Try.zeroValue35, rfl⟩
instance : ScaT Try.prog 37 := ⟨Try.isAgg37, Try.sizeOf37⟩
instance : ZeroT Try.prog 37 [.nilFunc] := ⟨_, Try.zeroValue37, rfl⟩
instance : ScaT Try.prog 38 := ⟨Try.isAgg38, Try.sizeOf38⟩
instance : FloatT Try.prog 38 .f64 := ⟨Try.underlying38⟩
instance : ZeroT Try.prog 38 [.float .f64 0] := ⟨_, Try.zeroValue38, rfl⟩
instance : ScaT Try.prog 39 := ⟨Try.isAgg39, Try.sizeOf39⟩
instance : ZeroT Try.prog 39 [.nilFunc] := ⟨_, Try.zeroValue39, rfl⟩
instance : ScaT Try.prog 40 := ⟨Try.isAgg40, Try.sizeOf40⟩
instance : ZeroT Try.prog 40 [.nilFunc] := ⟨_, Try.zeroValue40, rfl⟩
instance : ScaT Try.prog 41 := ⟨Try.isAgg41, Try.sizeOf41⟩
instance : ZeroT Try.prog 41 [.nilFunc] := ⟨_, Try.zeroValue41, rfl⟩
instance : ScaT Try.prog 42 := ⟨Try.isAgg42, Try.sizeOf42⟩
instance : ZeroT Try.prog 42 [.nilFunc] := ⟨_, Try.zeroValue42, rfl⟩
instance : ScaT Try.prog 43 := ⟨Try.isAgg43, Try.sizeOf43⟩
instance : ZeroT Try.prog 43 [.nilFunc] := ⟨_, Try.zeroValue43, rfl⟩
instance : ScaT Try.prog 45 := ⟨Try.isAgg45, Try.sizeOf45⟩
instance : ZeroT Try.prog 45 [.nilFunc] := ⟨_, Try.zeroValue45, rfl⟩
instance : ScaT Try.prog 47 := ⟨Try.isAgg47, Try.sizeOf47⟩
instance : ZeroT Try.prog 47 [.nilFunc] := ⟨_, Try.zeroValue47, rfl⟩
instance : ScaT Try.prog 48 := ⟨Try.isAgg48, Try.sizeOf48⟩
instance : ZeroT Try.prog 48 [.nilFunc] := ⟨_, Try.zeroValue48, rfl⟩
instance : ScaT Try.prog 49 := ⟨Try.isAgg49, Try.sizeOf49⟩
instance : ZeroT Try.prog 49 [.nilFunc] := ⟨_, Try.zeroValue49, rfl⟩
instance : ScaT Try.prog 50 := ⟨Try.isAgg50, Try.sizeOf50⟩
instance : ZeroT Try.prog 50 [.nilFunc] := ⟨_, Try.zeroValue50, rfl⟩
instance : ScaT Try.prog 52 := ⟨Try.isAgg52, Try.sizeOf52⟩
instance : ZeroT Try.prog 52 [.nilFunc] := ⟨_, Try.zeroValue52, rfl⟩
instance : ScaT Try.prog 54 := ⟨Try.isAgg54, Try.sizeOf54⟩
instance : ZeroT Try.prog 54 [.nilFunc] := ⟨_, Try.zeroValue54, rfl⟩
instance : ScaT Try.prog 55 := ⟨Try.isAgg55, Try.sizeOf55⟩
instance : ZeroT Try.prog 55 [.nilFunc] := ⟨_, Try.zeroValue55, rfl⟩
instance : ScaT Try.prog 56 := ⟨Try.isAgg56, Try.sizeOf56⟩
instance : ZeroT Try.prog 56 [.nilFunc] := ⟨_, Try.zeroValue56, rfl⟩
instance : ScaT Try.prog 57 := ⟨Try.isAgg57, Try.sizeOf57⟩
instance : ZeroT Try.prog 57 [.nilFunc] := ⟨_, Try.zeroValue57, rfl⟩
instance : ScaT Try.prog 58 := ⟨Try.isAgg58, Try.sizeOf58⟩
instance : ZeroT Try.prog 58 [.nilFunc] := ⟨_, Try.zeroValue58, rfl⟩
instance : ScaT Try.prog 60 := ⟨Try.isAgg60, Try.sizeOf60⟩
instance : ZeroT Try.prog 60 [.nilFunc] := ⟨_, Try.zeroValue60, rfl⟩
instance : ScaT Try.prog 62 := ⟨Try.isAgg62, Try.sizeOf62⟩
instance : ZeroT Try.prog 62 [.nilFunc] := ⟨_, Try.zeroValue62, rfl⟩
instance : ScaT Try.prog 63 := ⟨Try.isAgg63, Try.sizeOf63⟩
instance : ZeroT Try.prog 63 [.nilFunc] := ⟨_, Try.zeroValue63, rfl⟩
instance : ScaT Try.prog 64 := ⟨Try.isAgg64, Try.sizeOf64⟩
instance : SliceT Try.prog 64 27 := ⟨Try.underlying64⟩
instance : ZeroT Try.prog 64 [.slice none 0 0] := ⟨_, Try.zeroValue64, rfl⟩
instance : ScaT Try.prog 65 := ⟨Try.isAgg65, Try.sizeOf65⟩
instance : ZeroT Try.prog 65 [.nilFunc] := ⟨_, Try.zeroValue65, rfl⟩
instance : ScaT Try.prog 66 := ⟨Try.isAgg66, Try.sizeOf66⟩
instance : ZeroT Try.prog 66 [.nilFunc] := ⟨_, Try.zeroValue66, rfl⟩
instance : ScaT Try.prog 67 := ⟨Try.isAgg67, Try.sizeOf67⟩
instance : ZeroT Try.prog 67 [.nilFunc] := ⟨_, Try.zeroValue67, rfl⟩
instance : ScaT Try.prog 68 := ⟨Try.isAgg68, Try.sizeOf68⟩
instance : ZeroT Try.prog 68 [.pointer none] := ⟨_, Try.zeroValue68, rfl⟩
instance : ScaT Try.prog 69 := ⟨Try.isAgg69, Try.sizeOf69⟩
instance : ZeroT Try.prog 69 [.nilFunc] := ⟨_, Try.zeroValue69, rfl⟩
instance : ScaT Try.prog 70 := ⟨Try.isAgg70, Try.sizeOf70⟩
instance : ZeroT Try.prog 70 [.nilFunc] := ⟨_, Try.zeroValue70, rfl⟩
instance : ScaT Try.prog 71 := ⟨Try.isAgg71, Try.sizeOf71⟩
instance : ZeroT Try.prog 71 [.nilFunc] := ⟨_, Try.zeroValue71, rfl⟩
instance : ScaT Try.prog 72 := ⟨Try.isAgg72, Try.sizeOf72⟩
instance : ZeroT Try.prog 72 [.nilFunc] := ⟨_, Try.zeroValue72, rfl⟩
instance : ScaT Try.prog 73 := ⟨Try.isAgg73, Try.sizeOf73⟩
instance : ZeroT Try.prog 73 [.nilFunc] := ⟨_, Try.zeroValue73, rfl⟩
instance : ScaT Try.prog 74 := ⟨Try.isAgg74, Try.sizeOf74⟩
instance : ZeroT Try.prog 74 [.nilFunc] := ⟨_, Try.zeroValue74, rfl⟩
instance : ScaT Try.prog 76 := ⟨Try.isAgg76, Try.sizeOf76⟩
instance : ZeroT Try.prog 76 [.nilFunc] := ⟨_, Try.zeroValue76, rfl⟩
instance : ScaT Try.prog 77 := ⟨Try.isAgg77, Try.sizeOf77⟩
instance : ZeroT Try.prog 77 [.nilFunc] := ⟨_, Try.zeroValue77, rfl⟩
instance : ScaT Try.prog 79 := ⟨Try.isAgg79, Try.sizeOf79⟩
instance : ZeroT Try.prog 79 [.nilFunc] := ⟨_, Try.zeroValue79, rfl⟩
instance : ScaT Try.prog 80 := ⟨Try.isAgg80, Try.sizeOf80⟩
instance : ZeroT Try.prog 80 [.nilFunc] := ⟨_, Try.zeroValue80, rfl⟩
instance : ScaT Try.prog 81 := ⟨Try.isAgg81, Try.sizeOf81⟩
instance : ZeroT Try.prog 81 [.nilFunc] := ⟨_, Try.zeroValue81, rfl⟩
instance : ScaT Try.prog 82 := ⟨Try.isAgg82, Try.sizeOf82⟩
instance : ZeroT Try.prog 82 [.nilFunc] := ⟨_, Try.zeroValue82, rfl⟩
instance : ScaT Try.prog 83 := ⟨Try.isAgg83, Try.sizeOf83⟩
instance : ZeroT Try.prog 83 [.nilFunc] := ⟨_, Try.zeroValue83, rfl⟩
instance : ScaT Try.prog 84 := ⟨Try.isAgg84, Try.sizeOf84⟩
instance : ZeroT Try.prog 84 [.nilFunc] := ⟨_, Try.zeroValue84, rfl⟩
instance : ScaT Try.prog 85 := ⟨Try.isAgg85, Try.sizeOf85⟩
instance : ZeroT Try.prog 85 [.nilFunc] := ⟨_, Try.zeroValue85, rfl⟩
instance : ScaT Try.prog 86 := ⟨Try.isAgg86, Try.sizeOf86⟩
instance : ZeroT Try.prog 86 [.nilFunc] := ⟨_, Try.zeroValue86, rfl⟩
instance : ScaT Try.prog 87 := ⟨Try.isAgg87, Try.sizeOf87⟩
instance : ZeroT Try.prog 87 [.nilFunc] := ⟨_, Try.zeroValue87, rfl⟩
instance : ScaT Try.prog 88 := ⟨Try.isAgg88, Try.sizeOf88⟩
instance : ZeroT Try.prog 88 [.nilFunc] := ⟨_, Try.zeroValue88, rfl⟩
instance : ScaT Try.prog 89 := ⟨Try.isAgg89, Try.sizeOf89⟩
instance : ZeroT Try.prog 89 [.nilFunc] := ⟨_, Try.zeroValue89, rfl⟩
instance : ScaT Try.prog 90 := ⟨Try.isAgg90, Try.sizeOf90⟩
instance : ZeroT Try.prog 90 [.nilFunc] := ⟨_, Try.zeroValue90, rfl⟩
instance : ScaT Try.prog 91 := ⟨Try.isAgg91, Try.sizeOf91⟩
instance : ZeroT Try.prog 91 [.nilFunc] := ⟨_, Try.zeroValue91, rfl⟩
instance : ScaT Try.prog 92 := ⟨Try.isAgg92, Try.sizeOf92⟩
instance : ZeroT Try.prog 92 [.nilFunc] := ⟨_, Try.zeroValue92, rfl⟩
instance : ScaT Try.prog 94 := ⟨Try.isAgg94, Try.sizeOf94⟩
instance : ZeroT Try.prog 94 [.nilFunc] := ⟨_, Try.zeroValue94, rfl⟩
instance : ScaT Try.prog 95 := ⟨Try.isAgg95, Try.sizeOf95⟩
instance : ZeroT Try.prog 95 [.nilFunc] := ⟨_, Try.zeroValue95, rfl⟩
instance : ScaT Try.prog 96 := ⟨Try.isAgg96, Try.sizeOf96⟩
instance : ZeroT Try.prog 96 [.pointer none] := ⟨_, Try.zeroValue96, rfl⟩
instance : ScaT Try.prog 97 := ⟨Try.isAgg97, Try.sizeOf97⟩
instance : ZeroT Try.prog 97 [.nilFunc] := ⟨_, Try.zeroValue97, rfl⟩
instance : ScaT Try.prog 98 := ⟨Try.isAgg98, Try.sizeOf98⟩
instance : ZeroT Try.prog 98 [.nilFunc] := ⟨_, Try.zeroValue98, rfl⟩
instance : ScaT Try.prog 99 := ⟨Try.isAgg99, Try.sizeOf99⟩
instance : ZeroT Try.prog 99 [.nilFunc] := ⟨_, Try.zeroValue99, rfl⟩
instance : ScaT Try.prog 101 := ⟨Try.isAgg101, Try.sizeOf101⟩
instance : ZeroT Try.prog 101 [.nilFunc] := ⟨_, Try.zeroValue101, rfl⟩
instance : ScaT Try.prog 102 := ⟨Try.isAgg102, Try.sizeOf102⟩
instance : ZeroT Try.prog 102 [.nilFunc] := ⟨_, Try.zeroValue102, rfl⟩
instance : ScaT Try.prog 103 := ⟨Try.isAgg103, Try.sizeOf103⟩
instance : ZeroT Try.prog 103 [.nilFunc] := ⟨_, Try.zeroValue103, rfl⟩
instance : ScaT Try.prog 104 := ⟨Try.isAgg104, Try.sizeOf104⟩
instance : ZeroT Try.prog 104 [.nilFunc] := ⟨_, Try.zeroValue104, rfl⟩
instance : ScaT Try.prog 105 := ⟨Try.isAgg105, Try.sizeOf105⟩
instance : ZeroT Try.prog 105 [.nilFunc] := ⟨_, Try.zeroValue105, rfl⟩
instance : ScaT Try.prog 106 := ⟨Try.isAgg106, Try.sizeOf106⟩
instance : ZeroT Try.prog 106 [.nilFunc] := ⟨_, Try.zeroValue106, rfl⟩
instance : ScaT Try.prog 107 := ⟨Try.isAgg107, Try.sizeOf107⟩
instance : ZeroT Try.prog 107 [.nilFunc] := ⟨_, Try.zeroValue107, rfl⟩
instance : ScaT Try.prog 108 := ⟨Try.isAgg108, Try.sizeOf108⟩
instance : ZeroT Try.prog 108 [.nilFunc] := ⟨_, Try.zeroValue108, rfl⟩
instance : ScaT Try.prog 109 := ⟨Try.isAgg109, Try.sizeOf109⟩
instance : ZeroT Try.prog 109 [.nilFunc] := ⟨_, Try.zeroValue109, rfl⟩
instance : ScaT Try.prog 110 := ⟨Try.isAgg110, Try.sizeOf110⟩
instance : IntT Try.prog 110 .u64 := ⟨Try.underlying110⟩
instance : ZeroT Try.prog 110 [.int .u64 0] := ⟨_, Try.zeroValue110, rfl⟩
instance : AggT Try.prog 111 3 := ⟨Try.isAgg111, Try.sizeOf111⟩
instance : FieldT Try.prog 111 0 0 := ⟨fun b o w => by simp [Instr.fieldAt, Try.runUnderlying111, Instr.sureAddr, fieldPlace, Try.sizeOf22, Addr.add_lit], fun cs v w h => by simp [Instr.field, Try.runUnderlying111, asAgg, part, Try.isAgg22, h]⟩
instance : FieldT Try.prog 111 1 1 := ⟨fun b o w => by simp [Instr.fieldAt, Try.runUnderlying111, Instr.sureAddr, fieldPlace, Try.sizeOf3, Addr.add_lit], fun cs v w h => by simp [Instr.field, Try.runUnderlying111, asAgg, part, Try.isAgg3, h]⟩
instance : FieldT Try.prog 111 2 2 := ⟨fun b o w => by simp [Instr.fieldAt, Try.runUnderlying111, Instr.sureAddr, fieldPlace, Try.sizeOf110, Addr.add_lit], fun cs v w h => by simp [Instr.field, Try.runUnderlying111, asAgg, part, Try.isAgg110, h]⟩
instance : ZeroT Try.prog 111 [.slice none 0 0, .int .i64 0, .int .u64 0] := ⟨_, Try.zeroValue111, rfl⟩
instance : AggT Try.prog 112 3 := ⟨Try.isAgg112, Try.sizeOf112⟩
instance : FieldT Try.prog 112 0 0 := ⟨fun b o w => by simp [Instr.fieldAt, Try.runUnderlying112, Instr.sureAddr, fieldPlace, Try.sizeOf22, Addr.add_lit], fun cs v w h => by simp [Instr.field, Try.runUnderlying112, asAgg, part, Try.isAgg22, h]⟩
instance : FieldT Try.prog 112 1 1 := ⟨fun b o w => by simp [Instr.fieldAt, Try.runUnderlying112, Instr.sureAddr, fieldPlace, Try.sizeOf3, Addr.add_lit], fun cs v w h => by simp [Instr.field, Try.runUnderlying112, asAgg, part, Try.isAgg3, h]⟩
instance : FieldT Try.prog 112 2 2 := ⟨fun b o w => by simp [Instr.fieldAt, Try.runUnderlying112, Instr.sureAddr, fieldPlace, Try.sizeOf110, Addr.add_lit], fun cs v w h => by simp [Instr.field, Try.runUnderlying112, asAgg, part, Try.isAgg110, h]⟩
instance : ZeroT Try.prog 112 [.slice none 0 0, .int .i64 0, .int .u64 0] := ⟨_, Try.zeroValue112, rfl⟩
instance : ScaT Try.prog 113 := ⟨Try.isAgg113, Try.sizeOf113⟩
instance : ZeroT Try.prog 113 [.nilFunc] := ⟨_, Try.zeroValue113, rfl⟩
instance : ScaT Try.prog 114 := ⟨Try.isAgg114, Try.sizeOf114⟩
instance : ZeroT Try.prog 114 [.nilFunc] := ⟨_, Try.zeroValue114, rfl⟩
instance : ScaT Try.prog 115 := ⟨Try.isAgg115, Try.sizeOf115⟩
instance : ZeroT Try.prog 115 [.nilFunc] := ⟨_, Try.zeroValue115, rfl⟩
instance : ScaT Try.prog 116 := ⟨Try.isAgg116, Try.sizeOf116⟩
instance : ZeroT Try.prog 116 [.nilFunc] := ⟨_, Try.zeroValue116, rfl⟩
instance : ScaT Try.prog 117 := ⟨Try.isAgg117, Try.sizeOf117⟩
instance : ZeroT Try.prog 117 [.nilFunc] := ⟨_, Try.zeroValue117, rfl⟩
instance : ScaT Try.prog 118 := ⟨Try.isAgg118, Try.sizeOf118⟩
instance : ZeroT Try.prog 118 [.nilFunc] := ⟨_, Try.zeroValue118, rfl⟩
instance : ScaT Try.prog 119 := ⟨Try.isAgg119, Try.sizeOf119⟩
instance : ZeroT Try.prog 119 [.nilFunc] := ⟨_, Try.zeroValue119, rfl⟩
instance : ScaT Try.prog 120 := ⟨Try.isAgg120, Try.sizeOf120⟩
instance : ZeroT Try.prog 120 [.nilFunc] := ⟨_, Try.zeroValue120, rfl⟩
instance : ScaT Try.prog 121 := ⟨Try.isAgg121, Try.sizeOf121⟩
instance : ZeroT Try.prog 121 [.nilFunc] := ⟨_, Try.zeroValue121, rfl⟩
instance : ScaT Try.prog 122 := ⟨Try.isAgg122, Try.sizeOf122⟩
instance : ZeroT Try.prog 122 [.nilFunc] := ⟨_, Try.zeroValue122, rfl⟩
instance : ScaT Try.prog 123 := ⟨Try.isAgg123, Try.sizeOf123⟩
instance : ZeroT Try.prog 123 [.nilFunc] := ⟨_, Try.zeroValue123, rfl⟩
instance : ScaT Try.prog 124 := ⟨Try.isAgg124, Try.sizeOf124⟩
instance : ZeroT Try.prog 124 [.nilFunc] := ⟨_, Try.zeroValue124, rfl⟩
instance : ScaT Try.prog 125 := ⟨Try.isAgg125, Try.sizeOf125⟩
instance : ZeroT Try.prog 125 [.nilFunc] := ⟨_, Try.zeroValue125, rfl⟩
instance : ScaT Try.prog 127 := ⟨Try.isAgg127, Try.sizeOf127⟩
instance : ZeroT Try.prog 127 [.nilFunc] := ⟨_, Try.zeroValue127, rfl⟩
instance : ScaT Try.prog 128 := ⟨Try.isAgg128, Try.sizeOf128⟩
instance : ZeroT Try.prog 128 [.nilFunc] := ⟨_, Try.zeroValue128, rfl⟩
instance : ScaT Try.prog 129 := ⟨Try.isAgg129, Try.sizeOf129⟩
instance : ZeroT Try.prog 129 [.nilFunc] := ⟨_, Try.zeroValue129, rfl⟩
instance : ScaT Try.prog 130 := ⟨Try.isAgg130, Try.sizeOf130⟩
instance : ZeroT Try.prog 130 [.nilFunc] := ⟨_, Try.zeroValue130, rfl⟩
instance : ScaT Try.prog 131 := ⟨Try.isAgg131, Try.sizeOf131⟩
instance : ZeroT Try.prog 131 [.nilFunc] := ⟨_, Try.zeroValue131, rfl⟩
instance : ScaT Try.prog 132 := ⟨Try.isAgg132, Try.sizeOf132⟩
instance : ZeroT Try.prog 132 [.nilFunc] := ⟨_, Try.zeroValue132, rfl⟩
instance : ScaT Try.prog 133 := ⟨Try.isAgg133, Try.sizeOf133⟩
instance : ZeroT Try.prog 133 [.nilFunc] := ⟨_, Try.zeroValue133, rfl⟩
instance : ScaT Try.prog 134 := ⟨Try.isAgg134, Try.sizeOf134⟩
instance : ZeroT Try.prog 134 [.nilFunc] := ⟨_, Try.zeroValue134, rfl⟩
instance : ScaT Try.prog 135 := ⟨Try.isAgg135, Try.sizeOf135⟩
instance : ZeroT Try.prog 135 [.nilFunc] := ⟨_, Try.zeroValue135, rfl⟩
instance : ScaT Try.prog 136 := ⟨Try.isAgg136, Try.sizeOf136⟩
instance : ZeroT Try.prog 136 [.nilFunc] := ⟨_, Try.zeroValue136, rfl⟩
instance : ScaT Try.prog 137 := ⟨Try.isAgg137, Try.sizeOf137⟩
instance : ZeroT Try.prog 137 [.nilFunc] := ⟨_, Try.zeroValue137, rfl⟩
instance : ScaT Try.prog 138 := ⟨Try.isAgg138, Try.sizeOf138⟩
instance : ZeroT Try.prog 138 [.nilFunc] := ⟨_, Try.zeroValue138, rfl⟩
instance : ScaT Try.prog 139 := ⟨Try.isAgg139, Try.sizeOf139⟩
instance : IntT Try.prog 139 .u32 := ⟨Try.underlying139⟩
instance : ZeroT Try.prog 139 [.int .u32 0] := ⟨_, Try.zeroValue139, rfl⟩
instance : ScaT Try.prog 140 := ⟨Try.isAgg140, Try.sizeOf140⟩
instance : ZeroT Try.prog 140 [.nilFunc] := ⟨_, Try.zeroValue140, rfl⟩
instance : ScaT Try.prog 141 := ⟨Try.isAgg141, Try.sizeOf141⟩
instance : IntT Try.prog 141 .u64 := ⟨Try.underlying141⟩
instance : ZeroT Try.prog 141 [.int .u64 0] := ⟨_, Try.zeroValue141, rfl⟩
instance : ScaT Try.prog 142 := ⟨Try.isAgg142, Try.sizeOf142⟩
instance : ZeroT Try.prog 142 [.nilFunc] := ⟨_, Try.zeroValue142, rfl⟩
instance : ScaT Try.prog 143 := ⟨Try.isAgg143, Try.sizeOf143⟩
instance : ZeroT Try.prog 143 [.nilFunc] := ⟨_, Try.zeroValue143, rfl⟩
instance : ScaT Try.prog 144 := ⟨Try.isAgg144, Try.sizeOf144⟩
instance : ZeroT Try.prog 144 [.nilFunc] := ⟨_, Try.zeroValue144, rfl⟩
instance : ScaT Try.prog 145 := ⟨Try.isAgg145, Try.sizeOf145⟩
instance : ZeroT Try.prog 145 [.nilFunc] := ⟨_, Try.zeroValue145, rfl⟩
instance : ScaT Try.prog 146 := ⟨Try.isAgg146, Try.sizeOf146⟩
instance : ZeroT Try.prog 146 [.nilFunc] := ⟨_, Try.zeroValue146, rfl⟩
instance : ScaT Try.prog 147 := ⟨Try.isAgg147, Try.sizeOf147⟩
instance : ZeroT Try.prog 147 [.nilFunc] := ⟨_, Try.zeroValue147, rfl⟩
instance : AggT Try.prog 148 4 := ⟨Try.isAgg148, Try.sizeOf148⟩
instance : FieldT Try.prog 148 0 0 := ⟨fun b o w => by simp [Instr.fieldAt, Try.runUnderlying148, Instr.sureAddr, fieldPlace, Try.sizeOf17, Addr.add_lit], fun cs v w h => by simp [Instr.field, Try.runUnderlying148, asAgg, part, Try.isAgg17, h]⟩
instance : FieldT Try.prog 148 1 1 := ⟨fun b o w => by simp [Instr.fieldAt, Try.runUnderlying148, Instr.sureAddr, fieldPlace, Try.sizeOf17, Addr.add_lit], fun cs v w h => by simp [Instr.field, Try.runUnderlying148, asAgg, part, Try.isAgg17, h]⟩
instance : FieldT Try.prog 148 2 2 := ⟨fun b o w => by simp [Instr.fieldAt, Try.runUnderlying148, Instr.sureAddr, fieldPlace, Try.sizeOf17, Addr.add_lit], fun cs v w h => by simp [Instr.field, Try.runUnderlying148, asAgg, part, Try.isAgg17, h]⟩
instance : FieldT Try.prog 148 3 3 := ⟨fun b o w => by simp [Instr.fieldAt, Try.runUnderlying148, Instr.sureAddr, fieldPlace, Try.sizeOf9, Addr.add_lit], fun cs v w h => by simp [Instr.field, Try.runUnderlying148, asAgg, part, Try.isAgg9, h]⟩
instance : ZeroT Try.prog 148 [.pointer none, .pointer none, .pointer none, .string ByteArray.empty] := ⟨_, Try.zeroValue148, rfl⟩
instance : AggT Try.prog 149 4 := ⟨Try.isAgg149, Try.sizeOf149⟩
instance : FieldT Try.prog 149 0 0 := ⟨fun b o w => by simp [Instr.fieldAt, Try.runUnderlying149, Instr.sureAddr, fieldPlace, Try.sizeOf17, Addr.add_lit], fun cs v w h => by simp [Instr.field, Try.runUnderlying149, asAgg, part, Try.isAgg17, h]⟩
instance : FieldT Try.prog 149 1 1 := ⟨fun b o w => by simp [Instr.fieldAt, Try.runUnderlying149, Instr.sureAddr, fieldPlace, Try.sizeOf17, Addr.add_lit], fun cs v w h => by simp [Instr.field, Try.runUnderlying149, asAgg, part, Try.isAgg17, h]⟩
instance : FieldT Try.prog 149 2 2 := ⟨fun b o w => by simp [Instr.fieldAt, Try.runUnderlying149, Instr.sureAddr, fieldPlace, Try.sizeOf17, Addr.add_lit], fun cs v w h => by simp [Instr.field, Try.runUnderlying149, asAgg, part, Try.isAgg17, h]⟩
instance : FieldT Try.prog 149 3 3 := ⟨fun b o w => by simp [Instr.fieldAt, Try.runUnderlying149, Instr.sureAddr, fieldPlace, Try.sizeOf9, Addr.add_lit], fun cs v w h => by simp [Instr.field, Try.runUnderlying149, asAgg, part, Try.isAgg9, h]⟩
instance : ZeroT Try.prog 149 [.pointer none, .pointer none, .pointer none, .string ByteArray.empty] := ⟨_, Try.zeroValue149, rfl⟩
-- type 151: a struct with a field that is no single cell
-- type 152: a struct with a field that is no single cell
instance : ScaT Try.prog 153 := ⟨Try.isAgg153, Try.sizeOf153⟩
instance : IntT Try.prog 153 .u8 := ⟨Try.underlying153⟩
instance : ZeroT Try.prog 153 [.int .u8 0] := ⟨_, Try.zeroValue153, rfl⟩
instance : ScaT Try.prog 154 := ⟨Try.isAgg154, Try.sizeOf154⟩
instance : IntT Try.prog 154 .u8 := ⟨Try.underlying154⟩
instance : ZeroT Try.prog 154 [.int .u8 0] := ⟨_, Try.zeroValue154, rfl⟩
instance : ScaT Try.prog 155 := ⟨Try.isAgg155, Try.sizeOf155⟩
instance : ZeroT Try.prog 155 [.nilFunc] := ⟨_, Try.zeroValue155, rfl⟩
instance : ScaT Try.prog 156 := ⟨Try.isAgg156, Try.sizeOf156⟩
instance : ZeroT Try.prog 156 [.pointer none] := ⟨_, Try.zeroValue156, rfl⟩
instance : ScaT Try.prog 157 := ⟨Try.isAgg157, Try.sizeOf157⟩
instance : IntT Try.prog 157 .i32 := ⟨Try.underlying157⟩
instance : ZeroT Try.prog 157 [.int .i32 0] := ⟨_, Try.zeroValue157, rfl⟩
instance : ScaT Try.prog 158 := ⟨Try.isAgg158, Try.sizeOf158⟩
instance : IntT Try.prog 158 .i32 := ⟨Try.underlying158⟩
instance : ZeroT Try.prog 158 [.int .i32 0] := ⟨_, Try.zeroValue158, rfl⟩
instance : AggT Try.prog 159 11 := ⟨Try.isAgg159, Try.sizeOf159⟩
instance : FieldT Try.prog 159 0 0 := ⟨fun b o w => by simp [Instr.fieldAt, Try.runUnderlying159, Instr.sureAddr, fieldPlace, Try.sizeOf12, Addr.add_lit], fun cs v w h => by simp [Instr.field, Try.runUnderlying159, asAgg, part, Try.isAgg12, h]⟩
instance : FieldT Try.prog 159 1 1 := ⟨fun b o w => by simp [Instr.fieldAt, Try.runUnderlying159, Instr.sureAddr, fieldPlace, Try.sizeOf12, Addr.add_lit], fun cs v w h => by simp [Instr.field, Try.runUnderlying159, asAgg, part, Try.isAgg12, h]⟩
instance : FieldT Try.prog 159 2 2 := ⟨fun b o w => by simp [Instr.fieldAt, Try.runUnderlying159, Instr.sureAddr, fieldPlace, Try.sizeOf139, Addr.add_lit], fun cs v w h => by simp [Instr.field, Try.runUnderlying159, asAgg, part, Try.isAgg139, h]⟩
instance : FieldT Try.prog 159 3 3 := ⟨fun b o w => by simp [Instr.fieldAt, Try.runUnderlying159, Instr.sureAddr, fieldPlace, Try.sizeOf153, Addr.add_lit], fun cs v w h => by simp [Instr.field, Try.runUnderlying159, asAgg, part, Try.isAgg153, h]⟩
instance : FieldT Try.prog 159 4 4 := ⟨fun b o w => by simp [Instr.fieldAt, Try.runUnderlying159, Instr.sureAddr, fieldPlace, Try.sizeOf5, Addr.add_lit], fun cs v w h => by simp [Instr.field, Try.runUnderlying159, asAgg, part, Try.isAgg5, h]⟩
instance : FieldT Try.prog 159 5 5 := ⟨fun b o w => by simp [Instr.fieldAt, Try.runUnderlying159, Instr.sureAddr, fieldPlace, Try.sizeOf5, Addr.add_lit], fun cs v w h => by simp [Instr.field, Try.runUnderlying159, asAgg, part, Try.isAgg5, h]⟩
instance : FieldT Try.prog 159 6 6 := ⟨fun b o w => by simp [Instr.fieldAt, Try.runUnderlying159, Instr.sureAddr, fieldPlace, Try.sizeOf154, Addr.add_lit], fun cs v w h => by simp [Instr.field, Try.runUnderlying159, asAgg, part, Try.isAgg154, h]⟩
instance : FieldT Try.prog 159 7 7 := ⟨fun b o w => by simp [Instr.fieldAt, Try.runUnderlying159, Instr.sureAddr, fieldPlace, Try.sizeOf155, Addr.add_lit], fun cs v w h => by simp [Instr.field, Try.runUnderlying159, asAgg, part, Try.isAgg155, h]⟩
instance : FieldT Try.prog 159 8 8 := ⟨fun b o w => by simp [Instr.fieldAt, Try.runUnderlying159, Instr.sureAddr, fieldPlace, Try.sizeOf156, Addr.add_lit], fun cs v w h => by simp [Instr.field, Try.runUnderlying159, asAgg, part, Try.isAgg156, h]⟩
instance : FieldT Try.prog 159 9 9 := ⟨fun b o w => by simp [Instr.fieldAt, Try.runUnderlying159, Instr.sureAddr, fieldPlace, Try.sizeOf157, Addr.add_lit], fun cs v w h => by simp [Instr.field, Try.runUnderlying159, asAgg, part, Try.isAgg157, h]⟩
instance : FieldT Try.prog 159 10 10 := ⟨fun b o w => by simp [Instr.fieldAt, Try.runUnderlying159, Instr.sureAddr, fieldPlace, Try.sizeOf158, Addr.add_lit], fun cs v w h => by simp [Instr.field, Try.runUnderlying159, asAgg, part, Try.isAgg158, h]⟩
instance : ZeroT Try.prog 159 [.int .u64 0, .int .u64 0, .int .u32 0, .int .u8 0, .int .u8 0, .int .u8 0, .int .u8 0, .nilFunc, .pointer none, .int .i32 0, .int .i32 0] := ⟨_, Try.zeroValue159, rfl⟩
instance : AggT Try.prog 160 11 := ⟨Try.isAgg160, Try.sizeOf160⟩
instance : FieldT Try.prog 160 0 0 := ⟨fun b o w => by simp [Instr.fieldAt, Try.runUnderlying160, Instr.sureAddr, fieldPlace, Try.sizeOf12, Addr.add_lit], fun cs v w h => by simp [Instr.field, Try.runUnderlying160, asAgg, part, Try.isAgg12, h]⟩
instance : FieldT Try.prog 160 1 1 := ⟨fun b o w => by simp [Instr.fieldAt, Try.runUnderlying160, Instr.sureAddr, fieldPlace, Try.sizeOf12, Addr.add_lit], fun cs v w h => by simp [Instr.field, Try.runUnderlying160, asAgg, part, Try.isAgg12, h]⟩
instance : FieldT Try.prog 160 2 2 := ⟨fun b o w => by simp [Instr.fieldAt, Try.runUnderlying160, Instr.sureAddr, fieldPlace, Try.sizeOf139, Addr.add_lit], fun cs v w h => by simp [Instr.field, Try.runUnderlying160, asAgg, part, Try.isAgg139, h]⟩
instance : FieldT Try.prog 160 3 3 := ⟨fun b o w => by simp [Instr.fieldAt, Try.runUnderlying160, Instr.sureAddr, fieldPlace, Try.sizeOf153, Addr.add_lit], fun cs v w h => by simp [Instr.field, Try.runUnderlying160, asAgg, part, Try.isAgg153, h]⟩
instance : FieldT Try.prog 160 4 4 := ⟨fun b o w => by simp [Instr.fieldAt, Try.runUnderlying160, Instr.sureAddr, fieldPlace, Try.sizeOf5, Addr.add_lit], fun cs v w h => by simp [Instr.field, Try.runUnderlying160, asAgg, part, Try.isAgg5, h]⟩
instance : FieldT Try.prog 160 5 5 := ⟨fun b o w => by simp [Instr.fieldAt, Try.runUnderlying160, Instr.sureAddr, fieldPlace, Try.sizeOf5, Addr.add_lit], fun cs v w h => by simp [Instr.field, Try.runUnderlying160, asAgg, part, Try.isAgg5, h]⟩
instance : FieldT Try.prog 160 6 6 := ⟨fun b o w => by simp [Instr.fieldAt, Try.runUnderlying160, Instr.sureAddr, fieldPlace, Try.sizeOf154, Addr.add_lit], fun cs v w h => by simp [Instr.field, Try.runUnderlying160, asAgg, part, Try.isAgg154, h]⟩
instance : FieldT Try.prog 160 7 7 := ⟨fun b o w => by simp [Instr.fieldAt, Try.runUnderlying160, Instr.sureAddr, fieldPlace, Try.sizeOf155, Addr.add_lit], fun cs v w h => by simp [Instr.field, Try.runUnderlying160, asAgg, part, Try.isAgg155, h]⟩
instance : FieldT Try.prog 160 8 8 := ⟨fun b o w => by simp [Instr.fieldAt, Try.runUnderlying160, Instr.sureAddr, fieldPlace, Try.sizeOf156, Addr.add_lit], fun cs v w h => by simp [Instr.field, Try.runUnderlying160, asAgg, part, Try.isAgg156, h]⟩
instance : FieldT Try.prog 160 9 9 := ⟨fun b o w => by simp [Instr.fieldAt, Try.runUnderlying160, Instr.sureAddr, fieldPlace, Try.sizeOf157, Addr.add_lit], fun cs v w h => by simp [Instr.field, Try.runUnderlying160, asAgg, part, Try.isAgg157, h]⟩
instance : FieldT Try.prog 160 10 10 := ⟨fun b o w => by simp [Instr.fieldAt, Try.runUnderlying160, Instr.sureAddr, fieldPlace, Try.sizeOf158, Addr.add_lit], fun cs v w h => by simp [Instr.field, Try.runUnderlying160, asAgg, part, Try.isAgg158, h]⟩
instance : ZeroT Try.prog 160 [.int .u64 0, .int .u64 0, .int .u32 0, .int .u8 0, .int .u8 0, .int .u8 0, .int .u8 0, .nilFunc, .pointer none, .int .i32 0, .int .i32 0] := ⟨_, Try.zeroValue160, rfl⟩
instance : ScaT Try.prog 161 := ⟨Try.isAgg161, Try.sizeOf161⟩
instance : ZeroT Try.prog 161 [.pointer none] := ⟨_, Try.zeroValue161, rfl⟩
instance : FnT Try.prog 2 := ⟨Try.call2⟩
instance : FnT Try.prog 3 := ⟨Try.call3⟩
instance : FnT Try.prog 4 := ⟨Try.call4⟩
instance : FnT Try.prog 5 := ⟨Try.call5⟩
instance : FnT Try.prog 6 := ⟨Try.call6⟩
instance : FnT Try.prog 7 := ⟨Try.call7⟩
instance : FnT Try.prog 8 := ⟨Try.call8⟩
instance : FnT Try.prog 9 := ⟨Try.call9⟩
instance : FnT Try.prog 10 := ⟨Try.call10⟩
instance : FnT Try.prog 11 := ⟨Try.call11⟩
instance : FnT Try.prog 12 := ⟨Try.call12⟩
instance : FnT Try.prog 13 := ⟨Try.call13⟩
instance : FnT Try.prog 14 := ⟨Try.call14⟩
instance : FnT Try.prog 15 := ⟨Try.call15⟩
instance : FnT Try.prog 16 := ⟨Try.call16⟩
instance : FnT Try.prog 17 := ⟨Try.call17⟩
instance : FnT Try.prog 18 := ⟨Try.call18⟩
instance : FnT Try.prog 19 := ⟨Try.call19⟩
instance : FnT Try.prog 20 := ⟨Try.call20⟩
instance : FnT Try.prog 21 := ⟨Try.call21⟩
instance : FnT Try.prog 22 := ⟨Try.call22⟩
instance : FnT Try.prog 23 := ⟨Try.call23⟩
instance : FnT Try.prog 24 := ⟨Try.call24⟩
instance : FnT Try.prog 25 := ⟨Try.call25⟩
instance : FnT Try.prog 26 := ⟨Try.call26⟩
instance : FnT Try.prog 27 := ⟨Try.call27⟩
instance : FnT Try.prog 28 := ⟨Try.call28⟩
instance : FnT Try.prog 29 := ⟨Try.call29⟩
instance : FnT Try.prog 30 := ⟨Try.call30⟩
instance : FnT Try.prog 31 := ⟨Try.call31⟩
instance : FnT Try.prog 32 := ⟨Try.call32⟩
instance : FnT Try.prog 33 := ⟨Try.call33⟩
instance : FnT Try.prog 34 := ⟨Try.call34⟩
instance : FnT Try.prog 35 := ⟨Try.call35⟩
instance : FnT Try.prog 36 := ⟨Try.call36⟩
instance : FnT Try.prog 37 := ⟨Try.call37⟩
instance : FnT Try.prog 38 := ⟨Try.call38⟩
instance : FnT Try.prog 39 := ⟨Try.call39⟩
instance : FnT Try.prog 40 := ⟨Try.call40⟩
instance : FnT Try.prog 41 := ⟨Try.call41⟩
instance : FnT Try.prog 42 := ⟨Try.call42⟩
instance : FnT Try.prog 43 := ⟨Try.call43⟩
instance : FnT Try.prog 44 := ⟨Try.call44⟩
instance : FnT Try.prog 45 := ⟨Try.call45⟩
instance : FnT Try.prog 46 := ⟨Try.call46⟩
instance : FnT Try.prog 47 := ⟨Try.call47⟩
instance : FnT Try.prog 48 := ⟨Try.call48⟩
instance : FnT Try.prog 49 := ⟨Try.call49⟩
instance : FnT Try.prog 50 := ⟨Try.call50⟩
instance : FnT Try.prog 51 := ⟨Try.call51⟩
instance : FnT Try.prog 52 := ⟨Try.call52⟩
instance : FnT Try.prog 53 := ⟨Try.call53⟩
instance : FnT Try.prog 54 := ⟨Try.call54⟩
instance : FnT Try.prog 55 := ⟨Try.call55⟩
instance : FnT Try.prog 56 := ⟨Try.call56⟩
instance : FnT Try.prog 57 := ⟨Try.call57⟩
instance : FnT Try.prog 58 := ⟨Try.call58⟩
instance : FnT Try.prog 59 := ⟨Try.call59⟩
instance : FnT Try.prog 60 := ⟨Try.call60⟩
instance : FnT Try.prog 61 := ⟨Try.call61⟩
instance : FnT Try.prog 62 := ⟨Try.call62⟩
instance : FnT Try.prog 63 := ⟨Try.call63⟩
instance : FnT Try.prog 64 := ⟨Try.call64⟩
instance : FnT Try.prog 65 := ⟨Try.call65⟩
instance : FnT Try.prog 66 := ⟨Try.call66⟩
instance : FnT Try.prog 67 := ⟨Try.call67⟩
instance : FnT Try.prog 68 := ⟨Try.call68⟩
instance : FnT Try.prog 69 := ⟨Try.call69⟩
instance : FnT Try.prog 70 := ⟨Try.call70⟩
instance : FnT Try.prog 71 := ⟨Try.call71⟩
instance : FnT Try.prog 72 := ⟨Try.call72⟩
instance : FnT Try.prog 73 := ⟨Try.call73⟩
instance : FnT Try.prog 74 := ⟨Try.call74⟩
instance : FnT Try.prog 75 := ⟨Try.call75⟩
instance : FnT Try.prog 76 := ⟨Try.call76⟩
instance : FnT Try.prog 77 := ⟨Try.call77⟩
instance : FnT Try.prog 78 := ⟨Try.call78⟩
instance : FnT Try.prog 79 := ⟨Try.call79⟩
instance : FnT Try.prog 80 := ⟨Try.call80⟩
instance : FnT Try.prog 81 := ⟨Try.call81⟩
instance : FnT Try.prog 82 := ⟨Try.call82⟩
instance : FnT Try.prog 83 := ⟨Try.call83⟩
instance : FnT Try.prog 84 := ⟨Try.call84⟩
instance : FnT Try.prog 85 := ⟨Try.call85⟩
instance : FnT Try.prog 86 := ⟨Try.call86⟩
instance : FnT Try.prog 87 := ⟨Try.call87⟩
instance : FnT Try.prog 88 := ⟨Try.call88⟩
instance : FnT Try.prog 89 := ⟨Try.call89⟩
instance : FnT Try.prog 90 := ⟨Try.call90⟩
instance : FnT Try.prog 91 := ⟨Try.call91⟩
instance : FnT Try.prog 92 := ⟨Try.call92⟩
instance : FnT Try.prog 93 := ⟨Try.call93⟩
instance : FnT Try.prog 94 := ⟨Try.call94⟩
instance : FnT Try.prog 95 := ⟨Try.call95⟩
instance : FnT Try.prog 96 := ⟨Try.call96⟩
instance : FnT Try.prog 97 := ⟨Try.call97⟩
instance : FnT Try.prog 98 := ⟨Try.call98⟩
instance : FnT Try.prog 99 := ⟨Try.call99⟩
instance : FnT Try.prog 100 := ⟨Try.call100⟩
instance : FnT Try.prog 101 := ⟨Try.call101⟩
instance : FnT Try.prog 102 := ⟨Try.call102⟩
instance : FnT Try.prog 103 := ⟨Try.call103⟩
instance : FnT Try.prog 104 := ⟨Try.call104⟩
instance : FnT Try.prog 105 := ⟨Try.call105⟩
instance : FnT Try.prog 106 := ⟨Try.call106⟩
instance : FnT Try.prog 107 := ⟨Try.call107⟩
instance : FnT Try.prog 108 := ⟨Try.call108⟩
instance : FnT Try.prog 109 := ⟨Try.call109⟩
instance : FnT Try.prog 110 := ⟨Try.call110⟩
instance : FnT Try.prog 111 := ⟨Try.call111⟩
instance : FnT Try.prog 112 := ⟨Try.call112⟩
instance : FnT Try.prog 113 := ⟨Try.call113⟩
instance : FnT Try.prog 114 := ⟨Try.call114⟩
instance : FnT Try.prog 115 := ⟨Try.call115⟩
instance : FnT Try.prog 116 := ⟨Try.call116⟩
instance : FnT Try.prog 117 := ⟨Try.call117⟩
instance : FnT Try.prog 118 := ⟨Try.call118⟩
instance : FnT Try.prog 119 := ⟨Try.call119⟩
instance : FnT Try.prog 120 := ⟨Try.call120⟩
instance : FnT Try.prog 121 := ⟨Try.call121⟩
instance : FnT Try.prog 122 := ⟨Try.call122⟩
instance : FnT Try.prog 123 := ⟨Try.call123⟩
instance : FnT Try.prog 124 := ⟨Try.call124⟩
instance : FnT Try.prog 125 := ⟨Try.call125⟩
instance : FnT Try.prog 126 := ⟨Try.call126⟩
instance : FnT Try.prog 130 := ⟨Try.call130⟩
instance : FnT Try.prog 131 := ⟨Try.call131⟩
instance : FnT Try.prog 132 := ⟨Try.call132⟩
instance : FnT Try.prog 133 := ⟨Try.call133⟩
instance : FnT Try.prog 134 := ⟨Try.call134⟩
instance : FnT Try.prog 136 := ⟨Try.call136⟩
instance : FnT Try.prog 138 := ⟨Try.call138⟩
end Go.Proofs.Ytonbcbhnnflohaa
