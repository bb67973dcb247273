/-
  The seat's types: what is asked of each, as instances. Printed by a program (ty.py) out of Lean's own print.
-/
import Derived.Test.YtdjgchofnkancaaProg
import Derived.Test.YtdjgchofnkancaaEzSep
namespace Go.Proofs.Ytdjgchofnkancaa
open Go Go.Ez
set_option linter.unusedVariables false

instance : Und Try.prog 1 (.func #[] #[] false) := ⟨Try.underlying1⟩
instance : Ty1 Try.prog 1 (.nilFunc) := ⟨Try.isAgg1, Try.sizeOf1, Try.zeroValue1, rfl⟩
instance : Und Try.prog 2 (.int .i64) := ⟨Try.underlying2⟩
instance : Ty1 Try.prog 2 (.int .i64 0) := ⟨Try.isAgg2, Try.sizeOf2, Try.zeroValue2, rfl⟩
instance : Und Try.prog 3 (.int .i64) := ⟨Try.underlying3⟩
instance : Ty1 Try.prog 3 (.int .i64 0) := ⟨Try.isAgg3, Try.sizeOf3, Try.zeroValue3, rfl⟩
instance : Und Try.prog 4 (.bool) := ⟨Try.underlying4⟩
instance : Ty1 Try.prog 4 (.bool false) := ⟨Try.isAgg4, Try.sizeOf4, Try.zeroValue4, rfl⟩
instance : Und Try.prog 5 (.int .u8) := ⟨Try.underlying5⟩
instance : Ty1 Try.prog 5 (.int .u8 0) := ⟨Try.isAgg5, Try.sizeOf5, Try.zeroValue5, rfl⟩
instance : Und Try.prog 6 (.int .u8) := ⟨Try.underlying6⟩
instance : Ty1 Try.prog 6 (.int .u8 0) := ⟨Try.isAgg6, Try.sizeOf6, Try.zeroValue6, rfl⟩
instance : TyS Try.prog 7 4 [.int .i64 0, .int .i64 0, .bool false, .int .u8 0] := ⟨Try.isAgg7, Try.sizeOf7, Try.zeroValue7⟩
instance : Fld Try.prog 7 0 0 := ⟨fun h => a_field (sz := 1) Try.underlying7 rfl Try.sizeOf2 (by decide) h⟩
instance : Fld Try.prog 7 1 1 := ⟨fun h => a_field (sz := 1) Try.underlying7 rfl Try.sizeOf3 (by decide) h⟩
instance : Fld Try.prog 7 2 2 := ⟨fun h => a_field (sz := 1) Try.underlying7 rfl Try.sizeOf4 (by decide) h⟩
instance : Fld Try.prog 7 3 3 := ⟨fun h => a_field (sz := 1) Try.underlying7 rfl Try.sizeOf6 (by decide) h⟩
instance : Bld Try.prog 7 #[(0, 1), (1, 1), (2, 1), (3, 1)] #[.int .i64 0, .int .i64 0, .bool false, .int .u8 0] := ⟨Try.zeroValue7, ⟨_, Try.underlying7, fun w => by kernel_rfl⟩⟩
instance : TyS Try.prog 8 4 [.int .i64 0, .int .i64 0, .bool false, .int .u8 0] := ⟨Try.isAgg8, Try.sizeOf8, Try.zeroValue8⟩
instance : Fld Try.prog 8 0 0 := ⟨fun h => a_field (sz := 1) Try.underlying8 rfl Try.sizeOf2 (by decide) h⟩
instance : Fld Try.prog 8 1 1 := ⟨fun h => a_field (sz := 1) Try.underlying8 rfl Try.sizeOf3 (by decide) h⟩
instance : Fld Try.prog 8 2 2 := ⟨fun h => a_field (sz := 1) Try.underlying8 rfl Try.sizeOf4 (by decide) h⟩
instance : Fld Try.prog 8 3 3 := ⟨fun h => a_field (sz := 1) Try.underlying8 rfl Try.sizeOf6 (by decide) h⟩
instance : Bld Try.prog 8 #[(0, 1), (1, 1), (2, 1), (3, 1)] #[.int .i64 0, .int .i64 0, .bool false, .int .u8 0] := ⟨Try.zeroValue8, ⟨_, Try.underlying8, fun w => by kernel_rfl⟩⟩
instance : Und Try.prog 9 (.string) := ⟨Try.underlying9⟩
instance : Ty1 Try.prog 9 (.string ⟨#[]⟩) := ⟨Try.isAgg9, Try.sizeOf9, Try.zeroValue9, rfl⟩
instance : Und Try.prog 10 (.string) := ⟨Try.underlying10⟩
instance : Ty1 Try.prog 10 (.string ⟨#[]⟩) := ⟨Try.isAgg10, Try.sizeOf10, Try.zeroValue10, rfl⟩
instance : Und Try.prog 11 (.string) := ⟨Try.underlying11⟩
instance : Ty1 Try.prog 11 (.string ⟨#[]⟩) := ⟨Try.isAgg11, Try.sizeOf11, Try.zeroValue11, rfl⟩
instance : Und Try.prog 12 (.int .u64) := ⟨Try.underlying12⟩
instance : Ty1 Try.prog 12 (.int .u64 0) := ⟨Try.isAgg12, Try.sizeOf12, Try.zeroValue12, rfl⟩
instance : TyS Try.prog 13 2 [.string ⟨#[]⟩, .int .u64 0] := ⟨Try.isAgg13, Try.sizeOf13, Try.zeroValue13⟩
instance : Fld Try.prog 13 0 0 := ⟨fun h => a_field (sz := 1) Try.underlying13 rfl Try.sizeOf9 (by decide) h⟩
instance : Fld Try.prog 13 1 1 := ⟨fun h => a_field (sz := 1) Try.underlying13 rfl Try.sizeOf12 (by decide) h⟩
instance : Bld Try.prog 13 #[(0, 1), (1, 1)] #[.string ⟨#[]⟩, .int .u64 0] := ⟨Try.zeroValue13, ⟨_, Try.underlying13, fun w => by kernel_rfl⟩⟩
instance : TyS Try.prog 14 2 [.string ⟨#[]⟩, .int .u64 0] := ⟨Try.isAgg14, Try.sizeOf14, Try.zeroValue14⟩
instance : Fld Try.prog 14 0 0 := ⟨fun h => a_field (sz := 1) Try.underlying14 rfl Try.sizeOf9 (by decide) h⟩
instance : Fld Try.prog 14 1 1 := ⟨fun h => a_field (sz := 1) Try.underlying14 rfl Try.sizeOf12 (by decide) h⟩
instance : Bld Try.prog 14 #[(0, 1), (1, 1)] #[.string ⟨#[]⟩, .int .u64 0] := ⟨Try.zeroValue14, ⟨_, Try.underlying14, fun w => by kernel_rfl⟩⟩
instance : Und Try.prog 15 (.pointer 196) := ⟨Try.underlying15⟩
instance : Ty1 Try.prog 15 (.pointer none) := ⟨Try.isAgg15, Try.sizeOf15, Try.zeroValue15, rfl⟩
instance : Und Try.prog 16 (.pointer 199) := ⟨Try.underlying16⟩
instance : Ty1 Try.prog 16 (.pointer none) := ⟨Try.isAgg16, Try.sizeOf16, Try.zeroValue16, rfl⟩
instance : Und Try.prog 17 (.pointer 208) := ⟨Try.underlying17⟩
instance : Ty1 Try.prog 17 (.pointer none) := ⟨Try.isAgg17, Try.sizeOf17, Try.zeroValue17, rfl⟩
instance : TyS Try.prog 18 1 [.pointer none] := ⟨Try.isAgg18, Try.sizeOf18, Try.zeroValue18⟩
instance : Fld Try.prog 18 0 0 := ⟨fun h => a_field (sz := 1) Try.underlying18 rfl Try.sizeOf17 (by decide) h⟩
instance : Bld Try.prog 18 #[(0, 1)] #[.pointer none] := ⟨Try.zeroValue18, ⟨_, Try.underlying18, fun w => by kernel_rfl⟩⟩
instance : TyS Try.prog 19 1 [.pointer none] := ⟨Try.isAgg19, Try.sizeOf19, Try.zeroValue19⟩
instance : Fld Try.prog 19 0 0 := ⟨fun h => a_field (sz := 1) Try.underlying19 rfl Try.sizeOf17 (by decide) h⟩
instance : Bld Try.prog 19 #[(0, 1)] #[.pointer none] := ⟨Try.zeroValue19, ⟨_, Try.underlying19, fun w => by kernel_rfl⟩⟩
instance : Und Try.prog 20 (.interface #[]) := ⟨Try.underlying20⟩
instance : Ty1 Try.prog 20 (.nilIface) := ⟨Try.isAgg20, Try.sizeOf20, Try.zeroValue20, rfl⟩
instance : Und Try.prog 21 (.int .i32) := ⟨Try.underlying21⟩
instance : Ty1 Try.prog 21 (.int .i32 0) := ⟨Try.isAgg21, Try.sizeOf21, Try.zeroValue21, rfl⟩
instance : Und Try.prog 22 (.slice 9) := ⟨Try.underlying22⟩
instance : Ty1 Try.prog 22 (.slice none 0 0) := ⟨Try.isAgg22, Try.sizeOf22, Try.zeroValue22, rfl⟩
instance : SlT Try.prog 22 9 1 16 (.string ⟨#[]⟩) := ⟨⟨Try.underlying22, by kernel_rfl, rfl, by decide⟩⟩
instance : Und Try.prog 23 (.func #[] #[4] false) := ⟨Try.underlying23⟩
instance : Ty1 Try.prog 23 (.nilFunc) := ⟨Try.isAgg23, Try.sizeOf23, Try.zeroValue23, rfl⟩
instance : Und Try.prog 24 (.pointer 113) := ⟨Try.underlying24⟩
instance : Ty1 Try.prog 24 (.pointer none) := ⟨Try.isAgg24, Try.sizeOf24, Try.zeroValue24, rfl⟩
instance : Und Try.prog 25 (.func #[] #[24] false) := ⟨Try.underlying25⟩
instance : Ty1 Try.prog 25 (.nilFunc) := ⟨Try.isAgg25, Try.sizeOf25, Try.zeroValue25, rfl⟩
instance : Und Try.prog 26 (.func #[9, 3] #[4] false) := ⟨Try.underlying26⟩
instance : Ty1 Try.prog 26 (.nilFunc) := ⟨Try.isAgg26, Try.sizeOf26, Try.zeroValue26, rfl⟩
instance : Und Try.prog 27 (.func #[29, 3] #[22] false) := ⟨Try.underlying27⟩
instance : Ty1 Try.prog 27 (.nilFunc) := ⟨Try.isAgg27, Try.sizeOf27, Try.zeroValue27, rfl⟩
instance : Und Try.prog 28 (.func #[117] #[] false) := ⟨Try.underlying28⟩
instance : Ty1 Try.prog 28 (.nilFunc) := ⟨Try.isAgg28, Try.sizeOf28, Try.zeroValue28, rfl⟩
instance : Und Try.prog 29 (.func #[117] #[] false) := ⟨Try.underlying29⟩
instance : Ty1 Try.prog 29 (.nilFunc) := ⟨Try.isAgg29, Try.sizeOf29, Try.zeroValue29, rfl⟩
instance : Und Try.prog 30 (.func #[32] #[29] false) := ⟨Try.underlying30⟩
instance : Ty1 Try.prog 30 (.nilFunc) := ⟨Try.isAgg30, Try.sizeOf30, Try.zeroValue30, rfl⟩
instance : Und Try.prog 31 (.func #[26] #[] false) := ⟨Try.underlying31⟩
instance : Ty1 Try.prog 31 (.nilFunc) := ⟨Try.isAgg31, Try.sizeOf31, Try.zeroValue31, rfl⟩
instance : Und Try.prog 32 (.func #[26] #[] false) := ⟨Try.underlying32⟩
instance : Ty1 Try.prog 32 (.nilFunc) := ⟨Try.isAgg32, Try.sizeOf32, Try.zeroValue32, rfl⟩
instance : Und Try.prog 33 (.func #[] #[32] false) := ⟨Try.underlying33⟩
instance : Ty1 Try.prog 33 (.nilFunc) := ⟨Try.isAgg33, Try.sizeOf33, Try.zeroValue33, rfl⟩
instance : Und Try.prog 34 (.func #[22, 22] #[4] false) := ⟨Try.underlying34⟩
instance : Ty1 Try.prog 34 (.nilFunc) := ⟨Try.isAgg34, Try.sizeOf34, Try.zeroValue34, rfl⟩
instance : Und Try.prog 35 (.func #[22] #[22] false) := ⟨Try.underlying35⟩
instance : Ty1 Try.prog 35 (.nilFunc) := ⟨Try.isAgg35, Try.sizeOf35, Try.zeroValue35, rfl⟩
instance : Und Try.prog 36 (.func #[] #[3] false) := ⟨Try.underlying36⟩
instance : Ty1 Try.prog 36 (.nilFunc) := ⟨Try.isAgg36, Try.sizeOf36, Try.zeroValue36, rfl⟩
instance : Und Try.prog 38 (.func #[9] #[3, 4] false) := ⟨Try.underlying38⟩
instance : Ty1 Try.prog 38 (.nilFunc) := ⟨Try.isAgg38, Try.sizeOf38, Try.zeroValue38, rfl⟩
instance : Und Try.prog 39 (.func #[22] #[4] false) := ⟨Try.underlying39⟩
instance : Ty1 Try.prog 39 (.nilFunc) := ⟨Try.isAgg39, Try.sizeOf39, Try.zeroValue39, rfl⟩
instance : Und Try.prog 40 (.slice 45) := ⟨Try.underlying40⟩
instance : Ty1 Try.prog 40 (.slice none 0 0) := ⟨Try.isAgg40, Try.sizeOf40, Try.zeroValue40, rfl⟩
instance : SlT Try.prog 40 45 4 40 (.agg #[.int .i64 0, .int .i64 0, .int .i64 0, .string ⟨#[]⟩]) := ⟨⟨Try.underlying40, by kernel_rfl, rfl, by decide⟩⟩
instance : Und Try.prog 41 (.pointer 121) := ⟨Try.underlying41⟩
instance : Ty1 Try.prog 41 (.pointer none) := ⟨Try.isAgg41, Try.sizeOf41, Try.zeroValue41, rfl⟩
instance : Und Try.prog 42 (.func #[] #[41] false) := ⟨Try.underlying42⟩
instance : Ty1 Try.prog 42 (.nilFunc) := ⟨Try.isAgg42, Try.sizeOf42, Try.zeroValue42, rfl⟩
instance : Und Try.prog 43 (.func #[3, 9] #[4] false) := ⟨Try.underlying43⟩
instance : Ty1 Try.prog 43 (.nilFunc) := ⟨Try.isAgg43, Try.sizeOf43, Try.zeroValue43, rfl⟩
instance : TyS Try.prog 44 4 [.int .i64 0, .int .i64 0, .int .i64 0, .string ⟨#[]⟩] := ⟨Try.isAgg44, Try.sizeOf44, Try.zeroValue44⟩
instance : Fld Try.prog 44 0 0 := ⟨fun h => a_field (sz := 1) Try.underlying44 rfl Try.sizeOf3 (by decide) h⟩
instance : Fld Try.prog 44 1 1 := ⟨fun h => a_field (sz := 1) Try.underlying44 rfl Try.sizeOf3 (by decide) h⟩
instance : Fld Try.prog 44 2 2 := ⟨fun h => a_field (sz := 1) Try.underlying44 rfl Try.sizeOf3 (by decide) h⟩
instance : Fld Try.prog 44 3 3 := ⟨fun h => a_field (sz := 1) Try.underlying44 rfl Try.sizeOf9 (by decide) h⟩
instance : Bld Try.prog 44 #[(0, 1), (1, 1), (2, 1), (3, 1)] #[.int .i64 0, .int .i64 0, .int .i64 0, .string ⟨#[]⟩] := ⟨Try.zeroValue44, ⟨_, Try.underlying44, fun w => by kernel_rfl⟩⟩
instance : TyS Try.prog 45 4 [.int .i64 0, .int .i64 0, .int .i64 0, .string ⟨#[]⟩] := ⟨Try.isAgg45, Try.sizeOf45, Try.zeroValue45⟩
instance : Fld Try.prog 45 0 0 := ⟨fun h => a_field (sz := 1) Try.underlying45 rfl Try.sizeOf3 (by decide) h⟩
instance : Fld Try.prog 45 1 1 := ⟨fun h => a_field (sz := 1) Try.underlying45 rfl Try.sizeOf3 (by decide) h⟩
instance : Fld Try.prog 45 2 2 := ⟨fun h => a_field (sz := 1) Try.underlying45 rfl Try.sizeOf3 (by decide) h⟩
instance : Fld Try.prog 45 3 3 := ⟨fun h => a_field (sz := 1) Try.underlying45 rfl Try.sizeOf9 (by decide) h⟩
instance : Bld Try.prog 45 #[(0, 1), (1, 1), (2, 1), (3, 1)] #[.int .i64 0, .int .i64 0, .int .i64 0, .string ⟨#[]⟩] := ⟨Try.zeroValue45, ⟨_, Try.underlying45, fun w => by kernel_rfl⟩⟩
instance : Und Try.prog 46 (.slice 3) := ⟨Try.underlying46⟩
instance : Ty1 Try.prog 46 (.slice none 0 0) := ⟨Try.isAgg46, Try.sizeOf46, Try.zeroValue46, rfl⟩
instance : SlT Try.prog 46 3 1 8 (.int .i64 0) := ⟨⟨Try.underlying46, by kernel_rfl, rfl, by decide⟩⟩
instance : Und Try.prog 47 (.func #[49, 3] #[46] false) := ⟨Try.underlying47⟩
instance : Ty1 Try.prog 47 (.nilFunc) := ⟨Try.isAgg47, Try.sizeOf47, Try.zeroValue47, rfl⟩
instance : Und Try.prog 48 (.func #[71] #[] false) := ⟨Try.underlying48⟩
instance : Ty1 Try.prog 48 (.nilFunc) := ⟨Try.isAgg48, Try.sizeOf48, Try.zeroValue48, rfl⟩
instance : Und Try.prog 49 (.func #[71] #[] false) := ⟨Try.underlying49⟩
instance : Ty1 Try.prog 49 (.nilFunc) := ⟨Try.isAgg49, Try.sizeOf49, Try.zeroValue49, rfl⟩
instance : Und Try.prog 50 (.func #[52] #[49] false) := ⟨Try.underlying50⟩
instance : Ty1 Try.prog 50 (.nilFunc) := ⟨Try.isAgg50, Try.sizeOf50, Try.zeroValue50, rfl⟩
instance : Und Try.prog 51 (.func #[43] #[] false) := ⟨Try.underlying51⟩
instance : Ty1 Try.prog 51 (.nilFunc) := ⟨Try.isAgg51, Try.sizeOf51, Try.zeroValue51, rfl⟩
instance : Und Try.prog 52 (.func #[43] #[] false) := ⟨Try.underlying52⟩
instance : Ty1 Try.prog 52 (.nilFunc) := ⟨Try.isAgg52, Try.sizeOf52, Try.zeroValue52, rfl⟩
instance : Und Try.prog 53 (.func #[] #[52] false) := ⟨Try.underlying53⟩
instance : Ty1 Try.prog 53 (.nilFunc) := ⟨Try.isAgg53, Try.sizeOf53, Try.zeroValue53, rfl⟩
instance : Und Try.prog 54 (.func #[3, 3] #[52] false) := ⟨Try.underlying54⟩
instance : Ty1 Try.prog 54 (.nilFunc) := ⟨Try.isAgg54, Try.sizeOf54, Try.zeroValue54, rfl⟩
instance : Und Try.prog 55 (.func #[46, 46] #[4] false) := ⟨Try.underlying55⟩
instance : Ty1 Try.prog 55 (.nilFunc) := ⟨Try.isAgg55, Try.sizeOf55, Try.zeroValue55, rfl⟩
instance : Und Try.prog 56 (.func #[40, 3, 3, 3] #[4] false) := ⟨Try.underlying56⟩
instance : Ty1 Try.prog 56 (.nilFunc) := ⟨Try.isAgg56, Try.sizeOf56, Try.zeroValue56, rfl⟩
instance : Und Try.prog 57 (.pointer 60) := ⟨Try.underlying57⟩
instance : Ty1 Try.prog 57 (.pointer none) := ⟨Try.isAgg57, Try.sizeOf57, Try.zeroValue57, rfl⟩
instance : Und Try.prog 58 (.slice 80) := ⟨Try.underlying58⟩
instance : Ty1 Try.prog 58 (.slice none 0 0) := ⟨Try.isAgg58, Try.sizeOf58, Try.zeroValue58, rfl⟩
instance : SlT Try.prog 58 80 2 24 (.agg #[.int .i64 0, .string ⟨#[]⟩]) := ⟨⟨Try.underlying58, by kernel_rfl, rfl, by decide⟩⟩
instance : TyS Try.prog 59 1 [.slice none 0 0] := ⟨Try.isAgg59, Try.sizeOf59, Try.zeroValue59⟩
instance : Fld Try.prog 59 0 0 := ⟨fun h => a_field (sz := 1) Try.underlying59 rfl Try.sizeOf58 (by decide) h⟩
instance : Bld Try.prog 59 #[(0, 1)] #[.slice none 0 0] := ⟨Try.zeroValue59, ⟨_, Try.underlying59, fun w => by kernel_rfl⟩⟩
instance : TyS Try.prog 60 1 [.slice none 0 0] := ⟨Try.isAgg60, Try.sizeOf60, Try.zeroValue60⟩
instance : Fld Try.prog 60 0 0 := ⟨fun h => a_field (sz := 1) Try.underlying60 rfl Try.sizeOf58 (by decide) h⟩
instance : Bld Try.prog 60 #[(0, 1)] #[.slice none 0 0] := ⟨Try.zeroValue60, ⟨_, Try.underlying60, fun w => by kernel_rfl⟩⟩
instance : Und Try.prog 61 (.func #[52, 52] #[52] false) := ⟨Try.underlying61⟩
instance : Ty1 Try.prog 61 (.nilFunc) := ⟨Try.isAgg61, Try.sizeOf61, Try.zeroValue61, rfl⟩
instance : Und Try.prog 63 (.func #[3, 3, 4] #[46, 22] false) := ⟨Try.underlying63⟩
instance : Ty1 Try.prog 63 (.nilFunc) := ⟨Try.isAgg63, Try.sizeOf63, Try.zeroValue63, rfl⟩
instance : Und Try.prog 64 (.func #[52, 3] #[46, 22] false) := ⟨Try.underlying64⟩
instance : Ty1 Try.prog 64 (.nilFunc) := ⟨Try.isAgg64, Try.sizeOf64, Try.zeroValue64, rfl⟩
instance : Und Try.prog 65 (.func #[40, 40, 3] #[4] false) := ⟨Try.underlying65⟩
instance : Ty1 Try.prog 65 (.nilFunc) := ⟨Try.isAgg65, Try.sizeOf65, Try.zeroValue65, rfl⟩
instance : Und Try.prog 66 (.pointer 129) := ⟨Try.underlying66⟩
instance : Ty1 Try.prog 66 (.pointer none) := ⟨Try.isAgg66, Try.sizeOf66, Try.zeroValue66, rfl⟩
instance : Und Try.prog 67 (.func #[] #[66] false) := ⟨Try.underlying67⟩
instance : Ty1 Try.prog 67 (.nilFunc) := ⟨Try.isAgg67, Try.sizeOf67, Try.zeroValue67, rfl⟩
instance : Und Try.prog 68 (.func #[3, 46] #[4] false) := ⟨Try.underlying68⟩
instance : Ty1 Try.prog 68 (.nilFunc) := ⟨Try.isAgg68, Try.sizeOf68, Try.zeroValue68, rfl⟩
instance : Und Try.prog 70 (.func #[3] #[46, 4] false) := ⟨Try.underlying70⟩
instance : Ty1 Try.prog 70 (.nilFunc) := ⟨Try.isAgg70, Try.sizeOf70, Try.zeroValue70, rfl⟩
instance : Und Try.prog 71 (.func #[3] #[4] false) := ⟨Try.underlying71⟩
instance : Ty1 Try.prog 71 (.nilFunc) := ⟨Try.isAgg71, Try.sizeOf71, Try.zeroValue71, rfl⟩
instance : Und Try.prog 72 (.func #[46, 3] #[4] false) := ⟨Try.underlying72⟩
instance : Ty1 Try.prog 72 (.nilFunc) := ⟨Try.isAgg72, Try.sizeOf72, Try.zeroValue72, rfl⟩
instance : Und Try.prog 73 (.func #[24, 24] #[3] false) := ⟨Try.underlying73⟩
instance : Ty1 Try.prog 73 (.nilFunc) := ⟨Try.isAgg73, Try.sizeOf73, Try.zeroValue73, rfl⟩
instance : Und Try.prog 74 (.func #[41, 40] #[46] false) := ⟨Try.underlying74⟩
instance : Ty1 Try.prog 74 (.nilFunc) := ⟨Try.isAgg74, Try.sizeOf74, Try.zeroValue74, rfl⟩
instance : Und Try.prog 75 (.func #[40, 3] #[4] false) := ⟨Try.underlying75⟩
instance : Ty1 Try.prog 75 (.nilFunc) := ⟨Try.isAgg75, Try.sizeOf75, Try.zeroValue75, rfl⟩
instance : Und Try.prog 77 (.func #[3] #[9, 4] false) := ⟨Try.underlying77⟩
instance : Ty1 Try.prog 77 (.nilFunc) := ⟨Try.isAgg77, Try.sizeOf77, Try.zeroValue77, rfl⟩
instance : Und Try.prog 78 (.func #[3] #[3, 4] false) := ⟨Try.underlying78⟩
instance : Ty1 Try.prog 78 (.nilFunc) := ⟨Try.isAgg78, Try.sizeOf78, Try.zeroValue78, rfl⟩
instance : TyS Try.prog 79 2 [.int .i64 0, .string ⟨#[]⟩] := ⟨Try.isAgg79, Try.sizeOf79, Try.zeroValue79⟩
instance : Fld Try.prog 79 0 0 := ⟨fun h => a_field (sz := 1) Try.underlying79 rfl Try.sizeOf3 (by decide) h⟩
instance : Fld Try.prog 79 1 1 := ⟨fun h => a_field (sz := 1) Try.underlying79 rfl Try.sizeOf9 (by decide) h⟩
instance : Bld Try.prog 79 #[(0, 1), (1, 1)] #[.int .i64 0, .string ⟨#[]⟩] := ⟨Try.zeroValue79, ⟨_, Try.underlying79, fun w => by kernel_rfl⟩⟩
instance : TyS Try.prog 80 2 [.int .i64 0, .string ⟨#[]⟩] := ⟨Try.isAgg80, Try.sizeOf80, Try.zeroValue80⟩
instance : Fld Try.prog 80 0 0 := ⟨fun h => a_field (sz := 1) Try.underlying80 rfl Try.sizeOf3 (by decide) h⟩
instance : Fld Try.prog 80 1 1 := ⟨fun h => a_field (sz := 1) Try.underlying80 rfl Try.sizeOf9 (by decide) h⟩
instance : Bld Try.prog 80 #[(0, 1), (1, 1)] #[.int .i64 0, .string ⟨#[]⟩] := ⟨Try.zeroValue80, ⟨_, Try.underlying80, fun w => by kernel_rfl⟩⟩
instance : Und Try.prog 81 (.func #[41, 57, 3, 3] #[4] false) := ⟨Try.underlying81⟩
instance : Ty1 Try.prog 81 (.nilFunc) := ⟨Try.isAgg81, Try.sizeOf81, Try.zeroValue81, rfl⟩
instance : Und Try.prog 82 (.func #[40] #[4] false) := ⟨Try.underlying82⟩
instance : Ty1 Try.prog 82 (.nilFunc) := ⟨Try.isAgg82, Try.sizeOf82, Try.zeroValue82, rfl⟩
instance : Und Try.prog 83 (.slice 136) := ⟨Try.underlying83⟩
instance : Ty1 Try.prog 83 (.slice none 0 0) := ⟨Try.isAgg83, Try.sizeOf83, Try.zeroValue83, rfl⟩
instance : SlT Try.prog 83 136 2 32 (.agg #[.string ⟨#[]⟩, .string ⟨#[]⟩]) := ⟨⟨Try.underlying83, by kernel_rfl, rfl, by decide⟩⟩
instance : Und Try.prog 84 (.func #[83] #[4] false) := ⟨Try.underlying84⟩
instance : Ty1 Try.prog 84 (.nilFunc) := ⟨Try.isAgg84, Try.sizeOf84, Try.zeroValue84, rfl⟩
instance : Und Try.prog 85 (.pointer 175) := ⟨Try.underlying85⟩
instance : Ty1 Try.prog 85 (.pointer none) := ⟨Try.isAgg85, Try.sizeOf85, Try.zeroValue85, rfl⟩
instance : Und Try.prog 86 (.func #[83] #[85] false) := ⟨Try.underlying86⟩
instance : Ty1 Try.prog 86 (.nilFunc) := ⟨Try.isAgg86, Try.sizeOf86, Try.zeroValue86, rfl⟩
instance : Und Try.prog 87 (.func #[143] #[] false) := ⟨Try.underlying87⟩
instance : Ty1 Try.prog 87 (.nilFunc) := ⟨Try.isAgg87, Try.sizeOf87, Try.zeroValue87, rfl⟩
instance : Und Try.prog 88 (.func #[143] #[] false) := ⟨Try.underlying88⟩
instance : Ty1 Try.prog 88 (.nilFunc) := ⟨Try.isAgg88, Try.sizeOf88, Try.zeroValue88, rfl⟩
instance : Und Try.prog 89 (.func #[85, 85] #[88] false) := ⟨Try.underlying89⟩
instance : Ty1 Try.prog 89 (.nilFunc) := ⟨Try.isAgg89, Try.sizeOf89, Try.zeroValue89, rfl⟩
instance : Und Try.prog 90 (.slice 102) := ⟨Try.underlying90⟩
instance : Ty1 Try.prog 90 (.slice none 0 0) := ⟨Try.isAgg90, Try.sizeOf90, Try.zeroValue90, rfl⟩
instance : SlT Try.prog 90 102 3 40 (.agg #[.string ⟨#[]⟩, .string ⟨#[]⟩, .bool false]) := ⟨⟨Try.underlying90, by kernel_rfl, rfl, by decide⟩⟩
instance : Und Try.prog 91 (.func #[92] #[90] false) := ⟨Try.underlying91⟩
instance : Ty1 Try.prog 91 (.nilFunc) := ⟨Try.isAgg91, Try.sizeOf91, Try.zeroValue91, rfl⟩
instance : Und Try.prog 92 (.slice 105) := ⟨Try.underlying92⟩
instance : Ty1 Try.prog 92 (.slice none 0 0) := ⟨Try.isAgg92, Try.sizeOf92, Try.zeroValue92, rfl⟩
instance : SlT Try.prog 92 105 3 40 (.agg #[.string ⟨#[]⟩, .string ⟨#[]⟩, .bool false]) := ⟨⟨Try.underlying92, by kernel_rfl, rfl, by decide⟩⟩
instance : Und Try.prog 93 (.func #[88, 3] #[92] false) := ⟨Try.underlying93⟩
instance : Ty1 Try.prog 93 (.nilFunc) := ⟨Try.isAgg93, Try.sizeOf93, Try.zeroValue93, rfl⟩
instance : Und Try.prog 95 (.func #[88, 3] #[92, 4] false) := ⟨Try.underlying95⟩
instance : Ty1 Try.prog 95 (.nilFunc) := ⟨Try.isAgg95, Try.sizeOf95, Try.zeroValue95, rfl⟩
instance : Und Try.prog 96 (.func #[90, 90] #[4] false) := ⟨Try.underlying96⟩
instance : Ty1 Try.prog 96 (.nilFunc) := ⟨Try.isAgg96, Try.sizeOf96, Try.zeroValue96, rfl⟩
instance : Und Try.prog 97 (.func #[85, 85] #[3] false) := ⟨Try.underlying97⟩
instance : Ty1 Try.prog 97 (.nilFunc) := ⟨Try.isAgg97, Try.sizeOf97, Try.zeroValue97, rfl⟩
instance : Und Try.prog 98 (.func #[83, 83] #[4] false) := ⟨Try.underlying98⟩
instance : Ty1 Try.prog 98 (.nilFunc) := ⟨Try.isAgg98, Try.sizeOf98, Try.zeroValue98, rfl⟩
instance : Und Try.prog 99 (.func #[85] #[83] false) := ⟨Try.underlying99⟩
instance : Ty1 Try.prog 99 (.nilFunc) := ⟨Try.isAgg99, Try.sizeOf99, Try.zeroValue99, rfl⟩
instance : Und Try.prog 100 (.func #[88, 9] #[88] false) := ⟨Try.underlying100⟩
instance : Ty1 Try.prog 100 (.nilFunc) := ⟨Try.isAgg100, Try.sizeOf100, Try.zeroValue100, rfl⟩
instance : TyS Try.prog 101 3 [.string ⟨#[]⟩, .string ⟨#[]⟩, .bool false] := ⟨Try.isAgg101, Try.sizeOf101, Try.zeroValue101⟩
instance : Fld Try.prog 101 0 0 := ⟨fun h => a_field (sz := 1) Try.underlying101 rfl Try.sizeOf9 (by decide) h⟩
instance : Fld Try.prog 101 1 1 := ⟨fun h => a_field (sz := 1) Try.underlying101 rfl Try.sizeOf9 (by decide) h⟩
instance : Fld Try.prog 101 2 2 := ⟨fun h => a_field (sz := 1) Try.underlying101 rfl Try.sizeOf4 (by decide) h⟩
instance : Bld Try.prog 101 #[(0, 1), (1, 1), (2, 1)] #[.string ⟨#[]⟩, .string ⟨#[]⟩, .bool false] := ⟨Try.zeroValue101, ⟨_, Try.underlying101, fun w => by kernel_rfl⟩⟩
instance : TyS Try.prog 102 3 [.string ⟨#[]⟩, .string ⟨#[]⟩, .bool false] := ⟨Try.isAgg102, Try.sizeOf102, Try.zeroValue102⟩
instance : Fld Try.prog 102 0 0 := ⟨fun h => a_field (sz := 1) Try.underlying102 rfl Try.sizeOf9 (by decide) h⟩
instance : Fld Try.prog 102 1 1 := ⟨fun h => a_field (sz := 1) Try.underlying102 rfl Try.sizeOf9 (by decide) h⟩
instance : Fld Try.prog 102 2 2 := ⟨fun h => a_field (sz := 1) Try.underlying102 rfl Try.sizeOf4 (by decide) h⟩
instance : Bld Try.prog 102 #[(0, 1), (1, 1), (2, 1)] #[.string ⟨#[]⟩, .string ⟨#[]⟩, .bool false] := ⟨Try.zeroValue102, ⟨_, Try.underlying102, fun w => by kernel_rfl⟩⟩
instance : Und Try.prog 103 (.func #[83, 83, 3] #[4] false) := ⟨Try.underlying103⟩
instance : Ty1 Try.prog 103 (.nilFunc) := ⟨Try.isAgg103, Try.sizeOf103, Try.zeroValue103, rfl⟩
instance : Und Try.prog 104 (.func #[85, 92] #[85] false) := ⟨Try.underlying104⟩
instance : Ty1 Try.prog 104 (.nilFunc) := ⟨Try.isAgg104, Try.sizeOf104, Try.zeroValue104, rfl⟩
instance : TyS Try.prog 105 3 [.string ⟨#[]⟩, .string ⟨#[]⟩, .bool false] := ⟨Try.isAgg105, Try.sizeOf105, Try.zeroValue105⟩
instance : Fld Try.prog 105 0 0 := ⟨fun h => a_field (sz := 1) Try.underlying105 rfl Try.sizeOf9 (by decide) h⟩
instance : Fld Try.prog 105 1 1 := ⟨fun h => a_field (sz := 1) Try.underlying105 rfl Try.sizeOf9 (by decide) h⟩
instance : Fld Try.prog 105 2 2 := ⟨fun h => a_field (sz := 1) Try.underlying105 rfl Try.sizeOf4 (by decide) h⟩
instance : Bld Try.prog 105 #[(0, 1), (1, 1), (2, 1)] #[.string ⟨#[]⟩, .string ⟨#[]⟩, .bool false] := ⟨Try.zeroValue105, ⟨_, Try.underlying105, fun w => by kernel_rfl⟩⟩
instance : Und Try.prog 106 (.func #[83, 83, 83] #[4] false) := ⟨Try.underlying106⟩
instance : Ty1 Try.prog 106 (.nilFunc) := ⟨Try.isAgg106, Try.sizeOf106, Try.zeroValue106, rfl⟩
instance : Und Try.prog 107 (.func #[83, 83] #[90] false) := ⟨Try.underlying107⟩
instance : Ty1 Try.prog 107 (.nilFunc) := ⟨Try.isAgg107, Try.sizeOf107, Try.zeroValue107, rfl⟩
instance : Und Try.prog 108 (.func #[83] #[83] false) := ⟨Try.underlying108⟩
instance : Ty1 Try.prog 108 (.nilFunc) := ⟨Try.isAgg108, Try.sizeOf108, Try.zeroValue108, rfl⟩
instance : Und Try.prog 109 (.func #[83, 90] #[83] false) := ⟨Try.underlying109⟩
instance : Ty1 Try.prog 109 (.nilFunc) := ⟨Try.isAgg109, Try.sizeOf109, Try.zeroValue109, rfl⟩
instance : Und Try.prog 110 (.func #[83, 83, 83, 9, 3] #[4] false) := ⟨Try.underlying110⟩
instance : Ty1 Try.prog 110 (.nilFunc) := ⟨Try.isAgg110, Try.sizeOf110, Try.zeroValue110, rfl⟩
instance : Und Try.prog 111 (.slice 115) := ⟨Try.underlying111⟩
instance : Ty1 Try.prog 111 (.slice none 0 0) := ⟨Try.isAgg111, Try.sizeOf111, Try.zeroValue111, rfl⟩
instance : SlT Try.prog 111 115 2 24 (.agg #[.string ⟨#[]⟩, .int .i64 0]) := ⟨⟨Try.underlying111, by kernel_rfl, rfl, by decide⟩⟩
instance : TyS Try.prog 112 1 [.slice none 0 0] := ⟨Try.isAgg112, Try.sizeOf112, Try.zeroValue112⟩
instance : Fld Try.prog 112 0 0 := ⟨fun h => a_field (sz := 1) Try.underlying112 rfl Try.sizeOf111 (by decide) h⟩
instance : Bld Try.prog 112 #[(0, 1)] #[.slice none 0 0] := ⟨Try.zeroValue112, ⟨_, Try.underlying112, fun w => by kernel_rfl⟩⟩
instance : TyS Try.prog 113 1 [.slice none 0 0] := ⟨Try.isAgg113, Try.sizeOf113, Try.zeroValue113⟩
instance : Fld Try.prog 113 0 0 := ⟨fun h => a_field (sz := 1) Try.underlying113 rfl Try.sizeOf111 (by decide) h⟩
instance : Bld Try.prog 113 #[(0, 1)] #[.slice none 0 0] := ⟨Try.zeroValue113, ⟨_, Try.underlying113, fun w => by kernel_rfl⟩⟩
instance : TyS Try.prog 114 2 [.string ⟨#[]⟩, .int .i64 0] := ⟨Try.isAgg114, Try.sizeOf114, Try.zeroValue114⟩
instance : Fld Try.prog 114 0 0 := ⟨fun h => a_field (sz := 1) Try.underlying114 rfl Try.sizeOf9 (by decide) h⟩
instance : Fld Try.prog 114 1 1 := ⟨fun h => a_field (sz := 1) Try.underlying114 rfl Try.sizeOf3 (by decide) h⟩
instance : Bld Try.prog 114 #[(0, 1), (1, 1)] #[.string ⟨#[]⟩, .int .i64 0] := ⟨Try.zeroValue114, ⟨_, Try.underlying114, fun w => by kernel_rfl⟩⟩
instance : TyS Try.prog 115 2 [.string ⟨#[]⟩, .int .i64 0] := ⟨Try.isAgg115, Try.sizeOf115, Try.zeroValue115⟩
instance : Fld Try.prog 115 0 0 := ⟨fun h => a_field (sz := 1) Try.underlying115 rfl Try.sizeOf9 (by decide) h⟩
instance : Fld Try.prog 115 1 1 := ⟨fun h => a_field (sz := 1) Try.underlying115 rfl Try.sizeOf3 (by decide) h⟩
instance : Bld Try.prog 115 #[(0, 1), (1, 1)] #[.string ⟨#[]⟩, .int .i64 0] := ⟨Try.zeroValue115, ⟨_, Try.underlying115, fun w => by kernel_rfl⟩⟩
instance : Und Try.prog 116 (.func #[111, 3, 111] #[111] true) := ⟨Try.underlying116⟩
instance : Ty1 Try.prog 116 (.nilFunc) := ⟨Try.isAgg116, Try.sizeOf116, Try.zeroValue116, rfl⟩
instance : Und Try.prog 117 (.func #[9] #[4] false) := ⟨Try.underlying117⟩
instance : Ty1 Try.prog 117 (.nilFunc) := ⟨Try.isAgg117, Try.sizeOf117, Try.zeroValue117, rfl⟩
instance : Und Try.prog 118 (.func #[111] #[111] false) := ⟨Try.underlying118⟩
instance : Ty1 Try.prog 118 (.nilFunc) := ⟨Try.isAgg118, Try.sizeOf118, Try.zeroValue118, rfl⟩
instance : Und Try.prog 119 (.slice 123) := ⟨Try.underlying119⟩
instance : Ty1 Try.prog 119 (.slice none 0 0) := ⟨Try.isAgg119, Try.sizeOf119, Try.zeroValue119, rfl⟩
instance : SlT Try.prog 119 123 2 24 (.agg #[.int .i64 0, .string ⟨#[]⟩]) := ⟨⟨Try.underlying119, by kernel_rfl, rfl, by decide⟩⟩
instance : TyS Try.prog 120 1 [.slice none 0 0] := ⟨Try.isAgg120, Try.sizeOf120, Try.zeroValue120⟩
instance : Fld Try.prog 120 0 0 := ⟨fun h => a_field (sz := 1) Try.underlying120 rfl Try.sizeOf119 (by decide) h⟩
instance : Bld Try.prog 120 #[(0, 1)] #[.slice none 0 0] := ⟨Try.zeroValue120, ⟨_, Try.underlying120, fun w => by kernel_rfl⟩⟩
instance : TyS Try.prog 121 1 [.slice none 0 0] := ⟨Try.isAgg121, Try.sizeOf121, Try.zeroValue121⟩
instance : Fld Try.prog 121 0 0 := ⟨fun h => a_field (sz := 1) Try.underlying121 rfl Try.sizeOf119 (by decide) h⟩
instance : Bld Try.prog 121 #[(0, 1)] #[.slice none 0 0] := ⟨Try.zeroValue121, ⟨_, Try.underlying121, fun w => by kernel_rfl⟩⟩
instance : TyS Try.prog 122 2 [.int .i64 0, .string ⟨#[]⟩] := ⟨Try.isAgg122, Try.sizeOf122, Try.zeroValue122⟩
instance : Fld Try.prog 122 0 0 := ⟨fun h => a_field (sz := 1) Try.underlying122 rfl Try.sizeOf3 (by decide) h⟩
instance : Fld Try.prog 122 1 1 := ⟨fun h => a_field (sz := 1) Try.underlying122 rfl Try.sizeOf9 (by decide) h⟩
instance : Bld Try.prog 122 #[(0, 1), (1, 1)] #[.int .i64 0, .string ⟨#[]⟩] := ⟨Try.zeroValue122, ⟨_, Try.underlying122, fun w => by kernel_rfl⟩⟩
instance : TyS Try.prog 123 2 [.int .i64 0, .string ⟨#[]⟩] := ⟨Try.isAgg123, Try.sizeOf123, Try.zeroValue123⟩
instance : Fld Try.prog 123 0 0 := ⟨fun h => a_field (sz := 1) Try.underlying123 rfl Try.sizeOf3 (by decide) h⟩
instance : Fld Try.prog 123 1 1 := ⟨fun h => a_field (sz := 1) Try.underlying123 rfl Try.sizeOf9 (by decide) h⟩
instance : Bld Try.prog 123 #[(0, 1), (1, 1)] #[.int .i64 0, .string ⟨#[]⟩] := ⟨Try.zeroValue123, ⟨_, Try.underlying123, fun w => by kernel_rfl⟩⟩
instance : Und Try.prog 124 (.func #[119, 3, 119] #[119] true) := ⟨Try.underlying124⟩
instance : Ty1 Try.prog 124 (.nilFunc) := ⟨Try.isAgg124, Try.sizeOf124, Try.zeroValue124, rfl⟩
instance : Und Try.prog 125 (.func #[119] #[119] false) := ⟨Try.underlying125⟩
instance : Ty1 Try.prog 125 (.nilFunc) := ⟨Try.isAgg125, Try.sizeOf125, Try.zeroValue125, rfl⟩
instance : Und Try.prog 126 (.func #[52] #[119] false) := ⟨Try.underlying126⟩
instance : Ty1 Try.prog 126 (.nilFunc) := ⟨Try.isAgg126, Try.sizeOf126, Try.zeroValue126, rfl⟩
instance : Und Try.prog 127 (.slice 131) := ⟨Try.underlying127⟩
instance : Ty1 Try.prog 127 (.slice none 0 0) := ⟨Try.isAgg127, Try.sizeOf127, Try.zeroValue127, rfl⟩
instance : SlT Try.prog 127 131 2 32 (.agg #[.int .i64 0, .slice none 0 0]) := ⟨⟨Try.underlying127, by kernel_rfl, rfl, by decide⟩⟩
instance : TyS Try.prog 128 1 [.slice none 0 0] := ⟨Try.isAgg128, Try.sizeOf128, Try.zeroValue128⟩
instance : Fld Try.prog 128 0 0 := ⟨fun h => a_field (sz := 1) Try.underlying128 rfl Try.sizeOf127 (by decide) h⟩
instance : Bld Try.prog 128 #[(0, 1)] #[.slice none 0 0] := ⟨Try.zeroValue128, ⟨_, Try.underlying128, fun w => by kernel_rfl⟩⟩
instance : TyS Try.prog 129 1 [.slice none 0 0] := ⟨Try.isAgg129, Try.sizeOf129, Try.zeroValue129⟩
instance : Fld Try.prog 129 0 0 := ⟨fun h => a_field (sz := 1) Try.underlying129 rfl Try.sizeOf127 (by decide) h⟩
instance : Bld Try.prog 129 #[(0, 1)] #[.slice none 0 0] := ⟨Try.zeroValue129, ⟨_, Try.underlying129, fun w => by kernel_rfl⟩⟩
instance : TyS Try.prog 130 2 [.int .i64 0, .slice none 0 0] := ⟨Try.isAgg130, Try.sizeOf130, Try.zeroValue130⟩
instance : Fld Try.prog 130 0 0 := ⟨fun h => a_field (sz := 1) Try.underlying130 rfl Try.sizeOf3 (by decide) h⟩
instance : Fld Try.prog 130 1 1 := ⟨fun h => a_field (sz := 1) Try.underlying130 rfl Try.sizeOf46 (by decide) h⟩
instance : Bld Try.prog 130 #[(0, 1), (1, 1)] #[.int .i64 0, .slice none 0 0] := ⟨Try.zeroValue130, ⟨_, Try.underlying130, fun w => by kernel_rfl⟩⟩
instance : TyS Try.prog 131 2 [.int .i64 0, .slice none 0 0] := ⟨Try.isAgg131, Try.sizeOf131, Try.zeroValue131⟩
instance : Fld Try.prog 131 0 0 := ⟨fun h => a_field (sz := 1) Try.underlying131 rfl Try.sizeOf3 (by decide) h⟩
instance : Fld Try.prog 131 1 1 := ⟨fun h => a_field (sz := 1) Try.underlying131 rfl Try.sizeOf46 (by decide) h⟩
instance : Bld Try.prog 131 #[(0, 1), (1, 1)] #[.int .i64 0, .slice none 0 0] := ⟨Try.zeroValue131, ⟨_, Try.underlying131, fun w => by kernel_rfl⟩⟩
instance : Und Try.prog 132 (.func #[127, 3, 127] #[127] true) := ⟨Try.underlying132⟩
instance : Ty1 Try.prog 132 (.nilFunc) := ⟨Try.isAgg132, Try.sizeOf132, Try.zeroValue132, rfl⟩
instance : Und Try.prog 133 (.func #[127] #[127] false) := ⟨Try.underlying133⟩
instance : Ty1 Try.prog 133 (.nilFunc) := ⟨Try.isAgg133, Try.sizeOf133, Try.zeroValue133, rfl⟩
instance : Und Try.prog 134 (.func #[127, 3, 3] #[127] false) := ⟨Try.underlying134⟩
instance : Ty1 Try.prog 134 (.nilFunc) := ⟨Try.isAgg134, Try.sizeOf134, Try.zeroValue134, rfl⟩
instance : TyS Try.prog 135 2 [.string ⟨#[]⟩, .string ⟨#[]⟩] := ⟨Try.isAgg135, Try.sizeOf135, Try.zeroValue135⟩
instance : Fld Try.prog 135 0 0 := ⟨fun h => a_field (sz := 1) Try.underlying135 rfl Try.sizeOf9 (by decide) h⟩
instance : Fld Try.prog 135 1 1 := ⟨fun h => a_field (sz := 1) Try.underlying135 rfl Try.sizeOf9 (by decide) h⟩
instance : Bld Try.prog 135 #[(0, 1), (1, 1)] #[.string ⟨#[]⟩, .string ⟨#[]⟩] := ⟨Try.zeroValue135, ⟨_, Try.underlying135, fun w => by kernel_rfl⟩⟩
instance : TyS Try.prog 136 2 [.string ⟨#[]⟩, .string ⟨#[]⟩] := ⟨Try.isAgg136, Try.sizeOf136, Try.zeroValue136⟩
instance : Fld Try.prog 136 0 0 := ⟨fun h => a_field (sz := 1) Try.underlying136 rfl Try.sizeOf9 (by decide) h⟩
instance : Fld Try.prog 136 1 1 := ⟨fun h => a_field (sz := 1) Try.underlying136 rfl Try.sizeOf9 (by decide) h⟩
instance : Bld Try.prog 136 #[(0, 1), (1, 1)] #[.string ⟨#[]⟩, .string ⟨#[]⟩] := ⟨Try.zeroValue136, ⟨_, Try.underlying136, fun w => by kernel_rfl⟩⟩
instance : Und Try.prog 137 (.func #[164] #[] false) := ⟨Try.underlying137⟩
instance : Ty1 Try.prog 137 (.nilFunc) := ⟨Try.isAgg137, Try.sizeOf137, Try.zeroValue137, rfl⟩
instance : Und Try.prog 138 (.func #[164] #[] false) := ⟨Try.underlying138⟩
instance : Ty1 Try.prog 138 (.nilFunc) := ⟨Try.isAgg138, Try.sizeOf138, Try.zeroValue138, rfl⟩
instance : Und Try.prog 139 (.func #[24, 24] #[138] false) := ⟨Try.underlying139⟩
instance : Ty1 Try.prog 139 (.nilFunc) := ⟨Try.isAgg139, Try.sizeOf139, Try.zeroValue139, rfl⟩
instance : Und Try.prog 140 (.func #[119, 3, 3] #[119] false) := ⟨Try.underlying140⟩
instance : Ty1 Try.prog 140 (.nilFunc) := ⟨Try.isAgg140, Try.sizeOf140, Try.zeroValue140, rfl⟩
instance : Und Try.prog 141 (.func #[] #[85] false) := ⟨Try.underlying141⟩
instance : Ty1 Try.prog 141 (.nilFunc) := ⟨Try.isAgg141, Try.sizeOf141, Try.zeroValue141, rfl⟩
instance : Und Try.prog 142 (.func #[9, 9] #[4] false) := ⟨Try.underlying142⟩
instance : Ty1 Try.prog 142 (.nilFunc) := ⟨Try.isAgg142, Try.sizeOf142, Try.zeroValue142, rfl⟩
instance : Und Try.prog 143 (.func #[105] #[4] false) := ⟨Try.underlying143⟩
instance : Ty1 Try.prog 143 (.nilFunc) := ⟨Try.isAgg143, Try.sizeOf143, Try.zeroValue143, rfl⟩
instance : Und Try.prog 144 (.func #[142] #[] false) := ⟨Try.underlying144⟩
instance : Ty1 Try.prog 144 (.nilFunc) := ⟨Try.isAgg144, Try.sizeOf144, Try.zeroValue144, rfl⟩
instance : Und Try.prog 145 (.func #[142] #[] false) := ⟨Try.underlying145⟩
instance : Ty1 Try.prog 145 (.nilFunc) := ⟨Try.isAgg145, Try.sizeOf145, Try.zeroValue145, rfl⟩
instance : Und Try.prog 146 (.func #[145, 145] #[145] false) := ⟨Try.underlying146⟩
instance : Ty1 Try.prog 146 (.nilFunc) := ⟨Try.isAgg146, Try.sizeOf146, Try.zeroValue146, rfl⟩
instance : Und Try.prog 147 (.func #[85] #[145] false) := ⟨Try.underlying147⟩
instance : Ty1 Try.prog 147 (.nilFunc) := ⟨Try.isAgg147, Try.sizeOf147, Try.zeroValue147, rfl⟩
instance : Und Try.prog 148 (.func #[85, 9] #[9, 4] false) := ⟨Try.underlying148⟩
instance : Ty1 Try.prog 148 (.nilFunc) := ⟨Try.isAgg148, Try.sizeOf148, Try.zeroValue148, rfl⟩
instance : Und Try.prog 149 (.func #[] #[145] false) := ⟨Try.underlying149⟩
instance : Ty1 Try.prog 149 (.nilFunc) := ⟨Try.isAgg149, Try.sizeOf149, Try.zeroValue149, rfl⟩
instance : Und Try.prog 150 (.func #[111, 9, 152] #[3, 4] false) := ⟨Try.underlying150⟩
instance : Ty1 Try.prog 150 (.nilFunc) := ⟨Try.isAgg150, Try.sizeOf150, Try.zeroValue150, rfl⟩
instance : Und Try.prog 151 (.func #[9, 9] #[3] false) := ⟨Try.underlying151⟩
instance : Ty1 Try.prog 151 (.nilFunc) := ⟨Try.isAgg151, Try.sizeOf151, Try.zeroValue151, rfl⟩
instance : Und Try.prog 152 (.func #[115, 9] #[3] false) := ⟨Try.underlying152⟩
instance : Ty1 Try.prog 152 (.nilFunc) := ⟨Try.isAgg152, Try.sizeOf152, Try.zeroValue152, rfl⟩
instance : Und Try.prog 153 (.func #[111, 111] #[4] false) := ⟨Try.underlying153⟩
instance : Ty1 Try.prog 153 (.nilFunc) := ⟨Try.isAgg153, Try.sizeOf153, Try.zeroValue153, rfl⟩
instance : Und Try.prog 154 (.func #[111, 3] #[] false) := ⟨Try.underlying154⟩
instance : Ty1 Try.prog 154 (.nilFunc) := ⟨Try.isAgg154, Try.sizeOf154, Try.zeroValue154, rfl⟩
instance : Und Try.prog 155 (.func #[119, 3, 157] #[3, 4] false) := ⟨Try.underlying155⟩
instance : Ty1 Try.prog 155 (.nilFunc) := ⟨Try.isAgg155, Try.sizeOf155, Try.zeroValue155, rfl⟩
instance : Und Try.prog 156 (.func #[3, 3] #[3] false) := ⟨Try.underlying156⟩
instance : Ty1 Try.prog 156 (.nilFunc) := ⟨Try.isAgg156, Try.sizeOf156, Try.zeroValue156, rfl⟩
instance : Und Try.prog 157 (.func #[123, 3] #[3] false) := ⟨Try.underlying157⟩
instance : Ty1 Try.prog 157 (.nilFunc) := ⟨Try.isAgg157, Try.sizeOf157, Try.zeroValue157, rfl⟩
instance : Und Try.prog 158 (.func #[119, 119] #[4] false) := ⟨Try.underlying158⟩
instance : Ty1 Try.prog 158 (.nilFunc) := ⟨Try.isAgg158, Try.sizeOf158, Try.zeroValue158, rfl⟩
instance : Und Try.prog 159 (.func #[119, 3] #[] false) := ⟨Try.underlying159⟩
instance : Ty1 Try.prog 159 (.nilFunc) := ⟨Try.isAgg159, Try.sizeOf159, Try.zeroValue159, rfl⟩
instance : Und Try.prog 160 (.func #[127, 3, 161] #[3, 4] false) := ⟨Try.underlying160⟩
instance : Ty1 Try.prog 160 (.nilFunc) := ⟨Try.isAgg160, Try.sizeOf160, Try.zeroValue160, rfl⟩
instance : Und Try.prog 161 (.func #[131, 3] #[3] false) := ⟨Try.underlying161⟩
instance : Ty1 Try.prog 161 (.nilFunc) := ⟨Try.isAgg161, Try.sizeOf161, Try.zeroValue161, rfl⟩
instance : Und Try.prog 162 (.func #[127, 127] #[4] false) := ⟨Try.underlying162⟩
instance : Ty1 Try.prog 162 (.nilFunc) := ⟨Try.isAgg162, Try.sizeOf162, Try.zeroValue162, rfl⟩
instance : Und Try.prog 163 (.func #[127, 3] #[] false) := ⟨Try.underlying163⟩
instance : Ty1 Try.prog 163 (.nilFunc) := ⟨Try.isAgg163, Try.sizeOf163, Try.zeroValue163, rfl⟩
instance : Und Try.prog 164 (.func #[169] #[4] false) := ⟨Try.underlying164⟩
instance : Ty1 Try.prog 164 (.nilFunc) := ⟨Try.isAgg164, Try.sizeOf164, Try.zeroValue164, rfl⟩
instance : Und Try.prog 165 (.func #[32, 32] #[32] false) := ⟨Try.underlying165⟩
instance : Ty1 Try.prog 165 (.nilFunc) := ⟨Try.isAgg165, Try.sizeOf165, Try.zeroValue165, rfl⟩
instance : Und Try.prog 166 (.func #[24] #[32] false) := ⟨Try.underlying166⟩
instance : Ty1 Try.prog 166 (.nilFunc) := ⟨Try.isAgg166, Try.sizeOf166, Try.zeroValue166, rfl⟩
instance : Und Try.prog 167 (.func #[24, 9] #[3, 4] false) := ⟨Try.underlying167⟩
instance : Ty1 Try.prog 167 (.nilFunc) := ⟨Try.isAgg167, Try.sizeOf167, Try.zeroValue167, rfl⟩
instance : TyS Try.prog 168 3 [.string ⟨#[]⟩, .int .i64 0, .bool false] := ⟨Try.isAgg168, Try.sizeOf168, Try.zeroValue168⟩
instance : Fld Try.prog 168 0 0 := ⟨fun h => a_field (sz := 1) Try.underlying168 rfl Try.sizeOf9 (by decide) h⟩
instance : Fld Try.prog 168 1 1 := ⟨fun h => a_field (sz := 1) Try.underlying168 rfl Try.sizeOf3 (by decide) h⟩
instance : Fld Try.prog 168 2 2 := ⟨fun h => a_field (sz := 1) Try.underlying168 rfl Try.sizeOf4 (by decide) h⟩
instance : Bld Try.prog 168 #[(0, 1), (1, 1), (2, 1)] #[.string ⟨#[]⟩, .int .i64 0, .bool false] := ⟨Try.zeroValue168, ⟨_, Try.underlying168, fun w => by kernel_rfl⟩⟩
instance : TyS Try.prog 169 3 [.string ⟨#[]⟩, .int .i64 0, .bool false] := ⟨Try.isAgg169, Try.sizeOf169, Try.zeroValue169⟩
instance : Fld Try.prog 169 0 0 := ⟨fun h => a_field (sz := 1) Try.underlying169 rfl Try.sizeOf9 (by decide) h⟩
instance : Fld Try.prog 169 1 1 := ⟨fun h => a_field (sz := 1) Try.underlying169 rfl Try.sizeOf3 (by decide) h⟩
instance : Fld Try.prog 169 2 2 := ⟨fun h => a_field (sz := 1) Try.underlying169 rfl Try.sizeOf4 (by decide) h⟩
instance : Bld Try.prog 169 #[(0, 1), (1, 1), (2, 1)] #[.string ⟨#[]⟩, .int .i64 0, .bool false] := ⟨Try.zeroValue169, ⟨_, Try.underlying169, fun w => by kernel_rfl⟩⟩
instance : Und Try.prog 170 (.func #[185] #[] false) := ⟨Try.underlying170⟩
instance : Ty1 Try.prog 170 (.nilFunc) := ⟨Try.isAgg170, Try.sizeOf170, Try.zeroValue170, rfl⟩
instance : Und Try.prog 171 (.func #[185] #[] false) := ⟨Try.underlying171⟩
instance : Ty1 Try.prog 171 (.nilFunc) := ⟨Try.isAgg171, Try.sizeOf171, Try.zeroValue171, rfl⟩
instance : Und Try.prog 172 (.func #[119] #[171] false) := ⟨Try.underlying172⟩
instance : Ty1 Try.prog 172 (.nilFunc) := ⟨Try.isAgg172, Try.sizeOf172, Try.zeroValue172, rfl⟩
instance : Und Try.prog 173 (.slice 177) := ⟨Try.underlying173⟩
instance : Ty1 Try.prog 173 (.slice none 0 0) := ⟨Try.isAgg173, Try.sizeOf173, Try.zeroValue173, rfl⟩
instance : SlT Try.prog 173 177 2 32 (.agg #[.string ⟨#[]⟩, .string ⟨#[]⟩]) := ⟨⟨Try.underlying173, by kernel_rfl, rfl, by decide⟩⟩
instance : TyS Try.prog 174 1 [.slice none 0 0] := ⟨Try.isAgg174, Try.sizeOf174, Try.zeroValue174⟩
instance : Fld Try.prog 174 0 0 := ⟨fun h => a_field (sz := 1) Try.underlying174 rfl Try.sizeOf173 (by decide) h⟩
instance : Bld Try.prog 174 #[(0, 1)] #[.slice none 0 0] := ⟨Try.zeroValue174, ⟨_, Try.underlying174, fun w => by kernel_rfl⟩⟩
instance : TyS Try.prog 175 1 [.slice none 0 0] := ⟨Try.isAgg175, Try.sizeOf175, Try.zeroValue175⟩
instance : Fld Try.prog 175 0 0 := ⟨fun h => a_field (sz := 1) Try.underlying175 rfl Try.sizeOf173 (by decide) h⟩
instance : Bld Try.prog 175 #[(0, 1)] #[.slice none 0 0] := ⟨Try.zeroValue175, ⟨_, Try.underlying175, fun w => by kernel_rfl⟩⟩
instance : TyS Try.prog 176 2 [.string ⟨#[]⟩, .string ⟨#[]⟩] := ⟨Try.isAgg176, Try.sizeOf176, Try.zeroValue176⟩
instance : Fld Try.prog 176 0 0 := ⟨fun h => a_field (sz := 1) Try.underlying176 rfl Try.sizeOf9 (by decide) h⟩
instance : Fld Try.prog 176 1 1 := ⟨fun h => a_field (sz := 1) Try.underlying176 rfl Try.sizeOf9 (by decide) h⟩
instance : Bld Try.prog 176 #[(0, 1), (1, 1)] #[.string ⟨#[]⟩, .string ⟨#[]⟩] := ⟨Try.zeroValue176, ⟨_, Try.underlying176, fun w => by kernel_rfl⟩⟩
instance : TyS Try.prog 177 2 [.string ⟨#[]⟩, .string ⟨#[]⟩] := ⟨Try.isAgg177, Try.sizeOf177, Try.zeroValue177⟩
instance : Fld Try.prog 177 0 0 := ⟨fun h => a_field (sz := 1) Try.underlying177 rfl Try.sizeOf9 (by decide) h⟩
instance : Fld Try.prog 177 1 1 := ⟨fun h => a_field (sz := 1) Try.underlying177 rfl Try.sizeOf9 (by decide) h⟩
instance : Bld Try.prog 177 #[(0, 1), (1, 1)] #[.string ⟨#[]⟩, .string ⟨#[]⟩] := ⟨Try.zeroValue177, ⟨_, Try.underlying177, fun w => by kernel_rfl⟩⟩
instance : Und Try.prog 178 (.func #[173, 3, 173] #[173] true) := ⟨Try.underlying178⟩
instance : Ty1 Try.prog 178 (.nilFunc) := ⟨Try.isAgg178, Try.sizeOf178, Try.zeroValue178, rfl⟩
instance : Und Try.prog 179 (.func #[145] #[173] false) := ⟨Try.underlying179⟩
instance : Ty1 Try.prog 179 (.nilFunc) := ⟨Try.isAgg179, Try.sizeOf179, Try.zeroValue179, rfl⟩
instance : Und Try.prog 180 (.func #[9] #[9, 4] false) := ⟨Try.underlying180⟩
instance : Ty1 Try.prog 180 (.nilFunc) := ⟨Try.isAgg180, Try.sizeOf180, Try.zeroValue180, rfl⟩
instance : Und Try.prog 181 (.func #[173] #[173] false) := ⟨Try.underlying181⟩
instance : Ty1 Try.prog 181 (.nilFunc) := ⟨Try.isAgg181, Try.sizeOf181, Try.zeroValue181, rfl⟩
instance : Und Try.prog 182 (.func #[173, 3, 3] #[173] false) := ⟨Try.underlying182⟩
instance : Ty1 Try.prog 182 (.nilFunc) := ⟨Try.isAgg182, Try.sizeOf182, Try.zeroValue182, rfl⟩
instance : Und Try.prog 183 (.int .u64) := ⟨Try.underlying183⟩
instance : Ty1 Try.prog 183 (.int .u64 0) := ⟨Try.isAgg183, Try.sizeOf183, Try.zeroValue183, rfl⟩
instance : Und Try.prog 184 (.func #[32] #[111] false) := ⟨Try.underlying184⟩
instance : Ty1 Try.prog 184 (.nilFunc) := ⟨Try.isAgg184, Try.sizeOf184, Try.zeroValue184, rfl⟩
instance : Und Try.prog 185 (.func #[3, 123] #[4] false) := ⟨Try.underlying185⟩
instance : Ty1 Try.prog 185 (.nilFunc) := ⟨Try.isAgg185, Try.sizeOf185, Try.zeroValue185, rfl⟩
instance : Und Try.prog 186 (.func #[173, 9, 187] #[3, 4] false) := ⟨Try.underlying186⟩
instance : Ty1 Try.prog 186 (.nilFunc) := ⟨Try.isAgg186, Try.sizeOf186, Try.zeroValue186, rfl⟩
instance : Und Try.prog 187 (.func #[177, 9] #[3] false) := ⟨Try.underlying187⟩
instance : Ty1 Try.prog 187 (.nilFunc) := ⟨Try.isAgg187, Try.sizeOf187, Try.zeroValue187, rfl⟩
instance : Und Try.prog 188 (.func #[173, 173] #[4] false) := ⟨Try.underlying188⟩
instance : Ty1 Try.prog 188 (.nilFunc) := ⟨Try.isAgg188, Try.sizeOf188, Try.zeroValue188, rfl⟩
instance : Und Try.prog 189 (.func #[173, 3] #[] false) := ⟨Try.underlying189⟩
instance : Ty1 Try.prog 189 (.nilFunc) := ⟨Try.isAgg189, Try.sizeOf189, Try.zeroValue189, rfl⟩
instance : Und Try.prog 190 (.func #[111] #[] false) := ⟨Try.underlying190⟩
instance : Ty1 Try.prog 190 (.nilFunc) := ⟨Try.isAgg190, Try.sizeOf190, Try.zeroValue190, rfl⟩
instance : Und Try.prog 191 (.func #[119] #[] false) := ⟨Try.underlying191⟩
instance : Ty1 Try.prog 191 (.nilFunc) := ⟨Try.isAgg191, Try.sizeOf191, Try.zeroValue191, rfl⟩
instance : Und Try.prog 192 (.func #[127] #[] false) := ⟨Try.underlying192⟩
instance : Ty1 Try.prog 192 (.nilFunc) := ⟨Try.isAgg192, Try.sizeOf192, Try.zeroValue192, rfl⟩
instance : Und Try.prog 193 (.func #[173] #[] false) := ⟨Try.underlying193⟩
instance : Ty1 Try.prog 193 (.nilFunc) := ⟨Try.isAgg193, Try.sizeOf193, Try.zeroValue193, rfl⟩
instance : Und Try.prog 194 (.func #[] #[9] false) := ⟨Try.underlying194⟩
instance : Ty1 Try.prog 194 (.nilFunc) := ⟨Try.isAgg194, Try.sizeOf194, Try.zeroValue194, rfl⟩
instance : TyS Try.prog 195 4 [.pointer none, .pointer none, .pointer none, .string ⟨#[]⟩] := ⟨Try.isAgg195, Try.sizeOf195, Try.zeroValue195⟩
instance : Fld Try.prog 195 0 0 := ⟨fun h => a_field (sz := 1) Try.underlying195 rfl Try.sizeOf17 (by decide) h⟩
instance : Fld Try.prog 195 1 1 := ⟨fun h => a_field (sz := 1) Try.underlying195 rfl Try.sizeOf17 (by decide) h⟩
instance : Fld Try.prog 195 2 2 := ⟨fun h => a_field (sz := 1) Try.underlying195 rfl Try.sizeOf17 (by decide) h⟩
instance : Fld Try.prog 195 3 3 := ⟨fun h => a_field (sz := 1) Try.underlying195 rfl Try.sizeOf9 (by decide) h⟩
instance : Bld Try.prog 195 #[(0, 1), (1, 1), (2, 1), (3, 1)] #[.pointer none, .pointer none, .pointer none, .string ⟨#[]⟩] := ⟨Try.zeroValue195, ⟨_, Try.underlying195, fun w => by kernel_rfl⟩⟩
instance : TyS Try.prog 196 4 [.pointer none, .pointer none, .pointer none, .string ⟨#[]⟩] := ⟨Try.isAgg196, Try.sizeOf196, Try.zeroValue196⟩
instance : Fld Try.prog 196 0 0 := ⟨fun h => a_field (sz := 1) Try.underlying196 rfl Try.sizeOf17 (by decide) h⟩
instance : Fld Try.prog 196 1 1 := ⟨fun h => a_field (sz := 1) Try.underlying196 rfl Try.sizeOf17 (by decide) h⟩
instance : Fld Try.prog 196 2 2 := ⟨fun h => a_field (sz := 1) Try.underlying196 rfl Try.sizeOf17 (by decide) h⟩
instance : Fld Try.prog 196 3 3 := ⟨fun h => a_field (sz := 1) Try.underlying196 rfl Try.sizeOf9 (by decide) h⟩
instance : Bld Try.prog 196 #[(0, 1), (1, 1), (2, 1), (3, 1)] #[.pointer none, .pointer none, .pointer none, .string ⟨#[]⟩] := ⟨Try.zeroValue196, ⟨_, Try.underlying196, fun w => by kernel_rfl⟩⟩
instance : TyS Try.prog 198 0 [] := ⟨Try.isAgg198, Try.sizeOf198, Try.zeroValue198⟩
instance : Bld Try.prog 198 #[(0, 0)] #[] := ⟨Try.zeroValue198, ⟨_, Try.underlying198, fun w => by kernel_rfl⟩⟩
instance : TyS Try.prog 199 0 [] := ⟨Try.isAgg199, Try.sizeOf199, Try.zeroValue199⟩
instance : Bld Try.prog 199 #[(0, 0)] #[] := ⟨Try.zeroValue199, ⟨_, Try.underlying199, fun w => by kernel_rfl⟩⟩
instance : Und Try.prog 200 (.int .u32) := ⟨Try.underlying200⟩
instance : Ty1 Try.prog 200 (.int .u32 0) := ⟨Try.isAgg200, Try.sizeOf200, Try.zeroValue200, rfl⟩
instance : Und Try.prog 201 (.int .u8) := ⟨Try.underlying201⟩
instance : Ty1 Try.prog 201 (.int .u8 0) := ⟨Try.isAgg201, Try.sizeOf201, Try.zeroValue201, rfl⟩
instance : Und Try.prog 202 (.int .u8) := ⟨Try.underlying202⟩
instance : Ty1 Try.prog 202 (.int .u8 0) := ⟨Try.isAgg202, Try.sizeOf202, Try.zeroValue202, rfl⟩
instance : Und Try.prog 203 (.func #[213, 213] #[4] false) := ⟨Try.underlying203⟩
instance : Ty1 Try.prog 203 (.nilFunc) := ⟨Try.isAgg203, Try.sizeOf203, Try.zeroValue203, rfl⟩
instance : Und Try.prog 204 (.pointer 5) := ⟨Try.underlying204⟩
instance : Ty1 Try.prog 204 (.pointer none) := ⟨Try.isAgg204, Try.sizeOf204, Try.zeroValue204, rfl⟩
instance : Und Try.prog 205 (.int .i32) := ⟨Try.underlying205⟩
instance : Ty1 Try.prog 205 (.int .i32 0) := ⟨Try.isAgg205, Try.sizeOf205, Try.zeroValue205, rfl⟩
instance : Und Try.prog 206 (.int .i32) := ⟨Try.underlying206⟩
instance : Ty1 Try.prog 206 (.int .i32 0) := ⟨Try.isAgg206, Try.sizeOf206, Try.zeroValue206, rfl⟩
instance : TyS Try.prog 207 11 [.int .u64 0, .int .u64 0, .int .u32 0, .int .u8 0, .int .u8 0, .int .u8 0, .int .u8 0, .nilFunc, .pointer none, .int .i32 0, .int .i32 0] := ⟨Try.isAgg207, Try.sizeOf207, Try.zeroValue207⟩
instance : Fld Try.prog 207 0 0 := ⟨fun h => a_field (sz := 1) Try.underlying207 rfl Try.sizeOf12 (by decide) h⟩
instance : Fld Try.prog 207 1 1 := ⟨fun h => a_field (sz := 1) Try.underlying207 rfl Try.sizeOf12 (by decide) h⟩
instance : Fld Try.prog 207 2 2 := ⟨fun h => a_field (sz := 1) Try.underlying207 rfl Try.sizeOf200 (by decide) h⟩
instance : Fld Try.prog 207 3 3 := ⟨fun h => a_field (sz := 1) Try.underlying207 rfl Try.sizeOf201 (by decide) h⟩
instance : Fld Try.prog 207 4 4 := ⟨fun h => a_field (sz := 1) Try.underlying207 rfl Try.sizeOf5 (by decide) h⟩
instance : Fld Try.prog 207 5 5 := ⟨fun h => a_field (sz := 1) Try.underlying207 rfl Try.sizeOf5 (by decide) h⟩
instance : Fld Try.prog 207 6 6 := ⟨fun h => a_field (sz := 1) Try.underlying207 rfl Try.sizeOf202 (by decide) h⟩
instance : Fld Try.prog 207 7 7 := ⟨fun h => a_field (sz := 1) Try.underlying207 rfl Try.sizeOf203 (by decide) h⟩
instance : Fld Try.prog 207 8 8 := ⟨fun h => a_field (sz := 1) Try.underlying207 rfl Try.sizeOf204 (by decide) h⟩
instance : Fld Try.prog 207 9 9 := ⟨fun h => a_field (sz := 1) Try.underlying207 rfl Try.sizeOf205 (by decide) h⟩
instance : Fld Try.prog 207 10 10 := ⟨fun h => a_field (sz := 1) Try.underlying207 rfl Try.sizeOf206 (by decide) h⟩
instance : Bld Try.prog 207 #[(0, 1), (1, 1), (2, 1), (3, 1), (4, 1), (5, 1), (6, 1), (7, 1), (8, 1), (9, 1), (10, 1)] #[.int .u64 0, .int .u64 0, .int .u32 0, .int .u8 0, .int .u8 0, .int .u8 0, .int .u8 0, .nilFunc, .pointer none, .int .i32 0, .int .i32 0] := ⟨Try.zeroValue207, ⟨_, Try.underlying207, fun w => by kernel_rfl⟩⟩
instance : TyS Try.prog 208 11 [.int .u64 0, .int .u64 0, .int .u32 0, .int .u8 0, .int .u8 0, .int .u8 0, .int .u8 0, .nilFunc, .pointer none, .int .i32 0, .int .i32 0] := ⟨Try.isAgg208, Try.sizeOf208, Try.zeroValue208⟩
instance : Fld Try.prog 208 0 0 := ⟨fun h => a_field (sz := 1) Try.underlying208 rfl Try.sizeOf12 (by decide) h⟩
instance : Fld Try.prog 208 1 1 := ⟨fun h => a_field (sz := 1) Try.underlying208 rfl Try.sizeOf12 (by decide) h⟩
instance : Fld Try.prog 208 2 2 := ⟨fun h => a_field (sz := 1) Try.underlying208 rfl Try.sizeOf200 (by decide) h⟩
instance : Fld Try.prog 208 3 3 := ⟨fun h => a_field (sz := 1) Try.underlying208 rfl Try.sizeOf201 (by decide) h⟩
instance : Fld Try.prog 208 4 4 := ⟨fun h => a_field (sz := 1) Try.underlying208 rfl Try.sizeOf5 (by decide) h⟩
instance : Fld Try.prog 208 5 5 := ⟨fun h => a_field (sz := 1) Try.underlying208 rfl Try.sizeOf5 (by decide) h⟩
instance : Fld Try.prog 208 6 6 := ⟨fun h => a_field (sz := 1) Try.underlying208 rfl Try.sizeOf202 (by decide) h⟩
instance : Fld Try.prog 208 7 7 := ⟨fun h => a_field (sz := 1) Try.underlying208 rfl Try.sizeOf203 (by decide) h⟩
instance : Fld Try.prog 208 8 8 := ⟨fun h => a_field (sz := 1) Try.underlying208 rfl Try.sizeOf204 (by decide) h⟩
instance : Fld Try.prog 208 9 9 := ⟨fun h => a_field (sz := 1) Try.underlying208 rfl Try.sizeOf205 (by decide) h⟩
instance : Fld Try.prog 208 10 10 := ⟨fun h => a_field (sz := 1) Try.underlying208 rfl Try.sizeOf206 (by decide) h⟩
instance : Bld Try.prog 208 #[(0, 1), (1, 1), (2, 1), (3, 1), (4, 1), (5, 1), (6, 1), (7, 1), (8, 1), (9, 1), (10, 1)] #[.int .u64 0, .int .u64 0, .int .u32 0, .int .u8 0, .int .u8 0, .int .u8 0, .int .u8 0, .nilFunc, .pointer none, .int .i32 0, .int .i32 0] := ⟨Try.zeroValue208, ⟨_, Try.underlying208, fun w => by kernel_rfl⟩⟩
instance : Und Try.prog 209 (.func #[9, 9] #[32] false) := ⟨Try.underlying209⟩
instance : Ty1 Try.prog 209 (.nilFunc) := ⟨Try.isAgg209, Try.sizeOf209, Try.zeroValue209, rfl⟩
instance : Und Try.prog 210 (.func #[] #[215] false) := ⟨Try.underlying210⟩
instance : Ty1 Try.prog 210 (.nilFunc) := ⟨Try.isAgg210, Try.sizeOf210, Try.zeroValue210, rfl⟩
instance : Und Try.prog 211 (.func #[3, 3] #[215] false) := ⟨Try.underlying211⟩
instance : Ty1 Try.prog 211 (.nilFunc) := ⟨Try.isAgg211, Try.sizeOf211, Try.zeroValue211, rfl⟩
instance : Und Try.prog 212 (.func #[9, 9] #[145] false) := ⟨Try.underlying212⟩
instance : Ty1 Try.prog 212 (.nilFunc) := ⟨Try.isAgg212, Try.sizeOf212, Try.zeroValue212, rfl⟩
instance : Und Try.prog 213 (.unsafePointer) := ⟨Try.underlying213⟩
instance : Ty1 Try.prog 213 (.pointer none) := ⟨Try.isAgg213, Try.sizeOf213, Try.zeroValue213, rfl⟩
instance : Und Try.prog 214 (.func #[68] #[] false) := ⟨Try.underlying214⟩
instance : Ty1 Try.prog 214 (.nilFunc) := ⟨Try.isAgg214, Try.sizeOf214, Try.zeroValue214, rfl⟩
instance : Und Try.prog 215 (.func #[68] #[] false) := ⟨Try.underlying215⟩
instance : Ty1 Try.prog 215 (.nilFunc) := ⟨Try.isAgg215, Try.sizeOf215, Try.zeroValue215, rfl⟩
end Go.Proofs.Ytdjgchofnkancaa
