/-
  The seat's types: what is asked of each, as instances. Printed by a program (ty.py) out of Lean's own print.
-/
import Derived.Test.YtknbnfpdcbpoeaaProg
import Derived.Test.YtknbnfpdcbpoeaaEzSep
namespace Go.Proofs.Ytknbnfpdcbpoeaa
open Go Go.Ez
set_option linter.unusedVariables false

instance : Und Try.prog 1 (.func #[] #[] false) := ⟨Try.underlying1⟩
instance : Ty1 Try.prog 1 (.nilFunc) := ⟨Try.isAgg1, Try.sizeOf1, Try.zeroValue1, rfl⟩
instance : Und Try.prog 2 (.int .i64) := ⟨Try.underlying2⟩
instance : Ty1 Try.prog 2 (.int .i64 0) := ⟨Try.isAgg2, Try.sizeOf2, Try.zeroValue2, rfl⟩
instance : Und Try.prog 3 (.int .i64) := ⟨Try.underlying3⟩
instance : Ty1 Try.prog 3 (.int .i64 0) := ⟨Try.isAgg3, Try.sizeOf3, Try.zeroValue3, rfl⟩
instance : Und Try.prog 4 (.bool) := ⟨Try.underlying4⟩
instance : Ty1 Try.prog 4 (.bool false) := ⟨Try.isAgg4, Try.sizeOf4, Try.zeroValue4, rfl⟩
instance : Und Try.prog 5 (.int .u8) := ⟨Try.underlying5⟩
instance : Ty1 Try.prog 5 (.int .u8 0) := ⟨Try.isAgg5, Try.sizeOf5, Try.zeroValue5, rfl⟩
instance : Und Try.prog 6 (.int .u8) := ⟨Try.underlying6⟩
instance : Ty1 Try.prog 6 (.int .u8 0) := ⟨Try.isAgg6, Try.sizeOf6, Try.zeroValue6, rfl⟩
instance : TyS Try.prog 7 4 [.int .i64 0, .int .i64 0, .bool false, .int .u8 0] := ⟨Try.isAgg7, Try.sizeOf7, Try.zeroValue7⟩
instance : Fld Try.prog 7 0 0 := ⟨fun h => a_field (sz := 1) Try.underlying7 rfl Try.sizeOf2 (by decide) h⟩
instance : Fld Try.prog 7 1 1 := ⟨fun h => a_field (sz := 1) Try.underlying7 rfl Try.sizeOf3 (by decide) h⟩
instance : Fld Try.prog 7 2 2 := ⟨fun h => a_field (sz := 1) Try.underlying7 rfl Try.sizeOf4 (by decide) h⟩
instance : Fld Try.prog 7 3 3 := ⟨fun h => a_field (sz := 1) Try.underlying7 rfl Try.sizeOf6 (by decide) h⟩
instance : Bld Try.prog 7 #[(0, 1), (1, 1), (2, 1), (3, 1)] #[.int .i64 0, .int .i64 0, .bool false, .int .u8 0] := ⟨Try.zeroValue7, ⟨_, Try.underlying7, fun w => by kernel_rfl⟩⟩
instance : TyS Try.prog 8 4 [.int .i64 0, .int .i64 0, .bool false, .int .u8 0] := ⟨Try.isAgg8, Try.sizeOf8, Try.zeroValue8⟩
instance : Fld Try.prog 8 0 0 := ⟨fun h => a_field (sz := 1) Try.underlying8 rfl Try.sizeOf2 (by decide) h⟩
instance : Fld Try.prog 8 1 1 := ⟨fun h => a_field (sz := 1) Try.underlying8 rfl Try.sizeOf3 (by decide) h⟩
instance : Fld Try.prog 8 2 2 := ⟨fun h => a_field (sz := 1) Try.underlying8 rfl Try.sizeOf4 (by decide) h⟩
instance : Fld Try.prog 8 3 3 := ⟨fun h => a_field (sz := 1) Try.underlying8 rfl Try.sizeOf6 (by decide) h⟩
instance : Bld Try.prog 8 #[(0, 1), (1, 1), (2, 1), (3, 1)] #[.int .i64 0, .int .i64 0, .bool false, .int .u8 0] := ⟨Try.zeroValue8, ⟨_, Try.underlying8, fun w => by kernel_rfl⟩⟩
instance : Und Try.prog 9 (.string) := ⟨Try.underlying9⟩
instance : Ty1 Try.prog 9 (.string ⟨#[]⟩) := ⟨Try.isAgg9, Try.sizeOf9, Try.zeroValue9, rfl⟩
instance : Und Try.prog 10 (.string) := ⟨Try.underlying10⟩
instance : Ty1 Try.prog 10 (.string ⟨#[]⟩) := ⟨Try.isAgg10, Try.sizeOf10, Try.zeroValue10, rfl⟩
instance : Und Try.prog 11 (.string) := ⟨Try.underlying11⟩
instance : Ty1 Try.prog 11 (.string ⟨#[]⟩) := ⟨Try.isAgg11, Try.sizeOf11, Try.zeroValue11, rfl⟩
instance : Und Try.prog 12 (.int .u64) := ⟨Try.underlying12⟩
instance : Ty1 Try.prog 12 (.int .u64 0) := ⟨Try.isAgg12, Try.sizeOf12, Try.zeroValue12, rfl⟩
instance : TyS Try.prog 13 2 [.string ⟨#[]⟩, .int .u64 0] := ⟨Try.isAgg13, Try.sizeOf13, Try.zeroValue13⟩
instance : Fld Try.prog 13 0 0 := ⟨fun h => a_field (sz := 1) Try.underlying13 rfl Try.sizeOf9 (by decide) h⟩
instance : Fld Try.prog 13 1 1 := ⟨fun h => a_field (sz := 1) Try.underlying13 rfl Try.sizeOf12 (by decide) h⟩
instance : Bld Try.prog 13 #[(0, 1), (1, 1)] #[.string ⟨#[]⟩, .int .u64 0] := ⟨Try.zeroValue13, ⟨_, Try.underlying13, fun w => by kernel_rfl⟩⟩
instance : TyS Try.prog 14 2 [.string ⟨#[]⟩, .int .u64 0] := ⟨Try.isAgg14, Try.sizeOf14, Try.zeroValue14⟩
instance : Fld Try.prog 14 0 0 := ⟨fun h => a_field (sz := 1) Try.underlying14 rfl Try.sizeOf9 (by decide) h⟩
instance : Fld Try.prog 14 1 1 := ⟨fun h => a_field (sz := 1) Try.underlying14 rfl Try.sizeOf12 (by decide) h⟩
instance : Bld Try.prog 14 #[(0, 1), (1, 1)] #[.string ⟨#[]⟩, .int .u64 0] := ⟨Try.zeroValue14, ⟨_, Try.underlying14, fun w => by kernel_rfl⟩⟩
instance : Und Try.prog 15 (.pointer 92) := ⟨Try.underlying15⟩
instance : Ty1 Try.prog 15 (.pointer none) := ⟨Try.isAgg15, Try.sizeOf15, Try.zeroValue15, rfl⟩
instance : Und Try.prog 16 (.pointer 95) := ⟨Try.underlying16⟩
instance : Ty1 Try.prog 16 (.pointer none) := ⟨Try.isAgg16, Try.sizeOf16, Try.zeroValue16, rfl⟩
instance : Und Try.prog 17 (.pointer 102) := ⟨Try.underlying17⟩
instance : Ty1 Try.prog 17 (.pointer none) := ⟨Try.isAgg17, Try.sizeOf17, Try.zeroValue17, rfl⟩
instance : TyS Try.prog 18 1 [.pointer none] := ⟨Try.isAgg18, Try.sizeOf18, Try.zeroValue18⟩
instance : Fld Try.prog 18 0 0 := ⟨fun h => a_field (sz := 1) Try.underlying18 rfl Try.sizeOf17 (by decide) h⟩
instance : Bld Try.prog 18 #[(0, 1)] #[.pointer none] := ⟨Try.zeroValue18, ⟨_, Try.underlying18, fun w => by kernel_rfl⟩⟩
instance : TyS Try.prog 19 1 [.pointer none] := ⟨Try.isAgg19, Try.sizeOf19, Try.zeroValue19⟩
instance : Fld Try.prog 19 0 0 := ⟨fun h => a_field (sz := 1) Try.underlying19 rfl Try.sizeOf17 (by decide) h⟩
instance : Bld Try.prog 19 #[(0, 1)] #[.pointer none] := ⟨Try.zeroValue19, ⟨_, Try.underlying19, fun w => by kernel_rfl⟩⟩
instance : Und Try.prog 20 (.interface #[]) := ⟨Try.underlying20⟩
instance : Ty1 Try.prog 20 (.nilIface) := ⟨Try.isAgg20, Try.sizeOf20, Try.zeroValue20, rfl⟩
instance : Und Try.prog 21 (.int .i32) := ⟨Try.underlying21⟩
instance : Ty1 Try.prog 21 (.int .i32 0) := ⟨Try.isAgg21, Try.sizeOf21, Try.zeroValue21, rfl⟩
instance : Und Try.prog 22 (.slice 5) := ⟨Try.underlying22⟩
instance : Ty1 Try.prog 22 (.slice none 0 0) := ⟨Try.isAgg22, Try.sizeOf22, Try.zeroValue22, rfl⟩
instance : SlT Try.prog 22 5 1 1 (.int .u8 0) := ⟨⟨Try.underlying22, by kernel_rfl, rfl, by decide⟩⟩
instance : Und Try.prog 23 (.func #[] #[4] false) := ⟨Try.underlying23⟩
instance : Ty1 Try.prog 23 (.nilFunc) := ⟨Try.isAgg23, Try.sizeOf23, Try.zeroValue23, rfl⟩
instance : Und Try.prog 24 (.func #[22] #[22] false) := ⟨Try.underlying24⟩
instance : Ty1 Try.prog 24 (.nilFunc) := ⟨Try.isAgg24, Try.sizeOf24, Try.zeroValue24, rfl⟩
instance : Und Try.prog 25 (.int .i64) := ⟨Try.underlying25⟩
instance : Ty1 Try.prog 25 (.int .i64 0) := ⟨Try.isAgg25, Try.sizeOf25, Try.zeroValue25, rfl⟩
instance : Und Try.prog 27 (.func #[22] #[22, 25] false) := ⟨Try.underlying27⟩
instance : Ty1 Try.prog 27 (.nilFunc) := ⟨Try.isAgg27, Try.sizeOf27, Try.zeroValue27, rfl⟩
instance : Und Try.prog 28 (.slice 22) := ⟨Try.underlying28⟩
instance : Ty1 Try.prog 28 (.slice none 0 0) := ⟨Try.isAgg28, Try.sizeOf28, Try.zeroValue28, rfl⟩
instance : SlT Try.prog 28 22 1 24 (.slice none 0 0) := ⟨⟨Try.underlying28, by kernel_rfl, rfl, by decide⟩⟩
instance : Und Try.prog 30 (.func #[22] #[28, 3] false) := ⟨Try.underlying30⟩
instance : Ty1 Try.prog 30 (.nilFunc) := ⟨Try.isAgg30, Try.sizeOf30, Try.zeroValue30, rfl⟩
instance : Und Try.prog 31 (.slice 3) := ⟨Try.underlying31⟩
instance : Ty1 Try.prog 31 (.slice none 0 0) := ⟨Try.isAgg31, Try.sizeOf31, Try.zeroValue31, rfl⟩
instance : SlT Try.prog 31 3 1 8 (.int .i64 0) := ⟨⟨Try.underlying31, by kernel_rfl, rfl, by decide⟩⟩
instance : Und Try.prog 33 (.func #[35, 3] #[31, 28] false) := ⟨Try.underlying33⟩
instance : Ty1 Try.prog 33 (.nilFunc) := ⟨Try.isAgg33, Try.sizeOf33, Try.zeroValue33, rfl⟩
instance : Und Try.prog 34 (.func #[62] #[] false) := ⟨Try.underlying34⟩
instance : Ty1 Try.prog 34 (.nilFunc) := ⟨Try.isAgg34, Try.sizeOf34, Try.zeroValue34, rfl⟩
instance : Und Try.prog 35 (.func #[62] #[] false) := ⟨Try.underlying35⟩
instance : Ty1 Try.prog 35 (.nilFunc) := ⟨Try.isAgg35, Try.sizeOf35, Try.zeroValue35, rfl⟩
instance : Und Try.prog 36 (.func #[22] #[35] false) := ⟨Try.underlying36⟩
instance : Ty1 Try.prog 36 (.nilFunc) := ⟨Try.isAgg36, Try.sizeOf36, Try.zeroValue36, rfl⟩
instance : Und Try.prog 37 (.func #[28, 28] #[4] false) := ⟨Try.underlying37⟩
instance : Ty1 Try.prog 37 (.nilFunc) := ⟨Try.isAgg37, Try.sizeOf37, Try.zeroValue37, rfl⟩
instance : Und Try.prog 38 (.func #[22, 22] #[4] false) := ⟨Try.underlying38⟩
instance : Ty1 Try.prog 38 (.nilFunc) := ⟨Try.isAgg38, Try.sizeOf38, Try.zeroValue38, rfl⟩
instance : Und Try.prog 39 (.func #[22, 22, 3] #[4] false) := ⟨Try.underlying39⟩
instance : Ty1 Try.prog 39 (.nilFunc) := ⟨Try.isAgg39, Try.sizeOf39, Try.zeroValue39, rfl⟩
instance : Und Try.prog 40 (.func #[28, 3, 3, 5] #[4] false) := ⟨Try.underlying40⟩
instance : Ty1 Try.prog 40 (.nilFunc) := ⟨Try.isAgg40, Try.sizeOf40, Try.zeroValue40, rfl⟩
instance : TyS Try.prog 41 4 [.string ⟨#[]⟩, .int .i64 0, .int .i64 0, .string ⟨#[]⟩] := ⟨Try.isAgg41, Try.sizeOf41, Try.zeroValue41⟩
instance : Fld Try.prog 41 0 0 := ⟨fun h => a_field (sz := 1) Try.underlying41 rfl Try.sizeOf9 (by decide) h⟩
instance : Fld Try.prog 41 1 1 := ⟨fun h => a_field (sz := 1) Try.underlying41 rfl Try.sizeOf3 (by decide) h⟩
instance : Fld Try.prog 41 2 2 := ⟨fun h => a_field (sz := 1) Try.underlying41 rfl Try.sizeOf3 (by decide) h⟩
instance : Fld Try.prog 41 3 3 := ⟨fun h => a_field (sz := 1) Try.underlying41 rfl Try.sizeOf9 (by decide) h⟩
instance : Bld Try.prog 41 #[(0, 1), (1, 1), (2, 1), (3, 1)] #[.string ⟨#[]⟩, .int .i64 0, .int .i64 0, .string ⟨#[]⟩] := ⟨Try.zeroValue41, ⟨_, Try.underlying41, fun w => by kernel_rfl⟩⟩
instance : TyS Try.prog 42 4 [.string ⟨#[]⟩, .int .i64 0, .int .i64 0, .string ⟨#[]⟩] := ⟨Try.isAgg42, Try.sizeOf42, Try.zeroValue42⟩
instance : Fld Try.prog 42 0 0 := ⟨fun h => a_field (sz := 1) Try.underlying42 rfl Try.sizeOf9 (by decide) h⟩
instance : Fld Try.prog 42 1 1 := ⟨fun h => a_field (sz := 1) Try.underlying42 rfl Try.sizeOf3 (by decide) h⟩
instance : Fld Try.prog 42 2 2 := ⟨fun h => a_field (sz := 1) Try.underlying42 rfl Try.sizeOf3 (by decide) h⟩
instance : Fld Try.prog 42 3 3 := ⟨fun h => a_field (sz := 1) Try.underlying42 rfl Try.sizeOf9 (by decide) h⟩
instance : Bld Try.prog 42 #[(0, 1), (1, 1), (2, 1), (3, 1)] #[.string ⟨#[]⟩, .int .i64 0, .int .i64 0, .string ⟨#[]⟩] := ⟨Try.zeroValue42, ⟨_, Try.underlying42, fun w => by kernel_rfl⟩⟩
instance : Und Try.prog 44 (.func #[42] #[9, 25] false) := ⟨Try.underlying44⟩
instance : Ty1 Try.prog 44 (.nilFunc) := ⟨Try.isAgg44, Try.sizeOf44, Try.zeroValue44, rfl⟩
instance : Und Try.prog 45 (.func #[42] #[4] false) := ⟨Try.underlying45⟩
instance : Ty1 Try.prog 45 (.nilFunc) := ⟨Try.isAgg45, Try.sizeOf45, Try.zeroValue45, rfl⟩
instance : TyS Try.prog 46 4 [.string ⟨#[]⟩, .int .i64 0, .int .i64 0, .string ⟨#[]⟩] := ⟨Try.isAgg46, Try.sizeOf46, Try.zeroValue46⟩
instance : Fld Try.prog 46 0 0 := ⟨fun h => a_field (sz := 1) Try.underlying46 rfl Try.sizeOf9 (by decide) h⟩
instance : Fld Try.prog 46 1 1 := ⟨fun h => a_field (sz := 1) Try.underlying46 rfl Try.sizeOf3 (by decide) h⟩
instance : Fld Try.prog 46 2 2 := ⟨fun h => a_field (sz := 1) Try.underlying46 rfl Try.sizeOf3 (by decide) h⟩
instance : Fld Try.prog 46 3 3 := ⟨fun h => a_field (sz := 1) Try.underlying46 rfl Try.sizeOf9 (by decide) h⟩
instance : Bld Try.prog 46 #[(0, 1), (1, 1), (2, 1), (3, 1)] #[.string ⟨#[]⟩, .int .i64 0, .int .i64 0, .string ⟨#[]⟩] := ⟨Try.zeroValue46, ⟨_, Try.underlying46, fun w => by kernel_rfl⟩⟩
instance : Und Try.prog 47 (.func #[42] #[46] false) := ⟨Try.underlying47⟩
instance : Ty1 Try.prog 47 (.nilFunc) := ⟨Try.isAgg47, Try.sizeOf47, Try.zeroValue47, rfl⟩
instance : Und Try.prog 48 (.func #[42, 42] #[4] false) := ⟨Try.underlying48⟩
instance : Ty1 Try.prog 48 (.nilFunc) := ⟨Try.isAgg48, Try.sizeOf48, Try.zeroValue48, rfl⟩
instance : Und Try.prog 49 (.func #[] #[9, 25] false) := ⟨Try.underlying49⟩
instance : Ty1 Try.prog 49 (.nilFunc) := ⟨Try.isAgg49, Try.sizeOf49, Try.zeroValue49, rfl⟩
instance : Und Try.prog 51 (.func #[9] #[42, 25] false) := ⟨Try.underlying51⟩
instance : Ty1 Try.prog 51 (.nilFunc) := ⟨Try.isAgg51, Try.sizeOf51, Try.zeroValue51, rfl⟩
instance : Und Try.prog 53 (.func #[9] #[46, 25] false) := ⟨Try.underlying53⟩
instance : Ty1 Try.prog 53 (.nilFunc) := ⟨Try.isAgg53, Try.sizeOf53, Try.zeroValue53, rfl⟩
instance : Und Try.prog 54 (.func #[42, 9] #[4] false) := ⟨Try.underlying54⟩
instance : Ty1 Try.prog 54 (.nilFunc) := ⟨Try.isAgg54, Try.sizeOf54, Try.zeroValue54, rfl⟩
instance : Und Try.prog 55 (.func #[42, 3, 3, 3] #[4] false) := ⟨Try.underlying55⟩
instance : Ty1 Try.prog 55 (.nilFunc) := ⟨Try.isAgg55, Try.sizeOf55, Try.zeroValue55, rfl⟩
instance : Und Try.prog 56 (.func #[3, 3] #[22, 25] false) := ⟨Try.underlying56⟩
instance : Ty1 Try.prog 56 (.nilFunc) := ⟨Try.isAgg56, Try.sizeOf56, Try.zeroValue56, rfl⟩
instance : Und Try.prog 57 (.int .u32) := ⟨Try.underlying57⟩
instance : Ty1 Try.prog 57 (.int .u32 0) := ⟨Try.isAgg57, Try.sizeOf57, Try.zeroValue57, rfl⟩
instance : Und Try.prog 58 (.func #[22, 22] #[57] false) := ⟨Try.underlying58⟩
instance : Ty1 Try.prog 58 (.nilFunc) := ⟨Try.isAgg58, Try.sizeOf58, Try.zeroValue58, rfl⟩
instance : Und Try.prog 59 (.func #[22] #[57] false) := ⟨Try.underlying59⟩
instance : Ty1 Try.prog 59 (.nilFunc) := ⟨Try.isAgg59, Try.sizeOf59, Try.zeroValue59, rfl⟩
instance : Und Try.prog 61 (.func #[22, 3, 3] #[3, 25] false) := ⟨Try.underlying61⟩
instance : Ty1 Try.prog 61 (.nilFunc) := ⟨Try.isAgg61, Try.sizeOf61, Try.zeroValue61, rfl⟩
instance : Und Try.prog 62 (.func #[3, 22] #[4] false) := ⟨Try.underlying62⟩
instance : Ty1 Try.prog 62 (.nilFunc) := ⟨Try.isAgg62, Try.sizeOf62, Try.zeroValue62, rfl⟩
instance : Und Try.prog 64 (.func #[22, 3] #[22, 4] false) := ⟨Try.underlying64⟩
instance : Ty1 Try.prog 64 (.nilFunc) := ⟨Try.isAgg64, Try.sizeOf64, Try.zeroValue64, rfl⟩
instance : Und Try.prog 65 (.func #[22, 9] #[22] false) := ⟨Try.underlying65⟩
instance : Ty1 Try.prog 65 (.nilFunc) := ⟨Try.isAgg65, Try.sizeOf65, Try.zeroValue65, rfl⟩
instance : Und Try.prog 66 (.func #[22, 3] #[22] false) := ⟨Try.underlying66⟩
instance : Ty1 Try.prog 66 (.nilFunc) := ⟨Try.isAgg66, Try.sizeOf66, Try.zeroValue66, rfl⟩
instance : Und Try.prog 67 (.func #[22] #[9] false) := ⟨Try.underlying67⟩
instance : Ty1 Try.prog 67 (.nilFunc) := ⟨Try.isAgg67, Try.sizeOf67, Try.zeroValue67, rfl⟩
instance : Und Try.prog 68 (.func #[9] #[4] false) := ⟨Try.underlying68⟩
instance : Ty1 Try.prog 68 (.nilFunc) := ⟨Try.isAgg68, Try.sizeOf68, Try.zeroValue68, rfl⟩
instance : Und Try.prog 69 (.func #[3] #[22] false) := ⟨Try.underlying69⟩
instance : Ty1 Try.prog 69 (.nilFunc) := ⟨Try.isAgg69, Try.sizeOf69, Try.zeroValue69, rfl⟩
instance : Und Try.prog 70 (.func #[9] #[22, 4] false) := ⟨Try.underlying70⟩
instance : Ty1 Try.prog 70 (.nilFunc) := ⟨Try.isAgg70, Try.sizeOf70, Try.zeroValue70, rfl⟩
instance : Und Try.prog 71 (.pointer 73) := ⟨Try.underlying71⟩
instance : Ty1 Try.prog 71 (.pointer none) := ⟨Try.isAgg71, Try.sizeOf71, Try.zeroValue71, rfl⟩
instance : TyS Try.prog 72 3 [.slice none 0 0, .int .i64 0, .bool false] := ⟨Try.isAgg72, Try.sizeOf72, Try.zeroValue72⟩
instance : Fld Try.prog 72 0 0 := ⟨fun h => a_field (sz := 1) Try.underlying72 rfl Try.sizeOf22 (by decide) h⟩
instance : Fld Try.prog 72 1 1 := ⟨fun h => a_field (sz := 1) Try.underlying72 rfl Try.sizeOf3 (by decide) h⟩
instance : Fld Try.prog 72 2 2 := ⟨fun h => a_field (sz := 1) Try.underlying72 rfl Try.sizeOf4 (by decide) h⟩
instance : Bld Try.prog 72 #[(0, 1), (1, 1), (2, 1)] #[.slice none 0 0, .int .i64 0, .bool false] := ⟨Try.zeroValue72, ⟨_, Try.underlying72, fun w => by kernel_rfl⟩⟩
instance : TyS Try.prog 73 3 [.slice none 0 0, .int .i64 0, .bool false] := ⟨Try.isAgg73, Try.sizeOf73, Try.zeroValue73⟩
instance : Fld Try.prog 73 0 0 := ⟨fun h => a_field (sz := 1) Try.underlying73 rfl Try.sizeOf22 (by decide) h⟩
instance : Fld Try.prog 73 1 1 := ⟨fun h => a_field (sz := 1) Try.underlying73 rfl Try.sizeOf3 (by decide) h⟩
instance : Fld Try.prog 73 2 2 := ⟨fun h => a_field (sz := 1) Try.underlying73 rfl Try.sizeOf4 (by decide) h⟩
instance : Bld Try.prog 73 #[(0, 1), (1, 1), (2, 1)] #[.slice none 0 0, .int .i64 0, .bool false] := ⟨Try.zeroValue73, ⟨_, Try.underlying73, fun w => by kernel_rfl⟩⟩
instance : Und Try.prog 74 (.func #[] #[3] false) := ⟨Try.underlying74⟩
instance : Ty1 Try.prog 74 (.nilFunc) := ⟨Try.isAgg74, Try.sizeOf74, Try.zeroValue74, rfl⟩
instance : Und Try.prog 75 (.func #[] #[9] false) := ⟨Try.underlying75⟩
instance : Ty1 Try.prog 75 (.nilFunc) := ⟨Try.isAgg75, Try.sizeOf75, Try.zeroValue75, rfl⟩
instance : Und Try.prog 77 (.func #[22, 3] #[3, 3, 25] false) := ⟨Try.underlying77⟩
instance : Ty1 Try.prog 77 (.nilFunc) := ⟨Try.isAgg77, Try.sizeOf77, Try.zeroValue77, rfl⟩
instance : Und Try.prog 78 (.int .u64) := ⟨Try.underlying78⟩
instance : Ty1 Try.prog 78 (.int .u64 0) := ⟨Try.isAgg78, Try.sizeOf78, Try.zeroValue78, rfl⟩
instance : Und Try.prog 79 (.func #[3] #[22, 25] false) := ⟨Try.underlying79⟩
instance : Ty1 Try.prog 79 (.nilFunc) := ⟨Try.isAgg79, Try.sizeOf79, Try.zeroValue79, rfl⟩
instance : Und Try.prog 80 (.pointer 82) := ⟨Try.underlying80⟩
instance : Ty1 Try.prog 80 (.pointer none) := ⟨Try.isAgg80, Try.sizeOf80, Try.zeroValue80, rfl⟩
instance : TyS Try.prog 81 2 [.pointer none, .slice none 0 0] := ⟨Try.isAgg81, Try.sizeOf81, Try.zeroValue81⟩
instance : Fld Try.prog 81 0 0 := ⟨fun h => a_field (sz := 1) Try.underlying81 rfl Try.sizeOf80 (by decide) h⟩
instance : Fld Try.prog 81 1 1 := ⟨fun h => a_field (sz := 1) Try.underlying81 rfl Try.sizeOf22 (by decide) h⟩
instance : Bld Try.prog 81 #[(0, 1), (1, 1)] #[.pointer none, .slice none 0 0] := ⟨Try.zeroValue81, ⟨_, Try.underlying81, fun w => by kernel_rfl⟩⟩
instance : TyS Try.prog 82 2 [.pointer none, .slice none 0 0] := ⟨Try.isAgg82, Try.sizeOf82, Try.zeroValue82⟩
instance : Fld Try.prog 82 0 0 := ⟨fun h => a_field (sz := 1) Try.underlying82 rfl Try.sizeOf80 (by decide) h⟩
instance : Fld Try.prog 82 1 1 := ⟨fun h => a_field (sz := 1) Try.underlying82 rfl Try.sizeOf22 (by decide) h⟩
instance : Bld Try.prog 82 #[(0, 1), (1, 1)] #[.pointer none, .slice none 0 0] := ⟨Try.zeroValue82, ⟨_, Try.underlying82, fun w => by kernel_rfl⟩⟩
instance : Und Try.prog 83 (.interface #[("Error", 75)]) := ⟨Try.underlying83⟩
instance : Ty1 Try.prog 83 (.nilIface) := ⟨Try.isAgg83, Try.sizeOf83, Try.zeroValue83, rfl⟩
instance : Und Try.prog 84 (.interface #[("Error", 75)]) := ⟨Try.underlying84⟩
instance : Ty1 Try.prog 84 (.nilIface) := ⟨Try.isAgg84, Try.sizeOf84, Try.zeroValue84, rfl⟩
instance : Und Try.prog 85 (.func #[5] #[84] false) := ⟨Try.underlying85⟩
instance : Ty1 Try.prog 85 (.nilFunc) := ⟨Try.isAgg85, Try.sizeOf85, Try.zeroValue85, rfl⟩
instance : Und Try.prog 86 (.func #[9, 5] #[3] false) := ⟨Try.underlying86⟩
instance : Ty1 Try.prog 86 (.nilFunc) := ⟨Try.isAgg86, Try.sizeOf86, Try.zeroValue86, rfl⟩
instance : Und Try.prog 87 (.func #[5] #[3] false) := ⟨Try.underlying87⟩
instance : Ty1 Try.prog 87 (.nilFunc) := ⟨Try.isAgg87, Try.sizeOf87, Try.zeroValue87, rfl⟩
instance : Und Try.prog 88 (.pointer 5) := ⟨Try.underlying88⟩
instance : Ty1 Try.prog 88 (.pointer none) := ⟨Try.isAgg88, Try.sizeOf88, Try.zeroValue88, rfl⟩
instance : Und Try.prog 89 (.unsafePointer) := ⟨Try.underlying89⟩
instance : Ty1 Try.prog 89 (.pointer none) := ⟨Try.isAgg89, Try.sizeOf89, Try.zeroValue89, rfl⟩
instance : Und Try.prog 90 (.func #[89] #[89] false) := ⟨Try.underlying90⟩
instance : Ty1 Try.prog 90 (.nilFunc) := ⟨Try.isAgg90, Try.sizeOf90, Try.zeroValue90, rfl⟩
instance : TyS Try.prog 91 4 [.pointer none, .pointer none, .pointer none, .string ⟨#[]⟩] := ⟨Try.isAgg91, Try.sizeOf91, Try.zeroValue91⟩
instance : Fld Try.prog 91 0 0 := ⟨fun h => a_field (sz := 1) Try.underlying91 rfl Try.sizeOf17 (by decide) h⟩
instance : Fld Try.prog 91 1 1 := ⟨fun h => a_field (sz := 1) Try.underlying91 rfl Try.sizeOf17 (by decide) h⟩
instance : Fld Try.prog 91 2 2 := ⟨fun h => a_field (sz := 1) Try.underlying91 rfl Try.sizeOf17 (by decide) h⟩
instance : Fld Try.prog 91 3 3 := ⟨fun h => a_field (sz := 1) Try.underlying91 rfl Try.sizeOf9 (by decide) h⟩
instance : Bld Try.prog 91 #[(0, 1), (1, 1), (2, 1), (3, 1)] #[.pointer none, .pointer none, .pointer none, .string ⟨#[]⟩] := ⟨Try.zeroValue91, ⟨_, Try.underlying91, fun w => by kernel_rfl⟩⟩
instance : TyS Try.prog 92 4 [.pointer none, .pointer none, .pointer none, .string ⟨#[]⟩] := ⟨Try.isAgg92, Try.sizeOf92, Try.zeroValue92⟩
instance : Fld Try.prog 92 0 0 := ⟨fun h => a_field (sz := 1) Try.underlying92 rfl Try.sizeOf17 (by decide) h⟩
instance : Fld Try.prog 92 1 1 := ⟨fun h => a_field (sz := 1) Try.underlying92 rfl Try.sizeOf17 (by decide) h⟩
instance : Fld Try.prog 92 2 2 := ⟨fun h => a_field (sz := 1) Try.underlying92 rfl Try.sizeOf17 (by decide) h⟩
instance : Fld Try.prog 92 3 3 := ⟨fun h => a_field (sz := 1) Try.underlying92 rfl Try.sizeOf9 (by decide) h⟩
instance : Bld Try.prog 92 #[(0, 1), (1, 1), (2, 1), (3, 1)] #[.pointer none, .pointer none, .pointer none, .string ⟨#[]⟩] := ⟨Try.zeroValue92, ⟨_, Try.underlying92, fun w => by kernel_rfl⟩⟩
instance : TyS Try.prog 94 0 [] := ⟨Try.isAgg94, Try.sizeOf94, Try.zeroValue94⟩
instance : Bld Try.prog 94 #[(0, 0)] #[] := ⟨Try.zeroValue94, ⟨_, Try.underlying94, fun w => by kernel_rfl⟩⟩
instance : TyS Try.prog 95 0 [] := ⟨Try.isAgg95, Try.sizeOf95, Try.zeroValue95⟩
instance : Bld Try.prog 95 #[(0, 0)] #[] := ⟨Try.zeroValue95, ⟨_, Try.underlying95, fun w => by kernel_rfl⟩⟩
instance : Und Try.prog 96 (.int .u8) := ⟨Try.underlying96⟩
instance : Ty1 Try.prog 96 (.int .u8 0) := ⟨Try.isAgg96, Try.sizeOf96, Try.zeroValue96, rfl⟩
instance : Und Try.prog 97 (.int .u8) := ⟨Try.underlying97⟩
instance : Ty1 Try.prog 97 (.int .u8 0) := ⟨Try.isAgg97, Try.sizeOf97, Try.zeroValue97, rfl⟩
instance : Und Try.prog 98 (.func #[89, 89] #[4] false) := ⟨Try.underlying98⟩
instance : Ty1 Try.prog 98 (.nilFunc) := ⟨Try.isAgg98, Try.sizeOf98, Try.zeroValue98, rfl⟩
instance : Und Try.prog 99 (.int .i32) := ⟨Try.underlying99⟩
instance : Ty1 Try.prog 99 (.int .i32 0) := ⟨Try.isAgg99, Try.sizeOf99, Try.zeroValue99, rfl⟩
instance : Und Try.prog 100 (.int .i32) := ⟨Try.underlying100⟩
instance : Ty1 Try.prog 100 (.int .i32 0) := ⟨Try.isAgg100, Try.sizeOf100, Try.zeroValue100, rfl⟩
end Go.Proofs.Ytknbnfpdcbpoeaa
