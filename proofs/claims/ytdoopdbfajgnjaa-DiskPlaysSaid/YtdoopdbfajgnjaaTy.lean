/-
  The seat's types: what is asked of each, as instances. Printed by a program (ty.py) out of Lean's own print.
-/
import Derived.Test.YtdoopdbfajgnjaaProg
import Derived.Test.YtdoopdbfajgnjaaEzSep
namespace Go.Proofs.Ytdoopdbfajgnjaa
open Go Go.Ez
set_option linter.unusedVariables false

instance : Und Try.prog 1 (.func #[] #[] false) := ⟨Try.underlying1⟩
instance : Ty1 Try.prog 1 (.nilFunc) := ⟨Try.isAgg1, Try.sizeOf1, Try.zeroValue1, rfl⟩
instance : Und Try.prog 2 (.int .i64) := ⟨Try.underlying2⟩
instance : Ty1 Try.prog 2 (.int .i64 0) := ⟨Try.isAgg2, Try.sizeOf2, Try.zeroValue2, rfl⟩
instance : Und Try.prog 3 (.int .i64) := ⟨Try.underlying3⟩
instance : Ty1 Try.prog 3 (.int .i64 0) := ⟨Try.isAgg3, Try.sizeOf3, Try.zeroValue3, rfl⟩
instance : Und Try.prog 4 (.bool) := ⟨Try.underlying4⟩
instance : Ty1 Try.prog 4 (.bool false) := ⟨Try.isAgg4, Try.sizeOf4, Try.zeroValue4, rfl⟩
instance : Und Try.prog 5 (.int .u8) := ⟨Try.underlying5⟩
instance : Ty1 Try.prog 5 (.int .u8 0) := ⟨Try.isAgg5, Try.sizeOf5, Try.zeroValue5, rfl⟩
instance : Und Try.prog 6 (.int .u8) := ⟨Try.underlying6⟩
instance : Ty1 Try.prog 6 (.int .u8 0) := ⟨Try.isAgg6, Try.sizeOf6, Try.zeroValue6, rfl⟩
instance : TyS Try.prog 7 4 [.int .i64 0, .int .i64 0, .bool false, .int .u8 0] := ⟨Try.isAgg7, Try.sizeOf7, Try.zeroValue7⟩
instance : Fld Try.prog 7 0 0 := ⟨fun h => a_field (sz := 1) Try.underlying7 rfl Try.sizeOf2 (by decide) h⟩
instance : Fld Try.prog 7 1 1 := ⟨fun h => a_field (sz := 1) Try.underlying7 rfl Try.sizeOf3 (by decide) h⟩
instance : Fld Try.prog 7 2 2 := ⟨fun h => a_field (sz := 1) Try.underlying7 rfl Try.sizeOf4 (by decide) h⟩
instance : Fld Try.prog 7 3 3 := ⟨fun h => a_field (sz := 1) Try.underlying7 rfl Try.sizeOf6 (by decide) h⟩
instance : Bld Try.prog 7 #[(0, 1), (1, 1), (2, 1), (3, 1)] #[.int .i64 0, .int .i64 0, .bool false, .int .u8 0] := ⟨Try.zeroValue7, ⟨_, Try.underlying7, fun w => by kernel_rfl⟩⟩
instance : TyS Try.prog 8 4 [.int .i64 0, .int .i64 0, .bool false, .int .u8 0] := ⟨Try.isAgg8, Try.sizeOf8, Try.zeroValue8⟩
instance : Fld Try.prog 8 0 0 := ⟨fun h => a_field (sz := 1) Try.underlying8 rfl Try.sizeOf2 (by decide) h⟩
instance : Fld Try.prog 8 1 1 := ⟨fun h => a_field (sz := 1) Try.underlying8 rfl Try.sizeOf3 (by decide) h⟩
instance : Fld Try.prog 8 2 2 := ⟨fun h => a_field (sz := 1) Try.underlying8 rfl Try.sizeOf4 (by decide) h⟩
instance : Fld Try.prog 8 3 3 := ⟨fun h => a_field (sz := 1) Try.underlying8 rfl Try.sizeOf6 (by decide) h⟩
instance : Bld Try.prog 8 #[(0, 1), (1, 1), (2, 1), (3, 1)] #[.int .i64 0, .int .i64 0, .bool false, .int .u8 0] := ⟨Try.zeroValue8, ⟨_, Try.underlying8, fun w => by kernel_rfl⟩⟩
instance : Und Try.prog 9 (.string) := ⟨Try.underlying9⟩
instance : Ty1 Try.prog 9 (.string ⟨#[]⟩) := ⟨Try.isAgg9, Try.sizeOf9, Try.zeroValue9, rfl⟩
instance : Und Try.prog 10 (.string) := ⟨Try.underlying10⟩
instance : Ty1 Try.prog 10 (.string ⟨#[]⟩) := ⟨Try.isAgg10, Try.sizeOf10, Try.zeroValue10, rfl⟩
instance : Und Try.prog 11 (.string) := ⟨Try.underlying11⟩
instance : Ty1 Try.prog 11 (.string ⟨#[]⟩) := ⟨Try.isAgg11, Try.sizeOf11, Try.zeroValue11, rfl⟩
instance : Und Try.prog 12 (.int .u64) := ⟨Try.underlying12⟩
instance : Ty1 Try.prog 12 (.int .u64 0) := ⟨Try.isAgg12, Try.sizeOf12, Try.zeroValue12, rfl⟩
instance : TyS Try.prog 13 2 [.string ⟨#[]⟩, .int .u64 0] := ⟨Try.isAgg13, Try.sizeOf13, Try.zeroValue13⟩
instance : Fld Try.prog 13 0 0 := ⟨fun h => a_field (sz := 1) Try.underlying13 rfl Try.sizeOf9 (by decide) h⟩
instance : Fld Try.prog 13 1 1 := ⟨fun h => a_field (sz := 1) Try.underlying13 rfl Try.sizeOf12 (by decide) h⟩
instance : Bld Try.prog 13 #[(0, 1), (1, 1)] #[.string ⟨#[]⟩, .int .u64 0] := ⟨Try.zeroValue13, ⟨_, Try.underlying13, fun w => by kernel_rfl⟩⟩
instance : TyS Try.prog 14 2 [.string ⟨#[]⟩, .int .u64 0] := ⟨Try.isAgg14, Try.sizeOf14, Try.zeroValue14⟩
instance : Fld Try.prog 14 0 0 := ⟨fun h => a_field (sz := 1) Try.underlying14 rfl Try.sizeOf9 (by decide) h⟩
instance : Fld Try.prog 14 1 1 := ⟨fun h => a_field (sz := 1) Try.underlying14 rfl Try.sizeOf12 (by decide) h⟩
instance : Bld Try.prog 14 #[(0, 1), (1, 1)] #[.string ⟨#[]⟩, .int .u64 0] := ⟨Try.zeroValue14, ⟨_, Try.underlying14, fun w => by kernel_rfl⟩⟩
instance : Und Try.prog 15 (.pointer 140) := ⟨Try.underlying15⟩
instance : Ty1 Try.prog 15 (.pointer none) := ⟨Try.isAgg15, Try.sizeOf15, Try.zeroValue15, rfl⟩
instance : Und Try.prog 16 (.pointer 143) := ⟨Try.underlying16⟩
instance : Ty1 Try.prog 16 (.pointer none) := ⟨Try.isAgg16, Try.sizeOf16, Try.zeroValue16, rfl⟩
instance : Und Try.prog 17 (.pointer 151) := ⟨Try.underlying17⟩
instance : Ty1 Try.prog 17 (.pointer none) := ⟨Try.isAgg17, Try.sizeOf17, Try.zeroValue17, rfl⟩
instance : TyS Try.prog 18 1 [.pointer none] := ⟨Try.isAgg18, Try.sizeOf18, Try.zeroValue18⟩
instance : Fld Try.prog 18 0 0 := ⟨fun h => a_field (sz := 1) Try.underlying18 rfl Try.sizeOf17 (by decide) h⟩
instance : Bld Try.prog 18 #[(0, 1)] #[.pointer none] := ⟨Try.zeroValue18, ⟨_, Try.underlying18, fun w => by kernel_rfl⟩⟩
instance : TyS Try.prog 19 1 [.pointer none] := ⟨Try.isAgg19, Try.sizeOf19, Try.zeroValue19⟩
instance : Fld Try.prog 19 0 0 := ⟨fun h => a_field (sz := 1) Try.underlying19 rfl Try.sizeOf17 (by decide) h⟩
instance : Bld Try.prog 19 #[(0, 1)] #[.pointer none] := ⟨Try.zeroValue19, ⟨_, Try.underlying19, fun w => by kernel_rfl⟩⟩
instance : Und Try.prog 20 (.interface #[]) := ⟨Try.underlying20⟩
instance : Ty1 Try.prog 20 (.nilIface) := ⟨Try.isAgg20, Try.sizeOf20, Try.zeroValue20, rfl⟩
instance : Und Try.prog 21 (.int .i32) := ⟨Try.underlying21⟩
instance : Ty1 Try.prog 21 (.int .i32 0) := ⟨Try.isAgg21, Try.sizeOf21, Try.zeroValue21, rfl⟩
instance : Und Try.prog 22 (.slice 32) := ⟨Try.underlying22⟩
instance : Ty1 Try.prog 22 (.slice none 0 0) := ⟨Try.isAgg22, Try.sizeOf22, Try.zeroValue22, rfl⟩
instance : SlT Try.prog 22 32 7 104 (.agg #[.int .i64 0, .int .i64 0, .int .i64 0, .string ⟨#[]⟩, .string ⟨#[]⟩, .slice none 0 0, .slice none 0 0]) := ⟨⟨Try.underlying22, by kernel_rfl, rfl, by decide⟩⟩
instance : Und Try.prog 23 (.func #[] #[4] false) := ⟨Try.underlying23⟩
instance : Ty1 Try.prog 23 (.nilFunc) := ⟨Try.isAgg23, Try.sizeOf23, Try.zeroValue23, rfl⟩
instance : Und Try.prog 24 (.func #[22] #[4] false) := ⟨Try.underlying24⟩
instance : Ty1 Try.prog 24 (.nilFunc) := ⟨Try.isAgg24, Try.sizeOf24, Try.zeroValue24, rfl⟩
instance : Und Try.prog 25 (.pointer 69) := ⟨Try.underlying25⟩
instance : Ty1 Try.prog 25 (.pointer none) := ⟨Try.isAgg25, Try.sizeOf25, Try.zeroValue25, rfl⟩
instance : Und Try.prog 26 (.int .i64) := ⟨Try.underlying26⟩
instance : Ty1 Try.prog 26 (.int .i64 0) := ⟨Try.isAgg26, Try.sizeOf26, Try.zeroValue26, rfl⟩
instance : Und Try.prog 28 (.func #[3] #[25, 26] false) := ⟨Try.underlying28⟩
instance : Ty1 Try.prog 28 (.nilFunc) := ⟨Try.isAgg28, Try.sizeOf28, Try.zeroValue28, rfl⟩
instance : Und Try.prog 29 (.slice 5) := ⟨Try.underlying29⟩
instance : Ty1 Try.prog 29 (.slice none 0 0) := ⟨Try.isAgg29, Try.sizeOf29, Try.zeroValue29, rfl⟩
instance : SlT Try.prog 29 5 1 1 (.int .u8 0) := ⟨⟨Try.underlying29, by kernel_rfl, rfl, by decide⟩⟩
instance : Und Try.prog 30 (.slice 76) := ⟨Try.underlying30⟩
instance : Ty1 Try.prog 30 (.slice none 0 0) := ⟨Try.isAgg30, Try.sizeOf30, Try.zeroValue30, rfl⟩
instance : SlT Try.prog 30 76 4 32 (.agg #[.int .i64 0, .int .i64 0, .int .i64 0, .int .i64 0]) := ⟨⟨Try.underlying30, by kernel_rfl, rfl, by decide⟩⟩
instance : TyS Try.prog 31 7 [.int .i64 0, .int .i64 0, .int .i64 0, .string ⟨#[]⟩, .string ⟨#[]⟩, .slice none 0 0, .slice none 0 0] := ⟨Try.isAgg31, Try.sizeOf31, Try.zeroValue31⟩
instance : Fld Try.prog 31 0 0 := ⟨fun h => a_field (sz := 1) Try.underlying31 rfl Try.sizeOf3 (by decide) h⟩
instance : Fld Try.prog 31 1 1 := ⟨fun h => a_field (sz := 1) Try.underlying31 rfl Try.sizeOf3 (by decide) h⟩
instance : Fld Try.prog 31 2 2 := ⟨fun h => a_field (sz := 1) Try.underlying31 rfl Try.sizeOf3 (by decide) h⟩
instance : Fld Try.prog 31 3 3 := ⟨fun h => a_field (sz := 1) Try.underlying31 rfl Try.sizeOf9 (by decide) h⟩
instance : Fld Try.prog 31 4 4 := ⟨fun h => a_field (sz := 1) Try.underlying31 rfl Try.sizeOf9 (by decide) h⟩
instance : Fld Try.prog 31 5 5 := ⟨fun h => a_field (sz := 1) Try.underlying31 rfl Try.sizeOf29 (by decide) h⟩
instance : Fld Try.prog 31 6 6 := ⟨fun h => a_field (sz := 1) Try.underlying31 rfl Try.sizeOf30 (by decide) h⟩
instance : Bld Try.prog 31 #[(0, 1), (1, 1), (2, 1), (3, 1), (4, 1), (5, 1), (6, 1)] #[.int .i64 0, .int .i64 0, .int .i64 0, .string ⟨#[]⟩, .string ⟨#[]⟩, .slice none 0 0, .slice none 0 0] := ⟨Try.zeroValue31, ⟨_, Try.underlying31, fun w => by kernel_rfl⟩⟩
instance : TyS Try.prog 32 7 [.int .i64 0, .int .i64 0, .int .i64 0, .string ⟨#[]⟩, .string ⟨#[]⟩, .slice none 0 0, .slice none 0 0] := ⟨Try.isAgg32, Try.sizeOf32, Try.zeroValue32⟩
instance : Fld Try.prog 32 0 0 := ⟨fun h => a_field (sz := 1) Try.underlying32 rfl Try.sizeOf3 (by decide) h⟩
instance : Fld Try.prog 32 1 1 := ⟨fun h => a_field (sz := 1) Try.underlying32 rfl Try.sizeOf3 (by decide) h⟩
instance : Fld Try.prog 32 2 2 := ⟨fun h => a_field (sz := 1) Try.underlying32 rfl Try.sizeOf3 (by decide) h⟩
instance : Fld Try.prog 32 3 3 := ⟨fun h => a_field (sz := 1) Try.underlying32 rfl Try.sizeOf9 (by decide) h⟩
instance : Fld Try.prog 32 4 4 := ⟨fun h => a_field (sz := 1) Try.underlying32 rfl Try.sizeOf9 (by decide) h⟩
instance : Fld Try.prog 32 5 5 := ⟨fun h => a_field (sz := 1) Try.underlying32 rfl Try.sizeOf29 (by decide) h⟩
instance : Fld Try.prog 32 6 6 := ⟨fun h => a_field (sz := 1) Try.underlying32 rfl Try.sizeOf30 (by decide) h⟩
instance : Bld Try.prog 32 #[(0, 1), (1, 1), (2, 1), (3, 1), (4, 1), (5, 1), (6, 1)] #[.int .i64 0, .int .i64 0, .int .i64 0, .string ⟨#[]⟩, .string ⟨#[]⟩, .slice none 0 0, .slice none 0 0] := ⟨Try.zeroValue32, ⟨_, Try.underlying32, fun w => by kernel_rfl⟩⟩
instance : Und Try.prog 33 (.func #[] #[25] false) := ⟨Try.underlying33⟩
instance : Ty1 Try.prog 33 (.nilFunc) := ⟨Try.isAgg33, Try.sizeOf33, Try.zeroValue33, rfl⟩
instance : Und Try.prog 34 (.func #[] #[3] false) := ⟨Try.underlying34⟩
instance : Ty1 Try.prog 34 (.nilFunc) := ⟨Try.isAgg34, Try.sizeOf34, Try.zeroValue34, rfl⟩
instance : Und Try.prog 36 (.func #[9] #[29, 4] false) := ⟨Try.underlying36⟩
instance : Ty1 Try.prog 36 (.nilFunc) := ⟨Try.isAgg36, Try.sizeOf36, Try.zeroValue36, rfl⟩
instance : Und Try.prog 37 (.func #[9, 29] #[26] false) := ⟨Try.underlying37⟩
instance : Ty1 Try.prog 37 (.nilFunc) := ⟨Try.isAgg37, Try.sizeOf37, Try.zeroValue37, rfl⟩
instance : Und Try.prog 38 (.func #[29, 29] #[4] false) := ⟨Try.underlying38⟩
instance : Ty1 Try.prog 38 (.nilFunc) := ⟨Try.isAgg38, Try.sizeOf38, Try.zeroValue38, rfl⟩
instance : Und Try.prog 39 (.func #[29] #[29] false) := ⟨Try.underlying39⟩
instance : Ty1 Try.prog 39 (.nilFunc) := ⟨Try.isAgg39, Try.sizeOf39, Try.zeroValue39, rfl⟩
instance : Und Try.prog 40 (.func #[25, 25] #[4] false) := ⟨Try.underlying40⟩
instance : Ty1 Try.prog 40 (.nilFunc) := ⟨Try.isAgg40, Try.sizeOf40, Try.zeroValue40, rfl⟩
instance : Und Try.prog 41 (.func #[9, 3] #[26] false) := ⟨Try.underlying41⟩
instance : Ty1 Try.prog 41 (.nilFunc) := ⟨Try.isAgg41, Try.sizeOf41, Try.zeroValue41, rfl⟩
instance : Und Try.prog 42 (.slice 9) := ⟨Try.underlying42⟩
instance : Ty1 Try.prog 42 (.slice none 0 0) := ⟨Try.isAgg42, Try.sizeOf42, Try.zeroValue42, rfl⟩
instance : SlT Try.prog 42 9 1 16 (.string ⟨#[]⟩) := ⟨⟨Try.underlying42, by kernel_rfl, rfl, by decide⟩⟩
instance : Und Try.prog 43 (.func #[45] #[42] false) := ⟨Try.underlying43⟩
instance : Ty1 Try.prog 43 (.nilFunc) := ⟨Try.isAgg43, Try.sizeOf43, Try.zeroValue43, rfl⟩
instance : Und Try.prog 44 (.func #[79] #[] false) := ⟨Try.underlying44⟩
instance : Ty1 Try.prog 44 (.nilFunc) := ⟨Try.isAgg44, Try.sizeOf44, Try.zeroValue44, rfl⟩
instance : Und Try.prog 45 (.func #[79] #[] false) := ⟨Try.underlying45⟩
instance : Ty1 Try.prog 45 (.nilFunc) := ⟨Try.isAgg45, Try.sizeOf45, Try.zeroValue45, rfl⟩
instance : Und Try.prog 46 (.func #[] #[45] false) := ⟨Try.underlying46⟩
instance : Ty1 Try.prog 46 (.nilFunc) := ⟨Try.isAgg46, Try.sizeOf46, Try.zeroValue46, rfl⟩
instance : Und Try.prog 47 (.func #[3, 22] #[4] false) := ⟨Try.underlying47⟩
instance : Ty1 Try.prog 47 (.nilFunc) := ⟨Try.isAgg47, Try.sizeOf47, Try.zeroValue47, rfl⟩
instance : Und Try.prog 48 (.func #[25, 22] #[] false) := ⟨Try.underlying48⟩
instance : Ty1 Try.prog 48 (.nilFunc) := ⟨Try.isAgg48, Try.sizeOf48, Try.zeroValue48, rfl⟩
instance : Und Try.prog 49 (.func #[9, 9] #[26] false) := ⟨Try.underlying49⟩
instance : Ty1 Try.prog 49 (.nilFunc) := ⟨Try.isAgg49, Try.sizeOf49, Try.zeroValue49, rfl⟩
instance : Und Try.prog 50 (.func #[42, 42] #[4] false) := ⟨Try.underlying50⟩
instance : Ty1 Try.prog 50 (.nilFunc) := ⟨Try.isAgg50, Try.sizeOf50, Try.zeroValue50, rfl⟩
instance : Und Try.prog 51 (.func #[42, 9] #[4] false) := ⟨Try.underlying51⟩
instance : Ty1 Try.prog 51 (.nilFunc) := ⟨Try.isAgg51, Try.sizeOf51, Try.zeroValue51, rfl⟩
instance : Und Try.prog 52 (.func #[9] #[26] false) := ⟨Try.underlying52⟩
instance : Ty1 Try.prog 52 (.nilFunc) := ⟨Try.isAgg52, Try.sizeOf52, Try.zeroValue52, rfl⟩
instance : Und Try.prog 53 (.func #[22, 9, 9] #[4] false) := ⟨Try.underlying53⟩
instance : Ty1 Try.prog 53 (.nilFunc) := ⟨Try.isAgg53, Try.sizeOf53, Try.zeroValue53, rfl⟩
instance : Und Try.prog 54 (.func #[] #[26] false) := ⟨Try.underlying54⟩
instance : Ty1 Try.prog 54 (.nilFunc) := ⟨Try.isAgg54, Try.sizeOf54, Try.zeroValue54, rfl⟩
instance : Und Try.prog 55 (.func #[25, 32] #[4] false) := ⟨Try.underlying55⟩
instance : Ty1 Try.prog 55 (.nilFunc) := ⟨Try.isAgg55, Try.sizeOf55, Try.zeroValue55, rfl⟩
instance : Und Try.prog 56 (.func #[3, 3] #[] false) := ⟨Try.underlying56⟩
instance : Ty1 Try.prog 56 (.nilFunc) := ⟨Try.isAgg56, Try.sizeOf56, Try.zeroValue56, rfl⟩
instance : Und Try.prog 57 (.func #[22, 22, 3, 3] #[4] false) := ⟨Try.underlying57⟩
instance : Ty1 Try.prog 57 (.nilFunc) := ⟨Try.isAgg57, Try.sizeOf57, Try.zeroValue57, rfl⟩
instance : Und Try.prog 58 (.func #[3, 22, 22] #[4] false) := ⟨Try.underlying58⟩
instance : Ty1 Try.prog 58 (.nilFunc) := ⟨Try.isAgg58, Try.sizeOf58, Try.zeroValue58, rfl⟩
instance : Und Try.prog 59 (.pointer 88) := ⟨Try.underlying59⟩
instance : Ty1 Try.prog 59 (.pointer none) := ⟨Try.isAgg59, Try.sizeOf59, Try.zeroValue59, rfl⟩
instance : Und Try.prog 61 (.func #[3] #[59, 26] false) := ⟨Try.underlying61⟩
instance : Ty1 Try.prog 61 (.nilFunc) := ⟨Try.isAgg61, Try.sizeOf61, Try.zeroValue61, rfl⟩
instance : Und Try.prog 62 (.func #[25, 59, 32] #[4] false) := ⟨Try.underlying62⟩
instance : Ty1 Try.prog 62 (.nilFunc) := ⟨Try.isAgg62, Try.sizeOf62, Try.zeroValue62, rfl⟩
instance : Und Try.prog 63 (.func #[25, 59] #[4] false) := ⟨Try.underlying63⟩
instance : Ty1 Try.prog 63 (.nilFunc) := ⟨Try.isAgg63, Try.sizeOf63, Try.zeroValue63, rfl⟩
instance : Und Try.prog 64 (.func #[3] #[4] false) := ⟨Try.underlying64⟩
instance : Ty1 Try.prog 64 (.nilFunc) := ⟨Try.isAgg64, Try.sizeOf64, Try.zeroValue64, rfl⟩
instance : Und Try.prog 65 (.map 9 29) := ⟨Try.underlying65⟩
instance : Ty1 Try.prog 65 (.map none) := ⟨Try.isAgg65, Try.sizeOf65, Try.zeroValue65, rfl⟩
instance : Und Try.prog 66 (.map 9 29) := ⟨Try.underlying66⟩
instance : Ty1 Try.prog 66 (.map none) := ⟨Try.isAgg66, Try.sizeOf66, Try.zeroValue66, rfl⟩
instance : Und Try.prog 67 (.slice 73) := ⟨Try.underlying67⟩
instance : Ty1 Try.prog 67 (.slice none 0 0) := ⟨Try.isAgg67, Try.sizeOf67, Try.zeroValue67, rfl⟩
instance : SlT Try.prog 67 73 5 72 (.agg #[.int .i64 0, .string ⟨#[]⟩, .string ⟨#[]⟩, .slice none 0 0, .int .i64 0]) := ⟨⟨Try.underlying67, by kernel_rfl, rfl, by decide⟩⟩
instance : TyS Try.prog 68 7 [.int .i64 0, .map none, .map none, .slice none 0 0, .slice none 0 0, .int .i64 0, .bool false] := ⟨Try.isAgg68, Try.sizeOf68, Try.zeroValue68⟩
instance : Fld Try.prog 68 0 0 := ⟨fun h => a_field (sz := 1) Try.underlying68 rfl Try.sizeOf3 (by decide) h⟩
instance : Fld Try.prog 68 1 1 := ⟨fun h => a_field (sz := 1) Try.underlying68 rfl Try.sizeOf66 (by decide) h⟩
instance : Fld Try.prog 68 2 2 := ⟨fun h => a_field (sz := 1) Try.underlying68 rfl Try.sizeOf66 (by decide) h⟩
instance : Fld Try.prog 68 3 3 := ⟨fun h => a_field (sz := 1) Try.underlying68 rfl Try.sizeOf67 (by decide) h⟩
instance : Fld Try.prog 68 4 4 := ⟨fun h => a_field (sz := 1) Try.underlying68 rfl Try.sizeOf30 (by decide) h⟩
instance : Fld Try.prog 68 5 5 := ⟨fun h => a_field (sz := 1) Try.underlying68 rfl Try.sizeOf3 (by decide) h⟩
instance : Fld Try.prog 68 6 6 := ⟨fun h => a_field (sz := 1) Try.underlying68 rfl Try.sizeOf4 (by decide) h⟩
instance : Bld Try.prog 68 #[(0, 1), (1, 1), (2, 1), (3, 1), (4, 1), (5, 1), (6, 1)] #[.int .i64 0, .map none, .map none, .slice none 0 0, .slice none 0 0, .int .i64 0, .bool false] := ⟨Try.zeroValue68, ⟨_, Try.underlying68, fun w => by kernel_rfl⟩⟩
instance : TyS Try.prog 69 7 [.int .i64 0, .map none, .map none, .slice none 0 0, .slice none 0 0, .int .i64 0, .bool false] := ⟨Try.isAgg69, Try.sizeOf69, Try.zeroValue69⟩
instance : Fld Try.prog 69 0 0 := ⟨fun h => a_field (sz := 1) Try.underlying69 rfl Try.sizeOf3 (by decide) h⟩
instance : Fld Try.prog 69 1 1 := ⟨fun h => a_field (sz := 1) Try.underlying69 rfl Try.sizeOf66 (by decide) h⟩
instance : Fld Try.prog 69 2 2 := ⟨fun h => a_field (sz := 1) Try.underlying69 rfl Try.sizeOf66 (by decide) h⟩
instance : Fld Try.prog 69 3 3 := ⟨fun h => a_field (sz := 1) Try.underlying69 rfl Try.sizeOf67 (by decide) h⟩
instance : Fld Try.prog 69 4 4 := ⟨fun h => a_field (sz := 1) Try.underlying69 rfl Try.sizeOf30 (by decide) h⟩
instance : Fld Try.prog 69 5 5 := ⟨fun h => a_field (sz := 1) Try.underlying69 rfl Try.sizeOf3 (by decide) h⟩
instance : Fld Try.prog 69 6 6 := ⟨fun h => a_field (sz := 1) Try.underlying69 rfl Try.sizeOf4 (by decide) h⟩
instance : Bld Try.prog 69 #[(0, 1), (1, 1), (2, 1), (3, 1), (4, 1), (5, 1), (6, 1)] #[.int .i64 0, .map none, .map none, .slice none 0 0, .slice none 0 0, .int .i64 0, .bool false] := ⟨Try.zeroValue69, ⟨_, Try.underlying69, fun w => by kernel_rfl⟩⟩
instance : Und Try.prog 70 (.func #[66] #[66] false) := ⟨Try.underlying70⟩
instance : Ty1 Try.prog 70 (.nilFunc) := ⟨Try.isAgg70, Try.sizeOf70, Try.zeroValue70, rfl⟩
instance : Und Try.prog 71 (.func #[67] #[67] false) := ⟨Try.underlying71⟩
instance : Ty1 Try.prog 71 (.nilFunc) := ⟨Try.isAgg71, Try.sizeOf71, Try.zeroValue71, rfl⟩
instance : TyS Try.prog 72 5 [.int .i64 0, .string ⟨#[]⟩, .string ⟨#[]⟩, .slice none 0 0, .int .i64 0] := ⟨Try.isAgg72, Try.sizeOf72, Try.zeroValue72⟩
instance : Fld Try.prog 72 0 0 := ⟨fun h => a_field (sz := 1) Try.underlying72 rfl Try.sizeOf3 (by decide) h⟩
instance : Fld Try.prog 72 1 1 := ⟨fun h => a_field (sz := 1) Try.underlying72 rfl Try.sizeOf9 (by decide) h⟩
instance : Fld Try.prog 72 2 2 := ⟨fun h => a_field (sz := 1) Try.underlying72 rfl Try.sizeOf9 (by decide) h⟩
instance : Fld Try.prog 72 3 3 := ⟨fun h => a_field (sz := 1) Try.underlying72 rfl Try.sizeOf29 (by decide) h⟩
instance : Fld Try.prog 72 4 4 := ⟨fun h => a_field (sz := 1) Try.underlying72 rfl Try.sizeOf3 (by decide) h⟩
instance : Bld Try.prog 72 #[(0, 1), (1, 1), (2, 1), (3, 1), (4, 1)] #[.int .i64 0, .string ⟨#[]⟩, .string ⟨#[]⟩, .slice none 0 0, .int .i64 0] := ⟨Try.zeroValue72, ⟨_, Try.underlying72, fun w => by kernel_rfl⟩⟩
instance : TyS Try.prog 73 5 [.int .i64 0, .string ⟨#[]⟩, .string ⟨#[]⟩, .slice none 0 0, .int .i64 0] := ⟨Try.isAgg73, Try.sizeOf73, Try.zeroValue73⟩
instance : Fld Try.prog 73 0 0 := ⟨fun h => a_field (sz := 1) Try.underlying73 rfl Try.sizeOf3 (by decide) h⟩
instance : Fld Try.prog 73 1 1 := ⟨fun h => a_field (sz := 1) Try.underlying73 rfl Try.sizeOf9 (by decide) h⟩
instance : Fld Try.prog 73 2 2 := ⟨fun h => a_field (sz := 1) Try.underlying73 rfl Try.sizeOf9 (by decide) h⟩
instance : Fld Try.prog 73 3 3 := ⟨fun h => a_field (sz := 1) Try.underlying73 rfl Try.sizeOf29 (by decide) h⟩
instance : Fld Try.prog 73 4 4 := ⟨fun h => a_field (sz := 1) Try.underlying73 rfl Try.sizeOf3 (by decide) h⟩
instance : Bld Try.prog 73 #[(0, 1), (1, 1), (2, 1), (3, 1), (4, 1)] #[.int .i64 0, .string ⟨#[]⟩, .string ⟨#[]⟩, .slice none 0 0, .int .i64 0] := ⟨Try.zeroValue73, ⟨_, Try.underlying73, fun w => by kernel_rfl⟩⟩
instance : Und Try.prog 74 (.func #[30] #[30] false) := ⟨Try.underlying74⟩
instance : Ty1 Try.prog 74 (.nilFunc) := ⟨Try.isAgg74, Try.sizeOf74, Try.zeroValue74, rfl⟩
instance : TyS Try.prog 75 4 [.int .i64 0, .int .i64 0, .int .i64 0, .int .i64 0] := ⟨Try.isAgg75, Try.sizeOf75, Try.zeroValue75⟩
instance : Fld Try.prog 75 0 0 := ⟨fun h => a_field (sz := 1) Try.underlying75 rfl Try.sizeOf3 (by decide) h⟩
instance : Fld Try.prog 75 1 1 := ⟨fun h => a_field (sz := 1) Try.underlying75 rfl Try.sizeOf3 (by decide) h⟩
instance : Fld Try.prog 75 2 2 := ⟨fun h => a_field (sz := 1) Try.underlying75 rfl Try.sizeOf3 (by decide) h⟩
instance : Fld Try.prog 75 3 3 := ⟨fun h => a_field (sz := 1) Try.underlying75 rfl Try.sizeOf3 (by decide) h⟩
instance : Bld Try.prog 75 #[(0, 1), (1, 1), (2, 1), (3, 1)] #[.int .i64 0, .int .i64 0, .int .i64 0, .int .i64 0] := ⟨Try.zeroValue75, ⟨_, Try.underlying75, fun w => by kernel_rfl⟩⟩
instance : TyS Try.prog 76 4 [.int .i64 0, .int .i64 0, .int .i64 0, .int .i64 0] := ⟨Try.isAgg76, Try.sizeOf76, Try.zeroValue76⟩
instance : Fld Try.prog 76 0 0 := ⟨fun h => a_field (sz := 1) Try.underlying76 rfl Try.sizeOf3 (by decide) h⟩
instance : Fld Try.prog 76 1 1 := ⟨fun h => a_field (sz := 1) Try.underlying76 rfl Try.sizeOf3 (by decide) h⟩
instance : Fld Try.prog 76 2 2 := ⟨fun h => a_field (sz := 1) Try.underlying76 rfl Try.sizeOf3 (by decide) h⟩
instance : Fld Try.prog 76 3 3 := ⟨fun h => a_field (sz := 1) Try.underlying76 rfl Try.sizeOf3 (by decide) h⟩
instance : Bld Try.prog 76 #[(0, 1), (1, 1), (2, 1), (3, 1)] #[.int .i64 0, .int .i64 0, .int .i64 0, .int .i64 0] := ⟨Try.zeroValue76, ⟨_, Try.underlying76, fun w => by kernel_rfl⟩⟩
instance : Und Try.prog 78 (.func #[42] #[4, 26] true) := ⟨Try.underlying78⟩
instance : Ty1 Try.prog 78 (.nilFunc) := ⟨Try.isAgg78, Try.sizeOf78, Try.zeroValue78, rfl⟩
instance : Und Try.prog 79 (.func #[9] #[4] false) := ⟨Try.underlying79⟩
instance : Ty1 Try.prog 79 (.nilFunc) := ⟨Try.isAgg79, Try.sizeOf79, Try.zeroValue79, rfl⟩
instance : Und Try.prog 80 (.func #[73] #[26] false) := ⟨Try.underlying80⟩
instance : Ty1 Try.prog 80 (.nilFunc) := ⟨Try.isAgg80, Try.sizeOf80, Try.zeroValue80, rfl⟩
instance : Und Try.prog 81 (.func #[42] #[45] false) := ⟨Try.underlying81⟩
instance : Ty1 Try.prog 81 (.nilFunc) := ⟨Try.isAgg81, Try.sizeOf81, Try.zeroValue81, rfl⟩
instance : Und Try.prog 82 (.func #[66] #[45] false) := ⟨Try.underlying82⟩
instance : Ty1 Try.prog 82 (.nilFunc) := ⟨Try.isAgg82, Try.sizeOf82, Try.zeroValue82, rfl⟩
instance : Und Try.prog 83 (.func #[73] #[] false) := ⟨Try.underlying83⟩
instance : Ty1 Try.prog 83 (.nilFunc) := ⟨Try.isAgg83, Try.sizeOf83, Try.zeroValue83, rfl⟩
instance : Und Try.prog 84 (.slice 109) := ⟨Try.underlying84⟩
instance : Ty1 Try.prog 84 (.slice none 0 0) := ⟨Try.isAgg84, Try.sizeOf84, Try.zeroValue84, rfl⟩
instance : SlT Try.prog 84 109 2 40 (.agg #[.string ⟨#[]⟩, .slice none 0 0]) := ⟨⟨Try.underlying84, by kernel_rfl, rfl, by decide⟩⟩
instance : Und Try.prog 85 (.slice 105) := ⟨Try.underlying85⟩
instance : Ty1 Try.prog 85 (.slice none 0 0) := ⟨Try.isAgg85, Try.sizeOf85, Try.zeroValue85, rfl⟩
instance : SlT Try.prog 85 105 5 72 (.agg #[.int .i64 0, .int .i64 0, .string ⟨#[]⟩, .string ⟨#[]⟩, .slice none 0 0]) := ⟨⟨Try.underlying85, by kernel_rfl, rfl, by decide⟩⟩
instance : Und Try.prog 86 (.slice 107) := ⟨Try.underlying86⟩
instance : Ty1 Try.prog 86 (.slice none 0 0) := ⟨Try.isAgg86, Try.sizeOf86, Try.zeroValue86, rfl⟩
instance : SlT Try.prog 86 107 4 32 (.agg #[.int .i64 0, .int .i64 0, .int .i64 0, .int .i64 0]) := ⟨⟨Try.underlying86, by kernel_rfl, rfl, by decide⟩⟩
instance : TyS Try.prog 87 7 [.int .i64 0, .slice none 0 0, .slice none 0 0, .slice none 0 0, .slice none 0 0, .int .i64 0, .bool false] := ⟨Try.isAgg87, Try.sizeOf87, Try.zeroValue87⟩
instance : Fld Try.prog 87 0 0 := ⟨fun h => a_field (sz := 1) Try.underlying87 rfl Try.sizeOf3 (by decide) h⟩
instance : Fld Try.prog 87 1 1 := ⟨fun h => a_field (sz := 1) Try.underlying87 rfl Try.sizeOf84 (by decide) h⟩
instance : Fld Try.prog 87 2 2 := ⟨fun h => a_field (sz := 1) Try.underlying87 rfl Try.sizeOf84 (by decide) h⟩
instance : Fld Try.prog 87 3 3 := ⟨fun h => a_field (sz := 1) Try.underlying87 rfl Try.sizeOf85 (by decide) h⟩
instance : Fld Try.prog 87 4 4 := ⟨fun h => a_field (sz := 1) Try.underlying87 rfl Try.sizeOf86 (by decide) h⟩
instance : Fld Try.prog 87 5 5 := ⟨fun h => a_field (sz := 1) Try.underlying87 rfl Try.sizeOf3 (by decide) h⟩
instance : Fld Try.prog 87 6 6 := ⟨fun h => a_field (sz := 1) Try.underlying87 rfl Try.sizeOf4 (by decide) h⟩
instance : Bld Try.prog 87 #[(0, 1), (1, 1), (2, 1), (3, 1), (4, 1), (5, 1), (6, 1)] #[.int .i64 0, .slice none 0 0, .slice none 0 0, .slice none 0 0, .slice none 0 0, .int .i64 0, .bool false] := ⟨Try.zeroValue87, ⟨_, Try.underlying87, fun w => by kernel_rfl⟩⟩
instance : TyS Try.prog 88 7 [.int .i64 0, .slice none 0 0, .slice none 0 0, .slice none 0 0, .slice none 0 0, .int .i64 0, .bool false] := ⟨Try.isAgg88, Try.sizeOf88, Try.zeroValue88⟩
instance : Fld Try.prog 88 0 0 := ⟨fun h => a_field (sz := 1) Try.underlying88 rfl Try.sizeOf3 (by decide) h⟩
instance : Fld Try.prog 88 1 1 := ⟨fun h => a_field (sz := 1) Try.underlying88 rfl Try.sizeOf84 (by decide) h⟩
instance : Fld Try.prog 88 2 2 := ⟨fun h => a_field (sz := 1) Try.underlying88 rfl Try.sizeOf84 (by decide) h⟩
instance : Fld Try.prog 88 3 3 := ⟨fun h => a_field (sz := 1) Try.underlying88 rfl Try.sizeOf85 (by decide) h⟩
instance : Fld Try.prog 88 4 4 := ⟨fun h => a_field (sz := 1) Try.underlying88 rfl Try.sizeOf86 (by decide) h⟩
instance : Fld Try.prog 88 5 5 := ⟨fun h => a_field (sz := 1) Try.underlying88 rfl Try.sizeOf3 (by decide) h⟩
instance : Fld Try.prog 88 6 6 := ⟨fun h => a_field (sz := 1) Try.underlying88 rfl Try.sizeOf4 (by decide) h⟩
instance : Bld Try.prog 88 #[(0, 1), (1, 1), (2, 1), (3, 1), (4, 1), (5, 1), (6, 1)] #[.int .i64 0, .slice none 0 0, .slice none 0 0, .slice none 0 0, .slice none 0 0, .int .i64 0, .bool false] := ⟨Try.zeroValue88, ⟨_, Try.underlying88, fun w => by kernel_rfl⟩⟩
instance : Und Try.prog 90 (.func #[9] #[29, 26] false) := ⟨Try.underlying90⟩
instance : Ty1 Try.prog 90 (.nilFunc) := ⟨Try.isAgg90, Try.sizeOf90, Try.zeroValue90, rfl⟩
instance : Und Try.prog 92 (.func #[] #[42, 26] false) := ⟨Try.underlying92⟩
instance : Ty1 Try.prog 92 (.nilFunc) := ⟨Try.isAgg92, Try.sizeOf92, Try.zeroValue92, rfl⟩
instance : Und Try.prog 93 (.func #[30] #[] false) := ⟨Try.underlying93⟩
instance : Ty1 Try.prog 93 (.nilFunc) := ⟨Try.isAgg93, Try.sizeOf93, Try.zeroValue93, rfl⟩
instance : Und Try.prog 94 (.func #[86] #[] false) := ⟨Try.underlying94⟩
instance : Ty1 Try.prog 94 (.nilFunc) := ⟨Try.isAgg94, Try.sizeOf94, Try.zeroValue94, rfl⟩
instance : Und Try.prog 95 (.func #[30] #[86] false) := ⟨Try.underlying95⟩
instance : Ty1 Try.prog 95 (.nilFunc) := ⟨Try.isAgg95, Try.sizeOf95, Try.zeroValue95, rfl⟩
instance : Und Try.prog 96 (.func #[] #[42] false) := ⟨Try.underlying96⟩
instance : Ty1 Try.prog 96 (.nilFunc) := ⟨Try.isAgg96, Try.sizeOf96, Try.zeroValue96, rfl⟩
instance : Und Try.prog 97 (.func #[20] #[20] false) := ⟨Try.underlying97⟩
instance : Ty1 Try.prog 97 (.nilFunc) := ⟨Try.isAgg97, Try.sizeOf97, Try.zeroValue97, rfl⟩
instance : Und Try.prog 98 (.func #[42] #[] false) := ⟨Try.underlying98⟩
instance : Ty1 Try.prog 98 (.nilFunc) := ⟨Try.isAgg98, Try.sizeOf98, Try.zeroValue98, rfl⟩
instance : Und Try.prog 99 (.func #[9, 4] #[4, 26] false) := ⟨Try.underlying99⟩
instance : Ty1 Try.prog 99 (.nilFunc) := ⟨Try.isAgg99, Try.sizeOf99, Try.zeroValue99, rfl⟩
instance : Und Try.prog 100 (.func #[84, 9] #[3] false) := ⟨Try.underlying100⟩
instance : Ty1 Try.prog 100 (.nilFunc) := ⟨Try.isAgg100, Try.sizeOf100, Try.zeroValue100, rfl⟩
instance : Und Try.prog 101 (.func #[84, 9] #[29] false) := ⟨Try.underlying101⟩
instance : Ty1 Try.prog 101 (.nilFunc) := ⟨Try.isAgg101, Try.sizeOf101, Try.zeroValue101, rfl⟩
instance : Und Try.prog 102 (.func #[84] #[3] false) := ⟨Try.underlying102⟩
instance : Ty1 Try.prog 102 (.nilFunc) := ⟨Try.isAgg102, Try.sizeOf102, Try.zeroValue102, rfl⟩
instance : Und Try.prog 103 (.func #[105] #[] false) := ⟨Try.underlying103⟩
instance : Ty1 Try.prog 103 (.nilFunc) := ⟨Try.isAgg103, Try.sizeOf103, Try.zeroValue103, rfl⟩
instance : TyS Try.prog 104 5 [.int .i64 0, .int .i64 0, .string ⟨#[]⟩, .string ⟨#[]⟩, .slice none 0 0] := ⟨Try.isAgg104, Try.sizeOf104, Try.zeroValue104⟩
instance : Fld Try.prog 104 0 0 := ⟨fun h => a_field (sz := 1) Try.underlying104 rfl Try.sizeOf3 (by decide) h⟩
instance : Fld Try.prog 104 1 1 := ⟨fun h => a_field (sz := 1) Try.underlying104 rfl Try.sizeOf3 (by decide) h⟩
instance : Fld Try.prog 104 2 2 := ⟨fun h => a_field (sz := 1) Try.underlying104 rfl Try.sizeOf9 (by decide) h⟩
instance : Fld Try.prog 104 3 3 := ⟨fun h => a_field (sz := 1) Try.underlying104 rfl Try.sizeOf9 (by decide) h⟩
instance : Fld Try.prog 104 4 4 := ⟨fun h => a_field (sz := 1) Try.underlying104 rfl Try.sizeOf29 (by decide) h⟩
instance : Bld Try.prog 104 #[(0, 1), (1, 1), (2, 1), (3, 1), (4, 1)] #[.int .i64 0, .int .i64 0, .string ⟨#[]⟩, .string ⟨#[]⟩, .slice none 0 0] := ⟨Try.zeroValue104, ⟨_, Try.underlying104, fun w => by kernel_rfl⟩⟩
instance : TyS Try.prog 105 5 [.int .i64 0, .int .i64 0, .string ⟨#[]⟩, .string ⟨#[]⟩, .slice none 0 0] := ⟨Try.isAgg105, Try.sizeOf105, Try.zeroValue105⟩
instance : Fld Try.prog 105 0 0 := ⟨fun h => a_field (sz := 1) Try.underlying105 rfl Try.sizeOf3 (by decide) h⟩
instance : Fld Try.prog 105 1 1 := ⟨fun h => a_field (sz := 1) Try.underlying105 rfl Try.sizeOf3 (by decide) h⟩
instance : Fld Try.prog 105 2 2 := ⟨fun h => a_field (sz := 1) Try.underlying105 rfl Try.sizeOf9 (by decide) h⟩
instance : Fld Try.prog 105 3 3 := ⟨fun h => a_field (sz := 1) Try.underlying105 rfl Try.sizeOf9 (by decide) h⟩
instance : Fld Try.prog 105 4 4 := ⟨fun h => a_field (sz := 1) Try.underlying105 rfl Try.sizeOf29 (by decide) h⟩
instance : Bld Try.prog 105 #[(0, 1), (1, 1), (2, 1), (3, 1), (4, 1)] #[.int .i64 0, .int .i64 0, .string ⟨#[]⟩, .string ⟨#[]⟩, .slice none 0 0] := ⟨Try.zeroValue105, ⟨_, Try.underlying105, fun w => by kernel_rfl⟩⟩
instance : Und Try.prog 106 (.func #[84, 105] #[84] false) := ⟨Try.underlying106⟩
instance : Ty1 Try.prog 106 (.nilFunc) := ⟨Try.isAgg106, Try.sizeOf106, Try.zeroValue106, rfl⟩
instance : TyS Try.prog 107 4 [.int .i64 0, .int .i64 0, .int .i64 0, .int .i64 0] := ⟨Try.isAgg107, Try.sizeOf107, Try.zeroValue107⟩
instance : Fld Try.prog 107 0 0 := ⟨fun h => a_field (sz := 1) Try.underlying107 rfl Try.sizeOf3 (by decide) h⟩
instance : Fld Try.prog 107 1 1 := ⟨fun h => a_field (sz := 1) Try.underlying107 rfl Try.sizeOf3 (by decide) h⟩
instance : Fld Try.prog 107 2 2 := ⟨fun h => a_field (sz := 1) Try.underlying107 rfl Try.sizeOf3 (by decide) h⟩
instance : Fld Try.prog 107 3 3 := ⟨fun h => a_field (sz := 1) Try.underlying107 rfl Try.sizeOf3 (by decide) h⟩
instance : Bld Try.prog 107 #[(0, 1), (1, 1), (2, 1), (3, 1)] #[.int .i64 0, .int .i64 0, .int .i64 0, .int .i64 0] := ⟨Try.zeroValue107, ⟨_, Try.underlying107, fun w => by kernel_rfl⟩⟩
instance : TyS Try.prog 108 2 [.string ⟨#[]⟩, .slice none 0 0] := ⟨Try.isAgg108, Try.sizeOf108, Try.zeroValue108⟩
instance : Fld Try.prog 108 0 0 := ⟨fun h => a_field (sz := 1) Try.underlying108 rfl Try.sizeOf9 (by decide) h⟩
instance : Fld Try.prog 108 1 1 := ⟨fun h => a_field (sz := 1) Try.underlying108 rfl Try.sizeOf29 (by decide) h⟩
instance : Bld Try.prog 108 #[(0, 1), (1, 1)] #[.string ⟨#[]⟩, .slice none 0 0] := ⟨Try.zeroValue108, ⟨_, Try.underlying108, fun w => by kernel_rfl⟩⟩
instance : TyS Try.prog 109 2 [.string ⟨#[]⟩, .slice none 0 0] := ⟨Try.isAgg109, Try.sizeOf109, Try.zeroValue109⟩
instance : Fld Try.prog 109 0 0 := ⟨fun h => a_field (sz := 1) Try.underlying109 rfl Try.sizeOf9 (by decide) h⟩
instance : Fld Try.prog 109 1 1 := ⟨fun h => a_field (sz := 1) Try.underlying109 rfl Try.sizeOf29 (by decide) h⟩
instance : Bld Try.prog 109 #[(0, 1), (1, 1)] #[.string ⟨#[]⟩, .slice none 0 0] := ⟨Try.zeroValue109, ⟨_, Try.underlying109, fun w => by kernel_rfl⟩⟩
instance : Und Try.prog 110 (.func #[42, 45] #[42] false) := ⟨Try.underlying110⟩
instance : Ty1 Try.prog 110 (.nilFunc) := ⟨Try.isAgg110, Try.sizeOf110, Try.zeroValue110, rfl⟩
instance : Und Try.prog 111 (.func #[42, 3, 3, 3] #[] false) := ⟨Try.underlying111⟩
instance : Ty1 Try.prog 111 (.nilFunc) := ⟨Try.isAgg111, Try.sizeOf111, Try.zeroValue111, rfl⟩
instance : Und Try.prog 112 (.func #[113] #[3] false) := ⟨Try.underlying112⟩
instance : Ty1 Try.prog 112 (.nilFunc) := ⟨Try.isAgg112, Try.sizeOf112, Try.zeroValue112, rfl⟩
instance : Und Try.prog 113 (.int .u64) := ⟨Try.underlying113⟩
instance : Ty1 Try.prog 113 (.int .u64 0) := ⟨Try.isAgg113, Try.sizeOf113, Try.zeroValue113, rfl⟩
instance : Und Try.prog 114 (.func #[84, 9, 29] #[84] false) := ⟨Try.underlying114⟩
instance : Ty1 Try.prog 114 (.nilFunc) := ⟨Try.isAgg114, Try.sizeOf114, Try.zeroValue114, rfl⟩
instance : Und Try.prog 115 (.func #[84, 9] #[84] false) := ⟨Try.underlying115⟩
instance : Ty1 Try.prog 115 (.nilFunc) := ⟨Try.isAgg115, Try.sizeOf115, Try.zeroValue115, rfl⟩
instance : Und Try.prog 116 (.func #[42, 3, 3] #[] false) := ⟨Try.underlying116⟩
instance : Ty1 Try.prog 116 (.nilFunc) := ⟨Try.isAgg116, Try.sizeOf116, Try.zeroValue116, rfl⟩
instance : Und Try.prog 117 (.int .i64) := ⟨Try.underlying117⟩
instance : Ty1 Try.prog 117 (.int .i64 0) := ⟨Try.isAgg117, Try.sizeOf117, Try.zeroValue117, rfl⟩
instance : Und Try.prog 119 (.func #[42, 3, 3] #[3, 117] false) := ⟨Try.underlying119⟩
instance : Ty1 Try.prog 119 (.nilFunc) := ⟨Try.isAgg119, Try.sizeOf119, Try.zeroValue119, rfl⟩
instance : Und Try.prog 120 (.func #[42, 3, 3] #[4] false) := ⟨Try.underlying120⟩
instance : Ty1 Try.prog 120 (.nilFunc) := ⟨Try.isAgg120, Try.sizeOf120, Try.zeroValue120, rfl⟩
instance : Und Try.prog 121 (.func #[9, 9] #[4] false) := ⟨Try.underlying121⟩
instance : Ty1 Try.prog 121 (.nilFunc) := ⟨Try.isAgg121, Try.sizeOf121, Try.zeroValue121, rfl⟩
instance : Und Try.prog 122 (.func #[42, 3, 3, 3] #[3] false) := ⟨Try.underlying122⟩
instance : Ty1 Try.prog 122 (.nilFunc) := ⟨Try.isAgg122, Try.sizeOf122, Try.zeroValue122, rfl⟩
instance : Und Try.prog 124 (.func #[42, 3, 3, 3] #[3, 4] false) := ⟨Try.underlying124⟩
instance : Ty1 Try.prog 124 (.nilFunc) := ⟨Try.isAgg124, Try.sizeOf124, Try.zeroValue124, rfl⟩
instance : Und Try.prog 125 (.func #[126] #[3] false) := ⟨Try.underlying125⟩
instance : Ty1 Try.prog 125 (.nilFunc) := ⟨Try.isAgg125, Try.sizeOf125, Try.zeroValue125, rfl⟩
instance : Und Try.prog 126 (.int .u32) := ⟨Try.underlying126⟩
instance : Ty1 Try.prog 126 (.int .u32 0) := ⟨Try.isAgg126, Try.sizeOf126, Try.zeroValue126, rfl⟩
instance : Und Try.prog 127 (.func #[128] #[3] false) := ⟨Try.underlying127⟩
instance : Ty1 Try.prog 127 (.nilFunc) := ⟨Try.isAgg127, Try.sizeOf127, Try.zeroValue127, rfl⟩
instance : Und Try.prog 128 (.int .u64) := ⟨Try.underlying128⟩
instance : Ty1 Try.prog 128 (.int .u64 0) := ⟨Try.isAgg128, Try.sizeOf128, Try.zeroValue128, rfl⟩
instance : Und Try.prog 129 (.int .u64) := ⟨Try.underlying129⟩
instance : Ty1 Try.prog 129 (.int .u64 0) := ⟨Try.isAgg129, Try.sizeOf129, Try.zeroValue129, rfl⟩
instance : Und Try.prog 130 (.func #[3] #[113] false) := ⟨Try.underlying130⟩
instance : Ty1 Try.prog 130 (.nilFunc) := ⟨Try.isAgg130, Try.sizeOf130, Try.zeroValue130, rfl⟩
instance : Und Try.prog 131 (.func #[] #[128] false) := ⟨Try.underlying131⟩
instance : Ty1 Try.prog 131 (.nilFunc) := ⟨Try.isAgg131, Try.sizeOf131, Try.zeroValue131, rfl⟩
instance : Und Try.prog 132 (.func #[42, 3, 133] #[3] false) := ⟨Try.underlying132⟩
instance : Ty1 Try.prog 132 (.nilFunc) := ⟨Try.isAgg132, Try.sizeOf132, Try.zeroValue132, rfl⟩
instance : Und Try.prog 133 (.pointer 3) := ⟨Try.underlying133⟩
instance : Ty1 Try.prog 133 (.pointer none) := ⟨Try.isAgg133, Try.sizeOf133, Try.zeroValue133, rfl⟩
instance : Und Try.prog 134 (.func #[42, 3, 3, 3, 133] #[3] false) := ⟨Try.underlying134⟩
instance : Ty1 Try.prog 134 (.nilFunc) := ⟨Try.isAgg134, Try.sizeOf134, Try.zeroValue134, rfl⟩
instance : Und Try.prog 135 (.pointer 129) := ⟨Try.underlying135⟩
instance : Ty1 Try.prog 135 (.pointer none) := ⟨Try.isAgg135, Try.sizeOf135, Try.zeroValue135, rfl⟩
instance : Und Try.prog 137 (.func #[42, 3, 3, 133] #[3, 3] false) := ⟨Try.underlying137⟩
instance : Ty1 Try.prog 137 (.nilFunc) := ⟨Try.isAgg137, Try.sizeOf137, Try.zeroValue137, rfl⟩
instance : Und Try.prog 138 (.func #[] #[9] false) := ⟨Try.underlying138⟩
instance : Ty1 Try.prog 138 (.nilFunc) := ⟨Try.isAgg138, Try.sizeOf138, Try.zeroValue138, rfl⟩
instance : TyS Try.prog 139 4 [.pointer none, .pointer none, .pointer none, .string ⟨#[]⟩] := ⟨Try.isAgg139, Try.sizeOf139, Try.zeroValue139⟩
instance : Fld Try.prog 139 0 0 := ⟨fun h => a_field (sz := 1) Try.underlying139 rfl Try.sizeOf17 (by decide) h⟩
instance : Fld Try.prog 139 1 1 := ⟨fun h => a_field (sz := 1) Try.underlying139 rfl Try.sizeOf17 (by decide) h⟩
instance : Fld Try.prog 139 2 2 := ⟨fun h => a_field (sz := 1) Try.underlying139 rfl Try.sizeOf17 (by decide) h⟩
instance : Fld Try.prog 139 3 3 := ⟨fun h => a_field (sz := 1) Try.underlying139 rfl Try.sizeOf9 (by decide) h⟩
instance : Bld Try.prog 139 #[(0, 1), (1, 1), (2, 1), (3, 1)] #[.pointer none, .pointer none, .pointer none, .string ⟨#[]⟩] := ⟨Try.zeroValue139, ⟨_, Try.underlying139, fun w => by kernel_rfl⟩⟩
instance : TyS Try.prog 140 4 [.pointer none, .pointer none, .pointer none, .string ⟨#[]⟩] := ⟨Try.isAgg140, Try.sizeOf140, Try.zeroValue140⟩
instance : Fld Try.prog 140 0 0 := ⟨fun h => a_field (sz := 1) Try.underlying140 rfl Try.sizeOf17 (by decide) h⟩
instance : Fld Try.prog 140 1 1 := ⟨fun h => a_field (sz := 1) Try.underlying140 rfl Try.sizeOf17 (by decide) h⟩
instance : Fld Try.prog 140 2 2 := ⟨fun h => a_field (sz := 1) Try.underlying140 rfl Try.sizeOf17 (by decide) h⟩
instance : Fld Try.prog 140 3 3 := ⟨fun h => a_field (sz := 1) Try.underlying140 rfl Try.sizeOf9 (by decide) h⟩
instance : Bld Try.prog 140 #[(0, 1), (1, 1), (2, 1), (3, 1)] #[.pointer none, .pointer none, .pointer none, .string ⟨#[]⟩] := ⟨Try.zeroValue140, ⟨_, Try.underlying140, fun w => by kernel_rfl⟩⟩
instance : TyS Try.prog 142 0 [] := ⟨Try.isAgg142, Try.sizeOf142, Try.zeroValue142⟩
instance : Bld Try.prog 142 #[(0, 0)] #[] := ⟨Try.zeroValue142, ⟨_, Try.underlying142, fun w => by kernel_rfl⟩⟩
instance : TyS Try.prog 143 0 [] := ⟨Try.isAgg143, Try.sizeOf143, Try.zeroValue143⟩
instance : Bld Try.prog 143 #[(0, 0)] #[] := ⟨Try.zeroValue143, ⟨_, Try.underlying143, fun w => by kernel_rfl⟩⟩
instance : Und Try.prog 144 (.int .u8) := ⟨Try.underlying144⟩
instance : Ty1 Try.prog 144 (.int .u8 0) := ⟨Try.isAgg144, Try.sizeOf144, Try.zeroValue144, rfl⟩
instance : Und Try.prog 145 (.int .u8) := ⟨Try.underlying145⟩
instance : Ty1 Try.prog 145 (.int .u8 0) := ⟨Try.isAgg145, Try.sizeOf145, Try.zeroValue145, rfl⟩
instance : Und Try.prog 146 (.func #[152, 152] #[4] false) := ⟨Try.underlying146⟩
instance : Ty1 Try.prog 146 (.nilFunc) := ⟨Try.isAgg146, Try.sizeOf146, Try.zeroValue146, rfl⟩
instance : Und Try.prog 147 (.pointer 5) := ⟨Try.underlying147⟩
instance : Ty1 Try.prog 147 (.pointer none) := ⟨Try.isAgg147, Try.sizeOf147, Try.zeroValue147, rfl⟩
instance : Und Try.prog 148 (.int .i32) := ⟨Try.underlying148⟩
instance : Ty1 Try.prog 148 (.int .i32 0) := ⟨Try.isAgg148, Try.sizeOf148, Try.zeroValue148, rfl⟩
instance : Und Try.prog 149 (.int .i32) := ⟨Try.underlying149⟩
instance : Ty1 Try.prog 149 (.int .i32 0) := ⟨Try.isAgg149, Try.sizeOf149, Try.zeroValue149, rfl⟩
instance : TyS Try.prog 150 11 [.int .u64 0, .int .u64 0, .int .u32 0, .int .u8 0, .int .u8 0, .int .u8 0, .int .u8 0, .nilFunc, .pointer none, .int .i32 0, .int .i32 0] := ⟨Try.isAgg150, Try.sizeOf150, Try.zeroValue150⟩
instance : Fld Try.prog 150 0 0 := ⟨fun h => a_field (sz := 1) Try.underlying150 rfl Try.sizeOf12 (by decide) h⟩
instance : Fld Try.prog 150 1 1 := ⟨fun h => a_field (sz := 1) Try.underlying150 rfl Try.sizeOf12 (by decide) h⟩
instance : Fld Try.prog 150 2 2 := ⟨fun h => a_field (sz := 1) Try.underlying150 rfl Try.sizeOf126 (by decide) h⟩
instance : Fld Try.prog 150 3 3 := ⟨fun h => a_field (sz := 1) Try.underlying150 rfl Try.sizeOf144 (by decide) h⟩
instance : Fld Try.prog 150 4 4 := ⟨fun h => a_field (sz := 1) Try.underlying150 rfl Try.sizeOf5 (by decide) h⟩
instance : Fld Try.prog 150 5 5 := ⟨fun h => a_field (sz := 1) Try.underlying150 rfl Try.sizeOf5 (by decide) h⟩
instance : Fld Try.prog 150 6 6 := ⟨fun h => a_field (sz := 1) Try.underlying150 rfl Try.sizeOf145 (by decide) h⟩
instance : Fld Try.prog 150 7 7 := ⟨fun h => a_field (sz := 1) Try.underlying150 rfl Try.sizeOf146 (by decide) h⟩
instance : Fld Try.prog 150 8 8 := ⟨fun h => a_field (sz := 1) Try.underlying150 rfl Try.sizeOf147 (by decide) h⟩
instance : Fld Try.prog 150 9 9 := ⟨fun h => a_field (sz := 1) Try.underlying150 rfl Try.sizeOf148 (by decide) h⟩
instance : Fld Try.prog 150 10 10 := ⟨fun h => a_field (sz := 1) Try.underlying150 rfl Try.sizeOf149 (by decide) h⟩
instance : Bld Try.prog 150 #[(0, 1), (1, 1), (2, 1), (3, 1), (4, 1), (5, 1), (6, 1), (7, 1), (8, 1), (9, 1), (10, 1)] #[.int .u64 0, .int .u64 0, .int .u32 0, .int .u8 0, .int .u8 0, .int .u8 0, .int .u8 0, .nilFunc, .pointer none, .int .i32 0, .int .i32 0] := ⟨Try.zeroValue150, ⟨_, Try.underlying150, fun w => by kernel_rfl⟩⟩
instance : TyS Try.prog 151 11 [.int .u64 0, .int .u64 0, .int .u32 0, .int .u8 0, .int .u8 0, .int .u8 0, .int .u8 0, .nilFunc, .pointer none, .int .i32 0, .int .i32 0] := ⟨Try.isAgg151, Try.sizeOf151, Try.zeroValue151⟩
instance : Fld Try.prog 151 0 0 := ⟨fun h => a_field (sz := 1) Try.underlying151 rfl Try.sizeOf12 (by decide) h⟩
instance : Fld Try.prog 151 1 1 := ⟨fun h => a_field (sz := 1) Try.underlying151 rfl Try.sizeOf12 (by decide) h⟩
instance : Fld Try.prog 151 2 2 := ⟨fun h => a_field (sz := 1) Try.underlying151 rfl Try.sizeOf126 (by decide) h⟩
instance : Fld Try.prog 151 3 3 := ⟨fun h => a_field (sz := 1) Try.underlying151 rfl Try.sizeOf144 (by decide) h⟩
instance : Fld Try.prog 151 4 4 := ⟨fun h => a_field (sz := 1) Try.underlying151 rfl Try.sizeOf5 (by decide) h⟩
instance : Fld Try.prog 151 5 5 := ⟨fun h => a_field (sz := 1) Try.underlying151 rfl Try.sizeOf5 (by decide) h⟩
instance : Fld Try.prog 151 6 6 := ⟨fun h => a_field (sz := 1) Try.underlying151 rfl Try.sizeOf145 (by decide) h⟩
instance : Fld Try.prog 151 7 7 := ⟨fun h => a_field (sz := 1) Try.underlying151 rfl Try.sizeOf146 (by decide) h⟩
instance : Fld Try.prog 151 8 8 := ⟨fun h => a_field (sz := 1) Try.underlying151 rfl Try.sizeOf147 (by decide) h⟩
instance : Fld Try.prog 151 9 9 := ⟨fun h => a_field (sz := 1) Try.underlying151 rfl Try.sizeOf148 (by decide) h⟩
instance : Fld Try.prog 151 10 10 := ⟨fun h => a_field (sz := 1) Try.underlying151 rfl Try.sizeOf149 (by decide) h⟩
instance : Bld Try.prog 151 #[(0, 1), (1, 1), (2, 1), (3, 1), (4, 1), (5, 1), (6, 1), (7, 1), (8, 1), (9, 1), (10, 1)] #[.int .u64 0, .int .u64 0, .int .u32 0, .int .u8 0, .int .u8 0, .int .u8 0, .int .u8 0, .nilFunc, .pointer none, .int .i32 0, .int .i32 0] := ⟨Try.zeroValue151, ⟨_, Try.underlying151, fun w => by kernel_rfl⟩⟩
instance : Und Try.prog 152 (.unsafePointer) := ⟨Try.underlying152⟩
instance : Ty1 Try.prog 152 (.pointer none) := ⟨Try.isAgg152, Try.sizeOf152, Try.zeroValue152, rfl⟩
end Go.Proofs.Ytdoopdbfajgnjaa
