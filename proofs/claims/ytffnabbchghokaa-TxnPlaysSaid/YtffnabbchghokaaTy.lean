/-
  The seat's types: what is asked of each, as instances. Printed by a program (ty.py) out of Lean's own print.
-/
import Derived.Test.YtffnabbchghokaaProg
import Derived.Test.YtffnabbchghokaaEzSep
namespace Go.Proofs.Ytffnabbchghokaa
open Go Go.Ez
set_option linter.unusedVariables false

instance : Und Try.prog 1 (.func #[] #[] false) := ⟨Try.underlying1⟩
instance : Ty1 Try.prog 1 (.nilFunc) := ⟨Try.isAgg1, Try.sizeOf1, Try.zeroValue1, rfl⟩
instance : Und Try.prog 2 (.int .i64) := ⟨Try.underlying2⟩
instance : Ty1 Try.prog 2 (.int .i64 0) := ⟨Try.isAgg2, Try.sizeOf2, Try.zeroValue2, rfl⟩
instance : Und Try.prog 3 (.int .i64) := ⟨Try.underlying3⟩
instance : Ty1 Try.prog 3 (.int .i64 0) := ⟨Try.isAgg3, Try.sizeOf3, Try.zeroValue3, rfl⟩
instance : Und Try.prog 4 (.bool) := ⟨Try.underlying4⟩
instance : Ty1 Try.prog 4 (.bool false) := ⟨Try.isAgg4, Try.sizeOf4, Try.zeroValue4, rfl⟩
instance : Und Try.prog 5 (.int .u8) := ⟨Try.underlying5⟩
instance : Ty1 Try.prog 5 (.int .u8 0) := ⟨Try.isAgg5, Try.sizeOf5, Try.zeroValue5, rfl⟩
instance : Und Try.prog 6 (.int .u8) := ⟨Try.underlying6⟩
instance : Ty1 Try.prog 6 (.int .u8 0) := ⟨Try.isAgg6, Try.sizeOf6, Try.zeroValue6, rfl⟩
instance : TyS Try.prog 7 4 [.int .i64 0, .int .i64 0, .bool false, .int .u8 0] := ⟨Try.isAgg7, Try.sizeOf7, Try.zeroValue7⟩
instance : Fld Try.prog 7 0 0 := ⟨fun h => a_field (sz := 1) Try.underlying7 rfl Try.sizeOf2 (by decide) h⟩
instance : Fld Try.prog 7 1 1 := ⟨fun h => a_field (sz := 1) Try.underlying7 rfl Try.sizeOf3 (by decide) h⟩
instance : Fld Try.prog 7 2 2 := ⟨fun h => a_field (sz := 1) Try.underlying7 rfl Try.sizeOf4 (by decide) h⟩
instance : Fld Try.prog 7 3 3 := ⟨fun h => a_field (sz := 1) Try.underlying7 rfl Try.sizeOf6 (by decide) h⟩
instance : Bld Try.prog 7 #[(0, 1), (1, 1), (2, 1), (3, 1)] #[.int .i64 0, .int .i64 0, .bool false, .int .u8 0] := ⟨Try.zeroValue7, ⟨_, Try.underlying7, fun w => by kernel_rfl⟩⟩
instance : TyS Try.prog 8 4 [.int .i64 0, .int .i64 0, .bool false, .int .u8 0] := ⟨Try.isAgg8, Try.sizeOf8, Try.zeroValue8⟩
instance : Fld Try.prog 8 0 0 := ⟨fun h => a_field (sz := 1) Try.underlying8 rfl Try.sizeOf2 (by decide) h⟩
instance : Fld Try.prog 8 1 1 := ⟨fun h => a_field (sz := 1) Try.underlying8 rfl Try.sizeOf3 (by decide) h⟩
instance : Fld Try.prog 8 2 2 := ⟨fun h => a_field (sz := 1) Try.underlying8 rfl Try.sizeOf4 (by decide) h⟩
instance : Fld Try.prog 8 3 3 := ⟨fun h => a_field (sz := 1) Try.underlying8 rfl Try.sizeOf6 (by decide) h⟩
instance : Bld Try.prog 8 #[(0, 1), (1, 1), (2, 1), (3, 1)] #[.int .i64 0, .int .i64 0, .bool false, .int .u8 0] := ⟨Try.zeroValue8, ⟨_, Try.underlying8, fun w => by kernel_rfl⟩⟩
instance : Und Try.prog 9 (.string) := ⟨Try.underlying9⟩
instance : Ty1 Try.prog 9 (.string ⟨#[]⟩) := ⟨Try.isAgg9, Try.sizeOf9, Try.zeroValue9, rfl⟩
instance : Und Try.prog 10 (.string) := ⟨Try.underlying10⟩
instance : Ty1 Try.prog 10 (.string ⟨#[]⟩) := ⟨Try.isAgg10, Try.sizeOf10, Try.zeroValue10, rfl⟩
instance : Und Try.prog 11 (.string) := ⟨Try.underlying11⟩
instance : Ty1 Try.prog 11 (.string ⟨#[]⟩) := ⟨Try.isAgg11, Try.sizeOf11, Try.zeroValue11, rfl⟩
instance : Und Try.prog 12 (.int .u64) := ⟨Try.underlying12⟩
instance : Ty1 Try.prog 12 (.int .u64 0) := ⟨Try.isAgg12, Try.sizeOf12, Try.zeroValue12, rfl⟩
instance : TyS Try.prog 13 2 [.string ⟨#[]⟩, .int .u64 0] := ⟨Try.isAgg13, Try.sizeOf13, Try.zeroValue13⟩
instance : Fld Try.prog 13 0 0 := ⟨fun h => a_field (sz := 1) Try.underlying13 rfl Try.sizeOf9 (by decide) h⟩
instance : Fld Try.prog 13 1 1 := ⟨fun h => a_field (sz := 1) Try.underlying13 rfl Try.sizeOf12 (by decide) h⟩
instance : Bld Try.prog 13 #[(0, 1), (1, 1)] #[.string ⟨#[]⟩, .int .u64 0] := ⟨Try.zeroValue13, ⟨_, Try.underlying13, fun w => by kernel_rfl⟩⟩
instance : TyS Try.prog 14 2 [.string ⟨#[]⟩, .int .u64 0] := ⟨Try.isAgg14, Try.sizeOf14, Try.zeroValue14⟩
instance : Fld Try.prog 14 0 0 := ⟨fun h => a_field (sz := 1) Try.underlying14 rfl Try.sizeOf9 (by decide) h⟩
instance : Fld Try.prog 14 1 1 := ⟨fun h => a_field (sz := 1) Try.underlying14 rfl Try.sizeOf12 (by decide) h⟩
instance : Bld Try.prog 14 #[(0, 1), (1, 1)] #[.string ⟨#[]⟩, .int .u64 0] := ⟨Try.zeroValue14, ⟨_, Try.underlying14, fun w => by kernel_rfl⟩⟩
instance : Und Try.prog 15 (.pointer 194) := ⟨Try.underlying15⟩
instance : Ty1 Try.prog 15 (.pointer none) := ⟨Try.isAgg15, Try.sizeOf15, Try.zeroValue15, rfl⟩
instance : Und Try.prog 16 (.pointer 197) := ⟨Try.underlying16⟩
instance : Ty1 Try.prog 16 (.pointer none) := ⟨Try.isAgg16, Try.sizeOf16, Try.zeroValue16, rfl⟩
instance : Und Try.prog 17 (.pointer 206) := ⟨Try.underlying17⟩
instance : Ty1 Try.prog 17 (.pointer none) := ⟨Try.isAgg17, Try.sizeOf17, Try.zeroValue17, rfl⟩
instance : TyS Try.prog 18 1 [.pointer none] := ⟨Try.isAgg18, Try.sizeOf18, Try.zeroValue18⟩
instance : Fld Try.prog 18 0 0 := ⟨fun h => a_field (sz := 1) Try.underlying18 rfl Try.sizeOf17 (by decide) h⟩
instance : Bld Try.prog 18 #[(0, 1)] #[.pointer none] := ⟨Try.zeroValue18, ⟨_, Try.underlying18, fun w => by kernel_rfl⟩⟩
instance : TyS Try.prog 19 1 [.pointer none] := ⟨Try.isAgg19, Try.sizeOf19, Try.zeroValue19⟩
instance : Fld Try.prog 19 0 0 := ⟨fun h => a_field (sz := 1) Try.underlying19 rfl Try.sizeOf17 (by decide) h⟩
instance : Bld Try.prog 19 #[(0, 1)] #[.pointer none] := ⟨Try.zeroValue19, ⟨_, Try.underlying19, fun w => by kernel_rfl⟩⟩
instance : Und Try.prog 20 (.interface #[]) := ⟨Try.underlying20⟩
instance : Ty1 Try.prog 20 (.nilIface) := ⟨Try.isAgg20, Try.sizeOf20, Try.zeroValue20, rfl⟩
instance : Und Try.prog 21 (.int .i32) := ⟨Try.underlying21⟩
instance : Ty1 Try.prog 21 (.int .i32 0) := ⟨Try.isAgg21, Try.sizeOf21, Try.zeroValue21, rfl⟩
instance : Und Try.prog 22 (.slice 3) := ⟨Try.underlying22⟩
instance : Ty1 Try.prog 22 (.slice none 0 0) := ⟨Try.isAgg22, Try.sizeOf22, Try.zeroValue22, rfl⟩
instance : SlT Try.prog 22 3 1 8 (.int .i64 0) := ⟨⟨Try.underlying22, by kernel_rfl, rfl, by decide⟩⟩
instance : Und Try.prog 23 (.func #[] #[4] false) := ⟨Try.underlying23⟩
instance : Ty1 Try.prog 23 (.nilFunc) := ⟨Try.isAgg23, Try.sizeOf23, Try.zeroValue23, rfl⟩
instance : Und Try.prog 24 (.pointer 98) := ⟨Try.underlying24⟩
instance : Ty1 Try.prog 24 (.pointer none) := ⟨Try.isAgg24, Try.sizeOf24, Try.zeroValue24, rfl⟩
instance : Und Try.prog 25 (.func #[] #[24] false) := ⟨Try.underlying25⟩
instance : Ty1 Try.prog 25 (.nilFunc) := ⟨Try.isAgg25, Try.sizeOf25, Try.zeroValue25, rfl⟩
instance : Und Try.prog 26 (.int .i64) := ⟨Try.underlying26⟩
instance : Ty1 Try.prog 26 (.int .i64 0) := ⟨Try.isAgg26, Try.sizeOf26, Try.zeroValue26, rfl⟩
instance : Und Try.prog 27 (.func #[3, 9, 3] #[26] false) := ⟨Try.underlying27⟩
instance : Ty1 Try.prog 27 (.nilFunc) := ⟨Try.isAgg27, Try.sizeOf27, Try.zeroValue27, rfl⟩
instance : Und Try.prog 28 (.func #[] #[3] false) := ⟨Try.underlying28⟩
instance : Ty1 Try.prog 28 (.nilFunc) := ⟨Try.isAgg28, Try.sizeOf28, Try.zeroValue28, rfl⟩
instance : Und Try.prog 29 (.func #[9] #[3] false) := ⟨Try.underlying29⟩
instance : Ty1 Try.prog 29 (.nilFunc) := ⟨Try.isAgg29, Try.sizeOf29, Try.zeroValue29, rfl⟩
instance : Und Try.prog 30 (.func #[3] #[3] false) := ⟨Try.underlying30⟩
instance : Ty1 Try.prog 30 (.nilFunc) := ⟨Try.isAgg30, Try.sizeOf30, Try.zeroValue30, rfl⟩
instance : Und Try.prog 32 (.func #[9, 3] #[3, 4] false) := ⟨Try.underlying32⟩
instance : Ty1 Try.prog 32 (.nilFunc) := ⟨Try.isAgg32, Try.sizeOf32, Try.zeroValue32, rfl⟩
instance : Und Try.prog 33 (.func #[22, 3] #[4] false) := ⟨Try.underlying33⟩
instance : Ty1 Try.prog 33 (.nilFunc) := ⟨Try.isAgg33, Try.sizeOf33, Try.zeroValue33, rfl⟩
instance : Und Try.prog 34 (.slice 40) := ⟨Try.underlying34⟩
instance : Ty1 Try.prog 34 (.slice none 0 0) := ⟨Try.isAgg34, Try.sizeOf34, Try.zeroValue34, rfl⟩
instance : SlT Try.prog 34 40 5 64 (.agg #[.int .i64 0, .int .i64 0, .string ⟨#[]⟩, .string ⟨#[]⟩, .string ⟨#[]⟩]) := ⟨⟨Try.underlying34, by kernel_rfl, rfl, by decide⟩⟩
instance : Und Try.prog 35 (.pointer 114) := ⟨Try.underlying35⟩
instance : Ty1 Try.prog 35 (.pointer none) := ⟨Try.isAgg35, Try.sizeOf35, Try.zeroValue35, rfl⟩
instance : Und Try.prog 36 (.func #[] #[35] false) := ⟨Try.underlying36⟩
instance : Ty1 Try.prog 36 (.nilFunc) := ⟨Try.isAgg36, Try.sizeOf36, Try.zeroValue36, rfl⟩
instance : Und Try.prog 37 (.func #[34] #[4] false) := ⟨Try.underlying37⟩
instance : Ty1 Try.prog 37 (.nilFunc) := ⟨Try.isAgg37, Try.sizeOf37, Try.zeroValue37, rfl⟩
instance : Und Try.prog 38 (.func #[35, 40] #[] false) := ⟨Try.underlying38⟩
instance : Ty1 Try.prog 38 (.nilFunc) := ⟨Try.isAgg38, Try.sizeOf38, Try.zeroValue38, rfl⟩
instance : TyS Try.prog 39 5 [.int .i64 0, .int .i64 0, .string ⟨#[]⟩, .string ⟨#[]⟩, .string ⟨#[]⟩] := ⟨Try.isAgg39, Try.sizeOf39, Try.zeroValue39⟩
instance : Fld Try.prog 39 0 0 := ⟨fun h => a_field (sz := 1) Try.underlying39 rfl Try.sizeOf3 (by decide) h⟩
instance : Fld Try.prog 39 1 1 := ⟨fun h => a_field (sz := 1) Try.underlying39 rfl Try.sizeOf3 (by decide) h⟩
instance : Fld Try.prog 39 2 2 := ⟨fun h => a_field (sz := 1) Try.underlying39 rfl Try.sizeOf9 (by decide) h⟩
instance : Fld Try.prog 39 3 3 := ⟨fun h => a_field (sz := 1) Try.underlying39 rfl Try.sizeOf9 (by decide) h⟩
instance : Fld Try.prog 39 4 4 := ⟨fun h => a_field (sz := 1) Try.underlying39 rfl Try.sizeOf9 (by decide) h⟩
instance : Bld Try.prog 39 #[(0, 1), (1, 1), (2, 1), (3, 1), (4, 1)] #[.int .i64 0, .int .i64 0, .string ⟨#[]⟩, .string ⟨#[]⟩, .string ⟨#[]⟩] := ⟨Try.zeroValue39, ⟨_, Try.underlying39, fun w => by kernel_rfl⟩⟩
instance : TyS Try.prog 40 5 [.int .i64 0, .int .i64 0, .string ⟨#[]⟩, .string ⟨#[]⟩, .string ⟨#[]⟩] := ⟨Try.isAgg40, Try.sizeOf40, Try.zeroValue40⟩
instance : Fld Try.prog 40 0 0 := ⟨fun h => a_field (sz := 1) Try.underlying40 rfl Try.sizeOf3 (by decide) h⟩
instance : Fld Try.prog 40 1 1 := ⟨fun h => a_field (sz := 1) Try.underlying40 rfl Try.sizeOf3 (by decide) h⟩
instance : Fld Try.prog 40 2 2 := ⟨fun h => a_field (sz := 1) Try.underlying40 rfl Try.sizeOf9 (by decide) h⟩
instance : Fld Try.prog 40 3 3 := ⟨fun h => a_field (sz := 1) Try.underlying40 rfl Try.sizeOf9 (by decide) h⟩
instance : Fld Try.prog 40 4 4 := ⟨fun h => a_field (sz := 1) Try.underlying40 rfl Try.sizeOf9 (by decide) h⟩
instance : Bld Try.prog 40 #[(0, 1), (1, 1), (2, 1), (3, 1), (4, 1)] #[.int .i64 0, .int .i64 0, .string ⟨#[]⟩, .string ⟨#[]⟩, .string ⟨#[]⟩] := ⟨Try.zeroValue40, ⟨_, Try.underlying40, fun w => by kernel_rfl⟩⟩
instance : Und Try.prog 41 (.slice 50) := ⟨Try.underlying41⟩
instance : Ty1 Try.prog 41 (.slice none 0 0) := ⟨Try.isAgg41, Try.sizeOf41, Try.zeroValue41, rfl⟩
instance : SlT Try.prog 41 50 2 32 (.agg #[.string ⟨#[]⟩, .string ⟨#[]⟩]) := ⟨⟨Try.underlying41, by kernel_rfl, rfl, by decide⟩⟩
instance : Und Try.prog 42 (.func #[44, 3] #[41] false) := ⟨Try.underlying42⟩
instance : Ty1 Try.prog 42 (.nilFunc) := ⟨Try.isAgg42, Try.sizeOf42, Try.zeroValue42, rfl⟩
instance : Und Try.prog 43 (.func #[115] #[] false) := ⟨Try.underlying43⟩
instance : Ty1 Try.prog 43 (.nilFunc) := ⟨Try.isAgg43, Try.sizeOf43, Try.zeroValue43, rfl⟩
instance : Und Try.prog 44 (.func #[115] #[] false) := ⟨Try.underlying44⟩
instance : Ty1 Try.prog 44 (.nilFunc) := ⟨Try.isAgg44, Try.sizeOf44, Try.zeroValue44, rfl⟩
instance : Und Try.prog 45 (.func #[9, 9, 3] #[44] false) := ⟨Try.underlying45⟩
instance : Ty1 Try.prog 45 (.nilFunc) := ⟨Try.isAgg45, Try.sizeOf45, Try.zeroValue45, rfl⟩
instance : Und Try.prog 46 (.func #[41, 41] #[4] false) := ⟨Try.underlying46⟩
instance : Ty1 Try.prog 46 (.nilFunc) := ⟨Try.isAgg46, Try.sizeOf46, Try.zeroValue46, rfl⟩
instance : Und Try.prog 48 (.func #[9, 3] #[9, 4] false) := ⟨Try.underlying48⟩
instance : Ty1 Try.prog 48 (.nilFunc) := ⟨Try.isAgg48, Try.sizeOf48, Try.zeroValue48, rfl⟩
instance : TyS Try.prog 49 2 [.string ⟨#[]⟩, .string ⟨#[]⟩] := ⟨Try.isAgg49, Try.sizeOf49, Try.zeroValue49⟩
instance : Fld Try.prog 49 0 0 := ⟨fun h => a_field (sz := 1) Try.underlying49 rfl Try.sizeOf9 (by decide) h⟩
instance : Fld Try.prog 49 1 1 := ⟨fun h => a_field (sz := 1) Try.underlying49 rfl Try.sizeOf9 (by decide) h⟩
instance : Bld Try.prog 49 #[(0, 1), (1, 1)] #[.string ⟨#[]⟩, .string ⟨#[]⟩] := ⟨Try.zeroValue49, ⟨_, Try.underlying49, fun w => by kernel_rfl⟩⟩
instance : TyS Try.prog 50 2 [.string ⟨#[]⟩, .string ⟨#[]⟩] := ⟨Try.isAgg50, Try.sizeOf50, Try.zeroValue50⟩
instance : Fld Try.prog 50 0 0 := ⟨fun h => a_field (sz := 1) Try.underlying50 rfl Try.sizeOf9 (by decide) h⟩
instance : Fld Try.prog 50 1 1 := ⟨fun h => a_field (sz := 1) Try.underlying50 rfl Try.sizeOf9 (by decide) h⟩
instance : Bld Try.prog 50 #[(0, 1), (1, 1)] #[.string ⟨#[]⟩, .string ⟨#[]⟩] := ⟨Try.zeroValue50, ⟨_, Try.underlying50, fun w => by kernel_rfl⟩⟩
instance : Und Try.prog 51 (.func #[34, 34, 3] #[4] false) := ⟨Try.underlying51⟩
instance : Ty1 Try.prog 51 (.nilFunc) := ⟨Try.isAgg51, Try.sizeOf51, Try.zeroValue51, rfl⟩
instance : Und Try.prog 52 (.func #[3, 9, 9] #[26] false) := ⟨Try.underlying52⟩
instance : Ty1 Try.prog 52 (.nilFunc) := ⟨Try.isAgg52, Try.sizeOf52, Try.zeroValue52, rfl⟩
instance : Und Try.prog 53 (.func #[3, 9] #[26] false) := ⟨Try.underlying53⟩
instance : Ty1 Try.prog 53 (.nilFunc) := ⟨Try.isAgg53, Try.sizeOf53, Try.zeroValue53, rfl⟩
instance : Und Try.prog 54 (.func #[3, 3, 3, 9, 9, 9] #[4] false) := ⟨Try.underlying54⟩
instance : Ty1 Try.prog 54 (.nilFunc) := ⟨Try.isAgg54, Try.sizeOf54, Try.zeroValue54, rfl⟩
instance : Und Try.prog 55 (.slice 58) := ⟨Try.underlying55⟩
instance : Ty1 Try.prog 55 (.slice none 0 0) := ⟨Try.isAgg55, Try.sizeOf55, Try.zeroValue55, rfl⟩
instance : SlT Try.prog 55 58 3 32 (.agg #[.int .i64 0, .string ⟨#[]⟩, .bool false]) := ⟨⟨Try.underlying55, by kernel_rfl, rfl, by decide⟩⟩
instance : Und Try.prog 56 (.func #[9] #[55] false) := ⟨Try.underlying56⟩
instance : Ty1 Try.prog 56 (.nilFunc) := ⟨Try.isAgg56, Try.sizeOf56, Try.zeroValue56, rfl⟩
instance : TyS Try.prog 57 3 [.int .i64 0, .string ⟨#[]⟩, .bool false] := ⟨Try.isAgg57, Try.sizeOf57, Try.zeroValue57⟩
instance : Fld Try.prog 57 0 0 := ⟨fun h => a_field (sz := 1) Try.underlying57 rfl Try.sizeOf3 (by decide) h⟩
instance : Fld Try.prog 57 1 1 := ⟨fun h => a_field (sz := 1) Try.underlying57 rfl Try.sizeOf9 (by decide) h⟩
instance : Fld Try.prog 57 2 2 := ⟨fun h => a_field (sz := 1) Try.underlying57 rfl Try.sizeOf4 (by decide) h⟩
instance : Bld Try.prog 57 #[(0, 1), (1, 1), (2, 1)] #[.int .i64 0, .string ⟨#[]⟩, .bool false] := ⟨Try.zeroValue57, ⟨_, Try.underlying57, fun w => by kernel_rfl⟩⟩
instance : TyS Try.prog 58 3 [.int .i64 0, .string ⟨#[]⟩, .bool false] := ⟨Try.isAgg58, Try.sizeOf58, Try.zeroValue58⟩
instance : Fld Try.prog 58 0 0 := ⟨fun h => a_field (sz := 1) Try.underlying58 rfl Try.sizeOf3 (by decide) h⟩
instance : Fld Try.prog 58 1 1 := ⟨fun h => a_field (sz := 1) Try.underlying58 rfl Try.sizeOf9 (by decide) h⟩
instance : Fld Try.prog 58 2 2 := ⟨fun h => a_field (sz := 1) Try.underlying58 rfl Try.sizeOf4 (by decide) h⟩
instance : Bld Try.prog 58 #[(0, 1), (1, 1), (2, 1)] #[.int .i64 0, .string ⟨#[]⟩, .bool false] := ⟨Try.zeroValue58, ⟨_, Try.underlying58, fun w => by kernel_rfl⟩⟩
instance : Und Try.prog 59 (.func #[34, 3, 3] #[4] false) := ⟨Try.underlying59⟩
instance : Ty1 Try.prog 59 (.nilFunc) := ⟨Try.isAgg59, Try.sizeOf59, Try.zeroValue59, rfl⟩
instance : Und Try.prog 60 (.pointer 63) := ⟨Try.underlying60⟩
instance : Ty1 Try.prog 60 (.pointer none) := ⟨Try.isAgg60, Try.sizeOf60, Try.zeroValue60, rfl⟩
instance : Und Try.prog 61 (.slice 130) := ⟨Try.underlying61⟩
instance : Ty1 Try.prog 61 (.slice none 0 0) := ⟨Try.isAgg61, Try.sizeOf61, Try.zeroValue61, rfl⟩
instance : SlT Try.prog 61 130 2 40 (.agg #[.string ⟨#[]⟩, .slice none 0 0]) := ⟨⟨Try.underlying61, by kernel_rfl, rfl, by decide⟩⟩
instance : TyS Try.prog 62 2 [.slice none 0 0, .int .i64 0] := ⟨Try.isAgg62, Try.sizeOf62, Try.zeroValue62⟩
instance : Fld Try.prog 62 0 0 := ⟨fun h => a_field (sz := 1) Try.underlying62 rfl Try.sizeOf61 (by decide) h⟩
instance : Fld Try.prog 62 1 1 := ⟨fun h => a_field (sz := 1) Try.underlying62 rfl Try.sizeOf3 (by decide) h⟩
instance : Bld Try.prog 62 #[(0, 1), (1, 1)] #[.slice none 0 0, .int .i64 0] := ⟨Try.zeroValue62, ⟨_, Try.underlying62, fun w => by kernel_rfl⟩⟩
instance : TyS Try.prog 63 2 [.slice none 0 0, .int .i64 0] := ⟨Try.isAgg63, Try.sizeOf63, Try.zeroValue63⟩
instance : Fld Try.prog 63 0 0 := ⟨fun h => a_field (sz := 1) Try.underlying63 rfl Try.sizeOf61 (by decide) h⟩
instance : Fld Try.prog 63 1 1 := ⟨fun h => a_field (sz := 1) Try.underlying63 rfl Try.sizeOf3 (by decide) h⟩
instance : Bld Try.prog 63 #[(0, 1), (1, 1)] #[.slice none 0 0, .int .i64 0] := ⟨Try.zeroValue63, ⟨_, Try.underlying63, fun w => by kernel_rfl⟩⟩
instance : Und Try.prog 64 (.func #[55, 65] #[4] false) := ⟨Try.underlying64⟩
instance : Ty1 Try.prog 64 (.nilFunc) := ⟨Try.isAgg64, Try.sizeOf64, Try.zeroValue64, rfl⟩
instance : Und Try.prog 65 (.slice 128) := ⟨Try.underlying65⟩
instance : Ty1 Try.prog 65 (.slice none 0 0) := ⟨Try.isAgg65, Try.sizeOf65, Try.zeroValue65, rfl⟩
instance : SlT Try.prog 65 128 3 32 (.agg #[.int .i64 0, .string ⟨#[]⟩, .bool false]) := ⟨⟨Try.underlying65, by kernel_rfl, rfl, by decide⟩⟩
instance : Und Try.prog 66 (.func #[9] #[65] false) := ⟨Try.underlying66⟩
instance : Ty1 Try.prog 66 (.nilFunc) := ⟨Try.isAgg66, Try.sizeOf66, Try.zeroValue66, rfl⟩
instance : Und Try.prog 67 (.func #[9, 9, 3] #[41] false) := ⟨Try.underlying67⟩
instance : Ty1 Try.prog 67 (.nilFunc) := ⟨Try.isAgg67, Try.sizeOf67, Try.zeroValue67, rfl⟩
instance : Und Try.prog 68 (.slice 75) := ⟨Try.underlying68⟩
instance : Ty1 Try.prog 68 (.slice none 0 0) := ⟨Try.isAgg68, Try.sizeOf68, Try.zeroValue68, rfl⟩
instance : SlT Try.prog 68 75 4 56 (.agg #[.int .i64 0, .string ⟨#[]⟩, .string ⟨#[]⟩, .string ⟨#[]⟩]) := ⟨⟨Try.underlying68, by kernel_rfl, rfl, by decide⟩⟩
instance : Und Try.prog 70 (.func #[34] #[35, 60] false) := ⟨Try.underlying70⟩
instance : Ty1 Try.prog 70 (.nilFunc) := ⟨Try.isAgg70, Try.sizeOf70, Try.zeroValue70, rfl⟩
instance : Und Try.prog 71 (.func #[68] #[4] false) := ⟨Try.underlying71⟩
instance : Ty1 Try.prog 71 (.nilFunc) := ⟨Try.isAgg71, Try.sizeOf71, Try.zeroValue71, rfl⟩
instance : Und Try.prog 72 (.pointer 136) := ⟨Try.underlying72⟩
instance : Ty1 Try.prog 72 (.pointer none) := ⟨Try.isAgg72, Try.sizeOf72, Try.zeroValue72, rfl⟩
instance : Und Try.prog 73 (.func #[35, 3] #[72] false) := ⟨Try.underlying73⟩
instance : Ty1 Try.prog 73 (.nilFunc) := ⟨Try.isAgg73, Try.sizeOf73, Try.zeroValue73, rfl⟩
instance : TyS Try.prog 74 4 [.int .i64 0, .string ⟨#[]⟩, .string ⟨#[]⟩, .string ⟨#[]⟩] := ⟨Try.isAgg74, Try.sizeOf74, Try.zeroValue74⟩
instance : Fld Try.prog 74 0 0 := ⟨fun h => a_field (sz := 1) Try.underlying74 rfl Try.sizeOf3 (by decide) h⟩
instance : Fld Try.prog 74 1 1 := ⟨fun h => a_field (sz := 1) Try.underlying74 rfl Try.sizeOf9 (by decide) h⟩
instance : Fld Try.prog 74 2 2 := ⟨fun h => a_field (sz := 1) Try.underlying74 rfl Try.sizeOf9 (by decide) h⟩
instance : Fld Try.prog 74 3 3 := ⟨fun h => a_field (sz := 1) Try.underlying74 rfl Try.sizeOf9 (by decide) h⟩
instance : Bld Try.prog 74 #[(0, 1), (1, 1), (2, 1), (3, 1)] #[.int .i64 0, .string ⟨#[]⟩, .string ⟨#[]⟩, .string ⟨#[]⟩] := ⟨Try.zeroValue74, ⟨_, Try.underlying74, fun w => by kernel_rfl⟩⟩
instance : TyS Try.prog 75 4 [.int .i64 0, .string ⟨#[]⟩, .string ⟨#[]⟩, .string ⟨#[]⟩] := ⟨Try.isAgg75, Try.sizeOf75, Try.zeroValue75⟩
instance : Fld Try.prog 75 0 0 := ⟨fun h => a_field (sz := 1) Try.underlying75 rfl Try.sizeOf3 (by decide) h⟩
instance : Fld Try.prog 75 1 1 := ⟨fun h => a_field (sz := 1) Try.underlying75 rfl Try.sizeOf9 (by decide) h⟩
instance : Fld Try.prog 75 2 2 := ⟨fun h => a_field (sz := 1) Try.underlying75 rfl Try.sizeOf9 (by decide) h⟩
instance : Fld Try.prog 75 3 3 := ⟨fun h => a_field (sz := 1) Try.underlying75 rfl Try.sizeOf9 (by decide) h⟩
instance : Bld Try.prog 75 #[(0, 1), (1, 1), (2, 1), (3, 1)] #[.int .i64 0, .string ⟨#[]⟩, .string ⟨#[]⟩, .string ⟨#[]⟩] := ⟨Try.zeroValue75, ⟨_, Try.underlying75, fun w => by kernel_rfl⟩⟩
instance : Und Try.prog 76 (.func #[9, 9] #[26] false) := ⟨Try.underlying76⟩
instance : Ty1 Try.prog 76 (.nilFunc) := ⟨Try.isAgg76, Try.sizeOf76, Try.zeroValue76, rfl⟩
instance : Und Try.prog 77 (.func #[41, 9, 9, 4] #[41] false) := ⟨Try.underlying77⟩
instance : Ty1 Try.prog 77 (.nilFunc) := ⟨Try.isAgg77, Try.sizeOf77, Try.zeroValue77, rfl⟩
instance : Und Try.prog 78 (.func #[9] #[26] false) := ⟨Try.underlying78⟩
instance : Ty1 Try.prog 78 (.nilFunc) := ⟨Try.isAgg78, Try.sizeOf78, Try.zeroValue78, rfl⟩
instance : Und Try.prog 79 (.func #[9] #[9, 4] false) := ⟨Try.underlying79⟩
instance : Ty1 Try.prog 79 (.nilFunc) := ⟨Try.isAgg79, Try.sizeOf79, Try.zeroValue79, rfl⟩
instance : Und Try.prog 80 (.func #[9, 9] #[44] false) := ⟨Try.underlying80⟩
instance : Ty1 Try.prog 80 (.nilFunc) := ⟨Try.isAgg80, Try.sizeOf80, Try.zeroValue80, rfl⟩
instance : Und Try.prog 81 (.func #[34, 3, 68] #[4] false) := ⟨Try.underlying81⟩
instance : Ty1 Try.prog 81 (.nilFunc) := ⟨Try.isAgg81, Try.sizeOf81, Try.zeroValue81, rfl⟩
instance : Und Try.prog 82 (.func #[9] #[44] false) := ⟨Try.underlying82⟩
instance : Ty1 Try.prog 82 (.nilFunc) := ⟨Try.isAgg82, Try.sizeOf82, Try.zeroValue82, rfl⟩
instance : Und Try.prog 83 (.func #[34, 3, 68, 9, 3] #[4] false) := ⟨Try.underlying83⟩
instance : Ty1 Try.prog 83 (.nilFunc) := ⟨Try.isAgg83, Try.sizeOf83, Try.zeroValue83, rfl⟩
instance : Und Try.prog 84 (.slice 86) := ⟨Try.underlying84⟩
instance : Ty1 Try.prog 84 (.slice none 0 0) := ⟨Try.isAgg84, Try.sizeOf84, Try.zeroValue84, rfl⟩
instance : SlT Try.prog 84 86 3 40 (.agg #[.string ⟨#[]⟩, .string ⟨#[]⟩, .bool false]) := ⟨⟨Try.underlying84, by kernel_rfl, rfl, by decide⟩⟩
instance : TyS Try.prog 85 3 [.string ⟨#[]⟩, .string ⟨#[]⟩, .bool false] := ⟨Try.isAgg85, Try.sizeOf85, Try.zeroValue85⟩
instance : Fld Try.prog 85 0 0 := ⟨fun h => a_field (sz := 1) Try.underlying85 rfl Try.sizeOf9 (by decide) h⟩
instance : Fld Try.prog 85 1 1 := ⟨fun h => a_field (sz := 1) Try.underlying85 rfl Try.sizeOf9 (by decide) h⟩
instance : Fld Try.prog 85 2 2 := ⟨fun h => a_field (sz := 1) Try.underlying85 rfl Try.sizeOf4 (by decide) h⟩
instance : Bld Try.prog 85 #[(0, 1), (1, 1), (2, 1)] #[.string ⟨#[]⟩, .string ⟨#[]⟩, .bool false] := ⟨Try.zeroValue85, ⟨_, Try.underlying85, fun w => by kernel_rfl⟩⟩
instance : TyS Try.prog 86 3 [.string ⟨#[]⟩, .string ⟨#[]⟩, .bool false] := ⟨Try.isAgg86, Try.sizeOf86, Try.zeroValue86⟩
instance : Fld Try.prog 86 0 0 := ⟨fun h => a_field (sz := 1) Try.underlying86 rfl Try.sizeOf9 (by decide) h⟩
instance : Fld Try.prog 86 1 1 := ⟨fun h => a_field (sz := 1) Try.underlying86 rfl Try.sizeOf9 (by decide) h⟩
instance : Fld Try.prog 86 2 2 := ⟨fun h => a_field (sz := 1) Try.underlying86 rfl Try.sizeOf4 (by decide) h⟩
instance : Bld Try.prog 86 #[(0, 1), (1, 1), (2, 1)] #[.string ⟨#[]⟩, .string ⟨#[]⟩, .bool false] := ⟨Try.zeroValue86, ⟨_, Try.underlying86, fun w => by kernel_rfl⟩⟩
instance : Und Try.prog 87 (.func #[84, 84] #[4] false) := ⟨Try.underlying87⟩
instance : Ty1 Try.prog 87 (.nilFunc) := ⟨Try.isAgg87, Try.sizeOf87, Try.zeroValue87, rfl⟩
instance : Und Try.prog 88 (.func #[] #[84] false) := ⟨Try.underlying88⟩
instance : Ty1 Try.prog 88 (.nilFunc) := ⟨Try.isAgg88, Try.sizeOf88, Try.zeroValue88, rfl⟩
instance : Und Try.prog 89 (.func #[34, 3, 68, 68, 9] #[4] false) := ⟨Try.underlying89⟩
instance : Ty1 Try.prog 89 (.nilFunc) := ⟨Try.isAgg89, Try.sizeOf89, Try.zeroValue89, rfl⟩
instance : Und Try.prog 90 (.pointer 146) := ⟨Try.underlying90⟩
instance : Ty1 Try.prog 90 (.pointer none) := ⟨Try.isAgg90, Try.sizeOf90, Try.zeroValue90, rfl⟩
instance : Und Try.prog 91 (.func #[60, 3] #[90] false) := ⟨Try.underlying91⟩
instance : Ty1 Try.prog 91 (.nilFunc) := ⟨Try.isAgg91, Try.sizeOf91, Try.zeroValue91, rfl⟩
instance : Und Try.prog 92 (.func #[9] #[41] false) := ⟨Try.underlying92⟩
instance : Ty1 Try.prog 92 (.nilFunc) := ⟨Try.isAgg92, Try.sizeOf92, Try.zeroValue92, rfl⟩
instance : Und Try.prog 93 (.func #[9, 9] #[41] false) := ⟨Try.underlying93⟩
instance : Ty1 Try.prog 93 (.nilFunc) := ⟨Try.isAgg93, Try.sizeOf93, Try.zeroValue93, rfl⟩
instance : Und Try.prog 94 (.pointer 149) := ⟨Try.underlying94⟩
instance : Ty1 Try.prog 94 (.pointer none) := ⟨Try.isAgg94, Try.sizeOf94, Try.zeroValue94, rfl⟩
instance : Und Try.prog 95 (.func #[] #[94] false) := ⟨Try.underlying95⟩
instance : Ty1 Try.prog 95 (.nilFunc) := ⟨Try.isAgg95, Try.sizeOf95, Try.zeroValue95, rfl⟩
instance : Und Try.prog 96 (.slice 101) := ⟨Try.underlying96⟩
instance : Ty1 Try.prog 96 (.slice none 0 0) := ⟨Try.isAgg96, Try.sizeOf96, Try.zeroValue96, rfl⟩
instance : SlT Try.prog 96 101 3 24 (.agg #[.int .i64 0, .int .i64 0, .bool false]) := ⟨⟨Try.underlying96, by kernel_rfl, rfl, by decide⟩⟩
instance : TyS Try.prog 97 2 [.pointer none, .int .i64 0] := ⟨Try.isAgg97, Try.sizeOf97, Try.zeroValue97⟩
instance : Fld Try.prog 97 0 0 := ⟨fun h => a_field (sz := 1) Try.underlying97 rfl Try.sizeOf94 (by decide) h⟩
instance : Fld Try.prog 97 1 1 := ⟨fun h => a_field (sz := 1) Try.underlying97 rfl Try.sizeOf3 (by decide) h⟩
instance : Bld Try.prog 97 #[(0, 1), (1, 1)] #[.pointer none, .int .i64 0] := ⟨Try.zeroValue97, ⟨_, Try.underlying97, fun w => by kernel_rfl⟩⟩
instance : TyS Try.prog 98 2 [.pointer none, .int .i64 0] := ⟨Try.isAgg98, Try.sizeOf98, Try.zeroValue98⟩
instance : Fld Try.prog 98 0 0 := ⟨fun h => a_field (sz := 1) Try.underlying98 rfl Try.sizeOf94 (by decide) h⟩
instance : Fld Try.prog 98 1 1 := ⟨fun h => a_field (sz := 1) Try.underlying98 rfl Try.sizeOf3 (by decide) h⟩
instance : Bld Try.prog 98 #[(0, 1), (1, 1)] #[.pointer none, .int .i64 0] := ⟨Try.zeroValue98, ⟨_, Try.underlying98, fun w => by kernel_rfl⟩⟩
instance : Und Try.prog 99 (.func #[9, 101] #[26] false) := ⟨Try.underlying99⟩
instance : Ty1 Try.prog 99 (.nilFunc) := ⟨Try.isAgg99, Try.sizeOf99, Try.zeroValue99, rfl⟩
instance : TyS Try.prog 100 3 [.int .i64 0, .int .i64 0, .bool false] := ⟨Try.isAgg100, Try.sizeOf100, Try.zeroValue100⟩
instance : Fld Try.prog 100 0 0 := ⟨fun h => a_field (sz := 1) Try.underlying100 rfl Try.sizeOf3 (by decide) h⟩
instance : Fld Try.prog 100 1 1 := ⟨fun h => a_field (sz := 1) Try.underlying100 rfl Try.sizeOf3 (by decide) h⟩
instance : Fld Try.prog 100 2 2 := ⟨fun h => a_field (sz := 1) Try.underlying100 rfl Try.sizeOf4 (by decide) h⟩
instance : Bld Try.prog 100 #[(0, 1), (1, 1), (2, 1)] #[.int .i64 0, .int .i64 0, .bool false] := ⟨Try.zeroValue100, ⟨_, Try.underlying100, fun w => by kernel_rfl⟩⟩
instance : TyS Try.prog 101 3 [.int .i64 0, .int .i64 0, .bool false] := ⟨Try.isAgg101, Try.sizeOf101, Try.zeroValue101⟩
instance : Fld Try.prog 101 0 0 := ⟨fun h => a_field (sz := 1) Try.underlying101 rfl Try.sizeOf3 (by decide) h⟩
instance : Fld Try.prog 101 1 1 := ⟨fun h => a_field (sz := 1) Try.underlying101 rfl Try.sizeOf3 (by decide) h⟩
instance : Fld Try.prog 101 2 2 := ⟨fun h => a_field (sz := 1) Try.underlying101 rfl Try.sizeOf4 (by decide) h⟩
instance : Bld Try.prog 101 #[(0, 1), (1, 1), (2, 1)] #[.int .i64 0, .int .i64 0, .bool false] := ⟨Try.zeroValue101, ⟨_, Try.underlying101, fun w => by kernel_rfl⟩⟩
instance : Und Try.prog 102 (.func #[109] #[] false) := ⟨Try.underlying102⟩
instance : Ty1 Try.prog 102 (.nilFunc) := ⟨Try.isAgg102, Try.sizeOf102, Try.zeroValue102, rfl⟩
instance : Und Try.prog 103 (.func #[109] #[] false) := ⟨Try.underlying103⟩
instance : Ty1 Try.prog 103 (.nilFunc) := ⟨Try.isAgg103, Try.sizeOf103, Try.zeroValue103, rfl⟩
instance : Und Try.prog 104 (.func #[] #[103] false) := ⟨Try.underlying104⟩
instance : Ty1 Try.prog 104 (.nilFunc) := ⟨Try.isAgg104, Try.sizeOf104, Try.zeroValue104, rfl⟩
instance : Und Try.prog 106 (.func #[9] #[96, 4] false) := ⟨Try.underlying106⟩
instance : Ty1 Try.prog 106 (.nilFunc) := ⟨Try.isAgg106, Try.sizeOf106, Try.zeroValue106, rfl⟩
instance : Und Try.prog 107 (.func #[96, 3] #[96] false) := ⟨Try.underlying107⟩
instance : Ty1 Try.prog 107 (.nilFunc) := ⟨Try.isAgg107, Try.sizeOf107, Try.zeroValue107, rfl⟩
instance : Und Try.prog 108 (.func #[9] #[4] false) := ⟨Try.underlying108⟩
instance : Ty1 Try.prog 108 (.nilFunc) := ⟨Try.isAgg108, Try.sizeOf108, Try.zeroValue108, rfl⟩
instance : Und Try.prog 109 (.func #[9, 96] #[4] false) := ⟨Try.underlying109⟩
instance : Ty1 Try.prog 109 (.nilFunc) := ⟨Try.isAgg109, Try.sizeOf109, Try.zeroValue109, rfl⟩
instance : Und Try.prog 110 (.func #[96, 3] #[3, 4] false) := ⟨Try.underlying110⟩
instance : Ty1 Try.prog 110 (.nilFunc) := ⟨Try.isAgg110, Try.sizeOf110, Try.zeroValue110, rfl⟩
instance : Und Try.prog 111 (.pointer 159) := ⟨Try.underlying111⟩
instance : Ty1 Try.prog 111 (.pointer none) := ⟨Try.isAgg111, Try.sizeOf111, Try.zeroValue111, rfl⟩
instance : Und Try.prog 112 (.func #[] #[111] false) := ⟨Try.underlying112⟩
instance : Ty1 Try.prog 112 (.nilFunc) := ⟨Try.isAgg112, Try.sizeOf112, Try.zeroValue112, rfl⟩
instance : TyS Try.prog 113 2 [.pointer none, .int .i64 0] := ⟨Try.isAgg113, Try.sizeOf113, Try.zeroValue113⟩
instance : Fld Try.prog 113 0 0 := ⟨fun h => a_field (sz := 1) Try.underlying113 rfl Try.sizeOf111 (by decide) h⟩
instance : Fld Try.prog 113 1 1 := ⟨fun h => a_field (sz := 1) Try.underlying113 rfl Try.sizeOf3 (by decide) h⟩
instance : Bld Try.prog 113 #[(0, 1), (1, 1)] #[.pointer none, .int .i64 0] := ⟨Try.zeroValue113, ⟨_, Try.underlying113, fun w => by kernel_rfl⟩⟩
instance : TyS Try.prog 114 2 [.pointer none, .int .i64 0] := ⟨Try.isAgg114, Try.sizeOf114, Try.zeroValue114⟩
instance : Fld Try.prog 114 0 0 := ⟨fun h => a_field (sz := 1) Try.underlying114 rfl Try.sizeOf111 (by decide) h⟩
instance : Fld Try.prog 114 1 1 := ⟨fun h => a_field (sz := 1) Try.underlying114 rfl Try.sizeOf3 (by decide) h⟩
instance : Bld Try.prog 114 #[(0, 1), (1, 1)] #[.pointer none, .int .i64 0] := ⟨Try.zeroValue114, ⟨_, Try.underlying114, fun w => by kernel_rfl⟩⟩
instance : Und Try.prog 115 (.func #[9, 9] #[4] false) := ⟨Try.underlying115⟩
instance : Ty1 Try.prog 115 (.nilFunc) := ⟨Try.isAgg115, Try.sizeOf115, Try.zeroValue115, rfl⟩
instance : Und Try.prog 116 (.func #[122] #[] false) := ⟨Try.underlying116⟩
instance : Ty1 Try.prog 116 (.nilFunc) := ⟨Try.isAgg116, Try.sizeOf116, Try.zeroValue116, rfl⟩
instance : Und Try.prog 117 (.func #[122] #[] false) := ⟨Try.underlying117⟩
instance : Ty1 Try.prog 117 (.nilFunc) := ⟨Try.isAgg117, Try.sizeOf117, Try.zeroValue117, rfl⟩
instance : Und Try.prog 118 (.func #[9, 9] #[117] false) := ⟨Try.underlying118⟩
instance : Ty1 Try.prog 118 (.nilFunc) := ⟨Try.isAgg118, Try.sizeOf118, Try.zeroValue118, rfl⟩
instance : Und Try.prog 119 (.func #[55, 3] #[9, 4] false) := ⟨Try.underlying119⟩
instance : Ty1 Try.prog 119 (.nilFunc) := ⟨Try.isAgg119, Try.sizeOf119, Try.zeroValue119, rfl⟩
instance : Und Try.prog 120 (.func #[] #[117] false) := ⟨Try.underlying120⟩
instance : Ty1 Try.prog 120 (.nilFunc) := ⟨Try.isAgg120, Try.sizeOf120, Try.zeroValue120, rfl⟩
instance : Und Try.prog 121 (.func #[55, 3] #[55] false) := ⟨Try.underlying121⟩
instance : Ty1 Try.prog 121 (.nilFunc) := ⟨Try.isAgg121, Try.sizeOf121, Try.zeroValue121, rfl⟩
instance : Und Try.prog 122 (.func #[9, 55] #[4] false) := ⟨Try.underlying122⟩
instance : Ty1 Try.prog 122 (.nilFunc) := ⟨Try.isAgg122, Try.sizeOf122, Try.zeroValue122, rfl⟩
instance : Und Try.prog 124 (.func #[9] #[55, 4] false) := ⟨Try.underlying124⟩
instance : Ty1 Try.prog 124 (.nilFunc) := ⟨Try.isAgg124, Try.sizeOf124, Try.zeroValue124, rfl⟩
instance : Und Try.prog 125 (.func #[9, 58] #[26] false) := ⟨Try.underlying125⟩
instance : Ty1 Try.prog 125 (.nilFunc) := ⟨Try.isAgg125, Try.sizeOf125, Try.zeroValue125, rfl⟩
instance : Und Try.prog 126 (.func #[55] #[55] false) := ⟨Try.underlying126⟩
instance : Ty1 Try.prog 126 (.nilFunc) := ⟨Try.isAgg126, Try.sizeOf126, Try.zeroValue126, rfl⟩
instance : Und Try.prog 127 (.func #[9, 128] #[26] false) := ⟨Try.underlying127⟩
instance : Ty1 Try.prog 127 (.nilFunc) := ⟨Try.isAgg127, Try.sizeOf127, Try.zeroValue127, rfl⟩
instance : TyS Try.prog 128 3 [.int .i64 0, .string ⟨#[]⟩, .bool false] := ⟨Try.isAgg128, Try.sizeOf128, Try.zeroValue128⟩
instance : Fld Try.prog 128 0 0 := ⟨fun h => a_field (sz := 1) Try.underlying128 rfl Try.sizeOf3 (by decide) h⟩
instance : Fld Try.prog 128 1 1 := ⟨fun h => a_field (sz := 1) Try.underlying128 rfl Try.sizeOf9 (by decide) h⟩
instance : Fld Try.prog 128 2 2 := ⟨fun h => a_field (sz := 1) Try.underlying128 rfl Try.sizeOf4 (by decide) h⟩
instance : Bld Try.prog 128 #[(0, 1), (1, 1), (2, 1)] #[.int .i64 0, .string ⟨#[]⟩, .bool false] := ⟨Try.zeroValue128, ⟨_, Try.underlying128, fun w => by kernel_rfl⟩⟩
instance : TyS Try.prog 129 2 [.string ⟨#[]⟩, .slice none 0 0] := ⟨Try.isAgg129, Try.sizeOf129, Try.zeroValue129⟩
instance : Fld Try.prog 129 0 0 := ⟨fun h => a_field (sz := 1) Try.underlying129 rfl Try.sizeOf9 (by decide) h⟩
instance : Fld Try.prog 129 1 1 := ⟨fun h => a_field (sz := 1) Try.underlying129 rfl Try.sizeOf65 (by decide) h⟩
instance : Bld Try.prog 129 #[(0, 1), (1, 1)] #[.string ⟨#[]⟩, .slice none 0 0] := ⟨Try.zeroValue129, ⟨_, Try.underlying129, fun w => by kernel_rfl⟩⟩
instance : TyS Try.prog 130 2 [.string ⟨#[]⟩, .slice none 0 0] := ⟨Try.isAgg130, Try.sizeOf130, Try.zeroValue130⟩
instance : Fld Try.prog 130 0 0 := ⟨fun h => a_field (sz := 1) Try.underlying130 rfl Try.sizeOf9 (by decide) h⟩
instance : Fld Try.prog 130 1 1 := ⟨fun h => a_field (sz := 1) Try.underlying130 rfl Try.sizeOf65 (by decide) h⟩
instance : Bld Try.prog 130 #[(0, 1), (1, 1)] #[.string ⟨#[]⟩, .slice none 0 0] := ⟨Try.zeroValue130, ⟨_, Try.underlying130, fun w => by kernel_rfl⟩⟩
instance : Und Try.prog 131 (.func #[9] #[3, 4] false) := ⟨Try.underlying131⟩
instance : Ty1 Try.prog 131 (.nilFunc) := ⟨Try.isAgg131, Try.sizeOf131, Try.zeroValue131, rfl⟩
instance : Und Try.prog 132 (.func #[65, 3] #[9, 4] false) := ⟨Try.underlying132⟩
instance : Ty1 Try.prog 132 (.nilFunc) := ⟨Try.isAgg132, Try.sizeOf132, Try.zeroValue132, rfl⟩
instance : Und Try.prog 133 (.pointer 168) := ⟨Try.underlying133⟩
instance : Ty1 Try.prog 133 (.pointer none) := ⟨Try.isAgg133, Try.sizeOf133, Try.zeroValue133, rfl⟩
instance : Und Try.prog 134 (.func #[] #[133] false) := ⟨Try.underlying134⟩
instance : Ty1 Try.prog 134 (.nilFunc) := ⟨Try.isAgg134, Try.sizeOf134, Try.zeroValue134, rfl⟩
instance : TyS Try.prog 135 3 [.pointer none, .int .i64 0, .pointer none] := ⟨Try.isAgg135, Try.sizeOf135, Try.zeroValue135⟩
instance : Fld Try.prog 135 0 0 := ⟨fun h => a_field (sz := 1) Try.underlying135 rfl Try.sizeOf35 (by decide) h⟩
instance : Fld Try.prog 135 1 1 := ⟨fun h => a_field (sz := 1) Try.underlying135 rfl Try.sizeOf3 (by decide) h⟩
instance : Fld Try.prog 135 2 2 := ⟨fun h => a_field (sz := 1) Try.underlying135 rfl Try.sizeOf133 (by decide) h⟩
instance : Bld Try.prog 135 #[(0, 1), (1, 1), (2, 1)] #[.pointer none, .int .i64 0, .pointer none] := ⟨Try.zeroValue135, ⟨_, Try.underlying135, fun w => by kernel_rfl⟩⟩
instance : TyS Try.prog 136 3 [.pointer none, .int .i64 0, .pointer none] := ⟨Try.isAgg136, Try.sizeOf136, Try.zeroValue136⟩
instance : Fld Try.prog 136 0 0 := ⟨fun h => a_field (sz := 1) Try.underlying136 rfl Try.sizeOf35 (by decide) h⟩
instance : Fld Try.prog 136 1 1 := ⟨fun h => a_field (sz := 1) Try.underlying136 rfl Try.sizeOf3 (by decide) h⟩
instance : Fld Try.prog 136 2 2 := ⟨fun h => a_field (sz := 1) Try.underlying136 rfl Try.sizeOf133 (by decide) h⟩
instance : Bld Try.prog 136 #[(0, 1), (1, 1), (2, 1)] #[.pointer none, .int .i64 0, .pointer none] := ⟨Try.zeroValue136, ⟨_, Try.underlying136, fun w => by kernel_rfl⟩⟩
instance : Und Try.prog 137 (.func #[86] #[26] false) := ⟨Try.underlying137⟩
instance : Ty1 Try.prog 137 (.nilFunc) := ⟨Try.isAgg137, Try.sizeOf137, Try.zeroValue137, rfl⟩
instance : Und Try.prog 139 (.func #[9] #[86, 4] false) := ⟨Try.underlying139⟩
instance : Ty1 Try.prog 139 (.nilFunc) := ⟨Try.isAgg139, Try.sizeOf139, Try.zeroValue139, rfl⟩
instance : Und Try.prog 140 (.func #[169] #[] false) := ⟨Try.underlying140⟩
instance : Ty1 Try.prog 140 (.nilFunc) := ⟨Try.isAgg140, Try.sizeOf140, Try.zeroValue140, rfl⟩
instance : Und Try.prog 141 (.func #[169] #[] false) := ⟨Try.underlying141⟩
instance : Ty1 Try.prog 141 (.nilFunc) := ⟨Try.isAgg141, Try.sizeOf141, Try.zeroValue141, rfl⟩
instance : Und Try.prog 142 (.func #[141, 141] #[141] false) := ⟨Try.underlying142⟩
instance : Ty1 Try.prog 142 (.nilFunc) := ⟨Try.isAgg142, Try.sizeOf142, Try.zeroValue142, rfl⟩
instance : Und Try.prog 143 (.func #[9, 9] #[141] false) := ⟨Try.underlying143⟩
instance : Ty1 Try.prog 143 (.nilFunc) := ⟨Try.isAgg143, Try.sizeOf143, Try.zeroValue143, rfl⟩
instance : Und Try.prog 144 (.func #[] #[141] false) := ⟨Try.underlying144⟩
instance : Ty1 Try.prog 144 (.nilFunc) := ⟨Try.isAgg144, Try.sizeOf144, Try.zeroValue144, rfl⟩
instance : TyS Try.prog 145 3 [.pointer none, .int .i64 0, .slice none 0 0] := ⟨Try.isAgg145, Try.sizeOf145, Try.zeroValue145⟩
instance : Fld Try.prog 145 0 0 := ⟨fun h => a_field (sz := 1) Try.underlying145 rfl Try.sizeOf60 (by decide) h⟩
instance : Fld Try.prog 145 1 1 := ⟨fun h => a_field (sz := 1) Try.underlying145 rfl Try.sizeOf3 (by decide) h⟩
instance : Fld Try.prog 145 2 2 := ⟨fun h => a_field (sz := 1) Try.underlying145 rfl Try.sizeOf84 (by decide) h⟩
instance : Bld Try.prog 145 #[(0, 1), (1, 1), (2, 1)] #[.pointer none, .int .i64 0, .slice none 0 0] := ⟨Try.zeroValue145, ⟨_, Try.underlying145, fun w => by kernel_rfl⟩⟩
instance : TyS Try.prog 146 3 [.pointer none, .int .i64 0, .slice none 0 0] := ⟨Try.isAgg146, Try.sizeOf146, Try.zeroValue146⟩
instance : Fld Try.prog 146 0 0 := ⟨fun h => a_field (sz := 1) Try.underlying146 rfl Try.sizeOf60 (by decide) h⟩
instance : Fld Try.prog 146 1 1 := ⟨fun h => a_field (sz := 1) Try.underlying146 rfl Try.sizeOf3 (by decide) h⟩
instance : Fld Try.prog 146 2 2 := ⟨fun h => a_field (sz := 1) Try.underlying146 rfl Try.sizeOf84 (by decide) h⟩
instance : Bld Try.prog 146 #[(0, 1), (1, 1), (2, 1)] #[.pointer none, .int .i64 0, .slice none 0 0] := ⟨Try.zeroValue146, ⟨_, Try.underlying146, fun w => by kernel_rfl⟩⟩
instance : Und Try.prog 147 (.slice 153) := ⟨Try.underlying147⟩
instance : Ty1 Try.prog 147 (.slice none 0 0) := ⟨Try.isAgg147, Try.sizeOf147, Try.zeroValue147, rfl⟩
instance : SlT Try.prog 147 153 2 40 (.agg #[.string ⟨#[]⟩, .slice none 0 0]) := ⟨⟨Try.underlying147, by kernel_rfl, rfl, by decide⟩⟩
instance : TyS Try.prog 148 1 [.slice none 0 0] := ⟨Try.isAgg148, Try.sizeOf148, Try.zeroValue148⟩
instance : Fld Try.prog 148 0 0 := ⟨fun h => a_field (sz := 1) Try.underlying148 rfl Try.sizeOf147 (by decide) h⟩
instance : Bld Try.prog 148 #[(0, 1)] #[.slice none 0 0] := ⟨Try.zeroValue148, ⟨_, Try.underlying148, fun w => by kernel_rfl⟩⟩
instance : TyS Try.prog 149 1 [.slice none 0 0] := ⟨Try.isAgg149, Try.sizeOf149, Try.zeroValue149⟩
instance : Fld Try.prog 149 0 0 := ⟨fun h => a_field (sz := 1) Try.underlying149 rfl Try.sizeOf147 (by decide) h⟩
instance : Bld Try.prog 149 #[(0, 1)] #[.slice none 0 0] := ⟨Try.zeroValue149, ⟨_, Try.underlying149, fun w => by kernel_rfl⟩⟩
instance : Und Try.prog 150 (.func #[96] #[96] false) := ⟨Try.underlying150⟩
instance : Ty1 Try.prog 150 (.nilFunc) := ⟨Try.isAgg150, Try.sizeOf150, Try.zeroValue150, rfl⟩
instance : Und Try.prog 151 (.func #[147] #[147] false) := ⟨Try.underlying151⟩
instance : Ty1 Try.prog 151 (.nilFunc) := ⟨Try.isAgg151, Try.sizeOf151, Try.zeroValue151, rfl⟩
instance : TyS Try.prog 152 2 [.string ⟨#[]⟩, .slice none 0 0] := ⟨Try.isAgg152, Try.sizeOf152, Try.zeroValue152⟩
instance : Fld Try.prog 152 0 0 := ⟨fun h => a_field (sz := 1) Try.underlying152 rfl Try.sizeOf9 (by decide) h⟩
instance : Fld Try.prog 152 1 1 := ⟨fun h => a_field (sz := 1) Try.underlying152 rfl Try.sizeOf96 (by decide) h⟩
instance : Bld Try.prog 152 #[(0, 1), (1, 1)] #[.string ⟨#[]⟩, .slice none 0 0] := ⟨Try.zeroValue152, ⟨_, Try.underlying152, fun w => by kernel_rfl⟩⟩
instance : TyS Try.prog 153 2 [.string ⟨#[]⟩, .slice none 0 0] := ⟨Try.isAgg153, Try.sizeOf153, Try.zeroValue153⟩
instance : Fld Try.prog 153 0 0 := ⟨fun h => a_field (sz := 1) Try.underlying153 rfl Try.sizeOf9 (by decide) h⟩
instance : Fld Try.prog 153 1 1 := ⟨fun h => a_field (sz := 1) Try.underlying153 rfl Try.sizeOf96 (by decide) h⟩
instance : Bld Try.prog 153 #[(0, 1), (1, 1)] #[.string ⟨#[]⟩, .slice none 0 0] := ⟨Try.zeroValue153, ⟨_, Try.underlying153, fun w => by kernel_rfl⟩⟩
instance : Und Try.prog 154 (.func #[96, 3] #[3] false) := ⟨Try.underlying154⟩
instance : Ty1 Try.prog 154 (.nilFunc) := ⟨Try.isAgg154, Try.sizeOf154, Try.zeroValue154, rfl⟩
instance : Und Try.prog 155 (.func #[147, 3, 3] #[147] false) := ⟨Try.underlying155⟩
instance : Ty1 Try.prog 155 (.nilFunc) := ⟨Try.isAgg155, Try.sizeOf155, Try.zeroValue155, rfl⟩
instance : Und Try.prog 156 (.func #[147, 3, 147] #[147] true) := ⟨Try.underlying156⟩
instance : Ty1 Try.prog 156 (.nilFunc) := ⟨Try.isAgg156, Try.sizeOf156, Try.zeroValue156, rfl⟩
instance : Und Try.prog 157 (.slice 163) := ⟨Try.underlying157⟩
instance : Ty1 Try.prog 157 (.slice none 0 0) := ⟨Try.isAgg157, Try.sizeOf157, Try.zeroValue157, rfl⟩
instance : SlT Try.prog 157 163 2 40 (.agg #[.string ⟨#[]⟩, .slice none 0 0]) := ⟨⟨Try.underlying157, by kernel_rfl, rfl, by decide⟩⟩
instance : TyS Try.prog 158 1 [.slice none 0 0] := ⟨Try.isAgg158, Try.sizeOf158, Try.zeroValue158⟩
instance : Fld Try.prog 158 0 0 := ⟨fun h => a_field (sz := 1) Try.underlying158 rfl Try.sizeOf157 (by decide) h⟩
instance : Bld Try.prog 158 #[(0, 1)] #[.slice none 0 0] := ⟨Try.zeroValue158, ⟨_, Try.underlying158, fun w => by kernel_rfl⟩⟩
instance : TyS Try.prog 159 1 [.slice none 0 0] := ⟨Try.isAgg159, Try.sizeOf159, Try.zeroValue159⟩
instance : Fld Try.prog 159 0 0 := ⟨fun h => a_field (sz := 1) Try.underlying159 rfl Try.sizeOf157 (by decide) h⟩
instance : Bld Try.prog 159 #[(0, 1)] #[.slice none 0 0] := ⟨Try.zeroValue159, ⟨_, Try.underlying159, fun w => by kernel_rfl⟩⟩
instance : Und Try.prog 160 (.func #[55, 3] #[3] false) := ⟨Try.underlying160⟩
instance : Ty1 Try.prog 160 (.nilFunc) := ⟨Try.isAgg160, Try.sizeOf160, Try.zeroValue160, rfl⟩
instance : Und Try.prog 161 (.func #[157] #[157] false) := ⟨Try.underlying161⟩
instance : Ty1 Try.prog 161 (.nilFunc) := ⟨Try.isAgg161, Try.sizeOf161, Try.zeroValue161, rfl⟩
instance : TyS Try.prog 162 2 [.string ⟨#[]⟩, .slice none 0 0] := ⟨Try.isAgg162, Try.sizeOf162, Try.zeroValue162⟩
instance : Fld Try.prog 162 0 0 := ⟨fun h => a_field (sz := 1) Try.underlying162 rfl Try.sizeOf9 (by decide) h⟩
instance : Fld Try.prog 162 1 1 := ⟨fun h => a_field (sz := 1) Try.underlying162 rfl Try.sizeOf55 (by decide) h⟩
instance : Bld Try.prog 162 #[(0, 1), (1, 1)] #[.string ⟨#[]⟩, .slice none 0 0] := ⟨Try.zeroValue162, ⟨_, Try.underlying162, fun w => by kernel_rfl⟩⟩
instance : TyS Try.prog 163 2 [.string ⟨#[]⟩, .slice none 0 0] := ⟨Try.isAgg163, Try.sizeOf163, Try.zeroValue163⟩
instance : Fld Try.prog 163 0 0 := ⟨fun h => a_field (sz := 1) Try.underlying163 rfl Try.sizeOf9 (by decide) h⟩
instance : Fld Try.prog 163 1 1 := ⟨fun h => a_field (sz := 1) Try.underlying163 rfl Try.sizeOf55 (by decide) h⟩
instance : Bld Try.prog 163 #[(0, 1), (1, 1)] #[.string ⟨#[]⟩, .slice none 0 0] := ⟨Try.zeroValue163, ⟨_, Try.underlying163, fun w => by kernel_rfl⟩⟩
instance : Und Try.prog 164 (.func #[157, 3, 3] #[157] false) := ⟨Try.underlying164⟩
instance : Ty1 Try.prog 164 (.nilFunc) := ⟨Try.isAgg164, Try.sizeOf164, Try.zeroValue164, rfl⟩
instance : Und Try.prog 165 (.func #[157, 3, 157] #[157] true) := ⟨Try.underlying165⟩
instance : Ty1 Try.prog 165 (.nilFunc) := ⟨Try.isAgg165, Try.sizeOf165, Try.zeroValue165, rfl⟩
instance : Und Try.prog 166 (.slice 171) := ⟨Try.underlying166⟩
instance : Ty1 Try.prog 166 (.slice none 0 0) := ⟨Try.isAgg166, Try.sizeOf166, Try.zeroValue166, rfl⟩
instance : SlT Try.prog 166 171 4 56 (.agg #[.string ⟨#[]⟩, .string ⟨#[]⟩, .string ⟨#[]⟩, .bool false]) := ⟨⟨Try.underlying166, by kernel_rfl, rfl, by decide⟩⟩
instance : TyS Try.prog 167 1 [.slice none 0 0] := ⟨Try.isAgg167, Try.sizeOf167, Try.zeroValue167⟩
instance : Fld Try.prog 167 0 0 := ⟨fun h => a_field (sz := 1) Try.underlying167 rfl Try.sizeOf166 (by decide) h⟩
instance : Bld Try.prog 167 #[(0, 1)] #[.slice none 0 0] := ⟨Try.zeroValue167, ⟨_, Try.underlying167, fun w => by kernel_rfl⟩⟩
instance : TyS Try.prog 168 1 [.slice none 0 0] := ⟨Try.isAgg168, Try.sizeOf168, Try.zeroValue168⟩
instance : Fld Try.prog 168 0 0 := ⟨fun h => a_field (sz := 1) Try.underlying168 rfl Try.sizeOf166 (by decide) h⟩
instance : Bld Try.prog 168 #[(0, 1)] #[.slice none 0 0] := ⟨Try.zeroValue168, ⟨_, Try.underlying168, fun w => by kernel_rfl⟩⟩
instance : Und Try.prog 169 (.func #[9, 86] #[4] false) := ⟨Try.underlying169⟩
instance : Ty1 Try.prog 169 (.nilFunc) := ⟨Try.isAgg169, Try.sizeOf169, Try.zeroValue169, rfl⟩
instance : TyS Try.prog 170 4 [.string ⟨#[]⟩, .string ⟨#[]⟩, .string ⟨#[]⟩, .bool false] := ⟨Try.isAgg170, Try.sizeOf170, Try.zeroValue170⟩
instance : Fld Try.prog 170 0 0 := ⟨fun h => a_field (sz := 1) Try.underlying170 rfl Try.sizeOf9 (by decide) h⟩
instance : Fld Try.prog 170 1 1 := ⟨fun h => a_field (sz := 3) Try.underlying170 rfl Try.sizeOf86 (by decide) h⟩
instance : Bld Try.prog 170 #[(0, 1), (1, 3)] #[.string ⟨#[]⟩, .string ⟨#[]⟩, .string ⟨#[]⟩, .bool false] := ⟨Try.zeroValue170, ⟨_, Try.underlying170, fun w => by kernel_rfl⟩⟩
instance : TyS Try.prog 171 4 [.string ⟨#[]⟩, .string ⟨#[]⟩, .string ⟨#[]⟩, .bool false] := ⟨Try.isAgg171, Try.sizeOf171, Try.zeroValue171⟩
instance : Fld Try.prog 171 0 0 := ⟨fun h => a_field (sz := 1) Try.underlying171 rfl Try.sizeOf9 (by decide) h⟩
instance : Fld Try.prog 171 1 1 := ⟨fun h => a_field (sz := 3) Try.underlying171 rfl Try.sizeOf86 (by decide) h⟩
instance : Bld Try.prog 171 #[(0, 1), (1, 3)] #[.string ⟨#[]⟩, .string ⟨#[]⟩, .string ⟨#[]⟩, .bool false] := ⟨Try.zeroValue171, ⟨_, Try.underlying171, fun w => by kernel_rfl⟩⟩
instance : Und Try.prog 172 (.func #[141] #[166] false) := ⟨Try.underlying172⟩
instance : Ty1 Try.prog 172 (.nilFunc) := ⟨Try.isAgg172, Try.sizeOf172, Try.zeroValue172, rfl⟩
instance : Und Try.prog 173 (.func #[166] #[166] false) := ⟨Try.underlying173⟩
instance : Ty1 Try.prog 173 (.nilFunc) := ⟨Try.isAgg173, Try.sizeOf173, Try.zeroValue173, rfl⟩
instance : Und Try.prog 174 (.func #[147, 9, 176] #[3, 4] false) := ⟨Try.underlying174⟩
instance : Ty1 Try.prog 174 (.nilFunc) := ⟨Try.isAgg174, Try.sizeOf174, Try.zeroValue174, rfl⟩
instance : Und Try.prog 175 (.func #[9, 9] #[3] false) := ⟨Try.underlying175⟩
instance : Ty1 Try.prog 175 (.nilFunc) := ⟨Try.isAgg175, Try.sizeOf175, Try.zeroValue175, rfl⟩
instance : Und Try.prog 176 (.func #[153, 9] #[3] false) := ⟨Try.underlying176⟩
instance : Ty1 Try.prog 176 (.nilFunc) := ⟨Try.isAgg176, Try.sizeOf176, Try.zeroValue176, rfl⟩
instance : Und Try.prog 177 (.func #[147, 147] #[4] false) := ⟨Try.underlying177⟩
instance : Ty1 Try.prog 177 (.nilFunc) := ⟨Try.isAgg177, Try.sizeOf177, Try.zeroValue177, rfl⟩
instance : Und Try.prog 178 (.func #[147, 3] #[] false) := ⟨Try.underlying178⟩
instance : Ty1 Try.prog 178 (.nilFunc) := ⟨Try.isAgg178, Try.sizeOf178, Try.zeroValue178, rfl⟩
instance : Und Try.prog 179 (.func #[157, 9, 180] #[3, 4] false) := ⟨Try.underlying179⟩
instance : Ty1 Try.prog 179 (.nilFunc) := ⟨Try.isAgg179, Try.sizeOf179, Try.zeroValue179, rfl⟩
instance : Und Try.prog 180 (.func #[163, 9] #[3] false) := ⟨Try.underlying180⟩
instance : Ty1 Try.prog 180 (.nilFunc) := ⟨Try.isAgg180, Try.sizeOf180, Try.zeroValue180, rfl⟩
instance : Und Try.prog 181 (.func #[157, 157] #[4] false) := ⟨Try.underlying181⟩
instance : Ty1 Try.prog 181 (.nilFunc) := ⟨Try.isAgg181, Try.sizeOf181, Try.zeroValue181, rfl⟩
instance : Und Try.prog 182 (.func #[157, 3] #[] false) := ⟨Try.underlying182⟩
instance : Ty1 Try.prog 182 (.nilFunc) := ⟨Try.isAgg182, Try.sizeOf182, Try.zeroValue182, rfl⟩
instance : Und Try.prog 183 (.func #[166, 3, 166] #[166] true) := ⟨Try.underlying183⟩
instance : Ty1 Try.prog 183 (.nilFunc) := ⟨Try.isAgg183, Try.sizeOf183, Try.zeroValue183, rfl⟩
instance : Und Try.prog 184 (.func #[166, 9, 185] #[3, 4] false) := ⟨Try.underlying184⟩
instance : Ty1 Try.prog 184 (.nilFunc) := ⟨Try.isAgg184, Try.sizeOf184, Try.zeroValue184, rfl⟩
instance : Und Try.prog 185 (.func #[171, 9] #[3] false) := ⟨Try.underlying185⟩
instance : Ty1 Try.prog 185 (.nilFunc) := ⟨Try.isAgg185, Try.sizeOf185, Try.zeroValue185, rfl⟩
instance : Und Try.prog 186 (.int .u64) := ⟨Try.underlying186⟩
instance : Ty1 Try.prog 186 (.int .u64 0) := ⟨Try.isAgg186, Try.sizeOf186, Try.zeroValue186, rfl⟩
instance : Und Try.prog 187 (.func #[166, 166] #[4] false) := ⟨Try.underlying187⟩
instance : Ty1 Try.prog 187 (.nilFunc) := ⟨Try.isAgg187, Try.sizeOf187, Try.zeroValue187, rfl⟩
instance : Und Try.prog 188 (.func #[166, 3] #[] false) := ⟨Try.underlying188⟩
instance : Ty1 Try.prog 188 (.nilFunc) := ⟨Try.isAgg188, Try.sizeOf188, Try.zeroValue188, rfl⟩
instance : Und Try.prog 189 (.func #[147] #[] false) := ⟨Try.underlying189⟩
instance : Ty1 Try.prog 189 (.nilFunc) := ⟨Try.isAgg189, Try.sizeOf189, Try.zeroValue189, rfl⟩
instance : Und Try.prog 190 (.func #[157] #[] false) := ⟨Try.underlying190⟩
instance : Ty1 Try.prog 190 (.nilFunc) := ⟨Try.isAgg190, Try.sizeOf190, Try.zeroValue190, rfl⟩
instance : Und Try.prog 191 (.func #[166] #[] false) := ⟨Try.underlying191⟩
instance : Ty1 Try.prog 191 (.nilFunc) := ⟨Try.isAgg191, Try.sizeOf191, Try.zeroValue191, rfl⟩
instance : Und Try.prog 192 (.func #[] #[9] false) := ⟨Try.underlying192⟩
instance : Ty1 Try.prog 192 (.nilFunc) := ⟨Try.isAgg192, Try.sizeOf192, Try.zeroValue192, rfl⟩
instance : TyS Try.prog 193 4 [.pointer none, .pointer none, .pointer none, .string ⟨#[]⟩] := ⟨Try.isAgg193, Try.sizeOf193, Try.zeroValue193⟩
instance : Fld Try.prog 193 0 0 := ⟨fun h => a_field (sz := 1) Try.underlying193 rfl Try.sizeOf17 (by decide) h⟩
instance : Fld Try.prog 193 1 1 := ⟨fun h => a_field (sz := 1) Try.underlying193 rfl Try.sizeOf17 (by decide) h⟩
instance : Fld Try.prog 193 2 2 := ⟨fun h => a_field (sz := 1) Try.underlying193 rfl Try.sizeOf17 (by decide) h⟩
instance : Fld Try.prog 193 3 3 := ⟨fun h => a_field (sz := 1) Try.underlying193 rfl Try.sizeOf9 (by decide) h⟩
instance : Bld Try.prog 193 #[(0, 1), (1, 1), (2, 1), (3, 1)] #[.pointer none, .pointer none, .pointer none, .string ⟨#[]⟩] := ⟨Try.zeroValue193, ⟨_, Try.underlying193, fun w => by kernel_rfl⟩⟩
instance : TyS Try.prog 194 4 [.pointer none, .pointer none, .pointer none, .string ⟨#[]⟩] := ⟨Try.isAgg194, Try.sizeOf194, Try.zeroValue194⟩
instance : Fld Try.prog 194 0 0 := ⟨fun h => a_field (sz := 1) Try.underlying194 rfl Try.sizeOf17 (by decide) h⟩
instance : Fld Try.prog 194 1 1 := ⟨fun h => a_field (sz := 1) Try.underlying194 rfl Try.sizeOf17 (by decide) h⟩
instance : Fld Try.prog 194 2 2 := ⟨fun h => a_field (sz := 1) Try.underlying194 rfl Try.sizeOf17 (by decide) h⟩
instance : Fld Try.prog 194 3 3 := ⟨fun h => a_field (sz := 1) Try.underlying194 rfl Try.sizeOf9 (by decide) h⟩
instance : Bld Try.prog 194 #[(0, 1), (1, 1), (2, 1), (3, 1)] #[.pointer none, .pointer none, .pointer none, .string ⟨#[]⟩] := ⟨Try.zeroValue194, ⟨_, Try.underlying194, fun w => by kernel_rfl⟩⟩
instance : TyS Try.prog 196 0 [] := ⟨Try.isAgg196, Try.sizeOf196, Try.zeroValue196⟩
instance : Bld Try.prog 196 #[(0, 0)] #[] := ⟨Try.zeroValue196, ⟨_, Try.underlying196, fun w => by kernel_rfl⟩⟩
instance : TyS Try.prog 197 0 [] := ⟨Try.isAgg197, Try.sizeOf197, Try.zeroValue197⟩
instance : Bld Try.prog 197 #[(0, 0)] #[] := ⟨Try.zeroValue197, ⟨_, Try.underlying197, fun w => by kernel_rfl⟩⟩
instance : Und Try.prog 198 (.int .u32) := ⟨Try.underlying198⟩
instance : Ty1 Try.prog 198 (.int .u32 0) := ⟨Try.isAgg198, Try.sizeOf198, Try.zeroValue198, rfl⟩
instance : Und Try.prog 199 (.int .u8) := ⟨Try.underlying199⟩
instance : Ty1 Try.prog 199 (.int .u8 0) := ⟨Try.isAgg199, Try.sizeOf199, Try.zeroValue199, rfl⟩
instance : Und Try.prog 200 (.int .u8) := ⟨Try.underlying200⟩
instance : Ty1 Try.prog 200 (.int .u8 0) := ⟨Try.isAgg200, Try.sizeOf200, Try.zeroValue200, rfl⟩
instance : Und Try.prog 201 (.func #[210, 210] #[4] false) := ⟨Try.underlying201⟩
instance : Ty1 Try.prog 201 (.nilFunc) := ⟨Try.isAgg201, Try.sizeOf201, Try.zeroValue201, rfl⟩
instance : Und Try.prog 202 (.pointer 5) := ⟨Try.underlying202⟩
instance : Ty1 Try.prog 202 (.pointer none) := ⟨Try.isAgg202, Try.sizeOf202, Try.zeroValue202, rfl⟩
instance : Und Try.prog 203 (.int .i32) := ⟨Try.underlying203⟩
instance : Ty1 Try.prog 203 (.int .i32 0) := ⟨Try.isAgg203, Try.sizeOf203, Try.zeroValue203, rfl⟩
instance : Und Try.prog 204 (.int .i32) := ⟨Try.underlying204⟩
instance : Ty1 Try.prog 204 (.int .i32 0) := ⟨Try.isAgg204, Try.sizeOf204, Try.zeroValue204, rfl⟩
instance : TyS Try.prog 205 11 [.int .u64 0, .int .u64 0, .int .u32 0, .int .u8 0, .int .u8 0, .int .u8 0, .int .u8 0, .nilFunc, .pointer none, .int .i32 0, .int .i32 0] := ⟨Try.isAgg205, Try.sizeOf205, Try.zeroValue205⟩
instance : Fld Try.prog 205 0 0 := ⟨fun h => a_field (sz := 1) Try.underlying205 rfl Try.sizeOf12 (by decide) h⟩
instance : Fld Try.prog 205 1 1 := ⟨fun h => a_field (sz := 1) Try.underlying205 rfl Try.sizeOf12 (by decide) h⟩
instance : Fld Try.prog 205 2 2 := ⟨fun h => a_field (sz := 1) Try.underlying205 rfl Try.sizeOf198 (by decide) h⟩
instance : Fld Try.prog 205 3 3 := ⟨fun h => a_field (sz := 1) Try.underlying205 rfl Try.sizeOf199 (by decide) h⟩
instance : Fld Try.prog 205 4 4 := ⟨fun h => a_field (sz := 1) Try.underlying205 rfl Try.sizeOf5 (by decide) h⟩
instance : Fld Try.prog 205 5 5 := ⟨fun h => a_field (sz := 1) Try.underlying205 rfl Try.sizeOf5 (by decide) h⟩
instance : Fld Try.prog 205 6 6 := ⟨fun h => a_field (sz := 1) Try.underlying205 rfl Try.sizeOf200 (by decide) h⟩
instance : Fld Try.prog 205 7 7 := ⟨fun h => a_field (sz := 1) Try.underlying205 rfl Try.sizeOf201 (by decide) h⟩
instance : Fld Try.prog 205 8 8 := ⟨fun h => a_field (sz := 1) Try.underlying205 rfl Try.sizeOf202 (by decide) h⟩
instance : Fld Try.prog 205 9 9 := ⟨fun h => a_field (sz := 1) Try.underlying205 rfl Try.sizeOf203 (by decide) h⟩
instance : Fld Try.prog 205 10 10 := ⟨fun h => a_field (sz := 1) Try.underlying205 rfl Try.sizeOf204 (by decide) h⟩
instance : Bld Try.prog 205 #[(0, 1), (1, 1), (2, 1), (3, 1), (4, 1), (5, 1), (6, 1), (7, 1), (8, 1), (9, 1), (10, 1)] #[.int .u64 0, .int .u64 0, .int .u32 0, .int .u8 0, .int .u8 0, .int .u8 0, .int .u8 0, .nilFunc, .pointer none, .int .i32 0, .int .i32 0] := ⟨Try.zeroValue205, ⟨_, Try.underlying205, fun w => by kernel_rfl⟩⟩
instance : TyS Try.prog 206 11 [.int .u64 0, .int .u64 0, .int .u32 0, .int .u8 0, .int .u8 0, .int .u8 0, .int .u8 0, .nilFunc, .pointer none, .int .i32 0, .int .i32 0] := ⟨Try.isAgg206, Try.sizeOf206, Try.zeroValue206⟩
instance : Fld Try.prog 206 0 0 := ⟨fun h => a_field (sz := 1) Try.underlying206 rfl Try.sizeOf12 (by decide) h⟩
instance : Fld Try.prog 206 1 1 := ⟨fun h => a_field (sz := 1) Try.underlying206 rfl Try.sizeOf12 (by decide) h⟩
instance : Fld Try.prog 206 2 2 := ⟨fun h => a_field (sz := 1) Try.underlying206 rfl Try.sizeOf198 (by decide) h⟩
instance : Fld Try.prog 206 3 3 := ⟨fun h => a_field (sz := 1) Try.underlying206 rfl Try.sizeOf199 (by decide) h⟩
instance : Fld Try.prog 206 4 4 := ⟨fun h => a_field (sz := 1) Try.underlying206 rfl Try.sizeOf5 (by decide) h⟩
instance : Fld Try.prog 206 5 5 := ⟨fun h => a_field (sz := 1) Try.underlying206 rfl Try.sizeOf5 (by decide) h⟩
instance : Fld Try.prog 206 6 6 := ⟨fun h => a_field (sz := 1) Try.underlying206 rfl Try.sizeOf200 (by decide) h⟩
instance : Fld Try.prog 206 7 7 := ⟨fun h => a_field (sz := 1) Try.underlying206 rfl Try.sizeOf201 (by decide) h⟩
instance : Fld Try.prog 206 8 8 := ⟨fun h => a_field (sz := 1) Try.underlying206 rfl Try.sizeOf202 (by decide) h⟩
instance : Fld Try.prog 206 9 9 := ⟨fun h => a_field (sz := 1) Try.underlying206 rfl Try.sizeOf203 (by decide) h⟩
instance : Fld Try.prog 206 10 10 := ⟨fun h => a_field (sz := 1) Try.underlying206 rfl Try.sizeOf204 (by decide) h⟩
instance : Bld Try.prog 206 #[(0, 1), (1, 1), (2, 1), (3, 1), (4, 1), (5, 1), (6, 1), (7, 1), (8, 1), (9, 1), (10, 1)] #[.int .u64 0, .int .u64 0, .int .u32 0, .int .u8 0, .int .u8 0, .int .u8 0, .int .u8 0, .nilFunc, .pointer none, .int .i32 0, .int .i32 0] := ⟨Try.zeroValue206, ⟨_, Try.underlying206, fun w => by kernel_rfl⟩⟩
instance : Und Try.prog 207 (.func #[9] #[96] false) := ⟨Try.underlying207⟩
instance : Ty1 Try.prog 207 (.nilFunc) := ⟨Try.isAgg207, Try.sizeOf207, Try.zeroValue207, rfl⟩
instance : Und Try.prog 208 (.func #[9, 9, 3] #[212] false) := ⟨Try.underlying208⟩
instance : Ty1 Try.prog 208 (.nilFunc) := ⟨Try.isAgg208, Try.sizeOf208, Try.zeroValue208, rfl⟩
instance : Und Try.prog 209 (.func #[9, 9] #[103] false) := ⟨Try.underlying209⟩
instance : Ty1 Try.prog 209 (.nilFunc) := ⟨Try.isAgg209, Try.sizeOf209, Try.zeroValue209, rfl⟩
instance : Und Try.prog 210 (.unsafePointer) := ⟨Try.underlying210⟩
instance : Ty1 Try.prog 210 (.pointer none) := ⟨Try.isAgg210, Try.sizeOf210, Try.zeroValue210, rfl⟩
instance : Und Try.prog 211 (.func #[213] #[] false) := ⟨Try.underlying211⟩
instance : Ty1 Try.prog 211 (.nilFunc) := ⟨Try.isAgg211, Try.sizeOf211, Try.zeroValue211, rfl⟩
instance : Und Try.prog 212 (.func #[213] #[] false) := ⟨Try.underlying212⟩
instance : Ty1 Try.prog 212 (.nilFunc) := ⟨Try.isAgg212, Try.sizeOf212, Try.zeroValue212, rfl⟩
instance : Und Try.prog 213 (.func #[9, 3] #[4] false) := ⟨Try.underlying213⟩
instance : Ty1 Try.prog 213 (.nilFunc) := ⟨Try.isAgg213, Try.sizeOf213, Try.zeroValue213, rfl⟩
end Go.Proofs.Ytffnabbchghokaa
