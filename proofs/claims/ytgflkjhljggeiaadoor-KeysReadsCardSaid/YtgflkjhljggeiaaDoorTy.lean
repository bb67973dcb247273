/-
  The seat's types: what is asked of each, as instances. Printed by a program (ty.py) out of Lean's own print.
-/
import Derived.Test.YtgflkjhljggeiaaDoorProg
import Derived.Test.YtgflkjhljggeiaaDoorEzSep
namespace Go.Proofs.YtgflkjhljggeiaaDoor
open Go Go.Ez
set_option linter.unusedVariables false

instance : Und Tryd.prog 1 (.func #[] #[] false) := ⟨Tryd.underlying1⟩
instance : Ty1 Tryd.prog 1 (.nilFunc) := ⟨Tryd.isAgg1, Tryd.sizeOf1, Tryd.zeroValue1, rfl⟩
instance : Und Tryd.prog 2 (.int .i64) := ⟨Tryd.underlying2⟩
instance : Ty1 Tryd.prog 2 (.int .i64 0) := ⟨Tryd.isAgg2, Tryd.sizeOf2, Tryd.zeroValue2, rfl⟩
instance : Und Tryd.prog 3 (.int .i64) := ⟨Tryd.underlying3⟩
instance : Ty1 Tryd.prog 3 (.int .i64 0) := ⟨Tryd.isAgg3, Tryd.sizeOf3, Tryd.zeroValue3, rfl⟩
instance : Und Tryd.prog 4 (.bool) := ⟨Tryd.underlying4⟩
instance : Ty1 Tryd.prog 4 (.bool false) := ⟨Tryd.isAgg4, Tryd.sizeOf4, Tryd.zeroValue4, rfl⟩
instance : Und Tryd.prog 5 (.int .u8) := ⟨Tryd.underlying5⟩
instance : Ty1 Tryd.prog 5 (.int .u8 0) := ⟨Tryd.isAgg5, Tryd.sizeOf5, Tryd.zeroValue5, rfl⟩
instance : Und Tryd.prog 6 (.int .u8) := ⟨Tryd.underlying6⟩
instance : Ty1 Tryd.prog 6 (.int .u8 0) := ⟨Tryd.isAgg6, Tryd.sizeOf6, Tryd.zeroValue6, rfl⟩
instance : TyS Tryd.prog 7 4 [.int .i64 0, .int .i64 0, .bool false, .int .u8 0] := ⟨Tryd.isAgg7, Tryd.sizeOf7, Tryd.zeroValue7⟩
instance : Fld Tryd.prog 7 0 0 := ⟨fun h => a_field (sz := 1) Tryd.underlying7 rfl Tryd.sizeOf2 (by decide) h⟩
instance : Fld Tryd.prog 7 1 1 := ⟨fun h => a_field (sz := 1) Tryd.underlying7 rfl Tryd.sizeOf3 (by decide) h⟩
instance : Fld Tryd.prog 7 2 2 := ⟨fun h => a_field (sz := 1) Tryd.underlying7 rfl Tryd.sizeOf4 (by decide) h⟩
instance : Fld Tryd.prog 7 3 3 := ⟨fun h => a_field (sz := 1) Tryd.underlying7 rfl Tryd.sizeOf6 (by decide) h⟩
instance : Bld Tryd.prog 7 #[(0, 1), (1, 1), (2, 1), (3, 1)] #[.int .i64 0, .int .i64 0, .bool false, .int .u8 0] := ⟨Tryd.zeroValue7, ⟨_, Tryd.underlying7, fun w => by kernel_rfl⟩⟩
instance : TyS Tryd.prog 8 4 [.int .i64 0, .int .i64 0, .bool false, .int .u8 0] := ⟨Tryd.isAgg8, Tryd.sizeOf8, Tryd.zeroValue8⟩
instance : Fld Tryd.prog 8 0 0 := ⟨fun h => a_field (sz := 1) Tryd.underlying8 rfl Tryd.sizeOf2 (by decide) h⟩
instance : Fld Tryd.prog 8 1 1 := ⟨fun h => a_field (sz := 1) Tryd.underlying8 rfl Tryd.sizeOf3 (by decide) h⟩
instance : Fld Tryd.prog 8 2 2 := ⟨fun h => a_field (sz := 1) Tryd.underlying8 rfl Tryd.sizeOf4 (by decide) h⟩
instance : Fld Tryd.prog 8 3 3 := ⟨fun h => a_field (sz := 1) Tryd.underlying8 rfl Tryd.sizeOf6 (by decide) h⟩
instance : Bld Tryd.prog 8 #[(0, 1), (1, 1), (2, 1), (3, 1)] #[.int .i64 0, .int .i64 0, .bool false, .int .u8 0] := ⟨Tryd.zeroValue8, ⟨_, Tryd.underlying8, fun w => by kernel_rfl⟩⟩
instance : Und Tryd.prog 9 (.string) := ⟨Tryd.underlying9⟩
instance : Ty1 Tryd.prog 9 (.string ⟨#[]⟩) := ⟨Tryd.isAgg9, Tryd.sizeOf9, Tryd.zeroValue9, rfl⟩
instance : Und Tryd.prog 10 (.string) := ⟨Tryd.underlying10⟩
instance : Ty1 Tryd.prog 10 (.string ⟨#[]⟩) := ⟨Tryd.isAgg10, Tryd.sizeOf10, Tryd.zeroValue10, rfl⟩
instance : Und Tryd.prog 11 (.string) := ⟨Tryd.underlying11⟩
instance : Ty1 Tryd.prog 11 (.string ⟨#[]⟩) := ⟨Tryd.isAgg11, Tryd.sizeOf11, Tryd.zeroValue11, rfl⟩
instance : Und Tryd.prog 12 (.int .u64) := ⟨Tryd.underlying12⟩
instance : Ty1 Tryd.prog 12 (.int .u64 0) := ⟨Tryd.isAgg12, Tryd.sizeOf12, Tryd.zeroValue12, rfl⟩
instance : TyS Tryd.prog 13 2 [.string ⟨#[]⟩, .int .u64 0] := ⟨Tryd.isAgg13, Tryd.sizeOf13, Tryd.zeroValue13⟩
instance : Fld Tryd.prog 13 0 0 := ⟨fun h => a_field (sz := 1) Tryd.underlying13 rfl Tryd.sizeOf9 (by decide) h⟩
instance : Fld Tryd.prog 13 1 1 := ⟨fun h => a_field (sz := 1) Tryd.underlying13 rfl Tryd.sizeOf12 (by decide) h⟩
instance : Bld Tryd.prog 13 #[(0, 1), (1, 1)] #[.string ⟨#[]⟩, .int .u64 0] := ⟨Tryd.zeroValue13, ⟨_, Tryd.underlying13, fun w => by kernel_rfl⟩⟩
instance : TyS Tryd.prog 14 2 [.string ⟨#[]⟩, .int .u64 0] := ⟨Tryd.isAgg14, Tryd.sizeOf14, Tryd.zeroValue14⟩
instance : Fld Tryd.prog 14 0 0 := ⟨fun h => a_field (sz := 1) Tryd.underlying14 rfl Tryd.sizeOf9 (by decide) h⟩
instance : Fld Tryd.prog 14 1 1 := ⟨fun h => a_field (sz := 1) Tryd.underlying14 rfl Tryd.sizeOf12 (by decide) h⟩
instance : Bld Tryd.prog 14 #[(0, 1), (1, 1)] #[.string ⟨#[]⟩, .int .u64 0] := ⟨Tryd.zeroValue14, ⟨_, Tryd.underlying14, fun w => by kernel_rfl⟩⟩
instance : Und Tryd.prog 15 (.pointer 125) := ⟨Tryd.underlying15⟩
instance : Ty1 Tryd.prog 15 (.pointer none) := ⟨Tryd.isAgg15, Tryd.sizeOf15, Tryd.zeroValue15, rfl⟩
instance : Und Tryd.prog 16 (.pointer 128) := ⟨Tryd.underlying16⟩
instance : Ty1 Tryd.prog 16 (.pointer none) := ⟨Tryd.isAgg16, Tryd.sizeOf16, Tryd.zeroValue16, rfl⟩
instance : Und Tryd.prog 17 (.pointer 135) := ⟨Tryd.underlying17⟩
instance : Ty1 Tryd.prog 17 (.pointer none) := ⟨Tryd.isAgg17, Tryd.sizeOf17, Tryd.zeroValue17, rfl⟩
instance : TyS Tryd.prog 18 1 [.pointer none] := ⟨Tryd.isAgg18, Tryd.sizeOf18, Tryd.zeroValue18⟩
instance : Fld Tryd.prog 18 0 0 := ⟨fun h => a_field (sz := 1) Tryd.underlying18 rfl Tryd.sizeOf17 (by decide) h⟩
instance : Bld Tryd.prog 18 #[(0, 1)] #[.pointer none] := ⟨Tryd.zeroValue18, ⟨_, Tryd.underlying18, fun w => by kernel_rfl⟩⟩
instance : TyS Tryd.prog 19 1 [.pointer none] := ⟨Tryd.isAgg19, Tryd.sizeOf19, Tryd.zeroValue19⟩
instance : Fld Tryd.prog 19 0 0 := ⟨fun h => a_field (sz := 1) Tryd.underlying19 rfl Tryd.sizeOf17 (by decide) h⟩
instance : Bld Tryd.prog 19 #[(0, 1)] #[.pointer none] := ⟨Tryd.zeroValue19, ⟨_, Tryd.underlying19, fun w => by kernel_rfl⟩⟩
instance : Und Tryd.prog 20 (.interface #[]) := ⟨Tryd.underlying20⟩
instance : Ty1 Tryd.prog 20 (.nilIface) := ⟨Tryd.isAgg20, Tryd.sizeOf20, Tryd.zeroValue20, rfl⟩
instance : Und Tryd.prog 21 (.int .i32) := ⟨Tryd.underlying21⟩
instance : Ty1 Tryd.prog 21 (.int .i32 0) := ⟨Tryd.isAgg21, Tryd.sizeOf21, Tryd.zeroValue21, rfl⟩
instance : TyS Tryd.prog 22 6 [.int .i64 0, .string ⟨#[]⟩, .string ⟨#[]⟩, .string ⟨#[]⟩, .string ⟨#[]⟩, .int .i64 0] := ⟨Tryd.isAgg22, Tryd.sizeOf22, Tryd.zeroValue22⟩
instance : Fld Tryd.prog 22 0 0 := ⟨fun h => a_field (sz := 1) Tryd.underlying22 rfl Tryd.sizeOf3 (by decide) h⟩
instance : Fld Tryd.prog 22 1 1 := ⟨fun h => a_field (sz := 1) Tryd.underlying22 rfl Tryd.sizeOf9 (by decide) h⟩
instance : Fld Tryd.prog 22 2 2 := ⟨fun h => a_field (sz := 1) Tryd.underlying22 rfl Tryd.sizeOf9 (by decide) h⟩
instance : Fld Tryd.prog 22 3 3 := ⟨fun h => a_field (sz := 1) Tryd.underlying22 rfl Tryd.sizeOf9 (by decide) h⟩
instance : Fld Tryd.prog 22 4 4 := ⟨fun h => a_field (sz := 1) Tryd.underlying22 rfl Tryd.sizeOf9 (by decide) h⟩
instance : Fld Tryd.prog 22 5 5 := ⟨fun h => a_field (sz := 1) Tryd.underlying22 rfl Tryd.sizeOf3 (by decide) h⟩
instance : Bld Tryd.prog 22 #[(0, 1), (1, 1), (2, 1), (3, 1), (4, 1), (5, 1)] #[.int .i64 0, .string ⟨#[]⟩, .string ⟨#[]⟩, .string ⟨#[]⟩, .string ⟨#[]⟩, .int .i64 0] := ⟨Tryd.zeroValue22, ⟨_, Tryd.underlying22, fun w => by kernel_rfl⟩⟩
instance : TyS Tryd.prog 23 6 [.int .i64 0, .string ⟨#[]⟩, .string ⟨#[]⟩, .string ⟨#[]⟩, .string ⟨#[]⟩, .int .i64 0] := ⟨Tryd.isAgg23, Tryd.sizeOf23, Tryd.zeroValue23⟩
instance : Fld Tryd.prog 23 0 0 := ⟨fun h => a_field (sz := 1) Tryd.underlying23 rfl Tryd.sizeOf3 (by decide) h⟩
instance : Fld Tryd.prog 23 1 1 := ⟨fun h => a_field (sz := 1) Tryd.underlying23 rfl Tryd.sizeOf9 (by decide) h⟩
instance : Fld Tryd.prog 23 2 2 := ⟨fun h => a_field (sz := 1) Tryd.underlying23 rfl Tryd.sizeOf9 (by decide) h⟩
instance : Fld Tryd.prog 23 3 3 := ⟨fun h => a_field (sz := 1) Tryd.underlying23 rfl Tryd.sizeOf9 (by decide) h⟩
instance : Fld Tryd.prog 23 4 4 := ⟨fun h => a_field (sz := 1) Tryd.underlying23 rfl Tryd.sizeOf9 (by decide) h⟩
instance : Fld Tryd.prog 23 5 5 := ⟨fun h => a_field (sz := 1) Tryd.underlying23 rfl Tryd.sizeOf3 (by decide) h⟩
instance : Bld Tryd.prog 23 #[(0, 1), (1, 1), (2, 1), (3, 1), (4, 1), (5, 1)] #[.int .i64 0, .string ⟨#[]⟩, .string ⟨#[]⟩, .string ⟨#[]⟩, .string ⟨#[]⟩, .int .i64 0] := ⟨Tryd.zeroValue23, ⟨_, Tryd.underlying23, fun w => by kernel_rfl⟩⟩
instance : Und Tryd.prog 24 (.func #[] #[4] false) := ⟨Tryd.underlying24⟩
instance : Ty1 Tryd.prog 24 (.nilFunc) := ⟨Tryd.isAgg24, Tryd.sizeOf24, Tryd.zeroValue24, rfl⟩
instance : Und Tryd.prog 25 (.func #[23] #[9] false) := ⟨Tryd.underlying25⟩
instance : Ty1 Tryd.prog 25 (.nilFunc) := ⟨Tryd.isAgg25, Tryd.sizeOf25, Tryd.zeroValue25, rfl⟩
instance : Und Tryd.prog 27 (.func #[9] #[23, 4] false) := ⟨Tryd.underlying27⟩
instance : Ty1 Tryd.prog 27 (.nilFunc) := ⟨Tryd.isAgg27, Tryd.sizeOf27, Tryd.zeroValue27, rfl⟩
instance : Und Tryd.prog 28 (.func #[9] #[9] false) := ⟨Tryd.underlying28⟩
instance : Ty1 Tryd.prog 28 (.nilFunc) := ⟨Tryd.isAgg28, Tryd.sizeOf28, Tryd.zeroValue28, rfl⟩
instance : Und Tryd.prog 29 (.func #[9, 3] #[9] false) := ⟨Tryd.underlying29⟩
instance : Ty1 Tryd.prog 29 (.nilFunc) := ⟨Tryd.isAgg29, Tryd.sizeOf29, Tryd.zeroValue29, rfl⟩
instance : Und Tryd.prog 30 (.func #[23, 23] #[4] false) := ⟨Tryd.underlying30⟩
instance : Ty1 Tryd.prog 30 (.nilFunc) := ⟨Tryd.isAgg30, Tryd.sizeOf30, Tryd.zeroValue30, rfl⟩
instance : TyS Tryd.prog 31 6 [.int .i64 0, .string ⟨#[]⟩, .string ⟨#[]⟩, .string ⟨#[]⟩, .string ⟨#[]⟩, .int .i64 0] := ⟨Tryd.isAgg31, Tryd.sizeOf31, Tryd.zeroValue31⟩
instance : Fld Tryd.prog 31 0 0 := ⟨fun h => a_field (sz := 1) Tryd.underlying31 rfl Tryd.sizeOf3 (by decide) h⟩
instance : Fld Tryd.prog 31 1 1 := ⟨fun h => a_field (sz := 1) Tryd.underlying31 rfl Tryd.sizeOf9 (by decide) h⟩
instance : Fld Tryd.prog 31 2 2 := ⟨fun h => a_field (sz := 1) Tryd.underlying31 rfl Tryd.sizeOf9 (by decide) h⟩
instance : Fld Tryd.prog 31 3 3 := ⟨fun h => a_field (sz := 1) Tryd.underlying31 rfl Tryd.sizeOf9 (by decide) h⟩
instance : Fld Tryd.prog 31 4 4 := ⟨fun h => a_field (sz := 1) Tryd.underlying31 rfl Tryd.sizeOf9 (by decide) h⟩
instance : Fld Tryd.prog 31 5 5 := ⟨fun h => a_field (sz := 1) Tryd.underlying31 rfl Tryd.sizeOf3 (by decide) h⟩
instance : Bld Tryd.prog 31 #[(0, 1), (1, 1), (2, 1), (3, 1), (4, 1), (5, 1)] #[.int .i64 0, .string ⟨#[]⟩, .string ⟨#[]⟩, .string ⟨#[]⟩, .string ⟨#[]⟩, .int .i64 0] := ⟨Tryd.zeroValue31, ⟨_, Tryd.underlying31, fun w => by kernel_rfl⟩⟩
instance : Und Tryd.prog 33 (.func #[9] #[31, 4] false) := ⟨Tryd.underlying33⟩
instance : Ty1 Tryd.prog 33 (.nilFunc) := ⟨Tryd.isAgg33, Tryd.sizeOf33, Tryd.zeroValue33, rfl⟩
instance : Und Tryd.prog 34 (.func #[31] #[9] false) := ⟨Tryd.underlying34⟩
instance : Ty1 Tryd.prog 34 (.nilFunc) := ⟨Tryd.isAgg34, Tryd.sizeOf34, Tryd.zeroValue34, rfl⟩
instance : Und Tryd.prog 35 (.func #[23] #[31] false) := ⟨Tryd.underlying35⟩
instance : Ty1 Tryd.prog 35 (.nilFunc) := ⟨Tryd.isAgg35, Tryd.sizeOf35, Tryd.zeroValue35, rfl⟩
instance : Und Tryd.prog 36 (.func #[9] #[4] false) := ⟨Tryd.underlying36⟩
instance : Ty1 Tryd.prog 36 (.nilFunc) := ⟨Tryd.isAgg36, Tryd.sizeOf36, Tryd.zeroValue36, rfl⟩
instance : Und Tryd.prog 37 (.func #[3, 9, 9] #[9] false) := ⟨Tryd.underlying37⟩
instance : Ty1 Tryd.prog 37 (.nilFunc) := ⟨Tryd.isAgg37, Tryd.sizeOf37, Tryd.zeroValue37, rfl⟩
instance : Und Tryd.prog 38 (.func #[9, 9] #[9] false) := ⟨Tryd.underlying38⟩
instance : Ty1 Tryd.prog 38 (.nilFunc) := ⟨Tryd.isAgg38, Tryd.sizeOf38, Tryd.zeroValue38, rfl⟩
instance : Und Tryd.prog 39 (.func #[23, 9] #[4] false) := ⟨Tryd.underlying39⟩
instance : Ty1 Tryd.prog 39 (.nilFunc) := ⟨Tryd.isAgg39, Tryd.sizeOf39, Tryd.zeroValue39, rfl⟩
instance : Und Tryd.prog 40 (.func #[9, 9, 3] #[9] false) := ⟨Tryd.underlying40⟩
instance : Ty1 Tryd.prog 40 (.nilFunc) := ⟨Tryd.isAgg40, Tryd.sizeOf40, Tryd.zeroValue40, rfl⟩
instance : Und Tryd.prog 41 (.slice 9) := ⟨Tryd.underlying41⟩
instance : Ty1 Tryd.prog 41 (.slice none 0 0) := ⟨Tryd.isAgg41, Tryd.sizeOf41, Tryd.zeroValue41, rfl⟩
instance : SlT Tryd.prog 41 9 1 16 (.string ⟨#[]⟩) := ⟨⟨Tryd.underlying41, by kernel_rfl, rfl, by decide⟩⟩
instance : Und Tryd.prog 42 (.func #[23, 9, 3] #[4] false) := ⟨Tryd.underlying42⟩
instance : Ty1 Tryd.prog 42 (.nilFunc) := ⟨Tryd.isAgg42, Tryd.sizeOf42, Tryd.zeroValue42, rfl⟩
instance : Und Tryd.prog 43 (.func #[9] #[23] false) := ⟨Tryd.underlying43⟩
instance : Ty1 Tryd.prog 43 (.nilFunc) := ⟨Tryd.isAgg43, Tryd.sizeOf43, Tryd.zeroValue43, rfl⟩
instance : Und Tryd.prog 44 (.func #[] #[9] false) := ⟨Tryd.underlying44⟩
instance : Ty1 Tryd.prog 44 (.nilFunc) := ⟨Tryd.isAgg44, Tryd.sizeOf44, Tryd.zeroValue44, rfl⟩
instance : Und Tryd.prog 45 (.func #[9, 41] #[9] true) := ⟨Tryd.underlying45⟩
instance : Ty1 Tryd.prog 45 (.nilFunc) := ⟨Tryd.isAgg45, Tryd.sizeOf45, Tryd.zeroValue45, rfl⟩
instance : Und Tryd.prog 46 (.func #[9, 5] #[41] false) := ⟨Tryd.underlying46⟩
instance : Ty1 Tryd.prog 46 (.nilFunc) := ⟨Tryd.isAgg46, Tryd.sizeOf46, Tryd.zeroValue46, rfl⟩
instance : Und Tryd.prog 47 (.func #[9] #[3] false) := ⟨Tryd.underlying47⟩
instance : Ty1 Tryd.prog 47 (.nilFunc) := ⟨Tryd.isAgg47, Tryd.sizeOf47, Tryd.zeroValue47, rfl⟩
instance : Und Tryd.prog 48 (.slice 5) := ⟨Tryd.underlying48⟩
instance : Ty1 Tryd.prog 48 (.slice none 0 0) := ⟨Tryd.isAgg48, Tryd.sizeOf48, Tryd.zeroValue48, rfl⟩
instance : SlT Tryd.prog 48 5 1 1 (.int .u8 0) := ⟨⟨Tryd.underlying48, by kernel_rfl, rfl, by decide⟩⟩
instance : Und Tryd.prog 50 (.func #[9] #[48, 4] false) := ⟨Tryd.underlying50⟩
instance : Ty1 Tryd.prog 50 (.nilFunc) := ⟨Tryd.isAgg50, Tryd.sizeOf50, Tryd.zeroValue50, rfl⟩
instance : Und Tryd.prog 52 (.func #[3, 3] #[9, 4] false) := ⟨Tryd.underlying52⟩
instance : Ty1 Tryd.prog 52 (.nilFunc) := ⟨Tryd.isAgg52, Tryd.sizeOf52, Tryd.zeroValue52, rfl⟩
instance : Und Tryd.prog 53 (.func #[48] #[9] false) := ⟨Tryd.underlying53⟩
instance : Ty1 Tryd.prog 53 (.nilFunc) := ⟨Tryd.isAgg53, Tryd.sizeOf53, Tryd.zeroValue53, rfl⟩
instance : Und Tryd.prog 54 (.func #[9, 9] #[41] false) := ⟨Tryd.underlying54⟩
instance : Ty1 Tryd.prog 54 (.nilFunc) := ⟨Tryd.isAgg54, Tryd.sizeOf54, Tryd.zeroValue54, rfl⟩
instance : Und Tryd.prog 55 (.interface #[("Error", 44)]) := ⟨Tryd.underlying55⟩
instance : Ty1 Tryd.prog 55 (.nilIface) := ⟨Tryd.isAgg55, Tryd.sizeOf55, Tryd.zeroValue55, rfl⟩
instance : Und Tryd.prog 56 (.interface #[("Error", 44)]) := ⟨Tryd.underlying56⟩
instance : Ty1 Tryd.prog 56 (.nilIface) := ⟨Tryd.isAgg56, Tryd.sizeOf56, Tryd.zeroValue56, rfl⟩
instance : Und Tryd.prog 58 (.func #[9] #[3, 56] false) := ⟨Tryd.underlying58⟩
instance : Ty1 Tryd.prog 58 (.nilFunc) := ⟨Tryd.isAgg58, Tryd.sizeOf58, Tryd.zeroValue58, rfl⟩
instance : Und Tryd.prog 59 (.func #[41, 9] #[9] false) := ⟨Tryd.underlying59⟩
instance : Ty1 Tryd.prog 59 (.nilFunc) := ⟨Tryd.isAgg59, Tryd.sizeOf59, Tryd.zeroValue59, rfl⟩
instance : Und Tryd.prog 60 (.func #[5] #[3] false) := ⟨Tryd.underlying60⟩
instance : Ty1 Tryd.prog 60 (.nilFunc) := ⟨Tryd.isAgg60, Tryd.sizeOf60, Tryd.zeroValue60, rfl⟩
instance : Und Tryd.prog 61 (.int .u64) := ⟨Tryd.underlying61⟩
instance : Ty1 Tryd.prog 61 (.int .u64 0) := ⟨Tryd.isAgg61, Tryd.sizeOf61, Tryd.zeroValue61, rfl⟩
instance : Und Tryd.prog 62 (.pointer 64) := ⟨Tryd.underlying62⟩
instance : Ty1 Tryd.prog 62 (.pointer none) := ⟨Tryd.isAgg62, Tryd.sizeOf62, Tryd.zeroValue62, rfl⟩
instance : TyS Tryd.prog 63 2 [.pointer none, .slice none 0 0] := ⟨Tryd.isAgg63, Tryd.sizeOf63, Tryd.zeroValue63⟩
instance : Fld Tryd.prog 63 0 0 := ⟨fun h => a_field (sz := 1) Tryd.underlying63 rfl Tryd.sizeOf62 (by decide) h⟩
instance : Fld Tryd.prog 63 1 1 := ⟨fun h => a_field (sz := 1) Tryd.underlying63 rfl Tryd.sizeOf48 (by decide) h⟩
instance : Bld Tryd.prog 63 #[(0, 1), (1, 1)] #[.pointer none, .slice none 0 0] := ⟨Tryd.zeroValue63, ⟨_, Tryd.underlying63, fun w => by kernel_rfl⟩⟩
instance : TyS Tryd.prog 64 2 [.pointer none, .slice none 0 0] := ⟨Tryd.isAgg64, Tryd.sizeOf64, Tryd.zeroValue64⟩
instance : Fld Tryd.prog 64 0 0 := ⟨fun h => a_field (sz := 1) Tryd.underlying64 rfl Tryd.sizeOf62 (by decide) h⟩
instance : Fld Tryd.prog 64 1 1 := ⟨fun h => a_field (sz := 1) Tryd.underlying64 rfl Tryd.sizeOf48 (by decide) h⟩
instance : Bld Tryd.prog 64 #[(0, 1), (1, 1)] #[.pointer none, .slice none 0 0] := ⟨Tryd.zeroValue64, ⟨_, Tryd.underlying64, fun w => by kernel_rfl⟩⟩
instance : Und Tryd.prog 65 (.func #[5] #[56] false) := ⟨Tryd.underlying65⟩
instance : Ty1 Tryd.prog 65 (.nilFunc) := ⟨Tryd.isAgg65, Tryd.sizeOf65, Tryd.zeroValue65, rfl⟩
instance : Und Tryd.prog 66 (.func #[9, 9, 3, 3] #[41] false) := ⟨Tryd.underlying66⟩
instance : Ty1 Tryd.prog 66 (.nilFunc) := ⟨Tryd.isAgg66, Tryd.sizeOf66, Tryd.zeroValue66, rfl⟩
instance : Und Tryd.prog 67 (.func #[9, 9, 3, 3, 56] #[56] false) := ⟨Tryd.underlying67⟩
instance : Ty1 Tryd.prog 67 (.nilFunc) := ⟨Tryd.isAgg67, Tryd.sizeOf67, Tryd.zeroValue67, rfl⟩
instance : Und Tryd.prog 68 (.func #[9, 5] #[3] false) := ⟨Tryd.underlying68⟩
instance : Ty1 Tryd.prog 68 (.nilFunc) := ⟨Tryd.isAgg68, Tryd.sizeOf68, Tryd.zeroValue68, rfl⟩
instance : Und Tryd.prog 69 (.func #[3] #[] false) := ⟨Tryd.underlying69⟩
instance : Ty1 Tryd.prog 69 (.nilFunc) := ⟨Tryd.isAgg69, Tryd.sizeOf69, Tryd.zeroValue69, rfl⟩
instance : Und Tryd.prog 70 (.func #[3] #[9] false) := ⟨Tryd.underlying70⟩
instance : Ty1 Tryd.prog 70 (.nilFunc) := ⟨Tryd.isAgg70, Tryd.sizeOf70, Tryd.zeroValue70, rfl⟩
instance : Und Tryd.prog 71 (.pointer 5) := ⟨Tryd.underlying71⟩
instance : Ty1 Tryd.prog 71 (.pointer none) := ⟨Tryd.isAgg71, Tryd.sizeOf71, Tryd.zeroValue71, rfl⟩
instance : Und Tryd.prog 72 (.func #[9, 3] #[41] false) := ⟨Tryd.underlying72⟩
instance : Ty1 Tryd.prog 72 (.nilFunc) := ⟨Tryd.isAgg72, Tryd.sizeOf72, Tryd.zeroValue72, rfl⟩
instance : Und Tryd.prog 73 (.func #[9, 9] #[3] false) := ⟨Tryd.underlying73⟩
instance : Ty1 Tryd.prog 73 (.nilFunc) := ⟨Tryd.isAgg73, Tryd.sizeOf73, Tryd.zeroValue73, rfl⟩
instance : Und Tryd.prog 74 (.int .i64) := ⟨Tryd.underlying74⟩
instance : Ty1 Tryd.prog 74 (.int .i64 0) := ⟨Tryd.isAgg74, Tryd.sizeOf74, Tryd.zeroValue74, rfl⟩
instance : Und Tryd.prog 76 (.func #[9, 3, 3] #[2, 56] false) := ⟨Tryd.underlying76⟩
instance : Ty1 Tryd.prog 76 (.nilFunc) := ⟨Tryd.isAgg76, Tryd.sizeOf76, Tryd.zeroValue76, rfl⟩
instance : Und Tryd.prog 77 (.pointer 92) := ⟨Tryd.underlying77⟩
instance : Ty1 Tryd.prog 77 (.pointer none) := ⟨Tryd.isAgg77, Tryd.sizeOf77, Tryd.zeroValue77, rfl⟩
instance : Und Tryd.prog 78 (.func #[9, 9] #[77] false) := ⟨Tryd.underlying78⟩
instance : Ty1 Tryd.prog 78 (.nilFunc) := ⟨Tryd.isAgg78, Tryd.sizeOf78, Tryd.zeroValue78, rfl⟩
instance : Und Tryd.prog 79 (.func #[9, 9, 3] #[77] false) := ⟨Tryd.underlying79⟩
instance : Ty1 Tryd.prog 79 (.nilFunc) := ⟨Tryd.isAgg79, Tryd.sizeOf79, Tryd.zeroValue79, rfl⟩
instance : Und Tryd.prog 81 (.func #[61, 61] #[61, 61] false) := ⟨Tryd.underlying81⟩
instance : Ty1 Tryd.prog 81 (.nilFunc) := ⟨Tryd.isAgg81, Tryd.sizeOf81, Tryd.zeroValue81, rfl⟩
instance : Und Tryd.prog 82 (.func #[9, 9] #[4] false) := ⟨Tryd.underlying82⟩
instance : Ty1 Tryd.prog 82 (.nilFunc) := ⟨Tryd.isAgg82, Tryd.sizeOf82, Tryd.zeroValue82, rfl⟩
instance : Und Tryd.prog 83 (.func #[] #[3] false) := ⟨Tryd.underlying83⟩
instance : Ty1 Tryd.prog 83 (.nilFunc) := ⟨Tryd.isAgg83, Tryd.sizeOf83, Tryd.zeroValue83, rfl⟩
instance : Und Tryd.prog 84 (.unsafePointer) := ⟨Tryd.underlying84⟩
instance : Ty1 Tryd.prog 84 (.pointer none) := ⟨Tryd.isAgg84, Tryd.sizeOf84, Tryd.zeroValue84, rfl⟩
instance : Und Tryd.prog 85 (.func #[84] #[84] false) := ⟨Tryd.underlying85⟩
instance : Ty1 Tryd.prog 85 (.nilFunc) := ⟨Tryd.isAgg85, Tryd.sizeOf85, Tryd.zeroValue85, rfl⟩
instance : Und Tryd.prog 87 (.func #[9] #[21, 3] false) := ⟨Tryd.underlying87⟩
instance : Ty1 Tryd.prog 87 (.nilFunc) := ⟨Tryd.isAgg87, Tryd.sizeOf87, Tryd.zeroValue87, rfl⟩
instance : Und Tryd.prog 88 (.int .u64) := ⟨Tryd.underlying88⟩
instance : Ty1 Tryd.prog 88 (.int .u64 0) := ⟨Tryd.isAgg88, Tryd.sizeOf88, Tryd.zeroValue88, rfl⟩
instance : Und Tryd.prog 90 (.func #[9, 3, 3] #[88, 56] false) := ⟨Tryd.underlying90⟩
instance : Ty1 Tryd.prog 90 (.nilFunc) := ⟨Tryd.isAgg90, Tryd.sizeOf90, Tryd.zeroValue90, rfl⟩
instance : TyS Tryd.prog 91 3 [.string ⟨#[]⟩, .string ⟨#[]⟩, .nilIface] := ⟨Tryd.isAgg91, Tryd.sizeOf91, Tryd.zeroValue91⟩
instance : Fld Tryd.prog 91 0 0 := ⟨fun h => a_field (sz := 1) Tryd.underlying91 rfl Tryd.sizeOf9 (by decide) h⟩
instance : Fld Tryd.prog 91 1 1 := ⟨fun h => a_field (sz := 1) Tryd.underlying91 rfl Tryd.sizeOf9 (by decide) h⟩
instance : Fld Tryd.prog 91 2 2 := ⟨fun h => a_field (sz := 1) Tryd.underlying91 rfl Tryd.sizeOf56 (by decide) h⟩
instance : Bld Tryd.prog 91 #[(0, 1), (1, 1), (2, 1)] #[.string ⟨#[]⟩, .string ⟨#[]⟩, .nilIface] := ⟨Tryd.zeroValue91, ⟨_, Tryd.underlying91, fun w => by kernel_rfl⟩⟩
instance : TyS Tryd.prog 92 3 [.string ⟨#[]⟩, .string ⟨#[]⟩, .nilIface] := ⟨Tryd.isAgg92, Tryd.sizeOf92, Tryd.zeroValue92⟩
instance : Fld Tryd.prog 92 0 0 := ⟨fun h => a_field (sz := 1) Tryd.underlying92 rfl Tryd.sizeOf9 (by decide) h⟩
instance : Fld Tryd.prog 92 1 1 := ⟨fun h => a_field (sz := 1) Tryd.underlying92 rfl Tryd.sizeOf9 (by decide) h⟩
instance : Fld Tryd.prog 92 2 2 := ⟨fun h => a_field (sz := 1) Tryd.underlying92 rfl Tryd.sizeOf56 (by decide) h⟩
instance : Bld Tryd.prog 92 #[(0, 1), (1, 1), (2, 1)] #[.string ⟨#[]⟩, .string ⟨#[]⟩, .nilIface] := ⟨Tryd.zeroValue92, ⟨_, Tryd.underlying92, fun w => by kernel_rfl⟩⟩
instance : Und Tryd.prog 93 (.func #[9] #[56] false) := ⟨Tryd.underlying93⟩
instance : Ty1 Tryd.prog 93 (.nilFunc) := ⟨Tryd.isAgg93, Tryd.sizeOf93, Tryd.zeroValue93, rfl⟩
instance : Und Tryd.prog 94 (.func #[3] #[48] false) := ⟨Tryd.underlying94⟩
instance : Ty1 Tryd.prog 94 (.nilFunc) := ⟨Tryd.isAgg94, Tryd.sizeOf94, Tryd.zeroValue94, rfl⟩
instance : Und Tryd.prog 95 (.func #[2, 3] #[9] false) := ⟨Tryd.underlying95⟩
instance : Ty1 Tryd.prog 95 (.nilFunc) := ⟨Tryd.isAgg95, Tryd.sizeOf95, Tryd.zeroValue95, rfl⟩
instance : Und Tryd.prog 96 (.int .u32) := ⟨Tryd.underlying96⟩
instance : Ty1 Tryd.prog 96 (.int .u32 0) := ⟨Tryd.isAgg96, Tryd.sizeOf96, Tryd.zeroValue96, rfl⟩
instance : Und Tryd.prog 98 (.func #[96, 96] #[96, 96] false) := ⟨Tryd.underlying98⟩
instance : Ty1 Tryd.prog 98 (.nilFunc) := ⟨Tryd.isAgg98, Tryd.sizeOf98, Tryd.zeroValue98, rfl⟩
instance : Und Tryd.prog 100 (.func #[88, 88] #[88, 88] false) := ⟨Tryd.underlying100⟩
instance : Ty1 Tryd.prog 100 (.nilFunc) := ⟨Tryd.isAgg100, Tryd.sizeOf100, Tryd.zeroValue100, rfl⟩
instance : Und Tryd.prog 101 (.func #[3] #[3] false) := ⟨Tryd.underlying101⟩
instance : Ty1 Tryd.prog 101 (.nilFunc) := ⟨Tryd.isAgg101, Tryd.sizeOf101, Tryd.zeroValue101, rfl⟩
instance : Und Tryd.prog 102 (.func #[5] #[5] false) := ⟨Tryd.underlying102⟩
instance : Ty1 Tryd.prog 102 (.nilFunc) := ⟨Tryd.isAgg102, Tryd.sizeOf102, Tryd.zeroValue102, rfl⟩
instance : Und Tryd.prog 103 (.pointer 105) := ⟨Tryd.underlying103⟩
instance : Ty1 Tryd.prog 103 (.pointer none) := ⟨Tryd.isAgg103, Tryd.sizeOf103, Tryd.zeroValue103, rfl⟩
instance : TyS Tryd.prog 104 1 [.string ⟨#[]⟩] := ⟨Tryd.isAgg104, Tryd.sizeOf104, Tryd.zeroValue104⟩
instance : TyS Tryd.prog 105 1 [.string ⟨#[]⟩] := ⟨Tryd.isAgg105, Tryd.sizeOf105, Tryd.zeroValue105⟩
instance : Und Tryd.prog 107 (.func #[88] #[3] false) := ⟨Tryd.underlying107⟩
instance : Ty1 Tryd.prog 107 (.nilFunc) := ⟨Tryd.isAgg107, Tryd.sizeOf107, Tryd.zeroValue107, rfl⟩
instance : Und Tryd.prog 108 (.func #[48, 88] #[] false) := ⟨Tryd.underlying108⟩
instance : Ty1 Tryd.prog 108 (.nilFunc) := ⟨Tryd.isAgg108, Tryd.sizeOf108, Tryd.zeroValue108, rfl⟩
instance : Und Tryd.prog 110 (.func #[48, 88, 3, 4, 4] #[48, 9] false) := ⟨Tryd.underlying110⟩
instance : Ty1 Tryd.prog 110 (.nilFunc) := ⟨Tryd.isAgg110, Tryd.sizeOf110, Tryd.zeroValue110, rfl⟩
instance : TyS Tryd.prog 112 2 [.int .u8 0, .int .u8 0] := ⟨Tryd.isAgg112, Tryd.sizeOf112, Tryd.zeroValue112⟩
instance : Fld Tryd.prog 112 0 0 := ⟨fun h => a_field (sz := 1) Tryd.underlying112 rfl Tryd.sizeOf5 (by decide) h⟩
instance : Fld Tryd.prog 112 1 1 := ⟨fun h => a_field (sz := 1) Tryd.underlying112 rfl Tryd.sizeOf5 (by decide) h⟩
instance : Bld Tryd.prog 112 #[(0, 1), (1, 1)] #[.int .u8 0, .int .u8 0] := ⟨Tryd.zeroValue112, ⟨_, Tryd.underlying112, fun w => by kernel_rfl⟩⟩
instance : TyS Tryd.prog 113 2 [.int .u8 0, .int .u8 0] := ⟨Tryd.isAgg113, Tryd.sizeOf113, Tryd.zeroValue113⟩
instance : Fld Tryd.prog 113 0 0 := ⟨fun h => a_field (sz := 1) Tryd.underlying113 rfl Tryd.sizeOf5 (by decide) h⟩
instance : Fld Tryd.prog 113 1 1 := ⟨fun h => a_field (sz := 1) Tryd.underlying113 rfl Tryd.sizeOf5 (by decide) h⟩
instance : Bld Tryd.prog 113 #[(0, 1), (1, 1)] #[.int .u8 0, .int .u8 0] := ⟨Tryd.zeroValue113, ⟨_, Tryd.underlying113, fun w => by kernel_rfl⟩⟩
instance : Und Tryd.prog 115 (.func #[9] #[96, 96] false) := ⟨Tryd.underlying115⟩
instance : Ty1 Tryd.prog 115 (.nilFunc) := ⟨Tryd.isAgg115, Tryd.sizeOf115, Tryd.zeroValue115, rfl⟩
instance : Und Tryd.prog 116 (.func #[4] #[3] false) := ⟨Tryd.underlying116⟩
instance : Ty1 Tryd.prog 116 (.nilFunc) := ⟨Tryd.isAgg116, Tryd.sizeOf116, Tryd.zeroValue116, rfl⟩
instance : Und Tryd.prog 119 (.func #[3] #[4] false) := ⟨Tryd.underlying119⟩
instance : Ty1 Tryd.prog 119 (.nilFunc) := ⟨Tryd.isAgg119, Tryd.sizeOf119, Tryd.zeroValue119, rfl⟩
instance : Und Tryd.prog 120 (.func #[61] #[3] false) := ⟨Tryd.underlying120⟩
instance : Ty1 Tryd.prog 120 (.nilFunc) := ⟨Tryd.isAgg120, Tryd.sizeOf120, Tryd.zeroValue120, rfl⟩
instance : Und Tryd.prog 121 (.func #[96] #[3] false) := ⟨Tryd.underlying121⟩
instance : Ty1 Tryd.prog 121 (.nilFunc) := ⟨Tryd.isAgg121, Tryd.sizeOf121, Tryd.zeroValue121, rfl⟩
instance : TyS Tryd.prog 124 4 [.pointer none, .pointer none, .pointer none, .string ⟨#[]⟩] := ⟨Tryd.isAgg124, Tryd.sizeOf124, Tryd.zeroValue124⟩
instance : Fld Tryd.prog 124 0 0 := ⟨fun h => a_field (sz := 1) Tryd.underlying124 rfl Tryd.sizeOf17 (by decide) h⟩
instance : Fld Tryd.prog 124 1 1 := ⟨fun h => a_field (sz := 1) Tryd.underlying124 rfl Tryd.sizeOf17 (by decide) h⟩
instance : Fld Tryd.prog 124 2 2 := ⟨fun h => a_field (sz := 1) Tryd.underlying124 rfl Tryd.sizeOf17 (by decide) h⟩
instance : Fld Tryd.prog 124 3 3 := ⟨fun h => a_field (sz := 1) Tryd.underlying124 rfl Tryd.sizeOf9 (by decide) h⟩
instance : Bld Tryd.prog 124 #[(0, 1), (1, 1), (2, 1), (3, 1)] #[.pointer none, .pointer none, .pointer none, .string ⟨#[]⟩] := ⟨Tryd.zeroValue124, ⟨_, Tryd.underlying124, fun w => by kernel_rfl⟩⟩
instance : TyS Tryd.prog 125 4 [.pointer none, .pointer none, .pointer none, .string ⟨#[]⟩] := ⟨Tryd.isAgg125, Tryd.sizeOf125, Tryd.zeroValue125⟩
instance : Fld Tryd.prog 125 0 0 := ⟨fun h => a_field (sz := 1) Tryd.underlying125 rfl Tryd.sizeOf17 (by decide) h⟩
instance : Fld Tryd.prog 125 1 1 := ⟨fun h => a_field (sz := 1) Tryd.underlying125 rfl Tryd.sizeOf17 (by decide) h⟩
instance : Fld Tryd.prog 125 2 2 := ⟨fun h => a_field (sz := 1) Tryd.underlying125 rfl Tryd.sizeOf17 (by decide) h⟩
instance : Fld Tryd.prog 125 3 3 := ⟨fun h => a_field (sz := 1) Tryd.underlying125 rfl Tryd.sizeOf9 (by decide) h⟩
instance : Bld Tryd.prog 125 #[(0, 1), (1, 1), (2, 1), (3, 1)] #[.pointer none, .pointer none, .pointer none, .string ⟨#[]⟩] := ⟨Tryd.zeroValue125, ⟨_, Tryd.underlying125, fun w => by kernel_rfl⟩⟩
instance : TyS Tryd.prog 127 0 [] := ⟨Tryd.isAgg127, Tryd.sizeOf127, Tryd.zeroValue127⟩
instance : Bld Tryd.prog 127 #[(0, 0)] #[] := ⟨Tryd.zeroValue127, ⟨_, Tryd.underlying127, fun w => by kernel_rfl⟩⟩
instance : TyS Tryd.prog 128 0 [] := ⟨Tryd.isAgg128, Tryd.sizeOf128, Tryd.zeroValue128⟩
instance : Bld Tryd.prog 128 #[(0, 0)] #[] := ⟨Tryd.zeroValue128, ⟨_, Tryd.underlying128, fun w => by kernel_rfl⟩⟩
instance : Und Tryd.prog 129 (.int .u8) := ⟨Tryd.underlying129⟩
instance : Ty1 Tryd.prog 129 (.int .u8 0) := ⟨Tryd.isAgg129, Tryd.sizeOf129, Tryd.zeroValue129, rfl⟩
instance : Und Tryd.prog 130 (.int .u8) := ⟨Tryd.underlying130⟩
instance : Ty1 Tryd.prog 130 (.int .u8 0) := ⟨Tryd.isAgg130, Tryd.sizeOf130, Tryd.zeroValue130, rfl⟩
instance : Und Tryd.prog 131 (.func #[84, 84] #[4] false) := ⟨Tryd.underlying131⟩
instance : Ty1 Tryd.prog 131 (.nilFunc) := ⟨Tryd.isAgg131, Tryd.sizeOf131, Tryd.zeroValue131, rfl⟩
instance : Und Tryd.prog 132 (.int .i32) := ⟨Tryd.underlying132⟩
instance : Ty1 Tryd.prog 132 (.int .i32 0) := ⟨Tryd.isAgg132, Tryd.sizeOf132, Tryd.zeroValue132, rfl⟩
instance : Und Tryd.prog 133 (.int .i32) := ⟨Tryd.underlying133⟩
instance : Ty1 Tryd.prog 133 (.int .i32 0) := ⟨Tryd.isAgg133, Tryd.sizeOf133, Tryd.zeroValue133, rfl⟩
instance : TyS Tryd.prog 134 11 [.int .u64 0, .int .u64 0, .int .u32 0, .int .u8 0, .int .u8 0, .int .u8 0, .int .u8 0, .nilFunc, .pointer none, .int .i32 0, .int .i32 0] := ⟨Tryd.isAgg134, Tryd.sizeOf134, Tryd.zeroValue134⟩
instance : Fld Tryd.prog 134 0 0 := ⟨fun h => a_field (sz := 1) Tryd.underlying134 rfl Tryd.sizeOf12 (by decide) h⟩
instance : Fld Tryd.prog 134 1 1 := ⟨fun h => a_field (sz := 1) Tryd.underlying134 rfl Tryd.sizeOf12 (by decide) h⟩
instance : Fld Tryd.prog 134 2 2 := ⟨fun h => a_field (sz := 1) Tryd.underlying134 rfl Tryd.sizeOf96 (by decide) h⟩
instance : Fld Tryd.prog 134 3 3 := ⟨fun h => a_field (sz := 1) Tryd.underlying134 rfl Tryd.sizeOf129 (by decide) h⟩
instance : Fld Tryd.prog 134 4 4 := ⟨fun h => a_field (sz := 1) Tryd.underlying134 rfl Tryd.sizeOf5 (by decide) h⟩
instance : Fld Tryd.prog 134 5 5 := ⟨fun h => a_field (sz := 1) Tryd.underlying134 rfl Tryd.sizeOf5 (by decide) h⟩
instance : Fld Tryd.prog 134 6 6 := ⟨fun h => a_field (sz := 1) Tryd.underlying134 rfl Tryd.sizeOf130 (by decide) h⟩
instance : Fld Tryd.prog 134 7 7 := ⟨fun h => a_field (sz := 1) Tryd.underlying134 rfl Tryd.sizeOf131 (by decide) h⟩
instance : Fld Tryd.prog 134 8 8 := ⟨fun h => a_field (sz := 1) Tryd.underlying134 rfl Tryd.sizeOf71 (by decide) h⟩
instance : Fld Tryd.prog 134 9 9 := ⟨fun h => a_field (sz := 1) Tryd.underlying134 rfl Tryd.sizeOf132 (by decide) h⟩
instance : Fld Tryd.prog 134 10 10 := ⟨fun h => a_field (sz := 1) Tryd.underlying134 rfl Tryd.sizeOf133 (by decide) h⟩
instance : Bld Tryd.prog 134 #[(0, 1), (1, 1), (2, 1), (3, 1), (4, 1), (5, 1), (6, 1), (7, 1), (8, 1), (9, 1), (10, 1)] #[.int .u64 0, .int .u64 0, .int .u32 0, .int .u8 0, .int .u8 0, .int .u8 0, .int .u8 0, .nilFunc, .pointer none, .int .i32 0, .int .i32 0] := ⟨Tryd.zeroValue134, ⟨_, Tryd.underlying134, fun w => by kernel_rfl⟩⟩
instance : TyS Tryd.prog 135 11 [.int .u64 0, .int .u64 0, .int .u32 0, .int .u8 0, .int .u8 0, .int .u8 0, .int .u8 0, .nilFunc, .pointer none, .int .i32 0, .int .i32 0] := ⟨Tryd.isAgg135, Tryd.sizeOf135, Tryd.zeroValue135⟩
instance : Fld Tryd.prog 135 0 0 := ⟨fun h => a_field (sz := 1) Tryd.underlying135 rfl Tryd.sizeOf12 (by decide) h⟩
instance : Fld Tryd.prog 135 1 1 := ⟨fun h => a_field (sz := 1) Tryd.underlying135 rfl Tryd.sizeOf12 (by decide) h⟩
instance : Fld Tryd.prog 135 2 2 := ⟨fun h => a_field (sz := 1) Tryd.underlying135 rfl Tryd.sizeOf96 (by decide) h⟩
instance : Fld Tryd.prog 135 3 3 := ⟨fun h => a_field (sz := 1) Tryd.underlying135 rfl Tryd.sizeOf129 (by decide) h⟩
instance : Fld Tryd.prog 135 4 4 := ⟨fun h => a_field (sz := 1) Tryd.underlying135 rfl Tryd.sizeOf5 (by decide) h⟩
instance : Fld Tryd.prog 135 5 5 := ⟨fun h => a_field (sz := 1) Tryd.underlying135 rfl Tryd.sizeOf5 (by decide) h⟩
instance : Fld Tryd.prog 135 6 6 := ⟨fun h => a_field (sz := 1) Tryd.underlying135 rfl Tryd.sizeOf130 (by decide) h⟩
instance : Fld Tryd.prog 135 7 7 := ⟨fun h => a_field (sz := 1) Tryd.underlying135 rfl Tryd.sizeOf131 (by decide) h⟩
instance : Fld Tryd.prog 135 8 8 := ⟨fun h => a_field (sz := 1) Tryd.underlying135 rfl Tryd.sizeOf71 (by decide) h⟩
instance : Fld Tryd.prog 135 9 9 := ⟨fun h => a_field (sz := 1) Tryd.underlying135 rfl Tryd.sizeOf132 (by decide) h⟩
instance : Fld Tryd.prog 135 10 10 := ⟨fun h => a_field (sz := 1) Tryd.underlying135 rfl Tryd.sizeOf133 (by decide) h⟩
instance : Bld Tryd.prog 135 #[(0, 1), (1, 1), (2, 1), (3, 1), (4, 1), (5, 1), (6, 1), (7, 1), (8, 1), (9, 1), (10, 1)] #[.int .u64 0, .int .u64 0, .int .u32 0, .int .u8 0, .int .u8 0, .int .u8 0, .int .u8 0, .nilFunc, .pointer none, .int .i32 0, .int .i32 0] := ⟨Tryd.zeroValue135, ⟨_, Tryd.underlying135, fun w => by kernel_rfl⟩⟩
end Go.Proofs.YtgflkjhljggeiaaDoor
