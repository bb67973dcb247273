/-
  The seat's types: what is asked of each, as instances. Printed by a program (ty.py) out of Lean's own print.
-/
import Derived.Test.YtlflpbflpcmckaaDoorProg
import Derived.Test.YtlflpbflpcmckaaDoorEzSep
namespace Go.Proofs.YtlflpbflpcmckaaDoor
open Go Go.Ez
set_option linter.unusedVariables false

instance : Und Tryd.prog 1 (.func #[] #[] false) := ⟨Tryd.underlying1⟩
instance : Ty1 Tryd.prog 1 (.nilFunc) := ⟨Tryd.isAgg1, Tryd.sizeOf1, Tryd.zeroValue1, rfl⟩
instance : Und Tryd.prog 2 (.int .i64) := ⟨Tryd.underlying2⟩
instance : Ty1 Tryd.prog 2 (.int .i64 0) := ⟨Tryd.isAgg2, Tryd.sizeOf2, Tryd.zeroValue2, rfl⟩
instance : Und Tryd.prog 3 (.int .i64) := ⟨Tryd.underlying3⟩
instance : Ty1 Tryd.prog 3 (.int .i64 0) := ⟨Tryd.isAgg3, Tryd.sizeOf3, Tryd.zeroValue3, rfl⟩
instance : Und Tryd.prog 4 (.bool) := ⟨Tryd.underlying4⟩
instance : Ty1 Tryd.prog 4 (.bool false) := ⟨Tryd.isAgg4, Tryd.sizeOf4, Tryd.zeroValue4, rfl⟩
instance : Und Tryd.prog 5 (.int .u8) := ⟨Tryd.underlying5⟩
instance : Ty1 Tryd.prog 5 (.int .u8 0) := ⟨Tryd.isAgg5, Tryd.sizeOf5, Tryd.zeroValue5, rfl⟩
instance : Und Tryd.prog 6 (.int .u8) := ⟨Tryd.underlying6⟩
instance : Ty1 Tryd.prog 6 (.int .u8 0) := ⟨Tryd.isAgg6, Tryd.sizeOf6, Tryd.zeroValue6, rfl⟩
instance : TyS Tryd.prog 7 4 [.int .i64 0, .int .i64 0, .bool false, .int .u8 0] := ⟨Tryd.isAgg7, Tryd.sizeOf7, Tryd.zeroValue7⟩
instance : Fld Tryd.prog 7 0 0 := ⟨fun h => a_field (sz := 1) Tryd.underlying7 rfl Tryd.sizeOf2 (by decide) h⟩
instance : Fld Tryd.prog 7 1 1 := ⟨fun h => a_field (sz := 1) Tryd.underlying7 rfl Tryd.sizeOf3 (by decide) h⟩
instance : Fld Tryd.prog 7 2 2 := ⟨fun h => a_field (sz := 1) Tryd.underlying7 rfl Tryd.sizeOf4 (by decide) h⟩
instance : Fld Tryd.prog 7 3 3 := ⟨fun h => a_field (sz := 1) Tryd.underlying7 rfl Tryd.sizeOf6 (by decide) h⟩
instance : Bld Tryd.prog 7 #[(0, 1), (1, 1), (2, 1), (3, 1)] #[.int .i64 0, .int .i64 0, .bool false, .int .u8 0] := ⟨Tryd.zeroValue7, ⟨_, Tryd.underlying7, fun w => by kernel_rfl⟩⟩
instance : TyS Tryd.prog 8 4 [.int .i64 0, .int .i64 0, .bool false, .int .u8 0] := ⟨Tryd.isAgg8, Tryd.sizeOf8, Tryd.zeroValue8⟩
instance : Fld Tryd.prog 8 0 0 := ⟨fun h => a_field (sz := 1) Tryd.underlying8 rfl Tryd.sizeOf2 (by decide) h⟩
instance : Fld Tryd.prog 8 1 1 := ⟨fun h => a_field (sz := 1) Tryd.underlying8 rfl Tryd.sizeOf3 (by decide) h⟩
instance : Fld Tryd.prog 8 2 2 := ⟨fun h => a_field (sz := 1) Tryd.underlying8 rfl Tryd.sizeOf4 (by decide) h⟩
instance : Fld Tryd.prog 8 3 3 := ⟨fun h => a_field (sz := 1) Tryd.underlying8 rfl Tryd.sizeOf6 (by decide) h⟩
instance : Bld Tryd.prog 8 #[(0, 1), (1, 1), (2, 1), (3, 1)] #[.int .i64 0, .int .i64 0, .bool false, .int .u8 0] := ⟨Tryd.zeroValue8, ⟨_, Tryd.underlying8, fun w => by kernel_rfl⟩⟩
instance : Und Tryd.prog 9 (.string) := ⟨Tryd.underlying9⟩
instance : Ty1 Tryd.prog 9 (.string ⟨#[]⟩) := ⟨Tryd.isAgg9, Tryd.sizeOf9, Tryd.zeroValue9, rfl⟩
instance : Und Tryd.prog 10 (.string) := ⟨Tryd.underlying10⟩
instance : Ty1 Tryd.prog 10 (.string ⟨#[]⟩) := ⟨Tryd.isAgg10, Tryd.sizeOf10, Tryd.zeroValue10, rfl⟩
instance : Und Tryd.prog 11 (.string) := ⟨Tryd.underlying11⟩
instance : Ty1 Tryd.prog 11 (.string ⟨#[]⟩) := ⟨Tryd.isAgg11, Tryd.sizeOf11, Tryd.zeroValue11, rfl⟩
instance : Und Tryd.prog 12 (.int .u64) := ⟨Tryd.underlying12⟩
instance : Ty1 Tryd.prog 12 (.int .u64 0) := ⟨Tryd.isAgg12, Tryd.sizeOf12, Tryd.zeroValue12, rfl⟩
instance : TyS Tryd.prog 13 2 [.string ⟨#[]⟩, .int .u64 0] := ⟨Tryd.isAgg13, Tryd.sizeOf13, Tryd.zeroValue13⟩
instance : Fld Tryd.prog 13 0 0 := ⟨fun h => a_field (sz := 1) Tryd.underlying13 rfl Tryd.sizeOf9 (by decide) h⟩
instance : Fld Tryd.prog 13 1 1 := ⟨fun h => a_field (sz := 1) Tryd.underlying13 rfl Tryd.sizeOf12 (by decide) h⟩
instance : Bld Tryd.prog 13 #[(0, 1), (1, 1)] #[.string ⟨#[]⟩, .int .u64 0] := ⟨Tryd.zeroValue13, ⟨_, Tryd.underlying13, fun w => by kernel_rfl⟩⟩
instance : TyS Tryd.prog 14 2 [.string ⟨#[]⟩, .int .u64 0] := ⟨Tryd.isAgg14, Tryd.sizeOf14, Tryd.zeroValue14⟩
instance : Fld Tryd.prog 14 0 0 := ⟨fun h => a_field (sz := 1) Tryd.underlying14 rfl Tryd.sizeOf9 (by decide) h⟩
instance : Fld Tryd.prog 14 1 1 := ⟨fun h => a_field (sz := 1) Tryd.underlying14 rfl Tryd.sizeOf12 (by decide) h⟩
instance : Bld Tryd.prog 14 #[(0, 1), (1, 1)] #[.string ⟨#[]⟩, .int .u64 0] := ⟨Tryd.zeroValue14, ⟨_, Tryd.underlying14, fun w => by kernel_rfl⟩⟩
instance : Und Tryd.prog 15 (.pointer 155) := ⟨Tryd.underlying15⟩
instance : Ty1 Tryd.prog 15 (.pointer none) := ⟨Tryd.isAgg15, Tryd.sizeOf15, Tryd.zeroValue15, rfl⟩
instance : Und Tryd.prog 16 (.pointer 158) := ⟨Tryd.underlying16⟩
instance : Ty1 Tryd.prog 16 (.pointer none) := ⟨Tryd.isAgg16, Tryd.sizeOf16, Tryd.zeroValue16, rfl⟩
instance : Und Tryd.prog 17 (.pointer 165) := ⟨Tryd.underlying17⟩
instance : Ty1 Tryd.prog 17 (.pointer none) := ⟨Tryd.isAgg17, Tryd.sizeOf17, Tryd.zeroValue17, rfl⟩
instance : TyS Tryd.prog 18 1 [.pointer none] := ⟨Tryd.isAgg18, Tryd.sizeOf18, Tryd.zeroValue18⟩
instance : Fld Tryd.prog 18 0 0 := ⟨fun h => a_field (sz := 1) Tryd.underlying18 rfl Tryd.sizeOf17 (by decide) h⟩
instance : Bld Tryd.prog 18 #[(0, 1)] #[.pointer none] := ⟨Tryd.zeroValue18, ⟨_, Tryd.underlying18, fun w => by kernel_rfl⟩⟩
instance : TyS Tryd.prog 19 1 [.pointer none] := ⟨Tryd.isAgg19, Tryd.sizeOf19, Tryd.zeroValue19⟩
instance : Fld Tryd.prog 19 0 0 := ⟨fun h => a_field (sz := 1) Tryd.underlying19 rfl Tryd.sizeOf17 (by decide) h⟩
instance : Bld Tryd.prog 19 #[(0, 1)] #[.pointer none] := ⟨Tryd.zeroValue19, ⟨_, Tryd.underlying19, fun w => by kernel_rfl⟩⟩
instance : Und Tryd.prog 20 (.interface #[]) := ⟨Tryd.underlying20⟩
instance : Ty1 Tryd.prog 20 (.nilIface) := ⟨Tryd.isAgg20, Tryd.sizeOf20, Tryd.zeroValue20, rfl⟩
instance : Und Tryd.prog 21 (.int .i32) := ⟨Tryd.underlying21⟩
instance : Ty1 Tryd.prog 21 (.int .i32 0) := ⟨Tryd.isAgg21, Tryd.sizeOf21, Tryd.zeroValue21, rfl⟩
instance : Und Tryd.prog 22 (.slice 5) := ⟨Tryd.underlying22⟩
instance : Ty1 Tryd.prog 22 (.slice none 0 0) := ⟨Tryd.isAgg22, Tryd.sizeOf22, Tryd.zeroValue22, rfl⟩
instance : SlT Tryd.prog 22 5 1 1 (.int .u8 0) := ⟨⟨Tryd.underlying22, by kernel_rfl, rfl, by decide⟩⟩
instance : Und Tryd.prog 23 (.func #[] #[4] false) := ⟨Tryd.underlying23⟩
instance : Ty1 Tryd.prog 23 (.nilFunc) := ⟨Tryd.isAgg23, Tryd.sizeOf23, Tryd.zeroValue23, rfl⟩
instance : Und Tryd.prog 24 (.slice 30) := ⟨Tryd.underlying24⟩
instance : Ty1 Tryd.prog 24 (.slice none 0 0) := ⟨Tryd.isAgg24, Tryd.sizeOf24, Tryd.zeroValue24, rfl⟩
instance : SlT Tryd.prog 24 30 5 80 (.agg #[.int .i64 0, .string ⟨#[]⟩, .string ⟨#[]⟩, .string ⟨#[]⟩, .slice none 0 0]) := ⟨⟨Tryd.underlying24, by kernel_rfl, rfl, by decide⟩⟩
instance : Und Tryd.prog 25 (.int .i64) := ⟨Tryd.underlying25⟩
instance : Ty1 Tryd.prog 25 (.int .i64 0) := ⟨Tryd.isAgg25, Tryd.sizeOf25, Tryd.zeroValue25, rfl⟩
instance : Und Tryd.prog 27 (.func #[22] #[24, 25] false) := ⟨Tryd.underlying27⟩
instance : Ty1 Tryd.prog 27 (.nilFunc) := ⟨Tryd.isAgg27, Tryd.sizeOf27, Tryd.zeroValue27, rfl⟩
instance : Und Tryd.prog 28 (.slice 35) := ⟨Tryd.underlying28⟩
instance : Ty1 Tryd.prog 28 (.slice none 0 0) := ⟨Tryd.isAgg28, Tryd.sizeOf28, Tryd.zeroValue28, rfl⟩
instance : SlT Tryd.prog 28 35 3 48 (.agg #[.string ⟨#[]⟩, .string ⟨#[]⟩, .string ⟨#[]⟩]) := ⟨⟨Tryd.underlying28, by kernel_rfl, rfl, by decide⟩⟩
instance : TyS Tryd.prog 29 5 [.int .i64 0, .string ⟨#[]⟩, .string ⟨#[]⟩, .string ⟨#[]⟩, .slice none 0 0] := ⟨Tryd.isAgg29, Tryd.sizeOf29, Tryd.zeroValue29⟩
instance : Fld Tryd.prog 29 0 0 := ⟨fun h => a_field (sz := 1) Tryd.underlying29 rfl Tryd.sizeOf3 (by decide) h⟩
instance : Fld Tryd.prog 29 1 1 := ⟨fun h => a_field (sz := 1) Tryd.underlying29 rfl Tryd.sizeOf9 (by decide) h⟩
instance : Fld Tryd.prog 29 2 2 := ⟨fun h => a_field (sz := 1) Tryd.underlying29 rfl Tryd.sizeOf9 (by decide) h⟩
instance : Fld Tryd.prog 29 3 3 := ⟨fun h => a_field (sz := 1) Tryd.underlying29 rfl Tryd.sizeOf9 (by decide) h⟩
instance : Fld Tryd.prog 29 4 4 := ⟨fun h => a_field (sz := 1) Tryd.underlying29 rfl Tryd.sizeOf28 (by decide) h⟩
instance : Bld Tryd.prog 29 #[(0, 1), (1, 1), (2, 1), (3, 1), (4, 1)] #[.int .i64 0, .string ⟨#[]⟩, .string ⟨#[]⟩, .string ⟨#[]⟩, .slice none 0 0] := ⟨Tryd.zeroValue29, ⟨_, Tryd.underlying29, fun w => by kernel_rfl⟩⟩
instance : TyS Tryd.prog 30 5 [.int .i64 0, .string ⟨#[]⟩, .string ⟨#[]⟩, .string ⟨#[]⟩, .slice none 0 0] := ⟨Tryd.isAgg30, Tryd.sizeOf30, Tryd.zeroValue30⟩
instance : Fld Tryd.prog 30 0 0 := ⟨fun h => a_field (sz := 1) Tryd.underlying30 rfl Tryd.sizeOf3 (by decide) h⟩
instance : Fld Tryd.prog 30 1 1 := ⟨fun h => a_field (sz := 1) Tryd.underlying30 rfl Tryd.sizeOf9 (by decide) h⟩
instance : Fld Tryd.prog 30 2 2 := ⟨fun h => a_field (sz := 1) Tryd.underlying30 rfl Tryd.sizeOf9 (by decide) h⟩
instance : Fld Tryd.prog 30 3 3 := ⟨fun h => a_field (sz := 1) Tryd.underlying30 rfl Tryd.sizeOf9 (by decide) h⟩
instance : Fld Tryd.prog 30 4 4 := ⟨fun h => a_field (sz := 1) Tryd.underlying30 rfl Tryd.sizeOf28 (by decide) h⟩
instance : Bld Tryd.prog 30 #[(0, 1), (1, 1), (2, 1), (3, 1), (4, 1)] #[.int .i64 0, .string ⟨#[]⟩, .string ⟨#[]⟩, .string ⟨#[]⟩, .slice none 0 0] := ⟨Tryd.zeroValue30, ⟨_, Tryd.underlying30, fun w => by kernel_rfl⟩⟩
instance : Und Tryd.prog 31 (.func #[22] #[4] false) := ⟨Tryd.underlying31⟩
instance : Ty1 Tryd.prog 31 (.nilFunc) := ⟨Tryd.isAgg31, Tryd.sizeOf31, Tryd.zeroValue31, rfl⟩
instance : Und Tryd.prog 32 (.func #[9] #[4] false) := ⟨Tryd.underlying32⟩
instance : Ty1 Tryd.prog 32 (.nilFunc) := ⟨Tryd.isAgg32, Tryd.sizeOf32, Tryd.zeroValue32, rfl⟩
instance : Und Tryd.prog 33 (.func #[9] #[9] false) := ⟨Tryd.underlying33⟩
instance : Ty1 Tryd.prog 33 (.nilFunc) := ⟨Tryd.isAgg33, Tryd.sizeOf33, Tryd.zeroValue33, rfl⟩
instance : TyS Tryd.prog 34 3 [.string ⟨#[]⟩, .string ⟨#[]⟩, .string ⟨#[]⟩] := ⟨Tryd.isAgg34, Tryd.sizeOf34, Tryd.zeroValue34⟩
instance : Fld Tryd.prog 34 0 0 := ⟨fun h => a_field (sz := 1) Tryd.underlying34 rfl Tryd.sizeOf9 (by decide) h⟩
instance : Fld Tryd.prog 34 1 1 := ⟨fun h => a_field (sz := 1) Tryd.underlying34 rfl Tryd.sizeOf9 (by decide) h⟩
instance : Fld Tryd.prog 34 2 2 := ⟨fun h => a_field (sz := 1) Tryd.underlying34 rfl Tryd.sizeOf9 (by decide) h⟩
instance : Bld Tryd.prog 34 #[(0, 1), (1, 1), (2, 1)] #[.string ⟨#[]⟩, .string ⟨#[]⟩, .string ⟨#[]⟩] := ⟨Tryd.zeroValue34, ⟨_, Tryd.underlying34, fun w => by kernel_rfl⟩⟩
instance : TyS Tryd.prog 35 3 [.string ⟨#[]⟩, .string ⟨#[]⟩, .string ⟨#[]⟩] := ⟨Tryd.isAgg35, Tryd.sizeOf35, Tryd.zeroValue35⟩
instance : Fld Tryd.prog 35 0 0 := ⟨fun h => a_field (sz := 1) Tryd.underlying35 rfl Tryd.sizeOf9 (by decide) h⟩
instance : Fld Tryd.prog 35 1 1 := ⟨fun h => a_field (sz := 1) Tryd.underlying35 rfl Tryd.sizeOf9 (by decide) h⟩
instance : Fld Tryd.prog 35 2 2 := ⟨fun h => a_field (sz := 1) Tryd.underlying35 rfl Tryd.sizeOf9 (by decide) h⟩
instance : Bld Tryd.prog 35 #[(0, 1), (1, 1), (2, 1)] #[.string ⟨#[]⟩, .string ⟨#[]⟩, .string ⟨#[]⟩] := ⟨Tryd.zeroValue35, ⟨_, Tryd.underlying35, fun w => by kernel_rfl⟩⟩
instance : Und Tryd.prog 36 (.func #[9, 9] #[4] false) := ⟨Tryd.underlying36⟩
instance : Ty1 Tryd.prog 36 (.nilFunc) := ⟨Tryd.isAgg36, Tryd.sizeOf36, Tryd.zeroValue36, rfl⟩
instance : Und Tryd.prog 37 (.func #[38, 38] #[4] false) := ⟨Tryd.underlying37⟩
instance : Ty1 Tryd.prog 37 (.nilFunc) := ⟨Tryd.isAgg37, Tryd.sizeOf37, Tryd.zeroValue37, rfl⟩
instance : Und Tryd.prog 38 (.slice 59) := ⟨Tryd.underlying38⟩
instance : Ty1 Tryd.prog 38 (.slice none 0 0) := ⟨Tryd.isAgg38, Tryd.sizeOf38, Tryd.zeroValue38, rfl⟩
instance : SlT Tryd.prog 38 59 5 80 (.agg #[.int .i64 0, .string ⟨#[]⟩, .string ⟨#[]⟩, .string ⟨#[]⟩, .slice none 0 0]) := ⟨⟨Tryd.underlying38, by kernel_rfl, rfl, by decide⟩⟩
instance : Und Tryd.prog 39 (.func #[24] #[38] false) := ⟨Tryd.underlying39⟩
instance : Ty1 Tryd.prog 39 (.nilFunc) := ⟨Tryd.isAgg39, Tryd.sizeOf39, Tryd.zeroValue39, rfl⟩
instance : Und Tryd.prog 40 (.func #[22, 3] #[4] false) := ⟨Tryd.underlying40⟩
instance : Ty1 Tryd.prog 40 (.nilFunc) := ⟨Tryd.isAgg40, Tryd.sizeOf40, Tryd.zeroValue40, rfl⟩
instance : Und Tryd.prog 41 (.slice 9) := ⟨Tryd.underlying41⟩
instance : Ty1 Tryd.prog 41 (.slice none 0 0) := ⟨Tryd.isAgg41, Tryd.sizeOf41, Tryd.zeroValue41, rfl⟩
instance : SlT Tryd.prog 41 9 1 16 (.string ⟨#[]⟩) := ⟨⟨Tryd.underlying41, by kernel_rfl, rfl, by decide⟩⟩
instance : Und Tryd.prog 42 (.func #[41] #[41] false) := ⟨Tryd.underlying42⟩
instance : Ty1 Tryd.prog 42 (.nilFunc) := ⟨Tryd.isAgg42, Tryd.sizeOf42, Tryd.zeroValue42, rfl⟩
instance : Und Tryd.prog 43 (.func #[41, 41] #[4] false) := ⟨Tryd.underlying43⟩
instance : Ty1 Tryd.prog 43 (.nilFunc) := ⟨Tryd.isAgg43, Tryd.sizeOf43, Tryd.zeroValue43, rfl⟩
instance : Und Tryd.prog 45 (.func #[24, 3] #[9, 3] false) := ⟨Tryd.underlying45⟩
instance : Ty1 Tryd.prog 45 (.nilFunc) := ⟨Tryd.isAgg45, Tryd.sizeOf45, Tryd.zeroValue45, rfl⟩
instance : Und Tryd.prog 46 (.func #[9, 3] #[4] false) := ⟨Tryd.underlying46⟩
instance : Ty1 Tryd.prog 46 (.nilFunc) := ⟨Tryd.isAgg46, Tryd.sizeOf46, Tryd.zeroValue46, rfl⟩
instance : Und Tryd.prog 47 (.func #[24] #[4] false) := ⟨Tryd.underlying47⟩
instance : Ty1 Tryd.prog 47 (.nilFunc) := ⟨Tryd.isAgg47, Tryd.sizeOf47, Tryd.zeroValue47, rfl⟩
instance : Und Tryd.prog 48 (.func #[38, 3] #[9, 3] false) := ⟨Tryd.underlying48⟩
instance : Ty1 Tryd.prog 48 (.nilFunc) := ⟨Tryd.isAgg48, Tryd.sizeOf48, Tryd.zeroValue48, rfl⟩
instance : Und Tryd.prog 49 (.slice 3) := ⟨Tryd.underlying49⟩
instance : Ty1 Tryd.prog 49 (.slice none 0 0) := ⟨Tryd.isAgg49, Tryd.sizeOf49, Tryd.zeroValue49, rfl⟩
instance : SlT Tryd.prog 49 3 1 8 (.int .i64 0) := ⟨⟨Tryd.underlying49, by kernel_rfl, rfl, by decide⟩⟩
instance : Und Tryd.prog 51 (.func #[53, 3] #[49, 38] false) := ⟨Tryd.underlying51⟩
instance : Ty1 Tryd.prog 51 (.nilFunc) := ⟨Tryd.isAgg51, Tryd.sizeOf51, Tryd.zeroValue51, rfl⟩
instance : Und Tryd.prog 52 (.func #[77] #[] false) := ⟨Tryd.underlying52⟩
instance : Ty1 Tryd.prog 52 (.nilFunc) := ⟨Tryd.isAgg52, Tryd.sizeOf52, Tryd.zeroValue52, rfl⟩
instance : Und Tryd.prog 53 (.func #[77] #[] false) := ⟨Tryd.underlying53⟩
instance : Ty1 Tryd.prog 53 (.nilFunc) := ⟨Tryd.isAgg53, Tryd.sizeOf53, Tryd.zeroValue53, rfl⟩
instance : Und Tryd.prog 54 (.func #[24] #[53] false) := ⟨Tryd.underlying54⟩
instance : Ty1 Tryd.prog 54 (.nilFunc) := ⟨Tryd.isAgg54, Tryd.sizeOf54, Tryd.zeroValue54, rfl⟩
instance : Und Tryd.prog 55 (.func #[30, 30] #[4] false) := ⟨Tryd.underlying55⟩
instance : Ty1 Tryd.prog 55 (.nilFunc) := ⟨Tryd.isAgg55, Tryd.sizeOf55, Tryd.zeroValue55, rfl⟩
instance : Und Tryd.prog 56 (.func #[59, 59] #[4] false) := ⟨Tryd.underlying56⟩
instance : Ty1 Tryd.prog 56 (.nilFunc) := ⟨Tryd.isAgg56, Tryd.sizeOf56, Tryd.zeroValue56, rfl⟩
instance : Und Tryd.prog 57 (.slice 71) := ⟨Tryd.underlying57⟩
instance : Ty1 Tryd.prog 57 (.slice none 0 0) := ⟨Tryd.isAgg57, Tryd.sizeOf57, Tryd.zeroValue57, rfl⟩
instance : SlT Tryd.prog 57 71 3 48 (.agg #[.string ⟨#[]⟩, .string ⟨#[]⟩, .string ⟨#[]⟩]) := ⟨⟨Tryd.underlying57, by kernel_rfl, rfl, by decide⟩⟩
instance : TyS Tryd.prog 58 5 [.int .i64 0, .string ⟨#[]⟩, .string ⟨#[]⟩, .string ⟨#[]⟩, .slice none 0 0] := ⟨Tryd.isAgg58, Tryd.sizeOf58, Tryd.zeroValue58⟩
instance : Fld Tryd.prog 58 0 0 := ⟨fun h => a_field (sz := 1) Tryd.underlying58 rfl Tryd.sizeOf3 (by decide) h⟩
instance : Fld Tryd.prog 58 1 1 := ⟨fun h => a_field (sz := 1) Tryd.underlying58 rfl Tryd.sizeOf9 (by decide) h⟩
instance : Fld Tryd.prog 58 2 2 := ⟨fun h => a_field (sz := 1) Tryd.underlying58 rfl Tryd.sizeOf9 (by decide) h⟩
instance : Fld Tryd.prog 58 3 3 := ⟨fun h => a_field (sz := 1) Tryd.underlying58 rfl Tryd.sizeOf9 (by decide) h⟩
instance : Fld Tryd.prog 58 4 4 := ⟨fun h => a_field (sz := 1) Tryd.underlying58 rfl Tryd.sizeOf57 (by decide) h⟩
instance : Bld Tryd.prog 58 #[(0, 1), (1, 1), (2, 1), (3, 1), (4, 1)] #[.int .i64 0, .string ⟨#[]⟩, .string ⟨#[]⟩, .string ⟨#[]⟩, .slice none 0 0] := ⟨Tryd.zeroValue58, ⟨_, Tryd.underlying58, fun w => by kernel_rfl⟩⟩
instance : TyS Tryd.prog 59 5 [.int .i64 0, .string ⟨#[]⟩, .string ⟨#[]⟩, .string ⟨#[]⟩, .slice none 0 0] := ⟨Tryd.isAgg59, Tryd.sizeOf59, Tryd.zeroValue59⟩
instance : Fld Tryd.prog 59 0 0 := ⟨fun h => a_field (sz := 1) Tryd.underlying59 rfl Tryd.sizeOf3 (by decide) h⟩
instance : Fld Tryd.prog 59 1 1 := ⟨fun h => a_field (sz := 1) Tryd.underlying59 rfl Tryd.sizeOf9 (by decide) h⟩
instance : Fld Tryd.prog 59 2 2 := ⟨fun h => a_field (sz := 1) Tryd.underlying59 rfl Tryd.sizeOf9 (by decide) h⟩
instance : Fld Tryd.prog 59 3 3 := ⟨fun h => a_field (sz := 1) Tryd.underlying59 rfl Tryd.sizeOf9 (by decide) h⟩
instance : Fld Tryd.prog 59 4 4 := ⟨fun h => a_field (sz := 1) Tryd.underlying59 rfl Tryd.sizeOf57 (by decide) h⟩
instance : Bld Tryd.prog 59 #[(0, 1), (1, 1), (2, 1), (3, 1), (4, 1)] #[.int .i64 0, .string ⟨#[]⟩, .string ⟨#[]⟩, .string ⟨#[]⟩, .slice none 0 0] := ⟨Tryd.zeroValue59, ⟨_, Tryd.underlying59, fun w => by kernel_rfl⟩⟩
instance : Und Tryd.prog 60 (.func #[24, 3, 3] #[4] false) := ⟨Tryd.underlying60⟩
instance : Ty1 Tryd.prog 60 (.nilFunc) := ⟨Tryd.isAgg60, Tryd.sizeOf60, Tryd.zeroValue60, rfl⟩
instance : Und Tryd.prog 61 (.pointer 67) := ⟨Tryd.underlying61⟩
instance : Ty1 Tryd.prog 61 (.pointer none) := ⟨Tryd.isAgg61, Tryd.sizeOf61, Tryd.zeroValue61, rfl⟩
instance : Und Tryd.prog 62 (.slice 88) := ⟨Tryd.underlying62⟩
instance : Ty1 Tryd.prog 62 (.slice none 0 0) := ⟨Tryd.isAgg62, Tryd.sizeOf62, Tryd.zeroValue62, rfl⟩
instance : SlT Tryd.prog 62 88 3 40 (.agg #[.string ⟨#[]⟩, .string ⟨#[]⟩, .map none]) := ⟨⟨Tryd.underlying62, by kernel_rfl, rfl, by decide⟩⟩
instance : Und Tryd.prog 63 (.pointer 65) := ⟨Tryd.underlying63⟩
instance : Ty1 Tryd.prog 63 (.pointer none) := ⟨Tryd.isAgg63, Tryd.sizeOf63, Tryd.zeroValue63, rfl⟩
instance : TyS Tryd.prog 64 2 [.pointer none, .slice none 0 0] := ⟨Tryd.isAgg64, Tryd.sizeOf64, Tryd.zeroValue64⟩
instance : Fld Tryd.prog 64 0 0 := ⟨fun h => a_field (sz := 1) Tryd.underlying64 rfl Tryd.sizeOf63 (by decide) h⟩
instance : Fld Tryd.prog 64 1 1 := ⟨fun h => a_field (sz := 1) Tryd.underlying64 rfl Tryd.sizeOf22 (by decide) h⟩
instance : Bld Tryd.prog 64 #[(0, 1), (1, 1)] #[.pointer none, .slice none 0 0] := ⟨Tryd.zeroValue64, ⟨_, Tryd.underlying64, fun w => by kernel_rfl⟩⟩
instance : TyS Tryd.prog 65 2 [.pointer none, .slice none 0 0] := ⟨Tryd.isAgg65, Tryd.sizeOf65, Tryd.zeroValue65⟩
instance : Fld Tryd.prog 65 0 0 := ⟨fun h => a_field (sz := 1) Tryd.underlying65 rfl Tryd.sizeOf63 (by decide) h⟩
instance : Fld Tryd.prog 65 1 1 := ⟨fun h => a_field (sz := 1) Tryd.underlying65 rfl Tryd.sizeOf22 (by decide) h⟩
instance : Bld Tryd.prog 65 #[(0, 1), (1, 1)] #[.pointer none, .slice none 0 0] := ⟨Tryd.zeroValue65, ⟨_, Tryd.underlying65, fun w => by kernel_rfl⟩⟩
instance : TyS Tryd.prog 66 7 [.string ⟨#[]⟩, .int .i64 0, .int .i64 0, .slice none 0 0, .slice none 0 0, .pointer none, .slice none 0 0] := ⟨Tryd.isAgg66, Tryd.sizeOf66, Tryd.zeroValue66⟩
instance : Fld Tryd.prog 66 0 0 := ⟨fun h => a_field (sz := 1) Tryd.underlying66 rfl Tryd.sizeOf9 (by decide) h⟩
instance : Fld Tryd.prog 66 1 1 := ⟨fun h => a_field (sz := 1) Tryd.underlying66 rfl Tryd.sizeOf3 (by decide) h⟩
instance : Fld Tryd.prog 66 2 2 := ⟨fun h => a_field (sz := 1) Tryd.underlying66 rfl Tryd.sizeOf25 (by decide) h⟩
instance : Fld Tryd.prog 66 3 3 := ⟨fun h => a_field (sz := 1) Tryd.underlying66 rfl Tryd.sizeOf24 (by decide) h⟩
instance : Fld Tryd.prog 66 4 4 := ⟨fun h => a_field (sz := 1) Tryd.underlying66 rfl Tryd.sizeOf62 (by decide) h⟩
instance : Fld Tryd.prog 66 5 5 := ⟨fun h => a_field (sz := 2) Tryd.underlying66 rfl Tryd.sizeOf65 (by decide) h⟩
instance : Bld Tryd.prog 66 #[(0, 1), (1, 1), (2, 1), (3, 1), (4, 1), (5, 2)] #[.string ⟨#[]⟩, .int .i64 0, .int .i64 0, .slice none 0 0, .slice none 0 0, .pointer none, .slice none 0 0] := ⟨Tryd.zeroValue66, ⟨_, Tryd.underlying66, fun w => by kernel_rfl⟩⟩
instance : TyS Tryd.prog 67 7 [.string ⟨#[]⟩, .int .i64 0, .int .i64 0, .slice none 0 0, .slice none 0 0, .pointer none, .slice none 0 0] := ⟨Tryd.isAgg67, Tryd.sizeOf67, Tryd.zeroValue67⟩
instance : Fld Tryd.prog 67 0 0 := ⟨fun h => a_field (sz := 1) Tryd.underlying67 rfl Tryd.sizeOf9 (by decide) h⟩
instance : Fld Tryd.prog 67 1 1 := ⟨fun h => a_field (sz := 1) Tryd.underlying67 rfl Tryd.sizeOf3 (by decide) h⟩
instance : Fld Tryd.prog 67 2 2 := ⟨fun h => a_field (sz := 1) Tryd.underlying67 rfl Tryd.sizeOf25 (by decide) h⟩
instance : Fld Tryd.prog 67 3 3 := ⟨fun h => a_field (sz := 1) Tryd.underlying67 rfl Tryd.sizeOf24 (by decide) h⟩
instance : Fld Tryd.prog 67 4 4 := ⟨fun h => a_field (sz := 1) Tryd.underlying67 rfl Tryd.sizeOf62 (by decide) h⟩
instance : Fld Tryd.prog 67 5 5 := ⟨fun h => a_field (sz := 2) Tryd.underlying67 rfl Tryd.sizeOf65 (by decide) h⟩
instance : Bld Tryd.prog 67 #[(0, 1), (1, 1), (2, 1), (3, 1), (4, 1), (5, 2)] #[.string ⟨#[]⟩, .int .i64 0, .int .i64 0, .slice none 0 0, .slice none 0 0, .pointer none, .slice none 0 0] := ⟨Tryd.zeroValue67, ⟨_, Tryd.underlying67, fun w => by kernel_rfl⟩⟩
instance : Und Tryd.prog 68 (.func #[3] #[5] false) := ⟨Tryd.underlying68⟩
instance : Ty1 Tryd.prog 68 (.nilFunc) := ⟨Tryd.isAgg68, Tryd.sizeOf68, Tryd.zeroValue68, rfl⟩
instance : Und Tryd.prog 69 (.func #[25] #[] false) := ⟨Tryd.underlying69⟩
instance : Ty1 Tryd.prog 69 (.nilFunc) := ⟨Tryd.isAgg69, Tryd.sizeOf69, Tryd.zeroValue69, rfl⟩
instance : Und Tryd.prog 70 (.func #[5] #[4] false) := ⟨Tryd.underlying70⟩
instance : Ty1 Tryd.prog 70 (.nilFunc) := ⟨Tryd.isAgg70, Tryd.sizeOf70, Tryd.zeroValue70, rfl⟩
instance : TyS Tryd.prog 71 3 [.string ⟨#[]⟩, .string ⟨#[]⟩, .string ⟨#[]⟩] := ⟨Tryd.isAgg71, Tryd.sizeOf71, Tryd.zeroValue71⟩
instance : Fld Tryd.prog 71 0 0 := ⟨fun h => a_field (sz := 1) Tryd.underlying71 rfl Tryd.sizeOf9 (by decide) h⟩
instance : Fld Tryd.prog 71 1 1 := ⟨fun h => a_field (sz := 1) Tryd.underlying71 rfl Tryd.sizeOf9 (by decide) h⟩
instance : Fld Tryd.prog 71 2 2 := ⟨fun h => a_field (sz := 1) Tryd.underlying71 rfl Tryd.sizeOf9 (by decide) h⟩
instance : Bld Tryd.prog 71 #[(0, 1), (1, 1), (2, 1)] #[.string ⟨#[]⟩, .string ⟨#[]⟩, .string ⟨#[]⟩] := ⟨Tryd.zeroValue71, ⟨_, Tryd.underlying71, fun w => by kernel_rfl⟩⟩
instance : Und Tryd.prog 72 (.interface #[("Error", 76)]) := ⟨Tryd.underlying72⟩
instance : Ty1 Tryd.prog 72 (.nilIface) := ⟨Tryd.isAgg72, Tryd.sizeOf72, Tryd.zeroValue72, rfl⟩
instance : Und Tryd.prog 73 (.interface #[("Error", 76)]) := ⟨Tryd.underlying73⟩
instance : Ty1 Tryd.prog 73 (.nilIface) := ⟨Tryd.isAgg73, Tryd.sizeOf73, Tryd.zeroValue73, rfl⟩
instance : Und Tryd.prog 75 (.func #[9] #[3, 73] false) := ⟨Tryd.underlying75⟩
instance : Ty1 Tryd.prog 75 (.nilFunc) := ⟨Tryd.isAgg75, Tryd.sizeOf75, Tryd.zeroValue75, rfl⟩
instance : Und Tryd.prog 76 (.func #[] #[9] false) := ⟨Tryd.underlying76⟩
instance : Ty1 Tryd.prog 76 (.nilFunc) := ⟨Tryd.isAgg76, Tryd.sizeOf76, Tryd.zeroValue76, rfl⟩
instance : Und Tryd.prog 77 (.func #[3, 30] #[4] false) := ⟨Tryd.underlying77⟩
instance : Ty1 Tryd.prog 77 (.nilFunc) := ⟨Tryd.isAgg77, Tryd.sizeOf77, Tryd.zeroValue77, rfl⟩
instance : Und Tryd.prog 78 (.func #[28] #[28] false) := ⟨Tryd.underlying78⟩
instance : Ty1 Tryd.prog 78 (.nilFunc) := ⟨Tryd.isAgg78, Tryd.sizeOf78, Tryd.zeroValue78, rfl⟩
instance : Und Tryd.prog 79 (.func #[28, 28] #[4] false) := ⟨Tryd.underlying79⟩
instance : Ty1 Tryd.prog 79 (.nilFunc) := ⟨Tryd.isAgg79, Tryd.sizeOf79, Tryd.zeroValue79, rfl⟩
instance : Und Tryd.prog 80 (.func #[9] #[] false) := ⟨Tryd.underlying80⟩
instance : Ty1 Tryd.prog 80 (.nilFunc) := ⟨Tryd.isAgg80, Tryd.sizeOf80, Tryd.zeroValue80, rfl⟩
instance : TyS Tryd.prog 81 2 [.string ⟨#[]⟩, .string ⟨#[]⟩] := ⟨Tryd.isAgg81, Tryd.sizeOf81, Tryd.zeroValue81⟩
instance : Fld Tryd.prog 81 0 0 := ⟨fun h => a_field (sz := 1) Tryd.underlying81 rfl Tryd.sizeOf9 (by decide) h⟩
instance : Fld Tryd.prog 81 1 1 := ⟨fun h => a_field (sz := 1) Tryd.underlying81 rfl Tryd.sizeOf9 (by decide) h⟩
instance : Bld Tryd.prog 81 #[(0, 1), (1, 1)] #[.string ⟨#[]⟩, .string ⟨#[]⟩] := ⟨Tryd.zeroValue81, ⟨_, Tryd.underlying81, fun w => by kernel_rfl⟩⟩
instance : TyS Tryd.prog 82 2 [.string ⟨#[]⟩, .string ⟨#[]⟩] := ⟨Tryd.isAgg82, Tryd.sizeOf82, Tryd.zeroValue82⟩
instance : Fld Tryd.prog 82 0 0 := ⟨fun h => a_field (sz := 1) Tryd.underlying82 rfl Tryd.sizeOf9 (by decide) h⟩
instance : Fld Tryd.prog 82 1 1 := ⟨fun h => a_field (sz := 1) Tryd.underlying82 rfl Tryd.sizeOf9 (by decide) h⟩
instance : Bld Tryd.prog 82 #[(0, 1), (1, 1)] #[.string ⟨#[]⟩, .string ⟨#[]⟩] := ⟨Tryd.zeroValue82, ⟨_, Tryd.underlying82, fun w => by kernel_rfl⟩⟩
instance : Und Tryd.prog 83 (.func #[] #[82] false) := ⟨Tryd.underlying83⟩
instance : Ty1 Tryd.prog 83 (.nilFunc) := ⟨Tryd.isAgg83, Tryd.sizeOf83, Tryd.zeroValue83, rfl⟩
instance : Und Tryd.prog 84 (.slice 95) := ⟨Tryd.underlying84⟩
instance : Ty1 Tryd.prog 84 (.slice none 0 0) := ⟨Tryd.isAgg84, Tryd.sizeOf84, Tryd.zeroValue84, rfl⟩
instance : SlT Tryd.prog 84 95 3 48 (.agg #[.string ⟨#[]⟩, .string ⟨#[]⟩, .string ⟨#[]⟩]) := ⟨⟨Tryd.underlying84, by kernel_rfl, rfl, by decide⟩⟩
instance : Und Tryd.prog 85 (.func #[] #[84] false) := ⟨Tryd.underlying85⟩
instance : Ty1 Tryd.prog 85 (.nilFunc) := ⟨Tryd.isAgg85, Tryd.sizeOf85, Tryd.zeroValue85, rfl⟩
instance : Und Tryd.prog 86 (.map 9 9) := ⟨Tryd.underlying86⟩
instance : Ty1 Tryd.prog 86 (.map none) := ⟨Tryd.isAgg86, Tryd.sizeOf86, Tryd.zeroValue86, rfl⟩
instance : TyS Tryd.prog 87 3 [.string ⟨#[]⟩, .string ⟨#[]⟩, .map none] := ⟨Tryd.isAgg87, Tryd.sizeOf87, Tryd.zeroValue87⟩
instance : Fld Tryd.prog 87 0 0 := ⟨fun h => a_field (sz := 2) Tryd.underlying87 rfl Tryd.sizeOf82 (by decide) h⟩
instance : Fld Tryd.prog 87 1 2 := ⟨fun h => a_field (sz := 1) Tryd.underlying87 rfl Tryd.sizeOf86 (by decide) h⟩
instance : Bld Tryd.prog 87 #[(0, 2), (2, 1)] #[.string ⟨#[]⟩, .string ⟨#[]⟩, .map none] := ⟨Tryd.zeroValue87, ⟨_, Tryd.underlying87, fun w => by kernel_rfl⟩⟩
instance : TyS Tryd.prog 88 3 [.string ⟨#[]⟩, .string ⟨#[]⟩, .map none] := ⟨Tryd.isAgg88, Tryd.sizeOf88, Tryd.zeroValue88⟩
instance : Fld Tryd.prog 88 0 0 := ⟨fun h => a_field (sz := 2) Tryd.underlying88 rfl Tryd.sizeOf82 (by decide) h⟩
instance : Fld Tryd.prog 88 1 2 := ⟨fun h => a_field (sz := 1) Tryd.underlying88 rfl Tryd.sizeOf86 (by decide) h⟩
instance : Bld Tryd.prog 88 #[(0, 2), (2, 1)] #[.string ⟨#[]⟩, .string ⟨#[]⟩, .map none] := ⟨Tryd.zeroValue88, ⟨_, Tryd.underlying88, fun w => by kernel_rfl⟩⟩
instance : Und Tryd.prog 89 (.func #[82, 84] #[88] false) := ⟨Tryd.underlying89⟩
instance : Ty1 Tryd.prog 89 (.nilFunc) := ⟨Tryd.isAgg89, Tryd.sizeOf89, Tryd.zeroValue89, rfl⟩
instance : Und Tryd.prog 90 (.func #[88] #[] false) := ⟨Tryd.underlying90⟩
instance : Ty1 Tryd.prog 90 (.nilFunc) := ⟨Tryd.isAgg90, Tryd.sizeOf90, Tryd.zeroValue90, rfl⟩
instance : Und Tryd.prog 91 (.func #[9] #[3] false) := ⟨Tryd.underlying91⟩
instance : Ty1 Tryd.prog 91 (.nilFunc) := ⟨Tryd.isAgg91, Tryd.sizeOf91, Tryd.zeroValue91, rfl⟩
instance : Und Tryd.prog 92 (.pointer 5) := ⟨Tryd.underlying92⟩
instance : Ty1 Tryd.prog 92 (.pointer none) := ⟨Tryd.isAgg92, Tryd.sizeOf92, Tryd.zeroValue92, rfl⟩
instance : Und Tryd.prog 93 (.func #[9, 5] #[3] false) := ⟨Tryd.underlying93⟩
instance : Ty1 Tryd.prog 93 (.nilFunc) := ⟨Tryd.isAgg93, Tryd.sizeOf93, Tryd.zeroValue93, rfl⟩
instance : TyS Tryd.prog 94 3 [.string ⟨#[]⟩, .string ⟨#[]⟩, .string ⟨#[]⟩] := ⟨Tryd.isAgg94, Tryd.sizeOf94, Tryd.zeroValue94⟩
instance : Fld Tryd.prog 94 0 0 := ⟨fun h => a_field (sz := 2) Tryd.underlying94 rfl Tryd.sizeOf82 (by decide) h⟩
instance : Fld Tryd.prog 94 1 2 := ⟨fun h => a_field (sz := 1) Tryd.underlying94 rfl Tryd.sizeOf9 (by decide) h⟩
instance : Bld Tryd.prog 94 #[(0, 2), (2, 1)] #[.string ⟨#[]⟩, .string ⟨#[]⟩, .string ⟨#[]⟩] := ⟨Tryd.zeroValue94, ⟨_, Tryd.underlying94, fun w => by kernel_rfl⟩⟩
instance : TyS Tryd.prog 95 3 [.string ⟨#[]⟩, .string ⟨#[]⟩, .string ⟨#[]⟩] := ⟨Tryd.isAgg95, Tryd.sizeOf95, Tryd.zeroValue95⟩
instance : Fld Tryd.prog 95 0 0 := ⟨fun h => a_field (sz := 2) Tryd.underlying95 rfl Tryd.sizeOf82 (by decide) h⟩
instance : Fld Tryd.prog 95 1 2 := ⟨fun h => a_field (sz := 1) Tryd.underlying95 rfl Tryd.sizeOf9 (by decide) h⟩
instance : Bld Tryd.prog 95 #[(0, 2), (2, 1)] #[.string ⟨#[]⟩, .string ⟨#[]⟩, .string ⟨#[]⟩] := ⟨Tryd.zeroValue95, ⟨_, Tryd.underlying95, fun w => by kernel_rfl⟩⟩
instance : Und Tryd.prog 96 (.func #[84] #[95] false) := ⟨Tryd.underlying96⟩
instance : Ty1 Tryd.prog 96 (.nilFunc) := ⟨Tryd.isAgg96, Tryd.sizeOf96, Tryd.zeroValue96, rfl⟩
instance : Und Tryd.prog 98 (.func #[] #[9, 4] false) := ⟨Tryd.underlying98⟩
instance : Ty1 Tryd.prog 98 (.nilFunc) := ⟨Tryd.isAgg98, Tryd.sizeOf98, Tryd.zeroValue98, rfl⟩
instance : Und Tryd.prog 99 (.func #[88, 9] #[9] false) := ⟨Tryd.underlying99⟩
instance : Ty1 Tryd.prog 99 (.nilFunc) := ⟨Tryd.isAgg99, Tryd.sizeOf99, Tryd.zeroValue99, rfl⟩
instance : Und Tryd.prog 101 (.func #[9, 3] #[3, 3, 4] false) := ⟨Tryd.underlying101⟩
instance : Ty1 Tryd.prog 101 (.nilFunc) := ⟨Tryd.isAgg101, Tryd.sizeOf101, Tryd.zeroValue101, rfl⟩
instance : Und Tryd.prog 102 (.unsafePointer) := ⟨Tryd.underlying102⟩
instance : Ty1 Tryd.prog 102 (.pointer none) := ⟨Tryd.isAgg102, Tryd.sizeOf102, Tryd.zeroValue102, rfl⟩
instance : Und Tryd.prog 103 (.func #[102] #[102] false) := ⟨Tryd.underlying103⟩
instance : Ty1 Tryd.prog 103 (.nilFunc) := ⟨Tryd.isAgg103, Tryd.sizeOf103, Tryd.zeroValue103, rfl⟩
instance : Und Tryd.prog 105 (.func #[9] #[21, 3] false) := ⟨Tryd.underlying105⟩
instance : Ty1 Tryd.prog 105 (.nilFunc) := ⟨Tryd.isAgg105, Tryd.sizeOf105, Tryd.zeroValue105, rfl⟩
instance : Und Tryd.prog 106 (.func #[21] #[4] false) := ⟨Tryd.underlying106⟩
instance : Ty1 Tryd.prog 106 (.nilFunc) := ⟨Tryd.isAgg106, Tryd.sizeOf106, Tryd.zeroValue106, rfl⟩
instance : Und Tryd.prog 107 (.func #[84, 108] #[4] false) := ⟨Tryd.underlying107⟩
instance : Ty1 Tryd.prog 107 (.nilFunc) := ⟨Tryd.isAgg107, Tryd.sizeOf107, Tryd.zeroValue107, rfl⟩
instance : Und Tryd.prog 108 (.func #[95] #[4] false) := ⟨Tryd.underlying108⟩
instance : Ty1 Tryd.prog 108 (.nilFunc) := ⟨Tryd.isAgg108, Tryd.sizeOf108, Tryd.zeroValue108, rfl⟩
instance : Und Tryd.prog 109 (.func #[115] #[] false) := ⟨Tryd.underlying109⟩
instance : Ty1 Tryd.prog 109 (.nilFunc) := ⟨Tryd.isAgg109, Tryd.sizeOf109, Tryd.zeroValue109, rfl⟩
instance : Und Tryd.prog 110 (.func #[115] #[] false) := ⟨Tryd.underlying110⟩
instance : Ty1 Tryd.prog 110 (.nilFunc) := ⟨Tryd.isAgg110, Tryd.sizeOf110, Tryd.zeroValue110, rfl⟩
instance : Und Tryd.prog 111 (.func #[62] #[110] false) := ⟨Tryd.underlying111⟩
instance : Ty1 Tryd.prog 111 (.nilFunc) := ⟨Tryd.isAgg111, Tryd.sizeOf111, Tryd.zeroValue111, rfl⟩
instance : Und Tryd.prog 112 (.int .u64) := ⟨Tryd.underlying112⟩
instance : Ty1 Tryd.prog 112 (.int .u64 0) := ⟨Tryd.isAgg112, Tryd.sizeOf112, Tryd.zeroValue112, rfl⟩
instance : Und Tryd.prog 113 (.func #[84, 108] #[3] false) := ⟨Tryd.underlying113⟩
instance : Ty1 Tryd.prog 113 (.nilFunc) := ⟨Tryd.isAgg113, Tryd.sizeOf113, Tryd.zeroValue113, rfl⟩
instance : Und Tryd.prog 114 (.func #[] #[3] false) := ⟨Tryd.underlying114⟩
instance : Ty1 Tryd.prog 114 (.nilFunc) := ⟨Tryd.isAgg114, Tryd.sizeOf114, Tryd.zeroValue114, rfl⟩
instance : Und Tryd.prog 115 (.func #[3, 88] #[4] false) := ⟨Tryd.underlying115⟩
instance : Ty1 Tryd.prog 115 (.nilFunc) := ⟨Tryd.isAgg115, Tryd.sizeOf115, Tryd.zeroValue115, rfl⟩
instance : Und Tryd.prog 116 (.func #[3, 3] #[3] false) := ⟨Tryd.underlying116⟩
instance : Ty1 Tryd.prog 116 (.nilFunc) := ⟨Tryd.isAgg116, Tryd.sizeOf116, Tryd.zeroValue116, rfl⟩
instance : Und Tryd.prog 117 (.func #[3] #[9, 4] false) := ⟨Tryd.underlying117⟩
instance : Ty1 Tryd.prog 117 (.nilFunc) := ⟨Tryd.isAgg117, Tryd.sizeOf117, Tryd.zeroValue117, rfl⟩
instance : TyS Tryd.prog 119 2 [.int .u8 0, .int .u8 0] := ⟨Tryd.isAgg119, Tryd.sizeOf119, Tryd.zeroValue119⟩
instance : Fld Tryd.prog 119 0 0 := ⟨fun h => a_field (sz := 1) Tryd.underlying119 rfl Tryd.sizeOf5 (by decide) h⟩
instance : Fld Tryd.prog 119 1 1 := ⟨fun h => a_field (sz := 1) Tryd.underlying119 rfl Tryd.sizeOf5 (by decide) h⟩
instance : Bld Tryd.prog 119 #[(0, 1), (1, 1)] #[.int .u8 0, .int .u8 0] := ⟨Tryd.zeroValue119, ⟨_, Tryd.underlying119, fun w => by kernel_rfl⟩⟩
instance : TyS Tryd.prog 120 2 [.int .u8 0, .int .u8 0] := ⟨Tryd.isAgg120, Tryd.sizeOf120, Tryd.zeroValue120⟩
instance : Fld Tryd.prog 120 0 0 := ⟨fun h => a_field (sz := 1) Tryd.underlying120 rfl Tryd.sizeOf5 (by decide) h⟩
instance : Fld Tryd.prog 120 1 1 := ⟨fun h => a_field (sz := 1) Tryd.underlying120 rfl Tryd.sizeOf5 (by decide) h⟩
instance : Bld Tryd.prog 120 #[(0, 1), (1, 1)] #[.int .u8 0, .int .u8 0] := ⟨Tryd.zeroValue120, ⟨_, Tryd.underlying120, fun w => by kernel_rfl⟩⟩
instance : Und Tryd.prog 122 (.int .u64) := ⟨Tryd.underlying122⟩
instance : Ty1 Tryd.prog 122 (.int .u64 0) := ⟨Tryd.isAgg122, Tryd.sizeOf122, Tryd.zeroValue122, rfl⟩
instance : Und Tryd.prog 124 (.func #[9, 3, 3] #[122, 73] false) := ⟨Tryd.underlying124⟩
instance : Ty1 Tryd.prog 124 (.nilFunc) := ⟨Tryd.isAgg124, Tryd.sizeOf124, Tryd.zeroValue124, rfl⟩
instance : Und Tryd.prog 125 (.func #[9, 9, 3, 3, 73] #[73] false) := ⟨Tryd.underlying125⟩
instance : Ty1 Tryd.prog 125 (.nilFunc) := ⟨Tryd.isAgg125, Tryd.sizeOf125, Tryd.zeroValue125, rfl⟩
instance : Und Tryd.prog 126 (.int .i64) := ⟨Tryd.underlying126⟩
instance : Ty1 Tryd.prog 126 (.int .i64 0) := ⟨Tryd.isAgg126, Tryd.sizeOf126, Tryd.zeroValue126, rfl⟩
instance : Und Tryd.prog 127 (.func #[5] #[5] false) := ⟨Tryd.underlying127⟩
instance : Ty1 Tryd.prog 127 (.nilFunc) := ⟨Tryd.isAgg127, Tryd.sizeOf127, Tryd.zeroValue127, rfl⟩
instance : Und Tryd.prog 128 (.pointer 132) := ⟨Tryd.underlying128⟩
instance : Ty1 Tryd.prog 128 (.pointer none) := ⟨Tryd.isAgg128, Tryd.sizeOf128, Tryd.zeroValue128, rfl⟩
instance : Und Tryd.prog 129 (.func #[9, 9] #[128] false) := ⟨Tryd.underlying129⟩
instance : Ty1 Tryd.prog 129 (.nilFunc) := ⟨Tryd.isAgg129, Tryd.sizeOf129, Tryd.zeroValue129, rfl⟩
instance : Und Tryd.prog 130 (.func #[9, 9, 3] #[128] false) := ⟨Tryd.underlying130⟩
instance : Ty1 Tryd.prog 130 (.nilFunc) := ⟨Tryd.isAgg130, Tryd.sizeOf130, Tryd.zeroValue130, rfl⟩
instance : TyS Tryd.prog 131 3 [.string ⟨#[]⟩, .string ⟨#[]⟩, .nilIface] := ⟨Tryd.isAgg131, Tryd.sizeOf131, Tryd.zeroValue131⟩
instance : Fld Tryd.prog 131 0 0 := ⟨fun h => a_field (sz := 1) Tryd.underlying131 rfl Tryd.sizeOf9 (by decide) h⟩
instance : Fld Tryd.prog 131 1 1 := ⟨fun h => a_field (sz := 1) Tryd.underlying131 rfl Tryd.sizeOf9 (by decide) h⟩
instance : Fld Tryd.prog 131 2 2 := ⟨fun h => a_field (sz := 1) Tryd.underlying131 rfl Tryd.sizeOf73 (by decide) h⟩
instance : Bld Tryd.prog 131 #[(0, 1), (1, 1), (2, 1)] #[.string ⟨#[]⟩, .string ⟨#[]⟩, .nilIface] := ⟨Tryd.zeroValue131, ⟨_, Tryd.underlying131, fun w => by kernel_rfl⟩⟩
instance : TyS Tryd.prog 132 3 [.string ⟨#[]⟩, .string ⟨#[]⟩, .nilIface] := ⟨Tryd.isAgg132, Tryd.sizeOf132, Tryd.zeroValue132⟩
instance : Fld Tryd.prog 132 0 0 := ⟨fun h => a_field (sz := 1) Tryd.underlying132 rfl Tryd.sizeOf9 (by decide) h⟩
instance : Fld Tryd.prog 132 1 1 := ⟨fun h => a_field (sz := 1) Tryd.underlying132 rfl Tryd.sizeOf9 (by decide) h⟩
instance : Fld Tryd.prog 132 2 2 := ⟨fun h => a_field (sz := 1) Tryd.underlying132 rfl Tryd.sizeOf73 (by decide) h⟩
instance : Bld Tryd.prog 132 #[(0, 1), (1, 1), (2, 1)] #[.string ⟨#[]⟩, .string ⟨#[]⟩, .nilIface] := ⟨Tryd.zeroValue132, ⟨_, Tryd.underlying132, fun w => by kernel_rfl⟩⟩
instance : Und Tryd.prog 133 (.func #[9] #[73] false) := ⟨Tryd.underlying133⟩
instance : Ty1 Tryd.prog 133 (.nilFunc) := ⟨Tryd.isAgg133, Tryd.sizeOf133, Tryd.zeroValue133, rfl⟩
instance : Und Tryd.prog 134 (.func #[3] #[9] false) := ⟨Tryd.underlying134⟩
instance : Ty1 Tryd.prog 134 (.nilFunc) := ⟨Tryd.isAgg134, Tryd.sizeOf134, Tryd.zeroValue134, rfl⟩
instance : Und Tryd.prog 135 (.pointer 137) := ⟨Tryd.underlying135⟩
instance : Ty1 Tryd.prog 135 (.pointer none) := ⟨Tryd.isAgg135, Tryd.sizeOf135, Tryd.zeroValue135, rfl⟩
instance : TyS Tryd.prog 136 1 [.string ⟨#[]⟩] := ⟨Tryd.isAgg136, Tryd.sizeOf136, Tryd.zeroValue136⟩
instance : TyS Tryd.prog 137 1 [.string ⟨#[]⟩] := ⟨Tryd.isAgg137, Tryd.sizeOf137, Tryd.zeroValue137⟩
instance : Und Tryd.prog 138 (.func #[2, 3] #[9] false) := ⟨Tryd.underlying138⟩
instance : Ty1 Tryd.prog 138 (.nilFunc) := ⟨Tryd.isAgg138, Tryd.sizeOf138, Tryd.zeroValue138, rfl⟩
instance : Und Tryd.prog 140 (.func #[122] #[3] false) := ⟨Tryd.underlying140⟩
instance : Ty1 Tryd.prog 140 (.nilFunc) := ⟨Tryd.isAgg140, Tryd.sizeOf140, Tryd.zeroValue140, rfl⟩
instance : Und Tryd.prog 141 (.func #[22, 122] #[] false) := ⟨Tryd.underlying141⟩
instance : Ty1 Tryd.prog 141 (.nilFunc) := ⟨Tryd.isAgg141, Tryd.sizeOf141, Tryd.zeroValue141, rfl⟩
instance : Und Tryd.prog 143 (.func #[22, 122, 3, 4, 4] #[22, 9] false) := ⟨Tryd.underlying143⟩
instance : Ty1 Tryd.prog 143 (.nilFunc) := ⟨Tryd.isAgg143, Tryd.sizeOf143, Tryd.zeroValue143, rfl⟩
instance : Und Tryd.prog 144 (.func #[3] #[3] false) := ⟨Tryd.underlying144⟩
instance : Ty1 Tryd.prog 144 (.nilFunc) := ⟨Tryd.isAgg144, Tryd.sizeOf144, Tryd.zeroValue144, rfl⟩
instance : Und Tryd.prog 145 (.func #[4] #[3] false) := ⟨Tryd.underlying145⟩
instance : Ty1 Tryd.prog 145 (.nilFunc) := ⟨Tryd.isAgg145, Tryd.sizeOf145, Tryd.zeroValue145, rfl⟩
instance : Und Tryd.prog 147 (.int .u32) := ⟨Tryd.underlying147⟩
instance : Ty1 Tryd.prog 147 (.int .u32 0) := ⟨Tryd.isAgg147, Tryd.sizeOf147, Tryd.zeroValue147, rfl⟩
instance : Und Tryd.prog 149 (.func #[3] #[4] false) := ⟨Tryd.underlying149⟩
instance : Ty1 Tryd.prog 149 (.nilFunc) := ⟨Tryd.isAgg149, Tryd.sizeOf149, Tryd.zeroValue149, rfl⟩
instance : Und Tryd.prog 150 (.func #[112] #[3] false) := ⟨Tryd.underlying150⟩
instance : Ty1 Tryd.prog 150 (.nilFunc) := ⟨Tryd.isAgg150, Tryd.sizeOf150, Tryd.zeroValue150, rfl⟩
instance : Und Tryd.prog 151 (.func #[147] #[3] false) := ⟨Tryd.underlying151⟩
instance : Ty1 Tryd.prog 151 (.nilFunc) := ⟨Tryd.isAgg151, Tryd.sizeOf151, Tryd.zeroValue151, rfl⟩
instance : TyS Tryd.prog 154 4 [.pointer none, .pointer none, .pointer none, .string ⟨#[]⟩] := ⟨Tryd.isAgg154, Tryd.sizeOf154, Tryd.zeroValue154⟩
instance : Fld Tryd.prog 154 0 0 := ⟨fun h => a_field (sz := 1) Tryd.underlying154 rfl Tryd.sizeOf17 (by decide) h⟩
instance : Fld Tryd.prog 154 1 1 := ⟨fun h => a_field (sz := 1) Tryd.underlying154 rfl Tryd.sizeOf17 (by decide) h⟩
instance : Fld Tryd.prog 154 2 2 := ⟨fun h => a_field (sz := 1) Tryd.underlying154 rfl Tryd.sizeOf17 (by decide) h⟩
instance : Fld Tryd.prog 154 3 3 := ⟨fun h => a_field (sz := 1) Tryd.underlying154 rfl Tryd.sizeOf9 (by decide) h⟩
instance : Bld Tryd.prog 154 #[(0, 1), (1, 1), (2, 1), (3, 1)] #[.pointer none, .pointer none, .pointer none, .string ⟨#[]⟩] := ⟨Tryd.zeroValue154, ⟨_, Tryd.underlying154, fun w => by kernel_rfl⟩⟩
instance : TyS Tryd.prog 155 4 [.pointer none, .pointer none, .pointer none, .string ⟨#[]⟩] := ⟨Tryd.isAgg155, Tryd.sizeOf155, Tryd.zeroValue155⟩
instance : Fld Tryd.prog 155 0 0 := ⟨fun h => a_field (sz := 1) Tryd.underlying155 rfl Tryd.sizeOf17 (by decide) h⟩
instance : Fld Tryd.prog 155 1 1 := ⟨fun h => a_field (sz := 1) Tryd.underlying155 rfl Tryd.sizeOf17 (by decide) h⟩
instance : Fld Tryd.prog 155 2 2 := ⟨fun h => a_field (sz := 1) Tryd.underlying155 rfl Tryd.sizeOf17 (by decide) h⟩
instance : Fld Tryd.prog 155 3 3 := ⟨fun h => a_field (sz := 1) Tryd.underlying155 rfl Tryd.sizeOf9 (by decide) h⟩
instance : Bld Tryd.prog 155 #[(0, 1), (1, 1), (2, 1), (3, 1)] #[.pointer none, .pointer none, .pointer none, .string ⟨#[]⟩] := ⟨Tryd.zeroValue155, ⟨_, Tryd.underlying155, fun w => by kernel_rfl⟩⟩
instance : TyS Tryd.prog 157 0 [] := ⟨Tryd.isAgg157, Tryd.sizeOf157, Tryd.zeroValue157⟩
instance : Bld Tryd.prog 157 #[(0, 0)] #[] := ⟨Tryd.zeroValue157, ⟨_, Tryd.underlying157, fun w => by kernel_rfl⟩⟩
instance : TyS Tryd.prog 158 0 [] := ⟨Tryd.isAgg158, Tryd.sizeOf158, Tryd.zeroValue158⟩
instance : Bld Tryd.prog 158 #[(0, 0)] #[] := ⟨Tryd.zeroValue158, ⟨_, Tryd.underlying158, fun w => by kernel_rfl⟩⟩
instance : Und Tryd.prog 159 (.int .u8) := ⟨Tryd.underlying159⟩
instance : Ty1 Tryd.prog 159 (.int .u8 0) := ⟨Tryd.isAgg159, Tryd.sizeOf159, Tryd.zeroValue159, rfl⟩
instance : Und Tryd.prog 160 (.int .u8) := ⟨Tryd.underlying160⟩
instance : Ty1 Tryd.prog 160 (.int .u8 0) := ⟨Tryd.isAgg160, Tryd.sizeOf160, Tryd.zeroValue160, rfl⟩
instance : Und Tryd.prog 161 (.func #[102, 102] #[4] false) := ⟨Tryd.underlying161⟩
instance : Ty1 Tryd.prog 161 (.nilFunc) := ⟨Tryd.isAgg161, Tryd.sizeOf161, Tryd.zeroValue161, rfl⟩
instance : Und Tryd.prog 162 (.int .i32) := ⟨Tryd.underlying162⟩
instance : Ty1 Tryd.prog 162 (.int .i32 0) := ⟨Tryd.isAgg162, Tryd.sizeOf162, Tryd.zeroValue162, rfl⟩
instance : Und Tryd.prog 163 (.int .i32) := ⟨Tryd.underlying163⟩
instance : Ty1 Tryd.prog 163 (.int .i32 0) := ⟨Tryd.isAgg163, Tryd.sizeOf163, Tryd.zeroValue163, rfl⟩
instance : TyS Tryd.prog 164 11 [.int .u64 0, .int .u64 0, .int .u32 0, .int .u8 0, .int .u8 0, .int .u8 0, .int .u8 0, .nilFunc, .pointer none, .int .i32 0, .int .i32 0] := ⟨Tryd.isAgg164, Tryd.sizeOf164, Tryd.zeroValue164⟩
instance : Fld Tryd.prog 164 0 0 := ⟨fun h => a_field (sz := 1) Tryd.underlying164 rfl Tryd.sizeOf12 (by decide) h⟩
instance : Fld Tryd.prog 164 1 1 := ⟨fun h => a_field (sz := 1) Tryd.underlying164 rfl Tryd.sizeOf12 (by decide) h⟩
instance : Fld Tryd.prog 164 2 2 := ⟨fun h => a_field (sz := 1) Tryd.underlying164 rfl Tryd.sizeOf147 (by decide) h⟩
instance : Fld Tryd.prog 164 3 3 := ⟨fun h => a_field (sz := 1) Tryd.underlying164 rfl Tryd.sizeOf159 (by decide) h⟩
instance : Fld Tryd.prog 164 4 4 := ⟨fun h => a_field (sz := 1) Tryd.underlying164 rfl Tryd.sizeOf5 (by decide) h⟩
instance : Fld Tryd.prog 164 5 5 := ⟨fun h => a_field (sz := 1) Tryd.underlying164 rfl Tryd.sizeOf5 (by decide) h⟩
instance : Fld Tryd.prog 164 6 6 := ⟨fun h => a_field (sz := 1) Tryd.underlying164 rfl Tryd.sizeOf160 (by decide) h⟩
instance : Fld Tryd.prog 164 7 7 := ⟨fun h => a_field (sz := 1) Tryd.underlying164 rfl Tryd.sizeOf161 (by decide) h⟩
instance : Fld Tryd.prog 164 8 8 := ⟨fun h => a_field (sz := 1) Tryd.underlying164 rfl Tryd.sizeOf92 (by decide) h⟩
instance : Fld Tryd.prog 164 9 9 := ⟨fun h => a_field (sz := 1) Tryd.underlying164 rfl Tryd.sizeOf162 (by decide) h⟩
instance : Fld Tryd.prog 164 10 10 := ⟨fun h => a_field (sz := 1) Tryd.underlying164 rfl Tryd.sizeOf163 (by decide) h⟩
instance : Bld Tryd.prog 164 #[(0, 1), (1, 1), (2, 1), (3, 1), (4, 1), (5, 1), (6, 1), (7, 1), (8, 1), (9, 1), (10, 1)] #[.int .u64 0, .int .u64 0, .int .u32 0, .int .u8 0, .int .u8 0, .int .u8 0, .int .u8 0, .nilFunc, .pointer none, .int .i32 0, .int .i32 0] := ⟨Tryd.zeroValue164, ⟨_, Tryd.underlying164, fun w => by kernel_rfl⟩⟩
instance : TyS Tryd.prog 165 11 [.int .u64 0, .int .u64 0, .int .u32 0, .int .u8 0, .int .u8 0, .int .u8 0, .int .u8 0, .nilFunc, .pointer none, .int .i32 0, .int .i32 0] := ⟨Tryd.isAgg165, Tryd.sizeOf165, Tryd.zeroValue165⟩
instance : Fld Tryd.prog 165 0 0 := ⟨fun h => a_field (sz := 1) Tryd.underlying165 rfl Tryd.sizeOf12 (by decide) h⟩
instance : Fld Tryd.prog 165 1 1 := ⟨fun h => a_field (sz := 1) Tryd.underlying165 rfl Tryd.sizeOf12 (by decide) h⟩
instance : Fld Tryd.prog 165 2 2 := ⟨fun h => a_field (sz := 1) Tryd.underlying165 rfl Tryd.sizeOf147 (by decide) h⟩
instance : Fld Tryd.prog 165 3 3 := ⟨fun h => a_field (sz := 1) Tryd.underlying165 rfl Tryd.sizeOf159 (by decide) h⟩
instance : Fld Tryd.prog 165 4 4 := ⟨fun h => a_field (sz := 1) Tryd.underlying165 rfl Tryd.sizeOf5 (by decide) h⟩
instance : Fld Tryd.prog 165 5 5 := ⟨fun h => a_field (sz := 1) Tryd.underlying165 rfl Tryd.sizeOf5 (by decide) h⟩
instance : Fld Tryd.prog 165 6 6 := ⟨fun h => a_field (sz := 1) Tryd.underlying165 rfl Tryd.sizeOf160 (by decide) h⟩
instance : Fld Tryd.prog 165 7 7 := ⟨fun h => a_field (sz := 1) Tryd.underlying165 rfl Tryd.sizeOf161 (by decide) h⟩
instance : Fld Tryd.prog 165 8 8 := ⟨fun h => a_field (sz := 1) Tryd.underlying165 rfl Tryd.sizeOf92 (by decide) h⟩
instance : Fld Tryd.prog 165 9 9 := ⟨fun h => a_field (sz := 1) Tryd.underlying165 rfl Tryd.sizeOf162 (by decide) h⟩
instance : Fld Tryd.prog 165 10 10 := ⟨fun h => a_field (sz := 1) Tryd.underlying165 rfl Tryd.sizeOf163 (by decide) h⟩
instance : Bld Tryd.prog 165 #[(0, 1), (1, 1), (2, 1), (3, 1), (4, 1), (5, 1), (6, 1), (7, 1), (8, 1), (9, 1), (10, 1)] #[.int .u64 0, .int .u64 0, .int .u32 0, .int .u8 0, .int .u8 0, .int .u8 0, .int .u8 0, .nilFunc, .pointer none, .int .i32 0, .int .i32 0] := ⟨Tryd.zeroValue165, ⟨_, Tryd.underlying165, fun w => by kernel_rfl⟩⟩
end Go.Proofs.YtlflpbflpcmckaaDoor
