/-
  The seat's types: what is asked of each, as instances. Printed by a program (ty.py) out of Lean's own print.
-/
import Derived.Test.YtififikdlcohpaaDoorProg
import Derived.Test.YtififikdlcohpaaDoorEzSep
namespace Go.Proofs.YtififikdlcohpaaDoor
open Go Go.Ez
set_option linter.unusedVariables false

instance : Und Tryd.prog 1 (.func #[] #[] false) := ⟨Tryd.underlying1⟩
instance : Ty1 Tryd.prog 1 (.nilFunc) := ⟨Tryd.isAgg1, Tryd.sizeOf1, Tryd.zeroValue1, rfl⟩
instance : Und Tryd.prog 2 (.int .i64) := ⟨Tryd.underlying2⟩
instance : Ty1 Tryd.prog 2 (.int .i64 0) := ⟨Tryd.isAgg2, Tryd.sizeOf2, Tryd.zeroValue2, rfl⟩
instance : Und Tryd.prog 3 (.int .i64) := ⟨Tryd.underlying3⟩
instance : Ty1 Tryd.prog 3 (.int .i64 0) := ⟨Tryd.isAgg3, Tryd.sizeOf3, Tryd.zeroValue3, rfl⟩
instance : Und Tryd.prog 4 (.bool) := ⟨Tryd.underlying4⟩
instance : Ty1 Tryd.prog 4 (.bool false) := ⟨Tryd.isAgg4, Tryd.sizeOf4, Tryd.zeroValue4, rfl⟩
instance : Und Tryd.prog 5 (.int .u8) := ⟨Tryd.underlying5⟩
instance : Ty1 Tryd.prog 5 (.int .u8 0) := ⟨Tryd.isAgg5, Tryd.sizeOf5, Tryd.zeroValue5, rfl⟩
instance : Und Tryd.prog 6 (.int .u8) := ⟨Tryd.underlying6⟩
instance : Ty1 Tryd.prog 6 (.int .u8 0) := ⟨Tryd.isAgg6, Tryd.sizeOf6, Tryd.zeroValue6, rfl⟩
instance : TyS Tryd.prog 7 4 [.int .i64 0, .int .i64 0, .bool false, .int .u8 0] := ⟨Tryd.isAgg7, Tryd.sizeOf7, Tryd.zeroValue7⟩
instance : Fld Tryd.prog 7 0 0 := ⟨fun h => a_field (sz := 1) Tryd.underlying7 rfl Tryd.sizeOf2 (by decide) h⟩
instance : Fld Tryd.prog 7 1 1 := ⟨fun h => a_field (sz := 1) Tryd.underlying7 rfl Tryd.sizeOf3 (by decide) h⟩
instance : Fld Tryd.prog 7 2 2 := ⟨fun h => a_field (sz := 1) Tryd.underlying7 rfl Tryd.sizeOf4 (by decide) h⟩
instance : Fld Tryd.prog 7 3 3 := ⟨fun h => a_field (sz := 1) Tryd.underlying7 rfl Tryd.sizeOf6 (by decide) h⟩
instance : Bld Tryd.prog 7 #[(0, 1), (1, 1), (2, 1), (3, 1)] #[.int .i64 0, .int .i64 0, .bool false, .int .u8 0] := ⟨Tryd.zeroValue7, ⟨_, Tryd.underlying7, fun w => by kernel_rfl⟩⟩
instance : TyS Tryd.prog 8 4 [.int .i64 0, .int .i64 0, .bool false, .int .u8 0] := ⟨Tryd.isAgg8, Tryd.sizeOf8, Tryd.zeroValue8⟩
instance : Fld Tryd.prog 8 0 0 := ⟨fun h => a_field (sz := 1) Tryd.underlying8 rfl Tryd.sizeOf2 (by decide) h⟩
instance : Fld Tryd.prog 8 1 1 := ⟨fun h => a_field (sz := 1) Tryd.underlying8 rfl Tryd.sizeOf3 (by decide) h⟩
instance : Fld Tryd.prog 8 2 2 := ⟨fun h => a_field (sz := 1) Tryd.underlying8 rfl Tryd.sizeOf4 (by decide) h⟩
instance : Fld Tryd.prog 8 3 3 := ⟨fun h => a_field (sz := 1) Tryd.underlying8 rfl Tryd.sizeOf6 (by decide) h⟩
instance : Bld Tryd.prog 8 #[(0, 1), (1, 1), (2, 1), (3, 1)] #[.int .i64 0, .int .i64 0, .bool false, .int .u8 0] := ⟨Tryd.zeroValue8, ⟨_, Tryd.underlying8, fun w => by kernel_rfl⟩⟩
instance : Und Tryd.prog 9 (.string) := ⟨Tryd.underlying9⟩
instance : Ty1 Tryd.prog 9 (.string ⟨#[]⟩) := ⟨Tryd.isAgg9, Tryd.sizeOf9, Tryd.zeroValue9, rfl⟩
instance : Und Tryd.prog 10 (.string) := ⟨Tryd.underlying10⟩
instance : Ty1 Tryd.prog 10 (.string ⟨#[]⟩) := ⟨Tryd.isAgg10, Tryd.sizeOf10, Tryd.zeroValue10, rfl⟩
instance : Und Tryd.prog 11 (.string) := ⟨Tryd.underlying11⟩
instance : Ty1 Tryd.prog 11 (.string ⟨#[]⟩) := ⟨Tryd.isAgg11, Tryd.sizeOf11, Tryd.zeroValue11, rfl⟩
instance : Und Tryd.prog 12 (.int .u64) := ⟨Tryd.underlying12⟩
instance : Ty1 Tryd.prog 12 (.int .u64 0) := ⟨Tryd.isAgg12, Tryd.sizeOf12, Tryd.zeroValue12, rfl⟩
instance : TyS Tryd.prog 13 2 [.string ⟨#[]⟩, .int .u64 0] := ⟨Tryd.isAgg13, Tryd.sizeOf13, Tryd.zeroValue13⟩
instance : Fld Tryd.prog 13 0 0 := ⟨fun h => a_field (sz := 1) Tryd.underlying13 rfl Tryd.sizeOf9 (by decide) h⟩
instance : Fld Tryd.prog 13 1 1 := ⟨fun h => a_field (sz := 1) Tryd.underlying13 rfl Tryd.sizeOf12 (by decide) h⟩
instance : Bld Tryd.prog 13 #[(0, 1), (1, 1)] #[.string ⟨#[]⟩, .int .u64 0] := ⟨Tryd.zeroValue13, ⟨_, Tryd.underlying13, fun w => by kernel_rfl⟩⟩
instance : TyS Tryd.prog 14 2 [.string ⟨#[]⟩, .int .u64 0] := ⟨Tryd.isAgg14, Tryd.sizeOf14, Tryd.zeroValue14⟩
instance : Fld Tryd.prog 14 0 0 := ⟨fun h => a_field (sz := 1) Tryd.underlying14 rfl Tryd.sizeOf9 (by decide) h⟩
instance : Fld Tryd.prog 14 1 1 := ⟨fun h => a_field (sz := 1) Tryd.underlying14 rfl Tryd.sizeOf12 (by decide) h⟩
instance : Bld Tryd.prog 14 #[(0, 1), (1, 1)] #[.string ⟨#[]⟩, .int .u64 0] := ⟨Tryd.zeroValue14, ⟨_, Tryd.underlying14, fun w => by kernel_rfl⟩⟩
instance : Und Tryd.prog 15 (.pointer 125) := ⟨Tryd.underlying15⟩
instance : Ty1 Tryd.prog 15 (.pointer none) := ⟨Tryd.isAgg15, Tryd.sizeOf15, Tryd.zeroValue15, rfl⟩
instance : Und Tryd.prog 16 (.pointer 128) := ⟨Tryd.underlying16⟩
instance : Ty1 Tryd.prog 16 (.pointer none) := ⟨Tryd.isAgg16, Tryd.sizeOf16, Tryd.zeroValue16, rfl⟩
instance : Und Tryd.prog 17 (.pointer 135) := ⟨Tryd.underlying17⟩
instance : Ty1 Tryd.prog 17 (.pointer none) := ⟨Tryd.isAgg17, Tryd.sizeOf17, Tryd.zeroValue17, rfl⟩
instance : TyS Tryd.prog 18 1 [.pointer none] := ⟨Tryd.isAgg18, Tryd.sizeOf18, Tryd.zeroValue18⟩
instance : Fld Tryd.prog 18 0 0 := ⟨fun h => a_field (sz := 1) Tryd.underlying18 rfl Tryd.sizeOf17 (by decide) h⟩
instance : Bld Tryd.prog 18 #[(0, 1)] #[.pointer none] := ⟨Tryd.zeroValue18, ⟨_, Tryd.underlying18, fun w => by kernel_rfl⟩⟩
instance : TyS Tryd.prog 19 1 [.pointer none] := ⟨Tryd.isAgg19, Tryd.sizeOf19, Tryd.zeroValue19⟩
instance : Fld Tryd.prog 19 0 0 := ⟨fun h => a_field (sz := 1) Tryd.underlying19 rfl Tryd.sizeOf17 (by decide) h⟩
instance : Bld Tryd.prog 19 #[(0, 1)] #[.pointer none] := ⟨Tryd.zeroValue19, ⟨_, Tryd.underlying19, fun w => by kernel_rfl⟩⟩
instance : Und Tryd.prog 20 (.interface #[]) := ⟨Tryd.underlying20⟩
instance : Ty1 Tryd.prog 20 (.nilIface) := ⟨Tryd.isAgg20, Tryd.sizeOf20, Tryd.zeroValue20, rfl⟩
instance : Und Tryd.prog 21 (.int .i32) := ⟨Tryd.underlying21⟩
instance : Ty1 Tryd.prog 21 (.int .i32 0) := ⟨Tryd.isAgg21, Tryd.sizeOf21, Tryd.zeroValue21, rfl⟩
instance : Und Tryd.prog 22 (.func #[] #[4] false) := ⟨Tryd.underlying22⟩
instance : Ty1 Tryd.prog 22 (.nilFunc) := ⟨Tryd.isAgg22, Tryd.sizeOf22, Tryd.zeroValue22, rfl⟩
instance : Und Tryd.prog 23 (.int .i64) := ⟨Tryd.underlying23⟩
instance : Ty1 Tryd.prog 23 (.int .i64 0) := ⟨Tryd.isAgg23, Tryd.sizeOf23, Tryd.zeroValue23, rfl⟩
instance : Und Tryd.prog 25 (.func #[9] #[9, 23] false) := ⟨Tryd.underlying25⟩
instance : Ty1 Tryd.prog 25 (.nilFunc) := ⟨Tryd.isAgg25, Tryd.sizeOf25, Tryd.zeroValue25, rfl⟩
instance : Und Tryd.prog 26 (.func #[9] #[4] false) := ⟨Tryd.underlying26⟩
instance : Ty1 Tryd.prog 26 (.nilFunc) := ⟨Tryd.isAgg26, Tryd.sizeOf26, Tryd.zeroValue26, rfl⟩
instance : Und Tryd.prog 27 (.func #[9] #[3] false) := ⟨Tryd.underlying27⟩
instance : Ty1 Tryd.prog 27 (.nilFunc) := ⟨Tryd.isAgg27, Tryd.sizeOf27, Tryd.zeroValue27, rfl⟩
instance : Und Tryd.prog 29 (.func #[9, 3] #[9, 3, 23] false) := ⟨Tryd.underlying29⟩
instance : Ty1 Tryd.prog 29 (.nilFunc) := ⟨Tryd.isAgg29, Tryd.sizeOf29, Tryd.zeroValue29, rfl⟩
instance : Und Tryd.prog 30 (.func #[9, 9, 9] #[4] false) := ⟨Tryd.underlying30⟩
instance : Ty1 Tryd.prog 30 (.nilFunc) := ⟨Tryd.isAgg30, Tryd.sizeOf30, Tryd.zeroValue30, rfl⟩
instance : Und Tryd.prog 31 (.func #[9, 9] #[4] false) := ⟨Tryd.underlying31⟩
instance : Ty1 Tryd.prog 31 (.nilFunc) := ⟨Tryd.isAgg31, Tryd.sizeOf31, Tryd.zeroValue31, rfl⟩
instance : Und Tryd.prog 32 (.int .u64) := ⟨Tryd.underlying32⟩
instance : Ty1 Tryd.prog 32 (.int .u64 0) := ⟨Tryd.isAgg32, Tryd.sizeOf32, Tryd.zeroValue32, rfl⟩
instance : Und Tryd.prog 34 (.func #[3] #[9, 4] false) := ⟨Tryd.underlying34⟩
instance : Ty1 Tryd.prog 34 (.nilFunc) := ⟨Tryd.isAgg34, Tryd.sizeOf34, Tryd.zeroValue34, rfl⟩
instance : Und Tryd.prog 35 (.func #[9, 3] #[4] false) := ⟨Tryd.underlying35⟩
instance : Ty1 Tryd.prog 35 (.nilFunc) := ⟨Tryd.isAgg35, Tryd.sizeOf35, Tryd.zeroValue35, rfl⟩
instance : Und Tryd.prog 36 (.func #[9, 9, 3, 3] #[4] false) := ⟨Tryd.underlying36⟩
instance : Ty1 Tryd.prog 36 (.nilFunc) := ⟨Tryd.isAgg36, Tryd.sizeOf36, Tryd.zeroValue36, rfl⟩
instance : Und Tryd.prog 37 (.slice 21) := ⟨Tryd.underlying37⟩
instance : Ty1 Tryd.prog 37 (.slice none 0 0) := ⟨Tryd.isAgg37, Tryd.sizeOf37, Tryd.zeroValue37, rfl⟩
instance : SlT Tryd.prog 37 21 1 4 (.int .i32 0) := ⟨⟨Tryd.underlying37, by kernel_rfl, rfl, by decide⟩⟩
instance : Und Tryd.prog 38 (.func #[3, 3] #[4] false) := ⟨Tryd.underlying38⟩
instance : Ty1 Tryd.prog 38 (.nilFunc) := ⟨Tryd.isAgg38, Tryd.sizeOf38, Tryd.zeroValue38, rfl⟩
instance : Und Tryd.prog 40 (.func #[3, 3, 3, 3, 3, 3] #[3, 4] false) := ⟨Tryd.underlying40⟩
instance : Ty1 Tryd.prog 40 (.nilFunc) := ⟨Tryd.isAgg40, Tryd.sizeOf40, Tryd.zeroValue40, rfl⟩
instance : Und Tryd.prog 41 (.func #[3, 3, 3] #[4] false) := ⟨Tryd.underlying41⟩
instance : Ty1 Tryd.prog 41 (.nilFunc) := ⟨Tryd.isAgg41, Tryd.sizeOf41, Tryd.zeroValue41, rfl⟩
instance : Und Tryd.prog 42 (.slice 9) := ⟨Tryd.underlying42⟩
instance : Ty1 Tryd.prog 42 (.slice none 0 0) := ⟨Tryd.isAgg42, Tryd.sizeOf42, Tryd.zeroValue42, rfl⟩
instance : SlT Tryd.prog 42 9 1 16 (.string ⟨#[]⟩) := ⟨⟨Tryd.underlying42, by kernel_rfl, rfl, by decide⟩⟩
instance : Und Tryd.prog 43 (.slice 3) := ⟨Tryd.underlying43⟩
instance : Ty1 Tryd.prog 43 (.slice none 0 0) := ⟨Tryd.isAgg43, Tryd.sizeOf43, Tryd.zeroValue43, rfl⟩
instance : SlT Tryd.prog 43 3 1 8 (.int .i64 0) := ⟨⟨Tryd.underlying43, by kernel_rfl, rfl, by decide⟩⟩
instance : Und Tryd.prog 44 (.func #[3] #[9] false) := ⟨Tryd.underlying44⟩
instance : Ty1 Tryd.prog 44 (.nilFunc) := ⟨Tryd.isAgg44, Tryd.sizeOf44, Tryd.zeroValue44, rfl⟩
instance : Und Tryd.prog 46 (.func #[9] #[3, 23] false) := ⟨Tryd.underlying46⟩
instance : Ty1 Tryd.prog 46 (.nilFunc) := ⟨Tryd.isAgg46, Tryd.sizeOf46, Tryd.zeroValue46, rfl⟩
instance : Und Tryd.prog 47 (.func #[3, 3, 3, 3, 3, 3, 3] #[4] false) := ⟨Tryd.underlying47⟩
instance : Ty1 Tryd.prog 47 (.nilFunc) := ⟨Tryd.isAgg47, Tryd.sizeOf47, Tryd.zeroValue47, rfl⟩
instance : Und Tryd.prog 48 (.func #[3] #[9, 23] false) := ⟨Tryd.underlying48⟩
instance : Ty1 Tryd.prog 48 (.nilFunc) := ⟨Tryd.isAgg48, Tryd.sizeOf48, Tryd.zeroValue48, rfl⟩
instance : Und Tryd.prog 49 (.slice 5) := ⟨Tryd.underlying49⟩
instance : Ty1 Tryd.prog 49 (.slice none 0 0) := ⟨Tryd.isAgg49, Tryd.sizeOf49, Tryd.zeroValue49, rfl⟩
instance : SlT Tryd.prog 49 5 1 1 (.int .u8 0) := ⟨⟨Tryd.underlying49, by kernel_rfl, rfl, by decide⟩⟩
instance : Und Tryd.prog 50 (.func #[9, 3, 3, 3, 3, 3, 3, 3] #[4] false) := ⟨Tryd.underlying50⟩
instance : Ty1 Tryd.prog 50 (.nilFunc) := ⟨Tryd.isAgg50, Tryd.sizeOf50, Tryd.zeroValue50, rfl⟩
instance : Und Tryd.prog 51 (.pointer 53) := ⟨Tryd.underlying51⟩
instance : Ty1 Tryd.prog 51 (.pointer none) := ⟨Tryd.isAgg51, Tryd.sizeOf51, Tryd.zeroValue51, rfl⟩
instance : TyS Tryd.prog 52 2 [.pointer none, .slice none 0 0] := ⟨Tryd.isAgg52, Tryd.sizeOf52, Tryd.zeroValue52⟩
instance : Fld Tryd.prog 52 0 0 := ⟨fun h => a_field (sz := 1) Tryd.underlying52 rfl Tryd.sizeOf51 (by decide) h⟩
instance : Fld Tryd.prog 52 1 1 := ⟨fun h => a_field (sz := 1) Tryd.underlying52 rfl Tryd.sizeOf49 (by decide) h⟩
instance : Bld Tryd.prog 52 #[(0, 1), (1, 1)] #[.pointer none, .slice none 0 0] := ⟨Tryd.zeroValue52, ⟨_, Tryd.underlying52, fun w => by kernel_rfl⟩⟩
instance : TyS Tryd.prog 53 2 [.pointer none, .slice none 0 0] := ⟨Tryd.isAgg53, Tryd.sizeOf53, Tryd.zeroValue53⟩
instance : Fld Tryd.prog 53 0 0 := ⟨fun h => a_field (sz := 1) Tryd.underlying53 rfl Tryd.sizeOf51 (by decide) h⟩
instance : Fld Tryd.prog 53 1 1 := ⟨fun h => a_field (sz := 1) Tryd.underlying53 rfl Tryd.sizeOf49 (by decide) h⟩
instance : Bld Tryd.prog 53 #[(0, 1), (1, 1)] #[.pointer none, .slice none 0 0] := ⟨Tryd.zeroValue53, ⟨_, Tryd.underlying53, fun w => by kernel_rfl⟩⟩
instance : Und Tryd.prog 54 (.interface #[("Error", 61)]) := ⟨Tryd.underlying54⟩
instance : Ty1 Tryd.prog 54 (.nilIface) := ⟨Tryd.isAgg54, Tryd.sizeOf54, Tryd.zeroValue54, rfl⟩
instance : Und Tryd.prog 55 (.interface #[("Error", 61)]) := ⟨Tryd.underlying55⟩
instance : Ty1 Tryd.prog 55 (.nilIface) := ⟨Tryd.isAgg55, Tryd.sizeOf55, Tryd.zeroValue55, rfl⟩
instance : Und Tryd.prog 56 (.func #[5] #[55] false) := ⟨Tryd.underlying56⟩
instance : Ty1 Tryd.prog 56 (.nilFunc) := ⟨Tryd.isAgg56, Tryd.sizeOf56, Tryd.zeroValue56, rfl⟩
instance : Und Tryd.prog 57 (.func #[21] #[5] false) := ⟨Tryd.underlying57⟩
instance : Ty1 Tryd.prog 57 (.nilFunc) := ⟨Tryd.isAgg57, Tryd.sizeOf57, Tryd.zeroValue57, rfl⟩
instance : Und Tryd.prog 59 (.func #[9] #[3, 55] false) := ⟨Tryd.underlying59⟩
instance : Ty1 Tryd.prog 59 (.nilFunc) := ⟨Tryd.isAgg59, Tryd.sizeOf59, Tryd.zeroValue59, rfl⟩
instance : Und Tryd.prog 60 (.func #[21] #[3, 55] false) := ⟨Tryd.underlying60⟩
instance : Ty1 Tryd.prog 60 (.nilFunc) := ⟨Tryd.isAgg60, Tryd.sizeOf60, Tryd.zeroValue60, rfl⟩
instance : Und Tryd.prog 61 (.func #[] #[9] false) := ⟨Tryd.underlying61⟩
instance : Ty1 Tryd.prog 61 (.nilFunc) := ⟨Tryd.isAgg61, Tryd.sizeOf61, Tryd.zeroValue61, rfl⟩
instance : Und Tryd.prog 62 (.pointer 64) := ⟨Tryd.underlying62⟩
instance : Ty1 Tryd.prog 62 (.pointer none) := ⟨Tryd.isAgg62, Tryd.sizeOf62, Tryd.zeroValue62, rfl⟩
instance : TyS Tryd.prog 63 3 [.string ⟨#[]⟩, .int .i64 0, .int .i64 0] := ⟨Tryd.isAgg63, Tryd.sizeOf63, Tryd.zeroValue63⟩
instance : Fld Tryd.prog 63 0 0 := ⟨fun h => a_field (sz := 1) Tryd.underlying63 rfl Tryd.sizeOf9 (by decide) h⟩
instance : Fld Tryd.prog 63 1 1 := ⟨fun h => a_field (sz := 1) Tryd.underlying63 rfl Tryd.sizeOf3 (by decide) h⟩
instance : Fld Tryd.prog 63 2 2 := ⟨fun h => a_field (sz := 1) Tryd.underlying63 rfl Tryd.sizeOf23 (by decide) h⟩
instance : Bld Tryd.prog 63 #[(0, 1), (1, 1), (2, 1)] #[.string ⟨#[]⟩, .int .i64 0, .int .i64 0] := ⟨Tryd.zeroValue63, ⟨_, Tryd.underlying63, fun w => by kernel_rfl⟩⟩
instance : TyS Tryd.prog 64 3 [.string ⟨#[]⟩, .int .i64 0, .int .i64 0] := ⟨Tryd.isAgg64, Tryd.sizeOf64, Tryd.zeroValue64⟩
instance : Fld Tryd.prog 64 0 0 := ⟨fun h => a_field (sz := 1) Tryd.underlying64 rfl Tryd.sizeOf9 (by decide) h⟩
instance : Fld Tryd.prog 64 1 1 := ⟨fun h => a_field (sz := 1) Tryd.underlying64 rfl Tryd.sizeOf3 (by decide) h⟩
instance : Fld Tryd.prog 64 2 2 := ⟨fun h => a_field (sz := 1) Tryd.underlying64 rfl Tryd.sizeOf23 (by decide) h⟩
instance : Bld Tryd.prog 64 #[(0, 1), (1, 1), (2, 1)] #[.string ⟨#[]⟩, .int .i64 0, .int .i64 0] := ⟨Tryd.zeroValue64, ⟨_, Tryd.underlying64, fun w => by kernel_rfl⟩⟩
instance : Und Tryd.prog 65 (.func #[5] #[] false) := ⟨Tryd.underlying65⟩
instance : Ty1 Tryd.prog 65 (.nilFunc) := ⟨Tryd.isAgg65, Tryd.sizeOf65, Tryd.zeroValue65, rfl⟩
instance : Und Tryd.prog 66 (.func #[] #[21] false) := ⟨Tryd.underlying66⟩
instance : Ty1 Tryd.prog 66 (.nilFunc) := ⟨Tryd.isAgg66, Tryd.sizeOf66, Tryd.zeroValue66, rfl⟩
instance : Und Tryd.prog 67 (.func #[21] #[4] false) := ⟨Tryd.underlying67⟩
instance : Ty1 Tryd.prog 67 (.nilFunc) := ⟨Tryd.isAgg67, Tryd.sizeOf67, Tryd.zeroValue67, rfl⟩
instance : Und Tryd.prog 68 (.func #[5] #[5] false) := ⟨Tryd.underlying68⟩
instance : Ty1 Tryd.prog 68 (.nilFunc) := ⟨Tryd.isAgg68, Tryd.sizeOf68, Tryd.zeroValue68, rfl⟩
instance : Und Tryd.prog 69 (.func #[49] #[9] false) := ⟨Tryd.underlying69⟩
instance : Ty1 Tryd.prog 69 (.nilFunc) := ⟨Tryd.isAgg69, Tryd.sizeOf69, Tryd.zeroValue69, rfl⟩
instance : Und Tryd.prog 71 (.func #[9, 3] #[3, 3, 4] false) := ⟨Tryd.underlying71⟩
instance : Ty1 Tryd.prog 71 (.nilFunc) := ⟨Tryd.isAgg71, Tryd.sizeOf71, Tryd.zeroValue71, rfl⟩
instance : Und Tryd.prog 72 (.func #[3, 3] #[3] false) := ⟨Tryd.underlying72⟩
instance : Ty1 Tryd.prog 72 (.nilFunc) := ⟨Tryd.isAgg72, Tryd.sizeOf72, Tryd.zeroValue72, rfl⟩
instance : Und Tryd.prog 73 (.func #[3] #[3] false) := ⟨Tryd.underlying73⟩
instance : Ty1 Tryd.prog 73 (.nilFunc) := ⟨Tryd.isAgg73, Tryd.sizeOf73, Tryd.zeroValue73, rfl⟩
instance : Und Tryd.prog 74 (.pointer 76) := ⟨Tryd.underlying74⟩
instance : Ty1 Tryd.prog 74 (.pointer none) := ⟨Tryd.isAgg74, Tryd.sizeOf74, Tryd.zeroValue74, rfl⟩
instance : TyS Tryd.prog 75 2 [.string ⟨#[]⟩, .bool false] := ⟨Tryd.isAgg75, Tryd.sizeOf75, Tryd.zeroValue75⟩
instance : Fld Tryd.prog 75 0 0 := ⟨fun h => a_field (sz := 1) Tryd.underlying75 rfl Tryd.sizeOf9 (by decide) h⟩
instance : Fld Tryd.prog 75 1 1 := ⟨fun h => a_field (sz := 1) Tryd.underlying75 rfl Tryd.sizeOf4 (by decide) h⟩
instance : Bld Tryd.prog 75 #[(0, 1), (1, 1)] #[.string ⟨#[]⟩, .bool false] := ⟨Tryd.zeroValue75, ⟨_, Tryd.underlying75, fun w => by kernel_rfl⟩⟩
instance : TyS Tryd.prog 76 2 [.string ⟨#[]⟩, .bool false] := ⟨Tryd.isAgg76, Tryd.sizeOf76, Tryd.zeroValue76⟩
instance : Fld Tryd.prog 76 0 0 := ⟨fun h => a_field (sz := 1) Tryd.underlying76 rfl Tryd.sizeOf9 (by decide) h⟩
instance : Fld Tryd.prog 76 1 1 := ⟨fun h => a_field (sz := 1) Tryd.underlying76 rfl Tryd.sizeOf4 (by decide) h⟩
instance : Bld Tryd.prog 76 #[(0, 1), (1, 1)] #[.string ⟨#[]⟩, .bool false] := ⟨Tryd.zeroValue76, ⟨_, Tryd.underlying76, fun w => by kernel_rfl⟩⟩
instance : Und Tryd.prog 77 (.func #[42] #[3] false) := ⟨Tryd.underlying77⟩
instance : Ty1 Tryd.prog 77 (.nilFunc) := ⟨Tryd.isAgg77, Tryd.sizeOf77, Tryd.zeroValue77, rfl⟩
instance : Und Tryd.prog 78 (.func #[] #[42] false) := ⟨Tryd.underlying78⟩
instance : Ty1 Tryd.prog 78 (.nilFunc) := ⟨Tryd.isAgg78, Tryd.sizeOf78, Tryd.zeroValue78, rfl⟩
instance : Und Tryd.prog 79 (.func #[9] #[] false) := ⟨Tryd.underlying79⟩
instance : Ty1 Tryd.prog 79 (.nilFunc) := ⟨Tryd.isAgg79, Tryd.sizeOf79, Tryd.zeroValue79, rfl⟩
instance : TyS Tryd.prog 80 7 [.int .i64 0, .int .i64 0, .int .i64 0, .int .i64 0, .int .i64 0, .int .i64 0, .int .i64 0] := ⟨Tryd.isAgg80, Tryd.sizeOf80, Tryd.zeroValue80⟩
instance : Fld Tryd.prog 80 0 0 := ⟨fun h => a_field (sz := 1) Tryd.underlying80 rfl Tryd.sizeOf3 (by decide) h⟩
instance : Fld Tryd.prog 80 1 1 := ⟨fun h => a_field (sz := 1) Tryd.underlying80 rfl Tryd.sizeOf3 (by decide) h⟩
instance : Fld Tryd.prog 80 2 2 := ⟨fun h => a_field (sz := 1) Tryd.underlying80 rfl Tryd.sizeOf3 (by decide) h⟩
instance : Fld Tryd.prog 80 3 3 := ⟨fun h => a_field (sz := 1) Tryd.underlying80 rfl Tryd.sizeOf3 (by decide) h⟩
instance : Fld Tryd.prog 80 4 4 := ⟨fun h => a_field (sz := 1) Tryd.underlying80 rfl Tryd.sizeOf3 (by decide) h⟩
instance : Fld Tryd.prog 80 5 5 := ⟨fun h => a_field (sz := 1) Tryd.underlying80 rfl Tryd.sizeOf3 (by decide) h⟩
instance : Fld Tryd.prog 80 6 6 := ⟨fun h => a_field (sz := 1) Tryd.underlying80 rfl Tryd.sizeOf3 (by decide) h⟩
instance : Bld Tryd.prog 80 #[(0, 1), (1, 1), (2, 1), (3, 1), (4, 1), (5, 1), (6, 1)] #[.int .i64 0, .int .i64 0, .int .i64 0, .int .i64 0, .int .i64 0, .int .i64 0, .int .i64 0] := ⟨Tryd.zeroValue80, ⟨_, Tryd.underlying80, fun w => by kernel_rfl⟩⟩
instance : TyS Tryd.prog 81 7 [.int .i64 0, .int .i64 0, .int .i64 0, .int .i64 0, .int .i64 0, .int .i64 0, .int .i64 0] := ⟨Tryd.isAgg81, Tryd.sizeOf81, Tryd.zeroValue81⟩
instance : Fld Tryd.prog 81 0 0 := ⟨fun h => a_field (sz := 1) Tryd.underlying81 rfl Tryd.sizeOf3 (by decide) h⟩
instance : Fld Tryd.prog 81 1 1 := ⟨fun h => a_field (sz := 1) Tryd.underlying81 rfl Tryd.sizeOf3 (by decide) h⟩
instance : Fld Tryd.prog 81 2 2 := ⟨fun h => a_field (sz := 1) Tryd.underlying81 rfl Tryd.sizeOf3 (by decide) h⟩
instance : Fld Tryd.prog 81 3 3 := ⟨fun h => a_field (sz := 1) Tryd.underlying81 rfl Tryd.sizeOf3 (by decide) h⟩
instance : Fld Tryd.prog 81 4 4 := ⟨fun h => a_field (sz := 1) Tryd.underlying81 rfl Tryd.sizeOf3 (by decide) h⟩
instance : Fld Tryd.prog 81 5 5 := ⟨fun h => a_field (sz := 1) Tryd.underlying81 rfl Tryd.sizeOf3 (by decide) h⟩
instance : Fld Tryd.prog 81 6 6 := ⟨fun h => a_field (sz := 1) Tryd.underlying81 rfl Tryd.sizeOf3 (by decide) h⟩
instance : Bld Tryd.prog 81 #[(0, 1), (1, 1), (2, 1), (3, 1), (4, 1), (5, 1), (6, 1)] #[.int .i64 0, .int .i64 0, .int .i64 0, .int .i64 0, .int .i64 0, .int .i64 0, .int .i64 0] := ⟨Tryd.zeroValue81, ⟨_, Tryd.underlying81, fun w => by kernel_rfl⟩⟩
instance : Und Tryd.prog 82 (.func #[] #[3] false) := ⟨Tryd.underlying82⟩
instance : Ty1 Tryd.prog 82 (.nilFunc) := ⟨Tryd.isAgg82, Tryd.sizeOf82, Tryd.zeroValue82, rfl⟩
instance : Und Tryd.prog 83 (.func #[81] #[3, 23] false) := ⟨Tryd.underlying83⟩
instance : Ty1 Tryd.prog 83 (.nilFunc) := ⟨Tryd.isAgg83, Tryd.sizeOf83, Tryd.zeroValue83, rfl⟩
instance : Und Tryd.prog 84 (.func #[3] #[4] false) := ⟨Tryd.underlying84⟩
instance : Ty1 Tryd.prog 84 (.nilFunc) := ⟨Tryd.isAgg84, Tryd.sizeOf84, Tryd.zeroValue84, rfl⟩
instance : Und Tryd.prog 85 (.func #[3, 3] #[9] false) := ⟨Tryd.underlying85⟩
instance : Ty1 Tryd.prog 85 (.nilFunc) := ⟨Tryd.isAgg85, Tryd.sizeOf85, Tryd.zeroValue85, rfl⟩
instance : Und Tryd.prog 86 (.func #[42, 9] #[3] false) := ⟨Tryd.underlying86⟩
instance : Ty1 Tryd.prog 86 (.nilFunc) := ⟨Tryd.isAgg86, Tryd.sizeOf86, Tryd.zeroValue86, rfl⟩
instance : Und Tryd.prog 87 (.func #[9, 5] #[42] false) := ⟨Tryd.underlying87⟩
instance : Ty1 Tryd.prog 87 (.nilFunc) := ⟨Tryd.isAgg87, Tryd.sizeOf87, Tryd.zeroValue87, rfl⟩
instance : Und Tryd.prog 88 (.func #[9, 3, 3] #[3] false) := ⟨Tryd.underlying88⟩
instance : Ty1 Tryd.prog 88 (.nilFunc) := ⟨Tryd.isAgg88, Tryd.sizeOf88, Tryd.zeroValue88, rfl⟩
instance : Und Tryd.prog 89 (.func #[9] #[3, 4] false) := ⟨Tryd.underlying89⟩
instance : Ty1 Tryd.prog 89 (.nilFunc) := ⟨Tryd.isAgg89, Tryd.sizeOf89, Tryd.zeroValue89, rfl⟩
instance : Und Tryd.prog 90 (.func #[3, 3, 3, 3, 3, 3, 3] #[3, 23] false) := ⟨Tryd.underlying90⟩
instance : Ty1 Tryd.prog 90 (.nilFunc) := ⟨Tryd.isAgg90, Tryd.sizeOf90, Tryd.zeroValue90, rfl⟩
instance : Und Tryd.prog 91 (.func #[3, 3, 5] #[3, 4] false) := ⟨Tryd.underlying91⟩
instance : Ty1 Tryd.prog 91 (.nilFunc) := ⟨Tryd.isAgg91, Tryd.sizeOf91, Tryd.zeroValue91, rfl⟩
instance : Und Tryd.prog 92 (.func #[49, 21] #[49] false) := ⟨Tryd.underlying92⟩
instance : Ty1 Tryd.prog 92 (.nilFunc) := ⟨Tryd.isAgg92, Tryd.sizeOf92, Tryd.zeroValue92, rfl⟩
instance : Und Tryd.prog 93 (.pointer 5) := ⟨Tryd.underlying93⟩
instance : Ty1 Tryd.prog 93 (.pointer none) := ⟨Tryd.isAgg93, Tryd.sizeOf93, Tryd.zeroValue93, rfl⟩
instance : Und Tryd.prog 94 (.func #[9] #[12] false) := ⟨Tryd.underlying94⟩
instance : Ty1 Tryd.prog 94 (.nilFunc) := ⟨Tryd.isAgg94, Tryd.sizeOf94, Tryd.zeroValue94, rfl⟩
instance : TyS Tryd.prog 96 2 [.int .u8 0, .int .u8 0] := ⟨Tryd.isAgg96, Tryd.sizeOf96, Tryd.zeroValue96⟩
instance : Fld Tryd.prog 96 0 0 := ⟨fun h => a_field (sz := 1) Tryd.underlying96 rfl Tryd.sizeOf5 (by decide) h⟩
instance : Fld Tryd.prog 96 1 1 := ⟨fun h => a_field (sz := 1) Tryd.underlying96 rfl Tryd.sizeOf5 (by decide) h⟩
instance : Bld Tryd.prog 96 #[(0, 1), (1, 1)] #[.int .u8 0, .int .u8 0] := ⟨Tryd.zeroValue96, ⟨_, Tryd.underlying96, fun w => by kernel_rfl⟩⟩
instance : TyS Tryd.prog 97 2 [.int .u8 0, .int .u8 0] := ⟨Tryd.isAgg97, Tryd.sizeOf97, Tryd.zeroValue97⟩
instance : Fld Tryd.prog 97 0 0 := ⟨fun h => a_field (sz := 1) Tryd.underlying97 rfl Tryd.sizeOf5 (by decide) h⟩
instance : Fld Tryd.prog 97 1 1 := ⟨fun h => a_field (sz := 1) Tryd.underlying97 rfl Tryd.sizeOf5 (by decide) h⟩
instance : Bld Tryd.prog 97 #[(0, 1), (1, 1)] #[.int .u8 0, .int .u8 0] := ⟨Tryd.zeroValue97, ⟨_, Tryd.underlying97, fun w => by kernel_rfl⟩⟩
instance : Und Tryd.prog 99 (.func #[] #[5] false) := ⟨Tryd.underlying99⟩
instance : Ty1 Tryd.prog 99 (.nilFunc) := ⟨Tryd.isAgg99, Tryd.sizeOf99, Tryd.zeroValue99, rfl⟩
instance : Und Tryd.prog 100 (.func #[23] #[] false) := ⟨Tryd.underlying100⟩
instance : Ty1 Tryd.prog 100 (.nilFunc) := ⟨Tryd.isAgg100, Tryd.sizeOf100, Tryd.zeroValue100, rfl⟩
instance : Und Tryd.prog 102 (.func #[9] #[21, 3] false) := ⟨Tryd.underlying102⟩
instance : Ty1 Tryd.prog 102 (.nilFunc) := ⟨Tryd.isAgg102, Tryd.sizeOf102, Tryd.zeroValue102, rfl⟩
instance : Und Tryd.prog 103 (.func #[9, 3] #[3, 23] false) := ⟨Tryd.underlying103⟩
instance : Ty1 Tryd.prog 103 (.nilFunc) := ⟨Tryd.isAgg103, Tryd.sizeOf103, Tryd.zeroValue103, rfl⟩
instance : Und Tryd.prog 104 (.func #[42, 26] #[3] false) := ⟨Tryd.underlying104⟩
instance : Ty1 Tryd.prog 104 (.nilFunc) := ⟨Tryd.isAgg104, Tryd.sizeOf104, Tryd.zeroValue104, rfl⟩
instance : Und Tryd.prog 105 (.func #[9, 9] #[9, 4] false) := ⟨Tryd.underlying105⟩
instance : Ty1 Tryd.prog 105 (.nilFunc) := ⟨Tryd.isAgg105, Tryd.sizeOf105, Tryd.zeroValue105, rfl⟩
instance : Und Tryd.prog 106 (.func #[9, 9] #[9] false) := ⟨Tryd.underlying106⟩
instance : Ty1 Tryd.prog 106 (.nilFunc) := ⟨Tryd.isAgg106, Tryd.sizeOf106, Tryd.zeroValue106, rfl⟩
instance : Und Tryd.prog 107 (.unsafePointer) := ⟨Tryd.underlying107⟩
instance : Ty1 Tryd.prog 107 (.pointer none) := ⟨Tryd.isAgg107, Tryd.sizeOf107, Tryd.zeroValue107, rfl⟩
instance : Und Tryd.prog 108 (.func #[107] #[107] false) := ⟨Tryd.underlying108⟩
instance : Ty1 Tryd.prog 108 (.nilFunc) := ⟨Tryd.isAgg108, Tryd.sizeOf108, Tryd.zeroValue108, rfl⟩
instance : Und Tryd.prog 109 (.int .u32) := ⟨Tryd.underlying109⟩
instance : Ty1 Tryd.prog 109 (.int .u32 0) := ⟨Tryd.isAgg109, Tryd.sizeOf109, Tryd.zeroValue109, rfl⟩
instance : Und Tryd.prog 110 (.int .u64) := ⟨Tryd.underlying110⟩
instance : Ty1 Tryd.prog 110 (.int .u64 0) := ⟨Tryd.isAgg110, Tryd.sizeOf110, Tryd.zeroValue110, rfl⟩
instance : Und Tryd.prog 111 (.func #[5] #[3] false) := ⟨Tryd.underlying111⟩
instance : Ty1 Tryd.prog 111 (.nilFunc) := ⟨Tryd.isAgg111, Tryd.sizeOf111, Tryd.zeroValue111, rfl⟩
instance : Und Tryd.prog 112 (.func #[9, 5] #[9] false) := ⟨Tryd.underlying112⟩
instance : Ty1 Tryd.prog 112 (.nilFunc) := ⟨Tryd.isAgg112, Tryd.sizeOf112, Tryd.zeroValue112, rfl⟩
instance : Und Tryd.prog 116 (.func #[9] #[114, 4] false) := ⟨Tryd.underlying116⟩
instance : Ty1 Tryd.prog 116 (.nilFunc) := ⟨Tryd.isAgg116, Tryd.sizeOf116, Tryd.zeroValue116, rfl⟩
instance : Und Tryd.prog 117 (.func #[9, 118] #[9] false) := ⟨Tryd.underlying117⟩
instance : Ty1 Tryd.prog 117 (.nilFunc) := ⟨Tryd.isAgg117, Tryd.sizeOf117, Tryd.zeroValue117, rfl⟩
instance : Und Tryd.prog 118 (.pointer 114) := ⟨Tryd.underlying118⟩
instance : Ty1 Tryd.prog 118 (.pointer none) := ⟨Tryd.isAgg118, Tryd.sizeOf118, Tryd.zeroValue118, rfl⟩
instance : Und Tryd.prog 119 (.func #[9, 5] #[3] false) := ⟨Tryd.underlying119⟩
instance : Ty1 Tryd.prog 119 (.nilFunc) := ⟨Tryd.isAgg119, Tryd.sizeOf119, Tryd.zeroValue119, rfl⟩
instance : Und Tryd.prog 120 (.func #[5] #[4] false) := ⟨Tryd.underlying120⟩
instance : Ty1 Tryd.prog 120 (.nilFunc) := ⟨Tryd.isAgg120, Tryd.sizeOf120, Tryd.zeroValue120, rfl⟩
instance : Und Tryd.prog 121 (.func #[9, 21] #[4] false) := ⟨Tryd.underlying121⟩
instance : Ty1 Tryd.prog 121 (.nilFunc) := ⟨Tryd.isAgg121, Tryd.sizeOf121, Tryd.zeroValue121, rfl⟩
instance : Und Tryd.prog 122 (.func #[9, 21] #[3] false) := ⟨Tryd.underlying122⟩
instance : Ty1 Tryd.prog 122 (.nilFunc) := ⟨Tryd.isAgg122, Tryd.sizeOf122, Tryd.zeroValue122, rfl⟩
instance : Und Tryd.prog 123 (.func #[9, 9] #[3] false) := ⟨Tryd.underlying123⟩
instance : Ty1 Tryd.prog 123 (.nilFunc) := ⟨Tryd.isAgg123, Tryd.sizeOf123, Tryd.zeroValue123, rfl⟩
instance : TyS Tryd.prog 124 4 [.pointer none, .pointer none, .pointer none, .string ⟨#[]⟩] := ⟨Tryd.isAgg124, Tryd.sizeOf124, Tryd.zeroValue124⟩
instance : Fld Tryd.prog 124 0 0 := ⟨fun h => a_field (sz := 1) Tryd.underlying124 rfl Tryd.sizeOf17 (by decide) h⟩
instance : Fld Tryd.prog 124 1 1 := ⟨fun h => a_field (sz := 1) Tryd.underlying124 rfl Tryd.sizeOf17 (by decide) h⟩
instance : Fld Tryd.prog 124 2 2 := ⟨fun h => a_field (sz := 1) Tryd.underlying124 rfl Tryd.sizeOf17 (by decide) h⟩
instance : Fld Tryd.prog 124 3 3 := ⟨fun h => a_field (sz := 1) Tryd.underlying124 rfl Tryd.sizeOf9 (by decide) h⟩
instance : Bld Tryd.prog 124 #[(0, 1), (1, 1), (2, 1), (3, 1)] #[.pointer none, .pointer none, .pointer none, .string ⟨#[]⟩] := ⟨Tryd.zeroValue124, ⟨_, Tryd.underlying124, fun w => by kernel_rfl⟩⟩
instance : TyS Tryd.prog 125 4 [.pointer none, .pointer none, .pointer none, .string ⟨#[]⟩] := ⟨Tryd.isAgg125, Tryd.sizeOf125, Tryd.zeroValue125⟩
instance : Fld Tryd.prog 125 0 0 := ⟨fun h => a_field (sz := 1) Tryd.underlying125 rfl Tryd.sizeOf17 (by decide) h⟩
instance : Fld Tryd.prog 125 1 1 := ⟨fun h => a_field (sz := 1) Tryd.underlying125 rfl Tryd.sizeOf17 (by decide) h⟩
instance : Fld Tryd.prog 125 2 2 := ⟨fun h => a_field (sz := 1) Tryd.underlying125 rfl Tryd.sizeOf17 (by decide) h⟩
instance : Fld Tryd.prog 125 3 3 := ⟨fun h => a_field (sz := 1) Tryd.underlying125 rfl Tryd.sizeOf9 (by decide) h⟩
instance : Bld Tryd.prog 125 #[(0, 1), (1, 1), (2, 1), (3, 1)] #[.pointer none, .pointer none, .pointer none, .string ⟨#[]⟩] := ⟨Tryd.zeroValue125, ⟨_, Tryd.underlying125, fun w => by kernel_rfl⟩⟩
instance : TyS Tryd.prog 127 0 [] := ⟨Tryd.isAgg127, Tryd.sizeOf127, Tryd.zeroValue127⟩
instance : Bld Tryd.prog 127 #[(0, 0)] #[] := ⟨Tryd.zeroValue127, ⟨_, Tryd.underlying127, fun w => by kernel_rfl⟩⟩
instance : TyS Tryd.prog 128 0 [] := ⟨Tryd.isAgg128, Tryd.sizeOf128, Tryd.zeroValue128⟩
instance : Bld Tryd.prog 128 #[(0, 0)] #[] := ⟨Tryd.zeroValue128, ⟨_, Tryd.underlying128, fun w => by kernel_rfl⟩⟩
instance : Und Tryd.prog 129 (.int .u8) := ⟨Tryd.underlying129⟩
instance : Ty1 Tryd.prog 129 (.int .u8 0) := ⟨Tryd.isAgg129, Tryd.sizeOf129, Tryd.zeroValue129, rfl⟩
instance : Und Tryd.prog 130 (.int .u8) := ⟨Tryd.underlying130⟩
instance : Ty1 Tryd.prog 130 (.int .u8 0) := ⟨Tryd.isAgg130, Tryd.sizeOf130, Tryd.zeroValue130, rfl⟩
instance : Und Tryd.prog 131 (.func #[107, 107] #[4] false) := ⟨Tryd.underlying131⟩
instance : Ty1 Tryd.prog 131 (.nilFunc) := ⟨Tryd.isAgg131, Tryd.sizeOf131, Tryd.zeroValue131, rfl⟩
instance : Und Tryd.prog 132 (.int .i32) := ⟨Tryd.underlying132⟩
instance : Ty1 Tryd.prog 132 (.int .i32 0) := ⟨Tryd.isAgg132, Tryd.sizeOf132, Tryd.zeroValue132, rfl⟩
instance : Und Tryd.prog 133 (.int .i32) := ⟨Tryd.underlying133⟩
instance : Ty1 Tryd.prog 133 (.int .i32 0) := ⟨Tryd.isAgg133, Tryd.sizeOf133, Tryd.zeroValue133, rfl⟩
instance : TyS Tryd.prog 134 11 [.int .u64 0, .int .u64 0, .int .u32 0, .int .u8 0, .int .u8 0, .int .u8 0, .int .u8 0, .nilFunc, .pointer none, .int .i32 0, .int .i32 0] := ⟨Tryd.isAgg134, Tryd.sizeOf134, Tryd.zeroValue134⟩
instance : Fld Tryd.prog 134 0 0 := ⟨fun h => a_field (sz := 1) Tryd.underlying134 rfl Tryd.sizeOf12 (by decide) h⟩
instance : Fld Tryd.prog 134 1 1 := ⟨fun h => a_field (sz := 1) Tryd.underlying134 rfl Tryd.sizeOf12 (by decide) h⟩
instance : Fld Tryd.prog 134 2 2 := ⟨fun h => a_field (sz := 1) Tryd.underlying134 rfl Tryd.sizeOf109 (by decide) h⟩
instance : Fld Tryd.prog 134 3 3 := ⟨fun h => a_field (sz := 1) Tryd.underlying134 rfl Tryd.sizeOf129 (by decide) h⟩
instance : Fld Tryd.prog 134 4 4 := ⟨fun h => a_field (sz := 1) Tryd.underlying134 rfl Tryd.sizeOf5 (by decide) h⟩
instance : Fld Tryd.prog 134 5 5 := ⟨fun h => a_field (sz := 1) Tryd.underlying134 rfl Tryd.sizeOf5 (by decide) h⟩
instance : Fld Tryd.prog 134 6 6 := ⟨fun h => a_field (sz := 1) Tryd.underlying134 rfl Tryd.sizeOf130 (by decide) h⟩
instance : Fld Tryd.prog 134 7 7 := ⟨fun h => a_field (sz := 1) Tryd.underlying134 rfl Tryd.sizeOf131 (by decide) h⟩
instance : Fld Tryd.prog 134 8 8 := ⟨fun h => a_field (sz := 1) Tryd.underlying134 rfl Tryd.sizeOf93 (by decide) h⟩
instance : Fld Tryd.prog 134 9 9 := ⟨fun h => a_field (sz := 1) Tryd.underlying134 rfl Tryd.sizeOf132 (by decide) h⟩
instance : Fld Tryd.prog 134 10 10 := ⟨fun h => a_field (sz := 1) Tryd.underlying134 rfl Tryd.sizeOf133 (by decide) h⟩
instance : Bld Tryd.prog 134 #[(0, 1), (1, 1), (2, 1), (3, 1), (4, 1), (5, 1), (6, 1), (7, 1), (8, 1), (9, 1), (10, 1)] #[.int .u64 0, .int .u64 0, .int .u32 0, .int .u8 0, .int .u8 0, .int .u8 0, .int .u8 0, .nilFunc, .pointer none, .int .i32 0, .int .i32 0] := ⟨Tryd.zeroValue134, ⟨_, Tryd.underlying134, fun w => by kernel_rfl⟩⟩
instance : TyS Tryd.prog 135 11 [.int .u64 0, .int .u64 0, .int .u32 0, .int .u8 0, .int .u8 0, .int .u8 0, .int .u8 0, .nilFunc, .pointer none, .int .i32 0, .int .i32 0] := ⟨Tryd.isAgg135, Tryd.sizeOf135, Tryd.zeroValue135⟩
instance : Fld Tryd.prog 135 0 0 := ⟨fun h => a_field (sz := 1) Tryd.underlying135 rfl Tryd.sizeOf12 (by decide) h⟩
instance : Fld Tryd.prog 135 1 1 := ⟨fun h => a_field (sz := 1) Tryd.underlying135 rfl Tryd.sizeOf12 (by decide) h⟩
instance : Fld Tryd.prog 135 2 2 := ⟨fun h => a_field (sz := 1) Tryd.underlying135 rfl Tryd.sizeOf109 (by decide) h⟩
instance : Fld Tryd.prog 135 3 3 := ⟨fun h => a_field (sz := 1) Tryd.underlying135 rfl Tryd.sizeOf129 (by decide) h⟩
instance : Fld Tryd.prog 135 4 4 := ⟨fun h => a_field (sz := 1) Tryd.underlying135 rfl Tryd.sizeOf5 (by decide) h⟩
instance : Fld Tryd.prog 135 5 5 := ⟨fun h => a_field (sz := 1) Tryd.underlying135 rfl Tryd.sizeOf5 (by decide) h⟩
instance : Fld Tryd.prog 135 6 6 := ⟨fun h => a_field (sz := 1) Tryd.underlying135 rfl Tryd.sizeOf130 (by decide) h⟩
instance : Fld Tryd.prog 135 7 7 := ⟨fun h => a_field (sz := 1) Tryd.underlying135 rfl Tryd.sizeOf131 (by decide) h⟩
instance : Fld Tryd.prog 135 8 8 := ⟨fun h => a_field (sz := 1) Tryd.underlying135 rfl Tryd.sizeOf93 (by decide) h⟩
instance : Fld Tryd.prog 135 9 9 := ⟨fun h => a_field (sz := 1) Tryd.underlying135 rfl Tryd.sizeOf132 (by decide) h⟩
instance : Fld Tryd.prog 135 10 10 := ⟨fun h => a_field (sz := 1) Tryd.underlying135 rfl Tryd.sizeOf133 (by decide) h⟩
instance : Bld Tryd.prog 135 #[(0, 1), (1, 1), (2, 1), (3, 1), (4, 1), (5, 1), (6, 1), (7, 1), (8, 1), (9, 1), (10, 1)] #[.int .u64 0, .int .u64 0, .int .u32 0, .int .u8 0, .int .u8 0, .int .u8 0, .int .u8 0, .nilFunc, .pointer none, .int .i32 0, .int .i32 0] := ⟨Tryd.zeroValue135, ⟨_, Tryd.underlying135, fun w => by kernel_rfl⟩⟩
end Go.Proofs.YtififikdlcohpaaDoor
