/-
  The seat's types: what is asked of each, as instances. Printed by a program (ty.py) out of Lean's own print.
-/
import Derived.Test.YtknbnfpdcbpoeaaDoorProg
import Derived.Test.YtknbnfpdcbpoeaaDoorEzSep
namespace Go.Proofs.YtknbnfpdcbpoeaaDoor
open Go Go.Ez
set_option linter.unusedVariables false

instance : Und Tryd.prog 1 (.func #[] #[] false) := ⟨Tryd.underlying1⟩
instance : Ty1 Tryd.prog 1 (.nilFunc) := ⟨Tryd.isAgg1, Tryd.sizeOf1, Tryd.zeroValue1, rfl⟩
instance : Und Tryd.prog 2 (.int .i64) := ⟨Tryd.underlying2⟩
instance : Ty1 Tryd.prog 2 (.int .i64 0) := ⟨Tryd.isAgg2, Tryd.sizeOf2, Tryd.zeroValue2, rfl⟩
instance : Und Tryd.prog 3 (.int .i64) := ⟨Tryd.underlying3⟩
instance : Ty1 Tryd.prog 3 (.int .i64 0) := ⟨Tryd.isAgg3, Tryd.sizeOf3, Tryd.zeroValue3, rfl⟩
instance : Und Tryd.prog 4 (.bool) := ⟨Tryd.underlying4⟩
instance : Ty1 Tryd.prog 4 (.bool false) := ⟨Tryd.isAgg4, Tryd.sizeOf4, Tryd.zeroValue4, rfl⟩
instance : Und Tryd.prog 5 (.int .u8) := ⟨Tryd.underlying5⟩
instance : Ty1 Tryd.prog 5 (.int .u8 0) := ⟨Tryd.isAgg5, Tryd.sizeOf5, Tryd.zeroValue5, rfl⟩
instance : Und Tryd.prog 6 (.int .u8) := ⟨Tryd.underlying6⟩
instance : Ty1 Tryd.prog 6 (.int .u8 0) := ⟨Tryd.isAgg6, Tryd.sizeOf6, Tryd.zeroValue6, rfl⟩
instance : TyS Tryd.prog 7 4 [.int .i64 0, .int .i64 0, .bool false, .int .u8 0] := ⟨Tryd.isAgg7, Tryd.sizeOf7, Tryd.zeroValue7⟩
instance : Fld Tryd.prog 7 0 0 := ⟨fun h => a_field (sz := 1) Tryd.underlying7 rfl Tryd.sizeOf2 (by decide) h⟩
instance : Fld Tryd.prog 7 1 1 := ⟨fun h => a_field (sz := 1) Tryd.underlying7 rfl Tryd.sizeOf3 (by decide) h⟩
instance : Fld Tryd.prog 7 2 2 := ⟨fun h => a_field (sz := 1) Tryd.underlying7 rfl Tryd.sizeOf4 (by decide) h⟩
instance : Fld Tryd.prog 7 3 3 := ⟨fun h => a_field (sz := 1) Tryd.underlying7 rfl Tryd.sizeOf6 (by decide) h⟩
instance : Bld Tryd.prog 7 #[(0, 1), (1, 1), (2, 1), (3, 1)] #[.int .i64 0, .int .i64 0, .bool false, .int .u8 0] := ⟨Tryd.zeroValue7, ⟨_, Tryd.underlying7, fun w => by kernel_rfl⟩⟩
instance : TyS Tryd.prog 8 4 [.int .i64 0, .int .i64 0, .bool false, .int .u8 0] := ⟨Tryd.isAgg8, Tryd.sizeOf8, Tryd.zeroValue8⟩
instance : Fld Tryd.prog 8 0 0 := ⟨fun h => a_field (sz := 1) Tryd.underlying8 rfl Tryd.sizeOf2 (by decide) h⟩
instance : Fld Tryd.prog 8 1 1 := ⟨fun h => a_field (sz := 1) Tryd.underlying8 rfl Tryd.sizeOf3 (by decide) h⟩
instance : Fld Tryd.prog 8 2 2 := ⟨fun h => a_field (sz := 1) Tryd.underlying8 rfl Tryd.sizeOf4 (by decide) h⟩
instance : Fld Tryd.prog 8 3 3 := ⟨fun h => a_field (sz := 1) Tryd.underlying8 rfl Tryd.sizeOf6 (by decide) h⟩
instance : Bld Tryd.prog 8 #[(0, 1), (1, 1), (2, 1), (3, 1)] #[.int .i64 0, .int .i64 0, .bool false, .int .u8 0] := ⟨Tryd.zeroValue8, ⟨_, Tryd.underlying8, fun w => by kernel_rfl⟩⟩
instance : Und Tryd.prog 9 (.string) := ⟨Tryd.underlying9⟩
instance : Ty1 Tryd.prog 9 (.string ⟨#[]⟩) := ⟨Tryd.isAgg9, Tryd.sizeOf9, Tryd.zeroValue9, rfl⟩
instance : Und Tryd.prog 10 (.string) := ⟨Tryd.underlying10⟩
instance : Ty1 Tryd.prog 10 (.string ⟨#[]⟩) := ⟨Tryd.isAgg10, Tryd.sizeOf10, Tryd.zeroValue10, rfl⟩
instance : Und Tryd.prog 11 (.string) := ⟨Tryd.underlying11⟩
instance : Ty1 Tryd.prog 11 (.string ⟨#[]⟩) := ⟨Tryd.isAgg11, Tryd.sizeOf11, Tryd.zeroValue11, rfl⟩
instance : Und Tryd.prog 12 (.int .u64) := ⟨Tryd.underlying12⟩
instance : Ty1 Tryd.prog 12 (.int .u64 0) := ⟨Tryd.isAgg12, Tryd.sizeOf12, Tryd.zeroValue12, rfl⟩
instance : TyS Tryd.prog 13 2 [.string ⟨#[]⟩, .int .u64 0] := ⟨Tryd.isAgg13, Tryd.sizeOf13, Tryd.zeroValue13⟩
instance : Fld Tryd.prog 13 0 0 := ⟨fun h => a_field (sz := 1) Tryd.underlying13 rfl Tryd.sizeOf9 (by decide) h⟩
instance : Fld Tryd.prog 13 1 1 := ⟨fun h => a_field (sz := 1) Tryd.underlying13 rfl Tryd.sizeOf12 (by decide) h⟩
instance : Bld Tryd.prog 13 #[(0, 1), (1, 1)] #[.string ⟨#[]⟩, .int .u64 0] := ⟨Tryd.zeroValue13, ⟨_, Tryd.underlying13, fun w => by kernel_rfl⟩⟩
instance : TyS Tryd.prog 14 2 [.string ⟨#[]⟩, .int .u64 0] := ⟨Tryd.isAgg14, Tryd.sizeOf14, Tryd.zeroValue14⟩
instance : Fld Tryd.prog 14 0 0 := ⟨fun h => a_field (sz := 1) Tryd.underlying14 rfl Tryd.sizeOf9 (by decide) h⟩
instance : Fld Tryd.prog 14 1 1 := ⟨fun h => a_field (sz := 1) Tryd.underlying14 rfl Tryd.sizeOf12 (by decide) h⟩
instance : Bld Tryd.prog 14 #[(0, 1), (1, 1)] #[.string ⟨#[]⟩, .int .u64 0] := ⟨Tryd.zeroValue14, ⟨_, Tryd.underlying14, fun w => by kernel_rfl⟩⟩
instance : Und Tryd.prog 15 (.pointer 90) := ⟨Tryd.underlying15⟩
instance : Ty1 Tryd.prog 15 (.pointer none) := ⟨Tryd.isAgg15, Tryd.sizeOf15, Tryd.zeroValue15, rfl⟩
instance : Und Tryd.prog 16 (.pointer 93) := ⟨Tryd.underlying16⟩
instance : Ty1 Tryd.prog 16 (.pointer none) := ⟨Tryd.isAgg16, Tryd.sizeOf16, Tryd.zeroValue16, rfl⟩
instance : Und Tryd.prog 17 (.pointer 100) := ⟨Tryd.underlying17⟩
instance : Ty1 Tryd.prog 17 (.pointer none) := ⟨Tryd.isAgg17, Tryd.sizeOf17, Tryd.zeroValue17, rfl⟩
instance : TyS Tryd.prog 18 1 [.pointer none] := ⟨Tryd.isAgg18, Tryd.sizeOf18, Tryd.zeroValue18⟩
instance : Fld Tryd.prog 18 0 0 := ⟨fun h => a_field (sz := 1) Tryd.underlying18 rfl Tryd.sizeOf17 (by decide) h⟩
instance : Bld Tryd.prog 18 #[(0, 1)] #[.pointer none] := ⟨Tryd.zeroValue18, ⟨_, Tryd.underlying18, fun w => by kernel_rfl⟩⟩
instance : TyS Tryd.prog 19 1 [.pointer none] := ⟨Tryd.isAgg19, Tryd.sizeOf19, Tryd.zeroValue19⟩
instance : Fld Tryd.prog 19 0 0 := ⟨fun h => a_field (sz := 1) Tryd.underlying19 rfl Tryd.sizeOf17 (by decide) h⟩
instance : Bld Tryd.prog 19 #[(0, 1)] #[.pointer none] := ⟨Tryd.zeroValue19, ⟨_, Tryd.underlying19, fun w => by kernel_rfl⟩⟩
instance : Und Tryd.prog 20 (.interface #[]) := ⟨Tryd.underlying20⟩
instance : Ty1 Tryd.prog 20 (.nilIface) := ⟨Tryd.isAgg20, Tryd.sizeOf20, Tryd.zeroValue20, rfl⟩
instance : Und Tryd.prog 21 (.int .i32) := ⟨Tryd.underlying21⟩
instance : Ty1 Tryd.prog 21 (.int .i32 0) := ⟨Tryd.isAgg21, Tryd.sizeOf21, Tryd.zeroValue21, rfl⟩
instance : Und Tryd.prog 22 (.func #[] #[4] false) := ⟨Tryd.underlying22⟩
instance : Ty1 Tryd.prog 22 (.nilFunc) := ⟨Tryd.isAgg22, Tryd.sizeOf22, Tryd.zeroValue22, rfl⟩
instance : Und Tryd.prog 24 (.func #[3, 3] #[9, 4] false) := ⟨Tryd.underlying24⟩
instance : Ty1 Tryd.prog 24 (.nilFunc) := ⟨Tryd.isAgg24, Tryd.sizeOf24, Tryd.zeroValue24, rfl⟩
instance : Und Tryd.prog 25 (.slice 5) := ⟨Tryd.underlying25⟩
instance : Ty1 Tryd.prog 25 (.slice none 0 0) := ⟨Tryd.isAgg25, Tryd.sizeOf25, Tryd.zeroValue25, rfl⟩
instance : SlT Tryd.prog 25 5 1 1 (.int .u8 0) := ⟨⟨Tryd.underlying25, by kernel_rfl, rfl, by decide⟩⟩
instance : Und Tryd.prog 26 (.int .i64) := ⟨Tryd.underlying26⟩
instance : Ty1 Tryd.prog 26 (.int .i64 0) := ⟨Tryd.isAgg26, Tryd.sizeOf26, Tryd.zeroValue26, rfl⟩
instance : Und Tryd.prog 28 (.func #[3] #[25, 26] false) := ⟨Tryd.underlying28⟩
instance : Ty1 Tryd.prog 28 (.nilFunc) := ⟨Tryd.isAgg28, Tryd.sizeOf28, Tryd.zeroValue28, rfl⟩
instance : Und Tryd.prog 29 (.func #[3, 3, 3] #[4] false) := ⟨Tryd.underlying29⟩
instance : Ty1 Tryd.prog 29 (.nilFunc) := ⟨Tryd.isAgg29, Tryd.sizeOf29, Tryd.zeroValue29, rfl⟩
instance : Und Tryd.prog 31 (.func #[25, 3, 3] #[3, 26] false) := ⟨Tryd.underlying31⟩
instance : Ty1 Tryd.prog 31 (.nilFunc) := ⟨Tryd.isAgg31, Tryd.sizeOf31, Tryd.zeroValue31, rfl⟩
instance : Und Tryd.prog 32 (.func #[3, 3] #[25, 26] false) := ⟨Tryd.underlying32⟩
instance : Ty1 Tryd.prog 32 (.nilFunc) := ⟨Tryd.isAgg32, Tryd.sizeOf32, Tryd.zeroValue32, rfl⟩
instance : Und Tryd.prog 33 (.func #[25, 25] #[4] false) := ⟨Tryd.underlying33⟩
instance : Ty1 Tryd.prog 33 (.nilFunc) := ⟨Tryd.isAgg33, Tryd.sizeOf33, Tryd.zeroValue33, rfl⟩
instance : Und Tryd.prog 34 (.int .u64) := ⟨Tryd.underlying34⟩
instance : Ty1 Tryd.prog 34 (.int .u64 0) := ⟨Tryd.isAgg34, Tryd.sizeOf34, Tryd.zeroValue34, rfl⟩
instance : Und Tryd.prog 35 (.func #[25, 3, 3] #[4] false) := ⟨Tryd.underlying35⟩
instance : Ty1 Tryd.prog 35 (.nilFunc) := ⟨Tryd.isAgg35, Tryd.sizeOf35, Tryd.zeroValue35, rfl⟩
instance : Und Tryd.prog 36 (.func #[25] #[25] false) := ⟨Tryd.underlying36⟩
instance : Ty1 Tryd.prog 36 (.nilFunc) := ⟨Tryd.isAgg36, Tryd.sizeOf36, Tryd.zeroValue36, rfl⟩
instance : Und Tryd.prog 37 (.int .u32) := ⟨Tryd.underlying37⟩
instance : Ty1 Tryd.prog 37 (.int .u32 0) := ⟨Tryd.isAgg37, Tryd.sizeOf37, Tryd.zeroValue37, rfl⟩
instance : Und Tryd.prog 38 (.func #[25] #[37] false) := ⟨Tryd.underlying38⟩
instance : Ty1 Tryd.prog 38 (.nilFunc) := ⟨Tryd.isAgg38, Tryd.sizeOf38, Tryd.zeroValue38, rfl⟩
instance : Und Tryd.prog 39 (.func #[25, 25, 25, 3, 5] #[4] false) := ⟨Tryd.underlying39⟩
instance : Ty1 Tryd.prog 39 (.nilFunc) := ⟨Tryd.isAgg39, Tryd.sizeOf39, Tryd.zeroValue39, rfl⟩
instance : Und Tryd.prog 41 (.func #[25, 3] #[3, 3, 26] false) := ⟨Tryd.underlying41⟩
instance : Ty1 Tryd.prog 41 (.nilFunc) := ⟨Tryd.isAgg41, Tryd.sizeOf41, Tryd.zeroValue41, rfl⟩
instance : Und Tryd.prog 43 (.func #[9] #[25, 4] false) := ⟨Tryd.underlying43⟩
instance : Ty1 Tryd.prog 43 (.nilFunc) := ⟨Tryd.isAgg43, Tryd.sizeOf43, Tryd.zeroValue43, rfl⟩
instance : Und Tryd.prog 44 (.func #[25] #[9] false) := ⟨Tryd.underlying44⟩
instance : Ty1 Tryd.prog 44 (.nilFunc) := ⟨Tryd.isAgg44, Tryd.sizeOf44, Tryd.zeroValue44, rfl⟩
instance : Und Tryd.prog 45 (.func #[25, 9] #[4] false) := ⟨Tryd.underlying45⟩
instance : Ty1 Tryd.prog 45 (.nilFunc) := ⟨Tryd.isAgg45, Tryd.sizeOf45, Tryd.zeroValue45, rfl⟩
instance : Und Tryd.prog 46 (.func #[3, 3, 25] #[4] false) := ⟨Tryd.underlying46⟩
instance : Ty1 Tryd.prog 46 (.nilFunc) := ⟨Tryd.isAgg46, Tryd.sizeOf46, Tryd.zeroValue46, rfl⟩
instance : Und Tryd.prog 47 (.func #[3] #[9] false) := ⟨Tryd.underlying47⟩
instance : Ty1 Tryd.prog 47 (.nilFunc) := ⟨Tryd.isAgg47, Tryd.sizeOf47, Tryd.zeroValue47, rfl⟩
instance : Und Tryd.prog 48 (.func #[9, 3] #[9] false) := ⟨Tryd.underlying48⟩
instance : Ty1 Tryd.prog 48 (.nilFunc) := ⟨Tryd.isAgg48, Tryd.sizeOf48, Tryd.zeroValue48, rfl⟩
instance : Und Tryd.prog 49 (.func #[9, 5] #[3] false) := ⟨Tryd.underlying49⟩
instance : Ty1 Tryd.prog 49 (.nilFunc) := ⟨Tryd.isAgg49, Tryd.sizeOf49, Tryd.zeroValue49, rfl⟩
instance : Und Tryd.prog 50 (.func #[5] #[3] false) := ⟨Tryd.underlying50⟩
instance : Ty1 Tryd.prog 50 (.nilFunc) := ⟨Tryd.isAgg50, Tryd.sizeOf50, Tryd.zeroValue50, rfl⟩
instance : Und Tryd.prog 51 (.pointer 53) := ⟨Tryd.underlying51⟩
instance : Ty1 Tryd.prog 51 (.pointer none) := ⟨Tryd.isAgg51, Tryd.sizeOf51, Tryd.zeroValue51, rfl⟩
instance : TyS Tryd.prog 52 2 [.pointer none, .slice none 0 0] := ⟨Tryd.isAgg52, Tryd.sizeOf52, Tryd.zeroValue52⟩
instance : Fld Tryd.prog 52 0 0 := ⟨fun h => a_field (sz := 1) Tryd.underlying52 rfl Tryd.sizeOf51 (by decide) h⟩
instance : Fld Tryd.prog 52 1 1 := ⟨fun h => a_field (sz := 1) Tryd.underlying52 rfl Tryd.sizeOf25 (by decide) h⟩
instance : Bld Tryd.prog 52 #[(0, 1), (1, 1)] #[.pointer none, .slice none 0 0] := ⟨Tryd.zeroValue52, ⟨_, Tryd.underlying52, fun w => by kernel_rfl⟩⟩
instance : TyS Tryd.prog 53 2 [.pointer none, .slice none 0 0] := ⟨Tryd.isAgg53, Tryd.sizeOf53, Tryd.zeroValue53⟩
instance : Fld Tryd.prog 53 0 0 := ⟨fun h => a_field (sz := 1) Tryd.underlying53 rfl Tryd.sizeOf51 (by decide) h⟩
instance : Fld Tryd.prog 53 1 1 := ⟨fun h => a_field (sz := 1) Tryd.underlying53 rfl Tryd.sizeOf25 (by decide) h⟩
instance : Bld Tryd.prog 53 #[(0, 1), (1, 1)] #[.pointer none, .slice none 0 0] := ⟨Tryd.zeroValue53, ⟨_, Tryd.underlying53, fun w => by kernel_rfl⟩⟩
instance : Und Tryd.prog 54 (.interface #[("Error", 57)]) := ⟨Tryd.underlying54⟩
instance : Ty1 Tryd.prog 54 (.nilIface) := ⟨Tryd.isAgg54, Tryd.sizeOf54, Tryd.zeroValue54, rfl⟩
instance : Und Tryd.prog 55 (.interface #[("Error", 57)]) := ⟨Tryd.underlying55⟩
instance : Ty1 Tryd.prog 55 (.nilIface) := ⟨Tryd.isAgg55, Tryd.sizeOf55, Tryd.zeroValue55, rfl⟩
instance : Und Tryd.prog 56 (.func #[5] #[55] false) := ⟨Tryd.underlying56⟩
instance : Ty1 Tryd.prog 56 (.nilFunc) := ⟨Tryd.isAgg56, Tryd.sizeOf56, Tryd.zeroValue56, rfl⟩
instance : Und Tryd.prog 57 (.func #[] #[9] false) := ⟨Tryd.underlying57⟩
instance : Ty1 Tryd.prog 57 (.nilFunc) := ⟨Tryd.isAgg57, Tryd.sizeOf57, Tryd.zeroValue57, rfl⟩
instance : Und Tryd.prog 59 (.func #[34, 34] #[34, 34] false) := ⟨Tryd.underlying59⟩
instance : Ty1 Tryd.prog 59 (.nilFunc) := ⟨Tryd.isAgg59, Tryd.sizeOf59, Tryd.zeroValue59, rfl⟩
instance : Und Tryd.prog 60 (.func #[9, 9] #[4] false) := ⟨Tryd.underlying60⟩
instance : Ty1 Tryd.prog 60 (.nilFunc) := ⟨Tryd.isAgg60, Tryd.sizeOf60, Tryd.zeroValue60, rfl⟩
instance : Und Tryd.prog 61 (.func #[3] #[] false) := ⟨Tryd.underlying61⟩
instance : Ty1 Tryd.prog 61 (.nilFunc) := ⟨Tryd.isAgg61, Tryd.sizeOf61, Tryd.zeroValue61, rfl⟩
instance : Und Tryd.prog 63 (.func #[9] #[3, 55] false) := ⟨Tryd.underlying63⟩
instance : Ty1 Tryd.prog 63 (.nilFunc) := ⟨Tryd.isAgg63, Tryd.sizeOf63, Tryd.zeroValue63, rfl⟩
instance : Und Tryd.prog 64 (.func #[] #[3] false) := ⟨Tryd.underlying64⟩
instance : Ty1 Tryd.prog 64 (.nilFunc) := ⟨Tryd.isAgg64, Tryd.sizeOf64, Tryd.zeroValue64, rfl⟩
instance : Und Tryd.prog 65 (.pointer 5) := ⟨Tryd.underlying65⟩
instance : Ty1 Tryd.prog 65 (.pointer none) := ⟨Tryd.isAgg65, Tryd.sizeOf65, Tryd.zeroValue65, rfl⟩
instance : Und Tryd.prog 66 (.func #[2, 3] #[9] false) := ⟨Tryd.underlying66⟩
instance : Ty1 Tryd.prog 66 (.nilFunc) := ⟨Tryd.isAgg66, Tryd.sizeOf66, Tryd.zeroValue66, rfl⟩
instance : Und Tryd.prog 68 (.func #[37, 37] #[37, 37] false) := ⟨Tryd.underlying68⟩
instance : Ty1 Tryd.prog 68 (.nilFunc) := ⟨Tryd.isAgg68, Tryd.sizeOf68, Tryd.zeroValue68, rfl⟩
instance : Und Tryd.prog 69 (.int .u64) := ⟨Tryd.underlying69⟩
instance : Ty1 Tryd.prog 69 (.int .u64 0) := ⟨Tryd.isAgg69, Tryd.sizeOf69, Tryd.zeroValue69, rfl⟩
instance : Und Tryd.prog 71 (.func #[69, 69] #[69, 69] false) := ⟨Tryd.underlying71⟩
instance : Ty1 Tryd.prog 71 (.nilFunc) := ⟨Tryd.isAgg71, Tryd.sizeOf71, Tryd.zeroValue71, rfl⟩
instance : Und Tryd.prog 72 (.unsafePointer) := ⟨Tryd.underlying72⟩
instance : Ty1 Tryd.prog 72 (.pointer none) := ⟨Tryd.isAgg72, Tryd.sizeOf72, Tryd.zeroValue72, rfl⟩
instance : Und Tryd.prog 73 (.func #[72] #[72] false) := ⟨Tryd.underlying73⟩
instance : Ty1 Tryd.prog 73 (.nilFunc) := ⟨Tryd.isAgg73, Tryd.sizeOf73, Tryd.zeroValue73, rfl⟩
instance : Und Tryd.prog 75 (.func #[69] #[3] false) := ⟨Tryd.underlying75⟩
instance : Ty1 Tryd.prog 75 (.nilFunc) := ⟨Tryd.isAgg75, Tryd.sizeOf75, Tryd.zeroValue75, rfl⟩
instance : Und Tryd.prog 76 (.func #[25, 69] #[] false) := ⟨Tryd.underlying76⟩
instance : Ty1 Tryd.prog 76 (.nilFunc) := ⟨Tryd.isAgg76, Tryd.sizeOf76, Tryd.zeroValue76, rfl⟩
instance : Und Tryd.prog 78 (.func #[25, 69, 3, 4, 4] #[25, 9] false) := ⟨Tryd.underlying78⟩
instance : Ty1 Tryd.prog 78 (.nilFunc) := ⟨Tryd.isAgg78, Tryd.sizeOf78, Tryd.zeroValue78, rfl⟩
instance : Und Tryd.prog 79 (.func #[3] #[25] false) := ⟨Tryd.underlying79⟩
instance : Ty1 Tryd.prog 79 (.nilFunc) := ⟨Tryd.isAgg79, Tryd.sizeOf79, Tryd.zeroValue79, rfl⟩
instance : Und Tryd.prog 80 (.func #[3] #[3] false) := ⟨Tryd.underlying80⟩
instance : Ty1 Tryd.prog 80 (.nilFunc) := ⟨Tryd.isAgg80, Tryd.sizeOf80, Tryd.zeroValue80, rfl⟩
instance : Und Tryd.prog 81 (.func #[4] #[3] false) := ⟨Tryd.underlying81⟩
instance : Ty1 Tryd.prog 81 (.nilFunc) := ⟨Tryd.isAgg81, Tryd.sizeOf81, Tryd.zeroValue81, rfl⟩
instance : Und Tryd.prog 84 (.func #[3] #[4] false) := ⟨Tryd.underlying84⟩
instance : Ty1 Tryd.prog 84 (.nilFunc) := ⟨Tryd.isAgg84, Tryd.sizeOf84, Tryd.zeroValue84, rfl⟩
instance : Und Tryd.prog 85 (.func #[34] #[3] false) := ⟨Tryd.underlying85⟩
instance : Ty1 Tryd.prog 85 (.nilFunc) := ⟨Tryd.isAgg85, Tryd.sizeOf85, Tryd.zeroValue85, rfl⟩
instance : Und Tryd.prog 86 (.func #[37] #[3] false) := ⟨Tryd.underlying86⟩
instance : Ty1 Tryd.prog 86 (.nilFunc) := ⟨Tryd.isAgg86, Tryd.sizeOf86, Tryd.zeroValue86, rfl⟩
instance : TyS Tryd.prog 89 4 [.pointer none, .pointer none, .pointer none, .string ⟨#[]⟩] := ⟨Tryd.isAgg89, Tryd.sizeOf89, Tryd.zeroValue89⟩
instance : Fld Tryd.prog 89 0 0 := ⟨fun h => a_field (sz := 1) Tryd.underlying89 rfl Tryd.sizeOf17 (by decide) h⟩
instance : Fld Tryd.prog 89 1 1 := ⟨fun h => a_field (sz := 1) Tryd.underlying89 rfl Tryd.sizeOf17 (by decide) h⟩
instance : Fld Tryd.prog 89 2 2 := ⟨fun h => a_field (sz := 1) Tryd.underlying89 rfl Tryd.sizeOf17 (by decide) h⟩
instance : Fld Tryd.prog 89 3 3 := ⟨fun h => a_field (sz := 1) Tryd.underlying89 rfl Tryd.sizeOf9 (by decide) h⟩
instance : Bld Tryd.prog 89 #[(0, 1), (1, 1), (2, 1), (3, 1)] #[.pointer none, .pointer none, .pointer none, .string ⟨#[]⟩] := ⟨Tryd.zeroValue89, ⟨_, Tryd.underlying89, fun w => by kernel_rfl⟩⟩
instance : TyS Tryd.prog 90 4 [.pointer none, .pointer none, .pointer none, .string ⟨#[]⟩] := ⟨Tryd.isAgg90, Tryd.sizeOf90, Tryd.zeroValue90⟩
instance : Fld Tryd.prog 90 0 0 := ⟨fun h => a_field (sz := 1) Tryd.underlying90 rfl Tryd.sizeOf17 (by decide) h⟩
instance : Fld Tryd.prog 90 1 1 := ⟨fun h => a_field (sz := 1) Tryd.underlying90 rfl Tryd.sizeOf17 (by decide) h⟩
instance : Fld Tryd.prog 90 2 2 := ⟨fun h => a_field (sz := 1) Tryd.underlying90 rfl Tryd.sizeOf17 (by decide) h⟩
instance : Fld Tryd.prog 90 3 3 := ⟨fun h => a_field (sz := 1) Tryd.underlying90 rfl Tryd.sizeOf9 (by decide) h⟩
instance : Bld Tryd.prog 90 #[(0, 1), (1, 1), (2, 1), (3, 1)] #[.pointer none, .pointer none, .pointer none, .string ⟨#[]⟩] := ⟨Tryd.zeroValue90, ⟨_, Tryd.underlying90, fun w => by kernel_rfl⟩⟩
instance : TyS Tryd.prog 92 0 [] := ⟨Tryd.isAgg92, Tryd.sizeOf92, Tryd.zeroValue92⟩
instance : Bld Tryd.prog 92 #[(0, 0)] #[] := ⟨Tryd.zeroValue92, ⟨_, Tryd.underlying92, fun w => by kernel_rfl⟩⟩
instance : TyS Tryd.prog 93 0 [] := ⟨Tryd.isAgg93, Tryd.sizeOf93, Tryd.zeroValue93⟩
instance : Bld Tryd.prog 93 #[(0, 0)] #[] := ⟨Tryd.zeroValue93, ⟨_, Tryd.underlying93, fun w => by kernel_rfl⟩⟩
instance : Und Tryd.prog 94 (.int .u8) := ⟨Tryd.underlying94⟩
instance : Ty1 Tryd.prog 94 (.int .u8 0) := ⟨Tryd.isAgg94, Tryd.sizeOf94, Tryd.zeroValue94, rfl⟩
instance : Und Tryd.prog 95 (.int .u8) := ⟨Tryd.underlying95⟩
instance : Ty1 Tryd.prog 95 (.int .u8 0) := ⟨Tryd.isAgg95, Tryd.sizeOf95, Tryd.zeroValue95, rfl⟩
instance : Und Tryd.prog 96 (.func #[72, 72] #[4] false) := ⟨Tryd.underlying96⟩
instance : Ty1 Tryd.prog 96 (.nilFunc) := ⟨Tryd.isAgg96, Tryd.sizeOf96, Tryd.zeroValue96, rfl⟩
instance : Und Tryd.prog 97 (.int .i32) := ⟨Tryd.underlying97⟩
instance : Ty1 Tryd.prog 97 (.int .i32 0) := ⟨Tryd.isAgg97, Tryd.sizeOf97, Tryd.zeroValue97, rfl⟩
instance : Und Tryd.prog 98 (.int .i32) := ⟨Tryd.underlying98⟩
instance : Ty1 Tryd.prog 98 (.int .i32 0) := ⟨Tryd.isAgg98, Tryd.sizeOf98, Tryd.zeroValue98, rfl⟩
instance : TyS Tryd.prog 99 11 [.int .u64 0, .int .u64 0, .int .u32 0, .int .u8 0, .int .u8 0, .int .u8 0, .int .u8 0, .nilFunc, .pointer none, .int .i32 0, .int .i32 0] := ⟨Tryd.isAgg99, Tryd.sizeOf99, Tryd.zeroValue99⟩
instance : Fld Tryd.prog 99 0 0 := ⟨fun h => a_field (sz := 1) Tryd.underlying99 rfl Tryd.sizeOf12 (by decide) h⟩
instance : Fld Tryd.prog 99 1 1 := ⟨fun h => a_field (sz := 1) Tryd.underlying99 rfl Tryd.sizeOf12 (by decide) h⟩
instance : Fld Tryd.prog 99 2 2 := ⟨fun h => a_field (sz := 1) Tryd.underlying99 rfl Tryd.sizeOf37 (by decide) h⟩
instance : Fld Tryd.prog 99 3 3 := ⟨fun h => a_field (sz := 1) Tryd.underlying99 rfl Tryd.sizeOf94 (by decide) h⟩
instance : Fld Tryd.prog 99 4 4 := ⟨fun h => a_field (sz := 1) Tryd.underlying99 rfl Tryd.sizeOf5 (by decide) h⟩
instance : Fld Tryd.prog 99 5 5 := ⟨fun h => a_field (sz := 1) Tryd.underlying99 rfl Tryd.sizeOf5 (by decide) h⟩
instance : Fld Tryd.prog 99 6 6 := ⟨fun h => a_field (sz := 1) Tryd.underlying99 rfl Tryd.sizeOf95 (by decide) h⟩
instance : Fld Tryd.prog 99 7 7 := ⟨fun h => a_field (sz := 1) Tryd.underlying99 rfl Tryd.sizeOf96 (by decide) h⟩
instance : Fld Tryd.prog 99 8 8 := ⟨fun h => a_field (sz := 1) Tryd.underlying99 rfl Tryd.sizeOf65 (by decide) h⟩
instance : Fld Tryd.prog 99 9 9 := ⟨fun h => a_field (sz := 1) Tryd.underlying99 rfl Tryd.sizeOf97 (by decide) h⟩
instance : Fld Tryd.prog 99 10 10 := ⟨fun h => a_field (sz := 1) Tryd.underlying99 rfl Tryd.sizeOf98 (by decide) h⟩
instance : Bld Tryd.prog 99 #[(0, 1), (1, 1), (2, 1), (3, 1), (4, 1), (5, 1), (6, 1), (7, 1), (8, 1), (9, 1), (10, 1)] #[.int .u64 0, .int .u64 0, .int .u32 0, .int .u8 0, .int .u8 0, .int .u8 0, .int .u8 0, .nilFunc, .pointer none, .int .i32 0, .int .i32 0] := ⟨Tryd.zeroValue99, ⟨_, Tryd.underlying99, fun w => by kernel_rfl⟩⟩
instance : TyS Tryd.prog 100 11 [.int .u64 0, .int .u64 0, .int .u32 0, .int .u8 0, .int .u8 0, .int .u8 0, .int .u8 0, .nilFunc, .pointer none, .int .i32 0, .int .i32 0] := ⟨Tryd.isAgg100, Tryd.sizeOf100, Tryd.zeroValue100⟩
instance : Fld Tryd.prog 100 0 0 := ⟨fun h => a_field (sz := 1) Tryd.underlying100 rfl Tryd.sizeOf12 (by decide) h⟩
instance : Fld Tryd.prog 100 1 1 := ⟨fun h => a_field (sz := 1) Tryd.underlying100 rfl Tryd.sizeOf12 (by decide) h⟩
instance : Fld Tryd.prog 100 2 2 := ⟨fun h => a_field (sz := 1) Tryd.underlying100 rfl Tryd.sizeOf37 (by decide) h⟩
instance : Fld Tryd.prog 100 3 3 := ⟨fun h => a_field (sz := 1) Tryd.underlying100 rfl Tryd.sizeOf94 (by decide) h⟩
instance : Fld Tryd.prog 100 4 4 := ⟨fun h => a_field (sz := 1) Tryd.underlying100 rfl Tryd.sizeOf5 (by decide) h⟩
instance : Fld Tryd.prog 100 5 5 := ⟨fun h => a_field (sz := 1) Tryd.underlying100 rfl Tryd.sizeOf5 (by decide) h⟩
instance : Fld Tryd.prog 100 6 6 := ⟨fun h => a_field (sz := 1) Tryd.underlying100 rfl Tryd.sizeOf95 (by decide) h⟩
instance : Fld Tryd.prog 100 7 7 := ⟨fun h => a_field (sz := 1) Tryd.underlying100 rfl Tryd.sizeOf96 (by decide) h⟩
instance : Fld Tryd.prog 100 8 8 := ⟨fun h => a_field (sz := 1) Tryd.underlying100 rfl Tryd.sizeOf65 (by decide) h⟩
instance : Fld Tryd.prog 100 9 9 := ⟨fun h => a_field (sz := 1) Tryd.underlying100 rfl Tryd.sizeOf97 (by decide) h⟩
instance : Fld Tryd.prog 100 10 10 := ⟨fun h => a_field (sz := 1) Tryd.underlying100 rfl Tryd.sizeOf98 (by decide) h⟩
instance : Bld Tryd.prog 100 #[(0, 1), (1, 1), (2, 1), (3, 1), (4, 1), (5, 1), (6, 1), (7, 1), (8, 1), (9, 1), (10, 1)] #[.int .u64 0, .int .u64 0, .int .u32 0, .int .u8 0, .int .u8 0, .int .u8 0, .int .u8 0, .nilFunc, .pointer none, .int .i32 0, .int .i32 0] := ⟨Tryd.zeroValue100, ⟨_, Tryd.underlying100, fun w => by kernel_rfl⟩⟩
end Go.Proofs.YtknbnfpdcbpoeaaDoor
