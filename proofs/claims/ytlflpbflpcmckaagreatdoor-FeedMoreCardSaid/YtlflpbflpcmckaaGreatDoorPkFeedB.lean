/-
  Parts of the proofs of FeedOnce, FeedKinds, FeedMore.
-/
import Derived.Test.YtlflpbflpcmckaaGreatDoorPkFeedA
import Derived.Test.YtlflpbflpcmckaaGreatDoorProg
import Derived.Shelf.Unicode.DecodeAny
import Derived.Shelf.Strconv.ToError
import Derived.Ground.NamesProg
import Derived.Lib.MapLaws
import Derived.Lib.TrimU
import Derived.Laws.RangeAny
namespace Go.Proofs.YtlflpbflpcmckaaGreatDoor
open Go Go.Ez
set_option linter.unusedVariables false
set_option maxRecDepth 100000
def ent : List Nat := [39, 40, 41, 42, 43, 44, 45, 54, 55, 56, 57, 58, 59, 60, 71, 72, 73, 74, 75, 76, 77, 78, 79, 80, 81, 82, 83, 91, 92, 103, 104, 105, 106, 107, 108, 109, 110, 111, 112, 113, 126, 127, 128, 129, 130, 131, 132, 134, 137, 138, 139, 154, 155, 156, 157, 158, 159, 160, 161, 162, 163, 164, 165, 166, 167, 168, 169, 172, 173, 174, 175, 176, 177, 180, 181, 182, 183, 184, 186, 187, 192]
theorem hent : ∀ g, memN g ent = true → Enters Tryz.prog g := enters_all (by kernel_rfl)
def sh26 (a0 : Value) (w : World) (R : Value → World → Prop) : Prop :=
 RunW Tryz.prog (Builtin.len_ #[31] 3 #[a0]) w fun t8_1 =>
 RunA Tryz.prog (bin .gtr 3 (.tmp 8) (.const (.int .i64 20000)) t8_1 (.int .i64 20000)) fun t9_2 =>
 IfB t9_2 (
 R (.tuple #[(.slice none 0 0), (.int .i64 3)]) w) (
 RunV Tryz.prog (convert 31 9 a0) w fun t11_3 w =>
 RunV Tryz.prog (Instr.build 83 #[(0, t11_3)]) w fun t12_4 w =>
 RunV Tryz.prog (Instr.box 83 t12_4) w fun t13_5 w =>
 CallF Tryz.prog 39 #[t13_5] w fun t15_6 w =>
 CallF Tryz.prog 40 #[t13_5, (.int .i64 0)] w fun t17_7 w =>
 jn 1 (fun t4_8 w =>
 CallF Tryz.prog 40 #[t4_8, (.int .i64 1)] w fun t30_10 w =>
 jn 1 (fun t4_11 w =>
 jn 1 (fun t4_13 w =>
 jn 1 (fun t4_15 w =>
 CallF Tryz.prog 45 #[t4_15] w fun t66_17 w =>
 jn 1 (fun t4_18 w =>
 RunA Tryz.prog (nilV t4_18) fun t87_20 =>
 RunA Tryz.prog (Instr.fieldAt 83 t87_20 2) fun t88_21 =>
 RunW Tryz.prog (Instr.loadAt 28 t88_21) w fun t89_22 =>
 RunW Tryz.prog (bin .neq 28 (.tmp 89) (.const (.int .i64 0)) t89_22 (.int .i64 0)) w fun t90_23 =>
 IfB t90_23 (
 drw (fun S_24 w =>
 RunA Tryz.prog (nilV t4_18) fun t92_25 =>
 RunA Tryz.prog (Instr.fieldAt 83 t92_25 2) fun t93_26 =>
 RunS Tryz.prog S_24 (Instr.loadAt 28 t93_26) fun t94_27 =>
 R (.tuple #[(.slice none 0 0), t94_27]) w) w) (
 RunA Tryz.prog (nilV t4_18) fun t96_28 =>
 RunA Tryz.prog (Instr.fieldAt 83 t96_28 3) fun t97_29 =>
 RunW Tryz.prog (Instr.loadAt 54 t97_29) w fun t98_30 =>
 R (.tuple #[t98_30, (.int .i64 0)]) w)) fun j_19 =>
 drw (fun S_31 w =>
 RunA Tryz.prog (nilV t4_15) fun t68_32 =>
 RunA Tryz.prog (Instr.fieldAt 83 t68_32 2) fun t69_33 =>
 RunS Tryz.prog S_31 (Instr.loadAt 28 t69_33) fun t70_34 =>
 RunS Tryz.prog S_31 (bin .eql 28 (.tmp 70) (.const (.int .i64 0)) t70_34 (.int .i64 0)) fun t71_35 =>
 IfB t71_35 (
 RunA Tryz.prog (nilV t4_15) fun t74_36 =>
 RunA Tryz.prog (Instr.fieldAt 83 t74_36 1) fun t75_37 =>
 RunS Tryz.prog S_31 (Instr.loadAt 3 t75_37) fun t76_38 =>
 RunA Tryz.prog (nilV t4_15) fun t78_39 =>
 RunA Tryz.prog (Instr.fieldAt 83 t78_39 0) fun t79_40 =>
 RunS Tryz.prog S_31 (Instr.loadAt 9 t79_40) fun t80_41 =>
 RunS Tryz.prog S_31 (Builtin.len_ #[9] 3 #[t80_41]) fun t81_42 =>
 RunA Tryz.prog (bin .lss 3 (.tmp 76) (.tmp 81) t76_38 t81_42) fun t82_43 =>
 IfB t82_43 (
 CallF Tryz.prog 41 #[t4_15, (.int .i64 4)] w fun t85_44 w =>
 j_19 t4_15 w) (
 j_19 t4_15 w)) (
 j_19 t4_15 w)) w) fun j_16 =>
 lp 0 (fun n_45 w =>
 RunA Tryz.prog (nilV t4_13) fun t51_46 =>
 RunA Tryz.prog (Instr.fieldAt 83 t51_46 2) fun t52_47 =>
 RunW Tryz.prog (Instr.loadAt 28 t52_47) w fun t53_48 =>
 RunW Tryz.prog (bin .eql 28 (.tmp 53) (.const (.int .i64 0)) t53_48 (.int .i64 0)) w fun t54_49 =>
 IfB t54_49 (
 RunA Tryz.prog (nilV t4_13) fun t57_50 =>
 RunA Tryz.prog (Instr.fieldAt 83 t57_50 4) fun t58_51 =>
 RunW Tryz.prog (Instr.loadAt 78 t58_51) w fun t59_52 =>
 RunW Tryz.prog (Builtin.len_ #[78] 3 #[t59_52]) w fun t60_53 =>
 RunA Tryz.prog (bin .gtr 3 (.tmp 60) (.const (.int .i64 0)) t60_53 (.int .i64 0)) fun t61_54 =>
 IfB t61_54 (
 CallF Tryz.prog 44 #[t4_13] w fun t64_55 w =>
 (t4_13 : Value) = t4_13 ∧ (n_45 w)) (
 j_16 t4_13 w)) (
 j_16 t4_13 w)) [] w) fun j_14 =>
 RunA Tryz.prog (nilV t4_11) fun t44_56 =>
 RunA Tryz.prog (Instr.fieldAt 83 t44_56 2) fun t45_57 =>
 RunW Tryz.prog (Instr.loadAt 28 t45_57) w fun t46_58 =>
 RunW Tryz.prog (bin .eql 28 (.tmp 46) (.const (.int .i64 0)) t46_58 (.int .i64 0)) w fun t47_59 =>
 IfB t47_59 (
 CallF Tryz.prog 43 #[t4_11] w fun t49_60 w =>
 j_14 t4_11 w) (
 j_14 t4_11 w)) fun j_12 =>
 RunA Tryz.prog (nilV t4_8) fun t32_61 =>
 RunA Tryz.prog (Instr.fieldAt 83 t32_61 2) fun t33_62 =>
 RunW Tryz.prog (Instr.loadAt 28 t33_62) w fun t34_63 =>
 RunW Tryz.prog (bin .eql 28 (.tmp 34) (.const (.int .i64 0)) t34_63 (.int .i64 0)) w fun t35_64 =>
 IfB t35_64 (
 CallF Tryz.prog 42 #[t30_10] w fun t38_65 w =>
 RunA Tryz.prog (Op.unary .not t38_65) fun t39_66 =>
 IfB t39_66 (
 CallF Tryz.prog 41 #[t4_8, (.int .i64 4)] w fun t42_67 w =>
 j_12 t4_8 w) (
 j_12 t4_8 w)) (
 j_12 t4_8 w)) fun j_9 =>
 RunA Tryz.prog (nilV t13_5) fun t19_68 =>
 RunA Tryz.prog (Instr.fieldAt 83 t19_68 2) fun t20_69 =>
 RunW Tryz.prog (Instr.loadAt 28 t20_69) w fun t21_70 =>
 RunW Tryz.prog (bin .eql 28 (.tmp 21) (.const (.int .i64 0)) t21_70 (.int .i64 0)) w fun t22_71 =>
 IfB t22_71 (
 RunW Tryz.prog (bin .neq 5 (.tmp 24) (.const (.int .u8 60)) t17_7 (.int .u8 60)) w fun t25_72 =>
 IfB t25_72 (
 CallF Tryz.prog 41 #[t13_5, (.int .i64 4)] w fun t28_73 w =>
 j_9 t13_5 w) (
 j_9 t13_5 w)) (
 j_9 t13_5 w))
theorem sh26_calls {a0 : Value} {w : World} {R : Value → World → Prop} (h : sh26 a0 w R) : CallF Tryz.prog 26 #[a0] w R :=
  calls_of_denF (mk := false) (args := [a0]) (an := (.seq (.ops [0]) (.seq (.seq (.ops [0, 9]) (.cond (.seq (.ops [2, 3]) .leaf) .leaf)) (.seq (.ops [4]) (.seq (.ops [4]) (.seq (.seq (.ops [4, 5]) (.join [4] (.seq (.ops [4, 26]) (.cond (.ops [4]) .leaf)))) (.seq (.seq (.ops [4, 6]) (.join [4] (.seq (.ops [4, 40]) (.cond (.ops [4]) .leaf)))) (.seq (.join [4] (.seq (.ops [4, 47]) (.cond (.ops [4]) .leaf))) (.seq (.join [4] (.blk (.loop [4] [] (.seq (.seq (.ops [4, 62]) (.cond .leaf .leaf)) (.blk (.ops [4])))))) (.seq (.ops [4]) (.seq (.join [4] (.seq (.draw (.q 0 (.q 1 (.q 2 (.q 3 (.q 4 (.q 5 (.sp 6 (.q 6 (.q 7 (.q 8 (.q 9 (.q 10 (.q 11 (.q 12 (.q 13 (.q 14 (.q 15 (.q 16 .fin))))))))))) (.q 6 (.q 7 (.q 8 (.q 9 (.q 10 (.q 11 (.q 12 (.q 13 (.q 14 (.q 15 (.q 16 .fin)))))))))))))))))) [4, 83]) (.cond (.ops [4]) .leaf))) (.seq (.seq (.ops [4, 90]) (.cond (.seq (.draw (.q 0 (.q 1 (.q 2 (.q 3 (.q 4 (.q 5 .fin)))))) [2, 3]) .leaf) .leaf)) (.seq (.ops [2, 3]) .leaf))))))))))))) (c := Tryz.f26.body.getD .skip) hent Tryz.func26 rfl (Nat.le_of_ble_eq_true (by kernel_rfl))
    (Eq.mp (show sh26 a0 w R = denF Tryz.prog ent false Tryz.f26 (.seq (.ops [0]) (.seq (.seq (.ops [0, 9]) (.cond (.seq (.ops [2, 3]) .leaf) .leaf)) (.seq (.ops [4]) (.seq (.ops [4]) (.seq (.seq (.ops [4, 5]) (.join [4] (.seq (.ops [4, 26]) (.cond (.ops [4]) .leaf)))) (.seq (.seq (.ops [4, 6]) (.join [4] (.seq (.ops [4, 40]) (.cond (.ops [4]) .leaf)))) (.seq (.join [4] (.seq (.ops [4, 47]) (.cond (.ops [4]) .leaf))) (.seq (.join [4] (.blk (.loop [4] [] (.seq (.seq (.ops [4, 62]) (.cond .leaf .leaf)) (.blk (.ops [4])))))) (.seq (.ops [4]) (.seq (.join [4] (.seq (.draw (.q 0 (.q 1 (.q 2 (.q 3 (.q 4 (.q 5 (.sp 6 (.q 6 (.q 7 (.q 8 (.q 9 (.q 10 (.q 11 (.q 12 (.q 13 (.q 14 (.q 15 (.q 16 .fin))))))))))) (.q 6 (.q 7 (.q 8 (.q 9 (.q 10 (.q 11 (.q 12 (.q 13 (.q 14 (.q 15 (.q 16 .fin)))))))))))))))))) [4, 83]) (.cond (.ops [4]) .leaf))) (.seq (.seq (.ops [4, 90]) (.cond (.seq (.draw (.q 0 (.q 1 (.q 2 (.q 3 (.q 4 (.q 5 .fin)))))) [2, 3]) .leaf) .leaf)) (.seq (.ops [2, 3]) .leaf)))))))))))) (Tryz.f26.body.getD .skip) [a0] w R by kernel_rfl) h)
def sh39 (a0 : Value) (w : World) (R : Value → World → Prop) : Prop :=
 jn 1 (fun t0_1 w =>
 jn 1 (fun t0_3 w =>
 CallF Tryz.prog 45 #[t0_3] w fun t48_5 w =>
 R (.tuple #[]) w) fun j_4 =>
 drw (fun S_6 w =>
 RunA Tryz.prog (nilV t0_1) fun t20_7 =>
 RunA Tryz.prog (Instr.fieldAt 83 t20_7 0) fun t21_8 =>
 RunS Tryz.prog S_6 (Instr.loadAt 9 t21_8) fun t22_9 =>
 RunA Tryz.prog (nilV t0_1) fun t24_10 =>
 RunA Tryz.prog (Instr.fieldAt 83 t24_10 1) fun t25_11 =>
 RunS Tryz.prog S_6 (Instr.loadAt 3 t25_11) fun t26_12 =>
 RunA Tryz.prog (Instr.sliceAt 9 t22_9 (some t26_12) none none) fun t27_13 =>
 CallF Tryz.prog 71 #[t27_13, (.string ⟨#[60, 63]⟩)] w fun t28_14 w =>
 IfB t28_14 (
 CallF Tryz.prog 72 #[t0_1, (.string ⟨#[60, 63, 120, 109, 108]⟩)] w fun t30_15 w =>
 CallF Tryz.prog 40 #[t0_1, (.int .i64 0)] w fun t32_16 w =>
 jn 1 (fun t0_17 w =>
 CallF Tryz.prog 74 #[t0_17, (.string ⟨#[63, 62]⟩)] w fun t46_19 w =>
 j_4 t0_17 w) fun j_18 =>
 RunA Tryz.prog (nilV t0_1) fun t34_20 =>
 RunA Tryz.prog (Instr.fieldAt 83 t34_20 2) fun t35_21 =>
 RunW Tryz.prog (Instr.loadAt 28 t35_21) w fun t36_22 =>
 RunW Tryz.prog (bin .eql 28 (.tmp 36) (.const (.int .i64 0)) t36_22 (.int .i64 0)) w fun t37_23 =>
 IfB t37_23 (
 CallF Tryz.prog 73 #[t0_1] w fun t40_24 w =>
 RunA Tryz.prog (Op.unary .not t40_24) fun t41_25 =>
 IfB t41_25 (
 CallF Tryz.prog 41 #[t0_1, (.int .i64 4)] w fun t44_26 w =>
 j_18 t0_1 w) (
 j_18 t0_1 w)) (
 j_18 t0_1 w)) (
 j_4 t0_1 w)) w) fun j_2 =>
 drw (fun S_27 w =>
 RunA Tryz.prog (nilV a0) fun t3_28 =>
 RunA Tryz.prog (Instr.fieldAt 83 t3_28 0) fun t4_29 =>
 RunS Tryz.prog S_27 (Instr.loadAt 9 t4_29) fun t5_30 =>
 RunA Tryz.prog (nilV a0) fun t7_31 =>
 RunA Tryz.prog (Instr.fieldAt 83 t7_31 1) fun t8_32 =>
 RunS Tryz.prog S_27 (Instr.loadAt 3 t8_32) fun t9_33 =>
 RunA Tryz.prog (Instr.sliceAt 9 t5_30 (some t9_33) none none) fun t10_34 =>
 CallF Tryz.prog 71 #[t10_34, (.string ⟨#[239, 187, 191]⟩)] w fun t11_35 w =>
 IfB t11_35 (
 RunA Tryz.prog (nilV a0) fun t13_36 =>
 RunA Tryz.prog (Instr.fieldAt 83 t13_36 1) fun t14_37 =>
 RunW Tryz.prog (Instr.loadAt 3 t14_37) w fun t15_38 =>
 RunA Tryz.prog (bin .add 3 (.tmp 15) (.const (.int .i64 3)) t15_38 (.int .i64 3)) fun t16_39 =>
 RunA Tryz.prog (nilV a0) fun t17_40 =>
 RunA Tryz.prog (Instr.fieldAt 83 t17_40 1) fun t18_41 =>
 RunU Tryz.prog (Instr.storeAt 3 t18_41 t16_39) w fun w =>
 j_2 a0 w) (
 j_2 a0 w)) w
theorem sh39_calls {a0 : Value} {w : World} {R : Value → World → Prop} (h : sh39 a0 w R) : CallF Tryz.prog 39 #[a0] w R :=
  calls_of_denF (mk := false) (args := [a0]) (an := (.seq (.join [0] (.seq (.draw (.q 0 (.q 1 (.q 2 (.q 3 (.q 4 (.q 5 (.q 6 (.q 7 (.q 8 (.one 9 .fin)))))))))) [0, 11]) (.cond (.ops [0]) .leaf))) (.seq (.join [0] (.seq (.draw (.q 0 (.q 1 (.q 2 (.q 3 (.q 4 (.q 5 (.q 6 (.q 7 (.q 8 (.one 9 .fin)))))))))) [0, 28]) (.cond (.seq (.ops [0]) (.seq (.seq (.ops [0]) (.join [0] (.seq (.ops [0, 42]) (.cond (.ops [0]) .leaf)))) (.ops [0]))) .leaf))) (.ops [])))) (c := Tryz.f39.body.getD .skip) hent Tryz.func39 rfl (Nat.le_of_ble_eq_true (by kernel_rfl))
    (Eq.mp (show sh39 a0 w R = denF Tryz.prog ent false Tryz.f39 (.seq (.join [0] (.seq (.draw (.q 0 (.q 1 (.q 2 (.q 3 (.q 4 (.q 5 (.q 6 (.q 7 (.q 8 (.one 9 .fin)))))))))) [0, 11]) (.cond (.ops [0]) .leaf))) (.seq (.join [0] (.seq (.draw (.q 0 (.q 1 (.q 2 (.q 3 (.q 4 (.q 5 (.q 6 (.q 7 (.q 8 (.one 9 .fin)))))))))) [0, 28]) (.cond (.seq (.ops [0]) (.seq (.seq (.ops [0]) (.join [0] (.seq (.ops [0, 42]) (.cond (.ops [0]) .leaf)))) (.ops [0]))) .leaf))) (.ops []))) (Tryz.f39.body.getD .skip) [a0] w R by kernel_rfl) h)
def sh40 (a0 a1 : Value) (w : World) (R : Value → World → Prop) : Prop :=
 drw (fun S_1 w =>
 RunA Tryz.prog (nilV a0) fun t6_2 =>
 RunA Tryz.prog (Instr.fieldAt 83 t6_2 1) fun t7_3 =>
 RunS Tryz.prog S_1 (Instr.loadAt 3 t7_3) fun t8_4 =>
 RunA Tryz.prog (bin .add 3 (.tmp 8) (.tmp 9) t8_4 a1) fun t10_5 =>
 RunA Tryz.prog (nilV a0) fun t12_6 =>
 RunA Tryz.prog (Instr.fieldAt 83 t12_6 0) fun t13_7 =>
 RunS Tryz.prog S_1 (Instr.loadAt 9 t13_7) fun t14_8 =>
 RunS Tryz.prog S_1 (Builtin.len_ #[9] 3 #[t14_8]) fun t15_9 =>
 RunA Tryz.prog (bin .geq 3 (.tmp 10) (.tmp 15) t10_5 t15_9) fun t16_10 =>
 IfB t16_10 (
 CallF Tryz.prog 41 #[a0, (.int .i64 2)] w fun t18_11 w =>
 R (.int .u8 0) w) (
 drw (fun S_12 w =>
 RunA Tryz.prog (nilV a0) fun t20_13 =>
 RunA Tryz.prog (Instr.fieldAt 83 t20_13 0) fun t21_14 =>
 RunS Tryz.prog S_12 (Instr.loadAt 9 t21_14) fun t22_15 =>
 RunA Tryz.prog (nilV a0) fun t24_16 =>
 RunA Tryz.prog (Instr.fieldAt 83 t24_16 1) fun t25_17 =>
 RunS Tryz.prog S_12 (Instr.loadAt 3 t25_17) fun t26_18 =>
 RunA Tryz.prog (bin .add 3 (.tmp 26) (.tmp 27) t26_18 a1) fun t28_19 =>
 RunA Tryz.prog (Instr.index 9 t22_15 t28_19) fun t29_20 =>
 R t29_20 w) w)) w
theorem sh40_calls {a0 a1 : Value} {w : World} {R : Value → World → Prop} (h : sh40 a0 a1 w R) : CallF Tryz.prog 40 #[a0, a1] w R :=
  calls_of_denF (mk := false) (args := [a0, a1]) (an := (.seq (.ops [0, 1]) (.seq (.seq (.draw (.q 0 (.q 1 (.q 2 (.q 3 (.q 4 (.q 5 (.q 6 (.q 7 (.q 8 (.q 9 (.q 10 (.q 11 .fin)))))))))))) [0, 1, 16]) (.cond (.seq (.ops []) (.seq (.ops [4]) .leaf)) .leaf)) (.seq (.draw (.q 0 (.q 1 (.q 2 (.q 3 (.q 4 (.q 5 (.q 6 (.q 7 (.q 8 (.q 9 (.q 10 (.q 11 .fin)))))))))))) [4]) .leaf)))) (c := Tryz.f40.body.getD .skip) hent Tryz.func40 rfl (Nat.le_of_ble_eq_true (by kernel_rfl))
    (Eq.mp (show sh40 a0 a1 w R = denF Tryz.prog ent false Tryz.f40 (.seq (.ops [0, 1]) (.seq (.seq (.draw (.q 0 (.q 1 (.q 2 (.q 3 (.q 4 (.q 5 (.q 6 (.q 7 (.q 8 (.q 9 (.q 10 (.q 11 .fin)))))))))))) [0, 1, 16]) (.cond (.seq (.ops []) (.seq (.ops [4]) .leaf)) .leaf)) (.seq (.draw (.q 0 (.q 1 (.q 2 (.q 3 (.q 4 (.q 5 (.q 6 (.q 7 (.q 8 (.q 9 (.q 10 (.q 11 .fin)))))))))))) [4]) .leaf))) (Tryz.f40.body.getD .skip) [a0, a1] w R by kernel_rfl) h)
def sh41 (a0 a1 : Value) (w : World) (R : Value → World → Prop) : Prop :=
 RunA Tryz.prog (nilV a0) fun t5_1 =>
 RunA Tryz.prog (Instr.fieldAt 83 t5_1 2) fun t6_2 =>
 RunW Tryz.prog (Instr.loadAt 28 t6_2) w fun t7_3 =>
 RunW Tryz.prog (bin .eql 28 (.tmp 7) (.const (.int .i64 0)) t7_3 (.int .i64 0)) w fun t8_4 =>
 IfB t8_4 (
 RunA Tryz.prog (nilV a0) fun t11_5 =>
 RunA Tryz.prog (Instr.fieldAt 83 t11_5 2) fun t12_6 =>
 RunU Tryz.prog (Instr.storeAt 28 t12_6 a1) w fun w =>
 R (.tuple #[]) w) (
 R (.tuple #[]) w)
theorem sh41_calls {a0 a1 : Value} {w : World} {R : Value → World → Prop} (h : sh41 a0 a1 w R) : CallF Tryz.prog 41 #[a0, a1] w R :=
  calls_of_denF (mk := false) (args := [a0, a1]) (an := (.seq (.ops [0, 1, 8]) (.cond (.ops []) .leaf))) (c := Tryz.f41.body.getD .skip) hent Tryz.func41 rfl (Nat.le_of_ble_eq_true (by kernel_rfl))
    (Eq.mp (show sh41 a0 a1 w R = denF Tryz.prog ent false Tryz.f41 (.seq (.ops [0, 1, 8]) (.cond (.ops []) .leaf)) (Tryz.f41.body.getD .skip) [a0, a1] w R by kernel_rfl) h)
def sh42 (a0 : Value) (w : World) (R : Value → World → Prop) : Prop :=
 RunA Tryz.prog (bin .geq 5 (.tmp 3) (.const (.int .u8 97)) a0 (.int .u8 97)) fun t4_1 =>
 IfB t4_1 (
 RunA Tryz.prog (bin .leq 5 (.tmp 6) (.const (.int .u8 122)) a0 (.int .u8 122)) fun t7_2 =>
 IfB t7_2 (
 R (.bool true) w) (
 RunA Tryz.prog (bin .geq 5 (.tmp 10) (.const (.int .u8 65)) a0 (.int .u8 65)) fun t11_3 =>
 IfB t11_3 (
 RunA Tryz.prog (bin .leq 5 (.tmp 13) (.const (.int .u8 90)) a0 (.int .u8 90)) fun t14_4 =>
 IfB t14_4 (
 R (.bool true) w) (
 RunW Tryz.prog (bin .eql 5 (.tmp 18) (.const (.int .u8 95)) a0 (.int .u8 95)) w fun t19_5 =>
 R t19_5 w)) (
 RunW Tryz.prog (bin .eql 5 (.tmp 18) (.const (.int .u8 95)) a0 (.int .u8 95)) w fun t19_6 =>
 R t19_6 w))) (
 RunA Tryz.prog (bin .geq 5 (.tmp 10) (.const (.int .u8 65)) a0 (.int .u8 65)) fun t11_7 =>
 IfB t11_7 (
 RunA Tryz.prog (bin .leq 5 (.tmp 13) (.const (.int .u8 90)) a0 (.int .u8 90)) fun t14_8 =>
 IfB t14_8 (
 R (.bool true) w) (
 RunW Tryz.prog (bin .eql 5 (.tmp 18) (.const (.int .u8 95)) a0 (.int .u8 95)) w fun t19_9 =>
 R t19_9 w)) (
 RunW Tryz.prog (bin .eql 5 (.tmp 18) (.const (.int .u8 95)) a0 (.int .u8 95)) w fun t19_10 =>
 R t19_10 w))
theorem sh42_calls {a0 : Value} {w : World} {R : Value → World → Prop} (h : sh42 a0 w R) : CallF Tryz.prog 42 #[a0] w R :=
  calls_of_denF (mk := false) (args := [a0]) (an := (.seq (.ops [0]) (.seq (.ops [2]) .leaf))) (c := Tryz.f42.body.getD .skip) hent Tryz.func42 rfl (Nat.le_of_ble_eq_true (by kernel_rfl))
    (Eq.mp (show sh42 a0 w R = denF Tryz.prog ent false Tryz.f42 (.seq (.ops [0]) (.seq (.ops [2]) .leaf)) (Tryz.f42.body.getD .skip) [a0] w R by kernel_rfl) h)
def sh43 (a0 : Value) (w : World) (R : Value → World → Prop) : Prop :=
 RunA Tryz.prog (nilV a0) fun t7_1 =>
 RunA Tryz.prog (Instr.fieldAt 83 t7_1 1) fun t8_2 =>
 RunW Tryz.prog (Instr.loadAt 3 t8_2) w fun t9_3 =>
 RunA Tryz.prog (bin .add 3 (.tmp 9) (.const (.int .i64 1)) t9_3 (.int .i64 1)) fun t10_4 =>
 RunA Tryz.prog (nilV a0) fun t11_5 =>
 RunA Tryz.prog (Instr.fieldAt 83 t11_5 1) fun t12_6 =>
 RunU Tryz.prog (Instr.storeAt 3 t12_6 t10_4) w fun w =>
 RunA Tryz.prog (nilV a0) fun t14_7 =>
 RunA Tryz.prog (Instr.fieldAt 83 t14_7 4) fun t15_8 =>
 RunW Tryz.prog (Instr.loadAt 78 t15_8) w fun t16_9 =>
 RunW Tryz.prog (Builtin.len_ #[78] 3 #[t16_9]) w fun t17_10 =>
 RunA Tryz.prog (bin .geq 3 (.tmp 17) (.const (.int .i64 64)) t17_10 (.int .i64 64)) fun t18_11 =>
 IfB t18_11 (
 CallF Tryz.prog 41 #[a0, (.int .i64 10)] w fun t20_12 w =>
 R (.tuple #[]) w) (
 CallF Tryz.prog 75 #[a0] w fun t22_13 w =>
 RunV Tryz.prog (Instr.alloc 118 true (.tuple #[])) w fun t2_14 w =>
 RunU Tryz.prog (Instr.storeAt 118 t2_14 t22_13) w fun w =>
 CallF Tryz.prog 76 #[a0] w fun t24_15 w =>
 RunA Tryz.prog (nilV a0) fun t26_16 =>
 RunA Tryz.prog (Instr.fieldAt 83 t26_16 2) fun t27_17 =>
 RunW Tryz.prog (Instr.loadAt 28 t27_17) w fun t28_18 =>
 RunW Tryz.prog (bin .neq 28 (.tmp 28) (.const (.int .i64 0)) t28_18 (.int .i64 0)) w fun t29_19 =>
 IfB t29_19 (
 R (.tuple #[]) w) (
 CallF Tryz.prog 40 #[a0, (.int .i64 0)] w fun t31_20 w =>
 RunW Tryz.prog (bin .eql 5 (.tmp 31) (.const (.int .u8 47)) t31_20 (.int .u8 47)) w fun t32_21 =>
 jn 4 (fun t0_22 t2_23 t3_24 t4_25 w =>
 CallF Tryz.prog 72 #[t0_22, (.string ⟨#[62]⟩)] w fun t42_27 w =>
 RunA Tryz.prog (nilV t0_22) fun t44_28 =>
 RunA Tryz.prog (Instr.fieldAt 83 t44_28 2) fun t45_29 =>
 RunW Tryz.prog (Instr.loadAt 28 t45_29) w fun t46_30 =>
 RunW Tryz.prog (bin .neq 28 (.tmp 46) (.const (.int .i64 0)) t46_30 (.int .i64 0)) w fun t47_31 =>
 IfB t47_31 (
 R (.tuple #[]) w) (
 RunW Tryz.prog (Instr.loadAt 118 t2_23) w fun t49_32 =>
 CallF Tryz.prog 77 #[t0_22, t49_32, t3_24] w fun t51_33 w =>
 RunV Tryz.prog (Instr.alloc 124 true (.tuple #[])) w fun t5_34 w =>
 RunU Tryz.prog (Instr.storeAt 124 t5_34 t51_33) w fun w =>
 IfB t4_25 (
 RunW Tryz.prog (Instr.loadAt 124 t5_34) w fun t54_35 =>
 CallF Tryz.prog 78 #[t0_22, t54_35] w fun t55_36 w =>
 R (.tuple #[]) w) (
 drw (fun S_37 w =>
 RunA Tryz.prog (nilV t0_22) fun t58_38 =>
 RunA Tryz.prog (Instr.fieldAt 83 t58_38 4) fun t59_39 =>
 RunS Tryz.prog S_37 (Instr.loadAt 78 t59_39) fun t60_40 =>
 RunS Tryz.prog S_37 (Instr.loadAt 124 t5_34) fun t61_41 =>
 RunV Tryz.prog (Instr.buildSlice 78 1 #[(0, t61_41)]) w fun t62_42 w =>
 S_37 w ∧ (
 RunV Tryz.prog (Builtin.append_ #[78, 78] 78 #[t60_40, t62_42]) w fun t63_43 w =>
 RunA Tryz.prog (nilV t0_22) fun t64_44 =>
 RunA Tryz.prog (Instr.fieldAt 83 t64_44 4) fun t65_45 =>
 RunU Tryz.prog (Instr.storeAt 78 t65_45 t63_43) w fun w =>
 R (.tuple #[]) w)) w))) fun j_26 =>
 IfB t32_21 (
 RunA Tryz.prog (nilV a0) fun t35_46 =>
 RunA Tryz.prog (Instr.fieldAt 83 t35_46 1) fun t36_47 =>
 RunW Tryz.prog (Instr.loadAt 3 t36_47) w fun t37_48 =>
 RunA Tryz.prog (bin .add 3 (.tmp 37) (.const (.int .i64 1)) t37_48 (.int .i64 1)) fun t38_49 =>
 RunA Tryz.prog (nilV a0) fun t39_50 =>
 RunA Tryz.prog (Instr.fieldAt 83 t39_50 1) fun t40_51 =>
 RunU Tryz.prog (Instr.storeAt 3 t40_51 t38_49) w fun w =>
 j_26 a0 t2_14 t24_15 t32_21 w) (
 j_26 a0 t2_14 t24_15 t32_21 w)))
theorem sh43_calls {a0 : Value} {w : World} {R : Value → World → Prop} (h : sh43 a0 w R) : CallF Tryz.prog 43 #[a0] w R :=
  calls_of_denF (mk := false) (args := [a0]) (an := (.seq (.ops [0]) (.seq (.seq (.ops [0, 18]) (.cond (.seq (.ops []) .leaf) .leaf)) (.seq (.ops [0, 2]) (.seq (.ops [0, 2, 3]) (.seq (.seq (.ops [0, 2, 3, 29]) (.cond .leaf .leaf)) (.seq (.ops [0, 2, 3, 4]) (.seq (.join [0, 2, 3, 4] (.seq (.ops [0, 2, 3, 4, 33]) (.cond (.ops [0, 2, 3, 4]) .leaf))) (.seq (.ops [0, 2, 3, 4]) (.seq (.seq (.ops [0, 2, 3, 4, 47]) (.cond .leaf .leaf)) (.seq (.ops [0, 4, 5]) (.seq (.seq (.ops [0, 5, 52]) (.cond (.seq (.ops []) .leaf) .leaf)) (.draw (.q 0 (.q 1 (.q 2 (.q 3 (.q 4 (.q 5 (.one 6 (.one 7 (.q 8 (.q 9 (.one 10 .fin))))))))))) []))))))))))))) (c := Tryz.f43.body.getD .skip) hent Tryz.func43 rfl (Nat.le_of_ble_eq_true (by kernel_rfl))
    (Eq.mp (show sh43 a0 w R = denF Tryz.prog ent false Tryz.f43 (.seq (.ops [0]) (.seq (.seq (.ops [0, 18]) (.cond (.seq (.ops []) .leaf) .leaf)) (.seq (.ops [0, 2]) (.seq (.ops [0, 2, 3]) (.seq (.seq (.ops [0, 2, 3, 29]) (.cond .leaf .leaf)) (.seq (.ops [0, 2, 3, 4]) (.seq (.join [0, 2, 3, 4] (.seq (.ops [0, 2, 3, 4, 33]) (.cond (.ops [0, 2, 3, 4]) .leaf))) (.seq (.ops [0, 2, 3, 4]) (.seq (.seq (.ops [0, 2, 3, 4, 47]) (.cond .leaf .leaf)) (.seq (.ops [0, 4, 5]) (.seq (.seq (.ops [0, 5, 52]) (.cond (.seq (.ops []) .leaf) .leaf)) (.draw (.q 0 (.q 1 (.q 2 (.q 3 (.q 4 (.q 5 (.one 6 (.one 7 (.q 8 (.q 9 (.one 10 .fin))))))))))) [])))))))))))) (Tryz.f43.body.getD .skip) [a0] w R by kernel_rfl) h)
def sh44 (a0 : Value) (w : World) (R : Value → World → Prop) : Prop :=
 CallF Tryz.prog 40 #[a0, (.int .i64 0)] w fun t4_1 w =>
 RunW Tryz.prog (bin .neq 5 (.tmp 4) (.const (.int .u8 60)) t4_1 (.int .u8 60)) w fun t5_2 =>
 IfB t5_2 (
 drw (fun S_3 w =>
 RunA Tryz.prog (nilV a0) fun t7_4 =>
 RunA Tryz.prog (Instr.fieldAt 83 t7_4 5) fun t8_5 =>
 CallF Tryz.prog 80 #[a0] w fun t10_6 w =>
 CallF Tryz.prog 79 #[t8_5, t10_6] w fun t11_7 w =>
 R (.tuple #[]) w) w) (
 CallF Tryz.prog 40 #[a0, (.int .i64 1)] w fun t13_8 w =>
 RunA Tryz.prog (nilV a0) fun t18_9 =>
 RunA Tryz.prog (Instr.fieldAt 83 t18_9 2) fun t19_10 =>
 RunW Tryz.prog (Instr.loadAt 28 t19_10) w fun t20_11 =>
 RunW Tryz.prog (bin .neq 28 (.tmp 20) (.const (.int .i64 0)) t20_11 (.int .i64 0)) w fun t21_12 =>
 IfB t21_12 (
 R (.tuple #[]) w) (
 RunW Tryz.prog (bin .eql 5 (.tmp 23) (.const (.int .u8 33)) t13_8 (.int .u8 33)) w fun t24_13 =>
 IfB t24_13 (
 CallF Tryz.prog 40 #[a0, (.int .i64 2)] w fun t27_14 w =>
 RunW Tryz.prog (bin .eql 5 (.tmp 27) (.const (.int .u8 91)) t27_14 (.int .u8 91)) w fun t28_15 =>
 IfB t28_15 (
 CallF Tryz.prog 72 #[a0, (.string ⟨#[60, 33, 91, 67, 68, 65, 84, 65, 91]⟩)] w fun t31_16 w =>
 drw (fun S_17 w =>
 RunA Tryz.prog (nilV a0) fun t33_18 =>
 RunA Tryz.prog (Instr.fieldAt 83 t33_18 5) fun t34_19 =>
 CallF Tryz.prog 74 #[a0, (.string ⟨#[93, 93, 62]⟩)] w fun t36_20 w =>
 CallF Tryz.prog 79 #[t34_19, t36_20] w fun t37_21 w =>
 R (.tuple #[]) w) w) (
 RunW Tryz.prog (bin .eql 5 (.tmp 39) (.const (.int .u8 33)) t13_8 (.int .u8 33)) w fun t40_22 =>
 IfB t40_22 (
 CallF Tryz.prog 81 #[a0] w fun t42_23 w =>
 R (.tuple #[]) w) (
 RunW Tryz.prog (bin .eql 5 (.tmp 44) (.const (.int .u8 47)) t13_8 (.int .u8 47)) w fun t45_24 =>
 IfB t45_24 (
 CallF Tryz.prog 82 #[a0] w fun t47_25 w =>
 CallF Tryz.prog 83 #[a0] w fun t49_26 w =>
 R (.tuple #[]) w) (
 CallF Tryz.prog 42 #[t13_8] w fun t52_27 w =>
 IfB t52_27 (
 CallF Tryz.prog 82 #[a0] w fun t54_28 w =>
 CallF Tryz.prog 43 #[a0] w fun t56_29 w =>
 R (.tuple #[]) w) (
 CallF Tryz.prog 41 #[a0, (.int .i64 4)] w fun t15_30 w =>
 R (.tuple #[]) w))))) (
 RunW Tryz.prog (bin .eql 5 (.tmp 39) (.const (.int .u8 33)) t13_8 (.int .u8 33)) w fun t40_31 =>
 IfB t40_31 (
 CallF Tryz.prog 81 #[a0] w fun t42_32 w =>
 R (.tuple #[]) w) (
 RunW Tryz.prog (bin .eql 5 (.tmp 44) (.const (.int .u8 47)) t13_8 (.int .u8 47)) w fun t45_33 =>
 IfB t45_33 (
 CallF Tryz.prog 82 #[a0] w fun t47_34 w =>
 CallF Tryz.prog 83 #[a0] w fun t49_35 w =>
 R (.tuple #[]) w) (
 CallF Tryz.prog 42 #[t13_8] w fun t52_36 w =>
 IfB t52_36 (
 CallF Tryz.prog 82 #[a0] w fun t54_37 w =>
 CallF Tryz.prog 43 #[a0] w fun t56_38 w =>
 R (.tuple #[]) w) (
 CallF Tryz.prog 41 #[a0, (.int .i64 4)] w fun t15_39 w =>
 R (.tuple #[]) w))))))
theorem sh44_calls {a0 : Value} {w : World} {R : Value → World → Prop} (h : sh44 a0 w R) : CallF Tryz.prog 44 #[a0] w R :=
  calls_of_denF (mk := false) (args := [a0]) (an := (.seq (.seq (.ops [0, 5]) (.cond (.seq (.draw (.q 0 (.q 1 (.q 2 (.q 3 (.one 4 (.one 5 .fin)))))) []) .leaf) .leaf)) (.seq (.ops [0, 2]) (.blk (.seq (.ops [0, 2, 16]) (.cond .leaf (.seq (.ops [0, 2, 22]) (.cond (.seq (.ops [0]) (.draw (.q 0 (.q 1 (.q 2 (.q 3 (.one 4 (.one 5 .fin)))))) [])) (.seq (.ops [0, 2, 38]) (.cond (.ops []) (.seq (.ops [0, 2, 43]) (.cond (.seq (.ops [0]) (.ops [])) (.seq (.ops [0, 50]) (.cond (.seq (.ops [0]) (.ops [])) (.ops []))))))))))))))) (c := Tryz.f44.body.getD .skip) hent Tryz.func44 rfl (Nat.le_of_ble_eq_true (by kernel_rfl))
    (Eq.mp (show sh44 a0 w R = denF Tryz.prog ent false Tryz.f44 (.seq (.seq (.ops [0, 5]) (.cond (.seq (.draw (.q 0 (.q 1 (.q 2 (.q 3 (.one 4 (.one 5 .fin)))))) []) .leaf) .leaf)) (.seq (.ops [0, 2]) (.blk (.seq (.ops [0, 2, 16]) (.cond .leaf (.seq (.ops [0, 2, 22]) (.cond (.seq (.ops [0]) (.draw (.q 0 (.q 1 (.q 2 (.q 3 (.one 4 (.one 5 .fin)))))) [])) (.seq (.ops [0, 2, 38]) (.cond (.ops []) (.seq (.ops [0, 2, 43]) (.cond (.seq (.ops [0]) (.ops [])) (.seq (.ops [0, 50]) (.cond (.seq (.ops [0]) (.ops [])) (.ops [])))))))))))))) (Tryz.f44.body.getD .skip) [a0] w R by kernel_rfl) h)
def sh45 (a0 : Value) (w : World) (R : Value → World → Prop) : Prop :=
 lp 0 (fun n_1 w =>
 RunA Tryz.prog (nilV a0) fun t3_2 =>
 RunA Tryz.prog (Instr.fieldAt 83 t3_2 2) fun t4_3 =>
 RunW Tryz.prog (Instr.loadAt 28 t4_3) w fun t5_4 =>
 RunW Tryz.prog (bin .eql 28 (.tmp 5) (.const (.int .i64 0)) t5_4 (.int .i64 0)) w fun t6_5 =>
 IfB t6_5 (
 CallF Tryz.prog 73 #[a0] w fun t8_6 w =>
 drw (fun S_7 w =>
 RunA Tryz.prog (nilV a0) fun t10_8 =>
 RunA Tryz.prog (Instr.fieldAt 83 t10_8 1) fun t11_9 =>
 RunS Tryz.prog S_7 (Instr.loadAt 3 t11_9) fun t12_10 =>
 RunA Tryz.prog (nilV a0) fun t14_11 =>
 RunA Tryz.prog (Instr.fieldAt 83 t14_11 0) fun t15_12 =>
 RunS Tryz.prog S_7 (Instr.loadAt 9 t15_12) fun t16_13 =>
 RunS Tryz.prog S_7 (Builtin.len_ #[9] 3 #[t16_13]) fun t17_14 =>
 RunA Tryz.prog (bin .geq 3 (.tmp 12) (.tmp 17) t12_10 t17_14) fun t18_15 =>
 IfB t18_15 (
 R (.tuple #[]) w) (
 RunA Tryz.prog (nilV a0) fun t21_16 =>
 RunA Tryz.prog (Instr.fieldAt 83 t21_16 0) fun t22_17 =>
 RunS Tryz.prog S_7 (Instr.loadAt 9 t22_17) fun t23_18 =>
 RunA Tryz.prog (nilV a0) fun t25_19 =>
 RunA Tryz.prog (Instr.fieldAt 83 t25_19 1) fun t26_20 =>
 RunS Tryz.prog S_7 (Instr.loadAt 3 t26_20) fun t27_21 =>
 RunA Tryz.prog (Instr.sliceAt 9 t23_18 (some t27_21) none none) fun t28_22 =>
 CallF Tryz.prog 71 #[t28_22, (.string ⟨#[60, 33]⟩)] w fun t29_23 w =>
 S_7 w ∧ (
 RunA Tryz.prog (Op.unary .not t29_23) fun t30_24 =>
 IfB t30_24 (
 R (.tuple #[]) w) (
 CallF Tryz.prog 81 #[a0] w fun t33_25 w =>
 (a0 : Value) = a0 ∧ (n_1 w))))) w) (
 R (.tuple #[]) w)) [] w
theorem sh45_calls {a0 : Value} {w : World} {R : Value → World → Prop} (h : sh45 a0 w R) : CallF Tryz.prog 45 #[a0] w R :=
  calls_of_denF (mk := false) (args := [a0]) (an := (.blk (.loop [0] [] (.seq (.seq (.ops [0, 6]) (.cond .leaf .leaf)) (.blk (.seq (.ops [0]) (.seq (.seq (.draw (.q 0 (.q 1 (.q 2 (.q 3 (.q 4 (.q 5 (.q 6 (.q 7 (.q 8 (.q 9 (.q 10 (.sp 11 (.q 11 (.q 12 (.q 13 (.q 14 (.q 15 (.q 16 (.q 17 (.q 18 (.q 19 (.q 20 (.q 21 (.q 22 .fin)))))))))))) (.q 11 (.q 12 (.q 13 (.q 14 (.q 15 (.q 16 (.q 17 (.q 18 (.q 19 (.one 20 (.q 21 (.q 22 .fin)))))))))))))))))))))))) [0, 31]) (.cond .leaf .leaf)) (.ops [0])))))))) (c := Tryz.f45.body.getD .skip) hent Tryz.func45 rfl (Nat.le_of_ble_eq_true (by kernel_rfl))
    (Eq.mp (show sh45 a0 w R = denF Tryz.prog ent false Tryz.f45 (.blk (.loop [0] [] (.seq (.seq (.ops [0, 6]) (.cond .leaf .leaf)) (.blk (.seq (.ops [0]) (.seq (.seq (.draw (.q 0 (.q 1 (.q 2 (.q 3 (.q 4 (.q 5 (.q 6 (.q 7 (.q 8 (.q 9 (.q 10 (.sp 11 (.q 11 (.q 12 (.q 13 (.q 14 (.q 15 (.q 16 (.q 17 (.q 18 (.q 19 (.q 20 (.q 21 (.q 22 .fin)))))))))))) (.q 11 (.q 12 (.q 13 (.q 14 (.q 15 (.q 16 (.q 17 (.q 18 (.q 19 (.one 20 (.q 21 (.q 22 .fin)))))))))))))))))))))))) [0, 31]) (.cond .leaf .leaf)) (.ops [0]))))))) (Tryz.f45.body.getD .skip) [a0] w R by kernel_rfl) h)
def sh71 (a0 a1 : Value) (w : World) (R : Value → World → Prop) : Prop :=
 CallF Tryz.prog 103 #[a0, a1] w fun t7_1 w =>
 R t7_1 w
theorem sh71_calls {a0 a1 : Value} {w : World} {R : Value → World → Prop} (h : sh71 a0 a1 w R) : CallF Tryz.prog 71 #[a0, a1] w R :=
  calls_of_denF (mk := false) (args := [a0, a1]) (an := (.seq (.ops [0, 1]) (.seq (.ops [4]) .leaf))) (c := Tryz.f71.body.getD .skip) hent Tryz.func71 rfl (Nat.le_of_ble_eq_true (by kernel_rfl))
    (Eq.mp (show sh71 a0 a1 w R = denF Tryz.prog ent false Tryz.f71 (.seq (.ops [0, 1]) (.seq (.ops [4]) .leaf)) (Tryz.f71.body.getD .skip) [a0, a1] w R by kernel_rfl) h)
def sh72 (a0 a1 : Value) (w : World) (R : Value → World → Prop) : Prop :=
 lp 1 (fun n_2 t4_1 w =>
 RunW Tryz.prog (Builtin.len_ #[9] 3 #[a1]) w fun t8_3 =>
 RunA Tryz.prog (bin .lss 3 (.tmp 6) (.tmp 8) t4_1 t8_3) fun t9_4 =>
 IfB t9_4 (
 RunA Tryz.prog (nilV a0) fun t12_5 =>
 RunA Tryz.prog (Instr.fieldAt 83 t12_5 2) fun t13_6 =>
 RunW Tryz.prog (Instr.loadAt 28 t13_6) w fun t14_7 =>
 RunW Tryz.prog (bin .eql 28 (.tmp 14) (.const (.int .i64 0)) t14_7 (.int .i64 0)) w fun t15_8 =>
 IfB t15_8 (
 CallF Tryz.prog 40 #[a0, (.int .i64 0)] w fun t20_9 w =>
 jn 3 (fun t0_10 t1_11 t4_12 w =>
 RunA Tryz.prog (nilV t0_10) fun t36_14 =>
 RunA Tryz.prog (Instr.fieldAt 83 t36_14 1) fun t37_15 =>
 RunW Tryz.prog (Instr.loadAt 3 t37_15) w fun t38_16 =>
 RunA Tryz.prog (bin .add 3 (.tmp 38) (.const (.int .i64 1)) t38_16 (.int .i64 1)) fun t39_17 =>
 RunA Tryz.prog (nilV t0_10) fun t40_18 =>
 RunA Tryz.prog (Instr.fieldAt 83 t40_18 1) fun t41_19 =>
 RunU Tryz.prog (Instr.storeAt 3 t41_19 t39_17) w fun w =>
 RunA Tryz.prog (bin .add 3 (.tmp 17) (.const (.int .i64 1)) t4_12 (.int .i64 1)) fun t18_20 =>
 (t0_10 : Value) = a0 ∧ ((t1_11 : Value) = a1 ∧ (n_2 t18_20 w))) fun j_13 =>
 RunA Tryz.prog (nilV a0) fun t22_21 =>
 RunA Tryz.prog (Instr.fieldAt 83 t22_21 2) fun t23_22 =>
 RunW Tryz.prog (Instr.loadAt 28 t23_22) w fun t24_23 =>
 RunW Tryz.prog (bin .eql 28 (.tmp 24) (.const (.int .i64 0)) t24_23 (.int .i64 0)) w fun t25_24 =>
 IfB t25_24 (
 RunA Tryz.prog (Instr.index 9 a1 t4_1) fun t30_25 =>
 RunW Tryz.prog (bin .neq 5 (.tmp 27) (.tmp 30) t20_9 t30_25) w fun t31_26 =>
 IfB t31_26 (
 CallF Tryz.prog 41 #[a0, (.int .i64 4)] w fun t34_27 w =>
 j_13 a0 a1 t4_1 w) (
 j_13 a0 a1 t4_1 w)) (
 j_13 a0 a1 t4_1 w)) (
 R (.tuple #[]) w)) (
 R (.tuple #[]) w)) [(.int .i64 0)] w
theorem sh72_calls {a0 a1 : Value} {w : World} {R : Value → World → Prop} (h : sh72 a0 a1 w R) : CallF Tryz.prog 72 #[a0, a1] w R :=
  calls_of_denF (mk := false) (args := [a0, a1]) (an := (.seq (.ops [0, 1, 4]) (.blk (.loop [0, 1] [4] (.seq (.seq (.ops [0, 1, 4, 16]) (.cond .leaf .leaf)) (.seq (.blk (.seq (.seq (.ops [0, 1, 4, 5]) (.join [0, 1, 4] (.seq (.ops [0, 1, 4, 32]) (.cond (.ops [0, 1, 4]) .leaf)))) (.ops [0, 1, 4]))) (.ops [0, 1, 4]))))))) (c := Tryz.f72.body.getD .skip) hent Tryz.func72 rfl (Nat.le_of_ble_eq_true (by kernel_rfl))
    (Eq.mp (show sh72 a0 a1 w R = denF Tryz.prog ent false Tryz.f72 (.seq (.ops [0, 1, 4]) (.blk (.loop [0, 1] [4] (.seq (.seq (.ops [0, 1, 4, 16]) (.cond .leaf .leaf)) (.seq (.blk (.seq (.seq (.ops [0, 1, 4, 5]) (.join [0, 1, 4] (.seq (.ops [0, 1, 4, 32]) (.cond (.ops [0, 1, 4]) .leaf)))) (.ops [0, 1, 4]))) (.ops [0, 1, 4])))))) (Tryz.f72.body.getD .skip) [a0, a1] w R by kernel_rfl) h)
def sh73 (a0 : Value) (w : World) (R : Value → World → Prop) : Prop :=
 RunA Tryz.prog (nilV a0) fun t5_1 =>
 RunA Tryz.prog (Instr.fieldAt 83 t5_1 1) fun t6_2 =>
 RunW Tryz.prog (Instr.loadAt 3 t6_2) w fun t7_3 =>
 jn 2 (fun t0_4 t3_5 w =>
 RunA Tryz.prog (nilV t0_4) fun t39_7 =>
 RunA Tryz.prog (Instr.fieldAt 83 t39_7 1) fun t40_8 =>
 RunW Tryz.prog (Instr.loadAt 3 t40_8) w fun t41_9 =>
 RunA Tryz.prog (bin .gtr 3 (.tmp 41) (.tmp 42) t41_9 t3_5) fun t43_10 =>
 R t43_10 w) fun j_6 =>
 lp 0 (fun n_11 w =>
 drw (fun S_12 w =>
 RunA Tryz.prog (nilV a0) fun t9_13 =>
 RunA Tryz.prog (Instr.fieldAt 83 t9_13 1) fun t10_14 =>
 RunS Tryz.prog S_12 (Instr.loadAt 3 t10_14) fun t11_15 =>
 RunA Tryz.prog (nilV a0) fun t13_16 =>
 RunA Tryz.prog (Instr.fieldAt 83 t13_16 0) fun t14_17 =>
 RunS Tryz.prog S_12 (Instr.loadAt 9 t14_17) fun t15_18 =>
 RunS Tryz.prog S_12 (Builtin.len_ #[9] 3 #[t15_18]) fun t16_19 =>
 RunA Tryz.prog (bin .lss 3 (.tmp 11) (.tmp 16) t11_15 t16_19) fun t17_20 =>
 IfB t17_20 (
 RunA Tryz.prog (nilV a0) fun t20_21 =>
 RunA Tryz.prog (Instr.fieldAt 83 t20_21 0) fun t21_22 =>
 RunS Tryz.prog S_12 (Instr.loadAt 9 t21_22) fun t22_23 =>
 RunA Tryz.prog (nilV a0) fun t24_24 =>
 RunA Tryz.prog (Instr.fieldAt 83 t24_24 1) fun t25_25 =>
 RunS Tryz.prog S_12 (Instr.loadAt 3 t25_25) fun t26_26 =>
 RunA Tryz.prog (Instr.index 9 t22_23 t26_26) fun t27_27 =>
 CallF Tryz.prog 104 #[(.string ⟨#[32, 9, 10, 13]⟩), t27_27] w fun t28_28 w =>
 S_12 w ∧ (
 RunA Tryz.prog (bin .geq 3 (.tmp 28) (.const (.int .i64 0)) t28_28 (.int .i64 0)) fun t29_29 =>
 IfB t29_29 (
 RunA Tryz.prog (nilV a0) fun t32_30 =>
 RunA Tryz.prog (Instr.fieldAt 83 t32_30 1) fun t33_31 =>
 RunW Tryz.prog (Instr.loadAt 3 t33_31) w fun t34_32 =>
 RunA Tryz.prog (bin .add 3 (.tmp 34) (.const (.int .i64 1)) t34_32 (.int .i64 1)) fun t35_33 =>
 RunA Tryz.prog (nilV a0) fun t36_34 =>
 RunA Tryz.prog (Instr.fieldAt 83 t36_34 1) fun t37_35 =>
 RunU Tryz.prog (Instr.storeAt 3 t37_35 t35_33) w fun w =>
 (a0 : Value) = a0 ∧ ((t7_3 : Value) = t7_3 ∧ (n_11 w))) (
 j_6 a0 t7_3 w))) (
 j_6 a0 t7_3 w)) w) [] w
theorem sh73_calls {a0 : Value} {w : World} {R : Value → World → Prop} (h : sh73 a0 w R) : CallF Tryz.prog 73 #[a0] w R :=
  calls_of_denF (mk := false) (args := [a0]) (an := (.seq (.ops [0]) (.seq (.ops [0, 3]) (.seq (.join [0, 3] (.blk (.loop [0, 3] [] (.seq (.seq (.draw (.q 0 (.q 1 (.q 2 (.q 3 (.q 4 (.q 5 (.q 6 (.q 7 (.q 8 (.q 9 (.q 10 (.sp 11 (.q 11 (.q 12 (.q 13 (.q 14 (.q 15 (.q 16 (.q 17 (.q 18 (.q 19 (.one 20 (.q 21 (.q 22 .fin)))))))))))) (.q 11 (.q 12 (.q 13 (.q 14 (.q 15 (.q 16 (.q 17 (.q 18 (.q 19 (.q 20 (.q 21 (.q 22 .fin)))))))))))))))))))))))) [0, 3, 30]) (.cond .leaf .leaf)) (.blk (.ops [0, 3])))))) (.seq (.ops [2]) .leaf))))) (c := Tryz.f73.body.getD .skip) hent Tryz.func73 rfl (Nat.le_of_ble_eq_true (by kernel_rfl))
    (Eq.mp (show sh73 a0 w R = denF Tryz.prog ent false Tryz.f73 (.seq (.ops [0]) (.seq (.ops [0, 3]) (.seq (.join [0, 3] (.blk (.loop [0, 3] [] (.seq (.seq (.draw (.q 0 (.q 1 (.q 2 (.q 3 (.q 4 (.q 5 (.q 6 (.q 7 (.q 8 (.q 9 (.q 10 (.sp 11 (.q 11 (.q 12 (.q 13 (.q 14 (.q 15 (.q 16 (.q 17 (.q 18 (.q 19 (.one 20 (.q 21 (.q 22 .fin)))))))))))) (.q 11 (.q 12 (.q 13 (.q 14 (.q 15 (.q 16 (.q 17 (.q 18 (.q 19 (.q 20 (.q 21 (.q 22 .fin)))))))))))))))))))))))) [0, 3, 30]) (.cond .leaf .leaf)) (.blk (.ops [0, 3])))))) (.seq (.ops [2]) .leaf)))) (Tryz.f73.body.getD .skip) [a0] w R by kernel_rfl) h)
def sh74 (a0 a1 : Value) (w : World) (R : Value → World → Prop) : Prop :=
 RunA Tryz.prog (nilV a0) fun t7_1 =>
 RunA Tryz.prog (Instr.fieldAt 83 t7_1 1) fun t8_2 =>
 RunW Tryz.prog (Instr.loadAt 3 t8_2) w fun t9_3 =>
 jn 3 (fun t0_4 t1_5 t5_6 w =>
 RunA Tryz.prog (nilV t0_4) fun t32_8 =>
 RunA Tryz.prog (Instr.fieldAt 83 t32_8 2) fun t33_9 =>
 RunW Tryz.prog (Instr.loadAt 28 t33_9) w fun t34_10 =>
 RunW Tryz.prog (bin .neq 28 (.tmp 34) (.const (.int .i64 0)) t34_10 (.int .i64 0)) w fun t35_11 =>
 IfB t35_11 (
 R (.string ⟨#[]⟩) w) (
 RunA Tryz.prog (nilV t0_4) fun t37_12 =>
 RunA Tryz.prog (Instr.fieldAt 83 t37_12 1) fun t38_13 =>
 RunW Tryz.prog (Instr.loadAt 3 t38_13) w fun t39_14 =>
 RunW Tryz.prog (Builtin.len_ #[9] 3 #[t1_5]) w fun t41_15 =>
 RunA Tryz.prog (bin .add 3 (.tmp 39) (.tmp 41) t39_14 t41_15) fun t42_16 =>
 RunA Tryz.prog (nilV t0_4) fun t43_17 =>
 RunA Tryz.prog (Instr.fieldAt 83 t43_17 1) fun t44_18 =>
 RunU Tryz.prog (Instr.storeAt 3 t44_18 t42_16) w fun w =>
 drw (fun S_19 w =>
 RunA Tryz.prog (nilV t0_4) fun t46_20 =>
 RunA Tryz.prog (Instr.fieldAt 83 t46_20 0) fun t47_21 =>
 RunS Tryz.prog S_19 (Instr.loadAt 9 t47_21) fun t48_22 =>
 RunA Tryz.prog (nilV t0_4) fun t51_23 =>
 RunA Tryz.prog (Instr.fieldAt 83 t51_23 1) fun t52_24 =>
 RunS Tryz.prog S_19 (Instr.loadAt 3 t52_24) fun t53_25 =>
 RunS Tryz.prog S_19 (Builtin.len_ #[9] 3 #[t1_5]) fun t55_26 =>
 RunA Tryz.prog (bin .sub 3 (.tmp 53) (.tmp 55) t53_25 t55_26) fun t56_27 =>
 RunA Tryz.prog (Instr.sliceAt 9 t48_22 (some t5_6) (some t56_27) none) fun t57_28 =>
 R t57_28 w) w)) fun j_7 =>
 lp 0 (fun n_29 w =>
 drw (fun S_30 w =>
 RunA Tryz.prog (nilV a0) fun t11_31 =>
 RunA Tryz.prog (Instr.fieldAt 83 t11_31 2) fun t12_32 =>
 RunS Tryz.prog S_30 (Instr.loadAt 28 t12_32) fun t13_33 =>
 RunS Tryz.prog S_30 (bin .eql 28 (.tmp 13) (.const (.int .i64 0)) t13_33 (.int .i64 0)) fun t14_34 =>
 IfB t14_34 (
 RunA Tryz.prog (nilV a0) fun t17_35 =>
 RunA Tryz.prog (Instr.fieldAt 83 t17_35 0) fun t18_36 =>
 RunS Tryz.prog S_30 (Instr.loadAt 9 t18_36) fun t19_37 =>
 RunA Tryz.prog (nilV a0) fun t21_38 =>
 RunA Tryz.prog (Instr.fieldAt 83 t21_38 1) fun t22_39 =>
 RunS Tryz.prog S_30 (Instr.loadAt 3 t22_39) fun t23_40 =>
 RunA Tryz.prog (Instr.sliceAt 9 t19_37 (some t23_40) none none) fun t24_41 =>
 CallF Tryz.prog 71 #[t24_41, a1] w fun t26_42 w =>
 S_30 w ∧ (
 RunA Tryz.prog (Op.unary .not t26_42) fun t27_43 =>
 IfB t27_43 (
 CallF Tryz.prog 105 #[a0] w fun t30_44 w =>
 (a0 : Value) = a0 ∧ ((a1 : Value) = a1 ∧ ((t9_3 : Value) = t9_3 ∧ (n_29 w)))) (
 j_7 a0 a1 t9_3 w))) (
 j_7 a0 a1 t9_3 w)) w) [] w
theorem sh74_calls {a0 a1 : Value} {w : World} {R : Value → World → Prop} (h : sh74 a0 a1 w R) : CallF Tryz.prog 74 #[a0, a1] w R :=
  calls_of_denF (mk := false) (args := [a0, a1]) (an := (.seq (.ops [0, 1]) (.seq (.ops [0, 1, 5]) (.seq (.join [0, 1, 5] (.blk (.loop [0, 1, 5] [] (.seq (.seq (.draw (.q 0 (.q 1 (.q 2 (.q 3 (.q 4 (.q 5 (.sp 6 (.q 6 (.q 7 (.q 8 (.q 9 (.q 10 (.q 11 (.q 12 (.q 13 (.q 14 (.q 15 (.one 16 (.q 17 (.q 18 .fin))))))))))))) (.q 6 (.q 7 (.q 8 (.q 9 (.q 10 (.q 11 (.q 12 (.q 13 (.q 14 (.q 15 (.q 16 (.q 17 (.q 18 .fin)))))))))))))))))))) [0, 1, 5, 28]) (.cond .leaf .leaf)) (.blk (.ops [0, 1, 5])))))) (.seq (.seq (.ops [0, 1, 5, 35]) (.cond (.seq (.ops [4]) .leaf) .leaf)) (.seq (.ops [0, 1, 5]) (.seq (.draw (.q 0 (.q 1 (.q 2 (.q 3 (.q 4 (.q 5 (.q 6 (.q 7 (.q 8 (.q 9 (.q 10 (.q 11 (.q 12 (.q 13 .fin)))))))))))))) [4]) .leaf))))))) (c := Tryz.f74.body.getD .skip) hent Tryz.func74 rfl (Nat.le_of_ble_eq_true (by kernel_rfl))
    (Eq.mp (show sh74 a0 a1 w R = denF Tryz.prog ent false Tryz.f74 (.seq (.ops [0, 1]) (.seq (.ops [0, 1, 5]) (.seq (.join [0, 1, 5] (.blk (.loop [0, 1, 5] [] (.seq (.seq (.draw (.q 0 (.q 1 (.q 2 (.q 3 (.q 4 (.q 5 (.sp 6 (.q 6 (.q 7 (.q 8 (.q 9 (.q 10 (.q 11 (.q 12 (.q 13 (.q 14 (.q 15 (.one 16 (.q 17 (.q 18 .fin))))))))))))) (.q 6 (.q 7 (.q 8 (.q 9 (.q 10 (.q 11 (.q 12 (.q 13 (.q 14 (.q 15 (.q 16 (.q 17 (.q 18 .fin)))))))))))))))))))) [0, 1, 5, 28]) (.cond .leaf .leaf)) (.blk (.ops [0, 1, 5])))))) (.seq (.seq (.ops [0, 1, 5, 35]) (.cond (.seq (.ops [4]) .leaf) .leaf)) (.seq (.ops [0, 1, 5]) (.seq (.draw (.q 0 (.q 1 (.q 2 (.q 3 (.q 4 (.q 5 (.q 6 (.q 7 (.q 8 (.q 9 (.q 10 (.q 11 (.q 12 (.q 13 .fin)))))))))))))) [4]) .leaf)))))) (Tryz.f74.body.getD .skip) [a0, a1] w R by kernel_rfl) h)
def sh75 (a0 : Value) (w : World) (R : Value → World → Prop) : Prop :=
 RunV Tryz.prog (Instr.alloc 118 true (.tuple #[])) w fun t2_1 w =>
 CallF Tryz.prog 106 #[a0] w fun t5_2 w =>
 drw (fun S_3 w =>
 RunA Tryz.prog (nilV a0) fun t7_4 =>
 RunA Tryz.prog (Instr.fieldAt 83 t7_4 2) fun t8_5 =>
 RunS Tryz.prog S_3 (Instr.loadAt 28 t8_5) fun t9_6 =>
 RunS Tryz.prog S_3 (bin .neq 28 (.tmp 9) (.const (.int .i64 0)) t9_6 (.int .i64 0)) fun t10_7 =>
 IfB t10_7 (
 RunV Tryz.prog (Instr.build 118 #[(0, (.string ⟨#[]⟩)), (1, t5_2)]) w fun t36_8 w =>
 RunU Tryz.prog (Instr.storeAt 118 t2_1 t36_8) w fun w =>
 RunW Tryz.prog (Instr.loadAt 118 t2_1) w fun t2_9 =>
 R t2_9 w) (
 RunA Tryz.prog (nilV a0) fun t13_10 =>
 RunA Tryz.prog (Instr.fieldAt 83 t13_10 1) fun t14_11 =>
 RunS Tryz.prog S_3 (Instr.loadAt 3 t14_11) fun t15_12 =>
 RunA Tryz.prog (nilV a0) fun t17_13 =>
 RunA Tryz.prog (Instr.fieldAt 83 t17_13 0) fun t18_14 =>
 RunS Tryz.prog S_3 (Instr.loadAt 9 t18_14) fun t19_15 =>
 RunS Tryz.prog S_3 (Builtin.len_ #[9] 3 #[t19_15]) fun t20_16 =>
 RunA Tryz.prog (bin .geq 3 (.tmp 15) (.tmp 20) t15_12 t20_16) fun t21_17 =>
 IfB t21_17 (
 RunV Tryz.prog (Instr.build 118 #[(0, (.string ⟨#[]⟩)), (1, t5_2)]) w fun t36_18 w =>
 RunU Tryz.prog (Instr.storeAt 118 t2_1 t36_18) w fun w =>
 RunW Tryz.prog (Instr.loadAt 118 t2_1) w fun t2_19 =>
 R t2_19 w) (
 RunA Tryz.prog (nilV a0) fun t25_20 =>
 RunA Tryz.prog (Instr.fieldAt 83 t25_20 0) fun t26_21 =>
 RunS Tryz.prog S_3 (Instr.loadAt 9 t26_21) fun t27_22 =>
 RunA Tryz.prog (nilV a0) fun t29_23 =>
 RunA Tryz.prog (Instr.fieldAt 83 t29_23 1) fun t30_24 =>
 RunS Tryz.prog S_3 (Instr.loadAt 3 t30_24) fun t31_25 =>
 RunA Tryz.prog (Instr.index 9 t27_22 t31_25) fun t32_26 =>
 RunS Tryz.prog S_3 (bin .neq 5 (.tmp 32) (.const (.int .u8 58)) t32_26 (.int .u8 58)) fun t33_27 =>
 IfB t33_27 (
 RunV Tryz.prog (Instr.build 118 #[(0, (.string ⟨#[]⟩)), (1, t5_2)]) w fun t36_28 w =>
 RunU Tryz.prog (Instr.storeAt 118 t2_1 t36_28) w fun w =>
 RunW Tryz.prog (Instr.loadAt 118 t2_1) w fun t2_29 =>
 R t2_29 w) (
 RunA Tryz.prog (nilV a0) fun t38_30 =>
 RunA Tryz.prog (Instr.fieldAt 83 t38_30 1) fun t39_31 =>
 RunW Tryz.prog (Instr.loadAt 3 t39_31) w fun t40_32 =>
 RunA Tryz.prog (bin .add 3 (.tmp 40) (.const (.int .i64 1)) t40_32 (.int .i64 1)) fun t41_33 =>
 RunA Tryz.prog (nilV a0) fun t42_34 =>
 RunA Tryz.prog (Instr.fieldAt 83 t42_34 1) fun t43_35 =>
 RunU Tryz.prog (Instr.storeAt 3 t43_35 t41_33) w fun w =>
 CallF Tryz.prog 106 #[a0] w fun t46_36 w =>
 RunV Tryz.prog (Instr.build 118 #[(0, t5_2), (1, t46_36)]) w fun t47_37 w =>
 RunU Tryz.prog (Instr.storeAt 118 t2_1 t47_37) w fun w =>
 RunW Tryz.prog (Instr.loadAt 118 t2_1) w fun t2_38 =>
 R t2_38 w)))) w
theorem sh75_calls {a0 : Value} {w : World} {R : Value → World → Prop} (h : sh75 a0 w R) : CallF Tryz.prog 75 #[a0] w R :=
  calls_of_denF (mk := false) (args := [a0]) (an := (.seq (.ops [0, 2]) (.seq (.ops [0, 2, 3]) (.seq (.seq (.draw (.q 0 (.q 1 (.q 2 (.q 3 (.q 4 (.q 5 (.sp 6 (.q 6 (.q 7 (.q 8 (.q 9 (.q 10 (.q 11 (.q 12 (.q 13 (.q 14 (.q 15 (.q 16 (.q 17 (.q 18 (.q 19 (.q 20 (.q 21 (.q 22 (.q 23 (.q 24 (.q 25 (.q 26 (.q 27 (.q 28 .fin))))))))))))))))))))))) (.q 6 (.q 7 (.q 8 (.q 9 (.q 10 (.q 11 (.q 12 (.q 13 (.q 14 (.q 15 (.q 16 (.q 17 (.sp 18 (.q 18 (.q 19 (.q 20 (.q 21 (.q 22 (.q 23 (.q 24 (.q 25 (.q 26 (.q 27 (.q 28 .fin))))))))))) (.q 18 (.q 19 (.q 20 (.q 21 (.q 22 (.q 23 (.q 24 (.q 25 (.q 26 (.q 27 (.q 28 .fin))))))))))))))))))))))))))))))) [0, 2, 3, 34]) (.cond (.seq (.ops [2]) .leaf) .leaf)) (.seq (.ops [0, 2, 3]) (.seq (.ops [2]) .leaf)))))) (c := Tryz.f75.body.getD .skip) hent Tryz.func75 rfl (Nat.le_of_ble_eq_true (by kernel_rfl))
    (Eq.mp (show sh75 a0 w R = denF Tryz.prog ent false Tryz.f75 (.seq (.ops [0, 2]) (.seq (.ops [0, 2, 3]) (.seq (.seq (.draw (.q 0 (.q 1 (.q 2 (.q 3 (.q 4 (.q 5 (.sp 6 (.q 6 (.q 7 (.q 8 (.q 9 (.q 10 (.q 11 (.q 12 (.q 13 (.q 14 (.q 15 (.q 16 (.q 17 (.q 18 (.q 19 (.q 20 (.q 21 (.q 22 (.q 23 (.q 24 (.q 25 (.q 26 (.q 27 (.q 28 .fin))))))))))))))))))))))) (.q 6 (.q 7 (.q 8 (.q 9 (.q 10 (.q 11 (.q 12 (.q 13 (.q 14 (.q 15 (.q 16 (.q 17 (.sp 18 (.q 18 (.q 19 (.q 20 (.q 21 (.q 22 (.q 23 (.q 24 (.q 25 (.q 26 (.q 27 (.q 28 .fin))))))))))) (.q 18 (.q 19 (.q 20 (.q 21 (.q 22 (.q 23 (.q 24 (.q 25 (.q 26 (.q 27 (.q 28 .fin))))))))))))))))))))))))))))))) [0, 2, 3, 34]) (.cond (.seq (.ops [2]) .leaf) .leaf)) (.seq (.ops [0, 2, 3]) (.seq (.ops [2]) .leaf))))) (Tryz.f75.body.getD .skip) [a0] w R by kernel_rfl) h)
def sh76 (a0 : Value) (w : World) (R : Value → World → Prop) : Prop :=
 lp 1 (fun n_2 t3_1 w =>
 RunA Tryz.prog (nilV a0) fun t7_3 =>
 RunA Tryz.prog (Instr.fieldAt 83 t7_3 2) fun t8_4 =>
 RunW Tryz.prog (Instr.loadAt 28 t8_4) w fun t9_5 =>
 RunW Tryz.prog (bin .eql 28 (.tmp 9) (.const (.int .i64 0)) t9_5 (.int .i64 0)) w fun t10_6 =>
 IfB t10_6 (
 CallF Tryz.prog 73 #[a0] w fun t12_7 w =>
 CallF Tryz.prog 40 #[a0, (.int .i64 0)] w fun t14_8 w =>
 RunA Tryz.prog (nilV a0) fun t23_9 =>
 RunA Tryz.prog (Instr.fieldAt 83 t23_9 2) fun t24_10 =>
 RunW Tryz.prog (Instr.loadAt 28 t24_10) w fun t25_11 =>
 RunW Tryz.prog (bin .neq 28 (.tmp 25) (.const (.int .i64 0)) t25_11 (.int .i64 0)) w fun t26_12 =>
 IfB t26_12 (
 R t3_1 w) (
 RunW Tryz.prog (bin .eql 5 (.tmp 28) (.const (.int .u8 47)) t14_8 (.int .u8 47)) w fun t29_13 =>
 IfB t29_13 (
 R t3_1 w) (
 RunW Tryz.prog (bin .eql 5 (.tmp 32) (.const (.int .u8 62)) t14_8 (.int .u8 62)) w fun t33_14 =>
 IfB t33_14 (
 R t3_1 w) (
 jn 2 (fun t0_15 t3_16 w =>
 (t0_15 : Value) = a0 ∧ (n_2 t3_16 w)) fun j_17 =>
 RunA Tryz.prog (Op.unary .not t12_7) fun t38_18 =>
 IfB t38_18 (
 CallF Tryz.prog 41 #[a0, (.int .i64 4)] w fun t40_19 w =>
 j_17 a0 t3_1 w) (
 CallF Tryz.prog 107 #[a0, t3_1] w fun t18_20 w =>
 RunV Tryz.prog (Instr.buildSlice 120 1 #[(0, t18_20)]) w fun t19_21 w =>
 RunV Tryz.prog (Builtin.append_ #[120, 120] 120 #[t3_1, t19_21]) w fun t20_22 w =>
 j_17 a0 t20_22 w))))) (
 R t3_1 w)) [(.slice none 0 0)] w
theorem sh76_calls {a0 : Value} {w : World} {R : Value → World → Prop} (h : sh76 a0 w R) : CallF Tryz.prog 76 #[a0] w R :=
  calls_of_denF (mk := false) (args := [a0]) (an := (.seq (.ops [0]) (.seq (.ops [0, 3]) (.seq (.blk (.loop [0] [3] (.seq (.seq (.ops [0, 3, 10]) (.cond .leaf .leaf)) (.blk (.seq (.ops [0, 3, 4]) (.seq (.ops [0, 3, 4, 5]) (.blk (.seq (.ops [0, 3, 4, 21]) (.cond (.seq (.ops [2]) .leaf) (.join [0, 3] (.seq (.ops [0, 3, 36]) (.cond (.ops [0, 3]) (.ops [0, 3]))))))))))))) (.seq (.ops [2]) .leaf))))) (c := Tryz.f76.body.getD .skip) hent Tryz.func76 rfl (Nat.le_of_ble_eq_true (by kernel_rfl))
    (Eq.mp (show sh76 a0 w R = denF Tryz.prog ent false Tryz.f76 (.seq (.ops [0]) (.seq (.ops [0, 3]) (.seq (.blk (.loop [0] [3] (.seq (.seq (.ops [0, 3, 10]) (.cond .leaf .leaf)) (.blk (.seq (.ops [0, 3, 4]) (.seq (.ops [0, 3, 4, 5]) (.blk (.seq (.ops [0, 3, 4, 21]) (.cond (.seq (.ops [2]) .leaf) (.join [0, 3] (.seq (.ops [0, 3, 36]) (.cond (.ops [0, 3]) (.ops [0, 3]))))))))))))) (.seq (.ops [2]) .leaf)))) (Tryz.f76.body.getD .skip) [a0] w R by kernel_rfl) h)
def sh77 (a0 a1 a2 : Value) (w : World) (R : Value → World → Prop) : Prop :=
 RunV Tryz.prog (Instr.box 118 a1) w fun t4_1 w =>
 RunV Tryz.prog (Instr.alloc 124 true (.tuple #[])) w fun t6_2 w =>
 RunW Tryz.prog (Instr.loadAt 118 t4_1) w fun t18_3 =>
 RunV Tryz.prog (Instr.makeMap 122 none) w fun t19_4 w =>
 RunV Tryz.prog (Instr.build 124 #[(0, t18_3), (1, t19_4)]) w fun t20_5 w =>
 RunV Tryz.prog (Instr.alloc 124 true (.tuple #[])) w fun t7_6 w =>
 RunU Tryz.prog (Instr.storeAt 124 t7_6 t20_5) w fun w =>
 RunW Tryz.prog (Builtin.len_ #[120] 3 #[a2]) w fun t22_7 =>
 lp 1 (fun n_9 t23_8 w =>
 RunA Tryz.prog (bin .lss 3 (.tmp 23) (.tmp 22) t23_8 t22_7) fun t24_10 =>
 IfB t24_10 (
 RunA Tryz.prog (Instr.indexAt 120 a2 t23_8) fun t25_11 =>
 RunW Tryz.prog (Instr.loadAt 154 t25_11) w fun t26_12 =>
 RunV Tryz.prog (Instr.alloc 154 true (.tuple #[])) w fun t9_13 w =>
 RunU Tryz.prog (Instr.storeAt 154 t9_13 t26_12) w fun w =>
 RunW Tryz.prog (Instr.loadAt 154 t9_13) w fun t28_14 =>
 CallF Tryz.prog 108 #[t28_14] w fun t29_15 w =>
 RunA Tryz.prog (Instr.extract t29_15 0) fun t30_16 =>
 RunA Tryz.prog (Instr.extract t29_15 1) fun t31_17 =>
 jn 8 (fun t0_18 t2_19 t4_20 t6_21 t7_22 t21_23 t22_24 t23_25 w =>
 RunA Tryz.prog (bin .add 3 (.tmp 23) (.const (.int .i64 1)) t23_25 (.int .i64 1)) fun t38_27 =>
 (t0_18 : Value) = a0 ∧ ((t2_19 : Value) = a2 ∧ ((t4_20 : Value) = t4_1 ∧ ((t6_21 : Value) = t6_2 ∧ ((t7_22 : Value) = t7_6 ∧ ((t21_23 : Value) = a2 ∧ ((t22_24 : Value) = t22_7 ∧ (n_9 t38_27 w)))))))) fun j_26 =>
 IfB t31_17 (
 RunA Tryz.prog (Instr.fieldAt 124 t7_6 1) fun t33_28 =>
 RunW Tryz.prog (Instr.loadAt 122 t33_28) w fun t34_29 =>
 RunA Tryz.prog (Instr.fieldAt 154 t9_13 1) fun t36_30 =>
 RunW Tryz.prog (Instr.loadAt 9 t36_30) w fun t37_31 =>
 RunU Tryz.prog (Instr.mapUpdate 122 t34_29 t30_16 t37_31) w fun w =>
 j_26 a0 a2 t4_1 t6_2 t7_6 a2 t22_7 t23_8 w) (
 j_26 a0 a2 t4_1 t6_2 t7_6 a2 t22_7 t23_8 w)) (
 jn 5 (fun t0_32 t2_33 t6_34 t7_35 t12_36 w =>
 RunW Tryz.prog (Builtin.len_ #[120] 3 #[t2_33]) w fun t48_38 =>
 lp 1 (fun n_40 t49_39 w =>
 RunA Tryz.prog (bin .lss 3 (.tmp 49) (.tmp 48) t49_39 t48_38) fun t50_41 =>
 IfB t50_41 (
 jn 7 (fun t0_42 t6_43 t7_44 t12_45 t47_46 t48_47 t49_48 w =>
 RunA Tryz.prog (bin .add 3 (.tmp 49) (.const (.int .i64 1)) t49_48 (.int .i64 1)) fun t82_50 =>
 (t0_42 : Value) = t0_32 ∧ ((t6_43 : Value) = t6_34 ∧ ((t7_44 : Value) = t7_35 ∧ ((t12_45 : Value) = t12_36 ∧ ((t47_46 : Value) = t2_33 ∧ ((t48_47 : Value) = t48_38 ∧ (n_40 t82_50 w))))))) fun j_49 =>
 RunA Tryz.prog (Instr.indexAt 120 t2_33 t49_39) fun t51_51 =>
 RunW Tryz.prog (Instr.loadAt 154 t51_51) w fun t52_52 =>
 RunV Tryz.prog (Instr.alloc 154 true (.tuple #[])) w fun t14_53 w =>
 RunU Tryz.prog (Instr.storeAt 154 t14_53 t52_52) w fun w =>
 RunW Tryz.prog (Instr.loadAt 154 t14_53) w fun t54_54 =>
 CallF Tryz.prog 108 #[t54_54] w fun t55_55 w =>
 RunA Tryz.prog (Instr.extract t55_55 0) fun t56_56 =>
 RunA Tryz.prog (Instr.extract t55_55 1) fun t57_57 =>
 IfB t57_57 (
 j_49 t0_32 t6_34 t7_35 t12_36 t2_33 t48_38 t49_39 w) (
 RunA Tryz.prog (Instr.fieldAt 154 t14_53 0) fun t59_58 =>
 RunA Tryz.prog (Instr.fieldAt 118 t59_58 1) fun t60_59 =>
 RunW Tryz.prog (Instr.loadAt 9 t60_59) w fun t61_60 =>
 RunA Tryz.prog (Instr.fieldAt 154 t14_53 1) fun t62_61 =>
 RunW Tryz.prog (Instr.loadAt 9 t62_61) w fun t63_62 =>
 RunV Tryz.prog (Instr.build 158 #[(1, t61_60), (2, t63_62)]) w fun t64_63 w =>
 RunV Tryz.prog (Instr.alloc 158 true (.tuple #[])) w fun t17_64 w =>
 RunU Tryz.prog (Instr.storeAt 158 t17_64 t64_63) w fun w =>
 jn 8 (fun t0_65 t6_66 t7_67 t12_68 t17_69 t47_70 t48_71 t49_72 w =>
 RunA Tryz.prog (Instr.fieldAt 88 t12_68 4) fun t76_74 =>
 RunW Tryz.prog (Instr.loadAt 86 t76_74) w fun t77_75 =>
 RunW Tryz.prog (Instr.loadAt 158 t17_69) w fun t78_76 =>
 RunV Tryz.prog (Instr.buildSlice 86 1 #[(0, t78_76)]) w fun t79_77 w =>
 RunV Tryz.prog (Builtin.append_ #[86, 86] 86 #[t77_75, t79_77]) w fun t80_78 w =>
 RunA Tryz.prog (Instr.fieldAt 88 t12_68 4) fun t81_79 =>
 RunU Tryz.prog (Instr.storeAt 86 t81_79 t80_78) w fun w =>
 j_49 t0_65 t6_66 t7_67 t12_68 t47_70 t48_71 t49_72 w) fun j_73 =>
 RunA Tryz.prog (Instr.fieldAt 154 t14_53 0) fun t65_80 =>
 RunA Tryz.prog (Instr.fieldAt 118 t65_80 0) fun t66_81 =>
 RunW Tryz.prog (Instr.loadAt 9 t66_81) w fun t67_82 =>
 RunW Tryz.prog (bin .neq 9 (.tmp 67) (.const (.string ⟨#[]⟩)) t67_82 (.string ⟨#[]⟩)) w fun t68_83 =>
 IfB t68_83 (
 RunW Tryz.prog (Instr.loadAt 124 t7_35) w fun t70_84 =>
 RunA Tryz.prog (Instr.fieldAt 154 t14_53 0) fun t71_85 =>
 RunA Tryz.prog (Instr.fieldAt 118 t71_85 0) fun t72_86 =>
 RunW Tryz.prog (Instr.loadAt 9 t72_86) w fun t73_87 =>
 CallF Tryz.prog 109 #[t0_32, t70_84, t73_87] w fun t74_88 w =>
 RunA Tryz.prog (Instr.fieldAt 158 t17_64 0) fun t75_89 =>
 RunU Tryz.prog (Instr.storeAt 9 t75_89 t74_88) w fun w =>
 j_73 t0_32 t6_34 t7_35 t12_36 t17_64 t2_33 t48_38 t49_39 w) (
 j_73 t0_32 t6_34 t7_35 t12_36 t17_64 t2_33 t48_38 t49_39 w))) (
 drw (fun S_90 w =>
 RunA Tryz.prog (nilV t0_32) fun t85_91 =>
 RunA Tryz.prog (Instr.fieldAt 83 t85_91 3) fun t86_92 =>
 RunS Tryz.prog S_90 (Instr.loadAt 54 t86_92) fun t87_93 =>
 RunS Tryz.prog S_90 (Instr.loadAt 88 t12_36) fun t88_94 =>
 RunV Tryz.prog (Instr.buildSlice 54 1 #[(0, t88_94)]) w fun t89_95 w =>
 S_90 w ∧ (
 RunV Tryz.prog (Builtin.append_ #[54, 54] 54 #[t87_93, t89_95]) w fun t90_96 w =>
 RunA Tryz.prog (nilV t0_32) fun t91_97 =>
 RunA Tryz.prog (Instr.fieldAt 83 t91_97 3) fun t92_98 =>
 RunU Tryz.prog (Instr.storeAt 54 t92_98 t90_96) w fun w =>
 RunW Tryz.prog (Instr.loadAt 124 t7_35) w fun t93_99 =>
 RunU Tryz.prog (Instr.storeAt 124 t6_34 t93_99) w fun w =>
 RunW Tryz.prog (Instr.loadAt 124 t6_34) w fun t6_100 =>
 R t6_100 w)) w)) [(.int .i64 0)] w) fun j_37 =>
 drw (fun S_101 w =>
 RunS Tryz.prog S_101 (Instr.loadAt 124 t7_6) fun t40_102 =>
 RunA Tryz.prog (Instr.fieldAt 118 t4_1 0) fun t41_103 =>
 RunS Tryz.prog S_101 (Instr.loadAt 9 t41_103) fun t42_104 =>
 RunA Tryz.prog (Instr.fieldAt 118 t4_1 1) fun t44_105 =>
 RunS Tryz.prog S_101 (Instr.loadAt 9 t44_105) fun t45_106 =>
 (CallF Tryz.prog 109 #[a0, t40_102, t42_104] w fun t43_107 w =>
 S_101 w ∧ (
 (RunV Tryz.prog (Instr.build 88 #[(0, (.int .i64 1)), (1, t43_107), (2, t45_106)]) w fun t46_108 w =>
 RunV Tryz.prog (Instr.alloc 88 true (.tuple #[])) w fun t12_109 w =>
 RunU Tryz.prog (Instr.storeAt 88 t12_109 t46_108) w fun w =>
 j_37 a0 a2 t6_2 t7_6 t12_109 w) ∧ (
 (RunV Tryz.prog (Instr.alloc 88 true (.tuple #[])) w fun t12_110 w =>
 S_101 w ∧ (
 RunV Tryz.prog (Instr.build 88 #[(0, (.int .i64 1)), (1, t43_107), (2, t45_106)]) w fun t46_111 w =>
 RunU Tryz.prog (Instr.storeAt 88 t12_110 t46_111) w fun w =>
 j_37 a0 a2 t6_2 t7_6 t12_110 w)) ∧ (
 True)))) ∧ (
 (RunV Tryz.prog (Instr.alloc 88 true (.tuple #[])) w fun t12_112 w =>
 S_101 w ∧ (
 CallF Tryz.prog 109 #[a0, t40_102, t42_104] w fun t43_113 w =>
 S_101 w ∧ (
 RunV Tryz.prog (Instr.build 88 #[(0, (.int .i64 1)), (1, t43_113), (2, t45_106)]) w fun t46_114 w =>
 RunU Tryz.prog (Instr.storeAt 88 t12_112 t46_114) w fun w =>
 j_37 a0 a2 t6_2 t7_6 t12_112 w))) ∧ (
 True))) w)) [(.int .i64 0)] w
theorem sh77_calls {a0 a1 a2 : Value} {w : World} {R : Value → World → Prop} (h : sh77 a0 a1 a2 w R) : CallF Tryz.prog 77 #[a0, a1, a2] w R :=
  calls_of_denF (mk := false) (args := [a0, a1, a2]) (an := (.seq (.ops [0, 2, 4, 6]) (.seq (.ops [0, 2, 4, 6, 7]) (.seq (.seq (.ops [0, 2, 4, 6, 7, 21, 22, 23]) (.blk (.loop [0, 2, 4, 6, 7, 21, 22] [23] (.seq (.ops [0, 2, 4, 6, 7, 21, 22, 23, 24]) (.seq (.cond .leaf .leaf) (.seq (.blk (.seq (.ops [0, 2, 4, 6, 7, 9, 21, 22, 23]) (.seq (.ops [0, 2, 4, 6, 7, 9, 10, 11, 21, 22, 23]) (.join [0, 2, 4, 6, 7, 21, 22, 23] (.seq (.ops [0, 2, 4, 6, 7, 9, 10, 21, 22, 23, 32]) (.cond (.ops [0, 2, 4, 6, 7, 21, 22, 23]) .leaf)))))) (.ops [0, 2, 4, 6, 7, 21, 22, 23]))))))) (.seq (.join [0, 2, 6, 7, 12] (.draw (.q 0 (.q 1 (.q 2 (.q 3 (.q 5 (.q 6 (.alt 4 (.alt 7 (.one 8 (.one 9 .fin)) (.alt 8 (.one 7 (.one 9 .fin)) .fin)) (.alt 8 (.one 4 (.one 7 (.one 9 .fin))) .fin)))))))) [0, 2, 6, 7, 12])) (.seq (.seq (.ops [0, 6, 7, 12, 47, 48, 49]) (.blk (.loop [0, 6, 7, 12, 47, 48] [49] (.seq (.ops [0, 6, 7, 12, 47, 48, 49, 50]) (.seq (.cond .leaf .leaf) (.seq (.join [0, 6, 7, 12, 47, 48, 49] (.blk (.seq (.ops [0, 6, 7, 12, 14, 47, 48, 49]) (.seq (.seq (.ops [0, 6, 7, 12, 14, 16, 47, 48, 49]) (.seq (.ops [0, 6, 7, 12, 14, 47, 48, 49, 58]) (.cond .leaf .leaf))) (.seq (.ops [0, 6, 7, 12, 14, 17, 47, 48, 49]) (.seq (.join [0, 6, 7, 12, 17, 47, 48, 49] (.seq (.ops [0, 6, 7, 12, 14, 17, 47, 48, 49, 68]) (.cond (.ops [0, 6, 7, 12, 17, 47, 48, 49]) .leaf))) (.ops [0, 6, 7, 12, 47, 48, 49]))))))) (.ops [0, 6, 7, 12, 47, 48, 49]))))))) (.seq (.draw (.q 0 (.q 1 (.q 2 (.q 3 (.q 4 (.q 5 (.one 6 (.one 7 (.q 8 (.q 9 (.one 10 .fin))))))))))) [6, 7]) (.seq (.ops [6]) .leaf)))))))) (c := Tryz.f77.body.getD .skip) hent Tryz.func77 rfl (Nat.le_of_ble_eq_true (by kernel_rfl))
    (Eq.mp (show sh77 a0 a1 a2 w R = denF Tryz.prog ent false Tryz.f77 (.seq (.ops [0, 2, 4, 6]) (.seq (.ops [0, 2, 4, 6, 7]) (.seq (.seq (.ops [0, 2, 4, 6, 7, 21, 22, 23]) (.blk (.loop [0, 2, 4, 6, 7, 21, 22] [23] (.seq (.ops [0, 2, 4, 6, 7, 21, 22, 23, 24]) (.seq (.cond .leaf .leaf) (.seq (.blk (.seq (.ops [0, 2, 4, 6, 7, 9, 21, 22, 23]) (.seq (.ops [0, 2, 4, 6, 7, 9, 10, 11, 21, 22, 23]) (.join [0, 2, 4, 6, 7, 21, 22, 23] (.seq (.ops [0, 2, 4, 6, 7, 9, 10, 21, 22, 23, 32]) (.cond (.ops [0, 2, 4, 6, 7, 21, 22, 23]) .leaf)))))) (.ops [0, 2, 4, 6, 7, 21, 22, 23]))))))) (.seq (.join [0, 2, 6, 7, 12] (.draw (.q 0 (.q 1 (.q 2 (.q 3 (.q 5 (.q 6 (.alt 4 (.alt 7 (.one 8 (.one 9 .fin)) (.alt 8 (.one 7 (.one 9 .fin)) .fin)) (.alt 8 (.one 4 (.one 7 (.one 9 .fin))) .fin)))))))) [0, 2, 6, 7, 12])) (.seq (.seq (.ops [0, 6, 7, 12, 47, 48, 49]) (.blk (.loop [0, 6, 7, 12, 47, 48] [49] (.seq (.ops [0, 6, 7, 12, 47, 48, 49, 50]) (.seq (.cond .leaf .leaf) (.seq (.join [0, 6, 7, 12, 47, 48, 49] (.blk (.seq (.ops [0, 6, 7, 12, 14, 47, 48, 49]) (.seq (.seq (.ops [0, 6, 7, 12, 14, 16, 47, 48, 49]) (.seq (.ops [0, 6, 7, 12, 14, 47, 48, 49, 58]) (.cond .leaf .leaf))) (.seq (.ops [0, 6, 7, 12, 14, 17, 47, 48, 49]) (.seq (.join [0, 6, 7, 12, 17, 47, 48, 49] (.seq (.ops [0, 6, 7, 12, 14, 17, 47, 48, 49, 68]) (.cond (.ops [0, 6, 7, 12, 17, 47, 48, 49]) .leaf))) (.ops [0, 6, 7, 12, 47, 48, 49]))))))) (.ops [0, 6, 7, 12, 47, 48, 49]))))))) (.seq (.draw (.q 0 (.q 1 (.q 2 (.q 3 (.q 4 (.q 5 (.one 6 (.one 7 (.q 8 (.q 9 (.one 10 .fin))))))))))) [6, 7]) (.seq (.ops [6]) .leaf))))))) (Tryz.f77.body.getD .skip) [a0, a1, a2] w R by kernel_rfl) h)
def sh78 (a0 a1 : Value) (w : World) (R : Value → World → Prop) : Prop :=
 RunV Tryz.prog (Instr.box 124 a1) w fun t3_1 w =>
 drw (fun S_2 w =>
 RunA Tryz.prog (nilV a0) fun t6_3 =>
 RunA Tryz.prog (Instr.fieldAt 83 t6_3 3) fun t7_4 =>
 RunS Tryz.prog S_2 (Instr.loadAt 54 t7_4) fun t8_5 =>
 RunS Tryz.prog S_2 (Instr.loadAt 124 t3_1) fun t10_6 =>
 RunA Tryz.prog (Instr.fieldAt 124 t3_1 0) fun t11_7 =>
 RunA Tryz.prog (Instr.fieldAt 118 t11_7 0) fun t12_8 =>
 RunS Tryz.prog S_2 (Instr.loadAt 9 t12_8) fun t13_9 =>
 RunA Tryz.prog (Instr.fieldAt 124 t3_1 0) fun t15_10 =>
 RunA Tryz.prog (Instr.fieldAt 118 t15_10 1) fun t16_11 =>
 RunS Tryz.prog S_2 (Instr.loadAt 9 t16_11) fun t17_12 =>
 CallF Tryz.prog 109 #[a0, t10_6, t13_9] w fun t14_13 w =>
 S_2 w ∧ (
 RunV Tryz.prog (Instr.build 88 #[(0, (.int .i64 2)), (1, t14_13), (2, t17_12)]) w fun t18_14 w =>
 S_2 w ∧ (
 RunV Tryz.prog (Instr.buildSlice 54 1 #[(0, t18_14)]) w fun t19_15 w =>
 S_2 w ∧ (
 RunV Tryz.prog (Builtin.append_ #[54, 54] 54 #[t8_5, t19_15]) w fun t20_16 w =>
 RunA Tryz.prog (nilV a0) fun t21_17 =>
 RunA Tryz.prog (Instr.fieldAt 83 t21_17 3) fun t22_18 =>
 RunU Tryz.prog (Instr.storeAt 54 t22_18 t20_16) w fun w =>
 R (.tuple #[]) w)))) w
theorem sh78_calls {a0 a1 : Value} {w : World} {R : Value → World → Prop} (h : sh78 a0 a1 w R) : CallF Tryz.prog 78 #[a0, a1] w R :=
  calls_of_denF (mk := false) (args := [a0, a1]) (an := (.seq (.ops [0, 3]) (.draw (.q 0 (.q 1 (.q 2 (.q 3 (.q 4 (.q 5 (.q 6 (.q 7 (.q 8 (.q 9 (.q 11 (.q 12 (.q 13 (.one 10 (.one 14 (.one 15 (.one 16 (.q 17 (.q 18 (.one 19 .fin)))))))))))))))))))) []))) (c := Tryz.f78.body.getD .skip) hent Tryz.func78 rfl (Nat.le_of_ble_eq_true (by kernel_rfl))
    (Eq.mp (show sh78 a0 a1 w R = denF Tryz.prog ent false Tryz.f78 (.seq (.ops [0, 3]) (.draw (.q 0 (.q 1 (.q 2 (.q 3 (.q 4 (.q 5 (.q 6 (.q 7 (.q 8 (.q 9 (.q 11 (.q 12 (.q 13 (.one 10 (.one 14 (.one 15 (.one 16 (.q 17 (.q 18 (.one 19 .fin)))))))))))))))))))) [])) (Tryz.f78.body.getD .skip) [a0, a1] w R by kernel_rfl) h)
def sh79 (a0 a1 : Value) (w : World) (R : Value → World → Prop) : Prop :=
 CallF Tryz.prog 110 #[a0] w fun t7_1 w =>
 RunA Tryz.prog (nilV a0) fun t10_2 =>
 RunA Tryz.prog (Instr.fieldAt 81 t10_2 1) fun t11_3 =>
 RunW Tryz.prog (Instr.loadAt 31 t11_3) w fun t12_4 =>
 RunV Tryz.prog (Builtin.append_ #[31, 9] 31 #[t12_4, a1]) w fun t14_5 w =>
 RunA Tryz.prog (nilV a0) fun t15_6 =>
 RunA Tryz.prog (Instr.fieldAt 81 t15_6 1) fun t16_7 =>
 RunU Tryz.prog (Instr.storeAt 31 t16_7 t14_5) w fun w =>
 RunW Tryz.prog (Builtin.len_ #[9] 3 #[a1]) w fun t18_8 =>
 R (.tuple #[t18_8, (.nilIface)]) w
theorem sh79_calls {a0 a1 : Value} {w : World} {R : Value → World → Prop} (h : sh79 a0 a1 w R) : CallF Tryz.prog 79 #[a0, a1] w R :=
  calls_of_denF (mk := false) (args := [a0, a1]) (an := (.seq (.ops [0, 1]) (.seq (.ops [0, 1]) (.seq (.ops [1]) (.seq (.ops [4, 5]) .leaf))))) (c := Tryz.f79.body.getD .skip) hent Tryz.func79 rfl (Nat.le_of_ble_eq_true (by kernel_rfl))
    (Eq.mp (show sh79 a0 a1 w R = denF Tryz.prog ent false Tryz.f79 (.seq (.ops [0, 1]) (.seq (.ops [0, 1]) (.seq (.ops [1]) (.seq (.ops [4, 5]) .leaf)))) (Tryz.f79.body.getD .skip) [a0, a1] w R by kernel_rfl) h)
def sh80 (a0 : Value) (w : World) (R : Value → World → Prop) : Prop :=
 CallF Tryz.prog 40 #[a0, (.int .i64 0)] w fun t4_1 w =>
 RunW Tryz.prog (bin .eql 5 (.tmp 4) (.const (.int .u8 38)) t4_1 (.int .u8 38)) w fun t5_2 =>
 IfB t5_2 (
 RunA Tryz.prog (nilV a0) fun t7_3 =>
 RunA Tryz.prog (Instr.fieldAt 83 t7_3 1) fun t8_4 =>
 RunW Tryz.prog (Instr.loadAt 3 t8_4) w fun t9_5 =>
 RunA Tryz.prog (bin .add 3 (.tmp 9) (.const (.int .i64 1)) t9_5 (.int .i64 1)) fun t10_6 =>
 RunA Tryz.prog (nilV a0) fun t11_7 =>
 RunA Tryz.prog (Instr.fieldAt 83 t11_7 1) fun t12_8 =>
 RunU Tryz.prog (Instr.storeAt 3 t12_8 t10_6) w fun w =>
 CallF Tryz.prog 111 #[a0] w fun t14_9 w =>
 R t14_9 w) (
 CallF Tryz.prog 105 #[a0] w fun t16_10 w =>
 R t16_10 w)
theorem sh80_calls {a0 : Value} {w : World} {R : Value → World → Prop} (h : sh80 a0 w R) : CallF Tryz.prog 80 #[a0] w R :=
  calls_of_denF (mk := false) (args := [a0]) (an := (.seq (.ops [0]) (.seq (.seq (.ops [0, 5]) (.cond (.seq (.ops [0]) (.seq (.ops [2]) .leaf)) .leaf)) (.seq (.ops [2]) .leaf)))) (c := Tryz.f80.body.getD .skip) hent Tryz.func80 rfl (Nat.le_of_ble_eq_true (by kernel_rfl))
    (Eq.mp (show sh80 a0 w R = denF Tryz.prog ent false Tryz.f80 (.seq (.ops [0]) (.seq (.seq (.ops [0, 5]) (.cond (.seq (.ops [0]) (.seq (.ops [2]) .leaf)) .leaf)) (.seq (.ops [2]) .leaf))) (Tryz.f80.body.getD .skip) [a0] w R by kernel_rfl) h)
def sh81 (a0 : Value) (w : World) (R : Value → World → Prop) : Prop :=
 CallF Tryz.prog 72 #[a0, (.string ⟨#[60, 33, 45, 45]⟩)] w fun t3_1 w =>
 CallF Tryz.prog 74 #[a0, (.string ⟨#[45, 45]⟩)] w fun t5_2 w =>
 CallF Tryz.prog 72 #[a0, (.string ⟨#[62]⟩)] w fun t7_3 w =>
 R (.tuple #[]) w
theorem sh81_calls {a0 : Value} {w : World} {R : Value → World → Prop} (h : sh81 a0 w R) : CallF Tryz.prog 81 #[a0] w R :=
  calls_of_denF (mk := false) (args := [a0]) (an := (.seq (.ops [0]) (.seq (.ops [0]) (.ops [])))) (c := Tryz.f81.body.getD .skip) hent Tryz.func81 rfl (Nat.le_of_ble_eq_true (by kernel_rfl))
    (Eq.mp (show sh81 a0 w R = denF Tryz.prog ent false Tryz.f81 (.seq (.ops [0]) (.seq (.ops [0]) (.ops []))) (Tryz.f81.body.getD .skip) [a0] w R by kernel_rfl) h)
def sh82 (a0 : Value) (w : World) (R : Value → World → Prop) : Prop :=
 RunA Tryz.prog (nilV a0) fun t4_1 =>
 RunA Tryz.prog (Instr.fieldAt 83 t4_1 5) fun t5_2 =>
 CallF Tryz.prog 112 #[t5_2] w fun t6_3 w =>
 RunA Tryz.prog (nilV a0) fun t8_4 =>
 RunA Tryz.prog (Instr.fieldAt 83 t8_4 5) fun t9_5 =>
 CallF Tryz.prog 113 #[t9_5] w fun t10_6 w =>
 RunW Tryz.prog (Builtin.len_ #[9] 3 #[t6_3]) w fun t13_7 =>
 RunA Tryz.prog (bin .gtr 3 (.tmp 13) (.const (.int .i64 8000)) t13_7 (.int .i64 8000)) fun t14_8 =>
 IfB t14_8 (
 CallF Tryz.prog 41 #[a0, (.int .i64 3)] w fun t16_9 w =>
 R (.tuple #[]) w) (
 RunW Tryz.prog (bin .neq 9 (.tmp 18) (.const (.string ⟨#[]⟩)) t6_3 (.string ⟨#[]⟩)) w fun t19_10 =>
 IfB t19_10 (
 RunA Tryz.prog (nilV a0) fun t22_11 =>
 RunA Tryz.prog (Instr.fieldAt 83 t22_11 3) fun t23_12 =>
 RunW Tryz.prog (Instr.loadAt 54 t23_12) w fun t24_13 =>
 RunV Tryz.prog (Instr.build 88 #[(0, (.int .i64 3)), (3, t6_3)]) w fun t26_14 w =>
 RunV Tryz.prog (Instr.buildSlice 54 1 #[(0, t26_14)]) w fun t27_15 w =>
 RunV Tryz.prog (Builtin.append_ #[54, 54] 54 #[t24_13, t27_15]) w fun t28_16 w =>
 RunA Tryz.prog (nilV a0) fun t29_17 =>
 RunA Tryz.prog (Instr.fieldAt 83 t29_17 3) fun t30_18 =>
 RunU Tryz.prog (Instr.storeAt 54 t30_18 t28_16) w fun w =>
 R (.tuple #[]) w) (
 R (.tuple #[]) w))
theorem sh82_calls {a0 : Value} {w : World} {R : Value → World → Prop} (h : sh82 a0 w R) : CallF Tryz.prog 82 #[a0] w R :=
  calls_of_denF (mk := false) (args := [a0]) (an := (.seq (.ops [0, 2]) (.seq (.ops [0, 2]) (.blk (.seq (.ops [0, 2, 11]) (.cond (.ops []) (.seq (.ops [0, 2, 17]) (.cond (.ops []) .leaf)))))))) (c := Tryz.f82.body.getD .skip) hent Tryz.func82 rfl (Nat.le_of_ble_eq_true (by kernel_rfl))
    (Eq.mp (show sh82 a0 w R = denF Tryz.prog ent false Tryz.f82 (.seq (.ops [0, 2]) (.seq (.ops [0, 2]) (.blk (.seq (.ops [0, 2, 11]) (.cond (.ops []) (.seq (.ops [0, 2, 17]) (.cond (.ops []) .leaf))))))) (Tryz.f82.body.getD .skip) [a0] w R by kernel_rfl) h)
def sh83 (a0 : Value) (w : World) (R : Value → World → Prop) : Prop :=
 RunA Tryz.prog (nilV a0) fun t6_1 =>
 RunA Tryz.prog (Instr.fieldAt 83 t6_1 1) fun t7_2 =>
 RunW Tryz.prog (Instr.loadAt 3 t7_2) w fun t8_3 =>
 RunA Tryz.prog (bin .add 3 (.tmp 8) (.const (.int .i64 2)) t8_3 (.int .i64 2)) fun t9_4 =>
 RunA Tryz.prog (nilV a0) fun t10_5 =>
 RunA Tryz.prog (Instr.fieldAt 83 t10_5 1) fun t11_6 =>
 RunU Tryz.prog (Instr.storeAt 3 t11_6 t9_4) w fun w =>
 RunA Tryz.prog (nilV a0) fun t13_7 =>
 RunA Tryz.prog (Instr.fieldAt 83 t13_7 4) fun t14_8 =>
 RunW Tryz.prog (Instr.loadAt 78 t14_8) w fun t15_9 =>
 RunW Tryz.prog (Builtin.len_ #[78] 3 #[t15_9]) w fun t16_10 =>
 RunA Tryz.prog (bin .sub 3 (.tmp 16) (.const (.int .i64 1)) t16_10 (.int .i64 1)) fun t17_11 =>
 RunA Tryz.prog (nilV a0) fun t19_12 =>
 RunA Tryz.prog (Instr.fieldAt 83 t19_12 4) fun t20_13 =>
 RunW Tryz.prog (Instr.loadAt 78 t20_13) w fun t21_14 =>
 RunA Tryz.prog (Instr.indexAt 78 t21_14 t17_11) fun t23_15 =>
 RunW Tryz.prog (Instr.loadAt 124 t23_15) w fun t24_16 =>
 RunV Tryz.prog (Instr.alloc 124 true (.tuple #[])) w fun t3_17 w =>
 RunU Tryz.prog (Instr.storeAt 124 t3_17 t24_16) w fun w =>
 CallF Tryz.prog 75 #[a0] w fun t26_18 w =>
 RunV Tryz.prog (Instr.alloc 118 true (.tuple #[])) w fun t4_19 w =>
 RunU Tryz.prog (Instr.storeAt 118 t4_19 t26_18) w fun w =>
 jn 3 (fun t0_20 t2_21 t3_22 w =>
 CallF Tryz.prog 73 #[t0_20] w fun t41_24 w =>
 CallF Tryz.prog 72 #[t0_20, (.string ⟨#[62]⟩)] w fun t43_25 w =>
 RunA Tryz.prog (nilV t0_20) fun t45_26 =>
 RunA Tryz.prog (Instr.fieldAt 83 t45_26 2) fun t46_27 =>
 RunW Tryz.prog (Instr.loadAt 28 t46_27) w fun t47_28 =>
 RunW Tryz.prog (bin .eql 28 (.tmp 47) (.const (.int .i64 0)) t47_28 (.int .i64 0)) w fun t48_29 =>
 IfB t48_29 (
 RunW Tryz.prog (Instr.loadAt 124 t3_22) w fun t50_30 =>
 CallF Tryz.prog 78 #[t0_20, t50_30] w fun t51_31 w =>
 RunA Tryz.prog (nilV t0_20) fun t54_32 =>
 RunA Tryz.prog (Instr.fieldAt 83 t54_32 4) fun t55_33 =>
 RunW Tryz.prog (Instr.loadAt 78 t55_33) w fun t56_34 =>
 RunA Tryz.prog (Instr.sliceAt 78 t56_34 none (some t2_21) none) fun t58_35 =>
 RunA Tryz.prog (nilV t0_20) fun t59_36 =>
 RunA Tryz.prog (Instr.fieldAt 83 t59_36 4) fun t60_37 =>
 RunU Tryz.prog (Instr.storeAt 78 t60_37 t58_35) w fun w =>
 R (.tuple #[]) w) (
 R (.tuple #[]) w)) fun j_23 =>
 RunA Tryz.prog (nilV a0) fun t28_38 =>
 RunA Tryz.prog (Instr.fieldAt 83 t28_38 2) fun t29_39 =>
 RunW Tryz.prog (Instr.loadAt 28 t29_39) w fun t30_40 =>
 RunW Tryz.prog (bin .eql 28 (.tmp 30) (.const (.int .i64 0)) t30_40 (.int .i64 0)) w fun t31_41 =>
 IfB t31_41 (
 RunW Tryz.prog (Instr.loadAt 118 t4_19) w fun t33_42 =>
 RunA Tryz.prog (Instr.fieldAt 124 t3_17 0) fun t34_43 =>
 RunW Tryz.prog (Instr.loadAt 118 t34_43) w fun t35_44 =>
 RunW Tryz.prog (bin .neq 118 (.tmp 33) (.tmp 35) t33_42 t35_44) w fun t36_45 =>
 IfB t36_45 (
 CallF Tryz.prog 41 #[a0, (.int .i64 4)] w fun t39_46 w =>
 j_23 a0 t17_11 t3_17 w) (
 j_23 a0 t17_11 t3_17 w)) (
 j_23 a0 t17_11 t3_17 w)
theorem sh83_calls {a0 : Value} {w : World} {R : Value → World → Prop} (h : sh83 a0 w R) : CallF Tryz.prog 83 #[a0] w R :=
  calls_of_denF (mk := false) (args := [a0]) (an := (.seq (.ops [0]) (.seq (.ops [0, 2]) (.seq (.ops [0, 2, 3]) (.seq (.ops [0, 2, 3, 4]) (.seq (.join [0, 2, 3] (.seq (.ops [0, 2, 3, 37]) (.cond (.ops [0, 2, 3]) .leaf))) (.seq (.ops [0, 2, 3]) (.seq (.ops [0, 2, 3]) (.seq (.ops [0, 2, 3, 48]) (.cond (.seq (.ops [0, 2]) (.ops [])) .leaf)))))))))) (c := Tryz.f83.body.getD .skip) hent Tryz.func83 rfl (Nat.le_of_ble_eq_true (by kernel_rfl))
    (Eq.mp (show sh83 a0 w R = denF Tryz.prog ent false Tryz.f83 (.seq (.ops [0]) (.seq (.ops [0, 2]) (.seq (.ops [0, 2, 3]) (.seq (.ops [0, 2, 3, 4]) (.seq (.join [0, 2, 3] (.seq (.ops [0, 2, 3, 37]) (.cond (.ops [0, 2, 3]) .leaf))) (.seq (.ops [0, 2, 3]) (.seq (.ops [0, 2, 3]) (.seq (.ops [0, 2, 3, 48]) (.cond (.seq (.ops [0, 2]) (.ops [])) .leaf))))))))) (Tryz.f83.body.getD .skip) [a0] w R by kernel_rfl) h)
def sh103 (a0 a1 : Value) (w : World) (R : Value → World → Prop) : Prop :=
 RunW Tryz.prog (Builtin.len_ #[9] 3 #[a0]) w fun t6_1 =>
 RunW Tryz.prog (Builtin.len_ #[9] 3 #[a1]) w fun t8_2 =>
 RunA Tryz.prog (bin .geq 3 (.tmp 6) (.tmp 8) t6_1 t8_2) fun t9_3 =>
 IfB t9_3 (
 RunW Tryz.prog (Builtin.len_ #[9] 3 #[a1]) w fun t13_4 =>
 RunA Tryz.prog (Instr.sliceAt 9 a0 none (some t13_4) none) fun t14_5 =>
 RunW Tryz.prog (bin .eql 9 (.tmp 14) (.tmp 15) t14_5 a1) w fun t16_6 =>
 R t16_6 w) (
 R (.bool false) w)
theorem sh103_calls {a0 a1 : Value} {w : World} {R : Value → World → Prop} (h : sh103 a0 a1 w R) : CallF Tryz.prog 103 #[a0, a1] w R :=
  calls_of_denF (mk := false) (args := [a0, a1]) (an := (.seq (.ops [0, 1]) (.seq (.ops [4]) .leaf))) (c := Tryz.f103.body.getD .skip) hent Tryz.func103 rfl (Nat.le_of_ble_eq_true (by kernel_rfl))
    (Eq.mp (show sh103 a0 a1 w R = denF Tryz.prog ent false Tryz.f103 (.seq (.ops [0, 1]) (.seq (.ops [4]) .leaf)) (Tryz.f103.body.getD .skip) [a0, a1] w R by kernel_rfl) h)
def sh104 (a0 a1 : Value) (w : World) (R : Value → World → Prop) : Prop :=
 CallF Tryz.prog 126 #[a0, a1] w fun t7_1 w =>
 R t7_1 w
theorem sh104_calls {a0 a1 : Value} {w : World} {R : Value → World → Prop} (h : sh104 a0 a1 w R) : CallF Tryz.prog 104 #[a0, a1] w R :=
  calls_of_denF (mk := false) (args := [a0, a1]) (an := (.seq (.ops [0, 1]) (.seq (.ops [4]) .leaf))) (c := Tryz.f104.body.getD .skip) hent Tryz.func104 rfl (Nat.le_of_ble_eq_true (by kernel_rfl))
    (Eq.mp (show sh104 a0 a1 w R = denF Tryz.prog ent false Tryz.f104 (.seq (.ops [0, 1]) (.seq (.ops [4]) .leaf)) (Tryz.f104.body.getD .skip) [a0, a1] w R by kernel_rfl) h)
def sh105 (a0 : Value) (w : World) (R : Value → World → Prop) : Prop :=
 CallF Tryz.prog 40 #[a0, (.int .i64 0)] w fun t6_1 w =>
 RunA Tryz.prog (nilV a0) fun t8_2 =>
 RunA Tryz.prog (Instr.fieldAt 83 t8_2 2) fun t9_3 =>
 RunW Tryz.prog (Instr.loadAt 28 t9_3) w fun t10_4 =>
 RunW Tryz.prog (bin .neq 28 (.tmp 10) (.const (.int .i64 0)) t10_4 (.int .i64 0)) w fun t11_5 =>
 IfB t11_5 (
 R (.string ⟨#[]⟩) w) (
 drw (fun S_6 w =>
 RunA Tryz.prog (nilV a0) fun t14_7 =>
 RunA Tryz.prog (Instr.fieldAt 83 t14_7 0) fun t15_8 =>
 RunS Tryz.prog S_6 (Instr.loadAt 9 t15_8) fun t16_9 =>
 RunA Tryz.prog (nilV a0) fun t18_10 =>
 RunA Tryz.prog (Instr.fieldAt 83 t18_10 1) fun t19_11 =>
 RunS Tryz.prog S_6 (Instr.loadAt 3 t19_11) fun t20_12 =>
 RunA Tryz.prog (Instr.sliceAt 9 t16_9 (some t20_12) none none) fun t21_13 =>
 CallF Tryz.prog 92 #[t21_13] w fun t22_14 w =>
 RunA Tryz.prog (Instr.extract t22_14 0) fun t23_15 =>
 RunA Tryz.prog (Instr.extract t22_14 1) fun t24_16 =>
 jn 2 (fun t0_17 t4_18 w =>
 RunA Tryz.prog (nilV t0_17) fun t39_20 =>
 RunA Tryz.prog (Instr.fieldAt 83 t39_20 1) fun t40_21 =>
 RunW Tryz.prog (Instr.loadAt 3 t40_21) w fun t41_22 =>
 RunA Tryz.prog (bin .add 3 (.tmp 41) (.tmp 42) t41_22 t4_18) fun t43_23 =>
 RunA Tryz.prog (nilV t0_17) fun t44_24 =>
 RunA Tryz.prog (Instr.fieldAt 83 t44_24 1) fun t45_25 =>
 RunU Tryz.prog (Instr.storeAt 3 t45_25 t43_23) w fun w =>
 drw (fun S_26 w =>
 RunA Tryz.prog (nilV t0_17) fun t47_27 =>
 RunA Tryz.prog (Instr.fieldAt 83 t47_27 0) fun t48_28 =>
 RunS Tryz.prog S_26 (Instr.loadAt 9 t48_28) fun t49_29 =>
 RunA Tryz.prog (nilV t0_17) fun t51_30 =>
 RunA Tryz.prog (Instr.fieldAt 83 t51_30 1) fun t52_31 =>
 RunS Tryz.prog S_26 (Instr.loadAt 3 t52_31) fun t53_32 =>
 RunA Tryz.prog (bin .sub 3 (.tmp 53) (.tmp 54) t53_32 t4_18) fun t55_33 =>
 RunA Tryz.prog (nilV t0_17) fun t57_34 =>
 RunA Tryz.prog (Instr.fieldAt 83 t57_34 1) fun t58_35 =>
 RunS Tryz.prog S_26 (Instr.loadAt 3 t58_35) fun t59_36 =>
 RunA Tryz.prog (Instr.sliceAt 9 t49_29 (some t55_33) (some t59_36) none) fun t60_37 =>
 R t60_37 w) w) fun j_19 =>
 CallF Tryz.prog 127 #[t23_15] w fun t26_38 w =>
 RunA Tryz.prog (Op.unary .not t26_38) fun t27_39 =>
 IfB t27_39 (
 CallF Tryz.prog 41 #[a0, (.int .i64 4)] w fun t37_40 w =>
 R (.string ⟨#[]⟩) w) (
 RunW Tryz.prog (bin .eql 21 (.tmp 29) (.const (.int .i32 65533)) t23_15 (.int .i32 65533)) w fun t30_41 =>
 IfB t30_41 (
 RunA Tryz.prog (bin .lss 3 (.tmp 32) (.const (.int .i64 2)) t24_16 (.int .i64 2)) fun t33_42 =>
 IfB t33_42 (
 CallF Tryz.prog 41 #[a0, (.int .i64 4)] w fun t37_43 w =>
 R (.string ⟨#[]⟩) w) (
 j_19 a0 t24_16 w)) (
 j_19 a0 t24_16 w))) w)
theorem sh105_calls {a0 : Value} {w : World} {R : Value → World → Prop} (h : sh105 a0 w R) : CallF Tryz.prog 105 #[a0] w R :=
  calls_of_denF (mk := false) (args := [a0]) (an := (.seq (.ops [0]) (.seq (.seq (.ops [0]) (.seq (.ops [0, 11]) (.cond (.seq (.ops [2]) .leaf) .leaf))) (.seq (.draw (.q 0 (.q 1 (.q 2 (.q 3 (.q 4 (.q 5 (.q 6 (.q 7 (.q 8 (.one 9 (.q 10 (.q 11 (.q 12 (.q 13 (.q 14 .fin))))))))))))))) [0, 3, 4]) (.seq (.join [0, 4] (.seq (.ops [0, 4, 35]) (.cond (.seq (.ops []) (.seq (.ops [2]) .leaf)) .leaf))) (.seq (.ops [0, 4]) (.seq (.draw (.q 0 (.q 1 (.q 2 (.q 3 (.q 4 (.q 5 (.q 6 (.q 7 (.q 8 (.q 9 (.q 10 (.q 11 (.q 12 (.q 13 (.q 14 (.q 15 .fin)))))))))))))))) [2]) .leaf))))))) (c := Tryz.f105.body.getD .skip) hent Tryz.func105 rfl (Nat.le_of_ble_eq_true (by kernel_rfl))
    (Eq.mp (show sh105 a0 w R = denF Tryz.prog ent false Tryz.f105 (.seq (.ops [0]) (.seq (.seq (.ops [0]) (.seq (.ops [0, 11]) (.cond (.seq (.ops [2]) .leaf) .leaf))) (.seq (.draw (.q 0 (.q 1 (.q 2 (.q 3 (.q 4 (.q 5 (.q 6 (.q 7 (.q 8 (.one 9 (.q 10 (.q 11 (.q 12 (.q 13 (.q 14 .fin))))))))))))))) [0, 3, 4]) (.seq (.join [0, 4] (.seq (.ops [0, 4, 35]) (.cond (.seq (.ops []) (.seq (.ops [2]) .leaf)) .leaf))) (.seq (.ops [0, 4]) (.seq (.draw (.q 0 (.q 1 (.q 2 (.q 3 (.q 4 (.q 5 (.q 6 (.q 7 (.q 8 (.q 9 (.q 10 (.q 11 (.q 12 (.q 13 (.q 14 (.q 15 .fin)))))))))))))))) [2]) .leaf)))))) (Tryz.f105.body.getD .skip) [a0] w R by kernel_rfl) h)
def sh106 (a0 : Value) (w : World) (R : Value → World → Prop) : Prop :=
 RunA Tryz.prog (nilV a0) fun t6_1 =>
 RunA Tryz.prog (Instr.fieldAt 83 t6_1 1) fun t7_2 =>
 RunW Tryz.prog (Instr.loadAt 3 t7_2) w fun t8_3 =>
 CallF Tryz.prog 40 #[a0, (.int .i64 0)] w fun t10_4 w =>
 jn 2 (fun t0_5 t3_6 w =>
 jn 2 (fun t0_8 t3_9 w =>
 drw (fun S_11 w =>
 RunA Tryz.prog (nilV t0_8) fun t53_12 =>
 RunA Tryz.prog (Instr.fieldAt 83 t53_12 0) fun t54_13 =>
 RunS Tryz.prog S_11 (Instr.loadAt 9 t54_13) fun t55_14 =>
 RunA Tryz.prog (nilV t0_8) fun t58_15 =>
 RunA Tryz.prog (Instr.fieldAt 83 t58_15 1) fun t59_16 =>
 RunS Tryz.prog S_11 (Instr.loadAt 3 t59_16) fun t60_17 =>
 RunA Tryz.prog (Instr.sliceAt 9 t55_14 (some t3_9) (some t60_17) none) fun t61_18 =>
 R t61_18 w) w) fun j_10 =>
 lp 0 (fun n_19 w =>
 drw (fun S_20 w =>
 RunA Tryz.prog (nilV t0_5) fun t24_21 =>
 RunA Tryz.prog (Instr.fieldAt 83 t24_21 1) fun t25_22 =>
 RunS Tryz.prog S_20 (Instr.loadAt 3 t25_22) fun t26_23 =>
 RunA Tryz.prog (nilV t0_5) fun t28_24 =>
 RunA Tryz.prog (Instr.fieldAt 83 t28_24 0) fun t29_25 =>
 RunS Tryz.prog S_20 (Instr.loadAt 9 t29_25) fun t30_26 =>
 RunS Tryz.prog S_20 (Builtin.len_ #[9] 3 #[t30_26]) fun t31_27 =>
 RunA Tryz.prog (bin .lss 3 (.tmp 26) (.tmp 31) t26_23 t31_27) fun t32_28 =>
 IfB t32_28 (
 RunA Tryz.prog (nilV t0_5) fun t35_29 =>
 RunA Tryz.prog (Instr.fieldAt 83 t35_29 0) fun t36_30 =>
 RunS Tryz.prog S_20 (Instr.loadAt 9 t36_30) fun t37_31 =>
 RunA Tryz.prog (nilV t0_5) fun t39_32 =>
 RunA Tryz.prog (Instr.fieldAt 83 t39_32 1) fun t40_33 =>
 RunS Tryz.prog S_20 (Instr.loadAt 3 t40_33) fun t41_34 =>
 RunA Tryz.prog (Instr.index 9 t37_31 t41_34) fun t42_35 =>
 CallF Tryz.prog 128 #[t42_35] w fun t43_36 w =>
 S_20 w ∧ (
 IfB t43_36 (
 RunA Tryz.prog (nilV t0_5) fun t46_37 =>
 RunA Tryz.prog (Instr.fieldAt 83 t46_37 1) fun t47_38 =>
 RunW Tryz.prog (Instr.loadAt 3 t47_38) w fun t48_39 =>
 RunA Tryz.prog (bin .add 3 (.tmp 48) (.const (.int .i64 1)) t48_39 (.int .i64 1)) fun t49_40 =>
 RunA Tryz.prog (nilV t0_5) fun t50_41 =>
 RunA Tryz.prog (Instr.fieldAt 83 t50_41 1) fun t51_42 =>
 RunU Tryz.prog (Instr.storeAt 3 t51_42 t49_40) w fun w =>
 (t0_5 : Value) = t0_5 ∧ ((t3_6 : Value) = t3_6 ∧ (n_19 w))) (
 j_10 t0_5 t3_6 w))) (
 j_10 t0_5 t3_6 w)) w) [] w) fun j_7 =>
 RunA Tryz.prog (nilV a0) fun t12_43 =>
 RunA Tryz.prog (Instr.fieldAt 83 t12_43 2) fun t13_44 =>
 RunW Tryz.prog (Instr.loadAt 28 t13_44) w fun t14_45 =>
 RunW Tryz.prog (bin .eql 28 (.tmp 14) (.const (.int .i64 0)) t14_45 (.int .i64 0)) w fun t15_46 =>
 IfB t15_46 (
 CallF Tryz.prog 42 #[t10_4] w fun t18_47 w =>
 RunA Tryz.prog (Op.unary .not t18_47) fun t19_48 =>
 IfB t19_48 (
 CallF Tryz.prog 41 #[a0, (.int .i64 4)] w fun t22_49 w =>
 j_7 a0 t8_3 w) (
 j_7 a0 t8_3 w)) (
 j_7 a0 t8_3 w)
theorem sh106_calls {a0 : Value} {w : World} {R : Value → World → Prop} (h : sh106 a0 w R) : CallF Tryz.prog 106 #[a0] w R :=
  calls_of_denF (mk := false) (args := [a0]) (an := (.seq (.ops [0]) (.seq (.ops [0, 3]) (.seq (.seq (.ops [0, 3, 4]) (.join [0, 3] (.seq (.ops [0, 3, 20]) (.cond (.ops [0, 3]) .leaf)))) (.seq (.join [0, 3] (.blk (.loop [0, 3] [] (.seq (.seq (.draw (.q 0 (.q 1 (.q 2 (.q 3 (.q 4 (.q 5 (.q 6 (.q 7 (.q 8 (.q 9 (.q 10 (.sp 11 (.q 11 (.q 12 (.q 13 (.q 14 (.q 15 (.q 16 (.q 17 (.q 18 (.q 19 (.one 20 (.q 21 .fin))))))))))) (.q 11 (.q 12 (.q 13 (.q 14 (.q 15 (.q 16 (.q 17 (.q 18 (.q 19 (.q 20 (.q 21 .fin))))))))))))))))))))))) [0, 3, 44]) (.cond .leaf .leaf)) (.blk (.ops [0, 3])))))) (.seq (.draw (.q 0 (.q 1 (.q 2 (.q 3 (.q 4 (.q 5 (.q 6 (.q 7 (.q 8 (.q 9 (.q 10 .fin))))))))))) [2]) .leaf)))))) (c := Tryz.f106.body.getD .skip) hent Tryz.func106 rfl (Nat.le_of_ble_eq_true (by kernel_rfl))
    (Eq.mp (show sh106 a0 w R = denF Tryz.prog ent false Tryz.f106 (.seq (.ops [0]) (.seq (.ops [0, 3]) (.seq (.seq (.ops [0, 3, 4]) (.join [0, 3] (.seq (.ops [0, 3, 20]) (.cond (.ops [0, 3]) .leaf)))) (.seq (.join [0, 3] (.blk (.loop [0, 3] [] (.seq (.seq (.draw (.q 0 (.q 1 (.q 2 (.q 3 (.q 4 (.q 5 (.q 6 (.q 7 (.q 8 (.q 9 (.q 10 (.sp 11 (.q 11 (.q 12 (.q 13 (.q 14 (.q 15 (.q 16 (.q 17 (.q 18 (.q 19 (.one 20 (.q 21 .fin))))))))))) (.q 11 (.q 12 (.q 13 (.q 14 (.q 15 (.q 16 (.q 17 (.q 18 (.q 19 (.q 20 (.q 21 .fin))))))))))))))))))))))) [0, 3, 44]) (.cond .leaf .leaf)) (.blk (.ops [0, 3])))))) (.seq (.draw (.q 0 (.q 1 (.q 2 (.q 3 (.q 4 (.q 5 (.q 6 (.q 7 (.q 8 (.q 9 (.q 10 .fin))))))))))) [2]) .leaf))))) (Tryz.f106.body.getD .skip) [a0] w R by kernel_rfl) h)
def sh107 (a0 a1 : Value) (w : World) (R : Value → World → Prop) : Prop :=
 RunV Tryz.prog (Instr.alloc 154 true (.tuple #[])) w fun t4_1 w =>
 CallF Tryz.prog 75 #[a0] w fun t7_2 w =>
 RunV Tryz.prog (Instr.build 154 #[(0, t7_2)]) w fun t8_3 w =>
 RunV Tryz.prog (Instr.alloc 154 true (.tuple #[])) w fun t5_4 w =>
 RunU Tryz.prog (Instr.storeAt 154 t5_4 t8_3) w fun w =>
 jn 3 (fun t0_5 t4_6 t5_7 w =>
 CallF Tryz.prog 73 #[t0_5] w fun t22_9 w =>
 CallF Tryz.prog 72 #[t0_5, (.string ⟨#[61]⟩)] w fun t24_10 w =>
 CallF Tryz.prog 73 #[t0_5] w fun t26_11 w =>
 jn 2 (fun t4_12 t5_13 w =>
 RunW Tryz.prog (Instr.loadAt 154 t5_13) w fun t35_15 =>
 RunU Tryz.prog (Instr.storeAt 154 t4_12 t35_15) w fun w =>
 RunW Tryz.prog (Instr.loadAt 154 t4_12) w fun t4_16 =>
 R t4_16 w) fun j_14 =>
 RunA Tryz.prog (nilV t0_5) fun t28_17 =>
 RunA Tryz.prog (Instr.fieldAt 83 t28_17 2) fun t29_18 =>
 RunW Tryz.prog (Instr.loadAt 28 t29_18) w fun t30_19 =>
 RunW Tryz.prog (bin .eql 28 (.tmp 30) (.const (.int .i64 0)) t30_19 (.int .i64 0)) w fun t31_20 =>
 IfB t31_20 (
 CallF Tryz.prog 131 #[t0_5] w fun t33_21 w =>
 RunA Tryz.prog (Instr.fieldAt 154 t5_7 1) fun t34_22 =>
 RunU Tryz.prog (Instr.storeAt 9 t34_22 t33_21) w fun w =>
 j_14 t4_6 t5_7 w) (
 j_14 t4_6 t5_7 w)) fun j_8 =>
 RunA Tryz.prog (nilV a0) fun t10_23 =>
 RunA Tryz.prog (Instr.fieldAt 83 t10_23 2) fun t11_24 =>
 RunW Tryz.prog (Instr.loadAt 28 t11_24) w fun t12_25 =>
 RunW Tryz.prog (bin .eql 28 (.tmp 12) (.const (.int .i64 0)) t12_25 (.int .i64 0)) w fun t13_26 =>
 IfB t13_26 (
 RunV Tryz.prog (Instr.makeFunc (Go.Fn.func 130) #[] #[t5_4]) w fun t16_27 w =>
 CallF Tryz.prog 129 #[a1, t16_27] w fun t17_28 w =>
 IfB t17_28 (
 CallF Tryz.prog 41 #[a0, (.int .i64 4)] w fun t20_29 w =>
 j_8 a0 t4_1 t5_4 w) (
 j_8 a0 t4_1 t5_4 w)) (
 j_8 a0 t4_1 t5_4 w)
theorem sh107_calls {a0 a1 : Value} {w : World} {R : Value → World → Prop} (h : sh107 a0 a1 w R) : CallF Tryz.prog 107 #[a0, a1] w R :=
  calls_of_denF (mk := false) (args := [a0, a1]) (an := (.seq (.ops [0, 1, 4]) (.seq (.ops [0, 1, 4, 5]) (.seq (.join [0, 4, 5] (.seq (.ops [0, 4, 5, 18]) (.cond (.ops [0, 4, 5]) .leaf))) (.seq (.ops [0, 4, 5]) (.seq (.ops [0, 4, 5]) (.seq (.ops [0, 4, 5]) (.seq (.join [4, 5] (.seq (.ops [0, 4, 5, 31]) (.cond (.ops [4, 5]) .leaf))) (.seq (.ops [4]) .leaf))))))))) (c := Tryz.f107.body.getD .skip) hent Tryz.func107 rfl (Nat.le_of_ble_eq_true (by kernel_rfl))
    (Eq.mp (show sh107 a0 a1 w R = denF Tryz.prog ent false Tryz.f107 (.seq (.ops [0, 1, 4]) (.seq (.ops [0, 1, 4, 5]) (.seq (.join [0, 4, 5] (.seq (.ops [0, 4, 5, 18]) (.cond (.ops [0, 4, 5]) .leaf))) (.seq (.ops [0, 4, 5]) (.seq (.ops [0, 4, 5]) (.seq (.ops [0, 4, 5]) (.seq (.join [4, 5] (.seq (.ops [0, 4, 5, 31]) (.cond (.ops [4, 5]) .leaf))) (.seq (.ops [4]) .leaf)))))))) (Tryz.f107.body.getD .skip) [a0, a1] w R by kernel_rfl) h)
def sh108 (a0 : Value) (w : World) (R : Value → World → Prop) : Prop :=
 RunV Tryz.prog (Instr.box 154 a0) w fun t1_1 w =>
 jn 1 (fun t1_2 w =>
 drw (fun S_4 w =>
 RunA Tryz.prog (Instr.fieldAt 154 t1_2 0) fun t14_5 =>
 RunA Tryz.prog (Instr.fieldAt 118 t14_5 1) fun t15_6 =>
 RunS Tryz.prog S_4 (Instr.loadAt 9 t15_6) fun t16_7 =>
 RunA Tryz.prog (Instr.fieldAt 154 t1_2 0) fun t17_8 =>
 RunA Tryz.prog (Instr.fieldAt 118 t17_8 0) fun t18_9 =>
 RunS Tryz.prog S_4 (Instr.loadAt 9 t18_9) fun t19_10 =>
 RunS Tryz.prog S_4 (bin .eql 9 (.tmp 19) (.const (.string ⟨#[120, 109, 108, 110, 115]⟩)) t19_10 (.string ⟨#[120, 109, 108, 110, 115]⟩)) fun t20_11 =>
 R (.tuple #[t16_7, t20_11]) w) w) fun j_3 =>
 RunA Tryz.prog (Instr.fieldAt 154 t1_1 0) fun t4_12 =>
 RunA Tryz.prog (Instr.fieldAt 118 t4_12 0) fun t5_13 =>
 RunW Tryz.prog (Instr.loadAt 9 t5_13) w fun t6_14 =>
 RunW Tryz.prog (bin .eql 9 (.tmp 6) (.const (.string ⟨#[]⟩)) t6_14 (.string ⟨#[]⟩)) w fun t7_15 =>
 IfB t7_15 (
 RunA Tryz.prog (Instr.fieldAt 154 t1_1 0) fun t9_16 =>
 RunA Tryz.prog (Instr.fieldAt 118 t9_16 1) fun t10_17 =>
 RunW Tryz.prog (Instr.loadAt 9 t10_17) w fun t11_18 =>
 RunW Tryz.prog (bin .eql 9 (.tmp 11) (.const (.string ⟨#[120, 109, 108, 110, 115]⟩)) t11_18 (.string ⟨#[120, 109, 108, 110, 115]⟩)) w fun t12_19 =>
 IfB t12_19 (
 R (.tuple #[(.string ⟨#[]⟩), (.bool true)]) w) (
 j_3 t1_1 w)) (
 j_3 t1_1 w)
theorem sh108_calls {a0 : Value} {w : World} {R : Value → World → Prop} (h : sh108 a0 w R) : CallF Tryz.prog 108 #[a0] w R :=
  calls_of_denF (mk := false) (args := [a0]) (an := (.seq (.ops [1]) (.seq (.join [1] (.seq (.ops [1, 13]) (.cond (.seq (.ops [2, 3]) .leaf) .leaf))) (.seq (.draw (.q 0 (.q 1 (.q 2 (.q 3 (.q 4 (.q 5 (.q 6 (.q 7 (.q 8 .fin))))))))) [2, 3]) .leaf)))) (c := Tryz.f108.body.getD .skip) hent Tryz.func108 rfl (Nat.le_of_ble_eq_true (by kernel_rfl))
    (Eq.mp (show sh108 a0 w R = denF Tryz.prog ent false Tryz.f108 (.seq (.ops [1]) (.seq (.join [1] (.seq (.ops [1, 13]) (.cond (.seq (.ops [2, 3]) .leaf) .leaf))) (.seq (.draw (.q 0 (.q 1 (.q 2 (.q 3 (.q 4 (.q 5 (.q 6 (.q 7 (.q 8 .fin))))))))) [2, 3]) .leaf))) (Tryz.f108.body.getD .skip) [a0] w R by kernel_rfl) h)
def sh109 (a0 a1 a2 : Value) (w : World) (R : Value → World → Prop) : Prop :=
 RunV Tryz.prog (Instr.box 124 a1) w fun t4_1 w =>
 RunV Tryz.prog (Instr.box 9 a2) w fun t5_2 w =>
 RunV Tryz.prog (Instr.alloc 9 true (.tuple #[])) w fun t6_3 w =>
 RunW Tryz.prog (Instr.loadAt 9 t5_2) w fun t13_4 =>
 RunW Tryz.prog (bin .eql 9 (.tmp 13) (.const (.string ⟨#[120, 109, 108]⟩)) t13_4 (.string ⟨#[120, 109, 108]⟩)) w fun t14_5 =>
 IfB t14_5 (
 RunU Tryz.prog (Instr.storeAt 9 t6_3 (.string ⟨#[120, 109, 108]⟩)) w fun w =>
 RunW Tryz.prog (Instr.loadAt 9 t6_3) w fun t6_6 =>
 R t6_6 w) (
 RunA Tryz.prog (Instr.fieldAt 124 t4_1 1) fun t16_7 =>
 RunW Tryz.prog (Instr.loadAt 122 t16_7) w fun t17_8 =>
 RunW Tryz.prog (Instr.loadAt 9 t5_2) w fun t18_9 =>
 RunV Tryz.prog (Instr.lookup 122 t17_8 t18_9 true) w fun t19_10 w =>
 RunA Tryz.prog (Instr.extract t19_10 0) fun t20_11 =>
 RunA Tryz.prog (Instr.extract t19_10 1) fun t21_12 =>
 IfB t21_12 (
 RunU Tryz.prog (Instr.storeAt 9 t6_3 t20_11) w fun w =>
 RunW Tryz.prog (Instr.loadAt 9 t6_3) w fun t6_13 =>
 R t6_13 w) (
 RunA Tryz.prog (nilV a0) fun t25_14 =>
 RunA Tryz.prog (Instr.fieldAt 83 t25_14 4) fun t26_15 =>
 RunW Tryz.prog (Instr.loadAt 78 t26_15) w fun t27_16 =>
 CallF Tryz.prog 132 #[t27_16] w fun t28_17 w =>
 rngP Tryz.prog none 2 3 (fun l_18 K_19 t29_25 t30_26 w =>
 RunV Tryz.prog (Instr.alloc 124 true (.tuple #[])) w fun t10_30 w =>
 RunU Tryz.prog (Instr.storeAt 124 t10_30 t30_26) w fun w =>
 K_19 t5_2 t6_3 t10_30 w) (fun l_18 kn_20 ks_21 t5_27 t6_28 t10_29 w =>
 RunA Tryz.prog (Instr.fieldAt 124 t10_29 1) fun t32_31 =>
 RunW Tryz.prog (Instr.loadAt 122 t32_31) w fun t33_32 =>
 RunW Tryz.prog (Instr.loadAt 9 t5_27) w fun t34_33 =>
 RunV Tryz.prog (Instr.lookup 122 t33_32 t34_33 true) w fun t35_34 w =>
 RunA Tryz.prog (Instr.extract t35_34 0) fun t36_35 =>
 RunA Tryz.prog (Instr.extract t35_34 1) fun t37_36 =>
 IfB t37_36 (
 RunU Tryz.prog (Instr.storeAt 9 t6_28 t36_35) w fun w =>
 ks_21 .ret w) (
 kn_20 w)) t28_17 w (fun D_22 w =>
 jn 1 (fun t6_37 w =>
 RunU Tryz.prog (Instr.storeAt 9 t6_37 (.string ⟨#[]⟩)) w fun w =>
 (w).heap[D_22]? = some (.deferred (some [])) ∧ (
 RunW Tryz.prog (Instr.loadAt 9 t6_37) (w.putObj D_22 (.deferred none)) fun t6_39 =>
 R t6_39 (w.putObj D_22 (.deferred none)))) fun j_38 =>
 RunW Tryz.prog (Instr.loadAt 9 t5_2) w fun t40_40 =>
 RunW Tryz.prog (bin .neq 9 (.tmp 40) (.const (.string ⟨#[]⟩)) t40_40 (.string ⟨#[]⟩)) w fun t41_41 =>
 IfB t41_41 (
 CallF Tryz.prog 41 #[a0, (.int .i64 4)] w fun t43_42 w =>
 ([D_22] : List Nat) = [D_22] ∧ (j_38 t6_3 w)) (
 ([D_22] : List Nat) = [D_22] ∧ (j_38 t6_3 w))) (fun D_22 c_23 w => jumpK (fun i_24 w =>
 bif Nat.beq i_24 0 then (
 jn 1 (fun t6_43 w =>
 RunU Tryz.prog (Instr.storeAt 9 t6_43 (.string ⟨#[]⟩)) w fun w =>
 (w).heap[D_22]? = some (.deferred (some [])) ∧ (
 RunW Tryz.prog (Instr.loadAt 9 t6_43) (w.putObj D_22 (.deferred none)) fun t6_45 =>
 R t6_45 (w.putObj D_22 (.deferred none)))) fun j_44 =>
 RunW Tryz.prog (Instr.loadAt 9 t5_2) w fun t40_46 =>
 RunW Tryz.prog (bin .neq 9 (.tmp 40) (.const (.string ⟨#[]⟩)) t40_46 (.string ⟨#[]⟩)) w fun t41_47 =>
 IfB t41_47 (
 CallF Tryz.prog 41 #[a0, (.int .i64 4)] w fun t43_48 w =>
 ([D_22] : List Nat) = [D_22] ∧ (j_44 t6_3 w)) (
 ([D_22] : List Nat) = [D_22] ∧ (j_44 t6_3 w))) else (
 False)) (fun w =>
 (w).heap[D_22]? = some (.deferred (some [])) ∧ (
 RunW Tryz.prog (Instr.loadAt 9 t6_3) (w.putObj D_22 (.deferred none)) fun t6_49 =>
 R t6_49 (w.putObj D_22 (.deferred none)))) c_23 w)))
theorem sh109_calls {a0 a1 a2 : Value} {w : World} {R : Value → World → Prop} (h : sh109 a0 a1 a2 w R) : CallF Tryz.prog 109 #[a0, a1, a2] w R :=
  calls_of_denF (mk := true) (args := [a0, a1, a2]) (an := (.seq (.ops [0, 4, 5, 6]) (.seq (.seq (.ops [0, 4, 5, 6, 14]) (.cond (.seq (.ops [6]) .leaf) .leaf)) (.seq (.seq (.ops [0, 5, 6, 7, 8]) (.seq (.ops [0, 5, 6, 7, 22]) (.cond (.seq (.ops [6]) .leaf) .leaf))) (.seq (.seq (.ops [0, 5, 6, 28]) (.blk (.rng [5, 6, 10] (.ops [5, 6, 10]) (.blk (.seq (.ops [6, 11, 12]) (.seq (.ops [6, 11, 38]) (.cond (.seq (.ops []) .leaf) .leaf))))))) (.seq (.join [6] (.seq (.ops [0, 6, 41]) (.cond (.ops [6]) .leaf))) (.seq (.ops [6]) .leaf))))))) (c := Tryz.f109.body.getD .skip) hent Tryz.func109 rfl (Nat.le_of_ble_eq_true (by kernel_rfl))
    (Eq.mp (show sh109 a0 a1 a2 w R = denF Tryz.prog ent true Tryz.f109 (.seq (.ops [0, 4, 5, 6]) (.seq (.seq (.ops [0, 4, 5, 6, 14]) (.cond (.seq (.ops [6]) .leaf) .leaf)) (.seq (.seq (.ops [0, 5, 6, 7, 8]) (.seq (.ops [0, 5, 6, 7, 22]) (.cond (.seq (.ops [6]) .leaf) .leaf))) (.seq (.seq (.ops [0, 5, 6, 28]) (.blk (.rng [5, 6, 10] (.ops [5, 6, 10]) (.blk (.seq (.ops [6, 11, 12]) (.seq (.ops [6, 11, 38]) (.cond (.seq (.ops []) .leaf) .leaf))))))) (.seq (.join [6] (.seq (.ops [0, 6, 41]) (.cond (.ops [6]) .leaf))) (.seq (.ops [6]) .leaf)))))) (Tryz.f109.body.getD .skip) [a0, a1, a2] w R by kernel_rfl) h)
def sh110 (a0 : Value) (w : World) (R : Value → World → Prop) : Prop :=
 RunA Tryz.prog (nilV a0) fun t3_1 =>
 RunA Tryz.prog (Instr.fieldAt 81 t3_1 0) fun t4_2 =>
 RunW Tryz.prog (Instr.loadAt 79 t4_2) w fun t5_3 =>
 RunW Tryz.prog (bin .eql 79 (.tmp 5) (.const (.pointer none)) t5_3 (.pointer none)) w fun t6_4 =>
 IfB t6_4 (
 RunV Tryz.prog (convert 79 169 a0) w fun t9_5 w =>
 RunO Tryz.prog (callFunc 133 #[t9_5]) w fun t10_6 w =>
 RunV Tryz.prog (convert 169 79 t10_6) w fun t11_7 w =>
 RunA Tryz.prog (nilV a0) fun t12_8 =>
 RunA Tryz.prog (Instr.fieldAt 81 t12_8 0) fun t13_9 =>
 RunU Tryz.prog (Instr.storeAt 79 t13_9 t11_7) w fun w =>
 R (.tuple #[]) w) (
 RunA Tryz.prog (nilV a0) fun t15_10 =>
 RunA Tryz.prog (Instr.fieldAt 81 t15_10 0) fun t16_11 =>
 RunW Tryz.prog (Instr.loadAt 79 t16_11) w fun t17_12 =>
 RunW Tryz.prog (bin .neq 79 (.tmp 17) (.tmp 18) t17_12 a0) w fun t19_13 =>
 IfB t19_13 (
 False) (
 R (.tuple #[]) w))
theorem sh110_calls {a0 : Value} {w : World} {R : Value → World → Prop} (h : sh110 a0 w R) : CallF Tryz.prog 110 #[a0] w R :=
  calls_of_denF (mk := false) (args := [a0]) (an := (.seq (.ops [0, 6]) (.cond (.ops []) (.seq (.ops [19]) (.cond .leaf .leaf))))) (c := Tryz.f110.body.getD .skip) hent Tryz.func110 rfl (Nat.le_of_ble_eq_true (by kernel_rfl))
    (Eq.mp (show sh110 a0 w R = denF Tryz.prog ent false Tryz.f110 (.seq (.ops [0, 6]) (.cond (.ops []) (.seq (.ops [19]) (.cond .leaf .leaf)))) (Tryz.f110.body.getD .skip) [a0] w R by kernel_rfl) h)
def sh111 (a0 : Value) (w : World) (R : Value → World → Prop) : Prop :=
 RunV Tryz.prog (Instr.buildSlice 22 5 #[(0, (.string ⟨#[108, 116, 59]⟩)), (1, (.string ⟨#[103, 116, 59]⟩)), (2, (.string ⟨#[97, 109, 112, 59]⟩)), (3, (.string ⟨#[113, 117, 111, 116, 59]⟩)), (4, (.string ⟨#[97, 112, 111, 115, 59]⟩))]) w fun t9_1 w =>
 RunV Tryz.prog (Instr.buildSlice 22 5 #[(0, (.string ⟨#[60]⟩)), (1, (.string ⟨#[62]⟩)), (2, (.string ⟨#[38]⟩)), (3, (.string ⟨#[34]⟩)), (4, (.string ⟨#[39]⟩))]) w fun t10_2 w =>
 drw (fun S_3 w =>
 RunA Tryz.prog (nilV a0) fun t12_4 =>
 RunA Tryz.prog (Instr.fieldAt 83 t12_4 0) fun t13_5 =>
 RunS Tryz.prog S_3 (Instr.loadAt 9 t13_5) fun t14_6 =>
 RunA Tryz.prog (nilV a0) fun t16_7 =>
 RunA Tryz.prog (Instr.fieldAt 83 t16_7 1) fun t17_8 =>
 RunS Tryz.prog S_3 (Instr.loadAt 3 t17_8) fun t18_9 =>
 RunA Tryz.prog (Instr.sliceAt 9 t14_6 (some t18_9) none none) fun t19_10 =>
 CallF Tryz.prog 71 #[t19_10, (.string ⟨#[35]⟩)] w fun t21_11 w =>
 IfB t21_11 (
 RunA Tryz.prog (nilV a0) fun t23_12 =>
 RunA Tryz.prog (Instr.fieldAt 83 t23_12 1) fun t24_13 =>
 RunW Tryz.prog (Instr.loadAt 3 t24_13) w fun t25_14 =>
 RunA Tryz.prog (bin .add 3 (.tmp 25) (.const (.int .i64 1)) t25_14 (.int .i64 1)) fun t26_15 =>
 RunA Tryz.prog (nilV a0) fun t27_16 =>
 RunA Tryz.prog (Instr.fieldAt 83 t27_16 1) fun t28_17 =>
 RunU Tryz.prog (Instr.storeAt 3 t28_17 t26_15) w fun w =>
 CallF Tryz.prog 134 #[a0] w fun t30_18 w =>
 R t30_18 w) (
 RunW Tryz.prog (Builtin.len_ #[22] 3 #[t9_1]) w fun t32_19 =>
 lp 2 (fun n_22 t6_20 t33_21 w =>
 RunA Tryz.prog (bin .lss 3 (.tmp 33) (.tmp 32) t33_21 t32_19) fun t34_23 =>
 IfB t34_23 (
 RunA Tryz.prog (Instr.indexAt 22 t9_1 t33_21) fun t36_24 =>
 RunW Tryz.prog (Instr.loadAt 9 t36_24) w fun t37_25 =>
 CallF Tryz.prog 71 #[t19_10, t37_25] w fun t40_26 w =>
 IfB t40_26 (
 RunA Tryz.prog (nilV a0) fun t42_27 =>
 RunA Tryz.prog (Instr.fieldAt 83 t42_27 1) fun t43_28 =>
 RunW Tryz.prog (Instr.loadAt 3 t43_28) w fun t44_29 =>
 RunW Tryz.prog (Builtin.len_ #[9] 3 #[t37_25]) w fun t46_30 =>
 RunA Tryz.prog (bin .add 3 (.tmp 44) (.tmp 46) t44_29 t46_30) fun t47_31 =>
 RunA Tryz.prog (nilV a0) fun t48_32 =>
 RunA Tryz.prog (Instr.fieldAt 83 t48_32 1) fun t49_33 =>
 RunU Tryz.prog (Instr.storeAt 3 t49_33 t47_31) w fun w =>
 RunA Tryz.prog (Instr.indexAt 22 t10_2 t33_21) fun t52_34 =>
 RunW Tryz.prog (Instr.loadAt 9 t52_34) w fun t53_35 =>
 R t53_35 w) (
 jn 7 (fun t0_36 t4_37 t5_38 t6_39 t31_40 t32_41 t33_42 w =>
 RunA Tryz.prog (bin .add 3 (.tmp 33) (.const (.int .i64 1)) t33_42 (.int .i64 1)) fun t60_44 =>
 (t0_36 : Value) = a0 ∧ ((t4_37 : Value) = t10_2 ∧ ((t5_38 : Value) = t19_10 ∧ ((t31_40 : Value) = t9_1 ∧ ((t32_41 : Value) = t32_19 ∧ (n_22 t6_39 t60_44 w)))))) fun j_43 =>
 IfB t6_20 (
 j_43 a0 t10_2 t19_10 (.bool true) t9_1 t32_19 t33_21 w) (
 CallF Tryz.prog 71 #[t37_25, t19_10] w fun t58_45 w =>
 j_43 a0 t10_2 t19_10 t58_45 t9_1 t32_19 t33_21 w))) (
 jn 1 (fun t0_46 w =>
 CallF Tryz.prog 41 #[t0_46, (.int .i64 4)] w fun t65_48 w =>
 R (.string ⟨#[]⟩) w) fun j_47 =>
 IfB t6_20 (
 CallF Tryz.prog 41 #[a0, (.int .i64 2)] w fun t63_49 w =>
 j_47 a0 w) (
 j_47 a0 w))) [(.bool false), (.int .i64 0)] w)) w
theorem sh111_calls {a0 : Value} {w : World} {R : Value → World → Prop} (h : sh111 a0 w R) : CallF Tryz.prog 111 #[a0] w R :=
  calls_of_denF (mk := false) (args := [a0]) (an := (.seq (.ops [0]) (.seq (.ops [0, 3]) (.seq (.ops [0, 3, 4]) (.seq (.draw (.q 0 (.q 1 (.q 2 (.q 3 (.q 4 (.q 5 (.q 6 (.q 7 (.q 8 (.q 9 .fin)))))))))) [0, 3, 4, 5]) (.seq (.seq (.ops [0, 3, 4, 5, 21]) (.cond (.seq (.ops [0]) (.seq (.ops [2]) .leaf)) .leaf)) (.seq (.ops [0, 3, 4, 5, 6]) (.seq (.seq (.ops [0, 4, 5, 6, 31, 32, 33]) (.blk (.loop [0, 4, 5, 31, 32] [6, 33] (.seq (.ops [0, 4, 5, 6, 31, 32, 33, 34]) (.seq (.cond .leaf .leaf) (.seq (.blk (.seq (.ops [0, 4, 5, 6, 7, 8, 31, 32, 33]) (.seq (.seq (.ops [0, 4, 5, 6, 7, 8, 31, 32, 33, 40]) (.cond (.seq (.ops [4, 7]) (.seq (.ops [2]) .leaf)) .leaf)) (.join [0, 4, 5, 6, 31, 32, 33] (.ops [0, 4, 5, 6, 31, 32, 33]))))) (.ops [0, 4, 5, 6, 31, 32, 33]))))))) (.seq (.join [0] (.seq (.ops [0, 61]) (.cond (.ops [0]) .leaf))) (.seq (.ops []) (.seq (.ops [2]) .leaf))))))))))) (c := Tryz.f111.body.getD .skip) hent Tryz.func111 rfl (Nat.le_of_ble_eq_true (by kernel_rfl))
    (Eq.mp (show sh111 a0 w R = denF Tryz.prog ent false Tryz.f111 (.seq (.ops [0]) (.seq (.ops [0, 3]) (.seq (.ops [0, 3, 4]) (.seq (.draw (.q 0 (.q 1 (.q 2 (.q 3 (.q 4 (.q 5 (.q 6 (.q 7 (.q 8 (.q 9 .fin)))))))))) [0, 3, 4, 5]) (.seq (.seq (.ops [0, 3, 4, 5, 21]) (.cond (.seq (.ops [0]) (.seq (.ops [2]) .leaf)) .leaf)) (.seq (.ops [0, 3, 4, 5, 6]) (.seq (.seq (.ops [0, 4, 5, 6, 31, 32, 33]) (.blk (.loop [0, 4, 5, 31, 32] [6, 33] (.seq (.ops [0, 4, 5, 6, 31, 32, 33, 34]) (.seq (.cond .leaf .leaf) (.seq (.blk (.seq (.ops [0, 4, 5, 6, 7, 8, 31, 32, 33]) (.seq (.seq (.ops [0, 4, 5, 6, 7, 8, 31, 32, 33, 40]) (.cond (.seq (.ops [4, 7]) (.seq (.ops [2]) .leaf)) .leaf)) (.join [0, 4, 5, 6, 31, 32, 33] (.ops [0, 4, 5, 6, 31, 32, 33]))))) (.ops [0, 4, 5, 6, 31, 32, 33]))))))) (.seq (.join [0] (.seq (.ops [0, 61]) (.cond (.ops [0]) .leaf))) (.seq (.ops []) (.seq (.ops [2]) .leaf)))))))))) (Tryz.f111.body.getD .skip) [a0] w R by kernel_rfl) h)
def sh112 (a0 : Value) (w : World) (R : Value → World → Prop) : Prop :=
 drw (fun S_1 w =>
 RunA Tryz.prog (nilV a0) fun t4_2 =>
 RunA Tryz.prog (Instr.fieldAt 81 t4_2 1) fun t5_3 =>
 RunS Tryz.prog S_1 (Instr.loadAt 31 t5_3) fun t6_4 =>
 RunA Tryz.prog (nilV a0) fun t9_5 =>
 RunA Tryz.prog (Instr.fieldAt 81 t9_5 1) fun t10_6 =>
 RunS Tryz.prog S_1 (Instr.loadAt 31 t10_6) fun t11_7 =>
 RunS Tryz.prog S_1 (Builtin.len_ #[31] 3 #[t11_7]) fun t12_8 =>
 RunV Tryz.prog (Builtin.unsafeSliceData_ #[31] 171 #[t6_4]) w fun t7_9 w =>
 S_1 w ∧ (
 RunV Tryz.prog (Builtin.unsafeString_ #[171, 3] 9 #[t7_9, t12_8]) w fun t13_10 w =>
 R t13_10 w)) w
theorem sh112_calls {a0 : Value} {w : World} {R : Value → World → Prop} (h : sh112 a0 w R) : CallF Tryz.prog 112 #[a0] w R :=
  calls_of_denF (mk := false) (args := [a0]) (an := (.seq (.ops [0]) (.seq (.draw (.q 0 (.q 1 (.q 2 (.q 3 (.q 5 (.q 6 (.q 7 (.q 8 (.q 9 (.one 4 (.one 10 (.q 11 .fin)))))))))))) [2]) .leaf))) (c := Tryz.f112.body.getD .skip) hent Tryz.func112 rfl (Nat.le_of_ble_eq_true (by kernel_rfl))
    (Eq.mp (show sh112 a0 w R = denF Tryz.prog ent false Tryz.f112 (.seq (.ops [0]) (.seq (.draw (.q 0 (.q 1 (.q 2 (.q 3 (.q 5 (.q 6 (.q 7 (.q 8 (.q 9 (.one 4 (.one 10 (.q 11 .fin)))))))))))) [2]) .leaf)) (Tryz.f112.body.getD .skip) [a0] w R by kernel_rfl) h)
def sh113 (a0 : Value) (w : World) (R : Value → World → Prop) : Prop :=
 RunA Tryz.prog (nilV a0) fun t3_1 =>
 RunA Tryz.prog (Instr.fieldAt 81 t3_1 0) fun t4_2 =>
 RunU Tryz.prog (Instr.storeAt 79 t4_2 (.pointer none)) w fun w =>
 RunA Tryz.prog (nilV a0) fun t6_3 =>
 RunA Tryz.prog (Instr.fieldAt 81 t6_3 1) fun t7_4 =>
 RunU Tryz.prog (Instr.storeAt 31 t7_4 (.slice none 0 0)) w fun w =>
 R (.tuple #[]) w
theorem sh113_calls {a0 : Value} {w : World} {R : Value → World → Prop} (h : sh113 a0 w R) : CallF Tryz.prog 113 #[a0] w R :=
  calls_of_denF (mk := false) (args := [a0]) (an := (.seq (.ops [0]) (.ops []))) (c := Tryz.f113.body.getD .skip) hent Tryz.func113 rfl (Nat.le_of_ble_eq_true (by kernel_rfl))
    (Eq.mp (show sh113 a0 w R = denF Tryz.prog ent false Tryz.f113 (.seq (.ops [0]) (.ops [])) (Tryz.f113.body.getD .skip) [a0] w R by kernel_rfl) h)
def sh126 (a0 a1 : Value) (w : World) (R : Value → World → Prop) : Prop :=
 RunO Tryz.prog (callFunc 153 #[a0, a1]) w fun t7_1 w =>
 R t7_1 w
theorem sh126_calls {a0 a1 : Value} {w : World} {R : Value → World → Prop} (h : sh126 a0 a1 w R) : CallF Tryz.prog 126 #[a0, a1] w R :=
  calls_of_denF (mk := false) (args := [a0, a1]) (an := (.seq (.ops [0, 1]) (.seq (.ops [4]) .leaf))) (c := Tryz.f126.body.getD .skip) hent Tryz.func126 rfl (Nat.le_of_ble_eq_true (by kernel_rfl))
    (Eq.mp (show sh126 a0 a1 w R = denF Tryz.prog ent false Tryz.f126 (.seq (.ops [0, 1]) (.seq (.ops [4]) .leaf)) (Tryz.f126.body.getD .skip) [a0, a1] w R by kernel_rfl) h)
def sh127 (a0 : Value) (w : World) (R : Value → World → Prop) : Prop :=
 RunA Tryz.prog (bin .geq 21 (.tmp 3) (.const (.int .i32 32)) a0 (.int .i32 32)) fun t4_1 =>
 IfB t4_1 (
 R (.bool true) w) (
 RunW Tryz.prog (bin .eql 21 (.tmp 6) (.const (.int .i32 9)) a0 (.int .i32 9)) w fun t7_2 =>
 IfB t7_2 (
 R (.bool true) w) (
 RunW Tryz.prog (bin .eql 21 (.tmp 10) (.const (.int .i32 10)) a0 (.int .i32 10)) w fun t11_3 =>
 IfB t11_3 (
 R (.bool true) w) (
 RunW Tryz.prog (bin .eql 21 (.tmp 14) (.const (.int .i32 13)) a0 (.int .i32 13)) w fun t15_4 =>
 R t15_4 w)))
theorem sh127_calls {a0 : Value} {w : World} {R : Value → World → Prop} (h : sh127 a0 w R) : CallF Tryz.prog 127 #[a0] w R :=
  calls_of_denF (mk := false) (args := [a0]) (an := (.seq (.ops [0]) (.seq (.ops [2]) .leaf))) (c := Tryz.f127.body.getD .skip) hent Tryz.func127 rfl (Nat.le_of_ble_eq_true (by kernel_rfl))
    (Eq.mp (show sh127 a0 w R = denF Tryz.prog ent false Tryz.f127 (.seq (.ops [0]) (.seq (.ops [2]) .leaf)) (Tryz.f127.body.getD .skip) [a0] w R by kernel_rfl) h)
def sh128 (a0 : Value) (w : World) (R : Value → World → Prop) : Prop :=
 CallF Tryz.prog 42 #[a0] w fun t4_1 w =>
 IfB t4_1 (
 R (.bool true) w) (
 RunA Tryz.prog (bin .geq 5 (.tmp 6) (.const (.int .u8 48)) a0 (.int .u8 48)) fun t7_2 =>
 IfB t7_2 (
 RunA Tryz.prog (bin .leq 5 (.tmp 9) (.const (.int .u8 57)) a0 (.int .u8 57)) fun t10_3 =>
 IfB t10_3 (
 R (.bool true) w) (
 RunW Tryz.prog (bin .eql 5 (.tmp 14) (.const (.int .u8 45)) a0 (.int .u8 45)) w fun t15_4 =>
 IfB t15_4 (
 R (.bool true) w) (
 RunW Tryz.prog (bin .eql 5 (.tmp 18) (.const (.int .u8 46)) a0 (.int .u8 46)) w fun t19_5 =>
 R t19_5 w))) (
 RunW Tryz.prog (bin .eql 5 (.tmp 14) (.const (.int .u8 45)) a0 (.int .u8 45)) w fun t15_6 =>
 IfB t15_6 (
 R (.bool true) w) (
 RunW Tryz.prog (bin .eql 5 (.tmp 18) (.const (.int .u8 46)) a0 (.int .u8 46)) w fun t19_7 =>
 R t19_7 w)))
theorem sh128_calls {a0 : Value} {w : World} {R : Value → World → Prop} (h : sh128 a0 w R) : CallF Tryz.prog 128 #[a0] w R :=
  calls_of_denF (mk := false) (args := [a0]) (an := (.seq (.ops [0]) (.seq (.ops [2]) .leaf))) (c := Tryz.f128.body.getD .skip) hent Tryz.func128 rfl (Nat.le_of_ble_eq_true (by kernel_rfl))
    (Eq.mp (show sh128 a0 w R = denF Tryz.prog ent false Tryz.f128 (.seq (.ops [0]) (.seq (.ops [2]) .leaf)) (Tryz.f128.body.getD .skip) [a0] w R by kernel_rfl) h)
def sh129 (a0 a1 : Value) (w : World) (R : Value → World → Prop) : Prop :=
 CallF Tryz.prog 154 #[a0, a1] w fun t7_1 w =>
 RunA Tryz.prog (bin .geq 3 (.tmp 7) (.const (.int .i64 0)) t7_1 (.int .i64 0)) fun t8_2 =>
 R t8_2 w
theorem sh129_calls {a0 a1 : Value} {w : World} {R : Value → World → Prop} (h : sh129 a0 a1 w R) : CallF Tryz.prog 129 #[a0, a1] w R :=
  calls_of_denF (mk := false) (args := [a0, a1]) (an := (.seq (.ops [0, 1]) (.seq (.ops [4]) .leaf))) (c := Tryz.f129.body.getD .skip) hent Tryz.func129 rfl (Nat.le_of_ble_eq_true (by kernel_rfl))
    (Eq.mp (show sh129 a0 a1 w R = denF Tryz.prog ent false Tryz.f129 (.seq (.ops [0, 1]) (.seq (.ops [4]) .leaf)) (Tryz.f129.body.getD .skip) [a0, a1] w R by kernel_rfl) h)
def sh130 (a0 a1 : Value) (w : World) (R : Value → World → Prop) : Prop :=
 RunV Tryz.prog (Instr.box 154 a0) w fun t2_1 w =>
 RunA Tryz.prog (Instr.fieldAt 154 t2_1 0) fun t4_2 =>
 RunW Tryz.prog (Instr.loadAt 118 t4_2) w fun t5_3 =>
 RunA Tryz.prog (Instr.fieldAt 154 a1 0) fun t6_4 =>
 RunW Tryz.prog (Instr.loadAt 118 t6_4) w fun t7_5 =>
 RunW Tryz.prog (bin .eql 118 (.tmp 5) (.tmp 7) t5_3 t7_5) w fun t8_6 =>
 R t8_6 w
theorem sh130_calls {a0 a1 : Value} {w : World} {R : Value → World → Prop} (h : sh130 a0 a1 w R) : CallF Tryz.prog 130 #[a0, a1] w R :=
  calls_of_denF (mk := false) (args := [a0, a1]) (an := (.seq (.ops [1, 2]) (.seq (.ops [3]) .leaf))) (c := Tryz.f130.body.getD .skip) hent Tryz.func130 rfl (Nat.le_of_ble_eq_true (by kernel_rfl))
    (Eq.mp (show sh130 a0 a1 w R = denF Tryz.prog ent false Tryz.f130 (.seq (.ops [1, 2]) (.seq (.ops [3]) .leaf)) (Tryz.f130.body.getD .skip) [a0, a1] w R by kernel_rfl) h)
def sh131 (a0 : Value) (w : World) (R : Value → World → Prop) : Prop :=
 CallF Tryz.prog 40 #[a0, (.int .i64 0)] w fun t7_1 w =>
 jn 2 (fun t0_2 t3_3 w =>
 RunA Tryz.prog (nilV t0_2) fun t24_5 =>
 RunA Tryz.prog (Instr.fieldAt 83 t24_5 1) fun t25_6 =>
 RunW Tryz.prog (Instr.loadAt 3 t25_6) w fun t26_7 =>
 RunA Tryz.prog (bin .add 3 (.tmp 26) (.const (.int .i64 1)) t26_7 (.int .i64 1)) fun t27_8 =>
 RunA Tryz.prog (nilV t0_2) fun t28_9 =>
 RunA Tryz.prog (Instr.fieldAt 83 t28_9 1) fun t29_10 =>
 RunU Tryz.prog (Instr.storeAt 3 t29_10 t27_8) w fun w =>
 RunV Tryz.prog (Instr.alloc 81 true (.tuple #[])) w fun t4_11 w =>
 lp 0 (fun n_12 w =>
 RunA Tryz.prog (nilV t0_2) fun t31_13 =>
 RunA Tryz.prog (Instr.fieldAt 83 t31_13 2) fun t32_14 =>
 RunW Tryz.prog (Instr.loadAt 28 t32_14) w fun t33_15 =>
 RunW Tryz.prog (bin .eql 28 (.tmp 33) (.const (.int .i64 0)) t33_15 (.int .i64 0)) w fun t34_16 =>
 IfB t34_16 (
 CallF Tryz.prog 40 #[t0_2, (.int .i64 0)] w fun t36_17 w =>
 jn 3 (fun t0_18 t3_19 t4_20 w =>
 (t0_18 : Value) = t0_2 ∧ ((t3_19 : Value) = t3_3 ∧ ((t4_20 : Value) = t4_11 ∧ (n_12 w)))) fun j_21 =>
 RunA Tryz.prog (nilV t0_2) fun t42_22 =>
 RunA Tryz.prog (Instr.fieldAt 83 t42_22 2) fun t43_23 =>
 RunW Tryz.prog (Instr.loadAt 28 t43_23) w fun t44_24 =>
 RunW Tryz.prog (bin .neq 28 (.tmp 44) (.const (.int .i64 0)) t44_24 (.int .i64 0)) w fun t45_25 =>
 IfB t45_25 (
 j_21 t0_2 t3_3 t4_11 w) (
 RunW Tryz.prog (bin .eql 5 (.tmp 47) (.tmp 48) t36_17 t3_3) w fun t49_26 =>
 IfB t49_26 (
 RunA Tryz.prog (nilV t0_2) fun t51_27 =>
 RunA Tryz.prog (Instr.fieldAt 83 t51_27 1) fun t52_28 =>
 RunW Tryz.prog (Instr.loadAt 3 t52_28) w fun t53_29 =>
 RunA Tryz.prog (bin .add 3 (.tmp 53) (.const (.int .i64 1)) t53_29 (.int .i64 1)) fun t54_30 =>
 RunA Tryz.prog (nilV t0_2) fun t55_31 =>
 RunA Tryz.prog (Instr.fieldAt 83 t55_31 1) fun t56_32 =>
 RunU Tryz.prog (Instr.storeAt 3 t56_32 t54_30) w fun w =>
 jn 1 (fun t4_33 w =>
 CallF Tryz.prog 112 #[t4_33] w fun t61_35 w =>
 R t61_35 w) fun j_34 =>
 CallF Tryz.prog 155 #[t4_11] w fun t57_36 w =>
 RunA Tryz.prog (bin .gtr 3 (.tmp 57) (.const (.int .i64 8000)) t57_36 (.int .i64 8000)) fun t58_37 =>
 IfB t58_37 (
 CallF Tryz.prog 41 #[t0_2, (.int .i64 3)] w fun t60_38 w =>
 j_34 t4_11 w) (
 j_34 t4_11 w)) (
 jn 3 (fun t0_39 t3_40 t4_41 w =>
 j_21 t0_39 t3_40 t4_41 w) fun j_42 =>
 RunW Tryz.prog (bin .eql 5 (.tmp 63) (.const (.int .u8 60)) t36_17 (.int .u8 60)) w fun t64_43 =>
 IfB t64_43 (
 CallF Tryz.prog 41 #[t0_2, (.int .i64 4)] w fun t66_44 w =>
 j_42 t0_2 t3_3 t4_11 w) (
 CallF Tryz.prog 80 #[t0_2] w fun t38_45 w =>
 CallF Tryz.prog 79 #[t4_11, t38_45] w fun t39_46 w =>
 j_42 t0_2 t3_3 t4_11 w)))) (
 R (.string ⟨#[]⟩) w)) [] w) fun j_4 =>
 RunA Tryz.prog (nilV a0) fun t9_47 =>
 RunA Tryz.prog (Instr.fieldAt 83 t9_47 2) fun t10_48 =>
 RunW Tryz.prog (Instr.loadAt 28 t10_48) w fun t11_49 =>
 RunW Tryz.prog (bin .eql 28 (.tmp 11) (.const (.int .i64 0)) t11_49 (.int .i64 0)) w fun t12_50 =>
 IfB t12_50 (
 RunW Tryz.prog (bin .neq 5 (.tmp 14) (.const (.int .u8 34)) t7_1 (.int .u8 34)) w fun t15_51 =>
 IfB t15_51 (
 RunW Tryz.prog (bin .neq 5 (.tmp 18) (.const (.int .u8 39)) t7_1 (.int .u8 39)) w fun t19_52 =>
 IfB t19_52 (
 CallF Tryz.prog 41 #[a0, (.int .i64 4)] w fun t22_53 w =>
 j_4 a0 t7_1 w) (
 j_4 a0 t7_1 w)) (
 j_4 a0 t7_1 w)) (
 j_4 a0 t7_1 w)
theorem sh131_calls {a0 : Value} {w : World} {R : Value → World → Prop} (h : sh131 a0 w R) : CallF Tryz.prog 131 #[a0] w R :=
  calls_of_denF (mk := false) (args := [a0]) (an := (.seq (.ops [0]) (.seq (.ops [0, 3]) (.seq (.join [0, 3] (.seq (.ops [0, 3, 20]) (.cond (.ops [0, 3]) .leaf))) (.seq (.ops [0, 3]) (.seq (.ops [0, 3, 4]) (.seq (.blk (.loop [0, 3, 4] [] (.seq (.seq (.ops [0, 3, 4, 34]) (.cond .leaf .leaf)) (.blk (.seq (.ops [0, 3, 4, 5]) (.blk (.join [0, 3, 4] (.seq (.ops [0, 3, 4, 5, 40]) (.cond .leaf (.seq (.ops [0, 3, 4, 5, 46]) (.cond (.seq (.ops [0, 4]) (.seq (.join [4] (.seq (.ops [0, 4, 58]) (.cond (.ops [4]) .leaf))) (.seq (.ops [2]) .leaf))) (.join [0, 3, 4] (.seq (.ops [0, 3, 4, 62]) (.cond (.ops [0, 3, 4]) (.ops [0, 3, 4]))))))))))))))) (.seq (.ops [2]) .leaf)))))))) (c := Tryz.f131.body.getD .skip) hent Tryz.func131 rfl (Nat.le_of_ble_eq_true (by kernel_rfl))
    (Eq.mp (show sh131 a0 w R = denF Tryz.prog ent false Tryz.f131 (.seq (.ops [0]) (.seq (.ops [0, 3]) (.seq (.join [0, 3] (.seq (.ops [0, 3, 20]) (.cond (.ops [0, 3]) .leaf))) (.seq (.ops [0, 3]) (.seq (.ops [0, 3, 4]) (.seq (.blk (.loop [0, 3, 4] [] (.seq (.seq (.ops [0, 3, 4, 34]) (.cond .leaf .leaf)) (.blk (.seq (.ops [0, 3, 4, 5]) (.blk (.join [0, 3, 4] (.seq (.ops [0, 3, 4, 5, 40]) (.cond .leaf (.seq (.ops [0, 3, 4, 5, 46]) (.cond (.seq (.ops [0, 4]) (.seq (.join [4] (.seq (.ops [0, 4, 58]) (.cond (.ops [4]) .leaf))) (.seq (.ops [2]) .leaf))) (.join [0, 3, 4] (.seq (.ops [0, 3, 4, 62]) (.cond (.ops [0, 3, 4]) (.ops [0, 3, 4]))))))))))))))) (.seq (.ops [2]) .leaf))))))) (Tryz.f131.body.getD .skip) [a0] w R by kernel_rfl) h)
def sh132 (a0 : Value) (w : World) (R : Value → World → Prop) : Prop :=
 RunV Tryz.prog (Instr.box 78 a0) w fun t1_1 w =>
 RunV Tryz.prog (Instr.makeFunc (Go.Fn.func 156) #[] #[t1_1]) w fun t3_2 w =>
 R t3_2 w
theorem sh132_calls {a0 : Value} {w : World} {R : Value → World → Prop} (h : sh132 a0 w R) : CallF Tryz.prog 132 #[a0] w R :=
  calls_of_denF (mk := false) (args := [a0]) (an := (.seq (.ops [1]) (.seq (.ops [2]) .leaf))) (c := Tryz.f132.body.getD .skip) hent Tryz.func132 rfl (Nat.le_of_ble_eq_true (by kernel_rfl))
    (Eq.mp (show sh132 a0 w R = denF Tryz.prog ent false Tryz.f132 (.seq (.ops [1]) (.seq (.ops [2]) .leaf)) (Tryz.f132.body.getD .skip) [a0] w R by kernel_rfl) h)
def sh134 (a0 : Value) (w : World) (R : Value → World → Prop) : Prop :=
 jn 3 (fun t0_1 t3_2 t4_3 w =>
 CallF Tryz.prog 157 #[t0_1, t3_2, t4_3] w fun t21_5 w =>
 CallF Tryz.prog 158 #[t21_5] w fun t24_6 w =>
 RunA Tryz.prog (Instr.extract t24_6 0) fun t25_7 =>
 RunA Tryz.prog (Instr.extract t24_6 1) fun t26_8 =>
 jn 1 (fun t6_9 w =>
 R t6_9 w) fun j_10 =>
 RunA Tryz.prog (Op.unary .not t26_8) fun t28_11 =>
 IfB t28_11 (
 CallF Tryz.prog 41 #[t0_1, (.int .i64 4)] w fun t36_12 w =>
 j_10 t25_7 w) (
 RunV Tryz.prog (convert 3 21 t21_5) w fun t31_13 w =>
 CallF Tryz.prog 127 #[t31_13] w fun t32_14 w =>
 RunA Tryz.prog (Op.unary .not t32_14) fun t33_15 =>
 IfB t33_15 (
 CallF Tryz.prog 41 #[t0_1, (.int .i64 4)] w fun t36_16 w =>
 j_10 t25_7 w) (
 j_10 t25_7 w))) fun j_4 =>
 CallF Tryz.prog 40 #[a0, (.int .i64 0)] w fun t9_17 w =>
 RunW Tryz.prog (bin .eql 5 (.tmp 9) (.const (.int .u8 120)) t9_17 (.int .u8 120)) w fun t10_18 =>
 IfB t10_18 (
 RunA Tryz.prog (nilV a0) fun t12_19 =>
 RunA Tryz.prog (Instr.fieldAt 83 t12_19 1) fun t13_20 =>
 RunW Tryz.prog (Instr.loadAt 3 t13_20) w fun t14_21 =>
 RunA Tryz.prog (bin .add 3 (.tmp 14) (.const (.int .i64 1)) t14_21 (.int .i64 1)) fun t15_22 =>
 RunA Tryz.prog (nilV a0) fun t16_23 =>
 RunA Tryz.prog (Instr.fieldAt 83 t16_23 1) fun t17_24 =>
 RunU Tryz.prog (Instr.storeAt 3 t17_24 t15_22) w fun w =>
 j_4 a0 (.int .i64 16) (.int .i64 6) w) (
 j_4 a0 (.int .i64 10) (.int .i64 7) w)
theorem sh134_calls {a0 : Value} {w : World} {R : Value → World → Prop} (h : sh134 a0 w R) : CallF Tryz.prog 134 #[a0] w R :=
  calls_of_denF (mk := false) (args := [a0]) (an := (.seq (.ops [0]) (.seq (.ops [0, 3, 4]) (.seq (.join [0, 3, 4] (.seq (.ops [0, 3, 4, 10]) (.cond (.seq (.ops [0, 3, 4]) (.ops [0, 3, 4])) .leaf))) (.seq (.ops [0, 5]) (.seq (.ops [0, 5, 6, 7]) (.seq (.join [6] (.seq (.ops [0, 6, 34]) (.cond (.ops [6]) .leaf))) (.seq (.ops [2]) .leaf)))))))) (c := Tryz.f134.body.getD .skip) hent Tryz.func134 rfl (Nat.le_of_ble_eq_true (by kernel_rfl))
    (Eq.mp (show sh134 a0 w R = denF Tryz.prog ent false Tryz.f134 (.seq (.ops [0]) (.seq (.ops [0, 3, 4]) (.seq (.join [0, 3, 4] (.seq (.ops [0, 3, 4, 10]) (.cond (.seq (.ops [0, 3, 4]) (.ops [0, 3, 4])) .leaf))) (.seq (.ops [0, 5]) (.seq (.ops [0, 5, 6, 7]) (.seq (.join [6] (.seq (.ops [0, 6, 34]) (.cond (.ops [6]) .leaf))) (.seq (.ops [2]) .leaf))))))) (Tryz.f134.body.getD .skip) [a0] w R by kernel_rfl) h)
def sh139 (a0 : Value) (w : World) (R : Value → World → Prop) : Prop :=
 jn 0 (fun w =>
 R (.bool false) w) fun j_1 =>
 RunA Tryz.prog (bin .leq 21 (.const (.int .i32 0)) (.tmp 4) (.int .i32 0) a0) fun t5_2 =>
 IfB t5_2 (
 RunA Tryz.prog (bin .lss 21 (.tmp 7) (.const (.int .i32 55296)) a0 (.int .i32 55296)) fun t8_3 =>
 IfB t8_3 (
 R (.bool true) w) (
 jn 0 (fun w =>
 j_1 w) fun j_4 =>
 RunA Tryz.prog (bin .lss 21 (.const (.int .i32 57343)) (.tmp 11) (.int .i32 57343) a0) fun t12_5 =>
 IfB t12_5 (
 RunA Tryz.prog (bin .leq 21 (.tmp 14) (.const (.int .i32 1114111)) a0 (.int .i32 1114111)) fun t15_6 =>
 IfB t15_6 (
 R (.bool true) w) (
 j_4 w)) (
 j_4 w))) (
 jn 0 (fun w =>
 j_1 w) fun j_7 =>
 RunA Tryz.prog (bin .lss 21 (.const (.int .i32 57343)) (.tmp 11) (.int .i32 57343) a0) fun t12_8 =>
 IfB t12_8 (
 RunA Tryz.prog (bin .leq 21 (.tmp 14) (.const (.int .i32 1114111)) a0 (.int .i32 1114111)) fun t15_9 =>
 IfB t15_9 (
 R (.bool true) w) (
 j_7 w)) (
 j_7 w))
theorem sh139_calls {a0 : Value} {w : World} {R : Value → World → Prop} (h : sh139 a0 w R) : CallF Tryz.prog 139 #[a0] w R :=
  calls_of_denF (mk := false) (args := [a0]) (an := (.seq (.ops [0]) (.seq (.blk (.join [] (.seq (.ops [0, 3]) (.cond (.seq (.ops [2]) .leaf) (.join [] (.seq (.ops [10]) (.cond (.seq (.ops [2]) .leaf) .leaf))))))) (.seq (.ops [2]) .leaf)))) (c := Tryz.f139.body.getD .skip) hent Tryz.func139 rfl (Nat.le_of_ble_eq_true (by kernel_rfl))
    (Eq.mp (show sh139 a0 w R = denF Tryz.prog ent false Tryz.f139 (.seq (.ops [0]) (.seq (.blk (.join [] (.seq (.ops [0, 3]) (.cond (.seq (.ops [2]) .leaf) (.join [] (.seq (.ops [10]) (.cond (.seq (.ops [2]) .leaf) .leaf))))))) (.seq (.ops [2]) .leaf))) (Tryz.f139.body.getD .skip) [a0] w R by kernel_rfl) h)
def sh154 (a0 a1 : Value) (w : World) (R : Value → World → Prop) : Prop :=
 RunW Tryz.prog (Builtin.len_ #[120] 3 #[a0]) w fun t7_1 =>
 lp 1 (fun n_3 t8_2 w =>
 RunA Tryz.prog (bin .lss 3 (.tmp 8) (.tmp 7) t8_2 t7_1) fun t9_4 =>
 IfB t9_4 (
 RunA Tryz.prog (Instr.indexAt 120 a0 t8_2) fun t14_5 =>
 RunW Tryz.prog (Instr.loadAt 154 t14_5) w fun t15_6 =>
 CallV Tryz.prog a1 #[t15_6] w fun t16_7 w =>
 IfB t16_7 (
 R t8_2 w) (
 RunA Tryz.prog (bin .add 3 (.tmp 8) (.const (.int .i64 1)) t8_2 (.int .i64 1)) fun t18_8 =>
 (a0 : Value) = a0 ∧ ((a1 : Value) = a1 ∧ ((t7_1 : Value) = t7_1 ∧ (n_3 t18_8 w))))) (
 R (.int .i64 (-1)) w)) [(.int .i64 0)] w
theorem sh154_calls {a0 a1 : Value} {w : World} {R : Value → World → Prop} (h : sh154 a0 a1 w R) : CallF Tryz.prog 154 #[a0, a1] w R :=
  calls_of_denF (mk := false) (args := [a0, a1]) (an := (.seq (.ops [0, 1]) (.seq (.seq (.ops [0, 1, 7, 8]) (.blk (.loop [0, 1, 7] [8] (.seq (.ops [0, 1, 7, 8, 9]) (.seq (.cond .leaf .leaf) (.seq (.blk (.seq (.ops [0, 1, 5, 7, 8]) (.seq (.ops [0, 1, 5, 7, 8, 16]) (.cond (.seq (.ops [4]) .leaf) .leaf)))) (.ops [0, 1, 7, 8]))))))) (.seq (.ops [4]) .leaf)))) (c := Tryz.f154.body.getD .skip) hent Tryz.func154 rfl (Nat.le_of_ble_eq_true (by kernel_rfl))
    (Eq.mp (show sh154 a0 a1 w R = denF Tryz.prog ent false Tryz.f154 (.seq (.ops [0, 1]) (.seq (.seq (.ops [0, 1, 7, 8]) (.blk (.loop [0, 1, 7] [8] (.seq (.ops [0, 1, 7, 8, 9]) (.seq (.cond .leaf .leaf) (.seq (.blk (.seq (.ops [0, 1, 5, 7, 8]) (.seq (.ops [0, 1, 5, 7, 8, 16]) (.cond (.seq (.ops [4]) .leaf) .leaf)))) (.ops [0, 1, 7, 8]))))))) (.seq (.ops [4]) .leaf))) (Tryz.f154.body.getD .skip) [a0, a1] w R by kernel_rfl) h)
def sh155 (a0 : Value) (w : World) (R : Value → World → Prop) : Prop :=
 RunA Tryz.prog (nilV a0) fun t4_1 =>
 RunA Tryz.prog (Instr.fieldAt 81 t4_1 1) fun t5_2 =>
 RunW Tryz.prog (Instr.loadAt 31 t5_2) w fun t6_3 =>
 RunW Tryz.prog (Builtin.len_ #[31] 3 #[t6_3]) w fun t7_4 =>
 R t7_4 w
theorem sh155_calls {a0 : Value} {w : World} {R : Value → World → Prop} (h : sh155 a0 w R) : CallF Tryz.prog 155 #[a0] w R :=
  calls_of_denF (mk := false) (args := [a0]) (an := (.seq (.ops [0]) (.seq (.ops [2]) .leaf))) (c := Tryz.f155.body.getD .skip) hent Tryz.func155 rfl (Nat.le_of_ble_eq_true (by kernel_rfl))
    (Eq.mp (show sh155 a0 w R = denF Tryz.prog ent false Tryz.f155 (.seq (.ops [0]) (.seq (.ops [2]) .leaf)) (Tryz.f155.body.getD .skip) [a0] w R by kernel_rfl) h)
def sh156 (a0 a1 : Value) (w : World) (R : Value → World → Prop) : Prop :=
 RunW Tryz.prog (Instr.loadAt 78 a1) w fun t4_1 =>
 RunW Tryz.prog (Builtin.len_ #[78] 3 #[t4_1]) w fun t5_2 =>
 RunA Tryz.prog (bin .sub 3 (.tmp 5) (.const (.int .i64 1)) t5_2 (.int .i64 1)) fun t6_3 =>
 lp 1 (fun n_5 t3_4 w =>
 RunA Tryz.prog (bin .geq 3 (.tmp 7) (.const (.int .i64 0)) t3_4 (.int .i64 0)) fun t8_6 =>
 IfB t8_6 (
 RunW Tryz.prog (Instr.loadAt 78 a1) w fun t13_7 =>
 RunA Tryz.prog (Instr.indexAt 78 t13_7 t3_4) fun t15_8 =>
 RunW Tryz.prog (Instr.loadAt 124 t15_8) w fun t16_9 =>
 CallV Tryz.prog a0 #[t3_4, t16_9] w fun t17_10 w =>
 RunA Tryz.prog (Op.unary .not t17_10) fun t18_11 =>
 IfB t18_11 (
 R (.tuple #[]) w) (
 RunA Tryz.prog (bin .sub 3 (.tmp 9) (.const (.int .i64 1)) t3_4 (.int .i64 1)) fun t10_12 =>
 (a0 : Value) = a0 ∧ ((a1 : Value) = a1 ∧ (n_5 t10_12 w)))) (
 R (.tuple #[]) w)) [t6_3] w
theorem sh156_calls {a0 a1 : Value} {w : World} {R : Value → World → Prop} (h : sh156 a0 a1 w R) : CallF Tryz.prog 156 #[a0, a1] w R :=
  calls_of_denF (mk := false) (args := [a0, a1]) (an := (.seq (.ops [0, 1, 3]) (.blk (.loop [0, 1] [3] (.seq (.seq (.ops [0, 1, 3, 8]) (.cond .leaf .leaf)) (.seq (.blk (.seq (.ops [0, 1, 3, 18]) (.cond .leaf .leaf))) (.ops [0, 1, 3]))))))) (c := Tryz.f156.body.getD .skip) hent Tryz.func156 rfl (Nat.le_of_ble_eq_true (by kernel_rfl))
    (Eq.mp (show sh156 a0 a1 w R = denF Tryz.prog ent false Tryz.f156 (.seq (.ops [0, 1, 3]) (.blk (.loop [0, 1] [3] (.seq (.seq (.ops [0, 1, 3, 8]) (.cond .leaf .leaf)) (.seq (.blk (.seq (.ops [0, 1, 3, 18]) (.cond .leaf .leaf))) (.ops [0, 1, 3])))))) (Tryz.f156.body.getD .skip) [a0, a1] w R by kernel_rfl) h)
def sh157 (a0 a1 a2 : Value) (w : World) (R : Value → World → Prop) : Prop :=
 RunA Tryz.prog (nilV a0) fun t13_1 =>
 RunA Tryz.prog (Instr.fieldAt 83 t13_1 1) fun t14_2 =>
 RunW Tryz.prog (Instr.loadAt 3 t14_2) w fun t15_3 =>
 jn 3 (fun t0_4 t1_5 t7_6 w =>
 drw (fun S_8 w =>
 RunA Tryz.prog (nilV t0_4) fun t73_9 =>
 RunA Tryz.prog (Instr.fieldAt 83 t73_9 0) fun t74_10 =>
 RunS Tryz.prog S_8 (Instr.loadAt 9 t74_10) fun t75_11 =>
 RunA Tryz.prog (nilV t0_4) fun t78_12 =>
 RunA Tryz.prog (Instr.fieldAt 83 t78_12 1) fun t79_13 =>
 RunS Tryz.prog S_8 (Instr.loadAt 3 t79_13) fun t80_14 =>
 RunA Tryz.prog (Instr.sliceAt 9 t75_11 (some t7_6) (some t80_14) none) fun t81_15 =>
 CallF Tryz.prog 172 #[t81_15, t1_5, (.int .i64 64)] w fun t83_16 w =>
 RunA Tryz.prog (Instr.extract t83_16 0) fun t84_17 =>
 RunA Tryz.prog (Instr.extract t83_16 1) fun t85_18 =>
 jn 2 (fun t0_19 t10_20 w =>
 RunA Tryz.prog (nilV t0_19) fun t91_22 =>
 RunA Tryz.prog (Instr.fieldAt 83 t91_22 1) fun t92_23 =>
 RunW Tryz.prog (Instr.loadAt 3 t92_23) w fun t93_24 =>
 RunA Tryz.prog (bin .add 3 (.tmp 93) (.const (.int .i64 1)) t93_24 (.int .i64 1)) fun t94_25 =>
 RunA Tryz.prog (nilV t0_19) fun t95_26 =>
 RunA Tryz.prog (Instr.fieldAt 83 t95_26 1) fun t96_27 =>
 RunU Tryz.prog (Instr.storeAt 3 t96_27 t94_25) w fun w =>
 RunV Tryz.prog (convert 205 3 t10_20) w fun t98_28 w =>
 R t98_28 w) fun j_21 =>
 RunW Tryz.prog (bin .neq 128 (.tmp 86) (.const (.nilIface)) t85_18 (.nilIface)) w fun t87_29 =>
 IfB t87_29 (
 CallF Tryz.prog 41 #[t0_4, (.int .i64 4)] w fun t89_30 w =>
 j_21 t0_4 t84_17 w) (
 j_21 t0_4 t84_17 w)) w) fun j_7 =>
 lp 0 (fun n_31 w =>
 RunA Tryz.prog (nilV a0) fun t17_32 =>
 RunA Tryz.prog (Instr.fieldAt 83 t17_32 2) fun t18_33 =>
 RunW Tryz.prog (Instr.loadAt 28 t18_33) w fun t19_34 =>
 RunW Tryz.prog (bin .eql 28 (.tmp 19) (.const (.int .i64 0)) t19_34 (.int .i64 0)) w fun t20_35 =>
 IfB t20_35 (
 CallF Tryz.prog 40 #[a0, (.int .i64 0)] w fun t23_36 w =>
 RunW Tryz.prog (bin .neq 5 (.tmp 23) (.const (.int .u8 59)) t23_36 (.int .u8 59)) w fun t24_37 =>
 IfB t24_37 (
 RunA Tryz.prog (nilV a0) fun t27_38 =>
 RunA Tryz.prog (Instr.fieldAt 83 t27_38 2) fun t28_39 =>
 RunW Tryz.prog (Instr.loadAt 28 t28_39) w fun t29_40 =>
 RunW Tryz.prog (bin .neq 28 (.tmp 29) (.const (.int .i64 0)) t29_40 (.int .i64 0)) w fun t30_41 =>
 IfB t30_41 (
 j_7 a0 a1 t15_3 w) (
 drw (fun S_42 w =>
 RunA Tryz.prog (nilV a0) fun t33_43 =>
 RunA Tryz.prog (Instr.fieldAt 83 t33_43 0) fun t34_44 =>
 RunS Tryz.prog S_42 (Instr.loadAt 9 t34_44) fun t35_45 =>
 RunA Tryz.prog (nilV a0) fun t37_46 =>
 RunA Tryz.prog (Instr.fieldAt 83 t37_46 1) fun t38_47 =>
 RunS Tryz.prog S_42 (Instr.loadAt 3 t38_47) fun t39_48 =>
 RunA Tryz.prog (nilV a0) fun t41_49 =>
 RunA Tryz.prog (Instr.fieldAt 83 t41_49 1) fun t42_50 =>
 RunS Tryz.prog S_42 (Instr.loadAt 3 t42_50) fun t43_51 =>
 RunA Tryz.prog (bin .add 3 (.tmp 43) (.const (.int .i64 1)) t43_51 (.int .i64 1)) fun t44_52 =>
 RunA Tryz.prog (Instr.sliceAt 9 t35_45 (some t39_48) (some t44_52) none) fun t45_53 =>
 CallF Tryz.prog 172 #[t45_53, a1, (.int .i64 8)] w fun t47_54 w =>
 RunA Tryz.prog (Instr.extract t47_54 0) fun t48_55 =>
 RunA Tryz.prog (Instr.extract t47_54 1) fun t49_56 =>
 RunW Tryz.prog (bin .neq 128 (.tmp 50) (.const (.nilIface)) t49_56 (.nilIface)) w fun t51_57 =>
 IfB t51_57 (
 CallF Tryz.prog 41 #[a0, (.int .i64 4)] w fun t63_58 w =>
 j_7 a0 a1 t15_3 w) (
 RunA Tryz.prog (nilV a0) fun t54_59 =>
 RunA Tryz.prog (Instr.fieldAt 83 t54_59 1) fun t55_60 =>
 RunW Tryz.prog (Instr.loadAt 3 t55_60) w fun t56_61 =>
 RunA Tryz.prog (bin .sub 3 (.tmp 56) (.tmp 57) t56_61 t15_3) fun t58_62 =>
 RunA Tryz.prog (bin .geq 3 (.tmp 58) (.tmp 59) t58_62 a2) fun t60_63 =>
 IfB t60_63 (
 CallF Tryz.prog 41 #[a0, (.int .i64 4)] w fun t63_64 w =>
 j_7 a0 a1 t15_3 w) (
 RunA Tryz.prog (nilV a0) fun t65_65 =>
 RunA Tryz.prog (Instr.fieldAt 83 t65_65 1) fun t66_66 =>
 RunW Tryz.prog (Instr.loadAt 3 t66_66) w fun t67_67 =>
 RunA Tryz.prog (bin .add 3 (.tmp 67) (.const (.int .i64 1)) t67_67 (.int .i64 1)) fun t68_68 =>
 RunA Tryz.prog (nilV a0) fun t69_69 =>
 RunA Tryz.prog (Instr.fieldAt 83 t69_69 1) fun t70_70 =>
 RunU Tryz.prog (Instr.storeAt 3 t70_70 t68_68) w fun w =>
 (a0 : Value) = a0 ∧ ((a1 : Value) = a1 ∧ ((a2 : Value) = a2 ∧ ((t15_3 : Value) = t15_3 ∧ (n_31 w))))))) w)) (
 j_7 a0 a1 t15_3 w)) (
 j_7 a0 a1 t15_3 w)) [] w
theorem sh157_calls {a0 a1 a2 : Value} {w : World} {R : Value → World → Prop} (h : sh157 a0 a1 a2 w R) : CallF Tryz.prog 157 #[a0, a1, a2] w R :=
  calls_of_denF (mk := false) (args := [a0, a1, a2]) (an := (.seq (.ops [0, 1, 2]) (.seq (.ops [0, 1, 2, 7]) (.seq (.join [0, 1, 7] (.blk (.loop [0, 1, 2, 7] [] (.seq (.seq (.ops [0, 1, 2, 7, 25]) (.cond .leaf .leaf)) (.blk (.seq (.seq (.ops [0, 1, 2, 7, 30]) (.cond .leaf .leaf)) (.seq (.seq (.draw (.q 0 (.q 1 (.q 2 (.q 3 (.q 4 (.q 5 (.q 6 (.q 7 (.q 8 (.q 9 (.q 10 (.q 11 (.q 12 (.q 13 (.q 14 (.one 15 (.q 16 (.q 17 (.q 18 (.q 19 (.q 20 .fin))))))))))))))))))))) [0, 1, 2, 7, 9]) (.seq (.ops [0, 1, 2, 7, 61]) (.cond (.seq (.ops [0, 1, 7]) .leaf) .leaf))) (.ops [0, 1, 2, 7])))))))) (.seq (.draw (.q 0 (.q 1 (.q 2 (.q 3 (.q 4 (.q 5 (.q 6 (.q 7 (.q 8 (.q 9 (.q 10 (.one 11 (.q 12 (.q 13 (.q 14 (.q 15 (.q 16 .fin))))))))))))))))) [0, 10, 11]) (.seq (.join [0, 10] (.seq (.ops [0, 10, 87]) (.cond (.ops [0, 10]) .leaf))) (.seq (.ops [10]) (.seq (.ops [6]) .leaf)))))))) (c := Tryz.f157.body.getD .skip) hent Tryz.func157 rfl (Nat.le_of_ble_eq_true (by kernel_rfl))
    (Eq.mp (show sh157 a0 a1 a2 w R = denF Tryz.prog ent false Tryz.f157 (.seq (.ops [0, 1, 2]) (.seq (.ops [0, 1, 2, 7]) (.seq (.join [0, 1, 7] (.blk (.loop [0, 1, 2, 7] [] (.seq (.seq (.ops [0, 1, 2, 7, 25]) (.cond .leaf .leaf)) (.blk (.seq (.seq (.ops [0, 1, 2, 7, 30]) (.cond .leaf .leaf)) (.seq (.seq (.draw (.q 0 (.q 1 (.q 2 (.q 3 (.q 4 (.q 5 (.q 6 (.q 7 (.q 8 (.q 9 (.q 10 (.q 11 (.q 12 (.q 13 (.q 14 (.one 15 (.q 16 (.q 17 (.q 18 (.q 19 (.q 20 .fin))))))))))))))))))))) [0, 1, 2, 7, 9]) (.seq (.ops [0, 1, 2, 7, 61]) (.cond (.seq (.ops [0, 1, 7]) .leaf) .leaf))) (.ops [0, 1, 2, 7])))))))) (.seq (.draw (.q 0 (.q 1 (.q 2 (.q 3 (.q 4 (.q 5 (.q 6 (.q 7 (.q 8 (.q 9 (.q 10 (.one 11 (.q 12 (.q 13 (.q 14 (.q 15 (.q 16 .fin))))))))))))))))) [0, 10, 11]) (.seq (.join [0, 10] (.seq (.ops [0, 10, 87]) (.cond (.ops [0, 10]) .leaf))) (.seq (.ops [10]) (.seq (.ops [6]) .leaf))))))) (Tryz.f157.body.getD .skip) [a0, a1, a2] w R by kernel_rfl) h)
def sh158 (a0 : Value) (w : World) (R : Value → World → Prop) : Prop :=
 RunA Tryz.prog (bin .lss 3 (.tmp 4) (.const (.int .i64 0)) a0 (.int .i64 0)) fun t5_1 =>
 IfB t5_1 (
 R (.tuple #[(.string ⟨#[]⟩), (.bool false)]) w) (
 RunA Tryz.prog (bin .gtr 3 (.tmp 7) (.const (.int .i64 1114111)) a0 (.int .i64 1114111)) fun t8_2 =>
 IfB t8_2 (
 R (.tuple #[(.string ⟨#[]⟩), (.bool false)]) w) (
 RunV Tryz.prog (convert 3 21 a0) w fun t12_3 w =>
 CallF Tryz.prog 139 #[t12_3] w fun t13_4 w =>
 RunA Tryz.prog (Op.unary .not t13_4) fun t14_5 =>
 IfB t14_5 (
 R (.tuple #[(.string ⟨#[]⟩), (.bool false)]) w) (
 RunV Tryz.prog (convert 3 21 a0) w fun t17_6 w =>
 RunV Tryz.prog (convert 21 9 t17_6) w fun t18_7 w =>
 R (.tuple #[t18_7, (.bool true)]) w)))
theorem sh158_calls {a0 : Value} {w : World} {R : Value → World → Prop} (h : sh158 a0 w R) : CallF Tryz.prog 158 #[a0] w R :=
  calls_of_denF (mk := false) (args := [a0]) (an := (.seq (.ops [0]) (.seq (.seq (.ops [0, 15]) (.cond (.seq (.ops [2, 3]) .leaf) .leaf)) (.seq (.ops [2, 3]) .leaf)))) (c := Tryz.f158.body.getD .skip) hent Tryz.func158 rfl (Nat.le_of_ble_eq_true (by kernel_rfl))
    (Eq.mp (show sh158 a0 w R = denF Tryz.prog ent false Tryz.f158 (.seq (.ops [0]) (.seq (.seq (.ops [0, 15]) (.cond (.seq (.ops [2, 3]) .leaf) .leaf)) (.seq (.ops [2, 3]) .leaf))) (Tryz.f158.body.getD .skip) [a0] w R by kernel_rfl) h)
def sh172 (a0 a1 a2 : Value) (w : World) (R : Value → World → Prop) : Prop :=
 CallF Tryz.prog 180 #[a0, a1, a2] w fun t14_1 w =>
 RunA Tryz.prog (Instr.extract t14_1 0) fun t15_2 =>
 RunA Tryz.prog (Instr.extract t14_1 1) fun t16_3 =>
 RunW Tryz.prog (bin .neq 128 (.tmp 17) (.const (.nilIface)) t16_3 (.nilIface)) w fun t18_4 =>
 IfB t18_4 (
 CallF Tryz.prog 181 #[(.string ⟨#[80, 97, 114, 115, 101, 85, 105, 110, 116]⟩), a0, a1, a2, t16_3] w fun t24_5 w =>
 R (.tuple #[t15_2, t24_5]) w) (
 R (.tuple #[t15_2, (.nilIface)]) w)
theorem sh172_calls {a0 a1 a2 : Value} {w : World} {R : Value → World → Prop} (h : sh172 a0 a1 a2 w R) : CallF Tryz.prog 172 #[a0, a1, a2] w R :=
  calls_of_denF (mk := false) (args := [a0, a1, a2]) (an := (.seq (.ops [0, 1, 2]) (.seq (.ops [0, 1, 2, 8, 9]) (.seq (.seq (.ops [0, 1, 2, 8, 9, 18]) (.cond (.seq (.ops [6, 7]) .leaf) .leaf)) (.seq (.ops [6, 7]) .leaf))))) (c := Tryz.f172.body.getD .skip) hent Tryz.func172 rfl (Nat.le_of_ble_eq_true (by kernel_rfl))
    (Eq.mp (show sh172 a0 a1 a2 w R = denF Tryz.prog ent false Tryz.f172 (.seq (.ops [0, 1, 2]) (.seq (.ops [0, 1, 2, 8, 9]) (.seq (.seq (.ops [0, 1, 2, 8, 9, 18]) (.cond (.seq (.ops [6, 7]) .leaf) .leaf)) (.seq (.ops [6, 7]) .leaf)))) (Tryz.f172.body.getD .skip) [a0, a1, a2] w R by kernel_rfl) h)
def sh180 (a0 a1 a2 : Value) (w : World) (R : Value → World → Prop) : Prop :=
 RunW Tryz.prog (bin .eql 9 (.tmp 18) (.const (.string ⟨#[]⟩)) a0 (.string ⟨#[]⟩)) w fun t19_1 =>
 IfB t19_1 (
 RunV Tryz.prog (Instr.makeInterface 211 (.int .i64 2)) w fun t20_2 w =>
 R (.tuple #[(.int .u64 0), t20_2]) w) (
 RunW Tryz.prog (bin .eql 3 (.tmp 21) (.const (.int .i64 0)) a1 (.int .i64 0)) w fun t22_3 =>
 jn 5 (fun t0_4 t1_5 t2_6 t8_7 t9_8 w =>
 jn 5 (fun t0_10 t1_11 t2_12 t8_13 t9_14 w =>
 jn 6 (fun t0_16 t1_17 t2_18 t8_19 t9_20 t10_21 w =>
 RunV Tryz.prog (convert 3 175 t2_18) w fun t95_23 w =>
 RunA Tryz.prog (bin .shl 205 (.const (.int .u64 1)) (.tmp 95) (.int .u64 1) t95_23) fun t96_24 =>
 RunA Tryz.prog (bin .sub 205 (.tmp 96) (.const (.int .u64 1)) t96_24 (.int .u64 1)) fun t97_25 =>
 RunV Tryz.prog (convert 9 31 t0_16) w fun t99_26 w =>
 RunW Tryz.prog (Builtin.len_ #[31] 3 #[t99_26]) w fun t100_27 =>
 lp 3 (fun n_31 t12_28 t13_29 t101_30 w =>
 RunA Tryz.prog (bin .lss 3 (.tmp 101) (.tmp 100) t101_30 t100_27) fun t102_32 =>
 IfB t102_32 (
 jn 10 (fun t1_33 t8_34 t9_35 t10_36 t11_37 t12_38 t13_39 t99_40 t100_41 t101_42 w =>
 RunA Tryz.prog (bin .add 3 (.tmp 101) (.const (.int .i64 1)) t101_42 (.int .i64 1)) fun t163_44 =>
 (t1_33 : Value) = t1_17 ∧ ((t8_34 : Value) = t8_19 ∧ ((t9_35 : Value) = t9_20 ∧ ((t10_36 : Value) = t10_21 ∧ ((t11_37 : Value) = t97_25 ∧ ((t99_40 : Value) = t99_26 ∧ ((t100_41 : Value) = t100_27 ∧ (n_31 t12_38 t13_39 t163_44 w)))))))) fun j_43 =>
 RunA Tryz.prog (Instr.indexAt 31 t99_26 t101_30) fun t103_45 =>
 RunW Tryz.prog (Instr.loadAt 5 t103_45) w fun t104_46 =>
 jn 11 (fun t1_47 t8_48 t9_49 t10_50 t11_51 t12_52 t13_53 t16_54 t99_55 t100_56 t101_57 w =>
 RunV Tryz.prog (convert 3 5 t1_47) w fun t136_59 w =>
 RunA Tryz.prog (bin .geq 5 (.tmp 134) (.tmp 136) t16_54 t136_59) fun t137_60 =>
 IfB t137_60 (
 RunV Tryz.prog (Instr.makeInterface 211 (.int .i64 2)) w fun t138_61 w =>
 R (.tuple #[(.int .u64 0), t138_61]) w) (
 RunA Tryz.prog (bin .geq 205 (.tmp 139) (.tmp 140) t13_53 t10_50) fun t141_62 =>
 IfB t141_62 (
 RunV Tryz.prog (Instr.makeInterface 211 (.int .i64 1)) w fun t143_63 w =>
 R (.tuple #[t11_51, t143_63]) w) (
 RunV Tryz.prog (convert 3 205 t1_47) w fun t146_64 w =>
 RunA Tryz.prog (bin .mul 205 (.tmp 144) (.tmp 146) t13_53 t146_64) fun t147_65 =>
 RunV Tryz.prog (convert 5 205 t16_54) w fun t150_66 w =>
 RunA Tryz.prog (bin .add 205 (.tmp 148) (.tmp 150) t147_65 t150_66) fun t151_67 =>
 RunA Tryz.prog (bin .lss 205 (.tmp 152) (.tmp 153) t151_67 t147_65) fun t154_68 =>
 IfB t154_68 (
 RunV Tryz.prog (Instr.makeInterface 211 (.int .i64 1)) w fun t161_69 w =>
 R (.tuple #[t11_51, t161_69]) w) (
 RunA Tryz.prog (bin .gtr 205 (.tmp 156) (.tmp 157) t151_67 t11_51) fun t158_70 =>
 IfB t158_70 (
 RunV Tryz.prog (Instr.makeInterface 211 (.int .i64 1)) w fun t161_71 w =>
 R (.tuple #[t11_51, t161_71]) w) (
 j_43 t1_47 t8_48 t9_49 t10_50 t11_51 t12_52 t151_67 t99_55 t100_56 t101_57 w))))) fun j_58 =>
 RunW Tryz.prog (bin .eql 5 (.tmp 107) (.const (.int .u8 95)) t104_46 (.int .u8 95)) w fun t108_72 =>
 IfB t108_72 (
 IfB t8_19 (
 j_43 t1_17 t8_19 t9_20 t10_21 t97_25 (.bool true) t13_29 t99_26 t100_27 t101_30 w) (
 jn 11 (fun t1_73 t8_74 t9_75 t10_76 t11_77 t12_78 t13_79 t16_80 t99_81 t100_82 t101_83 w =>
 j_58 t1_73 t8_74 t9_75 t10_76 t11_77 t12_78 t13_79 t16_80 t99_81 t100_82 t101_83 w) fun j_84 =>
 RunA Tryz.prog (bin .leq 5 (.const (.int .u8 48)) (.tmp 113) (.int .u8 48) t104_46) fun t114_85 =>
 IfB t114_85 (
 RunA Tryz.prog (bin .leq 5 (.tmp 116) (.const (.int .u8 57)) t104_46 (.int .u8 57)) fun t117_86 =>
 IfB t117_86 (
 RunA Tryz.prog (bin .sub 5 (.tmp 119) (.const (.int .u8 48)) t104_46 (.int .u8 48)) fun t120_87 =>
 j_84 t1_17 t8_19 t9_20 t10_21 t97_25 t12_28 t13_29 t120_87 t99_26 t100_27 t101_30 w) (
 CallF Tryz.prog 186 #[t104_46] w fun t123_88 w =>
 RunA Tryz.prog (bin .leq 5 (.const (.int .u8 97)) (.tmp 123) (.int .u8 97) t123_88) fun t124_89 =>
 IfB t124_89 (
 CallF Tryz.prog 186 #[t104_46] w fun t127_90 w =>
 RunA Tryz.prog (bin .leq 5 (.tmp 127) (.const (.int .u8 122)) t127_90 (.int .u8 122)) fun t128_91 =>
 IfB t128_91 (
 CallF Tryz.prog 186 #[t104_46] w fun t131_92 w =>
 RunA Tryz.prog (bin .sub 5 (.tmp 131) (.const (.int .u8 97)) t131_92 (.int .u8 97)) fun t132_93 =>
 RunA Tryz.prog (bin .add 5 (.tmp 132) (.const (.int .u8 10)) t132_93 (.int .u8 10)) fun t133_94 =>
 j_84 t1_17 t8_19 t9_20 t10_21 t97_25 t12_28 t13_29 t133_94 t99_26 t100_27 t101_30 w) (
 RunV Tryz.prog (Instr.makeInterface 211 (.int .i64 2)) w fun t105_95 w =>
 R (.tuple #[(.int .u64 0), t105_95]) w)) (
 RunV Tryz.prog (Instr.makeInterface 211 (.int .i64 2)) w fun t105_96 w =>
 R (.tuple #[(.int .u64 0), t105_96]) w))) (
 CallF Tryz.prog 186 #[t104_46] w fun t123_97 w =>
 RunA Tryz.prog (bin .leq 5 (.const (.int .u8 97)) (.tmp 123) (.int .u8 97) t123_97) fun t124_98 =>
 IfB t124_98 (
 CallF Tryz.prog 186 #[t104_46] w fun t127_99 w =>
 RunA Tryz.prog (bin .leq 5 (.tmp 127) (.const (.int .u8 122)) t127_99 (.int .u8 122)) fun t128_100 =>
 IfB t128_100 (
 CallF Tryz.prog 186 #[t104_46] w fun t131_101 w =>
 RunA Tryz.prog (bin .sub 5 (.tmp 131) (.const (.int .u8 97)) t131_101 (.int .u8 97)) fun t132_102 =>
 RunA Tryz.prog (bin .add 5 (.tmp 132) (.const (.int .u8 10)) t132_102 (.int .u8 10)) fun t133_103 =>
 j_84 t1_17 t8_19 t9_20 t10_21 t97_25 t12_28 t13_29 t133_103 t99_26 t100_27 t101_30 w) (
 RunV Tryz.prog (Instr.makeInterface 211 (.int .i64 2)) w fun t105_104 w =>
 R (.tuple #[(.int .u64 0), t105_104]) w)) (
 RunV Tryz.prog (Instr.makeInterface 211 (.int .i64 2)) w fun t105_105 w =>
 R (.tuple #[(.int .u64 0), t105_105]) w)))) (
 jn 11 (fun t1_106 t8_107 t9_108 t10_109 t11_110 t12_111 t13_112 t16_113 t99_114 t100_115 t101_116 w =>
 j_58 t1_106 t8_107 t9_108 t10_109 t11_110 t12_111 t13_112 t16_113 t99_114 t100_115 t101_116 w) fun j_117 =>
 RunA Tryz.prog (bin .leq 5 (.const (.int .u8 48)) (.tmp 113) (.int .u8 48) t104_46) fun t114_118 =>
 IfB t114_118 (
 RunA Tryz.prog (bin .leq 5 (.tmp 116) (.const (.int .u8 57)) t104_46 (.int .u8 57)) fun t117_119 =>
 IfB t117_119 (
 RunA Tryz.prog (bin .sub 5 (.tmp 119) (.const (.int .u8 48)) t104_46 (.int .u8 48)) fun t120_120 =>
 j_117 t1_17 t8_19 t9_20 t10_21 t97_25 t12_28 t13_29 t120_120 t99_26 t100_27 t101_30 w) (
 CallF Tryz.prog 186 #[t104_46] w fun t123_121 w =>
 RunA Tryz.prog (bin .leq 5 (.const (.int .u8 97)) (.tmp 123) (.int .u8 97) t123_121) fun t124_122 =>
 IfB t124_122 (
 CallF Tryz.prog 186 #[t104_46] w fun t127_123 w =>
 RunA Tryz.prog (bin .leq 5 (.tmp 127) (.const (.int .u8 122)) t127_123 (.int .u8 122)) fun t128_124 =>
 IfB t128_124 (
 CallF Tryz.prog 186 #[t104_46] w fun t131_125 w =>
 RunA Tryz.prog (bin .sub 5 (.tmp 131) (.const (.int .u8 97)) t131_125 (.int .u8 97)) fun t132_126 =>
 RunA Tryz.prog (bin .add 5 (.tmp 132) (.const (.int .u8 10)) t132_126 (.int .u8 10)) fun t133_127 =>
 j_117 t1_17 t8_19 t9_20 t10_21 t97_25 t12_28 t13_29 t133_127 t99_26 t100_27 t101_30 w) (
 RunV Tryz.prog (Instr.makeInterface 211 (.int .i64 2)) w fun t105_128 w =>
 R (.tuple #[(.int .u64 0), t105_128]) w)) (
 RunV Tryz.prog (Instr.makeInterface 211 (.int .i64 2)) w fun t105_129 w =>
 R (.tuple #[(.int .u64 0), t105_129]) w))) (
 CallF Tryz.prog 186 #[t104_46] w fun t123_130 w =>
 RunA Tryz.prog (bin .leq 5 (.const (.int .u8 97)) (.tmp 123) (.int .u8 97) t123_130) fun t124_131 =>
 IfB t124_131 (
 CallF Tryz.prog 186 #[t104_46] w fun t127_132 w =>
 RunA Tryz.prog (bin .leq 5 (.tmp 127) (.const (.int .u8 122)) t127_132 (.int .u8 122)) fun t128_133 =>
 IfB t128_133 (
 CallF Tryz.prog 186 #[t104_46] w fun t131_134 w =>
 RunA Tryz.prog (bin .sub 5 (.tmp 131) (.const (.int .u8 97)) t131_134 (.int .u8 97)) fun t132_135 =>
 RunA Tryz.prog (bin .add 5 (.tmp 132) (.const (.int .u8 10)) t132_135 (.int .u8 10)) fun t133_136 =>
 j_117 t1_17 t8_19 t9_20 t10_21 t97_25 t12_28 t13_29 t133_136 t99_26 t100_27 t101_30 w) (
 RunV Tryz.prog (Instr.makeInterface 211 (.int .i64 2)) w fun t105_137 w =>
 R (.tuple #[(.int .u64 0), t105_137]) w)) (
 RunV Tryz.prog (Instr.makeInterface 211 (.int .i64 2)) w fun t105_138 w =>
 R (.tuple #[(.int .u64 0), t105_138]) w)))) (
 jn 1 (fun t13_139 w =>
 R (.tuple #[t13_139, (.nilIface)]) w) fun j_140 =>
 IfB t12_28 (
 CallF Tryz.prog 187 #[t9_20] w fun t167_141 w =>
 RunA Tryz.prog (Op.unary .not t167_141) fun t168_142 =>
 IfB t168_142 (
 RunV Tryz.prog (Instr.makeInterface 211 (.int .i64 2)) w fun t170_143 w =>
 R (.tuple #[(.int .u64 0), t170_143]) w) (
 j_140 t13_29 w)) (
 j_140 t13_29 w))) [(.bool false), (.int .u64 0), (.int .i64 0)] w) fun j_22 =>
 RunW Tryz.prog (bin .eql 3 (.tmp 85) (.const (.int .i64 10)) t1_11 (.int .i64 10)) w fun t91_144 =>
 IfB t91_144 (
 j_22 t0_10 t1_11 t2_12 t8_13 t9_14 (.int .u64 1844674407370955162) w) (
 jn 6 (fun t0_145 t1_146 t2_147 t8_148 t9_149 t10_150 w =>
 j_22 t0_145 t1_146 t2_147 t8_148 t9_149 t10_150 w) fun j_151 =>
 RunW Tryz.prog (bin .eql 3 (.tmp 85) (.const (.int .i64 16)) t1_11 (.int .i64 16)) w fun t93_152 =>
 IfB t93_152 (
 j_151 t0_10 t1_11 t2_12 t8_13 t9_14 (.int .u64 1152921504606846976) w) (
 RunV Tryz.prog (convert 3 205 t1_11) w fun t87_153 w =>
 RunA Tryz.prog (bin .quo 205 (.const (.int .u64 18446744073709551615)) (.tmp 87) (.int .u64 18446744073709551615) t87_153) fun t88_154 =>
 RunA Tryz.prog (bin .add 205 (.tmp 88) (.const (.int .u64 1)) t88_154 (.int .u64 1)) fun t89_155 =>
 j_151 t0_10 t1_11 t2_12 t8_13 t9_14 t89_155 w))) fun j_15 =>
 RunW Tryz.prog (bin .eql 3 (.tmp 76) (.const (.int .i64 0)) t2_6 (.int .i64 0)) w fun t77_156 =>
 IfB t77_156 (
 j_15 t0_4 t1_5 (.int .i64 64) t8_7 t9_8 w) (
 RunA Tryz.prog (bin .lss 3 (.tmp 78) (.const (.int .i64 0)) t2_6 (.int .i64 0)) fun t79_157 =>
 IfB t79_157 (
 RunV Tryz.prog (Instr.makeInterface 211 (.int .i64 4)) w fun t84_158 w =>
 R (.tuple #[(.int .u64 0), t84_158]) w) (
 RunA Tryz.prog (bin .gtr 3 (.tmp 81) (.const (.int .i64 64)) t2_6 (.int .i64 64)) fun t82_159 =>
 IfB t82_159 (
 RunV Tryz.prog (Instr.makeInterface 211 (.int .i64 4)) w fun t84_160 w =>
 R (.tuple #[(.int .u64 0), t84_160]) w) (
 j_15 t0_4 t1_5 t2_6 t8_7 t9_8 w)))) fun j_9 =>
 RunA Tryz.prog (bin .leq 3 (.const (.int .i64 2)) (.tmp 26) (.int .i64 2) a1) fun t27_161 =>
 IfB t27_161 (
 RunA Tryz.prog (bin .leq 3 (.tmp 29) (.const (.int .i64 36)) a1 (.int .i64 36)) fun t30_162 =>
 IfB t30_162 (
 j_9 a0 a1 a2 t22_3 a0 w) (
 RunW Tryz.prog (bin .eql 3 (.tmp 33) (.const (.int .i64 0)) a1 (.int .i64 0)) w fun t34_163 =>
 IfB t34_163 (
 jn 5 (fun t0_164 t1_165 t2_166 t8_167 t9_168 w =>
 j_9 t0_164 t1_165 t2_166 t8_167 t9_168 w) fun j_169 =>
 RunA Tryz.prog (Instr.index 9 a0 (.int .i64 0)) fun t36_170 =>
 RunW Tryz.prog (bin .eql 5 (.tmp 36) (.const (.int .u8 48)) t36_170 (.int .u8 48)) w fun t37_171 =>
 IfB t37_171 (
 jn 5 (fun t0_172 t1_173 t2_174 t8_175 t9_176 w =>
 j_169 t0_172 t1_173 t2_174 t8_175 t9_176 w) fun j_177 =>
 RunW Tryz.prog (Builtin.len_ #[9] 3 #[a0]) w fun t42_178 =>
 RunA Tryz.prog (bin .geq 3 (.tmp 42) (.const (.int .i64 3)) t42_178 (.int .i64 3)) fun t43_179 =>
 IfB t43_179 (
 RunA Tryz.prog (Instr.index 9 a0 (.int .i64 1)) fun t46_180 =>
 CallF Tryz.prog 186 #[t46_180] w fun t47_181 w =>
 RunW Tryz.prog (bin .eql 5 (.tmp 47) (.const (.int .u8 98)) t47_181 (.int .u8 98)) w fun t48_182 =>
 IfB t48_182 (
 RunA Tryz.prog (Instr.sliceAt 9 a0 (some (.int .i64 2)) none none) fun t51_183 =>
 j_177 t51_183 (.int .i64 2) a2 t22_3 a0 w) (
 jn 5 (fun t0_184 t1_185 t2_186 t8_187 t9_188 w =>
 j_177 t0_184 t1_185 t2_186 t8_187 t9_188 w) fun j_189 =>
 RunW Tryz.prog (Builtin.len_ #[9] 3 #[a0]) w fun t54_190 =>
 RunA Tryz.prog (bin .geq 3 (.tmp 54) (.const (.int .i64 3)) t54_190 (.int .i64 3)) fun t55_191 =>
 IfB t55_191 (
 RunA Tryz.prog (Instr.index 9 a0 (.int .i64 1)) fun t58_192 =>
 CallF Tryz.prog 186 #[t58_192] w fun t59_193 w =>
 RunW Tryz.prog (bin .eql 5 (.tmp 59) (.const (.int .u8 111)) t59_193 (.int .u8 111)) w fun t60_194 =>
 IfB t60_194 (
 RunA Tryz.prog (Instr.sliceAt 9 a0 (some (.int .i64 2)) none none) fun t63_195 =>
 j_189 t63_195 (.int .i64 8) a2 t22_3 a0 w) (
 jn 5 (fun t0_196 t1_197 t2_198 t8_199 t9_200 w =>
 j_189 t0_196 t1_197 t2_198 t8_199 t9_200 w) fun j_201 =>
 RunW Tryz.prog (Builtin.len_ #[9] 3 #[a0]) w fun t66_202 =>
 RunA Tryz.prog (bin .geq 3 (.tmp 66) (.const (.int .i64 3)) t66_202 (.int .i64 3)) fun t67_203 =>
 IfB t67_203 (
 RunA Tryz.prog (Instr.index 9 a0 (.int .i64 1)) fun t70_204 =>
 CallF Tryz.prog 186 #[t70_204] w fun t71_205 w =>
 RunW Tryz.prog (bin .eql 5 (.tmp 71) (.const (.int .u8 120)) t71_205 (.int .u8 120)) w fun t72_206 =>
 IfB t72_206 (
 RunA Tryz.prog (Instr.sliceAt 9 a0 (some (.int .i64 2)) none none) fun t75_207 =>
 j_201 t75_207 (.int .i64 16) a2 t22_3 a0 w) (
 RunA Tryz.prog (Instr.sliceAt 9 a0 (some (.int .i64 1)) none none) fun t39_208 =>
 j_201 t39_208 (.int .i64 8) a2 t22_3 a0 w)) (
 RunA Tryz.prog (Instr.sliceAt 9 a0 (some (.int .i64 1)) none none) fun t39_209 =>
 j_201 t39_209 (.int .i64 8) a2 t22_3 a0 w))) (
 jn 5 (fun t0_210 t1_211 t2_212 t8_213 t9_214 w =>
 j_189 t0_210 t1_211 t2_212 t8_213 t9_214 w) fun j_215 =>
 RunW Tryz.prog (Builtin.len_ #[9] 3 #[a0]) w fun t66_216 =>
 RunA Tryz.prog (bin .geq 3 (.tmp 66) (.const (.int .i64 3)) t66_216 (.int .i64 3)) fun t67_217 =>
 IfB t67_217 (
 RunA Tryz.prog (Instr.index 9 a0 (.int .i64 1)) fun t70_218 =>
 CallF Tryz.prog 186 #[t70_218] w fun t71_219 w =>
 RunW Tryz.prog (bin .eql 5 (.tmp 71) (.const (.int .u8 120)) t71_219 (.int .u8 120)) w fun t72_220 =>
 IfB t72_220 (
 RunA Tryz.prog (Instr.sliceAt 9 a0 (some (.int .i64 2)) none none) fun t75_221 =>
 j_215 t75_221 (.int .i64 16) a2 t22_3 a0 w) (
 RunA Tryz.prog (Instr.sliceAt 9 a0 (some (.int .i64 1)) none none) fun t39_222 =>
 j_215 t39_222 (.int .i64 8) a2 t22_3 a0 w)) (
 RunA Tryz.prog (Instr.sliceAt 9 a0 (some (.int .i64 1)) none none) fun t39_223 =>
 j_215 t39_223 (.int .i64 8) a2 t22_3 a0 w)))) (
 jn 5 (fun t0_224 t1_225 t2_226 t8_227 t9_228 w =>
 j_177 t0_224 t1_225 t2_226 t8_227 t9_228 w) fun j_229 =>
 RunW Tryz.prog (Builtin.len_ #[9] 3 #[a0]) w fun t54_230 =>
 RunA Tryz.prog (bin .geq 3 (.tmp 54) (.const (.int .i64 3)) t54_230 (.int .i64 3)) fun t55_231 =>
 IfB t55_231 (
 RunA Tryz.prog (Instr.index 9 a0 (.int .i64 1)) fun t58_232 =>
 CallF Tryz.prog 186 #[t58_232] w fun t59_233 w =>
 RunW Tryz.prog (bin .eql 5 (.tmp 59) (.const (.int .u8 111)) t59_233 (.int .u8 111)) w fun t60_234 =>
 IfB t60_234 (
 RunA Tryz.prog (Instr.sliceAt 9 a0 (some (.int .i64 2)) none none) fun t63_235 =>
 j_229 t63_235 (.int .i64 8) a2 t22_3 a0 w) (
 jn 5 (fun t0_236 t1_237 t2_238 t8_239 t9_240 w =>
 j_229 t0_236 t1_237 t2_238 t8_239 t9_240 w) fun j_241 =>
 RunW Tryz.prog (Builtin.len_ #[9] 3 #[a0]) w fun t66_242 =>
 RunA Tryz.prog (bin .geq 3 (.tmp 66) (.const (.int .i64 3)) t66_242 (.int .i64 3)) fun t67_243 =>
 IfB t67_243 (
 RunA Tryz.prog (Instr.index 9 a0 (.int .i64 1)) fun t70_244 =>
 CallF Tryz.prog 186 #[t70_244] w fun t71_245 w =>
 RunW Tryz.prog (bin .eql 5 (.tmp 71) (.const (.int .u8 120)) t71_245 (.int .u8 120)) w fun t72_246 =>
 IfB t72_246 (
 RunA Tryz.prog (Instr.sliceAt 9 a0 (some (.int .i64 2)) none none) fun t75_247 =>
 j_241 t75_247 (.int .i64 16) a2 t22_3 a0 w) (
 RunA Tryz.prog (Instr.sliceAt 9 a0 (some (.int .i64 1)) none none) fun t39_248 =>
 j_241 t39_248 (.int .i64 8) a2 t22_3 a0 w)) (
 RunA Tryz.prog (Instr.sliceAt 9 a0 (some (.int .i64 1)) none none) fun t39_249 =>
 j_241 t39_249 (.int .i64 8) a2 t22_3 a0 w))) (
 jn 5 (fun t0_250 t1_251 t2_252 t8_253 t9_254 w =>
 j_229 t0_250 t1_251 t2_252 t8_253 t9_254 w) fun j_255 =>
 RunW Tryz.prog (Builtin.len_ #[9] 3 #[a0]) w fun t66_256 =>
 RunA Tryz.prog (bin .geq 3 (.tmp 66) (.const (.int .i64 3)) t66_256 (.int .i64 3)) fun t67_257 =>
 IfB t67_257 (
 RunA Tryz.prog (Instr.index 9 a0 (.int .i64 1)) fun t70_258 =>
 CallF Tryz.prog 186 #[t70_258] w fun t71_259 w =>
 RunW Tryz.prog (bin .eql 5 (.tmp 71) (.const (.int .u8 120)) t71_259 (.int .u8 120)) w fun t72_260 =>
 IfB t72_260 (
 RunA Tryz.prog (Instr.sliceAt 9 a0 (some (.int .i64 2)) none none) fun t75_261 =>
 j_255 t75_261 (.int .i64 16) a2 t22_3 a0 w) (
 RunA Tryz.prog (Instr.sliceAt 9 a0 (some (.int .i64 1)) none none) fun t39_262 =>
 j_255 t39_262 (.int .i64 8) a2 t22_3 a0 w)) (
 RunA Tryz.prog (Instr.sliceAt 9 a0 (some (.int .i64 1)) none none) fun t39_263 =>
 j_255 t39_263 (.int .i64 8) a2 t22_3 a0 w)))) (
 j_169 a0 (.int .i64 10) a2 t22_3 a0 w)) (
 RunV Tryz.prog (Instr.makeInterface 211 (.int .i64 3)) w fun t24_264 w =>
 R (.tuple #[(.int .u64 0), t24_264]) w))) (
 RunW Tryz.prog (bin .eql 3 (.tmp 33) (.const (.int .i64 0)) a1 (.int .i64 0)) w fun t34_265 =>
 IfB t34_265 (
 jn 5 (fun t0_266 t1_267 t2_268 t8_269 t9_270 w =>
 j_9 t0_266 t1_267 t2_268 t8_269 t9_270 w) fun j_271 =>
 RunA Tryz.prog (Instr.index 9 a0 (.int .i64 0)) fun t36_272 =>
 RunW Tryz.prog (bin .eql 5 (.tmp 36) (.const (.int .u8 48)) t36_272 (.int .u8 48)) w fun t37_273 =>
 IfB t37_273 (
 jn 5 (fun t0_274 t1_275 t2_276 t8_277 t9_278 w =>
 j_271 t0_274 t1_275 t2_276 t8_277 t9_278 w) fun j_279 =>
 RunW Tryz.prog (Builtin.len_ #[9] 3 #[a0]) w fun t42_280 =>
 RunA Tryz.prog (bin .geq 3 (.tmp 42) (.const (.int .i64 3)) t42_280 (.int .i64 3)) fun t43_281 =>
 IfB t43_281 (
 RunA Tryz.prog (Instr.index 9 a0 (.int .i64 1)) fun t46_282 =>
 CallF Tryz.prog 186 #[t46_282] w fun t47_283 w =>
 RunW Tryz.prog (bin .eql 5 (.tmp 47) (.const (.int .u8 98)) t47_283 (.int .u8 98)) w fun t48_284 =>
 IfB t48_284 (
 RunA Tryz.prog (Instr.sliceAt 9 a0 (some (.int .i64 2)) none none) fun t51_285 =>
 j_279 t51_285 (.int .i64 2) a2 t22_3 a0 w) (
 jn 5 (fun t0_286 t1_287 t2_288 t8_289 t9_290 w =>
 j_279 t0_286 t1_287 t2_288 t8_289 t9_290 w) fun j_291 =>
 RunW Tryz.prog (Builtin.len_ #[9] 3 #[a0]) w fun t54_292 =>
 RunA Tryz.prog (bin .geq 3 (.tmp 54) (.const (.int .i64 3)) t54_292 (.int .i64 3)) fun t55_293 =>
 IfB t55_293 (
 RunA Tryz.prog (Instr.index 9 a0 (.int .i64 1)) fun t58_294 =>
 CallF Tryz.prog 186 #[t58_294] w fun t59_295 w =>
 RunW Tryz.prog (bin .eql 5 (.tmp 59) (.const (.int .u8 111)) t59_295 (.int .u8 111)) w fun t60_296 =>
 IfB t60_296 (
 RunA Tryz.prog (Instr.sliceAt 9 a0 (some (.int .i64 2)) none none) fun t63_297 =>
 j_291 t63_297 (.int .i64 8) a2 t22_3 a0 w) (
 jn 5 (fun t0_298 t1_299 t2_300 t8_301 t9_302 w =>
 j_291 t0_298 t1_299 t2_300 t8_301 t9_302 w) fun j_303 =>
 RunW Tryz.prog (Builtin.len_ #[9] 3 #[a0]) w fun t66_304 =>
 RunA Tryz.prog (bin .geq 3 (.tmp 66) (.const (.int .i64 3)) t66_304 (.int .i64 3)) fun t67_305 =>
 IfB t67_305 (
 RunA Tryz.prog (Instr.index 9 a0 (.int .i64 1)) fun t70_306 =>
 CallF Tryz.prog 186 #[t70_306] w fun t71_307 w =>
 RunW Tryz.prog (bin .eql 5 (.tmp 71) (.const (.int .u8 120)) t71_307 (.int .u8 120)) w fun t72_308 =>
 IfB t72_308 (
 RunA Tryz.prog (Instr.sliceAt 9 a0 (some (.int .i64 2)) none none) fun t75_309 =>
 j_303 t75_309 (.int .i64 16) a2 t22_3 a0 w) (
 RunA Tryz.prog (Instr.sliceAt 9 a0 (some (.int .i64 1)) none none) fun t39_310 =>
 j_303 t39_310 (.int .i64 8) a2 t22_3 a0 w)) (
 RunA Tryz.prog (Instr.sliceAt 9 a0 (some (.int .i64 1)) none none) fun t39_311 =>
 j_303 t39_311 (.int .i64 8) a2 t22_3 a0 w))) (
 jn 5 (fun t0_312 t1_313 t2_314 t8_315 t9_316 w =>
 j_291 t0_312 t1_313 t2_314 t8_315 t9_316 w) fun j_317 =>
 RunW Tryz.prog (Builtin.len_ #[9] 3 #[a0]) w fun t66_318 =>
 RunA Tryz.prog (bin .geq 3 (.tmp 66) (.const (.int .i64 3)) t66_318 (.int .i64 3)) fun t67_319 =>
 IfB t67_319 (
 RunA Tryz.prog (Instr.index 9 a0 (.int .i64 1)) fun t70_320 =>
 CallF Tryz.prog 186 #[t70_320] w fun t71_321 w =>
 RunW Tryz.prog (bin .eql 5 (.tmp 71) (.const (.int .u8 120)) t71_321 (.int .u8 120)) w fun t72_322 =>
 IfB t72_322 (
 RunA Tryz.prog (Instr.sliceAt 9 a0 (some (.int .i64 2)) none none) fun t75_323 =>
 j_317 t75_323 (.int .i64 16) a2 t22_3 a0 w) (
 RunA Tryz.prog (Instr.sliceAt 9 a0 (some (.int .i64 1)) none none) fun t39_324 =>
 j_317 t39_324 (.int .i64 8) a2 t22_3 a0 w)) (
 RunA Tryz.prog (Instr.sliceAt 9 a0 (some (.int .i64 1)) none none) fun t39_325 =>
 j_317 t39_325 (.int .i64 8) a2 t22_3 a0 w)))) (
 jn 5 (fun t0_326 t1_327 t2_328 t8_329 t9_330 w =>
 j_279 t0_326 t1_327 t2_328 t8_329 t9_330 w) fun j_331 =>
 RunW Tryz.prog (Builtin.len_ #[9] 3 #[a0]) w fun t54_332 =>
 RunA Tryz.prog (bin .geq 3 (.tmp 54) (.const (.int .i64 3)) t54_332 (.int .i64 3)) fun t55_333 =>
 IfB t55_333 (
 RunA Tryz.prog (Instr.index 9 a0 (.int .i64 1)) fun t58_334 =>
 CallF Tryz.prog 186 #[t58_334] w fun t59_335 w =>
 RunW Tryz.prog (bin .eql 5 (.tmp 59) (.const (.int .u8 111)) t59_335 (.int .u8 111)) w fun t60_336 =>
 IfB t60_336 (
 RunA Tryz.prog (Instr.sliceAt 9 a0 (some (.int .i64 2)) none none) fun t63_337 =>
 j_331 t63_337 (.int .i64 8) a2 t22_3 a0 w) (
 jn 5 (fun t0_338 t1_339 t2_340 t8_341 t9_342 w =>
 j_331 t0_338 t1_339 t2_340 t8_341 t9_342 w) fun j_343 =>
 RunW Tryz.prog (Builtin.len_ #[9] 3 #[a0]) w fun t66_344 =>
 RunA Tryz.prog (bin .geq 3 (.tmp 66) (.const (.int .i64 3)) t66_344 (.int .i64 3)) fun t67_345 =>
 IfB t67_345 (
 RunA Tryz.prog (Instr.index 9 a0 (.int .i64 1)) fun t70_346 =>
 CallF Tryz.prog 186 #[t70_346] w fun t71_347 w =>
 RunW Tryz.prog (bin .eql 5 (.tmp 71) (.const (.int .u8 120)) t71_347 (.int .u8 120)) w fun t72_348 =>
 IfB t72_348 (
 RunA Tryz.prog (Instr.sliceAt 9 a0 (some (.int .i64 2)) none none) fun t75_349 =>
 j_343 t75_349 (.int .i64 16) a2 t22_3 a0 w) (
 RunA Tryz.prog (Instr.sliceAt 9 a0 (some (.int .i64 1)) none none) fun t39_350 =>
 j_343 t39_350 (.int .i64 8) a2 t22_3 a0 w)) (
 RunA Tryz.prog (Instr.sliceAt 9 a0 (some (.int .i64 1)) none none) fun t39_351 =>
 j_343 t39_351 (.int .i64 8) a2 t22_3 a0 w))) (
 jn 5 (fun t0_352 t1_353 t2_354 t8_355 t9_356 w =>
 j_331 t0_352 t1_353 t2_354 t8_355 t9_356 w) fun j_357 =>
 RunW Tryz.prog (Builtin.len_ #[9] 3 #[a0]) w fun t66_358 =>
 RunA Tryz.prog (bin .geq 3 (.tmp 66) (.const (.int .i64 3)) t66_358 (.int .i64 3)) fun t67_359 =>
 IfB t67_359 (
 RunA Tryz.prog (Instr.index 9 a0 (.int .i64 1)) fun t70_360 =>
 CallF Tryz.prog 186 #[t70_360] w fun t71_361 w =>
 RunW Tryz.prog (bin .eql 5 (.tmp 71) (.const (.int .u8 120)) t71_361 (.int .u8 120)) w fun t72_362 =>
 IfB t72_362 (
 RunA Tryz.prog (Instr.sliceAt 9 a0 (some (.int .i64 2)) none none) fun t75_363 =>
 j_357 t75_363 (.int .i64 16) a2 t22_3 a0 w) (
 RunA Tryz.prog (Instr.sliceAt 9 a0 (some (.int .i64 1)) none none) fun t39_364 =>
 j_357 t39_364 (.int .i64 8) a2 t22_3 a0 w)) (
 RunA Tryz.prog (Instr.sliceAt 9 a0 (some (.int .i64 1)) none none) fun t39_365 =>
 j_357 t39_365 (.int .i64 8) a2 t22_3 a0 w)))) (
 j_271 a0 (.int .i64 10) a2 t22_3 a0 w)) (
 RunV Tryz.prog (Instr.makeInterface 211 (.int .i64 3)) w fun t24_366 w =>
 R (.tuple #[(.int .u64 0), t24_366]) w)))
theorem sh180_calls {a0 a1 a2 : Value} {w : World} {R : Value → World → Prop} (h : sh180 a0 a1 a2 w R) : CallF Tryz.prog 180 #[a0, a1, a2] w R :=
  calls_of_denF (mk := false) (args := [a0, a1, a2]) (an := (.seq (.ops [0, 1, 2]) (.seq (.seq (.ops [0, 1, 2, 19]) (.cond (.seq (.ops [6, 7]) .leaf) .leaf)) (.seq (.ops [0, 1, 2, 8]) (.seq (.ops [0, 1, 2, 8, 9]) (.seq (.blk (.join [0, 1, 2, 8, 9] (.seq (.ops [0, 1, 2, 8, 9, 25]) (.cond .leaf (.seq (.ops [0, 2, 8, 9, 32]) (.cond (.seq (.ops [0, 1, 2, 8, 9]) (.join [0, 1, 2, 8, 9] (.seq (.ops [0, 1, 2, 8, 9, 37]) (.cond (.blk (.join [0, 1, 2, 8, 9] (.seq (.ops [0, 2, 8, 9, 40]) (.cond (.seq (.ops [0, 1, 2, 8, 9]) (.ops [0, 1, 2, 8, 9])) (.join [0, 1, 2, 8, 9] (.seq (.ops [0, 2, 8, 9, 52]) (.cond (.seq (.ops [0, 1, 2, 8, 9]) (.ops [0, 1, 2, 8, 9])) (.join [0, 1, 2, 8, 9] (.seq (.ops [0, 2, 8, 9, 64]) (.cond (.seq (.ops [0, 1, 2, 8, 9]) (.ops [0, 1, 2, 8, 9])) (.seq (.ops [0, 1, 2, 8, 9]) (.ops [0, 1, 2, 8, 9])))))))))))) .leaf)))) (.seq (.ops [6, 7]) .leaf))))))) (.seq (.join [0, 1, 2, 8, 9] (.seq (.ops [0, 1, 2, 8, 9, 77]) (.cond (.ops [0, 1, 2, 8, 9]) (.seq (.ops [0, 1, 2, 8, 9, 83]) (.cond (.seq (.ops [6, 7]) .leaf) .leaf))))) (.seq (.ops [0, 1, 2, 8, 9]) (.seq (.seq (.ops [0, 1, 2, 8, 9, 85]) (.blk (.join [0, 1, 2, 8, 9, 10] (.seq (.ops [0, 1, 2, 8, 9, 85, 90]) (.cond (.ops [0, 1, 2, 8, 9, 10]) (.join [0, 1, 2, 8, 9, 10] (.seq (.ops [0, 1, 2, 8, 9, 92]) (.cond (.ops [0, 1, 2, 8, 9, 10]) (.ops [0, 1, 2, 8, 9, 10]))))))))) (.seq (.ops [0, 1, 8, 9, 10, 11]) (.seq (.ops [0, 1, 8, 9, 10, 11, 12]) (.seq (.ops [0, 1, 8, 9, 10, 11, 12, 13]) (.seq (.seq (.ops [1, 8, 9, 10, 11, 12, 13, 99, 100, 101]) (.blk (.loop [1, 8, 9, 10, 11, 99, 100] [12, 13, 101] (.seq (.ops [1, 8, 9, 10, 11, 12, 13, 99, 100, 101, 102]) (.seq (.cond .leaf .leaf) (.seq (.join [1, 8, 9, 10, 11, 12, 13, 99, 100, 101] (.blk (.seq (.ops [1, 8, 9, 10, 11, 12, 13, 15, 99, 100, 101]) (.seq (.ops [1, 8, 9, 10, 11, 12, 13, 15, 99, 100, 101]) (.seq (.blk (.join [1, 8, 9, 10, 11, 12, 13, 16, 99, 100, 101] (.seq (.ops [1, 8, 9, 10, 11, 12, 13, 15, 99, 100, 101, 106]) (.cond (.seq (.ops [1, 8, 9, 10, 11, 12, 13, 99, 100, 101]) .leaf) (.join [1, 8, 9, 10, 11, 12, 13, 16, 99, 100, 101] (.seq (.ops [1, 8, 9, 10, 11, 12, 13, 15, 99, 100, 101, 112]) (.cond (.ops [1, 8, 9, 10, 11, 12, 13, 16, 99, 100, 101]) (.seq (.ops [1, 8, 9, 10, 11, 12, 13, 15, 99, 100, 101, 121]) (.cond (.ops [1, 8, 9, 10, 11, 12, 13, 16, 99, 100, 101]) (.seq (.ops [6, 7]) .leaf)))))))))) (.seq (.seq (.ops [1, 8, 9, 10, 11, 12, 13, 16, 99, 100, 101, 137]) (.cond (.seq (.ops [6, 7]) .leaf) .leaf)) (.seq (.seq (.ops [1, 8, 9, 10, 11, 12, 13, 16, 99, 100, 101, 141]) (.cond (.seq (.ops [6, 7]) .leaf) .leaf)) (.seq (.ops [1, 8, 9, 10, 11, 12, 13, 16, 99, 100, 101]) (.seq (.ops [1, 8, 9, 10, 11, 12, 13, 17, 99, 100, 101]) (.seq (.seq (.ops [1, 8, 9, 10, 11, 12, 17, 99, 100, 101, 159]) (.cond (.seq (.ops [6, 7]) .leaf) .leaf)) (.ops [1, 8, 9, 10, 11, 12, 13, 99, 100, 101]))))))))))) (.ops [1, 8, 9, 10, 11, 12, 13, 99, 100, 101]))))))) (.seq (.join [13] (.seq (.ops [13, 169]) (.cond (.seq (.ops [6, 7]) .leaf) .leaf))) (.seq (.ops [6, 7]) .leaf))))))))))))))) (c := Tryz.f180.body.getD .skip) hent Tryz.func180 rfl (Nat.le_of_ble_eq_true (by kernel_rfl))
    (Eq.mp (show sh180 a0 a1 a2 w R = denF Tryz.prog ent false Tryz.f180 (.seq (.ops [0, 1, 2]) (.seq (.seq (.ops [0, 1, 2, 19]) (.cond (.seq (.ops [6, 7]) .leaf) .leaf)) (.seq (.ops [0, 1, 2, 8]) (.seq (.ops [0, 1, 2, 8, 9]) (.seq (.blk (.join [0, 1, 2, 8, 9] (.seq (.ops [0, 1, 2, 8, 9, 25]) (.cond .leaf (.seq (.ops [0, 2, 8, 9, 32]) (.cond (.seq (.ops [0, 1, 2, 8, 9]) (.join [0, 1, 2, 8, 9] (.seq (.ops [0, 1, 2, 8, 9, 37]) (.cond (.blk (.join [0, 1, 2, 8, 9] (.seq (.ops [0, 2, 8, 9, 40]) (.cond (.seq (.ops [0, 1, 2, 8, 9]) (.ops [0, 1, 2, 8, 9])) (.join [0, 1, 2, 8, 9] (.seq (.ops [0, 2, 8, 9, 52]) (.cond (.seq (.ops [0, 1, 2, 8, 9]) (.ops [0, 1, 2, 8, 9])) (.join [0, 1, 2, 8, 9] (.seq (.ops [0, 2, 8, 9, 64]) (.cond (.seq (.ops [0, 1, 2, 8, 9]) (.ops [0, 1, 2, 8, 9])) (.seq (.ops [0, 1, 2, 8, 9]) (.ops [0, 1, 2, 8, 9])))))))))))) .leaf)))) (.seq (.ops [6, 7]) .leaf))))))) (.seq (.join [0, 1, 2, 8, 9] (.seq (.ops [0, 1, 2, 8, 9, 77]) (.cond (.ops [0, 1, 2, 8, 9]) (.seq (.ops [0, 1, 2, 8, 9, 83]) (.cond (.seq (.ops [6, 7]) .leaf) .leaf))))) (.seq (.ops [0, 1, 2, 8, 9]) (.seq (.seq (.ops [0, 1, 2, 8, 9, 85]) (.blk (.join [0, 1, 2, 8, 9, 10] (.seq (.ops [0, 1, 2, 8, 9, 85, 90]) (.cond (.ops [0, 1, 2, 8, 9, 10]) (.join [0, 1, 2, 8, 9, 10] (.seq (.ops [0, 1, 2, 8, 9, 92]) (.cond (.ops [0, 1, 2, 8, 9, 10]) (.ops [0, 1, 2, 8, 9, 10]))))))))) (.seq (.ops [0, 1, 8, 9, 10, 11]) (.seq (.ops [0, 1, 8, 9, 10, 11, 12]) (.seq (.ops [0, 1, 8, 9, 10, 11, 12, 13]) (.seq (.seq (.ops [1, 8, 9, 10, 11, 12, 13, 99, 100, 101]) (.blk (.loop [1, 8, 9, 10, 11, 99, 100] [12, 13, 101] (.seq (.ops [1, 8, 9, 10, 11, 12, 13, 99, 100, 101, 102]) (.seq (.cond .leaf .leaf) (.seq (.join [1, 8, 9, 10, 11, 12, 13, 99, 100, 101] (.blk (.seq (.ops [1, 8, 9, 10, 11, 12, 13, 15, 99, 100, 101]) (.seq (.ops [1, 8, 9, 10, 11, 12, 13, 15, 99, 100, 101]) (.seq (.blk (.join [1, 8, 9, 10, 11, 12, 13, 16, 99, 100, 101] (.seq (.ops [1, 8, 9, 10, 11, 12, 13, 15, 99, 100, 101, 106]) (.cond (.seq (.ops [1, 8, 9, 10, 11, 12, 13, 99, 100, 101]) .leaf) (.join [1, 8, 9, 10, 11, 12, 13, 16, 99, 100, 101] (.seq (.ops [1, 8, 9, 10, 11, 12, 13, 15, 99, 100, 101, 112]) (.cond (.ops [1, 8, 9, 10, 11, 12, 13, 16, 99, 100, 101]) (.seq (.ops [1, 8, 9, 10, 11, 12, 13, 15, 99, 100, 101, 121]) (.cond (.ops [1, 8, 9, 10, 11, 12, 13, 16, 99, 100, 101]) (.seq (.ops [6, 7]) .leaf)))))))))) (.seq (.seq (.ops [1, 8, 9, 10, 11, 12, 13, 16, 99, 100, 101, 137]) (.cond (.seq (.ops [6, 7]) .leaf) .leaf)) (.seq (.seq (.ops [1, 8, 9, 10, 11, 12, 13, 16, 99, 100, 101, 141]) (.cond (.seq (.ops [6, 7]) .leaf) .leaf)) (.seq (.ops [1, 8, 9, 10, 11, 12, 13, 16, 99, 100, 101]) (.seq (.ops [1, 8, 9, 10, 11, 12, 13, 17, 99, 100, 101]) (.seq (.seq (.ops [1, 8, 9, 10, 11, 12, 17, 99, 100, 101, 159]) (.cond (.seq (.ops [6, 7]) .leaf) .leaf)) (.ops [1, 8, 9, 10, 11, 12, 13, 99, 100, 101]))))))))))) (.ops [1, 8, 9, 10, 11, 12, 13, 99, 100, 101]))))))) (.seq (.join [13] (.seq (.ops [13, 169]) (.cond (.seq (.ops [6, 7]) .leaf) .leaf))) (.seq (.ops [6, 7]) .leaf)))))))))))))) (Tryz.f180.body.getD .skip) [a0, a1, a2] w R by kernel_rfl) h)
def sh186 (a0 : Value) (w : World) (R : Value → World → Prop) : Prop :=
 RunA Tryz.prog (bin .or 5 (.tmp 3) (.const (.int .u8 32)) a0 (.int .u8 32)) fun t4_1 =>
 R t4_1 w
theorem sh186_calls {a0 : Value} {w : World} {R : Value → World → Prop} (h : sh186 a0 w R) : CallF Tryz.prog 186 #[a0] w R :=
  calls_of_denF (mk := false) (args := [a0]) (an := (.seq (.ops [0]) (.seq (.ops [2]) .leaf))) (c := Tryz.f186.body.getD .skip) hent Tryz.func186 rfl (Nat.le_of_ble_eq_true (by kernel_rfl))
    (Eq.mp (show sh186 a0 w R = denF Tryz.prog ent false Tryz.f186 (.seq (.ops [0]) (.seq (.ops [2]) .leaf)) (Tryz.f186.body.getD .skip) [a0] w R by kernel_rfl) h)
def sh115 (a0 : Value) (w : World) (R : Value → World → Prop) : Prop :=
 CallF Tryz.prog 137 #[a0] w fun t8_1 w =>
 RunA Tryz.prog (Instr.extract t8_1 0) fun t9_2 =>
 RunA Tryz.prog (Instr.extract t8_1 1) fun t10_3 =>
 RunW Tryz.prog (bin .neq 28 (.tmp 11) (.const (.int .i64 4)) t10_3 (.int .i64 4)) w fun t12_4 =>
 IfB t12_4 (
 R (.tuple #[t9_2, t10_3]) w) (
 CallF Tryz.prog 138 #[a0] w fun t16_5 w =>
 RunA Tryz.prog (Instr.extract t16_5 0) fun t17_6 =>
 RunA Tryz.prog (Instr.extract t16_5 1) fun t18_7 =>
 R (.tuple #[t17_6, t18_7]) w)
theorem sh115_calls {a0 : Value} {w : World} {R : Value → World → Prop} (h : sh115 a0 w R) : CallF Tryz.prog 115 #[a0] w R :=
  calls_of_denF (mk := false) (args := [a0]) (an := (.seq (.ops [0]) (.seq (.seq (.ops [0, 4, 5]) (.seq (.ops [0, 4, 5, 12]) (.cond (.seq (.ops [2, 3]) .leaf) .leaf))) (.seq (.ops [2, 3]) .leaf)))) (c := Tryz.f115.body.getD .skip) hent Tryz.func115 rfl (Nat.le_of_ble_eq_true (by kernel_rfl))
    (Eq.mp (show sh115 a0 w R = denF Tryz.prog ent false Tryz.f115 (.seq (.ops [0]) (.seq (.seq (.ops [0, 4, 5]) (.seq (.ops [0, 4, 5, 12]) (.cond (.seq (.ops [2, 3]) .leaf) .leaf))) (.seq (.ops [2, 3]) .leaf))) (Tryz.f115.body.getD .skip) [a0] w R by kernel_rfl) h)
def sh137 (a0 : Value) (w : World) (R : Value → World → Prop) : Prop :=
 RunV Tryz.prog (Instr.build 197 #[(0, a0)]) w fun t7_1 w =>
 RunV Tryz.prog (Instr.box 197 t7_1) w fun t8_2 w =>
 RunV Tryz.prog (Instr.alloc 199 true (.tuple #[])) w fun t5_3 w =>
 CallF Tryz.prog 159 #[t8_2, (.int .i64 4), (.int .i64 4)] w fun t10_4 w =>
 RunA Tryz.prog (Instr.fieldAt 199 t5_3 0) fun t11_5 =>
 RunU Tryz.prog (Instr.storeAt 3 t11_5 t10_4) w fun w =>
 CallF Tryz.prog 160 #[t8_2, (.string ⟨#[45]⟩)] w fun t13_6 w =>
 CallF Tryz.prog 159 #[t8_2, (.int .i64 2), (.int .i64 2)] w fun t15_7 w =>
 RunA Tryz.prog (Instr.fieldAt 199 t5_3 1) fun t16_8 =>
 RunU Tryz.prog (Instr.storeAt 3 t16_8 t15_7) w fun w =>
 CallF Tryz.prog 160 #[t8_2, (.string ⟨#[45]⟩)] w fun t18_9 w =>
 CallF Tryz.prog 159 #[t8_2, (.int .i64 2), (.int .i64 2)] w fun t20_10 w =>
 RunA Tryz.prog (Instr.fieldAt 199 t5_3 2) fun t21_11 =>
 RunU Tryz.prog (Instr.storeAt 3 t21_11 t20_10) w fun w =>
 jn 2 (fun t4_12 t5_13 w =>
 CallF Tryz.prog 159 #[t4_12, (.int .i64 2), (.int .i64 2)] w fun t28_15 w =>
 RunA Tryz.prog (Instr.fieldAt 199 t5_13 3) fun t29_16 =>
 RunU Tryz.prog (Instr.storeAt 3 t29_16 t28_15) w fun w =>
 CallF Tryz.prog 160 #[t4_12, (.string ⟨#[58]⟩)] w fun t31_17 w =>
 CallF Tryz.prog 159 #[t4_12, (.int .i64 2), (.int .i64 2)] w fun t33_18 w =>
 RunA Tryz.prog (Instr.fieldAt 199 t5_13 4) fun t34_19 =>
 RunU Tryz.prog (Instr.storeAt 3 t34_19 t33_18) w fun w =>
 CallF Tryz.prog 160 #[t4_12, (.string ⟨#[58]⟩)] w fun t36_20 w =>
 CallF Tryz.prog 159 #[t4_12, (.int .i64 2), (.int .i64 2)] w fun t38_21 w =>
 RunA Tryz.prog (Instr.fieldAt 199 t5_13 5) fun t39_22 =>
 RunU Tryz.prog (Instr.storeAt 3 t39_22 t38_21) w fun w =>
 CallF Tryz.prog 162 #[t4_12] w fun t41_23 w =>
 jn 2 (fun t4_24 t5_25 w =>
 RunW Tryz.prog (Instr.loadAt 199 t5_25) w fun t54_27 =>
 CallF Tryz.prog 164 #[t4_24, t54_27] w fun t55_28 w =>
 RunA Tryz.prog (Instr.extract t55_28 0) fun t56_29 =>
 RunA Tryz.prog (Instr.extract t55_28 1) fun t57_30 =>
 R (.tuple #[t56_29, t57_30]) w) fun j_26 =>
 CallF Tryz.prog 161 #[t4_12, (.string ⟨#[90]⟩)] w fun t43_31 w =>
 RunA Tryz.prog (Op.unary .not t43_31) fun t44_32 =>
 IfB t44_32 (
 CallF Tryz.prog 161 #[t4_12, (.string ⟨#[122]⟩)] w fun t47_33 w =>
 RunA Tryz.prog (Op.unary .not t47_33) fun t48_34 =>
 IfB t48_34 (
 CallF Tryz.prog 163 #[t4_12, (.string ⟨#[58]⟩)] w fun t51_35 w =>
 RunA Tryz.prog (Instr.fieldAt 199 t5_13 6) fun t52_36 =>
 RunU Tryz.prog (Instr.storeAt 3 t52_36 t51_35) w fun w =>
 j_26 t4_12 t5_13 w) (
 j_26 t4_12 t5_13 w)) (
 j_26 t4_12 t5_13 w)) fun j_14 =>
 CallF Tryz.prog 161 #[t8_2, (.string ⟨#[84]⟩)] w fun t23_37 w =>
 RunA Tryz.prog (Op.unary .not t23_37) fun t24_38 =>
 IfB t24_38 (
 CallF Tryz.prog 160 #[t8_2, (.string ⟨#[116]⟩)] w fun t26_39 w =>
 j_14 t8_2 t5_3 w) (
 j_14 t8_2 t5_3 w)
theorem sh137_calls {a0 : Value} {w : World} {R : Value → World → Prop} (h : sh137 a0 w R) : CallF Tryz.prog 137 #[a0] w R :=
  calls_of_denF (mk := false) (args := [a0]) (an := (.seq (.ops [0]) (.seq (.ops [4]) (.seq (.ops [4, 5]) (.seq (.ops [4, 5]) (.seq (.ops [4, 5]) (.seq (.ops [4, 5]) (.seq (.ops [4, 5]) (.seq (.ops [4, 5]) (.seq (.join [4, 5] (.seq (.ops [4, 5, 24]) (.cond (.ops [4, 5]) .leaf))) (.seq (.ops [4, 5]) (.seq (.ops [4, 5]) (.seq (.ops [4, 5]) (.seq (.ops [4, 5]) (.seq (.ops [4, 5]) (.seq (.ops [4, 5]) (.seq (.join [4, 5] (.seq (.ops [4, 5, 49]) (.cond (.ops [4, 5]) .leaf))) (.seq (.ops [2, 3]) .leaf)))))))))))))))))) (c := Tryz.f137.body.getD .skip) hent Tryz.func137 rfl (Nat.le_of_ble_eq_true (by kernel_rfl))
    (Eq.mp (show sh137 a0 w R = denF Tryz.prog ent false Tryz.f137 (.seq (.ops [0]) (.seq (.ops [4]) (.seq (.ops [4, 5]) (.seq (.ops [4, 5]) (.seq (.ops [4, 5]) (.seq (.ops [4, 5]) (.seq (.ops [4, 5]) (.seq (.ops [4, 5]) (.seq (.join [4, 5] (.seq (.ops [4, 5, 24]) (.cond (.ops [4, 5]) .leaf))) (.seq (.ops [4, 5]) (.seq (.ops [4, 5]) (.seq (.ops [4, 5]) (.seq (.ops [4, 5]) (.seq (.ops [4, 5]) (.seq (.ops [4, 5]) (.seq (.join [4, 5] (.seq (.ops [4, 5, 49]) (.cond (.ops [4, 5]) .leaf))) (.seq (.ops [2, 3]) .leaf))))))))))))))))) (Tryz.f137.body.getD .skip) [a0] w R by kernel_rfl) h)
def sh138 (a0 : Value) (w : World) (R : Value → World → Prop) : Prop :=
 RunV Tryz.prog (Instr.build 197 #[(0, a0)]) w fun t7_1 w =>
 RunV Tryz.prog (Instr.box 197 t7_1) w fun t8_2 w =>
 jn 1 (fun t4_3 w =>
 RunV Tryz.prog (Instr.alloc 199 true (.tuple #[])) w fun t5_5 w =>
 CallF Tryz.prog 159 #[t4_3, (.int .i64 1), (.int .i64 2)] w fun t16_6 w =>
 RunA Tryz.prog (Instr.fieldAt 199 t5_5 2) fun t17_7 =>
 RunU Tryz.prog (Instr.storeAt 3 t17_7 t16_6) w fun w =>
 CallF Tryz.prog 160 #[t4_3, (.string ⟨#[32]⟩)] w fun t19_8 w =>
 CallF Tryz.prog 167 #[] w fun t21_9 w =>
 CallF Tryz.prog 165 #[t4_3, t21_9] w fun t22_10 w =>
 RunA Tryz.prog (Instr.fieldAt 199 t5_5 1) fun t23_11 =>
 RunU Tryz.prog (Instr.storeAt 3 t23_11 t22_10) w fun w =>
 jn 2 (fun t4_12 t5_13 w =>
 CallF Tryz.prog 160 #[t4_12, (.string ⟨#[32]⟩)] w fun t31_15 w =>
 CallF Tryz.prog 168 #[t4_12] w fun t33_16 w =>
 RunA Tryz.prog (Instr.fieldAt 199 t5_13 0) fun t34_17 =>
 RunU Tryz.prog (Instr.storeAt 3 t34_17 t33_16) w fun w =>
 CallF Tryz.prog 160 #[t4_12, (.string ⟨#[32]⟩)] w fun t36_18 w =>
 CallF Tryz.prog 159 #[t4_12, (.int .i64 2), (.int .i64 2)] w fun t38_19 w =>
 RunA Tryz.prog (Instr.fieldAt 199 t5_13 3) fun t39_20 =>
 RunU Tryz.prog (Instr.storeAt 3 t39_20 t38_19) w fun w =>
 CallF Tryz.prog 160 #[t4_12, (.string ⟨#[58]⟩)] w fun t41_21 w =>
 CallF Tryz.prog 159 #[t4_12, (.int .i64 2), (.int .i64 2)] w fun t43_22 w =>
 RunA Tryz.prog (Instr.fieldAt 199 t5_13 4) fun t44_23 =>
 RunU Tryz.prog (Instr.storeAt 3 t44_23 t43_22) w fun w =>
 jn 2 (fun t4_24 t5_25 w =>
 CallF Tryz.prog 160 #[t4_24, (.string ⟨#[32]⟩)] w fun t51_27 w =>
 CallF Tryz.prog 169 #[t4_24] w fun t53_28 w =>
 RunA Tryz.prog (Instr.fieldAt 199 t5_25 6) fun t54_29 =>
 RunU Tryz.prog (Instr.storeAt 3 t54_29 t53_28) w fun w =>
 RunW Tryz.prog (Instr.loadAt 199 t5_25) w fun t56_30 =>
 CallF Tryz.prog 164 #[t4_24, t56_30] w fun t57_31 w =>
 RunA Tryz.prog (Instr.extract t57_31 0) fun t58_32 =>
 RunA Tryz.prog (Instr.extract t57_31 1) fun t59_33 =>
 R (.tuple #[t58_32, t59_33]) w) fun j_26 =>
 CallF Tryz.prog 161 #[t4_12, (.string ⟨#[58]⟩)] w fun t46_34 w =>
 IfB t46_34 (
 CallF Tryz.prog 159 #[t4_12, (.int .i64 2), (.int .i64 2)] w fun t48_35 w =>
 RunA Tryz.prog (Instr.fieldAt 199 t5_13 5) fun t49_36 =>
 RunU Tryz.prog (Instr.storeAt 3 t49_36 t48_35) w fun w =>
 j_26 t4_12 t5_13 w) (
 j_26 t4_12 t5_13 w)) fun j_14 =>
 RunA Tryz.prog (Instr.fieldAt 199 t5_5 1) fun t24_37 =>
 RunW Tryz.prog (Instr.loadAt 3 t24_37) w fun t25_38 =>
 RunW Tryz.prog (bin .eql 3 (.tmp 25) (.const (.int .i64 0)) t25_38 (.int .i64 0)) w fun t26_39 =>
 IfB t26_39 (
 RunA Tryz.prog (nilV t4_3) fun t28_40 =>
 RunA Tryz.prog (Instr.fieldAt 197 t28_40 1) fun t29_41 =>
 RunU Tryz.prog (Instr.storeAt 4 t29_41 (.bool true)) w fun w =>
 j_14 t4_3 t5_5 w) (
 j_14 t4_3 t5_5 w)) fun j_4 =>
 CallF Tryz.prog 166 #[] w fun t10_42 w =>
 CallF Tryz.prog 165 #[t8_2, t10_42] w fun t11_43 w =>
 RunA Tryz.prog (bin .gtr 3 (.tmp 11) (.const (.int .i64 0)) t11_43 (.int .i64 0)) fun t12_44 =>
 IfB t12_44 (
 CallF Tryz.prog 160 #[t8_2, (.string ⟨#[44, 32]⟩)] w fun t14_45 w =>
 j_4 t8_2 w) (
 j_4 t8_2 w)
theorem sh138_calls {a0 : Value} {w : World} {R : Value → World → Prop} (h : sh138 a0 w R) : CallF Tryz.prog 138 #[a0] w R :=
  calls_of_denF (mk := false) (args := [a0]) (an := (.seq (.ops [0]) (.seq (.ops [4]) (.seq (.join [4] (.seq (.ops [4, 12]) (.cond (.ops [4]) .leaf))) (.seq (.ops [4, 5]) (.seq (.ops [4, 5]) (.seq (.ops [4, 5]) (.seq (.ops [4, 5]) (.seq (.join [4, 5] (.seq (.ops [4, 5, 26]) (.cond (.ops [4, 5]) .leaf))) (.seq (.ops [4, 5]) (.seq (.ops [4, 5]) (.seq (.ops [4, 5]) (.seq (.ops [4, 5]) (.seq (.ops [4, 5]) (.seq (.ops [4, 5]) (.seq (.join [4, 5] (.seq (.ops [4, 5, 46]) (.cond (.ops [4, 5]) .leaf))) (.seq (.ops [4, 5]) (.seq (.ops [4, 5]) (.seq (.ops [2, 3]) .leaf))))))))))))))))))) (c := Tryz.f138.body.getD .skip) hent Tryz.func138 rfl (Nat.le_of_ble_eq_true (by kernel_rfl))
    (Eq.mp (show sh138 a0 w R = denF Tryz.prog ent false Tryz.f138 (.seq (.ops [0]) (.seq (.ops [4]) (.seq (.join [4] (.seq (.ops [4, 12]) (.cond (.ops [4]) .leaf))) (.seq (.ops [4, 5]) (.seq (.ops [4, 5]) (.seq (.ops [4, 5]) (.seq (.ops [4, 5]) (.seq (.join [4, 5] (.seq (.ops [4, 5, 26]) (.cond (.ops [4, 5]) .leaf))) (.seq (.ops [4, 5]) (.seq (.ops [4, 5]) (.seq (.ops [4, 5]) (.seq (.ops [4, 5]) (.seq (.ops [4, 5]) (.seq (.ops [4, 5]) (.seq (.join [4, 5] (.seq (.ops [4, 5, 46]) (.cond (.ops [4, 5]) .leaf))) (.seq (.ops [4, 5]) (.seq (.ops [4, 5]) (.seq (.ops [2, 3]) .leaf)))))))))))))))))) (Tryz.f138.body.getD .skip) [a0] w R by kernel_rfl) h)
def sh159 (a0 a1 a2 : Value) (w : World) (R : Value → World → Prop) : Prop :=
 jn 4 (fun t0_1 t1_2 t7_3 t8_4 w =>
 jn 3 (fun t0_6 t7_7 t8_8 w =>
 RunA Tryz.prog (nilV t0_6) fun t60_10 =>
 RunA Tryz.prog (Instr.fieldAt 197 t60_10 0) fun t61_11 =>
 RunW Tryz.prog (Instr.loadAt 9 t61_11) w fun t62_12 =>
 RunA Tryz.prog (Instr.sliceAt 9 t62_12 (some t8_8) none none) fun t64_13 =>
 RunA Tryz.prog (nilV t0_6) fun t65_14 =>
 RunA Tryz.prog (Instr.fieldAt 197 t65_14 0) fun t66_15 =>
 RunU Tryz.prog (Instr.storeAt 9 t66_15 t64_13) w fun w =>
 R t7_7 w) fun j_9 =>
 RunA Tryz.prog (bin .lss 3 (.tmp 52) (.tmp 53) t8_4 t1_2) fun t54_16 =>
 IfB t54_16 (
 RunA Tryz.prog (nilV t0_1) fun t56_17 =>
 RunA Tryz.prog (Instr.fieldAt 197 t56_17 1) fun t57_18 =>
 RunU Tryz.prog (Instr.storeAt 4 t57_18 (.bool true)) w fun w =>
 j_9 t0_1 t7_3 t8_4 w) (
 j_9 t0_1 t7_3 t8_4 w)) fun j_5 =>
 lp 2 (fun n_21 t7_19 t8_20 w =>
 RunA Tryz.prog (bin .lss 3 (.tmp 9) (.tmp 10) t8_20 a2) fun t11_22 =>
 IfB t11_22 (
 RunA Tryz.prog (nilV a0) fun t15_23 =>
 RunA Tryz.prog (Instr.fieldAt 197 t15_23 0) fun t16_24 =>
 RunW Tryz.prog (Instr.loadAt 9 t16_24) w fun t17_25 =>
 RunW Tryz.prog (Builtin.len_ #[9] 3 #[t17_25]) w fun t18_26 =>
 RunA Tryz.prog (bin .lss 3 (.tmp 13) (.tmp 18) t8_20 t18_26) fun t19_27 =>
 IfB t19_27 (
 RunA Tryz.prog (nilV a0) fun t23_28 =>
 RunA Tryz.prog (Instr.fieldAt 197 t23_28 0) fun t24_29 =>
 RunW Tryz.prog (Instr.loadAt 9 t24_29) w fun t25_30 =>
 RunA Tryz.prog (Instr.index 9 t25_30 t8_20) fun t27_31 =>
 RunA Tryz.prog (bin .geq 5 (.tmp 27) (.const (.int .u8 48)) t27_31 (.int .u8 48)) fun t28_32 =>
 IfB t28_32 (
 RunA Tryz.prog (nilV a0) fun t32_33 =>
 RunA Tryz.prog (Instr.fieldAt 197 t32_33 0) fun t33_34 =>
 RunW Tryz.prog (Instr.loadAt 9 t33_34) w fun t34_35 =>
 RunA Tryz.prog (Instr.index 9 t34_35 t8_20) fun t36_36 =>
 RunA Tryz.prog (bin .leq 5 (.tmp 36) (.const (.int .u8 57)) t36_36 (.int .u8 57)) fun t37_37 =>
 IfB t37_37 (
 RunA Tryz.prog (bin .mul 3 (.tmp 39) (.const (.int .i64 10)) t7_19 (.int .i64 10)) fun t40_38 =>
 RunA Tryz.prog (nilV a0) fun t42_39 =>
 RunA Tryz.prog (Instr.fieldAt 197 t42_39 0) fun t43_40 =>
 RunW Tryz.prog (Instr.loadAt 9 t43_40) w fun t44_41 =>
 RunA Tryz.prog (Instr.index 9 t44_41 t8_20) fun t46_42 =>
 RunA Tryz.prog (bin .sub 5 (.tmp 46) (.const (.int .u8 48)) t46_42 (.int .u8 48)) fun t47_43 =>
 RunV Tryz.prog (convert 5 3 t47_43) w fun t48_44 w =>
 RunA Tryz.prog (bin .add 3 (.tmp 40) (.tmp 48) t40_38 t48_44) fun t49_45 =>
 RunA Tryz.prog (bin .add 3 (.tmp 50) (.const (.int .i64 1)) t8_20 (.int .i64 1)) fun t51_46 =>
 (a0 : Value) = a0 ∧ ((a1 : Value) = a1 ∧ ((a2 : Value) = a2 ∧ (n_21 t49_45 t51_46 w)))) (
 j_5 a0 a1 t7_19 t8_20 w)) (
 j_5 a0 a1 t7_19 t8_20 w)) (
 j_5 a0 a1 t7_19 t8_20 w)) (
 j_5 a0 a1 t7_19 t8_20 w)) [(.int .i64 0), (.int .i64 0)] w
theorem sh159_calls {a0 a1 a2 : Value} {w : World} {R : Value → World → Prop} (h : sh159 a0 a1 a2 w R) : CallF Tryz.prog 159 #[a0, a1, a2] w R :=
  calls_of_denF (mk := false) (args := [a0, a1, a2]) (an := (.seq (.ops [0, 1, 2]) (.seq (.ops [0, 1, 2, 7, 8]) (.seq (.join [0, 1, 7, 8] (.blk (.loop [0, 1, 2] [7, 8] (.seq (.seq (.ops [0, 1, 2, 7, 8, 38]) (.cond .leaf .leaf)) (.blk (.seq (.ops [0, 1, 2, 7, 8]) (.ops [0, 1, 2, 7, 8]))))))) (.seq (.join [0, 7, 8] (.seq (.ops [0, 7, 8, 54]) (.cond (.ops [0, 7, 8]) .leaf))) (.seq (.ops [7]) (.seq (.ops [6]) .leaf))))))) (c := Tryz.f159.body.getD .skip) hent Tryz.func159 rfl (Nat.le_of_ble_eq_true (by kernel_rfl))
    (Eq.mp (show sh159 a0 a1 a2 w R = denF Tryz.prog ent false Tryz.f159 (.seq (.ops [0, 1, 2]) (.seq (.ops [0, 1, 2, 7, 8]) (.seq (.join [0, 1, 7, 8] (.blk (.loop [0, 1, 2] [7, 8] (.seq (.seq (.ops [0, 1, 2, 7, 8, 38]) (.cond .leaf .leaf)) (.blk (.seq (.ops [0, 1, 2, 7, 8]) (.ops [0, 1, 2, 7, 8]))))))) (.seq (.join [0, 7, 8] (.seq (.ops [0, 7, 8, 54]) (.cond (.ops [0, 7, 8]) .leaf))) (.seq (.ops [7]) (.seq (.ops [6]) .leaf)))))) (Tryz.f159.body.getD .skip) [a0, a1, a2] w R by kernel_rfl) h)
def sh160 (a0 a1 : Value) (w : World) (R : Value → World → Prop) : Prop :=
 CallF Tryz.prog 161 #[a0, a1] w fun t6_1 w =>
 RunA Tryz.prog (Op.unary .not t6_1) fun t7_2 =>
 IfB t7_2 (
 RunA Tryz.prog (nilV a0) fun t9_3 =>
 RunA Tryz.prog (Instr.fieldAt 197 t9_3 1) fun t10_4 =>
 RunU Tryz.prog (Instr.storeAt 4 t10_4 (.bool true)) w fun w =>
 R (.tuple #[]) w) (
 R (.tuple #[]) w)
theorem sh160_calls {a0 a1 : Value} {w : World} {R : Value → World → Prop} (h : sh160 a0 a1 w R) : CallF Tryz.prog 160 #[a0, a1] w R :=
  calls_of_denF (mk := false) (args := [a0, a1]) (an := (.seq (.ops [0, 7]) (.cond (.ops []) .leaf))) (c := Tryz.f160.body.getD .skip) hent Tryz.func160 rfl (Nat.le_of_ble_eq_true (by kernel_rfl))
    (Eq.mp (show sh160 a0 a1 w R = denF Tryz.prog ent false Tryz.f160 (.seq (.ops [0, 7]) (.cond (.ops []) .leaf)) (Tryz.f160.body.getD .skip) [a0, a1] w R by kernel_rfl) h)
def sh161 (a0 a1 : Value) (w : World) (R : Value → World → Prop) : Prop :=
 RunA Tryz.prog (nilV a0) fun t9_1 =>
 RunA Tryz.prog (Instr.fieldAt 197 t9_1 0) fun t10_2 =>
 RunW Tryz.prog (Instr.loadAt 9 t10_2) w fun t11_3 =>
 CallF Tryz.prog 173 #[t11_3, a1] w fun t13_4 w =>
 RunA Tryz.prog (Instr.extract t13_4 0) fun t14_5 =>
 RunA Tryz.prog (Instr.extract t13_4 1) fun t15_6 =>
 jn 1 (fun t6_7 w =>
 R t6_7 w) fun j_8 =>
 IfB t15_6 (
 RunA Tryz.prog (nilV a0) fun t19_9 =>
 RunA Tryz.prog (Instr.fieldAt 197 t19_9 0) fun t20_10 =>
 RunU Tryz.prog (Instr.storeAt 9 t20_10 t14_5) w fun w =>
 j_8 t15_6 w) (
 j_8 t15_6 w)
theorem sh161_calls {a0 a1 : Value} {w : World} {R : Value → World → Prop} (h : sh161 a0 a1 w R) : CallF Tryz.prog 161 #[a0, a1] w R :=
  calls_of_denF (mk := false) (args := [a0, a1]) (an := (.seq (.ops [0, 1]) (.seq (.ops [0, 5, 6]) (.seq (.join [6] (.seq (.ops [0, 5, 6, 16]) (.cond (.ops [6]) .leaf))) (.seq (.ops [4]) .leaf))))) (c := Tryz.f161.body.getD .skip) hent Tryz.func161 rfl (Nat.le_of_ble_eq_true (by kernel_rfl))
    (Eq.mp (show sh161 a0 a1 w R = denF Tryz.prog ent false Tryz.f161 (.seq (.ops [0, 1]) (.seq (.ops [0, 5, 6]) (.seq (.join [6] (.seq (.ops [0, 5, 6, 16]) (.cond (.ops [6]) .leaf))) (.seq (.ops [4]) .leaf)))) (Tryz.f161.body.getD .skip) [a0, a1] w R by kernel_rfl) h)
def sh162 (a0 : Value) (w : World) (R : Value → World → Prop) : Prop :=
 CallF Tryz.prog 161 #[a0, (.string ⟨#[46]⟩)] w fun t3_1 w =>
 IfB t3_1 (
 CallF Tryz.prog 159 #[a0, (.int .i64 1), (.int .i64 1)] w fun t5_2 w =>
 RunA Tryz.prog (nilV a0) fun t8_3 =>
 RunA Tryz.prog (Instr.fieldAt 197 t8_3 0) fun t9_4 =>
 RunW Tryz.prog (Instr.loadAt 9 t9_4) w fun t10_5 =>
 CallF Tryz.prog 174 #[t10_5, (.string ⟨#[48, 49, 50, 51, 52, 53, 54, 55, 56, 57]⟩)] w fun t11_6 w =>
 RunA Tryz.prog (nilV a0) fun t12_7 =>
 RunA Tryz.prog (Instr.fieldAt 197 t12_7 0) fun t13_8 =>
 RunU Tryz.prog (Instr.storeAt 9 t13_8 t11_6) w fun w =>
 R (.tuple #[]) w) (
 R (.tuple #[]) w)
theorem sh162_calls {a0 : Value} {w : World} {R : Value → World → Prop} (h : sh162 a0 w R) : CallF Tryz.prog 162 #[a0] w R :=
  calls_of_denF (mk := false) (args := [a0]) (an := (.seq (.ops [0, 3]) (.cond (.seq (.ops [0]) (.ops [])) .leaf))) (c := Tryz.f162.body.getD .skip) hent Tryz.func162 rfl (Nat.le_of_ble_eq_true (by kernel_rfl))
    (Eq.mp (show sh162 a0 w R = denF Tryz.prog ent false Tryz.f162 (.seq (.ops [0, 3]) (.cond (.seq (.ops [0]) (.ops [])) .leaf)) (Tryz.f162.body.getD .skip) [a0] w R by kernel_rfl) h)
def sh163 (a0 a1 : Value) (w : World) (R : Value → World → Prop) : Prop :=
 jn 3 (fun t0_1 t1_2 t5_3 w =>
 CallF Tryz.prog 159 #[t0_1, (.int .i64 2), (.int .i64 2)] w fun t14_5 w =>
 CallF Tryz.prog 160 #[t0_1, t1_2] w fun t17_6 w =>
 CallF Tryz.prog 159 #[t0_1, (.int .i64 2), (.int .i64 2)] w fun t19_7 w =>
 jn 3 (fun t5_8 t6_9 t7_10 w =>
 RunA Tryz.prog (bin .mul 3 (.tmp 30) (.const (.int .i64 3600)) t6_9 (.int .i64 3600)) fun t31_12 =>
 RunA Tryz.prog (bin .mul 3 (.tmp 32) (.const (.int .i64 60)) t7_10 (.int .i64 60)) fun t33_13 =>
 RunA Tryz.prog (bin .add 3 (.tmp 31) (.tmp 33) t31_12 t33_13) fun t34_14 =>
 RunA Tryz.prog (bin .mul 3 (.tmp 29) (.tmp 34) t5_8 t34_14) fun t35_15 =>
 R t35_15 w) fun j_11 =>
 RunA Tryz.prog (bin .gtr 3 (.tmp 20) (.const (.int .i64 23)) t14_5 (.int .i64 23)) fun t21_16 =>
 IfB t21_16 (
 RunA Tryz.prog (nilV t0_1) fun t27_17 =>
 RunA Tryz.prog (Instr.fieldAt 197 t27_17 1) fun t28_18 =>
 RunU Tryz.prog (Instr.storeAt 4 t28_18 (.bool true)) w fun w =>
 j_11 t5_3 t14_5 t19_7 w) (
 RunA Tryz.prog (bin .gtr 3 (.tmp 23) (.const (.int .i64 59)) t19_7 (.int .i64 59)) fun t24_19 =>
 IfB t24_19 (
 RunA Tryz.prog (nilV t0_1) fun t27_20 =>
 RunA Tryz.prog (Instr.fieldAt 197 t27_20 1) fun t28_21 =>
 RunU Tryz.prog (Instr.storeAt 4 t28_21 (.bool true)) w fun w =>
 j_11 t5_3 t14_5 t19_7 w) (
 j_11 t5_3 t14_5 t19_7 w))) fun j_4 =>
 CallF Tryz.prog 161 #[a0, (.string ⟨#[43]⟩)] w fun t9_22 w =>
 RunA Tryz.prog (Op.unary .not t9_22) fun t10_23 =>
 IfB t10_23 (
 CallF Tryz.prog 160 #[a0, (.string ⟨#[45]⟩)] w fun t12_24 w =>
 j_4 a0 a1 (.int .i64 (-1)) w) (
 j_4 a0 a1 (.int .i64 1) w)
theorem sh163_calls {a0 a1 : Value} {w : World} {R : Value → World → Prop} (h : sh163 a0 a1 w R) : CallF Tryz.prog 163 #[a0, a1] w R :=
  calls_of_denF (mk := false) (args := [a0, a1]) (an := (.seq (.ops [0, 1]) (.seq (.ops [0, 1, 5]) (.seq (.join [0, 1, 5] (.seq (.ops [0, 1, 5, 10]) (.cond (.seq (.ops [0, 1]) (.ops [0, 1, 5])) .leaf))) (.seq (.ops [0, 1, 5, 6]) (.seq (.ops [0, 5, 6]) (.seq (.ops [0, 5, 6, 7]) (.seq (.join [5, 6, 7] (.seq (.ops [0, 5, 6, 7, 25]) (.cond (.ops [5, 6, 7]) .leaf))) (.seq (.ops [4]) .leaf))))))))) (c := Tryz.f163.body.getD .skip) hent Tryz.func163 rfl (Nat.le_of_ble_eq_true (by kernel_rfl))
    (Eq.mp (show sh163 a0 a1 w R = denF Tryz.prog ent false Tryz.f163 (.seq (.ops [0, 1]) (.seq (.ops [0, 1, 5]) (.seq (.join [0, 1, 5] (.seq (.ops [0, 1, 5, 10]) (.cond (.seq (.ops [0, 1]) (.ops [0, 1, 5])) .leaf))) (.seq (.ops [0, 1, 5, 6]) (.seq (.ops [0, 5, 6]) (.seq (.ops [0, 5, 6, 7]) (.seq (.join [5, 6, 7] (.seq (.ops [0, 5, 6, 7, 25]) (.cond (.ops [5, 6, 7]) .leaf))) (.seq (.ops [4]) .leaf)))))))) (Tryz.f163.body.getD .skip) [a0, a1] w R by kernel_rfl) h)
def sh164 (a0 a1 : Value) (w : World) (R : Value → World → Prop) : Prop :=
 RunV Tryz.prog (Instr.box 199 a1) w fun t3_1 w =>
 RunA Tryz.prog (nilV a0) fun t9_2 =>
 RunA Tryz.prog (Instr.fieldAt 197 t9_2 1) fun t10_3 =>
 RunW Tryz.prog (Instr.loadAt 4 t10_3) w fun t11_4 =>
 IfB t11_4 (
 R (.tuple #[(.int .i64 0), (.int .i64 4)]) w) (
 RunA Tryz.prog (nilV a0) fun t14_5 =>
 RunA Tryz.prog (Instr.fieldAt 197 t14_5 0) fun t15_6 =>
 RunW Tryz.prog (Instr.loadAt 9 t15_6) w fun t16_7 =>
 RunW Tryz.prog (bin .neq 9 (.tmp 16) (.const (.string ⟨#[]⟩)) t16_7 (.string ⟨#[]⟩)) w fun t17_8 =>
 IfB t17_8 (
 R (.tuple #[(.int .i64 0), (.int .i64 4)]) w) (
 RunA Tryz.prog (Instr.fieldAt 199 t3_1 0) fun t20_9 =>
 RunW Tryz.prog (Instr.loadAt 3 t20_9) w fun t21_10 =>
 RunA Tryz.prog (Instr.fieldAt 199 t3_1 1) fun t22_11 =>
 RunW Tryz.prog (Instr.loadAt 3 t22_11) w fun t23_12 =>
 RunA Tryz.prog (Instr.fieldAt 199 t3_1 2) fun t24_13 =>
 RunW Tryz.prog (Instr.loadAt 3 t24_13) w fun t25_14 =>
 RunA Tryz.prog (Instr.fieldAt 199 t3_1 3) fun t26_15 =>
 RunW Tryz.prog (Instr.loadAt 3 t26_15) w fun t27_16 =>
 RunA Tryz.prog (Instr.fieldAt 199 t3_1 4) fun t28_17 =>
 RunW Tryz.prog (Instr.loadAt 3 t28_17) w fun t29_18 =>
 RunA Tryz.prog (Instr.fieldAt 199 t3_1 5) fun t30_19 =>
 RunW Tryz.prog (Instr.loadAt 3 t30_19) w fun t31_20 =>
 CallF Tryz.prog 175 #[t21_10, t23_12, t25_14, t27_16, t29_18, t31_20] w fun t32_21 w =>
 RunA Tryz.prog (Instr.extract t32_21 0) fun t33_22 =>
 RunA Tryz.prog (Instr.extract t32_21 1) fun t34_23 =>
 RunA Tryz.prog (Op.unary .not t34_23) fun t36_24 =>
 IfB t36_24 (
 R (.tuple #[(.int .i64 0), (.int .i64 1)]) w) (
 RunA Tryz.prog (Instr.fieldAt 199 t3_1 6) fun t39_25 =>
 RunW Tryz.prog (Instr.loadAt 3 t39_25) w fun t40_26 =>
 RunA Tryz.prog (bin .sub 3 (.tmp 38) (.tmp 40) t33_22 t40_26) fun t41_27 =>
 CallF Tryz.prog 176 #[t41_27] w fun t42_28 w =>
 RunA Tryz.prog (Op.unary .not t42_28) fun t43_29 =>
 IfB t43_29 (
 R (.tuple #[(.int .i64 0), (.int .i64 1)]) w) (
 RunA Tryz.prog (Instr.fieldAt 199 t3_1 6) fun t46_30 =>
 RunW Tryz.prog (Instr.loadAt 3 t46_30) w fun t47_31 =>
 RunA Tryz.prog (bin .sub 3 (.tmp 45) (.tmp 47) t33_22 t47_31) fun t48_32 =>
 R (.tuple #[t48_32, (.int .i64 0)]) w))))
theorem sh164_calls {a0 a1 : Value} {w : World} {R : Value → World → Prop} (h : sh164 a0 a1 w R) : CallF Tryz.prog 164 #[a0, a1] w R :=
  calls_of_denF (mk := false) (args := [a0, a1]) (an := (.seq (.ops [0, 3]) (.seq (.seq (.ops [3, 18]) (.cond (.seq (.ops [4, 5]) .leaf) .leaf)) (.seq (.ops [3, 6, 7]) (.seq (.seq (.ops [3, 6, 44]) (.cond (.seq (.ops [4, 5]) .leaf) .leaf)) (.seq (.ops [4, 5]) .leaf)))))) (c := Tryz.f164.body.getD .skip) hent Tryz.func164 rfl (Nat.le_of_ble_eq_true (by kernel_rfl))
    (Eq.mp (show sh164 a0 a1 w R = denF Tryz.prog ent false Tryz.f164 (.seq (.ops [0, 3]) (.seq (.seq (.ops [3, 18]) (.cond (.seq (.ops [4, 5]) .leaf) .leaf)) (.seq (.ops [3, 6, 7]) (.seq (.seq (.ops [3, 6, 44]) (.cond (.seq (.ops [4, 5]) .leaf) .leaf)) (.seq (.ops [4, 5]) .leaf))))) (Tryz.f164.body.getD .skip) [a0, a1] w R by kernel_rfl) h)
def sh165 (a0 a1 : Value) (w : World) (R : Value → World → Prop) : Prop :=
 RunV Tryz.prog (Instr.makeFunc (Go.Fn.func 161) #[a0] #[]) w fun t7_1 w =>
 CallF Tryz.prog 177 #[a1, t7_1] w fun t8_2 w =>
 RunA Tryz.prog (bin .add 3 (.const (.int .i64 1)) (.tmp 8) (.int .i64 1) t8_2) fun t9_3 =>
 R t9_3 w
theorem sh165_calls {a0 a1 : Value} {w : World} {R : Value → World → Prop} (h : sh165 a0 a1 w R) : CallF Tryz.prog 165 #[a0, a1] w R :=
  calls_of_denF (mk := false) (args := [a0, a1]) (an := (.seq (.ops [0, 1]) (.seq (.ops [4]) .leaf))) (c := Tryz.f165.body.getD .skip) hent Tryz.func165 rfl (Nat.le_of_ble_eq_true (by kernel_rfl))
    (Eq.mp (show sh165 a0 a1 w R = denF Tryz.prog ent false Tryz.f165 (.seq (.ops [0, 1]) (.seq (.ops [4]) .leaf)) (Tryz.f165.body.getD .skip) [a0, a1] w R by kernel_rfl) h)
def sh166 (w : World) (R : Value → World → Prop) : Prop :=
 RunV Tryz.prog (Instr.buildSlice 22 7 #[(0, (.string ⟨#[77, 111, 110]⟩)), (1, (.string ⟨#[84, 117, 101]⟩)), (2, (.string ⟨#[87, 101, 100]⟩)), (3, (.string ⟨#[84, 104, 117]⟩)), (4, (.string ⟨#[70, 114, 105]⟩)), (5, (.string ⟨#[83, 97, 116]⟩)), (6, (.string ⟨#[83, 117, 110]⟩))]) w fun t1_1 w =>
 R t1_1 w
theorem sh166_calls {w : World} {R : Value → World → Prop} (h : sh166  w R) : CallF Tryz.prog 166 #[] w R :=
  calls_of_denF (mk := false) (args := []) (an := (.seq (.ops []) (.seq (.ops [0]) .leaf))) (c := Tryz.f166.body.getD .skip) hent Tryz.func166 rfl (Nat.le_of_ble_eq_true (by kernel_rfl))
    (Eq.mp (show sh166  w R = denF Tryz.prog ent false Tryz.f166 (.seq (.ops []) (.seq (.ops [0]) .leaf)) (Tryz.f166.body.getD .skip) [] w R by kernel_rfl) h)
def sh167 (w : World) (R : Value → World → Prop) : Prop :=
 RunV Tryz.prog (Instr.buildSlice 22 12 #[(0, (.string ⟨#[74, 97, 110]⟩)), (1, (.string ⟨#[70, 101, 98]⟩)), (2, (.string ⟨#[77, 97, 114]⟩)), (3, (.string ⟨#[65, 112, 114]⟩)), (4, (.string ⟨#[77, 97, 121]⟩)), (5, (.string ⟨#[74, 117, 110]⟩)), (6, (.string ⟨#[74, 117, 108]⟩)), (7, (.string ⟨#[65, 117, 103]⟩)), (8, (.string ⟨#[83, 101, 112]⟩)), (9, (.string ⟨#[79, 99, 116]⟩)), (10, (.string ⟨#[78, 111, 118]⟩)), (11, (.string ⟨#[68, 101, 99]⟩))]) w fun t1_1 w =>
 R t1_1 w
theorem sh167_calls {w : World} {R : Value → World → Prop} (h : sh167  w R) : CallF Tryz.prog 167 #[] w R :=
  calls_of_denF (mk := false) (args := []) (an := (.seq (.ops []) (.seq (.ops [0]) .leaf))) (c := Tryz.f167.body.getD .skip) hent Tryz.func167 rfl (Nat.le_of_ble_eq_true (by kernel_rfl))
    (Eq.mp (show sh167  w R = denF Tryz.prog ent false Tryz.f167 (.seq (.ops []) (.seq (.ops [0]) .leaf)) (Tryz.f167.body.getD .skip) [] w R by kernel_rfl) h)
def sh168 (a0 : Value) (w : World) (R : Value → World → Prop) : Prop :=
 RunA Tryz.prog (nilV a0) fun t6_1 =>
 RunA Tryz.prog (Instr.fieldAt 197 t6_1 0) fun t7_2 =>
 RunW Tryz.prog (Instr.loadAt 9 t7_2) w fun t8_3 =>
 RunW Tryz.prog (Builtin.len_ #[9] 3 #[t8_3]) w fun t9_4 =>
 CallF Tryz.prog 159 #[a0, (.int .i64 2), (.int .i64 4)] w fun t11_5 w =>
 RunA Tryz.prog (nilV a0) fun t14_6 =>
 RunA Tryz.prog (Instr.fieldAt 197 t14_6 0) fun t15_7 =>
 RunW Tryz.prog (Instr.loadAt 9 t15_7) w fun t16_8 =>
 RunW Tryz.prog (Builtin.len_ #[9] 3 #[t16_8]) w fun t17_9 =>
 RunA Tryz.prog (bin .sub 3 (.tmp 12) (.tmp 17) t9_4 t17_9) fun t18_10 =>
 RunW Tryz.prog (bin .eql 3 (.tmp 18) (.const (.int .i64 4)) t18_10 (.int .i64 4)) w fun t20_11 =>
 IfB t20_11 (
 R t11_5 w) (
 jn 1 (fun t4_12 w =>
 RunA Tryz.prog (bin .leq 3 (.tmp 27) (.const (.int .i64 68)) t4_12 (.int .i64 68)) fun t28_14 =>
 IfB t28_14 (
 RunA Tryz.prog (bin .add 3 (.const (.int .i64 2000)) (.tmp 29) (.int .i64 2000) t4_12) fun t30_15 =>
 R t30_15 w) (
 RunA Tryz.prog (bin .add 3 (.const (.int .i64 1900)) (.tmp 31) (.int .i64 1900) t4_12) fun t32_16 =>
 R t32_16 w)) fun j_13 =>
 RunW Tryz.prog (bin .eql 3 (.tmp 18) (.const (.int .i64 3)) t18_10 (.int .i64 3)) w fun t23_17 =>
 IfB t23_17 (
 RunA Tryz.prog (nilV a0) fun t25_18 =>
 RunA Tryz.prog (Instr.fieldAt 197 t25_18 1) fun t26_19 =>
 RunU Tryz.prog (Instr.storeAt 4 t26_19 (.bool true)) w fun w =>
 j_13 t11_5 w) (
 j_13 t11_5 w))
theorem sh168_calls {a0 : Value} {w : World} {R : Value → World → Prop} (h : sh168 a0 w R) : CallF Tryz.prog 168 #[a0] w R :=
  calls_of_denF (mk := false) (args := [a0]) (an := (.seq (.ops [0]) (.seq (.ops [0, 3]) (.seq (.ops [0, 3, 4]) (.seq (.seq (.ops [0, 4, 18]) (.blk (.seq (.ops [0, 4, 18, 19]) (.cond (.seq (.ops [2]) .leaf) (.join [4] (.seq (.ops [0, 4, 22]) (.cond (.ops [4]) .leaf))))))) (.seq (.seq (.ops [4, 28]) (.cond (.seq (.ops [2]) .leaf) .leaf)) (.seq (.ops [2]) .leaf))))))) (c := Tryz.f168.body.getD .skip) hent Tryz.func168 rfl (Nat.le_of_ble_eq_true (by kernel_rfl))
    (Eq.mp (show sh168 a0 w R = denF Tryz.prog ent false Tryz.f168 (.seq (.ops [0]) (.seq (.ops [0, 3]) (.seq (.ops [0, 3, 4]) (.seq (.seq (.ops [0, 4, 18]) (.blk (.seq (.ops [0, 4, 18, 19]) (.cond (.seq (.ops [2]) .leaf) (.join [4] (.seq (.ops [0, 4, 22]) (.cond (.ops [4]) .leaf))))))) (.seq (.seq (.ops [4, 28]) (.cond (.seq (.ops [2]) .leaf) .leaf)) (.seq (.ops [2]) .leaf)))))) (Tryz.f168.body.getD .skip) [a0] w R by kernel_rfl) h)
def sh169 (a0 : Value) (w : World) (R : Value → World → Prop) : Prop :=
 RunV Tryz.prog (Instr.buildSlice 22 11 #[(0, (.string ⟨#[71, 77, 84]⟩)), (1, (.string ⟨#[85, 84]⟩)), (2, (.string ⟨#[90]⟩)), (3, (.string ⟨#[69, 83, 84]⟩)), (4, (.string ⟨#[69, 68, 84]⟩)), (5, (.string ⟨#[67, 83, 84]⟩)), (6, (.string ⟨#[67, 68, 84]⟩)), (7, (.string ⟨#[77, 83, 84]⟩)), (8, (.string ⟨#[77, 68, 84]⟩)), (9, (.string ⟨#[80, 83, 84]⟩)), (10, (.string ⟨#[80, 68, 84]⟩))]) w fun t6_1 w =>
 RunV Tryz.prog (Instr.buildSlice 68 11 #[(0, (.int .i64 0)), (1, (.int .i64 0)), (2, (.int .i64 0)), (3, (.int .i64 (-5))), (4, (.int .i64 (-4))), (5, (.int .i64 (-6))), (6, (.int .i64 (-5))), (7, (.int .i64 (-7))), (8, (.int .i64 (-6))), (9, (.int .i64 (-8))), (10, (.int .i64 (-7)))]) w fun t7_2 w =>
 CallF Tryz.prog 165 #[a0, t6_1] w fun t10_3 w =>
 RunA Tryz.prog (bin .gtr 3 (.tmp 11) (.const (.int .i64 0)) t10_3 (.int .i64 0)) fun t12_4 =>
 IfB t12_4 (
 RunA Tryz.prog (bin .sub 3 (.tmp 14) (.const (.int .i64 1)) t10_3 (.int .i64 1)) fun t15_5 =>
 RunA Tryz.prog (Instr.indexAt 68 t7_2 t15_5) fun t16_6 =>
 RunW Tryz.prog (Instr.loadAt 3 t16_6) w fun t17_7 =>
 RunA Tryz.prog (bin .mul 3 (.tmp 17) (.const (.int .i64 3600)) t17_7 (.int .i64 3600)) fun t18_8 =>
 R t18_8 w) (
 CallF Tryz.prog 163 #[a0, (.string ⟨#[]⟩)] w fun t20_9 w =>
 R t20_9 w)
theorem sh169_calls {a0 : Value} {w : World} {R : Value → World → Prop} (h : sh169 a0 w R) : CallF Tryz.prog 169 #[a0] w R :=
  calls_of_denF (mk := false) (args := [a0]) (an := (.seq (.ops [0]) (.seq (.ops [0, 3]) (.seq (.ops [0, 3, 4]) (.seq (.seq (.ops [0, 4, 5]) (.seq (.ops [0, 4, 5, 12]) (.cond (.seq (.ops [2]) .leaf) .leaf))) (.seq (.ops [2]) .leaf)))))) (c := Tryz.f169.body.getD .skip) hent Tryz.func169 rfl (Nat.le_of_ble_eq_true (by kernel_rfl))
    (Eq.mp (show sh169 a0 w R = denF Tryz.prog ent false Tryz.f169 (.seq (.ops [0]) (.seq (.ops [0, 3]) (.seq (.ops [0, 3, 4]) (.seq (.seq (.ops [0, 4, 5]) (.seq (.ops [0, 4, 5, 12]) (.cond (.seq (.ops [2]) .leaf) .leaf))) (.seq (.ops [2]) .leaf))))) (Tryz.f169.body.getD .skip) [a0] w R by kernel_rfl) h)
def sh173 (a0 a1 : Value) (w : World) (R : Value → World → Prop) : Prop :=
 CallF Tryz.prog 182 #[a0, a1] w fun t8_1 w =>
 RunA Tryz.prog (Instr.extract t8_1 0) fun t9_2 =>
 RunA Tryz.prog (Instr.extract t8_1 1) fun t10_3 =>
 R (.tuple #[t9_2, t10_3]) w
theorem sh173_calls {a0 a1 : Value} {w : World} {R : Value → World → Prop} (h : sh173 a0 a1 w R) : CallF Tryz.prog 173 #[a0, a1] w R :=
  calls_of_denF (mk := false) (args := [a0, a1]) (an := (.seq (.ops [0, 1]) (.seq (.ops [4, 5]) .leaf))) (c := Tryz.f173.body.getD .skip) hent Tryz.func173 rfl (Nat.le_of_ble_eq_true (by kernel_rfl))
    (Eq.mp (show sh173 a0 a1 w R = denF Tryz.prog ent false Tryz.f173 (.seq (.ops [0, 1]) (.seq (.ops [4, 5]) .leaf)) (Tryz.f173.body.getD .skip) [a0, a1] w R by kernel_rfl) h)
def sh174 (a0 a1 : Value) (w : World) (R : Value → World → Prop) : Prop :=
 RunW Tryz.prog (bin .eql 9 (.tmp 7) (.const (.string ⟨#[]⟩)) a0 (.string ⟨#[]⟩)) w fun t8_1 =>
 IfB t8_1 (
 R a0 w) (
 RunW Tryz.prog (bin .eql 9 (.tmp 10) (.const (.string ⟨#[]⟩)) a1 (.string ⟨#[]⟩)) w fun t11_2 =>
 IfB t11_2 (
 R a0 w) (
 jn 2 (fun t0_3 t1_4 w =>
 CallF Tryz.prog 56 #[t1_4] w fun t28_6 w =>
 RunA Tryz.prog (Instr.extract t28_6 0) fun t29_7 =>
 RunA Tryz.prog (Instr.extract t28_6 1) fun t30_8 =>
 RunV Tryz.prog (Instr.alloc 100 true (.tuple #[])) w fun t5_9 w =>
 RunU Tryz.prog (Instr.storeAt 100 t5_9 t29_7) w fun w =>
 IfB t30_8 (
 CallF Tryz.prog 57 #[t0_3, t5_9] w fun t33_10 w =>
 R t33_10 w) (
 CallF Tryz.prog 59 #[t0_3, t1_4] w fun t36_11 w =>
 R t36_11 w)) fun j_5 =>
 RunW Tryz.prog (Builtin.len_ #[9] 3 #[a1]) w fun t15_12 =>
 RunW Tryz.prog (bin .eql 3 (.tmp 15) (.const (.int .i64 1)) t15_12 (.int .i64 1)) w fun t16_13 =>
 IfB t16_13 (
 RunA Tryz.prog (Instr.index 9 a1 (.int .i64 0)) fun t19_14 =>
 RunA Tryz.prog (bin .lss 5 (.tmp 19) (.const (.int .u8 128)) t19_14 (.int .u8 128)) fun t20_15 =>
 IfB t20_15 (
 RunA Tryz.prog (Instr.index 9 a1 (.int .i64 0)) fun t24_16 =>
 CallF Tryz.prog 54 #[a0, t24_16] w fun t25_17 w =>
 R t25_17 w) (
 j_5 a0 a1 w)) (
 j_5 a0 a1 w)))
theorem sh174_calls {a0 a1 : Value} {w : World} {R : Value → World → Prop} (h : sh174 a0 a1 w R) : CallF Tryz.prog 174 #[a0, a1] w R :=
  calls_of_denF (mk := false) (args := [a0, a1]) (an := (.seq (.ops [0, 1]) (.seq (.seq (.ops [0, 1, 12]) (.cond (.seq (.ops [4]) .leaf) .leaf)) (.seq (.join [0, 1] (.seq (.ops [0, 1, 21]) (.cond (.seq (.ops [4]) .leaf) .leaf))) (.seq (.seq (.ops [0, 1, 5, 6]) (.seq (.ops [0, 1, 5, 31]) (.cond (.seq (.ops [4]) .leaf) .leaf))) (.seq (.ops [4]) .leaf)))))) (c := Tryz.f174.body.getD .skip) hent Tryz.func174 rfl (Nat.le_of_ble_eq_true (by kernel_rfl))
    (Eq.mp (show sh174 a0 a1 w R = denF Tryz.prog ent false Tryz.f174 (.seq (.ops [0, 1]) (.seq (.seq (.ops [0, 1, 12]) (.cond (.seq (.ops [4]) .leaf) .leaf)) (.seq (.join [0, 1] (.seq (.ops [0, 1, 21]) (.cond (.seq (.ops [4]) .leaf) .leaf))) (.seq (.seq (.ops [0, 1, 5, 6]) (.seq (.ops [0, 1, 5, 31]) (.cond (.seq (.ops [4]) .leaf) .leaf))) (.seq (.ops [4]) .leaf))))) (Tryz.f174.body.getD .skip) [a0, a1] w R by kernel_rfl) h)
def sh175 (a0 a1 a2 a3 a4 a5 : Value) (w : World) (R : Value → World → Prop) : Prop :=
 jn 7 (fun t0_1 t1_2 t2_3 t3_4 t4_5 t5_6 t64_7 w =>
 IfB t64_7 (
 R (.tuple #[(.int .i64 0), (.bool false)]) w) (
 CallF Tryz.prog 184 #[t0_1] w fun t66_9 w =>
 RunA Tryz.prog (bin .add 3 (.tmp 66) (.tmp 67) t66_9 t2_3) fun t68_10 =>
 RunA Tryz.prog (bin .sub 3 (.tmp 68) (.const (.int .i64 1)) t68_10 (.int .i64 1)) fun t69_11 =>
 lp 2 (fun n_14 t14_12 t15_13 w =>
 RunA Tryz.prog (bin .lss 3 (.tmp 70) (.tmp 71) t15_13 t1_2) fun t72_15 =>
 IfB t72_15 (
 CallF Tryz.prog 183 #[t0_1, t15_13] w fun t78_16 w =>
 RunA Tryz.prog (bin .add 3 (.tmp 75) (.tmp 78) t14_12 t78_16) fun t79_17 =>
 RunA Tryz.prog (bin .add 3 (.tmp 73) (.const (.int .i64 1)) t15_13 (.int .i64 1)) fun t74_18 =>
 (t0_1 : Value) = t0_1 ∧ ((t1_2 : Value) = t1_2 ∧ ((t3_4 : Value) = t3_4 ∧ ((t4_5 : Value) = t4_5 ∧ ((t5_6 : Value) = t5_6 ∧ (n_14 t79_17 t74_18 w)))))) (
 RunA Tryz.prog (bin .mul 3 (.tmp 80) (.const (.int .i64 86400)) t14_12 (.int .i64 86400)) fun t81_19 =>
 RunA Tryz.prog (bin .mul 3 (.tmp 82) (.const (.int .i64 3600)) t3_4 (.int .i64 3600)) fun t83_20 =>
 RunA Tryz.prog (bin .add 3 (.tmp 81) (.tmp 83) t81_19 t83_20) fun t84_21 =>
 RunA Tryz.prog (bin .mul 3 (.tmp 85) (.const (.int .i64 60)) t4_5 (.int .i64 60)) fun t86_22 =>
 RunA Tryz.prog (bin .add 3 (.tmp 84) (.tmp 86) t84_21 t86_22) fun t87_23 =>
 RunW Tryz.prog (Builtin.min_ #[3, 3] 3 #[t5_6, (.int .i64 59)]) w fun t89_24 =>
 RunA Tryz.prog (bin .add 3 (.tmp 87) (.tmp 89) t87_23 t89_24) fun t90_25 =>
 R (.tuple #[t90_25, (.bool true)]) w)) [t69_11, (.int .i64 1)] w)) fun j_8 =>
 RunA Tryz.prog (bin .lss 3 (.tmp 16) (.const (.int .i64 1970)) a0 (.int .i64 1970)) fun t17_26 =>
 IfB t17_26 (
 j_8 a0 a1 a2 a3 a4 a5 (.bool true) w) (
 RunA Tryz.prog (bin .gtr 3 (.tmp 19) (.const (.int .i64 9999)) a0 (.int .i64 9999)) fun t20_27 =>
 IfB t20_27 (
 j_8 a0 a1 a2 a3 a4 a5 (.bool true) w) (
 RunA Tryz.prog (bin .lss 3 (.tmp 23) (.const (.int .i64 1)) a1 (.int .i64 1)) fun t24_28 =>
 IfB t24_28 (
 j_8 a0 a1 a2 a3 a4 a5 (.bool true) w) (
 RunA Tryz.prog (bin .gtr 3 (.tmp 27) (.const (.int .i64 12)) a1 (.int .i64 12)) fun t28_29 =>
 IfB t28_29 (
 j_8 a0 a1 a2 a3 a4 a5 (.bool true) w) (
 RunA Tryz.prog (bin .lss 3 (.tmp 31) (.const (.int .i64 1)) a2 (.int .i64 1)) fun t32_30 =>
 IfB t32_30 (
 j_8 a0 a1 a2 a3 a4 a5 (.bool true) w) (
 CallF Tryz.prog 183 #[a0, a1] w fun t38_31 w =>
 RunA Tryz.prog (bin .gtr 3 (.tmp 35) (.tmp 38) a2 t38_31) fun t39_32 =>
 IfB t39_32 (
 j_8 a0 a1 a2 a3 a4 a5 (.bool true) w) (
 RunA Tryz.prog (bin .lss 3 (.tmp 42) (.const (.int .i64 0)) a3 (.int .i64 0)) fun t43_33 =>
 IfB t43_33 (
 j_8 a0 a1 a2 a3 a4 a5 (.bool true) w) (
 RunA Tryz.prog (bin .gtr 3 (.tmp 46) (.const (.int .i64 23)) a3 (.int .i64 23)) fun t47_34 =>
 IfB t47_34 (
 j_8 a0 a1 a2 a3 a4 a5 (.bool true) w) (
 RunA Tryz.prog (bin .lss 3 (.tmp 50) (.const (.int .i64 0)) a4 (.int .i64 0)) fun t51_35 =>
 IfB t51_35 (
 j_8 a0 a1 a2 a3 a4 a5 (.bool true) w) (
 RunA Tryz.prog (bin .gtr 3 (.tmp 54) (.const (.int .i64 59)) a4 (.int .i64 59)) fun t55_36 =>
 IfB t55_36 (
 j_8 a0 a1 a2 a3 a4 a5 (.bool true) w) (
 RunA Tryz.prog (bin .lss 3 (.tmp 58) (.const (.int .i64 0)) a5 (.int .i64 0)) fun t59_37 =>
 IfB t59_37 (
 j_8 a0 a1 a2 a3 a4 a5 (.bool true) w) (
 RunA Tryz.prog (bin .gtr 3 (.tmp 62) (.const (.int .i64 60)) a5 (.int .i64 60)) fun t63_38 =>
 j_8 a0 a1 a2 a3 a4 a5 t63_38 w)))))))))))
theorem sh175_calls {a0 a1 a2 a3 a4 a5 : Value} {w : World} {R : Value → World → Prop} (h : sh175 a0 a1 a2 a3 a4 a5 w R) : CallF Tryz.prog 175 #[a0, a1, a2, a3, a4, a5] w R :=
  calls_of_denF (mk := false) (args := [a0, a1, a2, a3, a4, a5]) (an := (.seq (.ops [0, 1, 2, 3, 4, 5]) (.seq (.seq (.join [0, 1, 2, 3, 4, 5, 64] (.ops [0, 1, 2, 3, 4, 5, 64])) (.cond (.seq (.ops [12, 13]) .leaf) .leaf)) (.seq (.ops [0, 1, 3, 4, 5, 14]) (.seq (.seq (.ops [0, 1, 3, 4, 5, 14, 15]) (.blk (.loop [0, 1, 3, 4, 5] [14, 15] (.seq (.seq (.ops [0, 1, 3, 4, 5, 14, 15, 72]) (.cond .leaf .leaf)) (.seq (.blk (.ops [0, 1, 3, 4, 5, 14, 15])) (.ops [0, 1, 3, 4, 5, 14, 15])))))) (.seq (.ops [12, 13]) .leaf)))))) (c := Tryz.f175.body.getD .skip) hent Tryz.func175 rfl (Nat.le_of_ble_eq_true (by kernel_rfl))
    (Eq.mp (show sh175 a0 a1 a2 a3 a4 a5 w R = denF Tryz.prog ent false Tryz.f175 (.seq (.ops [0, 1, 2, 3, 4, 5]) (.seq (.seq (.join [0, 1, 2, 3, 4, 5, 64] (.ops [0, 1, 2, 3, 4, 5, 64])) (.cond (.seq (.ops [12, 13]) .leaf) .leaf)) (.seq (.ops [0, 1, 3, 4, 5, 14]) (.seq (.seq (.ops [0, 1, 3, 4, 5, 14, 15]) (.blk (.loop [0, 1, 3, 4, 5] [14, 15] (.seq (.seq (.ops [0, 1, 3, 4, 5, 14, 15, 72]) (.cond .leaf .leaf)) (.seq (.blk (.ops [0, 1, 3, 4, 5, 14, 15])) (.ops [0, 1, 3, 4, 5, 14, 15])))))) (.seq (.ops [12, 13]) .leaf))))) (Tryz.f175.body.getD .skip) [a0, a1, a2, a3, a4, a5] w R by kernel_rfl) h)
def sh176 (a0 : Value) (w : World) (R : Value → World → Prop) : Prop :=
 RunA Tryz.prog (bin .geq 3 (.tmp 3) (.const (.int .i64 0)) a0 (.int .i64 0)) fun t4_1 =>
 IfB t4_1 (
 CallF Tryz.prog 184 #[(.int .i64 10000)] w fun t7_2 w =>
 RunA Tryz.prog (bin .mul 3 (.tmp 7) (.const (.int .i64 86400)) t7_2 (.int .i64 86400)) fun t8_3 =>
 RunA Tryz.prog (bin .lss 3 (.tmp 6) (.tmp 8) a0 t8_3) fun t9_4 =>
 R t9_4 w) (
 R (.bool false) w)
theorem sh176_calls {a0 : Value} {w : World} {R : Value → World → Prop} (h : sh176 a0 w R) : CallF Tryz.prog 176 #[a0] w R :=
  calls_of_denF (mk := false) (args := [a0]) (an := (.seq (.ops [0]) (.seq (.ops [2]) .leaf))) (c := Tryz.f176.body.getD .skip) hent Tryz.func176 rfl (Nat.le_of_ble_eq_true (by kernel_rfl))
    (Eq.mp (show sh176 a0 w R = denF Tryz.prog ent false Tryz.f176 (.seq (.ops [0]) (.seq (.ops [2]) .leaf)) (Tryz.f176.body.getD .skip) [a0] w R by kernel_rfl) h)
def sh177 (a0 a1 : Value) (w : World) (R : Value → World → Prop) : Prop :=
 RunW Tryz.prog (Builtin.len_ #[22] 3 #[a0]) w fun t7_1 =>
 lp 1 (fun n_3 t8_2 w =>
 RunA Tryz.prog (bin .lss 3 (.tmp 8) (.tmp 7) t8_2 t7_1) fun t9_4 =>
 IfB t9_4 (
 RunA Tryz.prog (Instr.indexAt 22 a0 t8_2) fun t14_5 =>
 RunW Tryz.prog (Instr.loadAt 9 t14_5) w fun t15_6 =>
 CallV Tryz.prog a1 #[t15_6] w fun t16_7 w =>
 IfB t16_7 (
 R t8_2 w) (
 RunA Tryz.prog (bin .add 3 (.tmp 8) (.const (.int .i64 1)) t8_2 (.int .i64 1)) fun t18_8 =>
 (a0 : Value) = a0 ∧ ((a1 : Value) = a1 ∧ ((t7_1 : Value) = t7_1 ∧ (n_3 t18_8 w))))) (
 R (.int .i64 (-1)) w)) [(.int .i64 0)] w
theorem sh177_calls {a0 a1 : Value} {w : World} {R : Value → World → Prop} (h : sh177 a0 a1 w R) : CallF Tryz.prog 177 #[a0, a1] w R :=
  calls_of_denF (mk := false) (args := [a0, a1]) (an := (.seq (.ops [0, 1]) (.seq (.seq (.ops [0, 1, 7, 8]) (.blk (.loop [0, 1, 7] [8] (.seq (.ops [0, 1, 7, 8, 9]) (.seq (.cond .leaf .leaf) (.seq (.blk (.seq (.ops [0, 1, 5, 7, 8]) (.seq (.ops [0, 1, 5, 7, 8, 16]) (.cond (.seq (.ops [4]) .leaf) .leaf)))) (.ops [0, 1, 7, 8]))))))) (.seq (.ops [4]) .leaf)))) (c := Tryz.f177.body.getD .skip) hent Tryz.func177 rfl (Nat.le_of_ble_eq_true (by kernel_rfl))
    (Eq.mp (show sh177 a0 a1 w R = denF Tryz.prog ent false Tryz.f177 (.seq (.ops [0, 1]) (.seq (.seq (.ops [0, 1, 7, 8]) (.blk (.loop [0, 1, 7] [8] (.seq (.ops [0, 1, 7, 8, 9]) (.seq (.cond .leaf .leaf) (.seq (.blk (.seq (.ops [0, 1, 5, 7, 8]) (.seq (.ops [0, 1, 5, 7, 8, 16]) (.cond (.seq (.ops [4]) .leaf) .leaf)))) (.ops [0, 1, 7, 8]))))))) (.seq (.ops [4]) .leaf))) (Tryz.f177.body.getD .skip) [a0, a1] w R by kernel_rfl) h)
def sh182 (a0 a1 : Value) (w : World) (R : Value → World → Prop) : Prop :=
 CallF Tryz.prog 103 #[a0, a1] w fun t8_1 w =>
 RunA Tryz.prog (Op.unary .not t8_1) fun t9_2 =>
 IfB t9_2 (
 R (.tuple #[a0, (.bool false)]) w) (
 RunW Tryz.prog (Builtin.len_ #[9] 3 #[a1]) w fun t13_3 =>
 RunA Tryz.prog (Instr.sliceAt 9 a0 (some t13_3) none none) fun t14_4 =>
 R (.tuple #[t14_4, (.bool true)]) w)
theorem sh182_calls {a0 a1 : Value} {w : World} {R : Value → World → Prop} (h : sh182 a0 a1 w R) : CallF Tryz.prog 182 #[a0, a1] w R :=
  calls_of_denF (mk := false) (args := [a0, a1]) (an := (.seq (.ops [0, 1]) (.seq (.seq (.ops [0, 1, 9]) (.cond (.seq (.ops [4, 5]) .leaf) .leaf)) (.seq (.ops [4, 5]) .leaf)))) (c := Tryz.f182.body.getD .skip) hent Tryz.func182 rfl (Nat.le_of_ble_eq_true (by kernel_rfl))
    (Eq.mp (show sh182 a0 a1 w R = denF Tryz.prog ent false Tryz.f182 (.seq (.ops [0, 1]) (.seq (.seq (.ops [0, 1, 9]) (.cond (.seq (.ops [4, 5]) .leaf) .leaf)) (.seq (.ops [4, 5]) .leaf))) (Tryz.f182.body.getD .skip) [a0, a1] w R by kernel_rfl) h)
def sh183 (a0 a1 : Value) (w : World) (R : Value → World → Prop) : Prop :=
 jn 0 (fun w =>
 R (.int .i64 31) w) fun j_1 =>
 RunW Tryz.prog (bin .eql 3 (.tmp 6) (.const (.int .i64 2)) a1 (.int .i64 2)) w fun t7_2 =>
 IfB t7_2 (
 CallF Tryz.prog 192 #[a0] w fun t10_3 w =>
 IfB t10_3 (
 R (.int .i64 29) w) (
 RunW Tryz.prog (bin .eql 3 (.tmp 13) (.const (.int .i64 2)) a1 (.int .i64 2)) w fun t14_4 =>
 IfB t14_4 (
 R (.int .i64 28) w) (
 RunW Tryz.prog (bin .eql 3 (.tmp 16) (.const (.int .i64 4)) a1 (.int .i64 4)) w fun t17_5 =>
 IfB t17_5 (
 R (.int .i64 30) w) (
 RunW Tryz.prog (bin .eql 3 (.tmp 19) (.const (.int .i64 6)) a1 (.int .i64 6)) w fun t20_6 =>
 IfB t20_6 (
 R (.int .i64 30) w) (
 RunW Tryz.prog (bin .eql 3 (.tmp 23) (.const (.int .i64 9)) a1 (.int .i64 9)) w fun t24_7 =>
 IfB t24_7 (
 R (.int .i64 30) w) (
 RunW Tryz.prog (bin .eql 3 (.tmp 27) (.const (.int .i64 11)) a1 (.int .i64 11)) w fun t28_8 =>
 IfB t28_8 (
 R (.int .i64 30) w) (
 j_1 w))))))) (
 RunW Tryz.prog (bin .eql 3 (.tmp 13) (.const (.int .i64 2)) a1 (.int .i64 2)) w fun t14_9 =>
 IfB t14_9 (
 R (.int .i64 28) w) (
 RunW Tryz.prog (bin .eql 3 (.tmp 16) (.const (.int .i64 4)) a1 (.int .i64 4)) w fun t17_10 =>
 IfB t17_10 (
 R (.int .i64 30) w) (
 RunW Tryz.prog (bin .eql 3 (.tmp 19) (.const (.int .i64 6)) a1 (.int .i64 6)) w fun t20_11 =>
 IfB t20_11 (
 R (.int .i64 30) w) (
 RunW Tryz.prog (bin .eql 3 (.tmp 23) (.const (.int .i64 9)) a1 (.int .i64 9)) w fun t24_12 =>
 IfB t24_12 (
 R (.int .i64 30) w) (
 RunW Tryz.prog (bin .eql 3 (.tmp 27) (.const (.int .i64 11)) a1 (.int .i64 11)) w fun t28_13 =>
 IfB t28_13 (
 R (.int .i64 30) w) (
 j_1 w))))))
theorem sh183_calls {a0 a1 : Value} {w : World} {R : Value → World → Prop} (h : sh183 a0 a1 w R) : CallF Tryz.prog 183 #[a0, a1] w R :=
  calls_of_denF (mk := false) (args := [a0, a1]) (an := (.seq (.ops [0, 1]) (.seq (.blk (.join [] (.seq (.ops [1, 5]) (.cond (.seq (.ops [4]) .leaf) (.seq (.ops [1, 12]) (.cond (.seq (.ops [4]) .leaf) (.seq (.ops [15]) (.cond (.seq (.ops [4]) .leaf) .leaf)))))))) (.seq (.ops [4]) .leaf)))) (c := Tryz.f183.body.getD .skip) hent Tryz.func183 rfl (Nat.le_of_ble_eq_true (by kernel_rfl))
    (Eq.mp (show sh183 a0 a1 w R = denF Tryz.prog ent false Tryz.f183 (.seq (.ops [0, 1]) (.seq (.blk (.join [] (.seq (.ops [1, 5]) (.cond (.seq (.ops [4]) .leaf) (.seq (.ops [1, 12]) (.cond (.seq (.ops [4]) .leaf) (.seq (.ops [15]) (.cond (.seq (.ops [4]) .leaf) .leaf)))))))) (.seq (.ops [4]) .leaf))) (Tryz.f183.body.getD .skip) [a0, a1] w R by kernel_rfl) h)
def sh184 (a0 : Value) (w : World) (R : Value → World → Prop) : Prop :=
 RunA Tryz.prog (bin .sub 3 (.tmp 3) (.const (.int .i64 1)) a0 (.int .i64 1)) fun t4_1 =>
 RunA Tryz.prog (bin .mul 3 (.tmp 5) (.const (.int .i64 365)) t4_1 (.int .i64 365)) fun t6_2 =>
 RunA Tryz.prog (bin .quo 3 (.tmp 7) (.const (.int .i64 4)) t4_1 (.int .i64 4)) fun t8_3 =>
 RunA Tryz.prog (bin .add 3 (.tmp 6) (.tmp 8) t6_2 t8_3) fun t9_4 =>
 RunA Tryz.prog (bin .quo 3 (.tmp 10) (.const (.int .i64 100)) t4_1 (.int .i64 100)) fun t11_5 =>
 RunA Tryz.prog (bin .sub 3 (.tmp 9) (.tmp 11) t9_4 t11_5) fun t12_6 =>
 RunA Tryz.prog (bin .quo 3 (.tmp 13) (.const (.int .i64 400)) t4_1 (.int .i64 400)) fun t14_7 =>
 RunA Tryz.prog (bin .add 3 (.tmp 12) (.tmp 14) t12_6 t14_7) fun t15_8 =>
 RunA Tryz.prog (bin .sub 3 (.tmp 15) (.const (.int .i64 719162)) t15_8 (.int .i64 719162)) fun t16_9 =>
 R t16_9 w
theorem sh184_calls {a0 : Value} {w : World} {R : Value → World → Prop} (h : sh184 a0 w R) : CallF Tryz.prog 184 #[a0] w R :=
  calls_of_denF (mk := false) (args := [a0]) (an := (.seq (.ops [0]) (.seq (.ops [0]) (.seq (.ops [2]) .leaf)))) (c := Tryz.f184.body.getD .skip) hent Tryz.func184 rfl (Nat.le_of_ble_eq_true (by kernel_rfl))
    (Eq.mp (show sh184 a0 w R = denF Tryz.prog ent false Tryz.f184 (.seq (.ops [0]) (.seq (.ops [0]) (.seq (.ops [2]) .leaf))) (Tryz.f184.body.getD .skip) [a0] w R by kernel_rfl) h)
def sh192 (a0 : Value) (w : World) (R : Value → World → Prop) : Prop :=
 RunA Tryz.prog (bin .rem 3 (.tmp 3) (.const (.int .i64 4)) a0 (.int .i64 4)) fun t4_1 =>
 RunW Tryz.prog (bin .eql 3 (.tmp 4) (.const (.int .i64 0)) t4_1 (.int .i64 0)) w fun t5_2 =>
 IfB t5_2 (
 RunA Tryz.prog (bin .rem 3 (.tmp 7) (.const (.int .i64 100)) a0 (.int .i64 100)) fun t8_3 =>
 RunW Tryz.prog (bin .neq 3 (.tmp 8) (.const (.int .i64 0)) t8_3 (.int .i64 0)) w fun t9_4 =>
 IfB t9_4 (
 R (.bool true) w) (
 RunA Tryz.prog (bin .rem 3 (.tmp 12) (.const (.int .i64 400)) a0 (.int .i64 400)) fun t13_5 =>
 RunW Tryz.prog (bin .eql 3 (.tmp 13) (.const (.int .i64 0)) t13_5 (.int .i64 0)) w fun t14_6 =>
 R t14_6 w)) (
 RunA Tryz.prog (bin .rem 3 (.tmp 12) (.const (.int .i64 400)) a0 (.int .i64 400)) fun t13_7 =>
 RunW Tryz.prog (bin .eql 3 (.tmp 13) (.const (.int .i64 0)) t13_7 (.int .i64 0)) w fun t14_8 =>
 R t14_8 w)
theorem sh192_calls {a0 : Value} {w : World} {R : Value → World → Prop} (h : sh192 a0 w R) : CallF Tryz.prog 192 #[a0] w R :=
  calls_of_denF (mk := false) (args := [a0]) (an := (.seq (.ops [0]) (.seq (.ops [2]) .leaf))) (c := Tryz.f192.body.getD .skip) hent Tryz.func192 rfl (Nat.le_of_ble_eq_true (by kernel_rfl))
    (Eq.mp (show sh192 a0 w R = denF Tryz.prog ent false Tryz.f192 (.seq (.ops [0]) (.seq (.ops [2]) .leaf)) (Tryz.f192.body.getD .skip) [a0] w R by kernel_rfl) h)
def sh29 (a0 a1 : Value) (w : World) (R : Value → World → Prop) : Prop :=
 RunW Tryz.prog (bin .eql 9 (.tmp 7) (.const (.string ⟨#[]⟩)) a0 (.string ⟨#[]⟩)) w fun t8_1 =>
 IfB t8_1 (
 R a0 w) (
 RunW Tryz.prog (bin .eql 9 (.tmp 10) (.const (.string ⟨#[]⟩)) a1 (.string ⟨#[]⟩)) w fun t11_2 =>
 IfB t11_2 (
 R a0 w) (
 jn 2 (fun t0_3 t1_4 w =>
 CallF Tryz.prog 56 #[t1_4] w fun t31_6 w =>
 RunA Tryz.prog (Instr.extract t31_6 0) fun t32_7 =>
 RunA Tryz.prog (Instr.extract t31_6 1) fun t33_8 =>
 RunV Tryz.prog (Instr.alloc 100 true (.tuple #[])) w fun t5_9 w =>
 RunU Tryz.prog (Instr.storeAt 100 t5_9 t32_7) w fun w =>
 IfB t33_8 (
 CallF Tryz.prog 58 #[t0_3, t5_9] w fun t36_10 w =>
 CallF Tryz.prog 57 #[t36_10, t5_9] w fun t37_11 w =>
 R t37_11 w) (
 CallF Tryz.prog 60 #[t0_3, t1_4] w fun t40_12 w =>
 CallF Tryz.prog 59 #[t40_12, t1_4] w fun t42_13 w =>
 R t42_13 w)) fun j_5 =>
 RunW Tryz.prog (Builtin.len_ #[9] 3 #[a1]) w fun t15_14 =>
 RunW Tryz.prog (bin .eql 3 (.tmp 15) (.const (.int .i64 1)) t15_14 (.int .i64 1)) w fun t16_15 =>
 IfB t16_15 (
 RunA Tryz.prog (Instr.index 9 a1 (.int .i64 0)) fun t19_16 =>
 RunA Tryz.prog (bin .lss 5 (.tmp 19) (.const (.int .u8 128)) t19_16 (.int .u8 128)) fun t20_17 =>
 IfB t20_17 (
 drw (fun S_18 w =>
 RunA Tryz.prog (Instr.index 9 a1 (.int .i64 0)) fun t24_19 =>
 RunA Tryz.prog (Instr.index 9 a1 (.int .i64 0)) fun t27_20 =>
 CallF Tryz.prog 55 #[a0, t24_19] w fun t25_21 w =>
 CallF Tryz.prog 54 #[t25_21, t27_20] w fun t28_22 w =>
 R t28_22 w) w) (
 j_5 a0 a1 w)) (
 j_5 a0 a1 w)))
theorem sh29_calls {a0 a1 : Value} {w : World} {R : Value → World → Prop} (h : sh29 a0 a1 w R) : CallF Tryz.prog 29 #[a0, a1] w R :=
  calls_of_denF (mk := false) (args := [a0, a1]) (an := (.seq (.ops [0, 1]) (.seq (.seq (.ops [0, 1, 12]) (.cond (.seq (.ops [4]) .leaf) .leaf)) (.seq (.join [0, 1] (.seq (.ops [0, 1, 21]) (.cond (.seq (.draw (.q 0 (.q 1 (.q 2 (.q 4 (.q 5 (.one 3 (.one 6 (.q 7 .fin)))))))) [4]) .leaf) .leaf))) (.seq (.seq (.ops [0, 1, 5, 6]) (.seq (.ops [0, 1, 5, 34]) (.cond (.seq (.ops [4]) .leaf) .leaf))) (.seq (.ops [4]) .leaf)))))) (c := Tryz.f29.body.getD .skip) hent Tryz.func29 rfl (Nat.le_of_ble_eq_true (by kernel_rfl))
    (Eq.mp (show sh29 a0 a1 w R = denF Tryz.prog ent false Tryz.f29 (.seq (.ops [0, 1]) (.seq (.seq (.ops [0, 1, 12]) (.cond (.seq (.ops [4]) .leaf) .leaf)) (.seq (.join [0, 1] (.seq (.ops [0, 1, 21]) (.cond (.seq (.draw (.q 0 (.q 1 (.q 2 (.q 4 (.q 5 (.one 3 (.one 6 (.q 7 .fin)))))))) [4]) .leaf) .leaf))) (.seq (.seq (.ops [0, 1, 5, 6]) (.seq (.ops [0, 1, 5, 34]) (.cond (.seq (.ops [4]) .leaf) .leaf))) (.seq (.ops [4]) .leaf))))) (Tryz.f29.body.getD .skip) [a0, a1] w R by kernel_rfl) h)
def sh56 (a0 : Value) (w : World) (R : Value → World → Prop) : Prop :=
 RunV Tryz.prog (Instr.alloc 100 true (.tuple #[])) w fun t2_1 w =>
 lp 1 (fun n_3 t4_2 w =>
 RunW Tryz.prog (Builtin.len_ #[9] 3 #[a0]) w fun t8_4 =>
 RunA Tryz.prog (bin .lss 3 (.tmp 6) (.tmp 8) t4_2 t8_4) fun t9_5 =>
 IfB t9_5 (
 RunA Tryz.prog (Instr.index 9 a0 t4_2) fun t14_6 =>
 RunA Tryz.prog (bin .geq 5 (.tmp 15) (.const (.int .u8 128)) t14_6 (.int .u8 128)) fun t16_7 =>
 IfB t16_7 (
 RunW Tryz.prog (Instr.loadAt 100 t2_1) w fun t17_8 =>
 RunU Tryz.prog (Instr.storeAt 100 t2_1 t17_8) w fun w =>
 RunW Tryz.prog (Instr.loadAt 100 t2_1) w fun t2_9 =>
 R (.tuple #[t2_9, (.bool false)]) w) (
 RunA Tryz.prog (Instr.indexAt 100 t2_1 t14_6) fun t19_10 =>
 RunU Tryz.prog (Instr.storeAt 4 t19_10 (.bool true)) w fun w =>
 RunA Tryz.prog (bin .add 3 (.tmp 10) (.const (.int .i64 1)) t4_2 (.int .i64 1)) fun t11_11 =>
 (a0 : Value) = a0 ∧ ((t2_1 : Value) = t2_1 ∧ (n_3 t11_11 w)))) (
 RunW Tryz.prog (Instr.loadAt 100 t2_1) w fun t20_12 =>
 RunU Tryz.prog (Instr.storeAt 100 t2_1 t20_12) w fun w =>
 RunW Tryz.prog (Instr.loadAt 100 t2_1) w fun t2_13 =>
 R (.tuple #[t2_13, (.bool true)]) w)) [(.int .i64 0)] w
theorem sh56_calls {a0 : Value} {w : World} {R : Value → World → Prop} (h : sh56 a0 w R) : CallF Tryz.prog 56 #[a0] w R :=
  calls_of_denF (mk := false) (args := [a0]) (an := (.seq (.ops [0, 2]) (.seq (.seq (.ops [0, 2, 4]) (.blk (.loop [0, 2] [4] (.seq (.seq (.ops [0, 2, 4, 9]) (.cond .leaf .leaf)) (.seq (.blk (.seq (.ops [0, 2, 4, 5]) (.seq (.seq (.ops [0, 2, 4, 5, 16]) (.cond (.seq (.ops [2, 3]) .leaf) .leaf)) (.ops [0, 2, 4])))) (.ops [0, 2, 4])))))) (.seq (.ops [2, 3]) .leaf)))) (c := Tryz.f56.body.getD .skip) hent Tryz.func56 rfl (Nat.le_of_ble_eq_true (by kernel_rfl))
    (Eq.mp (show sh56 a0 w R = denF Tryz.prog ent false Tryz.f56 (.seq (.ops [0, 2]) (.seq (.seq (.ops [0, 2, 4]) (.blk (.loop [0, 2] [4] (.seq (.seq (.ops [0, 2, 4, 9]) (.cond .leaf .leaf)) (.seq (.blk (.seq (.ops [0, 2, 4, 5]) (.seq (.seq (.ops [0, 2, 4, 5, 16]) (.cond (.seq (.ops [2, 3]) .leaf) .leaf)) (.ops [0, 2, 4])))) (.ops [0, 2, 4])))))) (.seq (.ops [2, 3]) .leaf))) (Tryz.f56.body.getD .skip) [a0] w R by kernel_rfl) h)
def sh57 (a0 a1 : Value) (w : World) (R : Value → World → Prop) : Prop :=
 jn 1 (fun t0_1 w =>
 R t0_1 w) fun j_2 =>
 lp 1 (fun n_4 t0_3 w =>
 RunW Tryz.prog (Builtin.len_ #[9] 3 #[t0_3]) w fun t6_5 =>
 RunA Tryz.prog (bin .gtr 3 (.tmp 6) (.const (.int .i64 0)) t6_5 (.int .i64 0)) fun t7_6 =>
 IfB t7_6 (
 RunA Tryz.prog (Instr.index 9 t0_3 (.int .i64 0)) fun t10_7 =>
 CallF Tryz.prog 91 #[a1, t10_7] w fun t11_8 w =>
 RunA Tryz.prog (Op.unary .not t11_8) fun t12_9 =>
 IfB t12_9 (
 j_2 t0_3 w) (
 RunA Tryz.prog (Instr.sliceAt 9 t0_3 (some (.int .i64 1)) none none) fun t14_10 =>
 (a1 : Value) = a1 ∧ (n_4 t14_10 w))) (
 j_2 t0_3 w)) [a0] w
theorem sh57_calls {a0 a1 : Value} {w : World} {R : Value → World → Prop} (h : sh57 a0 a1 w R) : CallF Tryz.prog 57 #[a0, a1] w R :=
  calls_of_denF (mk := false) (args := [a0, a1]) (an := (.seq (.ops [0, 1]) (.seq (.join [0] (.blk (.loop [1] [0] (.seq (.seq (.ops [0, 1, 7]) (.cond .leaf .leaf)) (.blk (.seq (.seq (.ops [0, 1, 12]) (.cond .leaf .leaf)) (.ops [0, 1]))))))) (.seq (.ops [4]) .leaf)))) (c := Tryz.f57.body.getD .skip) hent Tryz.func57 rfl (Nat.le_of_ble_eq_true (by kernel_rfl))
    (Eq.mp (show sh57 a0 a1 w R = denF Tryz.prog ent false Tryz.f57 (.seq (.ops [0, 1]) (.seq (.join [0] (.blk (.loop [1] [0] (.seq (.seq (.ops [0, 1, 7]) (.cond .leaf .leaf)) (.blk (.seq (.seq (.ops [0, 1, 12]) (.cond .leaf .leaf)) (.ops [0, 1]))))))) (.seq (.ops [4]) .leaf))) (Tryz.f57.body.getD .skip) [a0, a1] w R by kernel_rfl) h)
def sh58 (a0 a1 : Value) (w : World) (R : Value → World → Prop) : Prop :=
 jn 1 (fun t0_1 w =>
 R t0_1 w) fun j_2 =>
 lp 1 (fun n_4 t0_3 w =>
 RunW Tryz.prog (Builtin.len_ #[9] 3 #[t0_3]) w fun t6_5 =>
 RunA Tryz.prog (bin .gtr 3 (.tmp 6) (.const (.int .i64 0)) t6_5 (.int .i64 0)) fun t7_6 =>
 IfB t7_6 (
 RunW Tryz.prog (Builtin.len_ #[9] 3 #[t0_3]) w fun t11_7 =>
 RunA Tryz.prog (bin .sub 3 (.tmp 11) (.const (.int .i64 1)) t11_7 (.int .i64 1)) fun t12_8 =>
 RunA Tryz.prog (Instr.index 9 t0_3 t12_8) fun t13_9 =>
 CallF Tryz.prog 91 #[a1, t13_9] w fun t14_10 w =>
 RunA Tryz.prog (Op.unary .not t14_10) fun t15_11 =>
 IfB t15_11 (
 j_2 t0_3 w) (
 RunW Tryz.prog (Builtin.len_ #[9] 3 #[t0_3]) w fun t18_12 =>
 RunA Tryz.prog (bin .sub 3 (.tmp 18) (.const (.int .i64 1)) t18_12 (.int .i64 1)) fun t19_13 =>
 RunA Tryz.prog (Instr.sliceAt 9 t0_3 none (some t19_13) none) fun t20_14 =>
 (a1 : Value) = a1 ∧ (n_4 t20_14 w))) (
 j_2 t0_3 w)) [a0] w
theorem sh58_calls {a0 a1 : Value} {w : World} {R : Value → World → Prop} (h : sh58 a0 a1 w R) : CallF Tryz.prog 58 #[a0, a1] w R :=
  calls_of_denF (mk := false) (args := [a0, a1]) (an := (.seq (.ops [0, 1]) (.seq (.join [0] (.blk (.loop [1] [0] (.seq (.seq (.ops [0, 1, 7]) (.cond .leaf .leaf)) (.blk (.seq (.seq (.ops [0, 1, 15]) (.cond .leaf .leaf)) (.ops [0, 1]))))))) (.seq (.ops [4]) .leaf)))) (c := Tryz.f58.body.getD .skip) hent Tryz.func58 rfl (Nat.le_of_ble_eq_true (by kernel_rfl))
    (Eq.mp (show sh58 a0 a1 w R = denF Tryz.prog ent false Tryz.f58 (.seq (.ops [0, 1]) (.seq (.join [0] (.blk (.loop [1] [0] (.seq (.seq (.ops [0, 1, 7]) (.cond .leaf .leaf)) (.blk (.seq (.seq (.ops [0, 1, 15]) (.cond .leaf .leaf)) (.ops [0, 1]))))))) (.seq (.ops [4]) .leaf))) (Tryz.f58.body.getD .skip) [a0, a1] w R by kernel_rfl) h)
def sh91 (a0 a1 : Value) (w : World) (R : Value → World → Prop) : Prop :=
 RunA Tryz.prog (nilV a0) fun t7_1 =>
 RunA Tryz.prog (Instr.indexAt 100 t7_1 a1) fun t8_2 =>
 RunW Tryz.prog (Instr.loadAt 4 t8_2) w fun t9_3 =>
 R t9_3 w
theorem sh91_calls {a0 a1 : Value} {w : World} {R : Value → World → Prop} (h : sh91 a0 a1 w R) : CallF Tryz.prog 91 #[a0, a1] w R :=
  calls_of_denF (mk := false) (args := [a0, a1]) (an := (.seq (.ops [0, 1]) (.seq (.ops [4]) .leaf))) (c := Tryz.f91.body.getD .skip) hent Tryz.func91 rfl (Nat.le_of_ble_eq_true (by kernel_rfl))
    (Eq.mp (show sh91 a0 a1 w R = denF Tryz.prog ent false Tryz.f91 (.seq (.ops [0, 1]) (.seq (.ops [4]) .leaf)) (Tryz.f91.body.getD .skip) [a0, a1] w R by kernel_rfl) h)
end Go.Proofs.YtlflpbflpcmckaaGreatDoor
namespace Go.Proofs.YtlflpbflpcmckaaGreatDoor
open Go Go.Ez Go.RowKit Go.Lib
set_option linter.unusedSimpArgs false
set_option linter.unusedVariables false
/-- a builder's two cells -/
abbrev BuC (b : Nat) (used : Bool) (v : Value) : List Value := [.pointer (if used then some ⟨b, 0, none⟩ else none), v]
/-- block b is a builder that holds these bytes -/
def Bu (l : Txt) (b : Nat) : As := As.ex fun x : Bool × Value => As.all (x.2.oneCell' = true) [Ky b (Ob (.cells (BuC b x.1 x.2).toArray 81 (0, 0))), Ky x.2 (Ow 5 1 l.length (bytesV l))]
section
variable {w0 W W' : World} {G : Nat → Prop} {l R : List As} {RR : Value → World → Prop} {t s : Txt} {c : UInt8} {b : Nat}
theorem buOpen [i : Has l b (Bu t) R] (h : St w0 G l W) : ∃ u v, Cel1 v ∧ St w0 G (Ky b (Ob (.cells (BuC b u v).toArray 81 (0, 0))) :: Ky v (Ow 5 1 t.length (bytesV t)) :: R) W := by
  obtain ⟨⟨u, v⟩, h⟩ := St.openE (St.at.1 (h.find (k := b) (X := Bu t)))
  obtain ⟨h1, h⟩ := St.openA h
  exact ⟨u, v, ⟨h1⟩, h⟩
theorem buShut {u : Bool} {v : Value} (o : Cel1 v) (h : St w0 G (Ky b (Ob (.cells (BuC b u v).toArray 81 (0, 0))) :: Ky v (Ow 5 1 t.length (bytesV t)) :: R) W) : St w0 G (Ky b (Bu t) :: R) W :=
  St.shutE (u, v) (St.shutA (L := [Ky b (Ob (.cells (BuC b u v).toArray 81 (0, 0))), Ky v (Ow 5 1 t.length (bytesV t))]) o.one h)
/-- a new one -/
theorem buNew (h : St w0 G (Ky b (Ob (.cells [.pointer none, .slice none 0 0].toArray 81 (0, 0))) :: l) W) : St w0 G (Ky b (Bu []) :: l) W :=
  buShut (u := false) (v := .slice none 0 0) (t := []) ⟨rfl⟩ h.nilOw.swap
theorem check_spec {u : Bool} {v : Value} [o : Cel1 v] [i : Has l b (Ob (.cells (BuC b u v).toArray 81 (0, 0))) R] (h : St w0 G l W)
    (k : ∀ W', St w0 G (Ky b (Ob (.cells (BuC b true v).toArray 81 (0, 0))) :: R) W' → RR (.tuple #[]) W') : CallF Tryz.prog 110 #[.pointer (some ⟨b, 0, none⟩)] W RR := by
  refine sh110_calls ?_
  unfold sh110
  obtain ⟨j, hj, hj2⟩ : ∃ j, Tryz.prog.info? 81 = some j ∧ j.size = 2 := ⟨Tryz.t81, by kernel_rfl, by kernel_rfl⟩
  have hjs : j.size ≠ 0 := by omega
  replace h := h.find (k := b) (X := Ob (.cells (BuC b u v).toArray 81 (0, 0)))
  have hsh : W.shape? b = some (81, 2) := by simp [World.shape?, show W.heap[b]? = _ from h.rc (b := b)]
  cases u
  · replace h : St w0 G (Ky b (Ob (.cells [.pointer none, v].toArray 81 (0, 0))) :: R) W := h
    refine a_nil (a_fld0 (h.load ?_))
    refine x_nilP ?_
    refine ift ?_
    refine RunV.of (run_to_unsafe W ⟨b, 0, none⟩ Tryz.underlying79 Tryz.underlying169 hj hjs hsh (Nat.zero_lt_succ 1)) ?_
    refine RunO.of (v := .pointer (some ⟨b, 0, none⟩)) (w' := W) ?_ ?_
    · rw [run_callFunc_extern Tryz.func133 (by kernel_rfl) (by kernel_rfl) (by kernel_rfl) (e := Extern.AbiNoEscape.same) (by kernel_rfl)]
      rfl
    refine RunV.of (run_from_unsafe W ⟨b, 0, none⟩ Tryz.underlying169 Tryz.underlying79 hj hsh (by kernel_rfl)) ?_
    refine a_nil (a_fld0 (h.store fun W' h => ?_))
    exact k W' h
  · replace h : St w0 G (Ky b (Ob (.cells [.pointer (some ⟨b, 0, none⟩), v].toArray 81 (0, 0))) :: R) W := h
    refine a_nil (a_fld0 (h.load ?_))
    refine x_nilP ?_
    refine iff' ?_
    refine a_nil (a_fld0 (h.load ?_))
    exact w_samePn Tryz.underlying79 hj (iff' (k W h))
/-- WriteString -/
theorem wstr_spec [i : Has l b (Bu t) R] (h : St w0 G l W) (hl : t.length + s.length ≤ 100000000000) (k : ∀ W', St w0 G (Ky b (Bu (t ++ s)) :: R) W' → RR (.tuple #[nV .i64 s.length, .nilIface]) W') : CallF Tryz.prog 79 #[.pointer (some ⟨b, 0, none⟩), strV s] W RR := by
  refine sh79_calls ?_
  unfold sh79
  obtain ⟨u, v, o, h⟩ := buOpen (b := b) (t := t) h
  refine check_spec (u := u) (v := v) h fun W h => ?_
  refine a_nil (a_fld0 (h.load ?_))
  refine h.appS (v := v) (by omega) fun v' W o' h => ?_
  refine a_nil (a_fld0 (h.store fun W h => ?_))
  rw [← bytesV_append, ← List.length_append] at h
  refine x_len ?_
  exact k W (buShut (u := true) o' h)
/-- String -/
theorem bstr_spec [i : Has l b (Bu t) R] (h : St w0 G l W) (hl : t.length ≤ 100000000000) (k : ∀ W', St w0 G R W' → RR (strV t) W') : CallF Tryz.prog 112 #[.pointer (some ⟨b, 0, none⟩)] W RR := by
  refine sh112_calls ?_
  unfold sh112
  obtain ⟨u, v, o, h⟩ := buOpen (b := b) (t := t) h
  refine ⟨St w0 G _, h.drew, ?_⟩
  replace h := h.drew
  refine a_nil (a_fld0 (ss_load ?_))
  refine a_nil (a_fld0 (ss_load ?_))
  refine x_lenSs (h.osl (v := v)) ?_
  have how := h.ow (v := v)
  have hf := (St.swap h).fact
  generalize W.drew = wd at *
  rcases how.2 with ⟨rfl, h0⟩ | ⟨g, cap, cur, rfl, hg, hh, hnc, hcm, hcs, htake⟩
  · have hl0 : t = [] := List.eq_nil_of_length_eq_zero h0
    subst hl0
    refine RunV.of (run_unsafeSliceData_nil wd _ _ _ _) ⟨h, ?_⟩
    exact RunV.of (run_unsafeString_none wd _ _ _ none) (k _ h.to)
  · by_cases hl0 : t = []
    · subst hl0
      by_cases hc0 : cap = 0
      · subst hc0
        have h' := h.ext (((Below.refl wd.heap.size wd).alloc (Nat.le_refl _) (.cells #[] 5)))
        refine RunV.of (run_unsafeSliceData_zero wd _ _ 5 Tryz.underlying171 ⟨g, 0, none⟩ _ (5, cur.size) (by simp [World.shape?, hh])) ⟨?_, ?_⟩
        · exact h.ext ((Below.refl wd.heap.size wd).alloc (Nat.le_refl _) _)
        · exact RunV.of (run_unsafeString_none _ _ _ _ _) (k _ (h.ext ((Below.refl wd.heap.size wd).alloc (Nat.le_refl _) _)).to)
      · refine RunV.of (run_unsafeSliceData_row wd _ _ ⟨g, 0, none⟩ _ _ hc0) ⟨h, ?_⟩
        exact RunV.of (run_unsafeString_none wd _ _ _ _) (k _ h.to)
    · have hpos : 0 < t.length := List.length_pos_iff.2 hl0
      refine RunV.of (run_unsafeSliceData_row wd _ _ ⟨g, 0, none⟩ _ _ (by omega)) ⟨h, ?_⟩
      refine RunV.of (run_unsafeString_row wd _ _ _ 5 Tryz.underlying171 (by kernel_rfl) g cur.size (by simp [World.shape?, hh]) t hl0 (by rw [hcs]; omega) (by omega) (fun j x hj => ?_)) (k _ ?_)
      · exact how.cells (g := g) rfl j (byteV x) (by rw [bytesV, List.getElem?_map, hj]; rfl)
      · have h2 := (St.swap h).upd (A' := emp) (W' := wd.freeze ⟨g, 0, none⟩ t.length) fun F hF => ⟨upd_freeze fun k hk => ?_, fun _ => False, fun _ h => h, fun _ h => h.elim⟩
        · exact h2.tail.tail
        · exact (hF.1 k).2 (by rw [hk]; rfl)
/-- the place of a byte in a text; -1: it is not there -/
theorem idxByte_spec (k : RR (.int .i64 (firstIdx ⟨t.toArray⟩ c)) W) : CallF Tryz.prog 104 #[strV t, byteV c] W RR := by
  refine sh104_calls ?_
  unfold sh104
  refine sh126_calls ?_
  unfold sh126
  refine RunO.of (v := .int .i64 (firstIdx ⟨t.toArray⟩ c)) (w' := W) ?_ k
  rw [run_callFunc_extern Tryz.func153 (by kernel_rfl) (by kernel_rfl) (by kernel_rfl) (e := Extern.BytealgIndexByte.indexByte) (by kernel_rfl)]
  unfold byteV
  rw [run_indexByte_string]
  have : ((c.toNat : Int)).toNat.toUInt8 = c := by simp
  rw [this]
  rfl
end
end Go.Proofs.YtlflpbflpcmckaaGreatDoor
namespace Go.Proofs.YtlflpbflpcmckaaGreatDoor
open Go Go.Ez Go.RowKit Go.Lib
set_option linter.unusedSimpArgs false
set_option linter.unusedVariables false
/-- what the reader's block holds beside the text, the place, the error: tokens, open elements, the builder's two -/
abbrev XC := Value × Value × Value × Value
abbrev xcells (r : XRd) (c : XC) : List Value := [strV r.s, nV .i64 r.at_, .int .i64 r.e, c.1, c.2.1, c.2.2.1, c.2.2.2]
abbrev Xo (r : XRd) (c : XC) : Nat → As := Ob (.cells (xcells r c).toArray 83 (0, 0))
abbrev xp (b : Nat) (u : Bool) : Value := .pointer (if u then some ⟨b, 5, none⟩ else none)
section
variable {w0 W W' : World} {G : Nat → Prop} {l R R1 : List As} {RR : Value → World → Prop} {t s : Txt} {c : XC} {b n : Nat} {r : XRd} {v vo vp : Value} {u : Bool}
theorem xcheck_spec [o : Cel1 v] [i : Has l b (Xo r (vo, vp, xp b u, v)) R] (h : St w0 G l W) (k : ∀ W', St w0 G (Ky b (Xo r (vo, vp, xp b true, v)) :: R) W' → RR (.tuple #[]) W') : CallF Tryz.prog 110 #[.pointer (some ⟨b, 5, none⟩)] W RR := by
  refine sh110_calls ?_
  unfold sh110
  obtain ⟨j, hj, hj2⟩ : ∃ j, Tryz.prog.info? 81 = some j ∧ j.size = 2 := ⟨Tryz.t81, by kernel_rfl, by kernel_rfl⟩
  have hjs : j.size ≠ 0 := by omega
  replace h := h.find (k := b) (X := Xo r (vo, vp, xp b u, v))
  have hsh : W.shape? b = some (83, 7) := by simp [World.shape?, show W.heap[b]? = _ from h.rc (b := b)]
  cases u
  · replace h : St w0 G (Ky b (Ob (.cells [strV r.s, nV .i64 r.at_, .int .i64 r.e, vo, vp, .pointer none, v].toArray 83 (0, 0))) :: R) W := h
    refine a_nil (a_fld (o := 5) ?_)
    dsimp only [Nat.reduceAdd]
    refine h.load ?_
    refine x_nilP ?_
    refine ift ?_
    refine RunV.of (run_to_unsafe W ⟨b, 5, none⟩ Tryz.underlying79 Tryz.underlying169 hj hjs hsh (show 5 < 7 by decide)) ?_
    refine RunO.of (v := .pointer (some ⟨b, 5, none⟩)) (w' := W) ?_ ?_
    · rw [run_callFunc_extern Tryz.func133 (by kernel_rfl) (by kernel_rfl) (by kernel_rfl) (e := Extern.AbiNoEscape.same) (by kernel_rfl)]
      rfl
    refine RunV.of (run_from_unsafe W ⟨b, 5, none⟩ Tryz.underlying169 Tryz.underlying79 hj hsh (by kernel_rfl)) ?_
    refine a_nil (a_fld (o := 5) ?_)
    dsimp only [Nat.reduceAdd]
    refine h.store fun W' h => ?_
    exact k W' h
  · replace h : St w0 G (Ky b (Ob (.cells [strV r.s, nV .i64 r.at_, .int .i64 r.e, vo, vp, .pointer (some ⟨b, 5, none⟩), v].toArray 83 (0, 0))) :: R) W := h
    refine a_nil (a_fld (o := 5) ?_)
    dsimp only [Nat.reduceAdd]
    refine h.load ?_
    refine x_nilP ?_
    refine iff' ?_
    refine a_nil (a_fld (o := 5) ?_)
    dsimp only [Nat.reduceAdd]
    refine h.load ?_
    exact w_samePn Tryz.underlying79 hj (iff' (k W h))
/-- WriteString -/
theorem xwstr_spec [o : Cel1 v] [i : Has l b (Xo r (vo, vp, xp b u, v)) R1] [i2 : Has R1 v (Ow 5 1 t.length (bytesV t)) R] (h : St w0 G l W) (hl : t.length + s.length ≤ 100000000000)
    (k : ∀ v' W', Cel1 v' → St w0 G (Ky b (Xo r (vo, vp, xp b true, v')) :: Ky v' (Ow 5 1 (t ++ s).length (bytesV (t ++ s))) :: R) W' → RR (.tuple #[nV .i64 s.length, .nilIface]) W') : CallF Tryz.prog 79 #[.pointer (some ⟨b, 5, none⟩), strV s] W RR := by
  refine sh79_calls ?_
  unfold sh79
  refine xcheck_spec (b := b) (u := u) (v := v) (r := r) (vo := vo) (vp := vp) h fun W h => ?_
  refine a_nil (a_fld (o := 5) ?_)
  dsimp only [Nat.reduceAdd]
  refine h.load ?_
  refine h.appS (v := v) (by omega) fun v' W o' h => ?_
  refine a_nil (a_fld (o := 5) ?_)
  dsimp only [Nat.reduceAdd]
  refine h.store fun W h => ?_
  rw [← bytesV_append, ← List.length_append] at h
  refine x_len ?_
  exact k v' W o' h
/-- String -/
theorem xbstr_spec [o : Cel1 v] [i : Has l b (Xo r (vo, vp, xp b u, v)) R1] [i2 : Has R1 v (Ow 5 1 t.length (bytesV t)) R] (h : St w0 G l W) (hl : t.length ≤ 100000000000) (k : ∀ W', St w0 G (Ky b (Xo r (vo, vp, xp b u, v)) :: R) W' → RR (strV t) W') : CallF Tryz.prog 112 #[.pointer (some ⟨b, 5, none⟩)] W RR := by
  refine sh112_calls ?_
  unfold sh112
  replace h : St w0 G (Ky b (Xo r (vo, vp, xp b u, v)) :: Ky v (Ow 5 1 t.length (bytesV t)) :: R) W := h.to
  refine ⟨St w0 G _, h.drew, ?_⟩
  replace h := h.drew
  refine a_nil (a_fld (o := 5) ?_)
  dsimp only [Nat.reduceAdd]
  refine ss_load ?_
  refine a_nil (a_fld (o := 5) ?_)
  dsimp only [Nat.reduceAdd]
  refine ss_load ?_
  refine x_lenSs (h.osl (v := v)) ?_
  have how := h.ow (v := v)
  have hf := (St.swap h).fact
  generalize W.drew = wd at *
  rcases how.2 with ⟨rfl, h0⟩ | ⟨g, cap, cur, rfl, hg, hh, hnc, hcm, hcs, htake⟩
  · have hl0 : t = [] := List.eq_nil_of_length_eq_zero h0
    subst hl0
    refine RunV.of (run_unsafeSliceData_nil wd _ _ _ _) ⟨h, ?_⟩
    exact RunV.of (run_unsafeString_none wd _ _ _ none) (k _ h.to)
  · by_cases hl0 : t = []
    · subst hl0
      by_cases hc0 : cap = 0
      · subst hc0
        refine RunV.of (run_unsafeSliceData_zero wd _ _ 5 Tryz.underlying171 ⟨g, 0, none⟩ _ (5, cur.size) (by simp [World.shape?, hh])) ⟨?_, ?_⟩
        · exact h.ext ((Below.refl wd.heap.size wd).alloc (Nat.le_refl _) _)
        · exact RunV.of (run_unsafeString_none _ _ _ _ _) (k _ (h.ext ((Below.refl wd.heap.size wd).alloc (Nat.le_refl _) _)).to)
      · refine RunV.of (run_unsafeSliceData_row wd _ _ ⟨g, 0, none⟩ _ _ hc0) ⟨h, ?_⟩
        exact RunV.of (run_unsafeString_none wd _ _ _ _) (k _ h.to)
    · have hpos : 0 < t.length := List.length_pos_iff.2 hl0
      refine RunV.of (run_unsafeSliceData_row wd _ _ ⟨g, 0, none⟩ _ _ (by omega)) ⟨h, ?_⟩
      refine RunV.of (run_unsafeString_row wd _ _ _ 5 Tryz.underlying171 (by kernel_rfl) g cur.size (by simp [World.shape?, hh]) t hl0 (by rw [hcs]; omega) (by omega) (fun j x hj => ?_)) (k _ ?_)
      · exact how.cells (g := g) rfl j (byteV x) (by rw [bytesV, List.getElem?_map, hj]; rfl)
      · have h2 := (St.swap h).upd (A' := emp) (W' := wd.freeze ⟨g, 0, none⟩ t.length) fun F hF => ⟨upd_freeze fun k hk => ?_, fun _ => False, fun _ h => h, fun _ h => h.elim⟩
        · exact h2.tail
        · exact (hF.1 k).2 (by rw [hk]; rfl)
/-- Reset -/
theorem xreset_spec [i : Has l b (Xo r (vo, vp, xp b u, v)) R] (h : St w0 G l W) (k : ∀ W', St w0 G (Ky b (Xo r (vo, vp, xp b false, .slice none 0 0)) :: R) W' → RR (.tuple #[]) W') : CallF Tryz.prog 113 #[.pointer (some ⟨b, 5, none⟩)] W RR := by
  refine sh113_calls ?_
  unfold sh113
  replace h := h.find (k := b) (X := Xo r (vo, vp, xp b u, v))
  refine a_nil (a_fld (o := 5) ?_)
  dsimp only [Nat.reduceAdd]
  refine h.store fun W h => ?_
  refine a_nil (a_fld (o := 5) ?_)
  dsimp only [Nat.reduceAdd]
  refine h.store fun W h => ?_
  exact k W h
end
end Go.Proofs.YtlflpbflpcmckaaGreatDoor
namespace Go.Proofs.YtlflpbflpcmckaaGreatDoor
open Go Go.Ez Go.RowKit Go.Lib
set_option linter.unusedSimpArgs false
set_option linter.unusedVariables false
section
variable {w0 W W' : World} {G : Nat → Prop} {l R : List As} {RR : Value → World → Prop} {t s p : Txt} {c : XC} {x : UInt8} {b n : Nat} {r : XRd}
theorem begins_spec (k : RR (.bool (XRd.begs x)) W) : CallF Tryz.prog 42 #[byteV x] W RR := by
  refine sh42_calls ?_
  unfold sh42
  have hx := x.toNat_lt
  have key : ∀ b, b = XRd.begs x → RR (.bool b) W := fun b e => by rw [e]; exact k
  have h95 : (x == 95) = decide ((x.toNat : Int) = 95) := by
    rw [Bool.eq_iff_iff, beq_iff_eq, decide_eq_true_iff, ← UInt8.toNat_inj]
    show x.toNat = 95 ↔ _
    omega
  unfold XRd.begs at key
  rw [h95] at key
  refine a_geq (ifd (fun h1 => a_leq (ifd (fun h2 => ?_) fun h2 => ?_)) fun h1 => ?_)
  · exact key _ (by simp only [show 97 ≤ x.toNat by omega, show x.toNat ≤ 122 by omega, and_self, decide_true, Bool.true_or])
  all_goals
    refine a_geq (ifd (fun h3 => a_leq (ifd (fun h4 => ?_) fun h4 => w_eql ?_)) fun h3 => w_eql ?_)
    · exact key _ (by simp only [show 65 ≤ x.toNat by omega, show x.toNat ≤ 90 by omega, and_self, decide_true, Bool.or_true, Bool.true_or])
    · exact key _ (by rw [decide_eq_false (p := 97 ≤ x.toNat ∧ x.toNat ≤ 122) (by omega), decide_eq_false (p := 65 ≤ x.toNat ∧ x.toNat ≤ 90) (by omega)]; rfl)
    · exact key _ (by rw [decide_eq_false (p := 97 ≤ x.toNat ∧ x.toNat ≤ 122) (by omega), decide_eq_false (p := 65 ≤ x.toNat ∧ x.toNat ≤ 90) (by omega)]; rfl)
theorem goes_spec (k : RR (.bool (XRd.goes x)) W) : CallF Tryz.prog 128 #[byteV x] W RR := by
  refine sh128_calls ?_
  unfold sh128
  have hx := x.toNat_lt
  have key : ∀ b, b = XRd.goes x → RR (.bool b) W := fun b e => by rw [e]; exact k
  have heq : ∀ n : Nat, n < 256 → (x == UInt8.ofNat n) = decide ((x.toNat : Int) = n) := fun n hn => by
    rw [Bool.eq_iff_iff, beq_iff_eq, decide_eq_true_iff, ← UInt8.toNat_inj, UInt8.toNat_ofNat', Nat.mod_eq_of_lt (by omega)]
    omega
  have h45 : (x == 45) = decide ((x.toNat : Int) = 45) := heq 45 (by decide)
  have h46 : (x == 46) = decide ((x.toNat : Int) = 46) := heq 46 (by decide)
  unfold XRd.goes at key
  rw [h45, h46] at key
  refine begins_spec (ifb (fun hb => ?_) fun hb => ?_)
  · exact key _ (by rw [hb]; simp)
  rw [hb] at key
  refine a_geq (ifd (fun h1 => a_leq (ifd (fun h2 => ?_) fun h2 => ?_)) fun h1 => ?_)
  · exact key _ (by simp only [show 48 ≤ x.toNat by omega, show x.toNat ≤ 57 by omega, and_self, decide_true, Bool.or_true, Bool.true_or])
  all_goals
    refine w_eql (ifd (fun h3 => ?_) fun h3 => w_eql ?_)
    · exact key _ (by rw [decide_eq_true h3]; simp)
    · exact key _ (by rw [decide_eq_false (p := 48 ≤ x.toNat ∧ x.toNat ≤ 57) (by omega), decide_eq_false h3]; rfl)
theorem good_spec {i : Int} (k : RR (.bool (XRd.good i)) W) : CallF Tryz.prog 127 #[.int .i32 i] W RR := by
  refine sh127_calls ?_
  unfold sh127
  have key : ∀ b, b = XRd.good i → RR (.bool b) W := fun b e => by rw [e]; exact k
  unfold XRd.good at key
  refine a_geq (ifd (fun h1 => key _ (decide_eq_true (.inl h1)).symm) fun h1 => w_eql (ifd (fun h2 => key _ (decide_eq_true (.inr (.inl h2))).symm) fun h2 => w_eql (ifd (fun h3 => key _ (decide_eq_true (.inr (.inr (.inl h3)))).symm) fun h3 => w_eql (key _ ?_))))
  exact decide_eq_decide.2 ⟨fun h => .inr (.inr (.inr h)), fun h => by omega⟩
theorem pre_spec (k : RR (.bool (XRd.isPre p s)) W) : CallF Tryz.prog 71 #[strV s, strV p] W RR := by
  refine sh71_calls ?_
  unfold sh71
  refine sh103_calls ?_
  unfold sh103
  refine x_len (x_len (a_geq (ifd (fun hc => ?_) fun hc => ?_)))
  · refine x_len (x_cutH (by omega) (w_eqlL ?_))
    exact k
  · have : XRd.isPre p s = false := by
      unfold XRd.isPre
      refine decide_eq_false fun e => hc ?_
      have := congrArg List.length e
      rw [List.length_take] at this
      omega
    rw [this] at k
    exact k
theorem fail_spec {e : Int} [i : Has l b (Xo r c) R] (h : St w0 G l W) (k : ∀ W', St w0 G (Ky b (Xo (r.fail e) c) :: R) W' → RR (.tuple #[]) W') : CallF Tryz.prog 41 #[.pointer (some ⟨b, 0, none⟩), .int .i64 e] W RR := by
  refine sh41_calls ?_
  unfold sh41
  replace h := h.find (k := b) (X := Xo r c)
  unfold XRd.fail at k
  (repeat (first | (with_reducible refine ift ?_) | (with_reducible refine iff' ?_) | (with_reducible refine a_lss ?_) | (with_reducible refine a_leq ?_) | (with_reducible refine a_gtr ?_) | (with_reducible refine a_geq ?_) | (with_reducible refine w_eql ?_) | (with_reducible refine w_neq ?_) | (with_reducible refine s_eql ?_) | (with_reducible refine s_neq ?_) | ((with_reducible refine a_add64 ?h0 ?h1 ?_); (case h0 => omega); (case h1 => omega);  skip) | ((with_reducible refine a_sub64 ?h0 ?h1 ?_); (case h0 => omega); (case h1 => omega);  skip) | ((with_reducible refine a_mul64 ?h0 ?h1 ?_); (case h0 => omega); (case h1 => omega);  skip) | (with_reducible refine a_notd ?_) | (with_reducible refine a_not ?_) | (with_reducible refine a_ext0 ?_) | (with_reducible refine a_ext1 ?_) | (with_reducible refine a_ext2 ?_) | (with_reducible refine x_len ?_) | (with_reducible refine x_lens ?_) | (with_reducible refine x_eqb ?_) | (with_reducible refine x_neb ?_) | (with_reducible refine x_nilP ?_) | (with_reducible refine x_nilPn ?_) | (with_reducible refine x_nilF ?_) | (with_reducible refine x_nilFF ?_) | (with_reducible refine w_eqlL ?_) | (with_reducible refine w_neqL ?_) | (with_reducible refine s_eqlL ?_) | (with_reducible refine ifnt ?_) | (with_reducible refine ifnf ?_) | (with_reducible refine x_eqB ?_) | (with_reducible refine x_neB ?_) | (with_reducible refine x_lssL ?_) | (with_reducible refine x_gtrL ?_) | (with_reducible refine x_geqL ?_) | (with_reducible refine s_neqL ?_) | (with_reducible refine St.load h ?_) | (with_reducible refine St.loadS h ?_) | (with_reducible refine a_fld0 ?_) | (with_reducible refine St.store h fun W h => ?_) | (with_reducible refine St.storeS h fun W h => ?_) | (with_reducible refine St.alloc h fun b W h => ?_) | (with_reducible refine St.allocS h fun b W h => ?_) | (with_reducible refine a_nil ?_) | (with_reducible refine ss_load ?_) | (with_reducible refine ss_loadS ?_) | (with_reducible refine ss_eqb ?_)))
  refine ifd (fun he => ?_) fun he => ?_
  · rw [if_pos he] at k
    (repeat (first | (with_reducible refine ift ?_) | (with_reducible refine iff' ?_) | (with_reducible refine a_lss ?_) | (with_reducible refine a_leq ?_) | (with_reducible refine a_gtr ?_) | (with_reducible refine a_geq ?_) | (with_reducible refine w_eql ?_) | (with_reducible refine w_neq ?_) | (with_reducible refine s_eql ?_) | (with_reducible refine s_neq ?_) | ((with_reducible refine a_add64 ?h0 ?h1 ?_); (case h0 => omega); (case h1 => omega);  skip) | ((with_reducible refine a_sub64 ?h0 ?h1 ?_); (case h0 => omega); (case h1 => omega);  skip) | ((with_reducible refine a_mul64 ?h0 ?h1 ?_); (case h0 => omega); (case h1 => omega);  skip) | (with_reducible refine a_notd ?_) | (with_reducible refine a_not ?_) | (with_reducible refine a_ext0 ?_) | (with_reducible refine a_ext1 ?_) | (with_reducible refine a_ext2 ?_) | (with_reducible refine x_len ?_) | (with_reducible refine x_lens ?_) | (with_reducible refine x_eqb ?_) | (with_reducible refine x_neb ?_) | (with_reducible refine x_nilP ?_) | (with_reducible refine x_nilPn ?_) | (with_reducible refine x_nilF ?_) | (with_reducible refine x_nilFF ?_) | (with_reducible refine w_eqlL ?_) | (with_reducible refine w_neqL ?_) | (with_reducible refine s_eqlL ?_) | (with_reducible refine ifnt ?_) | (with_reducible refine ifnf ?_) | (with_reducible refine x_eqB ?_) | (with_reducible refine x_neB ?_) | (with_reducible refine x_lssL ?_) | (with_reducible refine x_gtrL ?_) | (with_reducible refine x_geqL ?_) | (with_reducible refine s_neqL ?_) | (with_reducible refine St.load h ?_) | (with_reducible refine St.loadS h ?_) | (with_reducible refine a_fld0 ?_) | (with_reducible refine St.store h fun W h => ?_) | (with_reducible refine St.storeS h fun W h => ?_) | (with_reducible refine St.alloc h fun b W h => ?_) | (with_reducible refine St.allocS h fun b W h => ?_) | (with_reducible refine a_nil ?_) | (with_reducible refine ss_load ?_) | (with_reducible refine ss_loadS ?_) | (with_reducible refine ss_eqb ?_)))
    exact k W h
  · rw [if_neg he] at k
    exact k W h
theorem see_spec [i : Has l b (Xo r c) R] (h : St w0 G l W) (hok : r.Ok) (hs : r.s.length ≤ 1000000) (hn : n ≤ 1000) (k : ∀ W', St w0 G (Ky b (Xo (r.see n).2 c) :: R) W' → RR (byteV (r.see n).1) W') : CallF Tryz.prog 40 #[.pointer (some ⟨b, 0, none⟩), nV .i64 n] W RR := by
  refine sh40_calls ?_
  unfold sh40
  replace h := h.find (k := b) (X := Xo r c)
  have hlt := hok.lt
  refine ⟨St w0 G _, h.drew, ?_⟩
  replace h := h.drew
  (repeat (first | (with_reducible refine ift ?_) | (with_reducible refine iff' ?_) | (with_reducible refine a_lss ?_) | (with_reducible refine a_leq ?_) | (with_reducible refine a_gtr ?_) | (with_reducible refine a_geq ?_) | (with_reducible refine w_eql ?_) | (with_reducible refine w_neq ?_) | (with_reducible refine s_eql ?_) | (with_reducible refine s_neq ?_) | ((with_reducible refine a_add64 ?h0 ?h1 ?_); (case h0 => omega); (case h1 => omega);  skip) | ((with_reducible refine a_sub64 ?h0 ?h1 ?_); (case h0 => omega); (case h1 => omega);  skip) | ((with_reducible refine a_mul64 ?h0 ?h1 ?_); (case h0 => omega); (case h1 => omega);  skip) | (with_reducible refine a_notd ?_) | (with_reducible refine a_not ?_) | (with_reducible refine a_ext0 ?_) | (with_reducible refine a_ext1 ?_) | (with_reducible refine a_ext2 ?_) | (with_reducible refine x_len ?_) | (with_reducible refine x_lens ?_) | (with_reducible refine x_eqb ?_) | (with_reducible refine x_neb ?_) | (with_reducible refine x_nilP ?_) | (with_reducible refine x_nilPn ?_) | (with_reducible refine x_nilF ?_) | (with_reducible refine x_nilFF ?_) | (with_reducible refine w_eqlL ?_) | (with_reducible refine w_neqL ?_) | (with_reducible refine s_eqlL ?_) | (with_reducible refine ifnt ?_) | (with_reducible refine ifnf ?_) | (with_reducible refine x_eqB ?_) | (with_reducible refine x_neB ?_) | (with_reducible refine x_lssL ?_) | (with_reducible refine x_gtrL ?_) | (with_reducible refine x_geqL ?_) | (with_reducible refine s_neqL ?_) | (with_reducible refine St.load h ?_) | (with_reducible refine St.loadS h ?_) | (with_reducible refine a_fld0 ?_) | (with_reducible refine St.store h fun W h => ?_) | (with_reducible refine St.storeS h fun W h => ?_) | (with_reducible refine St.alloc h fun b W h => ?_) | (with_reducible refine St.allocS h fun b W h => ?_) | (with_reducible refine a_nil ?_) | (with_reducible refine ss_load ?_) | (with_reducible refine ss_loadS ?_) | (with_reducible refine ss_eqb ?_)))
  refine ifd (fun hc => ?_) fun hc => ?_
  · rw [XRd.see_none (List.getElem?_eq_none (by omega))] at k
    exact fail_spec (r := r) (c := c) h fun W h => k W h
  · have ha : r.s[r.at_ + n]? = some r.s[r.at_ + n] := List.getElem?_eq_getElem (by omega)
    generalize r.s[r.at_ + n] = x at ha
    rw [XRd.see_some ha] at k
    refine ⟨St w0 G _, h.drew, ?_⟩
    replace h := h.drew
    (repeat (first | (with_reducible refine ift ?_) | (with_reducible refine iff' ?_) | (with_reducible refine a_lss ?_) | (with_reducible refine a_leq ?_) | (with_reducible refine a_gtr ?_) | (with_reducible refine a_geq ?_) | (with_reducible refine w_eql ?_) | (with_reducible refine w_neq ?_) | (with_reducible refine s_eql ?_) | (with_reducible refine s_neq ?_) | ((with_reducible refine a_add64 ?h0 ?h1 ?_); (case h0 => omega); (case h1 => omega);  skip) | ((with_reducible refine a_sub64 ?h0 ?h1 ?_); (case h0 => omega); (case h1 => omega);  skip) | ((with_reducible refine a_mul64 ?h0 ?h1 ?_); (case h0 => omega); (case h1 => omega);  skip) | (with_reducible refine a_notd ?_) | (with_reducible refine a_not ?_) | (with_reducible refine a_ext0 ?_) | (with_reducible refine a_ext1 ?_) | (with_reducible refine a_ext2 ?_) | (with_reducible refine x_len ?_) | (with_reducible refine x_lens ?_) | (with_reducible refine x_eqb ?_) | (with_reducible refine x_neb ?_) | (with_reducible refine x_nilP ?_) | (with_reducible refine x_nilPn ?_) | (with_reducible refine x_nilF ?_) | (with_reducible refine x_nilFF ?_) | (with_reducible refine w_eqlL ?_) | (with_reducible refine w_neqL ?_) | (with_reducible refine s_eqlL ?_) | (with_reducible refine ifnt ?_) | (with_reducible refine ifnf ?_) | (with_reducible refine x_eqB ?_) | (with_reducible refine x_neB ?_) | (with_reducible refine x_lssL ?_) | (with_reducible refine x_gtrL ?_) | (with_reducible refine x_geqL ?_) | (with_reducible refine s_neqL ?_) | (with_reducible refine St.load h ?_) | (with_reducible refine St.loadS h ?_) | (with_reducible refine a_fld0 ?_) | (with_reducible refine St.store h fun W h => ?_) | (with_reducible refine St.storeS h fun W h => ?_) | (with_reducible refine St.alloc h fun b W h => ?_) | (with_reducible refine St.allocS h fun b W h => ?_) | (with_reducible refine a_nil ?_) | (with_reducible refine ss_load ?_) | (with_reducible refine ss_loadS ?_) | (with_reducible refine ss_eqb ?_)))
    refine x_index ha ?_
    exact k _ h
end
end Go.Proofs.YtlflpbflpcmckaaGreatDoor
namespace Go.Proofs
open Go.Shelf
def Tryz.lays197_ren : Go.Shelf.Ren := ⟨fun | 197 => 92 | 260 => 117 | n => n, fun | 9 => 9 | 21 => 21 | 3 => 3 | 4 => 4 | 5 => 5 | 105 => 136 | 119 => 174 | 0 => 0 | 46 => 175 | 139 => 178 | 138 => 177 | n => n, fun | 3 => 0 | 4 => 1 | n => n⟩
theorem Tryz.lays197 : Go.Proofs.Lays.n197 Tryz.prog Tryz.lays197_ren := {
  mixed := by kernel_rfl
  f197 := Tryz.func92.trans (congrArg some (by kernel_rfl))
  f260 := Tryz.func117.trans (congrArg some (by kernel_rfl))
  t0 := Tryz.underlying0
  a0 := Tryz.isAgg0
  z0 := Tryz.sizeOf0
  v0 := Tryz.zeroValue0
  t3 := Tryz.underlying3
  a3 := Tryz.isAgg3
  z3 := Tryz.sizeOf3
  v3 := Tryz.zeroValue3
  t4 := Tryz.underlying4
  a4 := Tryz.isAgg4
  z4 := Tryz.sizeOf4
  v4 := Tryz.zeroValue4
  t5 := Tryz.underlying5
  a5 := Tryz.isAgg5
  z5 := Tryz.sizeOf5
  v5 := Tryz.zeroValue5
  t9 := Tryz.underlying9
  a9 := Tryz.isAgg9
  z9 := Tryz.sizeOf9
  v9 := Tryz.zeroValue9
  t21 := Tryz.underlying21
  a21 := Tryz.isAgg21
  z21 := Tryz.sizeOf21
  v21 := Tryz.zeroValue21
  t46 := Tryz.underlying175
  a46 := Tryz.isAgg175
  z46 := Tryz.sizeOf175
  v46 := Tryz.zeroValue175
  t105 := Tryz.underlying136
  a105 := Tryz.isAgg136
  z105 := Tryz.sizeOf136
  v105 := Tryz.zeroValue136
  t119 := Tryz.underlying174
  a119 := Tryz.isAgg174
  z119 := Tryz.sizeOf174
  t138 := Tryz.underlying177
  a138 := Tryz.isAgg177
  z138 := Tryz.sizeOf177
  v138 := Tryz.zeroValue177
  t139 := Tryz.underlying178
  a139 := Tryz.isAgg178
  z139 := Tryz.sizeOf178
  v139 := Tryz.zeroValue178
  g3 := by kernel_rfl
  g4 := by kernel_rfl }
def Tryz.laysC245_ren : Go.Shelf.Ren := ⟨fun | 245 => 181 | 279 => 188 | 280 => 189 | 281 => 190 | 282 => 191 | 316 => 193 | 171 => 195 | 205 => 194 | 243 => 196 | 246 => 197 | 283 => 198 | 284 => 199 | 285 => 200 | 286 => 201 | 129 => 203 | 317 => 202 | 318 => 204 | 319 => 205 | 320 => 206 | 337 => 207 | 338 => 208 | n => n, fun | 9 => 9 | 3 => 3 | 75 => 128 | 167 => 211 | 4 => 4 | 168 => 213 | 210 => 217 | 37 => 31 | 0 => 0 | 127 => 171 | 145 => 222 | 143 => 220 | 2 => 2 | 171 => 224 | 53 => 205 | 5 => 5 | 173 => 227 | 212 => 230 | 51 => 231 | 20 => 20 | 213 => 232 | 46 => 175 | 232 => 235 | 233 => 236 | 80 => 131 | n => n, fun | 15 => 3 | 16 => 4 | 17 => 5 | 18 => 6 | 19 => 7 | n => n⟩
theorem Tryz.laysC245 : Go.Proofs.LaysC.n245 Tryz.prog Tryz.laysC245_ren := {
  mixed := by kernel_rfl
  f129 := Tryz.func203.trans (congrArg some (by kernel_rfl))
  f171 := Tryz.func195.trans (congrArg some (by kernel_rfl))
  f205 := Tryz.func194.trans (congrArg some (by kernel_rfl))
  f243 := Tryz.func196.trans (congrArg some (by kernel_rfl))
  f245 := Tryz.func181.trans (congrArg some (by kernel_rfl))
  f246 := Tryz.func197.trans (congrArg some (by kernel_rfl))
  f279 := Tryz.func188.trans (congrArg some (by kernel_rfl))
  f280 := Tryz.func189.trans (congrArg some (by kernel_rfl))
  f281 := Tryz.func190.trans (congrArg some (by kernel_rfl))
  f282 := Tryz.func191.trans (congrArg some (by kernel_rfl))
  f283 := Tryz.func198.trans (congrArg some (by kernel_rfl))
  f284 := Tryz.func199.trans (congrArg some (by kernel_rfl))
  f285 := Tryz.func200.trans (congrArg some (by kernel_rfl))
  f286 := Tryz.func201.trans (congrArg some (by kernel_rfl))
  f316 := Tryz.func193.trans (congrArg some (by kernel_rfl))
  f317 := Tryz.func202.trans (congrArg some (by kernel_rfl))
  f318 := Tryz.func204.trans (congrArg some (by kernel_rfl))
  f319 := Tryz.func205.trans (congrArg some (by kernel_rfl))
  f320 := Tryz.func206.trans (congrArg some (by kernel_rfl))
  f337 := Tryz.func207.trans (congrArg some (by kernel_rfl))
  f338 := Tryz.func208.trans (congrArg some (by kernel_rfl))
  t0 := Tryz.underlying0
  a0 := Tryz.isAgg0
  z0 := Tryz.sizeOf0
  v0 := Tryz.zeroValue0
  t2 := Tryz.underlying2
  a2 := Tryz.isAgg2
  z2 := Tryz.sizeOf2
  v2 := Tryz.zeroValue2
  t3 := Tryz.underlying3
  a3 := Tryz.isAgg3
  z3 := Tryz.sizeOf3
  v3 := Tryz.zeroValue3
  t4 := Tryz.underlying4
  a4 := Tryz.isAgg4
  z4 := Tryz.sizeOf4
  v4 := Tryz.zeroValue4
  t5 := Tryz.underlying5
  a5 := Tryz.isAgg5
  z5 := Tryz.sizeOf5
  v5 := Tryz.zeroValue5
  t9 := Tryz.underlying9
  a9 := Tryz.isAgg9
  z9 := Tryz.sizeOf9
  v9 := Tryz.zeroValue9
  t20 := Tryz.underlying20
  a20 := Tryz.isAgg20
  z20 := Tryz.sizeOf20
  v20 := Tryz.zeroValue20
  t37 := Tryz.underlying31
  a37 := Tryz.isAgg31
  z37 := Tryz.sizeOf31
  v37 := Tryz.zeroValue31
  t46 := Tryz.underlying175
  a46 := Tryz.isAgg175
  z46 := Tryz.sizeOf175
  v46 := Tryz.zeroValue175
  t51 := Tryz.underlying231
  a51 := Tryz.isAgg231
  z51 := Tryz.sizeOf231
  v51 := Tryz.zeroValue231
  t53 := Tryz.underlying205
  a53 := Tryz.isAgg205
  z53 := Tryz.sizeOf205
  v53 := Tryz.zeroValue205
  t75 := Tryz.underlying128
  a75 := Tryz.isAgg128
  z75 := Tryz.sizeOf128
  v75 := Tryz.zeroValue128
  t127 := Tryz.underlying171
  a127 := Tryz.isAgg171
  z127 := Tryz.sizeOf171
  v127 := Tryz.zeroValue171
  t143 := Tryz.underlying220
  a143 := Tryz.isAgg220
  z143 := Tryz.sizeOf220
  v143 := Tryz.zeroValue220
  t145 := Tryz.underlying222
  a145 := Tryz.isAgg222
  z145 := Tryz.sizeOf222
  v145 := Tryz.zeroValue222
  t167 := Tryz.underlying211
  a167 := Tryz.isAgg211
  z167 := Tryz.sizeOf211
  v167 := Tryz.zeroValue211
  t168 := Tryz.underlying213
  a168 := Tryz.isAgg213
  z168 := Tryz.sizeOf213
  v168 := Tryz.zeroValue213
  t171 := Tryz.underlying224
  a171 := Tryz.isAgg224
  z171 := Tryz.sizeOf224
  v171 := Tryz.zeroValue224
  t173 := Tryz.underlying227
  a173 := Tryz.isAgg227
  z173 := Tryz.sizeOf227
  v173 := Tryz.zeroValue227
  t210 := Tryz.underlying217
  a210 := Tryz.isAgg217
  z210 := Tryz.sizeOf217
  v210 := Tryz.zeroValue217
  t212 := Tryz.underlying230
  a212 := Tryz.isAgg230
  z212 := Tryz.sizeOf230
  v212 := Tryz.zeroValue230
  t213 := Tryz.underlying232
  a213 := Tryz.isAgg232
  z213 := Tryz.sizeOf232
  t232 := Tryz.underlying235
  a232 := Tryz.isAgg235
  z232 := Tryz.sizeOf235
  v232 := Tryz.zeroValue235
  t233 := Tryz.underlying236
  a233 := Tryz.isAgg236
  z233 := Tryz.sizeOf236
  v233 := Tryz.zeroValue236
  g15 := by kernel_rfl
  g16 := by kernel_rfl
  g17 := by kernel_rfl
  g18 := by kernel_rfl
  g19 := by kernel_rfl
  t80 := Tryz.underlying131
  a80 := Tryz.isAgg131
  z80 := Tryz.sizeOf131
  v80 := Tryz.zeroValue131
  i0 := by kernel_rfl
  i2 := by kernel_rfl
  i3 := by kernel_rfl
  i4 := by kernel_rfl
  i5 := by kernel_rfl
  i9 := by kernel_rfl
  i20 := by kernel_rfl
  i37 := by kernel_rfl
  i46 := by kernel_rfl
  i51 := by kernel_rfl
  i53 := by kernel_rfl
  i75 := by kernel_rfl
  i80 := by kernel_rfl
  i127 := by kernel_rfl
  i143 := by kernel_rfl
  i145 := by kernel_rfl
  i167 := by kernel_rfl
  i168 := by kernel_rfl
  i171 := by kernel_rfl
  i173 := by kernel_rfl
  i210 := by kernel_rfl
  i212 := by kernel_rfl
  i232 := by kernel_rfl
  i233 := by kernel_rfl
  m15 := by kernel_rfl
  m16 := by kernel_rfl
  m17 := by kernel_rfl
  m18 := by kernel_rfl
  m19 := by kernel_rfl
  c0 := by kernel_rfl
  c2 := by kernel_rfl
  c3 := by kernel_rfl
  c4 := by kernel_rfl
  c5 := by kernel_rfl
  c9 := by kernel_rfl
  c20 := by kernel_rfl
  c37 := by kernel_rfl
  c46 := by kernel_rfl
  c51 := by kernel_rfl
  c53 := by kernel_rfl
  c75 := by kernel_rfl
  c80 := by kernel_rfl
  c127 := by kernel_rfl
  c143 := by kernel_rfl
  c145 := by kernel_rfl
  c167 := by kernel_rfl
  c168 := by kernel_rfl
  c171 := by kernel_rfl
  c173 := by kernel_rfl
  c210 := by kernel_rfl
  c212 := by kernel_rfl
  c213 := by kernel_rfl
  c232 := by kernel_rfl
  c233 := by kernel_rfl }
end Go.Proofs
namespace Go.Proofs.YtlflpbflpcmckaaGreatDoor
open Go Go.Ez Go.RowKit Go.Lib
set_option linter.unusedSimpArgs false
set_option linter.unusedVariables false
/-- the sign that begins a text -/
def decX (t : Txt) : Int × Nat := ((decodeL t).1, (decodeL t).2)
theorem decX_ok : XRd.DecOk decX := ⟨fun t _ => decodeL_width t, fun t h => decodeL_le t h⟩
/-- the tables as they are laid, and an error's variable -/
structure XTabs (w : World) : Prop where
  u : Utf8Tabs 0 1 w
  s : ∃ ev, w.cell? ⟨3, 0, none⟩ = some ev ∧ (ev = .nilIface ∨ ∃ te pe, ev = .iface te pe)
theorem callF_of {g : FuncId} {args : Array Value} {w : World} {Q : Ending → World → Prop} {R : Value → World → Prop} (h : Calls Tryz.prog g args w Q) (k : ∀ e w', Q e w' → ∃ v, e = .returned v ∧ R v w') : CallF Tryz.prog g args w R := Calls.mono h k
section
variable {w0 W W' : World} {G : Nat → Prop} {l R : List As} {RR : Value → World → Prop} {t s p : Txt} {c : XC} {x : UInt8} {b n : Nat} {r : XRd}
theorem xtabs_at {l : List As} (hT : XTabs w0) (h : St w0 G0 l W) : XTabs W := by
  obtain ⟨h1, e1, h3, h3'⟩ := hT
  have hb := h.low
  have cell : ∀ {a : Addr} {v : Value}, w0.cell? a = some v → W.cell? a = some v := fun {a v} hc => by
    exact (World.cell?_of_block (a := a) (hb.block a.block (World.block_lt_of_cell? _ _ hc))).trans hc
  exact ⟨Utf8Tabs_below h1 hb, e1, cell h3, h3'⟩
theorem dec_spec (hT : XTabs w0) (h : St w0 G0 l W) (hs : s ≠ []) (k : ∀ W', St w0 G0 l W' → RR (.tuple #[.int .i32 (decX s).1, nV .i64 (decX s).2]) W') : CallF Tryz.prog 92 #[strV s] W RR :=
  callF_of (Any.utf8_DecodeRuneInString Tryz.lays197 ⟨s.toArray⟩ W (xtabs_at hT h).u) fun e W' hq => by
    have hd : decodeGo ⟨s.toArray⟩ = decodeL s := by
      unfold decodeGo decodeL
      rw [if_neg]
      show ¬ s.toArray.size = 0
      simpa using hs
    rw [hd] at hq
    exact ⟨_, hq.1, k W' (h.ext hq.2)⟩
theorem bl_idx : (0 ≤ (firstIdx ⟨#[32, 9, 10, 13]⟩ x : Int)) ↔ XRd.isBl x = true := by
  have h : ∀ x : Fin 256, decide (0 ≤ (firstIdx ⟨#[32, 9, 10, 13]⟩ (UInt8.ofNat x.val) : Int)) = XRd.isBl (UInt8.ofNat x.val) := by decide +kernel
  have := h ⟨x.toNat, x.toNat_lt⟩
  simp only [UInt8.ofNat_toNat] at this
  rw [← this, decide_eq_true_iff]
/-- wants -/
theorem wants_spec [i : Has l b (Xo r c) R] (h : St w0 G l W) (hok : r.Ok) (hs : r.s.length ≤ 1000000) (hp : p.length ≤ 1000) (k : ∀ W', St w0 G (Ky b (Xo (XRd.wants p r) c) :: R) W' → RR (.tuple #[]) W') : CallF Tryz.prog 72 #[.pointer (some ⟨b, 0, none⟩), strV p] W RR := by
  refine sh72_calls ?_
  unfold sh72
  replace h := h.find (k := b) (X := Xo r c)
  generalize hRES : XRd.wants p r = RES at k
  refine lpx (α := Nat × XRd) (fun A => [nV .i64 A.1]) (fun A W' => A.1 ≤ p.length ∧ A.2.Ok ∧ A.2.s = r.s ∧ XRd.wants (p.drop A.1) A.2 = RES ∧ St w0 G (Ky b (Xo A.2 c) :: R) W') (fun A => p.length - A.1) (0, r) (fun _ => rfl) rfl ⟨Nat.zero_le _, hok, rfl, by rw [List.drop_zero, hRES], h⟩ ?_
  clear h
  rintro next ⟨i, q⟩ W1 hnext ⟨h1, h2, h3, he, h⟩
  simp only at h1 h2 h3 he h
  refine app1 ?_
  (repeat (first | (with_reducible refine ift ?_) | (with_reducible refine iff' ?_) | (with_reducible refine a_lss ?_) | (with_reducible refine a_leq ?_) | (with_reducible refine a_gtr ?_) | (with_reducible refine a_geq ?_) | (with_reducible refine w_eql ?_) | (with_reducible refine w_neq ?_) | (with_reducible refine s_eql ?_) | (with_reducible refine s_neq ?_) | ((with_reducible refine a_add64 ?h0 ?h1 ?_); (case h0 => omega); (case h1 => omega);  skip) | ((with_reducible refine a_sub64 ?h0 ?h1 ?_); (case h0 => omega); (case h1 => omega);  skip) | ((with_reducible refine a_mul64 ?h0 ?h1 ?_); (case h0 => omega); (case h1 => omega);  skip) | (with_reducible refine a_notd ?_) | (with_reducible refine a_not ?_) | (with_reducible refine a_ext0 ?_) | (with_reducible refine a_ext1 ?_) | (with_reducible refine a_ext2 ?_) | (with_reducible refine x_len ?_) | (with_reducible refine x_lens ?_) | (with_reducible refine x_eqb ?_) | (with_reducible refine x_neb ?_) | (with_reducible refine x_nilP ?_) | (with_reducible refine x_nilPn ?_) | (with_reducible refine x_nilF ?_) | (with_reducible refine x_nilFF ?_) | (with_reducible refine w_eqlL ?_) | (with_reducible refine w_neqL ?_) | (with_reducible refine s_eqlL ?_) | (with_reducible refine ifnt ?_) | (with_reducible refine ifnf ?_) | (with_reducible refine x_eqB ?_) | (with_reducible refine x_neB ?_) | (with_reducible refine x_lssL ?_) | (with_reducible refine x_gtrL ?_) | (with_reducible refine x_geqL ?_) | (with_reducible refine s_neqL ?_) | (with_reducible refine St.load h ?_) | (with_reducible refine St.loadS h ?_) | (with_reducible refine a_fld0 ?_) | (with_reducible refine St.store h fun W h => ?_) | (with_reducible refine St.storeS h fun W h => ?_) | (with_reducible refine St.alloc h fun b W h => ?_) | (with_reducible refine St.allocS h fun b W h => ?_) | (with_reducible refine a_nil ?_) | (with_reducible refine ss_load ?_) | (with_reducible refine ss_loadS ?_) | (with_reducible refine ss_eqb ?_)))
  refine ifd (fun hc => ?_) fun hc => ?_
  · have hi : i < p.length := by omega
    have ga : p[i]? = some p[i] := List.getElem?_eq_getElem hi
    rw [List.drop_eq_getElem_cons hi] at he
    generalize p[i] = a at ga he
    (repeat (first | (with_reducible refine ift ?_) | (with_reducible refine iff' ?_) | (with_reducible refine a_lss ?_) | (with_reducible refine a_leq ?_) | (with_reducible refine a_gtr ?_) | (with_reducible refine a_geq ?_) | (with_reducible refine w_eql ?_) | (with_reducible refine w_neq ?_) | (with_reducible refine s_eql ?_) | (with_reducible refine s_neq ?_) | ((with_reducible refine a_add64 ?h0 ?h1 ?_); (case h0 => omega); (case h1 => omega);  skip) | ((with_reducible refine a_sub64 ?h0 ?h1 ?_); (case h0 => omega); (case h1 => omega);  skip) | ((with_reducible refine a_mul64 ?h0 ?h1 ?_); (case h0 => omega); (case h1 => omega);  skip) | (with_reducible refine a_notd ?_) | (with_reducible refine a_not ?_) | (with_reducible refine a_ext0 ?_) | (with_reducible refine a_ext1 ?_) | (with_reducible refine a_ext2 ?_) | (with_reducible refine x_len ?_) | (with_reducible refine x_lens ?_) | (with_reducible refine x_eqb ?_) | (with_reducible refine x_neb ?_) | (with_reducible refine x_nilP ?_) | (with_reducible refine x_nilPn ?_) | (with_reducible refine x_nilF ?_) | (with_reducible refine x_nilFF ?_) | (with_reducible refine w_eqlL ?_) | (with_reducible refine w_neqL ?_) | (with_reducible refine s_eqlL ?_) | (with_reducible refine ifnt ?_) | (with_reducible refine ifnf ?_) | (with_reducible refine x_eqB ?_) | (with_reducible refine x_neB ?_) | (with_reducible refine x_lssL ?_) | (with_reducible refine x_gtrL ?_) | (with_reducible refine x_geqL ?_) | (with_reducible refine s_neqL ?_) | (with_reducible refine St.load h ?_) | (with_reducible refine St.loadS h ?_) | (with_reducible refine a_fld0 ?_) | (with_reducible refine St.store h fun W h => ?_) | (with_reducible refine St.storeS h fun W h => ?_) | (with_reducible refine St.alloc h fun b W h => ?_) | (with_reducible refine St.allocS h fun b W h => ?_) | (with_reducible refine a_nil ?_) | (with_reducible refine ss_load ?_) | (with_reducible refine ss_loadS ?_) | (with_reducible refine ss_eqb ?_)))
    refine ifd (fun hq => ?_) fun hq => ?_
    · unfold XRd.wants at he
      rw [if_pos hq] at he
      refine see_spec (n := 0) (r := q) (c := c) h h2 (by rw [h3]; exact hs) (by decide) fun W h => ?_
      have hst := XRd.stp_see (n := 0) h2
      have hat : (q.see 0).2.at_ = q.at_ := XRd.see_at
      have hss : (q.see 0).2.s = q.s := XRd.see_s
      have hchar : (q.see 0).2.e = 0 → q.at_ < q.s.length := fun he => by
        obtain ⟨x, hx, _⟩ := XRd.see_e he
        exact XRd.lt_of_at hx
      generalize q.see 0 = y at *
      obtain ⟨y1, y2⟩ := y
      simp only at *
      have hlt := h2.le hq
      have hsl : q.s.length = r.s.length := by rw [h3]
      have nx : ∀ (z : XRd) W', z.at_ = q.at_ → z.s = q.s → (z.e = 0 → z.at_ < q.s.length) → XRd.wants (p.drop (i + 1)) (z.on 1) = RES → St w0 G (Ky b (Xo (z.on 1) c) :: R) W' → appN 1 next [nV .i64 (i + 1)] W' := fun z W' e1 e2 e3 e4 h' => by
        refine hnext (i + 1, z.on 1) W' (by simp only; omega) ⟨by simp only; omega, ⟨?_, fun hz => ?_⟩, by show z.s = r.s; rw [e2, h3], e4, h'⟩
        · show z.at_ + 1 ≤ z.s.length + 1; rw [e1, e2]; omega
        · show z.at_ + 1 ≤ z.s.length
          have := e3 hz
          rw [e1] at this ⊢; rw [e2]; omega
      refine jni (fun vs W' => vs = [.pointer (some ⟨b, 0, none⟩), strV p, nV .i64 i] ∧ ∃ z : XRd, z.at_ = q.at_ ∧ z.s = q.s ∧ (z.e = 0 → z.at_ < q.s.length) ∧ XRd.wants (p.drop (i + 1)) (z.on 1) = RES ∧ St w0 G (Ky b (Xo z c) :: R) W') ?_ ?_
      · rintro vs W _ ⟨rfl, z, e1, e2, e3, e4, h⟩
        refine app3 ?_
        clear hat hss hst hchar
        (repeat (first | (with_reducible refine ift ?_) | (with_reducible refine iff' ?_) | (with_reducible refine a_lss ?_) | (with_reducible refine a_leq ?_) | (with_reducible refine a_gtr ?_) | (with_reducible refine a_geq ?_) | (with_reducible refine w_eql ?_) | (with_reducible refine w_neq ?_) | (with_reducible refine s_eql ?_) | (with_reducible refine s_neq ?_) | ((with_reducible refine a_add64 ?h0 ?h1 ?_); (case h0 => omega); (case h1 => omega);  skip) | ((with_reducible refine a_sub64 ?h0 ?h1 ?_); (case h0 => omega); (case h1 => omega);  skip) | ((with_reducible refine a_mul64 ?h0 ?h1 ?_); (case h0 => omega); (case h1 => omega);  skip) | (with_reducible refine a_notd ?_) | (with_reducible refine a_not ?_) | (with_reducible refine a_ext0 ?_) | (with_reducible refine a_ext1 ?_) | (with_reducible refine a_ext2 ?_) | (with_reducible refine x_len ?_) | (with_reducible refine x_lens ?_) | (with_reducible refine x_eqb ?_) | (with_reducible refine x_neb ?_) | (with_reducible refine x_nilP ?_) | (with_reducible refine x_nilPn ?_) | (with_reducible refine x_nilF ?_) | (with_reducible refine x_nilFF ?_) | (with_reducible refine w_eqlL ?_) | (with_reducible refine w_neqL ?_) | (with_reducible refine s_eqlL ?_) | (with_reducible refine ifnt ?_) | (with_reducible refine ifnf ?_) | (with_reducible refine x_eqB ?_) | (with_reducible refine x_neB ?_) | (with_reducible refine x_lssL ?_) | (with_reducible refine x_gtrL ?_) | (with_reducible refine x_geqL ?_) | (with_reducible refine s_neqL ?_) | (with_reducible refine St.load h ?_) | (with_reducible refine St.loadS h ?_) | (with_reducible refine a_fld0 ?_) | (with_reducible refine St.store h fun W h => ?_) | (with_reducible refine St.storeS h fun W h => ?_) | (with_reducible refine St.alloc h fun b W h => ?_) | (with_reducible refine St.allocS h fun b W h => ?_) | (with_reducible refine a_nil ?_) | (with_reducible refine ss_load ?_) | (with_reducible refine ss_loadS ?_) | (with_reducible refine ss_eqb ?_)))
        · refine ⟨rfl, rfl, ?_⟩
          rw [show ((i : Int) + 1) = ((i + 1 : Nat) : Int) by push_cast; rfl]
          refine nx z W e1 e2 e3 e4 ?_
          exact h
      · (repeat (first | (with_reducible refine ift ?_) | (with_reducible refine iff' ?_) | (with_reducible refine a_lss ?_) | (with_reducible refine a_leq ?_) | (with_reducible refine a_gtr ?_) | (with_reducible refine a_geq ?_) | (with_reducible refine w_eql ?_) | (with_reducible refine w_neq ?_) | (with_reducible refine s_eql ?_) | (with_reducible refine s_neq ?_) | ((with_reducible refine a_add64 ?h0 ?h1 ?_); (case h0 => omega); (case h1 => omega);  skip) | ((with_reducible refine a_sub64 ?h0 ?h1 ?_); (case h0 => omega); (case h1 => omega);  skip) | ((with_reducible refine a_mul64 ?h0 ?h1 ?_); (case h0 => omega); (case h1 => omega);  skip) | (with_reducible refine a_notd ?_) | (with_reducible refine a_not ?_) | (with_reducible refine a_ext0 ?_) | (with_reducible refine a_ext1 ?_) | (with_reducible refine a_ext2 ?_) | (with_reducible refine x_len ?_) | (with_reducible refine x_lens ?_) | (with_reducible refine x_eqb ?_) | (with_reducible refine x_neb ?_) | (with_reducible refine x_nilP ?_) | (with_reducible refine x_nilPn ?_) | (with_reducible refine x_nilF ?_) | (with_reducible refine x_nilFF ?_) | (with_reducible refine w_eqlL ?_) | (with_reducible refine w_neqL ?_) | (with_reducible refine s_eqlL ?_) | (with_reducible refine ifnt ?_) | (with_reducible refine ifnf ?_) | (with_reducible refine x_eqB ?_) | (with_reducible refine x_neB ?_) | (with_reducible refine x_lssL ?_) | (with_reducible refine x_gtrL ?_) | (with_reducible refine x_geqL ?_) | (with_reducible refine s_neqL ?_) | (with_reducible refine St.load h ?_) | (with_reducible refine St.loadS h ?_) | (with_reducible refine a_fld0 ?_) | (with_reducible refine St.store h fun W h => ?_) | (with_reducible refine St.storeS h fun W h => ?_) | (with_reducible refine St.alloc h fun b W h => ?_) | (with_reducible refine St.allocS h fun b W h => ?_) | (with_reducible refine a_nil ?_) | (with_reducible refine ss_load ?_) | (with_reducible refine ss_loadS ?_) | (with_reducible refine ss_eqb ?_)))
        refine ifd (fun hy => ?_) fun hy => ?_
        · refine x_index ga ?_
          (repeat (first | (with_reducible refine ift ?_) | (with_reducible refine iff' ?_) | (with_reducible refine a_lss ?_) | (with_reducible refine a_leq ?_) | (with_reducible refine a_gtr ?_) | (with_reducible refine a_geq ?_) | (with_reducible refine w_eql ?_) | (with_reducible refine w_neq ?_) | (with_reducible refine s_eql ?_) | (with_reducible refine s_neq ?_) | ((with_reducible refine a_add64 ?h0 ?h1 ?_); (case h0 => omega); (case h1 => omega);  skip) | ((with_reducible refine a_sub64 ?h0 ?h1 ?_); (case h0 => omega); (case h1 => omega);  skip) | ((with_reducible refine a_mul64 ?h0 ?h1 ?_); (case h0 => omega); (case h1 => omega);  skip) | (with_reducible refine a_notd ?_) | (with_reducible refine a_not ?_) | (with_reducible refine a_ext0 ?_) | (with_reducible refine a_ext1 ?_) | (with_reducible refine a_ext2 ?_) | (with_reducible refine x_len ?_) | (with_reducible refine x_lens ?_) | (with_reducible refine x_eqb ?_) | (with_reducible refine x_neb ?_) | (with_reducible refine x_nilP ?_) | (with_reducible refine x_nilPn ?_) | (with_reducible refine x_nilF ?_) | (with_reducible refine x_nilFF ?_) | (with_reducible refine w_eqlL ?_) | (with_reducible refine w_neqL ?_) | (with_reducible refine s_eqlL ?_) | (with_reducible refine ifnt ?_) | (with_reducible refine ifnf ?_) | (with_reducible refine x_eqB ?_) | (with_reducible refine x_neB ?_) | (with_reducible refine x_lssL ?_) | (with_reducible refine x_gtrL ?_) | (with_reducible refine x_geqL ?_) | (with_reducible refine s_neqL ?_) | (with_reducible refine St.load h ?_) | (with_reducible refine St.loadS h ?_) | (with_reducible refine a_fld0 ?_) | (with_reducible refine St.store h fun W h => ?_) | (with_reducible refine St.storeS h fun W h => ?_) | (with_reducible refine St.alloc h fun b W h => ?_) | (with_reducible refine St.allocS h fun b W h => ?_) | (with_reducible refine a_nil ?_) | (with_reducible refine ss_load ?_) | (with_reducible refine ss_loadS ?_) | (with_reducible refine ss_eqb ?_)))
          refine ifd (fun hn => ?_) fun hn => ?_
          · refine fail_spec (r := y2) (c := c) h fun W h => ?_
            refine ⟨rfl, y2.fail 4, by rw [XRd.fail_at, hat], by rw [XRd.fail_s, hss], fun hz => absurd hz (XRd.fail_ne (by decide)), ?_, h⟩
            rw [← he]; unfold XRd.failIf; rw [if_pos (decide_eq_true ⟨hy, hn⟩)]
          · refine ⟨rfl, y2, hat, hss, fun _ => by rw [hat]; exact hchar hy, ?_, h⟩
            rw [← he]; unfold XRd.failIf; rw [if_neg (by rw [decide_eq_false (fun hx => hn hx.2)]; decide)]
        · refine ⟨rfl, y2, hat, hss, fun hz => absurd hz hy, ?_, h⟩
          rw [← he]; unfold XRd.failIf; rw [if_neg (by rw [decide_eq_false (fun hx => hy hx.1)]; decide)]
    · rw [XRd.wants_no hq] at he
      rw [he] at h
      exact k W1 h
  · have hi : i = p.length := by omega
    rw [hi, List.drop_length] at he
    have he2 : q = RES := he
    rw [he2] at h
    exact k W1 h
end
end Go.Proofs.YtlflpbflpcmckaaGreatDoor
namespace Go.Ez
open Go Go.Proofs Go.RowKit
set_option linter.unusedSimpArgs false
set_option linter.unusedVariables false
section
variable {P : Program} {w0 W W' : World} {G : Nat → Prop} {l R : List As} {KW : Value → World → Prop}
theorem app0 {f : FnN 0} {w : World} (h : f w) : appN 0 f [] w := h
end
end Go.Ez
