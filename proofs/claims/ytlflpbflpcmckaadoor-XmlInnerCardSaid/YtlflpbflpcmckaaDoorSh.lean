/-
  The shallow forms of the functions, printed by a program (ez.py) out of Lean's print of the loaded functions; each is proved to imply the function's contract: the equations are the kernel's.
-/
import Derived.Test.YtlflpbflpcmckaaDoorProg
import Derived.Test.YtlflpbflpcmckaaDoorEzSound
namespace Go.Proofs.YtlflpbflpcmckaaDoor
open Go Go.Ez
set_option linter.unusedVariables false
set_option maxRecDepth 100000
def ent : List Nat := [10, 24, 25, 26, 27, 28, 29, 30, 33, 34, 38, 39, 40, 41, 42, 43, 44, 45, 46, 47, 48, 49, 51, 52, 53, 54, 55, 56, 57, 58, 59, 60, 63, 64, 65, 66, 67, 68, 69, 70, 71, 74, 75, 76, 77, 78, 79, 80, 81, 82, 83, 84]
theorem hent : ∀ g, memN g ent = true → Enters Tryd.prog g := enters_all (by kernel_rfl)

/-! ### 9: handbill/hbllaw6.first -/
def sh9 (w : World) (R : Value → World → Prop) : Prop :=
 RunV Tryd.prog (Instr.buildSlice 22 32 #[(0, (.int .u8 60)), (1, (.int .u8 97)), (2, (.int .u8 32)), (3, (.int .u8 120)), (4, (.int .u8 61)), (5, (.int .u8 34)), (6, (.int .u8 49)), (7, (.int .u8 34)), (8, (.int .u8 62)), (9, (.int .u8 98)), (10, (.int .u8 38)), (11, (.int .u8 97)), (12, (.int .u8 109)), (13, (.int .u8 112)), (14, (.int .u8 59)), (15, (.int .u8 60)), (16, (.int .u8 33)), (17, (.int .u8 91)), (18, (.int .u8 67)), (19, (.int .u8 68)), (20, (.int .u8 65)), (21, (.int .u8 84)), (22, (.int .u8 65)), (23, (.int .u8 91)), (24, (.int .u8 60)), (25, (.int .u8 93)), (26, (.int .u8 93)), (27, (.int .u8 62)), (28, (.int .u8 60)), (29, (.int .u8 47)), (30, (.int .u8 97)), (31, (.int .u8 62))]) w fun t6_1 w =>
 RunV Tryd.prog (convert 22 22 t6_1) w fun t7_2 w =>
 CallF Tryd.prog 10 #[t7_2] w fun t8_3 w =>
 RunA Tryd.prog (Instr.extract t8_3 0) fun t9_4 =>
 RunA Tryd.prog (Instr.extract t8_3 1) fun t10_5 =>
 RunV Tryd.prog (Instr.buildSlice 22 6 #[(0, (.int .u8 60)), (1, (.int .u8 97)), (2, (.int .u8 58)), (3, (.int .u8 98)), (4, (.int .u8 47)), (5, (.int .u8 62))]) w fun t12_6 w =>
 RunV Tryd.prog (convert 22 22 t12_6) w fun t13_7 w =>
 CallF Tryd.prog 10 #[t13_7] w fun t14_8 w =>
 RunA Tryd.prog (Instr.extract t14_8 0) fun t15_9 =>
 RunA Tryd.prog (Instr.extract t14_8 1) fun t16_10 =>
 RunW Tryd.prog (bin .eql 25 (.tmp 17) (.const (.int .i64 0)) t10_5 (.int .i64 0)) w fun t18_11 =>
 IfB t18_11 (
 RunW Tryd.prog (Builtin.len_ #[24] 3 #[t9_4]) w fun t21_12 =>
 RunW Tryd.prog (bin .eql 3 (.tmp 21) (.const (.int .i64 3)) t21_12 (.int .i64 3)) w fun t22_13 =>
 IfB t22_13 (
 RunA Tryd.prog (Instr.indexAt 24 t9_4 (.int .i64 0)) fun t26_14 =>
 RunA Tryd.prog (Instr.fieldAt 30 t26_14 0) fun t27_15 =>
 RunW Tryd.prog (Instr.loadAt 3 t27_15) w fun t28_16 =>
 RunW Tryd.prog (bin .eql 3 (.tmp 28) (.const (.int .i64 1)) t28_16 (.int .i64 1)) w fun t29_17 =>
 IfB t29_17 (
 RunA Tryd.prog (Instr.indexAt 24 t9_4 (.int .i64 0)) fun t33_18 =>
 RunA Tryd.prog (Instr.fieldAt 30 t33_18 2) fun t34_19 =>
 RunW Tryd.prog (Instr.loadAt 9 t34_19) w fun t35_20 =>
 RunW Tryd.prog (bin .eql 9 (.tmp 35) (.const (.string ⟨#[97]⟩)) t35_20 (.string ⟨#[97]⟩)) w fun t36_21 =>
 IfB t36_21 (
 RunA Tryd.prog (Instr.indexAt 24 t9_4 (.int .i64 1)) fun t40_22 =>
 RunA Tryd.prog (Instr.fieldAt 30 t40_22 3) fun t41_23 =>
 RunW Tryd.prog (Instr.loadAt 9 t41_23) w fun t42_24 =>
 RunW Tryd.prog (bin .eql 9 (.tmp 42) (.const (.string ⟨#[98, 38, 60]⟩)) t42_24 (.string ⟨#[98, 38, 60]⟩)) w fun t43_25 =>
 IfB t43_25 (
 RunA Tryd.prog (Instr.indexAt 24 t9_4 (.int .i64 2)) fun t47_26 =>
 RunA Tryd.prog (Instr.fieldAt 30 t47_26 0) fun t48_27 =>
 RunW Tryd.prog (Instr.loadAt 3 t48_27) w fun t49_28 =>
 RunW Tryd.prog (bin .eql 3 (.tmp 49) (.const (.int .i64 2)) t49_28 (.int .i64 2)) w fun t50_29 =>
 IfB t50_29 (
 RunW Tryd.prog (bin .eql 25 (.tmp 53) (.const (.int .i64 4)) t16_10 (.int .i64 4)) w fun t54_30 =>
 R t54_30 w) (
 R (.bool false) w)) (
 R (.bool false) w)) (
 R (.bool false) w)) (
 R (.bool false) w)) (
 R (.bool false) w)) (
 R (.bool false) w)
theorem sh9_calls {w : World} {R : Value → World → Prop} (h : sh9  w R) : CallF Tryd.prog 9 #[] w R :=
  calls_of_denF (mk := false) (args := []) (an := (.seq (.ops []) (.seq (.ops [1, 2]) (.seq (.ops [1, 2, 4]) (.seq (.ops [0]) .leaf))))) (c := Tryd.f9.body.getD .skip) hent Tryd.func9 rfl (Nat.le_of_ble_eq_true (by kernel_rfl))
    (Eq.mp (show sh9  w R = denF Tryd.prog ent false Tryd.f9 (.seq (.ops []) (.seq (.ops [1, 2]) (.seq (.ops [1, 2, 4]) (.seq (.ops [0]) .leaf)))) (Tryd.f9.body.getD .skip) [] w R by kernel_rfl) h)

/-! ### 10: handbill/xml.Tokens -/
def sh10 (a0 : Value) (w : World) (R : Value → World → Prop) : Prop :=
 RunW Tryd.prog (Builtin.len_ #[22] 3 #[a0]) w fun t8_1 =>
 RunA Tryd.prog (bin .gtr 3 (.tmp 8) (.const (.int .i64 20000)) t8_1 (.int .i64 20000)) fun t9_2 =>
 IfB t9_2 (
 R (.tuple #[(.slice none 0 0), (.int .i64 3)]) w) (
 RunV Tryd.prog (convert 22 9 a0) w fun t11_3 w =>
 RunV Tryd.prog (Instr.build 67 #[(0, t11_3)]) w fun t12_4 w =>
 RunV Tryd.prog (Instr.box 67 t12_4) w fun t13_5 w =>
 CallF Tryd.prog 24 #[t13_5] w fun t15_6 w =>
 CallF Tryd.prog 25 #[t13_5, (.int .i64 0)] w fun t17_7 w =>
 jn 1 (fun t4_8 w =>
 CallF Tryd.prog 25 #[t4_8, (.int .i64 1)] w fun t30_10 w =>
 jn 1 (fun t4_11 w =>
 jn 1 (fun t4_13 w =>
 jn 1 (fun t4_15 w =>
 CallF Tryd.prog 30 #[t4_15] w fun t66_17 w =>
 jn 1 (fun t4_18 w =>
 RunA Tryd.prog (nilV t4_18) fun t87_20 =>
 RunA Tryd.prog (Instr.fieldAt 67 t87_20 2) fun t88_21 =>
 RunW Tryd.prog (Instr.loadAt 25 t88_21) w fun t89_22 =>
 RunW Tryd.prog (bin .neq 25 (.tmp 89) (.const (.int .i64 0)) t89_22 (.int .i64 0)) w fun t90_23 =>
 IfB t90_23 (
 drw (fun S_24 w =>
 RunA Tryd.prog (nilV t4_18) fun t92_25 =>
 RunA Tryd.prog (Instr.fieldAt 67 t92_25 2) fun t93_26 =>
 RunS Tryd.prog S_24 (Instr.loadAt 25 t93_26) fun t94_27 =>
 R (.tuple #[(.slice none 0 0), t94_27]) w) w) (
 RunA Tryd.prog (nilV t4_18) fun t96_28 =>
 RunA Tryd.prog (Instr.fieldAt 67 t96_28 3) fun t97_29 =>
 RunW Tryd.prog (Instr.loadAt 24 t97_29) w fun t98_30 =>
 R (.tuple #[t98_30, (.int .i64 0)]) w)) fun j_19 =>
 drw (fun S_31 w =>
 RunA Tryd.prog (nilV t4_15) fun t68_32 =>
 RunA Tryd.prog (Instr.fieldAt 67 t68_32 2) fun t69_33 =>
 RunS Tryd.prog S_31 (Instr.loadAt 25 t69_33) fun t70_34 =>
 RunS Tryd.prog S_31 (bin .eql 25 (.tmp 70) (.const (.int .i64 0)) t70_34 (.int .i64 0)) fun t71_35 =>
 IfB t71_35 (
 RunA Tryd.prog (nilV t4_15) fun t74_36 =>
 RunA Tryd.prog (Instr.fieldAt 67 t74_36 1) fun t75_37 =>
 RunS Tryd.prog S_31 (Instr.loadAt 3 t75_37) fun t76_38 =>
 RunA Tryd.prog (nilV t4_15) fun t78_39 =>
 RunA Tryd.prog (Instr.fieldAt 67 t78_39 0) fun t79_40 =>
 RunS Tryd.prog S_31 (Instr.loadAt 9 t79_40) fun t80_41 =>
 RunS Tryd.prog S_31 (Builtin.len_ #[9] 3 #[t80_41]) fun t81_42 =>
 RunA Tryd.prog (bin .lss 3 (.tmp 76) (.tmp 81) t76_38 t81_42) fun t82_43 =>
 IfB t82_43 (
 CallF Tryd.prog 26 #[t4_15, (.int .i64 4)] w fun t85_44 w =>
 j_19 t4_15 w) (
 j_19 t4_15 w)) (
 j_19 t4_15 w)) w) fun j_16 =>
 lp 0 (fun n_45 w =>
 RunA Tryd.prog (nilV t4_13) fun t51_46 =>
 RunA Tryd.prog (Instr.fieldAt 67 t51_46 2) fun t52_47 =>
 RunW Tryd.prog (Instr.loadAt 25 t52_47) w fun t53_48 =>
 RunW Tryd.prog (bin .eql 25 (.tmp 53) (.const (.int .i64 0)) t53_48 (.int .i64 0)) w fun t54_49 =>
 IfB t54_49 (
 RunA Tryd.prog (nilV t4_13) fun t57_50 =>
 RunA Tryd.prog (Instr.fieldAt 67 t57_50 4) fun t58_51 =>
 RunW Tryd.prog (Instr.loadAt 62 t58_51) w fun t59_52 =>
 RunW Tryd.prog (Builtin.len_ #[62] 3 #[t59_52]) w fun t60_53 =>
 RunA Tryd.prog (bin .gtr 3 (.tmp 60) (.const (.int .i64 0)) t60_53 (.int .i64 0)) fun t61_54 =>
 IfB t61_54 (
 CallF Tryd.prog 29 #[t4_13] w fun t64_55 w =>
 (t4_13 : Value) = t4_13 ∧ (n_45 w)) (
 j_16 t4_13 w)) (
 j_16 t4_13 w)) [] w) fun j_14 =>
 RunA Tryd.prog (nilV t4_11) fun t44_56 =>
 RunA Tryd.prog (Instr.fieldAt 67 t44_56 2) fun t45_57 =>
 RunW Tryd.prog (Instr.loadAt 25 t45_57) w fun t46_58 =>
 RunW Tryd.prog (bin .eql 25 (.tmp 46) (.const (.int .i64 0)) t46_58 (.int .i64 0)) w fun t47_59 =>
 IfB t47_59 (
 CallF Tryd.prog 28 #[t4_11] w fun t49_60 w =>
 j_14 t4_11 w) (
 j_14 t4_11 w)) fun j_12 =>
 RunA Tryd.prog (nilV t4_8) fun t32_61 =>
 RunA Tryd.prog (Instr.fieldAt 67 t32_61 2) fun t33_62 =>
 RunW Tryd.prog (Instr.loadAt 25 t33_62) w fun t34_63 =>
 RunW Tryd.prog (bin .eql 25 (.tmp 34) (.const (.int .i64 0)) t34_63 (.int .i64 0)) w fun t35_64 =>
 IfB t35_64 (
 CallF Tryd.prog 27 #[t30_10] w fun t38_65 w =>
 RunA Tryd.prog (Op.unary .not t38_65) fun t39_66 =>
 IfB t39_66 (
 CallF Tryd.prog 26 #[t4_8, (.int .i64 4)] w fun t42_67 w =>
 j_12 t4_8 w) (
 j_12 t4_8 w)) (
 j_12 t4_8 w)) fun j_9 =>
 RunA Tryd.prog (nilV t13_5) fun t19_68 =>
 RunA Tryd.prog (Instr.fieldAt 67 t19_68 2) fun t20_69 =>
 RunW Tryd.prog (Instr.loadAt 25 t20_69) w fun t21_70 =>
 RunW Tryd.prog (bin .eql 25 (.tmp 21) (.const (.int .i64 0)) t21_70 (.int .i64 0)) w fun t22_71 =>
 IfB t22_71 (
 RunW Tryd.prog (bin .neq 5 (.tmp 24) (.const (.int .u8 60)) t17_7 (.int .u8 60)) w fun t25_72 =>
 IfB t25_72 (
 CallF Tryd.prog 26 #[t13_5, (.int .i64 4)] w fun t28_73 w =>
 j_9 t13_5 w) (
 j_9 t13_5 w)) (
 j_9 t13_5 w))
theorem sh10_calls {a0 : Value} {w : World} {R : Value → World → Prop} (h : sh10 a0 w R) : CallF Tryd.prog 10 #[a0] w R :=
  calls_of_denF (mk := false) (args := [a0]) (an := (.seq (.ops [0]) (.seq (.seq (.ops [0, 9]) (.cond (.seq (.ops [2, 3]) .leaf) .leaf)) (.seq (.ops [4]) (.seq (.ops [4]) (.seq (.seq (.ops [4, 5]) (.join [4] (.seq (.ops [4, 26]) (.cond (.ops [4]) .leaf)))) (.seq (.seq (.ops [4, 6]) (.join [4] (.seq (.ops [4, 40]) (.cond (.ops [4]) .leaf)))) (.seq (.join [4] (.seq (.ops [4, 47]) (.cond (.ops [4]) .leaf))) (.seq (.join [4] (.blk (.loop [4] [] (.seq (.seq (.ops [4, 62]) (.cond .leaf .leaf)) (.blk (.ops [4])))))) (.seq (.ops [4]) (.seq (.join [4] (.seq (.draw (.q 0 (.q 1 (.q 2 (.q 3 (.q 4 (.q 5 (.sp 6 (.q 6 (.q 7 (.q 8 (.q 9 (.q 10 (.q 11 (.q 12 (.q 13 (.q 14 (.q 15 (.q 16 .fin))))))))))) (.q 6 (.q 7 (.q 8 (.q 9 (.q 10 (.q 11 (.q 12 (.q 13 (.q 14 (.q 15 (.q 16 .fin)))))))))))))))))) [4, 83]) (.cond (.ops [4]) .leaf))) (.seq (.seq (.ops [4, 90]) (.cond (.seq (.draw (.q 0 (.q 1 (.q 2 (.q 3 (.q 4 (.q 5 .fin)))))) [2, 3]) .leaf) .leaf)) (.seq (.ops [2, 3]) .leaf))))))))))))) (c := Tryd.f10.body.getD .skip) hent Tryd.func10 rfl (Nat.le_of_ble_eq_true (by kernel_rfl))
    (Eq.mp (show sh10 a0 w R = denF Tryd.prog ent false Tryd.f10 (.seq (.ops [0]) (.seq (.seq (.ops [0, 9]) (.cond (.seq (.ops [2, 3]) .leaf) .leaf)) (.seq (.ops [4]) (.seq (.ops [4]) (.seq (.seq (.ops [4, 5]) (.join [4] (.seq (.ops [4, 26]) (.cond (.ops [4]) .leaf)))) (.seq (.seq (.ops [4, 6]) (.join [4] (.seq (.ops [4, 40]) (.cond (.ops [4]) .leaf)))) (.seq (.join [4] (.seq (.ops [4, 47]) (.cond (.ops [4]) .leaf))) (.seq (.join [4] (.blk (.loop [4] [] (.seq (.seq (.ops [4, 62]) (.cond .leaf .leaf)) (.blk (.ops [4])))))) (.seq (.ops [4]) (.seq (.join [4] (.seq (.draw (.q 0 (.q 1 (.q 2 (.q 3 (.q 4 (.q 5 (.sp 6 (.q 6 (.q 7 (.q 8 (.q 9 (.q 10 (.q 11 (.q 12 (.q 13 (.q 14 (.q 15 (.q 16 .fin))))))))))) (.q 6 (.q 7 (.q 8 (.q 9 (.q 10 (.q 11 (.q 12 (.q 13 (.q 14 (.q 15 (.q 16 .fin)))))))))))))))))) [4, 83]) (.cond (.ops [4]) .leaf))) (.seq (.seq (.ops [4, 90]) (.cond (.seq (.draw (.q 0 (.q 1 (.q 2 (.q 3 (.q 4 (.q 5 .fin)))))) [2, 3]) .leaf) .leaf)) (.seq (.ops [2, 3]) .leaf)))))))))))) (Tryd.f10.body.getD .skip) [a0] w R by kernel_rfl) h)

/-! ### 24: (*handbill/xml.reader).front -/
def sh24 (a0 : Value) (w : World) (R : Value → World → Prop) : Prop :=
 jn 1 (fun t0_1 w =>
 jn 1 (fun t0_3 w =>
 CallF Tryd.prog 30 #[t0_3] w fun t48_5 w =>
 R (.tuple #[]) w) fun j_4 =>
 drw (fun S_6 w =>
 RunA Tryd.prog (nilV t0_1) fun t20_7 =>
 RunA Tryd.prog (Instr.fieldAt 67 t20_7 0) fun t21_8 =>
 RunS Tryd.prog S_6 (Instr.loadAt 9 t21_8) fun t22_9 =>
 RunA Tryd.prog (nilV t0_1) fun t24_10 =>
 RunA Tryd.prog (Instr.fieldAt 67 t24_10 1) fun t25_11 =>
 RunS Tryd.prog S_6 (Instr.loadAt 3 t25_11) fun t26_12 =>
 RunA Tryd.prog (Instr.sliceAt 9 t22_9 (some t26_12) none none) fun t27_13 =>
 CallF Tryd.prog 38 #[t27_13, (.string ⟨#[60, 63]⟩)] w fun t28_14 w =>
 IfB t28_14 (
 CallF Tryd.prog 39 #[t0_1, (.string ⟨#[60, 63, 120, 109, 108]⟩)] w fun t30_15 w =>
 CallF Tryd.prog 25 #[t0_1, (.int .i64 0)] w fun t32_16 w =>
 jn 1 (fun t0_17 w =>
 CallF Tryd.prog 41 #[t0_17, (.string ⟨#[63, 62]⟩)] w fun t46_19 w =>
 j_4 t0_17 w) fun j_18 =>
 RunA Tryd.prog (nilV t0_1) fun t34_20 =>
 RunA Tryd.prog (Instr.fieldAt 67 t34_20 2) fun t35_21 =>
 RunW Tryd.prog (Instr.loadAt 25 t35_21) w fun t36_22 =>
 RunW Tryd.prog (bin .eql 25 (.tmp 36) (.const (.int .i64 0)) t36_22 (.int .i64 0)) w fun t37_23 =>
 IfB t37_23 (
 CallF Tryd.prog 40 #[t0_1] w fun t40_24 w =>
 RunA Tryd.prog (Op.unary .not t40_24) fun t41_25 =>
 IfB t41_25 (
 CallF Tryd.prog 26 #[t0_1, (.int .i64 4)] w fun t44_26 w =>
 j_18 t0_1 w) (
 j_18 t0_1 w)) (
 j_18 t0_1 w)) (
 j_4 t0_1 w)) w) fun j_2 =>
 drw (fun S_27 w =>
 RunA Tryd.prog (nilV a0) fun t3_28 =>
 RunA Tryd.prog (Instr.fieldAt 67 t3_28 0) fun t4_29 =>
 RunS Tryd.prog S_27 (Instr.loadAt 9 t4_29) fun t5_30 =>
 RunA Tryd.prog (nilV a0) fun t7_31 =>
 RunA Tryd.prog (Instr.fieldAt 67 t7_31 1) fun t8_32 =>
 RunS Tryd.prog S_27 (Instr.loadAt 3 t8_32) fun t9_33 =>
 RunA Tryd.prog (Instr.sliceAt 9 t5_30 (some t9_33) none none) fun t10_34 =>
 CallF Tryd.prog 38 #[t10_34, (.string ⟨#[239, 187, 191]⟩)] w fun t11_35 w =>
 IfB t11_35 (
 RunA Tryd.prog (nilV a0) fun t13_36 =>
 RunA Tryd.prog (Instr.fieldAt 67 t13_36 1) fun t14_37 =>
 RunW Tryd.prog (Instr.loadAt 3 t14_37) w fun t15_38 =>
 RunA Tryd.prog (bin .add 3 (.tmp 15) (.const (.int .i64 3)) t15_38 (.int .i64 3)) fun t16_39 =>
 RunA Tryd.prog (nilV a0) fun t17_40 =>
 RunA Tryd.prog (Instr.fieldAt 67 t17_40 1) fun t18_41 =>
 RunU Tryd.prog (Instr.storeAt 3 t18_41 t16_39) w fun w =>
 j_2 a0 w) (
 j_2 a0 w)) w
theorem sh24_calls {a0 : Value} {w : World} {R : Value → World → Prop} (h : sh24 a0 w R) : CallF Tryd.prog 24 #[a0] w R :=
  calls_of_denF (mk := false) (args := [a0]) (an := (.seq (.join [0] (.seq (.draw (.q 0 (.q 1 (.q 2 (.q 3 (.q 4 (.q 5 (.q 6 (.q 7 (.q 8 (.one 9 .fin)))))))))) [0, 11]) (.cond (.ops [0]) .leaf))) (.seq (.join [0] (.seq (.draw (.q 0 (.q 1 (.q 2 (.q 3 (.q 4 (.q 5 (.q 6 (.q 7 (.q 8 (.one 9 .fin)))))))))) [0, 28]) (.cond (.seq (.ops [0]) (.seq (.seq (.ops [0]) (.join [0] (.seq (.ops [0, 42]) (.cond (.ops [0]) .leaf)))) (.ops [0]))) .leaf))) (.ops [])))) (c := Tryd.f24.body.getD .skip) hent Tryd.func24 rfl (Nat.le_of_ble_eq_true (by kernel_rfl))
    (Eq.mp (show sh24 a0 w R = denF Tryd.prog ent false Tryd.f24 (.seq (.join [0] (.seq (.draw (.q 0 (.q 1 (.q 2 (.q 3 (.q 4 (.q 5 (.q 6 (.q 7 (.q 8 (.one 9 .fin)))))))))) [0, 11]) (.cond (.ops [0]) .leaf))) (.seq (.join [0] (.seq (.draw (.q 0 (.q 1 (.q 2 (.q 3 (.q 4 (.q 5 (.q 6 (.q 7 (.q 8 (.one 9 .fin)))))))))) [0, 28]) (.cond (.seq (.ops [0]) (.seq (.seq (.ops [0]) (.join [0] (.seq (.ops [0, 42]) (.cond (.ops [0]) .leaf)))) (.ops [0]))) .leaf))) (.ops []))) (Tryd.f24.body.getD .skip) [a0] w R by kernel_rfl) h)

/-! ### 25: (*handbill/xml.reader).see -/
def sh25 (a0 a1 : Value) (w : World) (R : Value → World → Prop) : Prop :=
 drw (fun S_1 w =>
 RunA Tryd.prog (nilV a0) fun t6_2 =>
 RunA Tryd.prog (Instr.fieldAt 67 t6_2 1) fun t7_3 =>
 RunS Tryd.prog S_1 (Instr.loadAt 3 t7_3) fun t8_4 =>
 RunA Tryd.prog (bin .add 3 (.tmp 8) (.tmp 9) t8_4 a1) fun t10_5 =>
 RunA Tryd.prog (nilV a0) fun t12_6 =>
 RunA Tryd.prog (Instr.fieldAt 67 t12_6 0) fun t13_7 =>
 RunS Tryd.prog S_1 (Instr.loadAt 9 t13_7) fun t14_8 =>
 RunS Tryd.prog S_1 (Builtin.len_ #[9] 3 #[t14_8]) fun t15_9 =>
 RunA Tryd.prog (bin .geq 3 (.tmp 10) (.tmp 15) t10_5 t15_9) fun t16_10 =>
 IfB t16_10 (
 CallF Tryd.prog 26 #[a0, (.int .i64 2)] w fun t18_11 w =>
 R (.int .u8 0) w) (
 drw (fun S_12 w =>
 RunA Tryd.prog (nilV a0) fun t20_13 =>
 RunA Tryd.prog (Instr.fieldAt 67 t20_13 0) fun t21_14 =>
 RunS Tryd.prog S_12 (Instr.loadAt 9 t21_14) fun t22_15 =>
 RunA Tryd.prog (nilV a0) fun t24_16 =>
 RunA Tryd.prog (Instr.fieldAt 67 t24_16 1) fun t25_17 =>
 RunS Tryd.prog S_12 (Instr.loadAt 3 t25_17) fun t26_18 =>
 RunA Tryd.prog (bin .add 3 (.tmp 26) (.tmp 27) t26_18 a1) fun t28_19 =>
 RunA Tryd.prog (Instr.index 9 t22_15 t28_19) fun t29_20 =>
 R t29_20 w) w)) w
theorem sh25_calls {a0 a1 : Value} {w : World} {R : Value → World → Prop} (h : sh25 a0 a1 w R) : CallF Tryd.prog 25 #[a0, a1] w R :=
  calls_of_denF (mk := false) (args := [a0, a1]) (an := (.seq (.ops [0, 1]) (.seq (.seq (.draw (.q 0 (.q 1 (.q 2 (.q 3 (.q 4 (.q 5 (.q 6 (.q 7 (.q 8 (.q 9 (.q 10 (.q 11 .fin)))))))))))) [0, 1, 16]) (.cond (.seq (.ops []) (.seq (.ops [4]) .leaf)) .leaf)) (.seq (.draw (.q 0 (.q 1 (.q 2 (.q 3 (.q 4 (.q 5 (.q 6 (.q 7 (.q 8 (.q 9 (.q 10 (.q 11 .fin)))))))))))) [4]) .leaf)))) (c := Tryd.f25.body.getD .skip) hent Tryd.func25 rfl (Nat.le_of_ble_eq_true (by kernel_rfl))
    (Eq.mp (show sh25 a0 a1 w R = denF Tryd.prog ent false Tryd.f25 (.seq (.ops [0, 1]) (.seq (.seq (.draw (.q 0 (.q 1 (.q 2 (.q 3 (.q 4 (.q 5 (.q 6 (.q 7 (.q 8 (.q 9 (.q 10 (.q 11 .fin)))))))))))) [0, 1, 16]) (.cond (.seq (.ops []) (.seq (.ops [4]) .leaf)) .leaf)) (.seq (.draw (.q 0 (.q 1 (.q 2 (.q 3 (.q 4 (.q 5 (.q 6 (.q 7 (.q 8 (.q 9 (.q 10 (.q 11 .fin)))))))))))) [4]) .leaf))) (Tryd.f25.body.getD .skip) [a0, a1] w R by kernel_rfl) h)

/-! ### 26: (*handbill/xml.reader).fail -/
def sh26 (a0 a1 : Value) (w : World) (R : Value → World → Prop) : Prop :=
 RunA Tryd.prog (nilV a0) fun t5_1 =>
 RunA Tryd.prog (Instr.fieldAt 67 t5_1 2) fun t6_2 =>
 RunW Tryd.prog (Instr.loadAt 25 t6_2) w fun t7_3 =>
 RunW Tryd.prog (bin .eql 25 (.tmp 7) (.const (.int .i64 0)) t7_3 (.int .i64 0)) w fun t8_4 =>
 IfB t8_4 (
 RunA Tryd.prog (nilV a0) fun t11_5 =>
 RunA Tryd.prog (Instr.fieldAt 67 t11_5 2) fun t12_6 =>
 RunU Tryd.prog (Instr.storeAt 25 t12_6 a1) w fun w =>
 R (.tuple #[]) w) (
 R (.tuple #[]) w)
theorem sh26_calls {a0 a1 : Value} {w : World} {R : Value → World → Prop} (h : sh26 a0 a1 w R) : CallF Tryd.prog 26 #[a0, a1] w R :=
  calls_of_denF (mk := false) (args := [a0, a1]) (an := (.seq (.ops [0, 1, 8]) (.cond (.ops []) .leaf))) (c := Tryd.f26.body.getD .skip) hent Tryd.func26 rfl (Nat.le_of_ble_eq_true (by kernel_rfl))
    (Eq.mp (show sh26 a0 a1 w R = denF Tryd.prog ent false Tryd.f26 (.seq (.ops [0, 1, 8]) (.cond (.ops []) .leaf)) (Tryd.f26.body.getD .skip) [a0, a1] w R by kernel_rfl) h)

/-! ### 27: handbill/xml.begins -/
def sh27 (a0 : Value) (w : World) (R : Value → World → Prop) : Prop :=
 RunA Tryd.prog (bin .geq 5 (.tmp 3) (.const (.int .u8 97)) a0 (.int .u8 97)) fun t4_1 =>
 IfB t4_1 (
 RunA Tryd.prog (bin .leq 5 (.tmp 6) (.const (.int .u8 122)) a0 (.int .u8 122)) fun t7_2 =>
 IfB t7_2 (
 R (.bool true) w) (
 RunA Tryd.prog (bin .geq 5 (.tmp 10) (.const (.int .u8 65)) a0 (.int .u8 65)) fun t11_3 =>
 IfB t11_3 (
 RunA Tryd.prog (bin .leq 5 (.tmp 13) (.const (.int .u8 90)) a0 (.int .u8 90)) fun t14_4 =>
 IfB t14_4 (
 R (.bool true) w) (
 RunW Tryd.prog (bin .eql 5 (.tmp 18) (.const (.int .u8 95)) a0 (.int .u8 95)) w fun t19_5 =>
 R t19_5 w)) (
 RunW Tryd.prog (bin .eql 5 (.tmp 18) (.const (.int .u8 95)) a0 (.int .u8 95)) w fun t19_6 =>
 R t19_6 w))) (
 RunA Tryd.prog (bin .geq 5 (.tmp 10) (.const (.int .u8 65)) a0 (.int .u8 65)) fun t11_7 =>
 IfB t11_7 (
 RunA Tryd.prog (bin .leq 5 (.tmp 13) (.const (.int .u8 90)) a0 (.int .u8 90)) fun t14_8 =>
 IfB t14_8 (
 R (.bool true) w) (
 RunW Tryd.prog (bin .eql 5 (.tmp 18) (.const (.int .u8 95)) a0 (.int .u8 95)) w fun t19_9 =>
 R t19_9 w)) (
 RunW Tryd.prog (bin .eql 5 (.tmp 18) (.const (.int .u8 95)) a0 (.int .u8 95)) w fun t19_10 =>
 R t19_10 w))
theorem sh27_calls {a0 : Value} {w : World} {R : Value → World → Prop} (h : sh27 a0 w R) : CallF Tryd.prog 27 #[a0] w R :=
  calls_of_denF (mk := false) (args := [a0]) (an := (.seq (.ops [0]) (.seq (.ops [2]) .leaf))) (c := Tryd.f27.body.getD .skip) hent Tryd.func27 rfl (Nat.le_of_ble_eq_true (by kernel_rfl))
    (Eq.mp (show sh27 a0 w R = denF Tryd.prog ent false Tryd.f27 (.seq (.ops [0]) (.seq (.ops [2]) .leaf)) (Tryd.f27.body.getD .skip) [a0] w R by kernel_rfl) h)

/-! ### 28: (*handbill/xml.reader).element -/
def sh28 (a0 : Value) (w : World) (R : Value → World → Prop) : Prop :=
 RunA Tryd.prog (nilV a0) fun t7_1 =>
 RunA Tryd.prog (Instr.fieldAt 67 t7_1 1) fun t8_2 =>
 RunW Tryd.prog (Instr.loadAt 3 t8_2) w fun t9_3 =>
 RunA Tryd.prog (bin .add 3 (.tmp 9) (.const (.int .i64 1)) t9_3 (.int .i64 1)) fun t10_4 =>
 RunA Tryd.prog (nilV a0) fun t11_5 =>
 RunA Tryd.prog (Instr.fieldAt 67 t11_5 1) fun t12_6 =>
 RunU Tryd.prog (Instr.storeAt 3 t12_6 t10_4) w fun w =>
 RunA Tryd.prog (nilV a0) fun t14_7 =>
 RunA Tryd.prog (Instr.fieldAt 67 t14_7 4) fun t15_8 =>
 RunW Tryd.prog (Instr.loadAt 62 t15_8) w fun t16_9 =>
 RunW Tryd.prog (Builtin.len_ #[62] 3 #[t16_9]) w fun t17_10 =>
 RunA Tryd.prog (bin .geq 3 (.tmp 17) (.const (.int .i64 64)) t17_10 (.int .i64 64)) fun t18_11 =>
 IfB t18_11 (
 CallF Tryd.prog 26 #[a0, (.int .i64 10)] w fun t20_12 w =>
 R (.tuple #[]) w) (
 CallF Tryd.prog 42 #[a0] w fun t22_13 w =>
 RunV Tryd.prog (Instr.alloc 82 true (.tuple #[])) w fun t2_14 w =>
 RunU Tryd.prog (Instr.storeAt 82 t2_14 t22_13) w fun w =>
 CallF Tryd.prog 43 #[a0] w fun t24_15 w =>
 RunA Tryd.prog (nilV a0) fun t26_16 =>
 RunA Tryd.prog (Instr.fieldAt 67 t26_16 2) fun t27_17 =>
 RunW Tryd.prog (Instr.loadAt 25 t27_17) w fun t28_18 =>
 RunW Tryd.prog (bin .neq 25 (.tmp 28) (.const (.int .i64 0)) t28_18 (.int .i64 0)) w fun t29_19 =>
 IfB t29_19 (
 R (.tuple #[]) w) (
 CallF Tryd.prog 25 #[a0, (.int .i64 0)] w fun t31_20 w =>
 RunW Tryd.prog (bin .eql 5 (.tmp 31) (.const (.int .u8 47)) t31_20 (.int .u8 47)) w fun t32_21 =>
 jn 4 (fun t0_22 t2_23 t3_24 t4_25 w =>
 CallF Tryd.prog 39 #[t0_22, (.string ⟨#[62]⟩)] w fun t42_27 w =>
 RunA Tryd.prog (nilV t0_22) fun t44_28 =>
 RunA Tryd.prog (Instr.fieldAt 67 t44_28 2) fun t45_29 =>
 RunW Tryd.prog (Instr.loadAt 25 t45_29) w fun t46_30 =>
 RunW Tryd.prog (bin .neq 25 (.tmp 46) (.const (.int .i64 0)) t46_30 (.int .i64 0)) w fun t47_31 =>
 IfB t47_31 (
 R (.tuple #[]) w) (
 RunW Tryd.prog (Instr.loadAt 82 t2_23) w fun t49_32 =>
 CallF Tryd.prog 44 #[t0_22, t49_32, t3_24] w fun t51_33 w =>
 RunV Tryd.prog (Instr.alloc 88 true (.tuple #[])) w fun t5_34 w =>
 RunU Tryd.prog (Instr.storeAt 88 t5_34 t51_33) w fun w =>
 IfB t4_25 (
 RunW Tryd.prog (Instr.loadAt 88 t5_34) w fun t54_35 =>
 CallF Tryd.prog 45 #[t0_22, t54_35] w fun t55_36 w =>
 R (.tuple #[]) w) (
 drw (fun S_37 w =>
 RunA Tryd.prog (nilV t0_22) fun t58_38 =>
 RunA Tryd.prog (Instr.fieldAt 67 t58_38 4) fun t59_39 =>
 RunS Tryd.prog S_37 (Instr.loadAt 62 t59_39) fun t60_40 =>
 RunS Tryd.prog S_37 (Instr.loadAt 88 t5_34) fun t61_41 =>
 RunV Tryd.prog (Instr.buildSlice 62 1 #[(0, t61_41)]) w fun t62_42 w =>
 S_37 w ∧ (
 RunV Tryd.prog (Builtin.append_ #[62, 62] 62 #[t60_40, t62_42]) w fun t63_43 w =>
 RunA Tryd.prog (nilV t0_22) fun t64_44 =>
 RunA Tryd.prog (Instr.fieldAt 67 t64_44 4) fun t65_45 =>
 RunU Tryd.prog (Instr.storeAt 62 t65_45 t63_43) w fun w =>
 R (.tuple #[]) w)) w))) fun j_26 =>
 IfB t32_21 (
 RunA Tryd.prog (nilV a0) fun t35_46 =>
 RunA Tryd.prog (Instr.fieldAt 67 t35_46 1) fun t36_47 =>
 RunW Tryd.prog (Instr.loadAt 3 t36_47) w fun t37_48 =>
 RunA Tryd.prog (bin .add 3 (.tmp 37) (.const (.int .i64 1)) t37_48 (.int .i64 1)) fun t38_49 =>
 RunA Tryd.prog (nilV a0) fun t39_50 =>
 RunA Tryd.prog (Instr.fieldAt 67 t39_50 1) fun t40_51 =>
 RunU Tryd.prog (Instr.storeAt 3 t40_51 t38_49) w fun w =>
 j_26 a0 t2_14 t24_15 t32_21 w) (
 j_26 a0 t2_14 t24_15 t32_21 w)))
theorem sh28_calls {a0 : Value} {w : World} {R : Value → World → Prop} (h : sh28 a0 w R) : CallF Tryd.prog 28 #[a0] w R :=
  calls_of_denF (mk := false) (args := [a0]) (an := (.seq (.ops [0]) (.seq (.seq (.ops [0, 18]) (.cond (.seq (.ops []) .leaf) .leaf)) (.seq (.ops [0, 2]) (.seq (.ops [0, 2, 3]) (.seq (.seq (.ops [0, 2, 3, 29]) (.cond .leaf .leaf)) (.seq (.ops [0, 2, 3, 4]) (.seq (.join [0, 2, 3, 4] (.seq (.ops [0, 2, 3, 4, 33]) (.cond (.ops [0, 2, 3, 4]) .leaf))) (.seq (.ops [0, 2, 3, 4]) (.seq (.seq (.ops [0, 2, 3, 4, 47]) (.cond .leaf .leaf)) (.seq (.ops [0, 4, 5]) (.seq (.seq (.ops [0, 5, 52]) (.cond (.seq (.ops []) .leaf) .leaf)) (.draw (.q 0 (.q 1 (.q 2 (.q 3 (.q 4 (.q 5 (.one 6 (.one 7 (.q 8 (.q 9 (.one 10 .fin))))))))))) []))))))))))))) (c := Tryd.f28.body.getD .skip) hent Tryd.func28 rfl (Nat.le_of_ble_eq_true (by kernel_rfl))
    (Eq.mp (show sh28 a0 w R = denF Tryd.prog ent false Tryd.f28 (.seq (.ops [0]) (.seq (.seq (.ops [0, 18]) (.cond (.seq (.ops []) .leaf) .leaf)) (.seq (.ops [0, 2]) (.seq (.ops [0, 2, 3]) (.seq (.seq (.ops [0, 2, 3, 29]) (.cond .leaf .leaf)) (.seq (.ops [0, 2, 3, 4]) (.seq (.join [0, 2, 3, 4] (.seq (.ops [0, 2, 3, 4, 33]) (.cond (.ops [0, 2, 3, 4]) .leaf))) (.seq (.ops [0, 2, 3, 4]) (.seq (.seq (.ops [0, 2, 3, 4, 47]) (.cond .leaf .leaf)) (.seq (.ops [0, 4, 5]) (.seq (.seq (.ops [0, 5, 52]) (.cond (.seq (.ops []) .leaf) .leaf)) (.draw (.q 0 (.q 1 (.q 2 (.q 3 (.q 4 (.q 5 (.one 6 (.one 7 (.q 8 (.q 9 (.one 10 .fin))))))))))) [])))))))))))) (Tryd.f28.body.getD .skip) [a0] w R by kernel_rfl) h)

/-! ### 29: (*handbill/xml.reader).content -/
def sh29 (a0 : Value) (w : World) (R : Value → World → Prop) : Prop :=
 CallF Tryd.prog 25 #[a0, (.int .i64 0)] w fun t4_1 w =>
 RunW Tryd.prog (bin .neq 5 (.tmp 4) (.const (.int .u8 60)) t4_1 (.int .u8 60)) w fun t5_2 =>
 IfB t5_2 (
 drw (fun S_3 w =>
 RunA Tryd.prog (nilV a0) fun t7_4 =>
 RunA Tryd.prog (Instr.fieldAt 67 t7_4 5) fun t8_5 =>
 CallF Tryd.prog 46 #[a0] w fun t10_6 w =>
 CallF Tryd.prog 33 #[t8_5, t10_6] w fun t11_7 w =>
 R (.tuple #[]) w) w) (
 CallF Tryd.prog 25 #[a0, (.int .i64 1)] w fun t13_8 w =>
 RunA Tryd.prog (nilV a0) fun t18_9 =>
 RunA Tryd.prog (Instr.fieldAt 67 t18_9 2) fun t19_10 =>
 RunW Tryd.prog (Instr.loadAt 25 t19_10) w fun t20_11 =>
 RunW Tryd.prog (bin .neq 25 (.tmp 20) (.const (.int .i64 0)) t20_11 (.int .i64 0)) w fun t21_12 =>
 IfB t21_12 (
 R (.tuple #[]) w) (
 RunW Tryd.prog (bin .eql 5 (.tmp 23) (.const (.int .u8 33)) t13_8 (.int .u8 33)) w fun t24_13 =>
 IfB t24_13 (
 CallF Tryd.prog 25 #[a0, (.int .i64 2)] w fun t27_14 w =>
 RunW Tryd.prog (bin .eql 5 (.tmp 27) (.const (.int .u8 91)) t27_14 (.int .u8 91)) w fun t28_15 =>
 IfB t28_15 (
 CallF Tryd.prog 39 #[a0, (.string ⟨#[60, 33, 91, 67, 68, 65, 84, 65, 91]⟩)] w fun t31_16 w =>
 drw (fun S_17 w =>
 RunA Tryd.prog (nilV a0) fun t33_18 =>
 RunA Tryd.prog (Instr.fieldAt 67 t33_18 5) fun t34_19 =>
 CallF Tryd.prog 41 #[a0, (.string ⟨#[93, 93, 62]⟩)] w fun t36_20 w =>
 CallF Tryd.prog 33 #[t34_19, t36_20] w fun t37_21 w =>
 R (.tuple #[]) w) w) (
 RunW Tryd.prog (bin .eql 5 (.tmp 39) (.const (.int .u8 33)) t13_8 (.int .u8 33)) w fun t40_22 =>
 IfB t40_22 (
 CallF Tryd.prog 47 #[a0] w fun t42_23 w =>
 R (.tuple #[]) w) (
 RunW Tryd.prog (bin .eql 5 (.tmp 44) (.const (.int .u8 47)) t13_8 (.int .u8 47)) w fun t45_24 =>
 IfB t45_24 (
 CallF Tryd.prog 48 #[a0] w fun t47_25 w =>
 CallF Tryd.prog 49 #[a0] w fun t49_26 w =>
 R (.tuple #[]) w) (
 CallF Tryd.prog 27 #[t13_8] w fun t52_27 w =>
 IfB t52_27 (
 CallF Tryd.prog 48 #[a0] w fun t54_28 w =>
 CallF Tryd.prog 28 #[a0] w fun t56_29 w =>
 R (.tuple #[]) w) (
 CallF Tryd.prog 26 #[a0, (.int .i64 4)] w fun t15_30 w =>
 R (.tuple #[]) w))))) (
 RunW Tryd.prog (bin .eql 5 (.tmp 39) (.const (.int .u8 33)) t13_8 (.int .u8 33)) w fun t40_31 =>
 IfB t40_31 (
 CallF Tryd.prog 47 #[a0] w fun t42_32 w =>
 R (.tuple #[]) w) (
 RunW Tryd.prog (bin .eql 5 (.tmp 44) (.const (.int .u8 47)) t13_8 (.int .u8 47)) w fun t45_33 =>
 IfB t45_33 (
 CallF Tryd.prog 48 #[a0] w fun t47_34 w =>
 CallF Tryd.prog 49 #[a0] w fun t49_35 w =>
 R (.tuple #[]) w) (
 CallF Tryd.prog 27 #[t13_8] w fun t52_36 w =>
 IfB t52_36 (
 CallF Tryd.prog 48 #[a0] w fun t54_37 w =>
 CallF Tryd.prog 28 #[a0] w fun t56_38 w =>
 R (.tuple #[]) w) (
 CallF Tryd.prog 26 #[a0, (.int .i64 4)] w fun t15_39 w =>
 R (.tuple #[]) w))))))
theorem sh29_calls {a0 : Value} {w : World} {R : Value → World → Prop} (h : sh29 a0 w R) : CallF Tryd.prog 29 #[a0] w R :=
  calls_of_denF (mk := false) (args := [a0]) (an := (.seq (.seq (.ops [0, 5]) (.cond (.seq (.draw (.q 0 (.q 1 (.q 2 (.q 3 (.one 4 (.one 5 .fin)))))) []) .leaf) .leaf)) (.seq (.ops [0, 2]) (.blk (.seq (.ops [0, 2, 16]) (.cond .leaf (.seq (.ops [0, 2, 22]) (.cond (.seq (.ops [0]) (.draw (.q 0 (.q 1 (.q 2 (.q 3 (.one 4 (.one 5 .fin)))))) [])) (.seq (.ops [0, 2, 38]) (.cond (.ops []) (.seq (.ops [0, 2, 43]) (.cond (.seq (.ops [0]) (.ops [])) (.seq (.ops [0, 50]) (.cond (.seq (.ops [0]) (.ops [])) (.ops []))))))))))))))) (c := Tryd.f29.body.getD .skip) hent Tryd.func29 rfl (Nat.le_of_ble_eq_true (by kernel_rfl))
    (Eq.mp (show sh29 a0 w R = denF Tryd.prog ent false Tryd.f29 (.seq (.seq (.ops [0, 5]) (.cond (.seq (.draw (.q 0 (.q 1 (.q 2 (.q 3 (.one 4 (.one 5 .fin)))))) []) .leaf) .leaf)) (.seq (.ops [0, 2]) (.blk (.seq (.ops [0, 2, 16]) (.cond .leaf (.seq (.ops [0, 2, 22]) (.cond (.seq (.ops [0]) (.draw (.q 0 (.q 1 (.q 2 (.q 3 (.one 4 (.one 5 .fin)))))) [])) (.seq (.ops [0, 2, 38]) (.cond (.ops []) (.seq (.ops [0, 2, 43]) (.cond (.seq (.ops [0]) (.ops [])) (.seq (.ops [0, 50]) (.cond (.seq (.ops [0]) (.ops [])) (.ops [])))))))))))))) (Tryd.f29.body.getD .skip) [a0] w R by kernel_rfl) h)

/-! ### 30: (*handbill/xml.reader).misc -/
def sh30 (a0 : Value) (w : World) (R : Value → World → Prop) : Prop :=
 lp 0 (fun n_1 w =>
 RunA Tryd.prog (nilV a0) fun t3_2 =>
 RunA Tryd.prog (Instr.fieldAt 67 t3_2 2) fun t4_3 =>
 RunW Tryd.prog (Instr.loadAt 25 t4_3) w fun t5_4 =>
 RunW Tryd.prog (bin .eql 25 (.tmp 5) (.const (.int .i64 0)) t5_4 (.int .i64 0)) w fun t6_5 =>
 IfB t6_5 (
 CallF Tryd.prog 40 #[a0] w fun t8_6 w =>
 drw (fun S_7 w =>
 RunA Tryd.prog (nilV a0) fun t10_8 =>
 RunA Tryd.prog (Instr.fieldAt 67 t10_8 1) fun t11_9 =>
 RunS Tryd.prog S_7 (Instr.loadAt 3 t11_9) fun t12_10 =>
 RunA Tryd.prog (nilV a0) fun t14_11 =>
 RunA Tryd.prog (Instr.fieldAt 67 t14_11 0) fun t15_12 =>
 RunS Tryd.prog S_7 (Instr.loadAt 9 t15_12) fun t16_13 =>
 RunS Tryd.prog S_7 (Builtin.len_ #[9] 3 #[t16_13]) fun t17_14 =>
 RunA Tryd.prog (bin .geq 3 (.tmp 12) (.tmp 17) t12_10 t17_14) fun t18_15 =>
 IfB t18_15 (
 R (.tuple #[]) w) (
 RunA Tryd.prog (nilV a0) fun t21_16 =>
 RunA Tryd.prog (Instr.fieldAt 67 t21_16 0) fun t22_17 =>
 RunS Tryd.prog S_7 (Instr.loadAt 9 t22_17) fun t23_18 =>
 RunA Tryd.prog (nilV a0) fun t25_19 =>
 RunA Tryd.prog (Instr.fieldAt 67 t25_19 1) fun t26_20 =>
 RunS Tryd.prog S_7 (Instr.loadAt 3 t26_20) fun t27_21 =>
 RunA Tryd.prog (Instr.sliceAt 9 t23_18 (some t27_21) none none) fun t28_22 =>
 CallF Tryd.prog 38 #[t28_22, (.string ⟨#[60, 33]⟩)] w fun t29_23 w =>
 S_7 w ∧ (
 RunA Tryd.prog (Op.unary .not t29_23) fun t30_24 =>
 IfB t30_24 (
 R (.tuple #[]) w) (
 CallF Tryd.prog 47 #[a0] w fun t33_25 w =>
 (a0 : Value) = a0 ∧ (n_1 w))))) w) (
 R (.tuple #[]) w)) [] w
theorem sh30_calls {a0 : Value} {w : World} {R : Value → World → Prop} (h : sh30 a0 w R) : CallF Tryd.prog 30 #[a0] w R :=
  calls_of_denF (mk := false) (args := [a0]) (an := (.blk (.loop [0] [] (.seq (.seq (.ops [0, 6]) (.cond .leaf .leaf)) (.blk (.seq (.ops [0]) (.seq (.seq (.draw (.q 0 (.q 1 (.q 2 (.q 3 (.q 4 (.q 5 (.q 6 (.q 7 (.q 8 (.q 9 (.q 10 (.sp 11 (.q 11 (.q 12 (.q 13 (.q 14 (.q 15 (.q 16 (.q 17 (.q 18 (.q 19 (.q 20 (.q 21 (.q 22 .fin)))))))))))) (.q 11 (.q 12 (.q 13 (.q 14 (.q 15 (.q 16 (.q 17 (.q 18 (.q 19 (.one 20 (.q 21 (.q 22 .fin)))))))))))))))))))))))) [0, 31]) (.cond .leaf .leaf)) (.ops [0])))))))) (c := Tryd.f30.body.getD .skip) hent Tryd.func30 rfl (Nat.le_of_ble_eq_true (by kernel_rfl))
    (Eq.mp (show sh30 a0 w R = denF Tryd.prog ent false Tryd.f30 (.blk (.loop [0] [] (.seq (.seq (.ops [0, 6]) (.cond .leaf .leaf)) (.blk (.seq (.ops [0]) (.seq (.seq (.draw (.q 0 (.q 1 (.q 2 (.q 3 (.q 4 (.q 5 (.q 6 (.q 7 (.q 8 (.q 9 (.q 10 (.sp 11 (.q 11 (.q 12 (.q 13 (.q 14 (.q 15 (.q 16 (.q 17 (.q 18 (.q 19 (.q 20 (.q 21 (.q 22 .fin)))))))))))) (.q 11 (.q 12 (.q 13 (.q 14 (.q 15 (.q 16 (.q 17 (.q 18 (.q 19 (.one 20 (.q 21 (.q 22 .fin)))))))))))))))))))))))) [0, 31]) (.cond .leaf .leaf)) (.ops [0]))))))) (Tryd.f30.body.getD .skip) [a0] w R by kernel_rfl) h)

/-! ### 33: (*strings.Builder).WriteString -/
def sh33 (a0 a1 : Value) (w : World) (R : Value → World → Prop) : Prop :=
 CallF Tryd.prog 51 #[a0] w fun t7_1 w =>
 RunA Tryd.prog (nilV a0) fun t10_2 =>
 RunA Tryd.prog (Instr.fieldAt 65 t10_2 1) fun t11_3 =>
 RunW Tryd.prog (Instr.loadAt 22 t11_3) w fun t12_4 =>
 RunV Tryd.prog (Builtin.append_ #[22, 9] 22 #[t12_4, a1]) w fun t14_5 w =>
 RunA Tryd.prog (nilV a0) fun t15_6 =>
 RunA Tryd.prog (Instr.fieldAt 65 t15_6 1) fun t16_7 =>
 RunU Tryd.prog (Instr.storeAt 22 t16_7 t14_5) w fun w =>
 RunW Tryd.prog (Builtin.len_ #[9] 3 #[a1]) w fun t18_8 =>
 R (.tuple #[t18_8, (.nilIface)]) w
theorem sh33_calls {a0 a1 : Value} {w : World} {R : Value → World → Prop} (h : sh33 a0 a1 w R) : CallF Tryd.prog 33 #[a0, a1] w R :=
  calls_of_denF (mk := false) (args := [a0, a1]) (an := (.seq (.ops [0, 1]) (.seq (.ops [0, 1]) (.seq (.ops [1]) (.seq (.ops [4, 5]) .leaf))))) (c := Tryd.f33.body.getD .skip) hent Tryd.func33 rfl (Nat.le_of_ble_eq_true (by kernel_rfl))
    (Eq.mp (show sh33 a0 a1 w R = denF Tryd.prog ent false Tryd.f33 (.seq (.ops [0, 1]) (.seq (.ops [0, 1]) (.seq (.ops [1]) (.seq (.ops [4, 5]) .leaf)))) (Tryd.f33.body.getD .skip) [a0, a1] w R by kernel_rfl) h)

/-! ### 34: (*strings.Builder).String -/
def sh34 (a0 : Value) (w : World) (R : Value → World → Prop) : Prop :=
 drw (fun S_1 w =>
 RunA Tryd.prog (nilV a0) fun t4_2 =>
 RunA Tryd.prog (Instr.fieldAt 65 t4_2 1) fun t5_3 =>
 RunS Tryd.prog S_1 (Instr.loadAt 22 t5_3) fun t6_4 =>
 RunA Tryd.prog (nilV a0) fun t9_5 =>
 RunA Tryd.prog (Instr.fieldAt 65 t9_5 1) fun t10_6 =>
 RunS Tryd.prog S_1 (Instr.loadAt 22 t10_6) fun t11_7 =>
 RunS Tryd.prog S_1 (Builtin.len_ #[22] 3 #[t11_7]) fun t12_8 =>
 RunV Tryd.prog (Builtin.unsafeSliceData_ #[22] 92 #[t6_4]) w fun t7_9 w =>
 S_1 w ∧ (
 RunV Tryd.prog (Builtin.unsafeString_ #[92, 3] 9 #[t7_9, t12_8]) w fun t13_10 w =>
 R t13_10 w)) w
theorem sh34_calls {a0 : Value} {w : World} {R : Value → World → Prop} (h : sh34 a0 w R) : CallF Tryd.prog 34 #[a0] w R :=
  calls_of_denF (mk := false) (args := [a0]) (an := (.seq (.ops [0]) (.seq (.draw (.q 0 (.q 1 (.q 2 (.q 3 (.q 5 (.q 6 (.q 7 (.q 8 (.q 9 (.one 4 (.one 10 (.q 11 .fin)))))))))))) [2]) .leaf))) (c := Tryd.f34.body.getD .skip) hent Tryd.func34 rfl (Nat.le_of_ble_eq_true (by kernel_rfl))
    (Eq.mp (show sh34 a0 w R = denF Tryd.prog ent false Tryd.f34 (.seq (.ops [0]) (.seq (.draw (.q 0 (.q 1 (.q 2 (.q 3 (.q 5 (.q 6 (.q 7 (.q 8 (.q 9 (.one 4 (.one 10 (.q 11 .fin)))))))))))) [2]) .leaf)) (Tryd.f34.body.getD .skip) [a0] w R by kernel_rfl) h)

/-! ### 38: strings.HasPrefix -/
def sh38 (a0 a1 : Value) (w : World) (R : Value → World → Prop) : Prop :=
 CallF Tryd.prog 52 #[a0, a1] w fun t7_1 w =>
 R t7_1 w
theorem sh38_calls {a0 a1 : Value} {w : World} {R : Value → World → Prop} (h : sh38 a0 a1 w R) : CallF Tryd.prog 38 #[a0, a1] w R :=
  calls_of_denF (mk := false) (args := [a0, a1]) (an := (.seq (.ops [0, 1]) (.seq (.ops [4]) .leaf))) (c := Tryd.f38.body.getD .skip) hent Tryd.func38 rfl (Nat.le_of_ble_eq_true (by kernel_rfl))
    (Eq.mp (show sh38 a0 a1 w R = denF Tryd.prog ent false Tryd.f38 (.seq (.ops [0, 1]) (.seq (.ops [4]) .leaf)) (Tryd.f38.body.getD .skip) [a0, a1] w R by kernel_rfl) h)

/-! ### 39: (*handbill/xml.reader).wants -/
def sh39 (a0 a1 : Value) (w : World) (R : Value → World → Prop) : Prop :=
 lp 1 (fun n_2 t4_1 w =>
 RunW Tryd.prog (Builtin.len_ #[9] 3 #[a1]) w fun t8_3 =>
 RunA Tryd.prog (bin .lss 3 (.tmp 6) (.tmp 8) t4_1 t8_3) fun t9_4 =>
 IfB t9_4 (
 RunA Tryd.prog (nilV a0) fun t12_5 =>
 RunA Tryd.prog (Instr.fieldAt 67 t12_5 2) fun t13_6 =>
 RunW Tryd.prog (Instr.loadAt 25 t13_6) w fun t14_7 =>
 RunW Tryd.prog (bin .eql 25 (.tmp 14) (.const (.int .i64 0)) t14_7 (.int .i64 0)) w fun t15_8 =>
 IfB t15_8 (
 CallF Tryd.prog 25 #[a0, (.int .i64 0)] w fun t20_9 w =>
 jn 3 (fun t0_10 t1_11 t4_12 w =>
 RunA Tryd.prog (nilV t0_10) fun t36_14 =>
 RunA Tryd.prog (Instr.fieldAt 67 t36_14 1) fun t37_15 =>
 RunW Tryd.prog (Instr.loadAt 3 t37_15) w fun t38_16 =>
 RunA Tryd.prog (bin .add 3 (.tmp 38) (.const (.int .i64 1)) t38_16 (.int .i64 1)) fun t39_17 =>
 RunA Tryd.prog (nilV t0_10) fun t40_18 =>
 RunA Tryd.prog (Instr.fieldAt 67 t40_18 1) fun t41_19 =>
 RunU Tryd.prog (Instr.storeAt 3 t41_19 t39_17) w fun w =>
 RunA Tryd.prog (bin .add 3 (.tmp 17) (.const (.int .i64 1)) t4_12 (.int .i64 1)) fun t18_20 =>
 (t0_10 : Value) = a0 ∧ ((t1_11 : Value) = a1 ∧ (n_2 t18_20 w))) fun j_13 =>
 RunA Tryd.prog (nilV a0) fun t22_21 =>
 RunA Tryd.prog (Instr.fieldAt 67 t22_21 2) fun t23_22 =>
 RunW Tryd.prog (Instr.loadAt 25 t23_22) w fun t24_23 =>
 RunW Tryd.prog (bin .eql 25 (.tmp 24) (.const (.int .i64 0)) t24_23 (.int .i64 0)) w fun t25_24 =>
 IfB t25_24 (
 RunA Tryd.prog (Instr.index 9 a1 t4_1) fun t30_25 =>
 RunW Tryd.prog (bin .neq 5 (.tmp 27) (.tmp 30) t20_9 t30_25) w fun t31_26 =>
 IfB t31_26 (
 CallF Tryd.prog 26 #[a0, (.int .i64 4)] w fun t34_27 w =>
 j_13 a0 a1 t4_1 w) (
 j_13 a0 a1 t4_1 w)) (
 j_13 a0 a1 t4_1 w)) (
 R (.tuple #[]) w)) (
 R (.tuple #[]) w)) [(.int .i64 0)] w
theorem sh39_calls {a0 a1 : Value} {w : World} {R : Value → World → Prop} (h : sh39 a0 a1 w R) : CallF Tryd.prog 39 #[a0, a1] w R :=
  calls_of_denF (mk := false) (args := [a0, a1]) (an := (.seq (.ops [0, 1, 4]) (.blk (.loop [0, 1] [4] (.seq (.seq (.ops [0, 1, 4, 16]) (.cond .leaf .leaf)) (.seq (.blk (.seq (.seq (.ops [0, 1, 4, 5]) (.join [0, 1, 4] (.seq (.ops [0, 1, 4, 32]) (.cond (.ops [0, 1, 4]) .leaf)))) (.ops [0, 1, 4]))) (.ops [0, 1, 4]))))))) (c := Tryd.f39.body.getD .skip) hent Tryd.func39 rfl (Nat.le_of_ble_eq_true (by kernel_rfl))
    (Eq.mp (show sh39 a0 a1 w R = denF Tryd.prog ent false Tryd.f39 (.seq (.ops [0, 1, 4]) (.blk (.loop [0, 1] [4] (.seq (.seq (.ops [0, 1, 4, 16]) (.cond .leaf .leaf)) (.seq (.blk (.seq (.seq (.ops [0, 1, 4, 5]) (.join [0, 1, 4] (.seq (.ops [0, 1, 4, 32]) (.cond (.ops [0, 1, 4]) .leaf)))) (.ops [0, 1, 4]))) (.ops [0, 1, 4])))))) (Tryd.f39.body.getD .skip) [a0, a1] w R by kernel_rfl) h)

/-! ### 40: (*handbill/xml.reader).blanks -/
def sh40 (a0 : Value) (w : World) (R : Value → World → Prop) : Prop :=
 RunA Tryd.prog (nilV a0) fun t5_1 =>
 RunA Tryd.prog (Instr.fieldAt 67 t5_1 1) fun t6_2 =>
 RunW Tryd.prog (Instr.loadAt 3 t6_2) w fun t7_3 =>
 jn 2 (fun t0_4 t3_5 w =>
 RunA Tryd.prog (nilV t0_4) fun t39_7 =>
 RunA Tryd.prog (Instr.fieldAt 67 t39_7 1) fun t40_8 =>
 RunW Tryd.prog (Instr.loadAt 3 t40_8) w fun t41_9 =>
 RunA Tryd.prog (bin .gtr 3 (.tmp 41) (.tmp 42) t41_9 t3_5) fun t43_10 =>
 R t43_10 w) fun j_6 =>
 lp 0 (fun n_11 w =>
 drw (fun S_12 w =>
 RunA Tryd.prog (nilV a0) fun t9_13 =>
 RunA Tryd.prog (Instr.fieldAt 67 t9_13 1) fun t10_14 =>
 RunS Tryd.prog S_12 (Instr.loadAt 3 t10_14) fun t11_15 =>
 RunA Tryd.prog (nilV a0) fun t13_16 =>
 RunA Tryd.prog (Instr.fieldAt 67 t13_16 0) fun t14_17 =>
 RunS Tryd.prog S_12 (Instr.loadAt 9 t14_17) fun t15_18 =>
 RunS Tryd.prog S_12 (Builtin.len_ #[9] 3 #[t15_18]) fun t16_19 =>
 RunA Tryd.prog (bin .lss 3 (.tmp 11) (.tmp 16) t11_15 t16_19) fun t17_20 =>
 IfB t17_20 (
 RunA Tryd.prog (nilV a0) fun t20_21 =>
 RunA Tryd.prog (Instr.fieldAt 67 t20_21 0) fun t21_22 =>
 RunS Tryd.prog S_12 (Instr.loadAt 9 t21_22) fun t22_23 =>
 RunA Tryd.prog (nilV a0) fun t24_24 =>
 RunA Tryd.prog (Instr.fieldAt 67 t24_24 1) fun t25_25 =>
 RunS Tryd.prog S_12 (Instr.loadAt 3 t25_25) fun t26_26 =>
 RunA Tryd.prog (Instr.index 9 t22_23 t26_26) fun t27_27 =>
 CallF Tryd.prog 53 #[(.string ⟨#[32, 9, 10, 13]⟩), t27_27] w fun t28_28 w =>
 S_12 w ∧ (
 RunA Tryd.prog (bin .geq 3 (.tmp 28) (.const (.int .i64 0)) t28_28 (.int .i64 0)) fun t29_29 =>
 IfB t29_29 (
 RunA Tryd.prog (nilV a0) fun t32_30 =>
 RunA Tryd.prog (Instr.fieldAt 67 t32_30 1) fun t33_31 =>
 RunW Tryd.prog (Instr.loadAt 3 t33_31) w fun t34_32 =>
 RunA Tryd.prog (bin .add 3 (.tmp 34) (.const (.int .i64 1)) t34_32 (.int .i64 1)) fun t35_33 =>
 RunA Tryd.prog (nilV a0) fun t36_34 =>
 RunA Tryd.prog (Instr.fieldAt 67 t36_34 1) fun t37_35 =>
 RunU Tryd.prog (Instr.storeAt 3 t37_35 t35_33) w fun w =>
 (a0 : Value) = a0 ∧ ((t7_3 : Value) = t7_3 ∧ (n_11 w))) (
 j_6 a0 t7_3 w))) (
 j_6 a0 t7_3 w)) w) [] w
theorem sh40_calls {a0 : Value} {w : World} {R : Value → World → Prop} (h : sh40 a0 w R) : CallF Tryd.prog 40 #[a0] w R :=
  calls_of_denF (mk := false) (args := [a0]) (an := (.seq (.ops [0]) (.seq (.ops [0, 3]) (.seq (.join [0, 3] (.blk (.loop [0, 3] [] (.seq (.seq (.draw (.q 0 (.q 1 (.q 2 (.q 3 (.q 4 (.q 5 (.q 6 (.q 7 (.q 8 (.q 9 (.q 10 (.sp 11 (.q 11 (.q 12 (.q 13 (.q 14 (.q 15 (.q 16 (.q 17 (.q 18 (.q 19 (.one 20 (.q 21 (.q 22 .fin)))))))))))) (.q 11 (.q 12 (.q 13 (.q 14 (.q 15 (.q 16 (.q 17 (.q 18 (.q 19 (.q 20 (.q 21 (.q 22 .fin)))))))))))))))))))))))) [0, 3, 30]) (.cond .leaf .leaf)) (.blk (.ops [0, 3])))))) (.seq (.ops [2]) .leaf))))) (c := Tryd.f40.body.getD .skip) hent Tryd.func40 rfl (Nat.le_of_ble_eq_true (by kernel_rfl))
    (Eq.mp (show sh40 a0 w R = denF Tryd.prog ent false Tryd.f40 (.seq (.ops [0]) (.seq (.ops [0, 3]) (.seq (.join [0, 3] (.blk (.loop [0, 3] [] (.seq (.seq (.draw (.q 0 (.q 1 (.q 2 (.q 3 (.q 4 (.q 5 (.q 6 (.q 7 (.q 8 (.q 9 (.q 10 (.sp 11 (.q 11 (.q 12 (.q 13 (.q 14 (.q 15 (.q 16 (.q 17 (.q 18 (.q 19 (.one 20 (.q 21 (.q 22 .fin)))))))))))) (.q 11 (.q 12 (.q 13 (.q 14 (.q 15 (.q 16 (.q 17 (.q 18 (.q 19 (.q 20 (.q 21 (.q 22 .fin)))))))))))))))))))))))) [0, 3, 30]) (.cond .leaf .leaf)) (.blk (.ops [0, 3])))))) (.seq (.ops [2]) .leaf)))) (Tryd.f40.body.getD .skip) [a0] w R by kernel_rfl) h)

/-! ### 41: (*handbill/xml.reader).until -/
def sh41 (a0 a1 : Value) (w : World) (R : Value → World → Prop) : Prop :=
 RunA Tryd.prog (nilV a0) fun t7_1 =>
 RunA Tryd.prog (Instr.fieldAt 67 t7_1 1) fun t8_2 =>
 RunW Tryd.prog (Instr.loadAt 3 t8_2) w fun t9_3 =>
 jn 3 (fun t0_4 t1_5 t5_6 w =>
 RunA Tryd.prog (nilV t0_4) fun t32_8 =>
 RunA Tryd.prog (Instr.fieldAt 67 t32_8 2) fun t33_9 =>
 RunW Tryd.prog (Instr.loadAt 25 t33_9) w fun t34_10 =>
 RunW Tryd.prog (bin .neq 25 (.tmp 34) (.const (.int .i64 0)) t34_10 (.int .i64 0)) w fun t35_11 =>
 IfB t35_11 (
 R (.string ⟨#[]⟩) w) (
 RunA Tryd.prog (nilV t0_4) fun t37_12 =>
 RunA Tryd.prog (Instr.fieldAt 67 t37_12 1) fun t38_13 =>
 RunW Tryd.prog (Instr.loadAt 3 t38_13) w fun t39_14 =>
 RunW Tryd.prog (Builtin.len_ #[9] 3 #[t1_5]) w fun t41_15 =>
 RunA Tryd.prog (bin .add 3 (.tmp 39) (.tmp 41) t39_14 t41_15) fun t42_16 =>
 RunA Tryd.prog (nilV t0_4) fun t43_17 =>
 RunA Tryd.prog (Instr.fieldAt 67 t43_17 1) fun t44_18 =>
 RunU Tryd.prog (Instr.storeAt 3 t44_18 t42_16) w fun w =>
 drw (fun S_19 w =>
 RunA Tryd.prog (nilV t0_4) fun t46_20 =>
 RunA Tryd.prog (Instr.fieldAt 67 t46_20 0) fun t47_21 =>
 RunS Tryd.prog S_19 (Instr.loadAt 9 t47_21) fun t48_22 =>
 RunA Tryd.prog (nilV t0_4) fun t51_23 =>
 RunA Tryd.prog (Instr.fieldAt 67 t51_23 1) fun t52_24 =>
 RunS Tryd.prog S_19 (Instr.loadAt 3 t52_24) fun t53_25 =>
 RunS Tryd.prog S_19 (Builtin.len_ #[9] 3 #[t1_5]) fun t55_26 =>
 RunA Tryd.prog (bin .sub 3 (.tmp 53) (.tmp 55) t53_25 t55_26) fun t56_27 =>
 RunA Tryd.prog (Instr.sliceAt 9 t48_22 (some t5_6) (some t56_27) none) fun t57_28 =>
 R t57_28 w) w)) fun j_7 =>
 lp 0 (fun n_29 w =>
 drw (fun S_30 w =>
 RunA Tryd.prog (nilV a0) fun t11_31 =>
 RunA Tryd.prog (Instr.fieldAt 67 t11_31 2) fun t12_32 =>
 RunS Tryd.prog S_30 (Instr.loadAt 25 t12_32) fun t13_33 =>
 RunS Tryd.prog S_30 (bin .eql 25 (.tmp 13) (.const (.int .i64 0)) t13_33 (.int .i64 0)) fun t14_34 =>
 IfB t14_34 (
 RunA Tryd.prog (nilV a0) fun t17_35 =>
 RunA Tryd.prog (Instr.fieldAt 67 t17_35 0) fun t18_36 =>
 RunS Tryd.prog S_30 (Instr.loadAt 9 t18_36) fun t19_37 =>
 RunA Tryd.prog (nilV a0) fun t21_38 =>
 RunA Tryd.prog (Instr.fieldAt 67 t21_38 1) fun t22_39 =>
 RunS Tryd.prog S_30 (Instr.loadAt 3 t22_39) fun t23_40 =>
 RunA Tryd.prog (Instr.sliceAt 9 t19_37 (some t23_40) none none) fun t24_41 =>
 CallF Tryd.prog 38 #[t24_41, a1] w fun t26_42 w =>
 S_30 w ∧ (
 RunA Tryd.prog (Op.unary .not t26_42) fun t27_43 =>
 IfB t27_43 (
 CallF Tryd.prog 54 #[a0] w fun t30_44 w =>
 (a0 : Value) = a0 ∧ ((a1 : Value) = a1 ∧ ((t9_3 : Value) = t9_3 ∧ (n_29 w)))) (
 j_7 a0 a1 t9_3 w))) (
 j_7 a0 a1 t9_3 w)) w) [] w
theorem sh41_calls {a0 a1 : Value} {w : World} {R : Value → World → Prop} (h : sh41 a0 a1 w R) : CallF Tryd.prog 41 #[a0, a1] w R :=
  calls_of_denF (mk := false) (args := [a0, a1]) (an := (.seq (.ops [0, 1]) (.seq (.ops [0, 1, 5]) (.seq (.join [0, 1, 5] (.blk (.loop [0, 1, 5] [] (.seq (.seq (.draw (.q 0 (.q 1 (.q 2 (.q 3 (.q 4 (.q 5 (.sp 6 (.q 6 (.q 7 (.q 8 (.q 9 (.q 10 (.q 11 (.q 12 (.q 13 (.q 14 (.q 15 (.one 16 (.q 17 (.q 18 .fin))))))))))))) (.q 6 (.q 7 (.q 8 (.q 9 (.q 10 (.q 11 (.q 12 (.q 13 (.q 14 (.q 15 (.q 16 (.q 17 (.q 18 .fin)))))))))))))))))))) [0, 1, 5, 28]) (.cond .leaf .leaf)) (.blk (.ops [0, 1, 5])))))) (.seq (.seq (.ops [0, 1, 5, 35]) (.cond (.seq (.ops [4]) .leaf) .leaf)) (.seq (.ops [0, 1, 5]) (.seq (.draw (.q 0 (.q 1 (.q 2 (.q 3 (.q 4 (.q 5 (.q 6 (.q 7 (.q 8 (.q 9 (.q 10 (.q 11 (.q 12 (.q 13 .fin)))))))))))))) [4]) .leaf))))))) (c := Tryd.f41.body.getD .skip) hent Tryd.func41 rfl (Nat.le_of_ble_eq_true (by kernel_rfl))
    (Eq.mp (show sh41 a0 a1 w R = denF Tryd.prog ent false Tryd.f41 (.seq (.ops [0, 1]) (.seq (.ops [0, 1, 5]) (.seq (.join [0, 1, 5] (.blk (.loop [0, 1, 5] [] (.seq (.seq (.draw (.q 0 (.q 1 (.q 2 (.q 3 (.q 4 (.q 5 (.sp 6 (.q 6 (.q 7 (.q 8 (.q 9 (.q 10 (.q 11 (.q 12 (.q 13 (.q 14 (.q 15 (.one 16 (.q 17 (.q 18 .fin))))))))))))) (.q 6 (.q 7 (.q 8 (.q 9 (.q 10 (.q 11 (.q 12 (.q 13 (.q 14 (.q 15 (.q 16 (.q 17 (.q 18 .fin)))))))))))))))))))) [0, 1, 5, 28]) (.cond .leaf .leaf)) (.blk (.ops [0, 1, 5])))))) (.seq (.seq (.ops [0, 1, 5, 35]) (.cond (.seq (.ops [4]) .leaf) .leaf)) (.seq (.ops [0, 1, 5]) (.seq (.draw (.q 0 (.q 1 (.q 2 (.q 3 (.q 4 (.q 5 (.q 6 (.q 7 (.q 8 (.q 9 (.q 10 (.q 11 (.q 12 (.q 13 .fin)))))))))))))) [4]) .leaf)))))) (Tryd.f41.body.getD .skip) [a0, a1] w R by kernel_rfl) h)

/-! ### 42: (*handbill/xml.reader).full -/
def sh42 (a0 : Value) (w : World) (R : Value → World → Prop) : Prop :=
 RunV Tryd.prog (Instr.alloc 82 true (.tuple #[])) w fun t2_1 w =>
 CallF Tryd.prog 55 #[a0] w fun t5_2 w =>
 drw (fun S_3 w =>
 RunA Tryd.prog (nilV a0) fun t7_4 =>
 RunA Tryd.prog (Instr.fieldAt 67 t7_4 2) fun t8_5 =>
 RunS Tryd.prog S_3 (Instr.loadAt 25 t8_5) fun t9_6 =>
 RunS Tryd.prog S_3 (bin .neq 25 (.tmp 9) (.const (.int .i64 0)) t9_6 (.int .i64 0)) fun t10_7 =>
 IfB t10_7 (
 RunV Tryd.prog (Instr.build 82 #[(0, (.string ⟨#[]⟩)), (1, t5_2)]) w fun t36_8 w =>
 RunU Tryd.prog (Instr.storeAt 82 t2_1 t36_8) w fun w =>
 RunW Tryd.prog (Instr.loadAt 82 t2_1) w fun t2_9 =>
 R t2_9 w) (
 RunA Tryd.prog (nilV a0) fun t13_10 =>
 RunA Tryd.prog (Instr.fieldAt 67 t13_10 1) fun t14_11 =>
 RunS Tryd.prog S_3 (Instr.loadAt 3 t14_11) fun t15_12 =>
 RunA Tryd.prog (nilV a0) fun t17_13 =>
 RunA Tryd.prog (Instr.fieldAt 67 t17_13 0) fun t18_14 =>
 RunS Tryd.prog S_3 (Instr.loadAt 9 t18_14) fun t19_15 =>
 RunS Tryd.prog S_3 (Builtin.len_ #[9] 3 #[t19_15]) fun t20_16 =>
 RunA Tryd.prog (bin .geq 3 (.tmp 15) (.tmp 20) t15_12 t20_16) fun t21_17 =>
 IfB t21_17 (
 RunV Tryd.prog (Instr.build 82 #[(0, (.string ⟨#[]⟩)), (1, t5_2)]) w fun t36_18 w =>
 RunU Tryd.prog (Instr.storeAt 82 t2_1 t36_18) w fun w =>
 RunW Tryd.prog (Instr.loadAt 82 t2_1) w fun t2_19 =>
 R t2_19 w) (
 RunA Tryd.prog (nilV a0) fun t25_20 =>
 RunA Tryd.prog (Instr.fieldAt 67 t25_20 0) fun t26_21 =>
 RunS Tryd.prog S_3 (Instr.loadAt 9 t26_21) fun t27_22 =>
 RunA Tryd.prog (nilV a0) fun t29_23 =>
 RunA Tryd.prog (Instr.fieldAt 67 t29_23 1) fun t30_24 =>
 RunS Tryd.prog S_3 (Instr.loadAt 3 t30_24) fun t31_25 =>
 RunA Tryd.prog (Instr.index 9 t27_22 t31_25) fun t32_26 =>
 RunS Tryd.prog S_3 (bin .neq 5 (.tmp 32) (.const (.int .u8 58)) t32_26 (.int .u8 58)) fun t33_27 =>
 IfB t33_27 (
 RunV Tryd.prog (Instr.build 82 #[(0, (.string ⟨#[]⟩)), (1, t5_2)]) w fun t36_28 w =>
 RunU Tryd.prog (Instr.storeAt 82 t2_1 t36_28) w fun w =>
 RunW Tryd.prog (Instr.loadAt 82 t2_1) w fun t2_29 =>
 R t2_29 w) (
 RunA Tryd.prog (nilV a0) fun t38_30 =>
 RunA Tryd.prog (Instr.fieldAt 67 t38_30 1) fun t39_31 =>
 RunW Tryd.prog (Instr.loadAt 3 t39_31) w fun t40_32 =>
 RunA Tryd.prog (bin .add 3 (.tmp 40) (.const (.int .i64 1)) t40_32 (.int .i64 1)) fun t41_33 =>
 RunA Tryd.prog (nilV a0) fun t42_34 =>
 RunA Tryd.prog (Instr.fieldAt 67 t42_34 1) fun t43_35 =>
 RunU Tryd.prog (Instr.storeAt 3 t43_35 t41_33) w fun w =>
 CallF Tryd.prog 55 #[a0] w fun t46_36 w =>
 RunV Tryd.prog (Instr.build 82 #[(0, t5_2), (1, t46_36)]) w fun t47_37 w =>
 RunU Tryd.prog (Instr.storeAt 82 t2_1 t47_37) w fun w =>
 RunW Tryd.prog (Instr.loadAt 82 t2_1) w fun t2_38 =>
 R t2_38 w)))) w
theorem sh42_calls {a0 : Value} {w : World} {R : Value → World → Prop} (h : sh42 a0 w R) : CallF Tryd.prog 42 #[a0] w R :=
  calls_of_denF (mk := false) (args := [a0]) (an := (.seq (.ops [0, 2]) (.seq (.ops [0, 2, 3]) (.seq (.seq (.draw (.q 0 (.q 1 (.q 2 (.q 3 (.q 4 (.q 5 (.sp 6 (.q 6 (.q 7 (.q 8 (.q 9 (.q 10 (.q 11 (.q 12 (.q 13 (.q 14 (.q 15 (.q 16 (.q 17 (.q 18 (.q 19 (.q 20 (.q 21 (.q 22 (.q 23 (.q 24 (.q 25 (.q 26 (.q 27 (.q 28 .fin))))))))))))))))))))))) (.q 6 (.q 7 (.q 8 (.q 9 (.q 10 (.q 11 (.q 12 (.q 13 (.q 14 (.q 15 (.q 16 (.q 17 (.sp 18 (.q 18 (.q 19 (.q 20 (.q 21 (.q 22 (.q 23 (.q 24 (.q 25 (.q 26 (.q 27 (.q 28 .fin))))))))))) (.q 18 (.q 19 (.q 20 (.q 21 (.q 22 (.q 23 (.q 24 (.q 25 (.q 26 (.q 27 (.q 28 .fin))))))))))))))))))))))))))))))) [0, 2, 3, 34]) (.cond (.seq (.ops [2]) .leaf) .leaf)) (.seq (.ops [0, 2, 3]) (.seq (.ops [2]) .leaf)))))) (c := Tryd.f42.body.getD .skip) hent Tryd.func42 rfl (Nat.le_of_ble_eq_true (by kernel_rfl))
    (Eq.mp (show sh42 a0 w R = denF Tryd.prog ent false Tryd.f42 (.seq (.ops [0, 2]) (.seq (.ops [0, 2, 3]) (.seq (.seq (.draw (.q 0 (.q 1 (.q 2 (.q 3 (.q 4 (.q 5 (.sp 6 (.q 6 (.q 7 (.q 8 (.q 9 (.q 10 (.q 11 (.q 12 (.q 13 (.q 14 (.q 15 (.q 16 (.q 17 (.q 18 (.q 19 (.q 20 (.q 21 (.q 22 (.q 23 (.q 24 (.q 25 (.q 26 (.q 27 (.q 28 .fin))))))))))))))))))))))) (.q 6 (.q 7 (.q 8 (.q 9 (.q 10 (.q 11 (.q 12 (.q 13 (.q 14 (.q 15 (.q 16 (.q 17 (.sp 18 (.q 18 (.q 19 (.q 20 (.q 21 (.q 22 (.q 23 (.q 24 (.q 25 (.q 26 (.q 27 (.q 28 .fin))))))))))) (.q 18 (.q 19 (.q 20 (.q 21 (.q 22 (.q 23 (.q 24 (.q 25 (.q 26 (.q 27 (.q 28 .fin))))))))))))))))))))))))))))))) [0, 2, 3, 34]) (.cond (.seq (.ops [2]) .leaf) .leaf)) (.seq (.ops [0, 2, 3]) (.seq (.ops [2]) .leaf))))) (Tryd.f42.body.getD .skip) [a0] w R by kernel_rfl) h)

/-! ### 43: (*handbill/xml.reader).attrs -/
def sh43 (a0 : Value) (w : World) (R : Value → World → Prop) : Prop :=
 lp 1 (fun n_2 t3_1 w =>
 RunA Tryd.prog (nilV a0) fun t7_3 =>
 RunA Tryd.prog (Instr.fieldAt 67 t7_3 2) fun t8_4 =>
 RunW Tryd.prog (Instr.loadAt 25 t8_4) w fun t9_5 =>
 RunW Tryd.prog (bin .eql 25 (.tmp 9) (.const (.int .i64 0)) t9_5 (.int .i64 0)) w fun t10_6 =>
 IfB t10_6 (
 CallF Tryd.prog 40 #[a0] w fun t12_7 w =>
 CallF Tryd.prog 25 #[a0, (.int .i64 0)] w fun t14_8 w =>
 RunA Tryd.prog (nilV a0) fun t23_9 =>
 RunA Tryd.prog (Instr.fieldAt 67 t23_9 2) fun t24_10 =>
 RunW Tryd.prog (Instr.loadAt 25 t24_10) w fun t25_11 =>
 RunW Tryd.prog (bin .neq 25 (.tmp 25) (.const (.int .i64 0)) t25_11 (.int .i64 0)) w fun t26_12 =>
 IfB t26_12 (
 R t3_1 w) (
 RunW Tryd.prog (bin .eql 5 (.tmp 28) (.const (.int .u8 47)) t14_8 (.int .u8 47)) w fun t29_13 =>
 IfB t29_13 (
 R t3_1 w) (
 RunW Tryd.prog (bin .eql 5 (.tmp 32) (.const (.int .u8 62)) t14_8 (.int .u8 62)) w fun t33_14 =>
 IfB t33_14 (
 R t3_1 w) (
 jn 2 (fun t0_15 t3_16 w =>
 (t0_15 : Value) = a0 ∧ (n_2 t3_16 w)) fun j_17 =>
 RunA Tryd.prog (Op.unary .not t12_7) fun t38_18 =>
 IfB t38_18 (
 CallF Tryd.prog 26 #[a0, (.int .i64 4)] w fun t40_19 w =>
 j_17 a0 t3_1 w) (
 CallF Tryd.prog 56 #[a0, t3_1] w fun t18_20 w =>
 RunV Tryd.prog (Instr.buildSlice 84 1 #[(0, t18_20)]) w fun t19_21 w =>
 RunV Tryd.prog (Builtin.append_ #[84, 84] 84 #[t3_1, t19_21]) w fun t20_22 w =>
 j_17 a0 t20_22 w))))) (
 R t3_1 w)) [(.slice none 0 0)] w
theorem sh43_calls {a0 : Value} {w : World} {R : Value → World → Prop} (h : sh43 a0 w R) : CallF Tryd.prog 43 #[a0] w R :=
  calls_of_denF (mk := false) (args := [a0]) (an := (.seq (.ops [0]) (.seq (.ops [0, 3]) (.seq (.blk (.loop [0] [3] (.seq (.seq (.ops [0, 3, 10]) (.cond .leaf .leaf)) (.blk (.seq (.ops [0, 3, 4]) (.seq (.ops [0, 3, 4, 5]) (.blk (.seq (.ops [0, 3, 4, 21]) (.cond (.seq (.ops [2]) .leaf) (.join [0, 3] (.seq (.ops [0, 3, 36]) (.cond (.ops [0, 3]) (.ops [0, 3]))))))))))))) (.seq (.ops [2]) .leaf))))) (c := Tryd.f43.body.getD .skip) hent Tryd.func43 rfl (Nat.le_of_ble_eq_true (by kernel_rfl))
    (Eq.mp (show sh43 a0 w R = denF Tryd.prog ent false Tryd.f43 (.seq (.ops [0]) (.seq (.ops [0, 3]) (.seq (.blk (.loop [0] [3] (.seq (.seq (.ops [0, 3, 10]) (.cond .leaf .leaf)) (.blk (.seq (.ops [0, 3, 4]) (.seq (.ops [0, 3, 4, 5]) (.blk (.seq (.ops [0, 3, 4, 21]) (.cond (.seq (.ops [2]) .leaf) (.join [0, 3] (.seq (.ops [0, 3, 36]) (.cond (.ops [0, 3]) (.ops [0, 3]))))))))))))) (.seq (.ops [2]) .leaf)))) (Tryd.f43.body.getD .skip) [a0] w R by kernel_rfl) h)

/-! ### 44: (*handbill/xml.reader).begin -/
def sh44 (a0 a1 a2 : Value) (w : World) (R : Value → World → Prop) : Prop :=
 RunV Tryd.prog (Instr.box 82 a1) w fun t4_1 w =>
 RunV Tryd.prog (Instr.alloc 88 true (.tuple #[])) w fun t6_2 w =>
 RunW Tryd.prog (Instr.loadAt 82 t4_1) w fun t18_3 =>
 RunV Tryd.prog (Instr.makeMap 86 none) w fun t19_4 w =>
 RunV Tryd.prog (Instr.build 88 #[(0, t18_3), (1, t19_4)]) w fun t20_5 w =>
 RunV Tryd.prog (Instr.alloc 88 true (.tuple #[])) w fun t7_6 w =>
 RunU Tryd.prog (Instr.storeAt 88 t7_6 t20_5) w fun w =>
 RunW Tryd.prog (Builtin.len_ #[84] 3 #[a2]) w fun t22_7 =>
 lp 1 (fun n_9 t23_8 w =>
 RunA Tryd.prog (bin .lss 3 (.tmp 23) (.tmp 22) t23_8 t22_7) fun t24_10 =>
 IfB t24_10 (
 RunA Tryd.prog (Instr.indexAt 84 a2 t23_8) fun t25_11 =>
 RunW Tryd.prog (Instr.loadAt 95 t25_11) w fun t26_12 =>
 RunV Tryd.prog (Instr.alloc 95 true (.tuple #[])) w fun t9_13 w =>
 RunU Tryd.prog (Instr.storeAt 95 t9_13 t26_12) w fun w =>
 RunW Tryd.prog (Instr.loadAt 95 t9_13) w fun t28_14 =>
 CallF Tryd.prog 57 #[t28_14] w fun t29_15 w =>
 RunA Tryd.prog (Instr.extract t29_15 0) fun t30_16 =>
 RunA Tryd.prog (Instr.extract t29_15 1) fun t31_17 =>
 jn 8 (fun t0_18 t2_19 t4_20 t6_21 t7_22 t21_23 t22_24 t23_25 w =>
 RunA Tryd.prog (bin .add 3 (.tmp 23) (.const (.int .i64 1)) t23_25 (.int .i64 1)) fun t38_27 =>
 (t0_18 : Value) = a0 ∧ ((t2_19 : Value) = a2 ∧ ((t4_20 : Value) = t4_1 ∧ ((t6_21 : Value) = t6_2 ∧ ((t7_22 : Value) = t7_6 ∧ ((t21_23 : Value) = a2 ∧ ((t22_24 : Value) = t22_7 ∧ (n_9 t38_27 w)))))))) fun j_26 =>
 IfB t31_17 (
 RunA Tryd.prog (Instr.fieldAt 88 t7_6 1) fun t33_28 =>
 RunW Tryd.prog (Instr.loadAt 86 t33_28) w fun t34_29 =>
 RunA Tryd.prog (Instr.fieldAt 95 t9_13 1) fun t36_30 =>
 RunW Tryd.prog (Instr.loadAt 9 t36_30) w fun t37_31 =>
 RunU Tryd.prog (Instr.mapUpdate 86 t34_29 t30_16 t37_31) w fun w =>
 j_26 a0 a2 t4_1 t6_2 t7_6 a2 t22_7 t23_8 w) (
 j_26 a0 a2 t4_1 t6_2 t7_6 a2 t22_7 t23_8 w)) (
 jn 5 (fun t0_32 t2_33 t6_34 t7_35 t12_36 w =>
 RunW Tryd.prog (Builtin.len_ #[84] 3 #[t2_33]) w fun t48_38 =>
 lp 1 (fun n_40 t49_39 w =>
 RunA Tryd.prog (bin .lss 3 (.tmp 49) (.tmp 48) t49_39 t48_38) fun t50_41 =>
 IfB t50_41 (
 jn 7 (fun t0_42 t6_43 t7_44 t12_45 t47_46 t48_47 t49_48 w =>
 RunA Tryd.prog (bin .add 3 (.tmp 49) (.const (.int .i64 1)) t49_48 (.int .i64 1)) fun t82_50 =>
 (t0_42 : Value) = t0_32 ∧ ((t6_43 : Value) = t6_34 ∧ ((t7_44 : Value) = t7_35 ∧ ((t12_45 : Value) = t12_36 ∧ ((t47_46 : Value) = t2_33 ∧ ((t48_47 : Value) = t48_38 ∧ (n_40 t82_50 w))))))) fun j_49 =>
 RunA Tryd.prog (Instr.indexAt 84 t2_33 t49_39) fun t51_51 =>
 RunW Tryd.prog (Instr.loadAt 95 t51_51) w fun t52_52 =>
 RunV Tryd.prog (Instr.alloc 95 true (.tuple #[])) w fun t14_53 w =>
 RunU Tryd.prog (Instr.storeAt 95 t14_53 t52_52) w fun w =>
 RunW Tryd.prog (Instr.loadAt 95 t14_53) w fun t54_54 =>
 CallF Tryd.prog 57 #[t54_54] w fun t55_55 w =>
 RunA Tryd.prog (Instr.extract t55_55 0) fun t56_56 =>
 RunA Tryd.prog (Instr.extract t55_55 1) fun t57_57 =>
 IfB t57_57 (
 j_49 t0_32 t6_34 t7_35 t12_36 t2_33 t48_38 t49_39 w) (
 RunA Tryd.prog (Instr.fieldAt 95 t14_53 0) fun t59_58 =>
 RunA Tryd.prog (Instr.fieldAt 82 t59_58 1) fun t60_59 =>
 RunW Tryd.prog (Instr.loadAt 9 t60_59) w fun t61_60 =>
 RunA Tryd.prog (Instr.fieldAt 95 t14_53 1) fun t62_61 =>
 RunW Tryd.prog (Instr.loadAt 9 t62_61) w fun t63_62 =>
 RunV Tryd.prog (Instr.build 35 #[(1, t61_60), (2, t63_62)]) w fun t64_63 w =>
 RunV Tryd.prog (Instr.alloc 35 true (.tuple #[])) w fun t17_64 w =>
 RunU Tryd.prog (Instr.storeAt 35 t17_64 t64_63) w fun w =>
 jn 8 (fun t0_65 t6_66 t7_67 t12_68 t17_69 t47_70 t48_71 t49_72 w =>
 RunA Tryd.prog (Instr.fieldAt 30 t12_68 4) fun t76_74 =>
 RunW Tryd.prog (Instr.loadAt 28 t76_74) w fun t77_75 =>
 RunW Tryd.prog (Instr.loadAt 35 t17_69) w fun t78_76 =>
 RunV Tryd.prog (Instr.buildSlice 28 1 #[(0, t78_76)]) w fun t79_77 w =>
 RunV Tryd.prog (Builtin.append_ #[28, 28] 28 #[t77_75, t79_77]) w fun t80_78 w =>
 RunA Tryd.prog (Instr.fieldAt 30 t12_68 4) fun t81_79 =>
 RunU Tryd.prog (Instr.storeAt 28 t81_79 t80_78) w fun w =>
 j_49 t0_65 t6_66 t7_67 t12_68 t47_70 t48_71 t49_72 w) fun j_73 =>
 RunA Tryd.prog (Instr.fieldAt 95 t14_53 0) fun t65_80 =>
 RunA Tryd.prog (Instr.fieldAt 82 t65_80 0) fun t66_81 =>
 RunW Tryd.prog (Instr.loadAt 9 t66_81) w fun t67_82 =>
 RunW Tryd.prog (bin .neq 9 (.tmp 67) (.const (.string ⟨#[]⟩)) t67_82 (.string ⟨#[]⟩)) w fun t68_83 =>
 IfB t68_83 (
 RunW Tryd.prog (Instr.loadAt 88 t7_35) w fun t70_84 =>
 RunA Tryd.prog (Instr.fieldAt 95 t14_53 0) fun t71_85 =>
 RunA Tryd.prog (Instr.fieldAt 82 t71_85 0) fun t72_86 =>
 RunW Tryd.prog (Instr.loadAt 9 t72_86) w fun t73_87 =>
 CallF Tryd.prog 58 #[t0_32, t70_84, t73_87] w fun t74_88 w =>
 RunA Tryd.prog (Instr.fieldAt 35 t17_64 0) fun t75_89 =>
 RunU Tryd.prog (Instr.storeAt 9 t75_89 t74_88) w fun w =>
 j_73 t0_32 t6_34 t7_35 t12_36 t17_64 t2_33 t48_38 t49_39 w) (
 j_73 t0_32 t6_34 t7_35 t12_36 t17_64 t2_33 t48_38 t49_39 w))) (
 drw (fun S_90 w =>
 RunA Tryd.prog (nilV t0_32) fun t85_91 =>
 RunA Tryd.prog (Instr.fieldAt 67 t85_91 3) fun t86_92 =>
 RunS Tryd.prog S_90 (Instr.loadAt 24 t86_92) fun t87_93 =>
 RunS Tryd.prog S_90 (Instr.loadAt 30 t12_36) fun t88_94 =>
 RunV Tryd.prog (Instr.buildSlice 24 1 #[(0, t88_94)]) w fun t89_95 w =>
 S_90 w ∧ (
 RunV Tryd.prog (Builtin.append_ #[24, 24] 24 #[t87_93, t89_95]) w fun t90_96 w =>
 RunA Tryd.prog (nilV t0_32) fun t91_97 =>
 RunA Tryd.prog (Instr.fieldAt 67 t91_97 3) fun t92_98 =>
 RunU Tryd.prog (Instr.storeAt 24 t92_98 t90_96) w fun w =>
 RunW Tryd.prog (Instr.loadAt 88 t7_35) w fun t93_99 =>
 RunU Tryd.prog (Instr.storeAt 88 t6_34 t93_99) w fun w =>
 RunW Tryd.prog (Instr.loadAt 88 t6_34) w fun t6_100 =>
 R t6_100 w)) w)) [(.int .i64 0)] w) fun j_37 =>
 drw (fun S_101 w =>
 RunS Tryd.prog S_101 (Instr.loadAt 88 t7_6) fun t40_102 =>
 RunA Tryd.prog (Instr.fieldAt 82 t4_1 0) fun t41_103 =>
 RunS Tryd.prog S_101 (Instr.loadAt 9 t41_103) fun t42_104 =>
 RunA Tryd.prog (Instr.fieldAt 82 t4_1 1) fun t44_105 =>
 RunS Tryd.prog S_101 (Instr.loadAt 9 t44_105) fun t45_106 =>
 (CallF Tryd.prog 58 #[a0, t40_102, t42_104] w fun t43_107 w =>
 S_101 w ∧ (
 (RunV Tryd.prog (Instr.build 30 #[(0, (.int .i64 1)), (1, t43_107), (2, t45_106)]) w fun t46_108 w =>
 RunV Tryd.prog (Instr.alloc 30 true (.tuple #[])) w fun t12_109 w =>
 RunU Tryd.prog (Instr.storeAt 30 t12_109 t46_108) w fun w =>
 j_37 a0 a2 t6_2 t7_6 t12_109 w) ∧ (
 (RunV Tryd.prog (Instr.alloc 30 true (.tuple #[])) w fun t12_110 w =>
 S_101 w ∧ (
 RunV Tryd.prog (Instr.build 30 #[(0, (.int .i64 1)), (1, t43_107), (2, t45_106)]) w fun t46_111 w =>
 RunU Tryd.prog (Instr.storeAt 30 t12_110 t46_111) w fun w =>
 j_37 a0 a2 t6_2 t7_6 t12_110 w)) ∧ (
 True)))) ∧ (
 (RunV Tryd.prog (Instr.alloc 30 true (.tuple #[])) w fun t12_112 w =>
 S_101 w ∧ (
 CallF Tryd.prog 58 #[a0, t40_102, t42_104] w fun t43_113 w =>
 S_101 w ∧ (
 RunV Tryd.prog (Instr.build 30 #[(0, (.int .i64 1)), (1, t43_113), (2, t45_106)]) w fun t46_114 w =>
 RunU Tryd.prog (Instr.storeAt 30 t12_112 t46_114) w fun w =>
 j_37 a0 a2 t6_2 t7_6 t12_112 w))) ∧ (
 True))) w)) [(.int .i64 0)] w
theorem sh44_calls {a0 a1 a2 : Value} {w : World} {R : Value → World → Prop} (h : sh44 a0 a1 a2 w R) : CallF Tryd.prog 44 #[a0, a1, a2] w R :=
  calls_of_denF (mk := false) (args := [a0, a1, a2]) (an := (.seq (.ops [0, 2, 4, 6]) (.seq (.ops [0, 2, 4, 6, 7]) (.seq (.seq (.ops [0, 2, 4, 6, 7, 21, 22, 23]) (.blk (.loop [0, 2, 4, 6, 7, 21, 22] [23] (.seq (.ops [0, 2, 4, 6, 7, 21, 22, 23, 24]) (.seq (.cond .leaf .leaf) (.seq (.blk (.seq (.ops [0, 2, 4, 6, 7, 9, 21, 22, 23]) (.seq (.ops [0, 2, 4, 6, 7, 9, 10, 11, 21, 22, 23]) (.join [0, 2, 4, 6, 7, 21, 22, 23] (.seq (.ops [0, 2, 4, 6, 7, 9, 10, 21, 22, 23, 32]) (.cond (.ops [0, 2, 4, 6, 7, 21, 22, 23]) .leaf)))))) (.ops [0, 2, 4, 6, 7, 21, 22, 23]))))))) (.seq (.join [0, 2, 6, 7, 12] (.draw (.q 0 (.q 1 (.q 2 (.q 3 (.q 5 (.q 6 (.alt 4 (.alt 7 (.one 8 (.one 9 .fin)) (.alt 8 (.one 7 (.one 9 .fin)) .fin)) (.alt 8 (.one 4 (.one 7 (.one 9 .fin))) .fin)))))))) [0, 2, 6, 7, 12])) (.seq (.seq (.ops [0, 6, 7, 12, 47, 48, 49]) (.blk (.loop [0, 6, 7, 12, 47, 48] [49] (.seq (.ops [0, 6, 7, 12, 47, 48, 49, 50]) (.seq (.cond .leaf .leaf) (.seq (.join [0, 6, 7, 12, 47, 48, 49] (.blk (.seq (.ops [0, 6, 7, 12, 14, 47, 48, 49]) (.seq (.seq (.ops [0, 6, 7, 12, 14, 16, 47, 48, 49]) (.seq (.ops [0, 6, 7, 12, 14, 47, 48, 49, 58]) (.cond .leaf .leaf))) (.seq (.ops [0, 6, 7, 12, 14, 17, 47, 48, 49]) (.seq (.join [0, 6, 7, 12, 17, 47, 48, 49] (.seq (.ops [0, 6, 7, 12, 14, 17, 47, 48, 49, 68]) (.cond (.ops [0, 6, 7, 12, 17, 47, 48, 49]) .leaf))) (.ops [0, 6, 7, 12, 47, 48, 49]))))))) (.ops [0, 6, 7, 12, 47, 48, 49]))))))) (.seq (.draw (.q 0 (.q 1 (.q 2 (.q 3 (.q 4 (.q 5 (.one 6 (.one 7 (.q 8 (.q 9 (.one 10 .fin))))))))))) [6, 7]) (.seq (.ops [6]) .leaf)))))))) (c := Tryd.f44.body.getD .skip) hent Tryd.func44 rfl (Nat.le_of_ble_eq_true (by kernel_rfl))
    (Eq.mp (show sh44 a0 a1 a2 w R = denF Tryd.prog ent false Tryd.f44 (.seq (.ops [0, 2, 4, 6]) (.seq (.ops [0, 2, 4, 6, 7]) (.seq (.seq (.ops [0, 2, 4, 6, 7, 21, 22, 23]) (.blk (.loop [0, 2, 4, 6, 7, 21, 22] [23] (.seq (.ops [0, 2, 4, 6, 7, 21, 22, 23, 24]) (.seq (.cond .leaf .leaf) (.seq (.blk (.seq (.ops [0, 2, 4, 6, 7, 9, 21, 22, 23]) (.seq (.ops [0, 2, 4, 6, 7, 9, 10, 11, 21, 22, 23]) (.join [0, 2, 4, 6, 7, 21, 22, 23] (.seq (.ops [0, 2, 4, 6, 7, 9, 10, 21, 22, 23, 32]) (.cond (.ops [0, 2, 4, 6, 7, 21, 22, 23]) .leaf)))))) (.ops [0, 2, 4, 6, 7, 21, 22, 23]))))))) (.seq (.join [0, 2, 6, 7, 12] (.draw (.q 0 (.q 1 (.q 2 (.q 3 (.q 5 (.q 6 (.alt 4 (.alt 7 (.one 8 (.one 9 .fin)) (.alt 8 (.one 7 (.one 9 .fin)) .fin)) (.alt 8 (.one 4 (.one 7 (.one 9 .fin))) .fin)))))))) [0, 2, 6, 7, 12])) (.seq (.seq (.ops [0, 6, 7, 12, 47, 48, 49]) (.blk (.loop [0, 6, 7, 12, 47, 48] [49] (.seq (.ops [0, 6, 7, 12, 47, 48, 49, 50]) (.seq (.cond .leaf .leaf) (.seq (.join [0, 6, 7, 12, 47, 48, 49] (.blk (.seq (.ops [0, 6, 7, 12, 14, 47, 48, 49]) (.seq (.seq (.ops [0, 6, 7, 12, 14, 16, 47, 48, 49]) (.seq (.ops [0, 6, 7, 12, 14, 47, 48, 49, 58]) (.cond .leaf .leaf))) (.seq (.ops [0, 6, 7, 12, 14, 17, 47, 48, 49]) (.seq (.join [0, 6, 7, 12, 17, 47, 48, 49] (.seq (.ops [0, 6, 7, 12, 14, 17, 47, 48, 49, 68]) (.cond (.ops [0, 6, 7, 12, 17, 47, 48, 49]) .leaf))) (.ops [0, 6, 7, 12, 47, 48, 49]))))))) (.ops [0, 6, 7, 12, 47, 48, 49]))))))) (.seq (.draw (.q 0 (.q 1 (.q 2 (.q 3 (.q 4 (.q 5 (.one 6 (.one 7 (.q 8 (.q 9 (.one 10 .fin))))))))))) [6, 7]) (.seq (.ops [6]) .leaf))))))) (Tryd.f44.body.getD .skip) [a0, a1, a2] w R by kernel_rfl) h)

/-! ### 45: (*handbill/xml.reader).close -/
def sh45 (a0 a1 : Value) (w : World) (R : Value → World → Prop) : Prop :=
 RunV Tryd.prog (Instr.box 88 a1) w fun t3_1 w =>
 drw (fun S_2 w =>
 RunA Tryd.prog (nilV a0) fun t6_3 =>
 RunA Tryd.prog (Instr.fieldAt 67 t6_3 3) fun t7_4 =>
 RunS Tryd.prog S_2 (Instr.loadAt 24 t7_4) fun t8_5 =>
 RunS Tryd.prog S_2 (Instr.loadAt 88 t3_1) fun t10_6 =>
 RunA Tryd.prog (Instr.fieldAt 88 t3_1 0) fun t11_7 =>
 RunA Tryd.prog (Instr.fieldAt 82 t11_7 0) fun t12_8 =>
 RunS Tryd.prog S_2 (Instr.loadAt 9 t12_8) fun t13_9 =>
 RunA Tryd.prog (Instr.fieldAt 88 t3_1 0) fun t15_10 =>
 RunA Tryd.prog (Instr.fieldAt 82 t15_10 1) fun t16_11 =>
 RunS Tryd.prog S_2 (Instr.loadAt 9 t16_11) fun t17_12 =>
 CallF Tryd.prog 58 #[a0, t10_6, t13_9] w fun t14_13 w =>
 S_2 w ∧ (
 RunV Tryd.prog (Instr.build 30 #[(0, (.int .i64 2)), (1, t14_13), (2, t17_12)]) w fun t18_14 w =>
 S_2 w ∧ (
 RunV Tryd.prog (Instr.buildSlice 24 1 #[(0, t18_14)]) w fun t19_15 w =>
 S_2 w ∧ (
 RunV Tryd.prog (Builtin.append_ #[24, 24] 24 #[t8_5, t19_15]) w fun t20_16 w =>
 RunA Tryd.prog (nilV a0) fun t21_17 =>
 RunA Tryd.prog (Instr.fieldAt 67 t21_17 3) fun t22_18 =>
 RunU Tryd.prog (Instr.storeAt 24 t22_18 t20_16) w fun w =>
 R (.tuple #[]) w)))) w
theorem sh45_calls {a0 a1 : Value} {w : World} {R : Value → World → Prop} (h : sh45 a0 a1 w R) : CallF Tryd.prog 45 #[a0, a1] w R :=
  calls_of_denF (mk := false) (args := [a0, a1]) (an := (.seq (.ops [0, 3]) (.draw (.q 0 (.q 1 (.q 2 (.q 3 (.q 4 (.q 5 (.q 6 (.q 7 (.q 8 (.q 9 (.q 11 (.q 12 (.q 13 (.one 10 (.one 14 (.one 15 (.one 16 (.q 17 (.q 18 (.one 19 .fin)))))))))))))))))))) []))) (c := Tryd.f45.body.getD .skip) hent Tryd.func45 rfl (Nat.le_of_ble_eq_true (by kernel_rfl))
    (Eq.mp (show sh45 a0 a1 w R = denF Tryd.prog ent false Tryd.f45 (.seq (.ops [0, 3]) (.draw (.q 0 (.q 1 (.q 2 (.q 3 (.q 4 (.q 5 (.q 6 (.q 7 (.q 8 (.q 9 (.q 11 (.q 12 (.q 13 (.one 10 (.one 14 (.one 15 (.one 16 (.q 17 (.q 18 (.one 19 .fin)))))))))))))))))))) [])) (Tryd.f45.body.getD .skip) [a0, a1] w R by kernel_rfl) h)

/-! ### 46: (*handbill/xml.reader).part -/
def sh46 (a0 : Value) (w : World) (R : Value → World → Prop) : Prop :=
 CallF Tryd.prog 25 #[a0, (.int .i64 0)] w fun t4_1 w =>
 RunW Tryd.prog (bin .eql 5 (.tmp 4) (.const (.int .u8 38)) t4_1 (.int .u8 38)) w fun t5_2 =>
 IfB t5_2 (
 RunA Tryd.prog (nilV a0) fun t7_3 =>
 RunA Tryd.prog (Instr.fieldAt 67 t7_3 1) fun t8_4 =>
 RunW Tryd.prog (Instr.loadAt 3 t8_4) w fun t9_5 =>
 RunA Tryd.prog (bin .add 3 (.tmp 9) (.const (.int .i64 1)) t9_5 (.int .i64 1)) fun t10_6 =>
 RunA Tryd.prog (nilV a0) fun t11_7 =>
 RunA Tryd.prog (Instr.fieldAt 67 t11_7 1) fun t12_8 =>
 RunU Tryd.prog (Instr.storeAt 3 t12_8 t10_6) w fun w =>
 CallF Tryd.prog 59 #[a0] w fun t14_9 w =>
 R t14_9 w) (
 CallF Tryd.prog 54 #[a0] w fun t16_10 w =>
 R t16_10 w)
theorem sh46_calls {a0 : Value} {w : World} {R : Value → World → Prop} (h : sh46 a0 w R) : CallF Tryd.prog 46 #[a0] w R :=
  calls_of_denF (mk := false) (args := [a0]) (an := (.seq (.ops [0]) (.seq (.seq (.ops [0, 5]) (.cond (.seq (.ops [0]) (.seq (.ops [2]) .leaf)) .leaf)) (.seq (.ops [2]) .leaf)))) (c := Tryd.f46.body.getD .skip) hent Tryd.func46 rfl (Nat.le_of_ble_eq_true (by kernel_rfl))
    (Eq.mp (show sh46 a0 w R = denF Tryd.prog ent false Tryd.f46 (.seq (.ops [0]) (.seq (.seq (.ops [0, 5]) (.cond (.seq (.ops [0]) (.seq (.ops [2]) .leaf)) .leaf)) (.seq (.ops [2]) .leaf))) (Tryd.f46.body.getD .skip) [a0] w R by kernel_rfl) h)

/-! ### 47: (*handbill/xml.reader).comment -/
def sh47 (a0 : Value) (w : World) (R : Value → World → Prop) : Prop :=
 CallF Tryd.prog 39 #[a0, (.string ⟨#[60, 33, 45, 45]⟩)] w fun t3_1 w =>
 CallF Tryd.prog 41 #[a0, (.string ⟨#[45, 45]⟩)] w fun t5_2 w =>
 CallF Tryd.prog 39 #[a0, (.string ⟨#[62]⟩)] w fun t7_3 w =>
 R (.tuple #[]) w
theorem sh47_calls {a0 : Value} {w : World} {R : Value → World → Prop} (h : sh47 a0 w R) : CallF Tryd.prog 47 #[a0] w R :=
  calls_of_denF (mk := false) (args := [a0]) (an := (.seq (.ops [0]) (.seq (.ops [0]) (.ops [])))) (c := Tryd.f47.body.getD .skip) hent Tryd.func47 rfl (Nat.le_of_ble_eq_true (by kernel_rfl))
    (Eq.mp (show sh47 a0 w R = denF Tryd.prog ent false Tryd.f47 (.seq (.ops [0]) (.seq (.ops [0]) (.ops []))) (Tryd.f47.body.getD .skip) [a0] w R by kernel_rfl) h)

/-! ### 48: (*handbill/xml.reader).flush -/
def sh48 (a0 : Value) (w : World) (R : Value → World → Prop) : Prop :=
 RunA Tryd.prog (nilV a0) fun t4_1 =>
 RunA Tryd.prog (Instr.fieldAt 67 t4_1 5) fun t5_2 =>
 CallF Tryd.prog 34 #[t5_2] w fun t6_3 w =>
 RunA Tryd.prog (nilV a0) fun t8_4 =>
 RunA Tryd.prog (Instr.fieldAt 67 t8_4 5) fun t9_5 =>
 CallF Tryd.prog 60 #[t9_5] w fun t10_6 w =>
 RunW Tryd.prog (Builtin.len_ #[9] 3 #[t6_3]) w fun t13_7 =>
 RunA Tryd.prog (bin .gtr 3 (.tmp 13) (.const (.int .i64 8000)) t13_7 (.int .i64 8000)) fun t14_8 =>
 IfB t14_8 (
 CallF Tryd.prog 26 #[a0, (.int .i64 3)] w fun t16_9 w =>
 R (.tuple #[]) w) (
 RunW Tryd.prog (bin .neq 9 (.tmp 18) (.const (.string ⟨#[]⟩)) t6_3 (.string ⟨#[]⟩)) w fun t19_10 =>
 IfB t19_10 (
 RunA Tryd.prog (nilV a0) fun t22_11 =>
 RunA Tryd.prog (Instr.fieldAt 67 t22_11 3) fun t23_12 =>
 RunW Tryd.prog (Instr.loadAt 24 t23_12) w fun t24_13 =>
 RunV Tryd.prog (Instr.build 30 #[(0, (.int .i64 3)), (3, t6_3)]) w fun t26_14 w =>
 RunV Tryd.prog (Instr.buildSlice 24 1 #[(0, t26_14)]) w fun t27_15 w =>
 RunV Tryd.prog (Builtin.append_ #[24, 24] 24 #[t24_13, t27_15]) w fun t28_16 w =>
 RunA Tryd.prog (nilV a0) fun t29_17 =>
 RunA Tryd.prog (Instr.fieldAt 67 t29_17 3) fun t30_18 =>
 RunU Tryd.prog (Instr.storeAt 24 t30_18 t28_16) w fun w =>
 R (.tuple #[]) w) (
 R (.tuple #[]) w))
theorem sh48_calls {a0 : Value} {w : World} {R : Value → World → Prop} (h : sh48 a0 w R) : CallF Tryd.prog 48 #[a0] w R :=
  calls_of_denF (mk := false) (args := [a0]) (an := (.seq (.ops [0, 2]) (.seq (.ops [0, 2]) (.blk (.seq (.ops [0, 2, 11]) (.cond (.ops []) (.seq (.ops [0, 2, 17]) (.cond (.ops []) .leaf)))))))) (c := Tryd.f48.body.getD .skip) hent Tryd.func48 rfl (Nat.le_of_ble_eq_true (by kernel_rfl))
    (Eq.mp (show sh48 a0 w R = denF Tryd.prog ent false Tryd.f48 (.seq (.ops [0, 2]) (.seq (.ops [0, 2]) (.blk (.seq (.ops [0, 2, 11]) (.cond (.ops []) (.seq (.ops [0, 2, 17]) (.cond (.ops []) .leaf))))))) (Tryd.f48.body.getD .skip) [a0] w R by kernel_rfl) h)

/-! ### 49: (*handbill/xml.reader).end -/
def sh49 (a0 : Value) (w : World) (R : Value → World → Prop) : Prop :=
 RunA Tryd.prog (nilV a0) fun t6_1 =>
 RunA Tryd.prog (Instr.fieldAt 67 t6_1 1) fun t7_2 =>
 RunW Tryd.prog (Instr.loadAt 3 t7_2) w fun t8_3 =>
 RunA Tryd.prog (bin .add 3 (.tmp 8) (.const (.int .i64 2)) t8_3 (.int .i64 2)) fun t9_4 =>
 RunA Tryd.prog (nilV a0) fun t10_5 =>
 RunA Tryd.prog (Instr.fieldAt 67 t10_5 1) fun t11_6 =>
 RunU Tryd.prog (Instr.storeAt 3 t11_6 t9_4) w fun w =>
 RunA Tryd.prog (nilV a0) fun t13_7 =>
 RunA Tryd.prog (Instr.fieldAt 67 t13_7 4) fun t14_8 =>
 RunW Tryd.prog (Instr.loadAt 62 t14_8) w fun t15_9 =>
 RunW Tryd.prog (Builtin.len_ #[62] 3 #[t15_9]) w fun t16_10 =>
 RunA Tryd.prog (bin .sub 3 (.tmp 16) (.const (.int .i64 1)) t16_10 (.int .i64 1)) fun t17_11 =>
 RunA Tryd.prog (nilV a0) fun t19_12 =>
 RunA Tryd.prog (Instr.fieldAt 67 t19_12 4) fun t20_13 =>
 RunW Tryd.prog (Instr.loadAt 62 t20_13) w fun t21_14 =>
 RunA Tryd.prog (Instr.indexAt 62 t21_14 t17_11) fun t23_15 =>
 RunW Tryd.prog (Instr.loadAt 88 t23_15) w fun t24_16 =>
 RunV Tryd.prog (Instr.alloc 88 true (.tuple #[])) w fun t3_17 w =>
 RunU Tryd.prog (Instr.storeAt 88 t3_17 t24_16) w fun w =>
 CallF Tryd.prog 42 #[a0] w fun t26_18 w =>
 RunV Tryd.prog (Instr.alloc 82 true (.tuple #[])) w fun t4_19 w =>
 RunU Tryd.prog (Instr.storeAt 82 t4_19 t26_18) w fun w =>
 jn 3 (fun t0_20 t2_21 t3_22 w =>
 CallF Tryd.prog 40 #[t0_20] w fun t41_24 w =>
 CallF Tryd.prog 39 #[t0_20, (.string ⟨#[62]⟩)] w fun t43_25 w =>
 RunA Tryd.prog (nilV t0_20) fun t45_26 =>
 RunA Tryd.prog (Instr.fieldAt 67 t45_26 2) fun t46_27 =>
 RunW Tryd.prog (Instr.loadAt 25 t46_27) w fun t47_28 =>
 RunW Tryd.prog (bin .eql 25 (.tmp 47) (.const (.int .i64 0)) t47_28 (.int .i64 0)) w fun t48_29 =>
 IfB t48_29 (
 RunW Tryd.prog (Instr.loadAt 88 t3_22) w fun t50_30 =>
 CallF Tryd.prog 45 #[t0_20, t50_30] w fun t51_31 w =>
 RunA Tryd.prog (nilV t0_20) fun t54_32 =>
 RunA Tryd.prog (Instr.fieldAt 67 t54_32 4) fun t55_33 =>
 RunW Tryd.prog (Instr.loadAt 62 t55_33) w fun t56_34 =>
 RunA Tryd.prog (Instr.sliceAt 62 t56_34 none (some t2_21) none) fun t58_35 =>
 RunA Tryd.prog (nilV t0_20) fun t59_36 =>
 RunA Tryd.prog (Instr.fieldAt 67 t59_36 4) fun t60_37 =>
 RunU Tryd.prog (Instr.storeAt 62 t60_37 t58_35) w fun w =>
 R (.tuple #[]) w) (
 R (.tuple #[]) w)) fun j_23 =>
 RunA Tryd.prog (nilV a0) fun t28_38 =>
 RunA Tryd.prog (Instr.fieldAt 67 t28_38 2) fun t29_39 =>
 RunW Tryd.prog (Instr.loadAt 25 t29_39) w fun t30_40 =>
 RunW Tryd.prog (bin .eql 25 (.tmp 30) (.const (.int .i64 0)) t30_40 (.int .i64 0)) w fun t31_41 =>
 IfB t31_41 (
 RunW Tryd.prog (Instr.loadAt 82 t4_19) w fun t33_42 =>
 RunA Tryd.prog (Instr.fieldAt 88 t3_17 0) fun t34_43 =>
 RunW Tryd.prog (Instr.loadAt 82 t34_43) w fun t35_44 =>
 RunW Tryd.prog (bin .neq 82 (.tmp 33) (.tmp 35) t33_42 t35_44) w fun t36_45 =>
 IfB t36_45 (
 CallF Tryd.prog 26 #[a0, (.int .i64 4)] w fun t39_46 w =>
 j_23 a0 t17_11 t3_17 w) (
 j_23 a0 t17_11 t3_17 w)) (
 j_23 a0 t17_11 t3_17 w)
theorem sh49_calls {a0 : Value} {w : World} {R : Value → World → Prop} (h : sh49 a0 w R) : CallF Tryd.prog 49 #[a0] w R :=
  calls_of_denF (mk := false) (args := [a0]) (an := (.seq (.ops [0]) (.seq (.ops [0, 2]) (.seq (.ops [0, 2, 3]) (.seq (.ops [0, 2, 3, 4]) (.seq (.join [0, 2, 3] (.seq (.ops [0, 2, 3, 37]) (.cond (.ops [0, 2, 3]) .leaf))) (.seq (.ops [0, 2, 3]) (.seq (.ops [0, 2, 3]) (.seq (.ops [0, 2, 3, 48]) (.cond (.seq (.ops [0, 2]) (.ops [])) .leaf)))))))))) (c := Tryd.f49.body.getD .skip) hent Tryd.func49 rfl (Nat.le_of_ble_eq_true (by kernel_rfl))
    (Eq.mp (show sh49 a0 w R = denF Tryd.prog ent false Tryd.f49 (.seq (.ops [0]) (.seq (.ops [0, 2]) (.seq (.ops [0, 2, 3]) (.seq (.ops [0, 2, 3, 4]) (.seq (.join [0, 2, 3] (.seq (.ops [0, 2, 3, 37]) (.cond (.ops [0, 2, 3]) .leaf))) (.seq (.ops [0, 2, 3]) (.seq (.ops [0, 2, 3]) (.seq (.ops [0, 2, 3, 48]) (.cond (.seq (.ops [0, 2]) (.ops [])) .leaf))))))))) (Tryd.f49.body.getD .skip) [a0] w R by kernel_rfl) h)

/-! ### 51: (*strings.Builder).copyCheck -/
def sh51 (a0 : Value) (w : World) (R : Value → World → Prop) : Prop :=
 RunA Tryd.prog (nilV a0) fun t3_1 =>
 RunA Tryd.prog (Instr.fieldAt 65 t3_1 0) fun t4_2 =>
 RunW Tryd.prog (Instr.loadAt 63 t4_2) w fun t5_3 =>
 RunW Tryd.prog (bin .eql 63 (.tmp 5) (.const (.pointer none)) t5_3 (.pointer none)) w fun t6_4 =>
 IfB t6_4 (
 RunV Tryd.prog (convert 63 102 a0) w fun t9_5 w =>
 RunO Tryd.prog (callFunc 62 #[t9_5]) w fun t10_6 w =>
 RunV Tryd.prog (convert 102 63 t10_6) w fun t11_7 w =>
 RunA Tryd.prog (nilV a0) fun t12_8 =>
 RunA Tryd.prog (Instr.fieldAt 65 t12_8 0) fun t13_9 =>
 RunU Tryd.prog (Instr.storeAt 63 t13_9 t11_7) w fun w =>
 R (.tuple #[]) w) (
 RunA Tryd.prog (nilV a0) fun t15_10 =>
 RunA Tryd.prog (Instr.fieldAt 65 t15_10 0) fun t16_11 =>
 RunW Tryd.prog (Instr.loadAt 63 t16_11) w fun t17_12 =>
 RunW Tryd.prog (bin .neq 63 (.tmp 17) (.tmp 18) t17_12 a0) w fun t19_13 =>
 IfB t19_13 (
 False) (
 R (.tuple #[]) w))
theorem sh51_calls {a0 : Value} {w : World} {R : Value → World → Prop} (h : sh51 a0 w R) : CallF Tryd.prog 51 #[a0] w R :=
  calls_of_denF (mk := false) (args := [a0]) (an := (.seq (.ops [0, 6]) (.cond (.ops []) (.seq (.ops [19]) (.cond .leaf .leaf))))) (c := Tryd.f51.body.getD .skip) hent Tryd.func51 rfl (Nat.le_of_ble_eq_true (by kernel_rfl))
    (Eq.mp (show sh51 a0 w R = denF Tryd.prog ent false Tryd.f51 (.seq (.ops [0, 6]) (.cond (.ops []) (.seq (.ops [19]) (.cond .leaf .leaf)))) (Tryd.f51.body.getD .skip) [a0] w R by kernel_rfl) h)

/-! ### 52: internal/stringslite.HasPrefix -/
def sh52 (a0 a1 : Value) (w : World) (R : Value → World → Prop) : Prop :=
 RunW Tryd.prog (Builtin.len_ #[9] 3 #[a0]) w fun t6_1 =>
 RunW Tryd.prog (Builtin.len_ #[9] 3 #[a1]) w fun t8_2 =>
 RunA Tryd.prog (bin .geq 3 (.tmp 6) (.tmp 8) t6_1 t8_2) fun t9_3 =>
 IfB t9_3 (
 RunW Tryd.prog (Builtin.len_ #[9] 3 #[a1]) w fun t13_4 =>
 RunA Tryd.prog (Instr.sliceAt 9 a0 none (some t13_4) none) fun t14_5 =>
 RunW Tryd.prog (bin .eql 9 (.tmp 14) (.tmp 15) t14_5 a1) w fun t16_6 =>
 R t16_6 w) (
 R (.bool false) w)
theorem sh52_calls {a0 a1 : Value} {w : World} {R : Value → World → Prop} (h : sh52 a0 a1 w R) : CallF Tryd.prog 52 #[a0, a1] w R :=
  calls_of_denF (mk := false) (args := [a0, a1]) (an := (.seq (.ops [0, 1]) (.seq (.ops [4]) .leaf))) (c := Tryd.f52.body.getD .skip) hent Tryd.func52 rfl (Nat.le_of_ble_eq_true (by kernel_rfl))
    (Eq.mp (show sh52 a0 a1 w R = denF Tryd.prog ent false Tryd.f52 (.seq (.ops [0, 1]) (.seq (.ops [4]) .leaf)) (Tryd.f52.body.getD .skip) [a0, a1] w R by kernel_rfl) h)

/-! ### 53: strings.IndexByte -/
def sh53 (a0 a1 : Value) (w : World) (R : Value → World → Prop) : Prop :=
 CallF Tryd.prog 63 #[a0, a1] w fun t7_1 w =>
 R t7_1 w
theorem sh53_calls {a0 a1 : Value} {w : World} {R : Value → World → Prop} (h : sh53 a0 a1 w R) : CallF Tryd.prog 53 #[a0, a1] w R :=
  calls_of_denF (mk := false) (args := [a0, a1]) (an := (.seq (.ops [0, 1]) (.seq (.ops [4]) .leaf))) (c := Tryd.f53.body.getD .skip) hent Tryd.func53 rfl (Nat.le_of_ble_eq_true (by kernel_rfl))
    (Eq.mp (show sh53 a0 a1 w R = denF Tryd.prog ent false Tryd.f53 (.seq (.ops [0, 1]) (.seq (.ops [4]) .leaf)) (Tryd.f53.body.getD .skip) [a0, a1] w R by kernel_rfl) h)

/-! ### 54: (*handbill/xml.reader).sign -/
def sh54 (a0 : Value) (w : World) (R : Value → World → Prop) : Prop :=
 CallF Tryd.prog 25 #[a0, (.int .i64 0)] w fun t6_1 w =>
 RunA Tryd.prog (nilV a0) fun t8_2 =>
 RunA Tryd.prog (Instr.fieldAt 67 t8_2 2) fun t9_3 =>
 RunW Tryd.prog (Instr.loadAt 25 t9_3) w fun t10_4 =>
 RunW Tryd.prog (bin .neq 25 (.tmp 10) (.const (.int .i64 0)) t10_4 (.int .i64 0)) w fun t11_5 =>
 IfB t11_5 (
 R (.string ⟨#[]⟩) w) (
 drw (fun S_6 w =>
 RunA Tryd.prog (nilV a0) fun t14_7 =>
 RunA Tryd.prog (Instr.fieldAt 67 t14_7 0) fun t15_8 =>
 RunS Tryd.prog S_6 (Instr.loadAt 9 t15_8) fun t16_9 =>
 RunA Tryd.prog (nilV a0) fun t18_10 =>
 RunA Tryd.prog (Instr.fieldAt 67 t18_10 1) fun t19_11 =>
 RunS Tryd.prog S_6 (Instr.loadAt 3 t19_11) fun t20_12 =>
 RunA Tryd.prog (Instr.sliceAt 9 t16_9 (some t20_12) none none) fun t21_13 =>
 CallF Tryd.prog 64 #[t21_13] w fun t22_14 w =>
 RunA Tryd.prog (Instr.extract t22_14 0) fun t23_15 =>
 RunA Tryd.prog (Instr.extract t22_14 1) fun t24_16 =>
 jn 2 (fun t0_17 t4_18 w =>
 RunA Tryd.prog (nilV t0_17) fun t39_20 =>
 RunA Tryd.prog (Instr.fieldAt 67 t39_20 1) fun t40_21 =>
 RunW Tryd.prog (Instr.loadAt 3 t40_21) w fun t41_22 =>
 RunA Tryd.prog (bin .add 3 (.tmp 41) (.tmp 42) t41_22 t4_18) fun t43_23 =>
 RunA Tryd.prog (nilV t0_17) fun t44_24 =>
 RunA Tryd.prog (Instr.fieldAt 67 t44_24 1) fun t45_25 =>
 RunU Tryd.prog (Instr.storeAt 3 t45_25 t43_23) w fun w =>
 drw (fun S_26 w =>
 RunA Tryd.prog (nilV t0_17) fun t47_27 =>
 RunA Tryd.prog (Instr.fieldAt 67 t47_27 0) fun t48_28 =>
 RunS Tryd.prog S_26 (Instr.loadAt 9 t48_28) fun t49_29 =>
 RunA Tryd.prog (nilV t0_17) fun t51_30 =>
 RunA Tryd.prog (Instr.fieldAt 67 t51_30 1) fun t52_31 =>
 RunS Tryd.prog S_26 (Instr.loadAt 3 t52_31) fun t53_32 =>
 RunA Tryd.prog (bin .sub 3 (.tmp 53) (.tmp 54) t53_32 t4_18) fun t55_33 =>
 RunA Tryd.prog (nilV t0_17) fun t57_34 =>
 RunA Tryd.prog (Instr.fieldAt 67 t57_34 1) fun t58_35 =>
 RunS Tryd.prog S_26 (Instr.loadAt 3 t58_35) fun t59_36 =>
 RunA Tryd.prog (Instr.sliceAt 9 t49_29 (some t55_33) (some t59_36) none) fun t60_37 =>
 R t60_37 w) w) fun j_19 =>
 CallF Tryd.prog 65 #[t23_15] w fun t26_38 w =>
 RunA Tryd.prog (Op.unary .not t26_38) fun t27_39 =>
 IfB t27_39 (
 CallF Tryd.prog 26 #[a0, (.int .i64 4)] w fun t37_40 w =>
 R (.string ⟨#[]⟩) w) (
 RunW Tryd.prog (bin .eql 21 (.tmp 29) (.const (.int .i32 65533)) t23_15 (.int .i32 65533)) w fun t30_41 =>
 IfB t30_41 (
 RunA Tryd.prog (bin .lss 3 (.tmp 32) (.const (.int .i64 2)) t24_16 (.int .i64 2)) fun t33_42 =>
 IfB t33_42 (
 CallF Tryd.prog 26 #[a0, (.int .i64 4)] w fun t37_43 w =>
 R (.string ⟨#[]⟩) w) (
 j_19 a0 t24_16 w)) (
 j_19 a0 t24_16 w))) w)
theorem sh54_calls {a0 : Value} {w : World} {R : Value → World → Prop} (h : sh54 a0 w R) : CallF Tryd.prog 54 #[a0] w R :=
  calls_of_denF (mk := false) (args := [a0]) (an := (.seq (.ops [0]) (.seq (.seq (.ops [0]) (.seq (.ops [0, 11]) (.cond (.seq (.ops [2]) .leaf) .leaf))) (.seq (.draw (.q 0 (.q 1 (.q 2 (.q 3 (.q 4 (.q 5 (.q 6 (.q 7 (.q 8 (.one 9 (.q 10 (.q 11 (.q 12 (.q 13 (.q 14 .fin))))))))))))))) [0, 3, 4]) (.seq (.join [0, 4] (.seq (.ops [0, 4, 35]) (.cond (.seq (.ops []) (.seq (.ops [2]) .leaf)) .leaf))) (.seq (.ops [0, 4]) (.seq (.draw (.q 0 (.q 1 (.q 2 (.q 3 (.q 4 (.q 5 (.q 6 (.q 7 (.q 8 (.q 9 (.q 10 (.q 11 (.q 12 (.q 13 (.q 14 (.q 15 .fin)))))))))))))))) [2]) .leaf))))))) (c := Tryd.f54.body.getD .skip) hent Tryd.func54 rfl (Nat.le_of_ble_eq_true (by kernel_rfl))
    (Eq.mp (show sh54 a0 w R = denF Tryd.prog ent false Tryd.f54 (.seq (.ops [0]) (.seq (.seq (.ops [0]) (.seq (.ops [0, 11]) (.cond (.seq (.ops [2]) .leaf) .leaf))) (.seq (.draw (.q 0 (.q 1 (.q 2 (.q 3 (.q 4 (.q 5 (.q 6 (.q 7 (.q 8 (.one 9 (.q 10 (.q 11 (.q 12 (.q 13 (.q 14 .fin))))))))))))))) [0, 3, 4]) (.seq (.join [0, 4] (.seq (.ops [0, 4, 35]) (.cond (.seq (.ops []) (.seq (.ops [2]) .leaf)) .leaf))) (.seq (.ops [0, 4]) (.seq (.draw (.q 0 (.q 1 (.q 2 (.q 3 (.q 4 (.q 5 (.q 6 (.q 7 (.q 8 (.q 9 (.q 10 (.q 11 (.q 12 (.q 13 (.q 14 (.q 15 .fin)))))))))))))))) [2]) .leaf)))))) (Tryd.f54.body.getD .skip) [a0] w R by kernel_rfl) h)

/-! ### 55: (*handbill/xml.reader).name -/
def sh55 (a0 : Value) (w : World) (R : Value → World → Prop) : Prop :=
 RunA Tryd.prog (nilV a0) fun t6_1 =>
 RunA Tryd.prog (Instr.fieldAt 67 t6_1 1) fun t7_2 =>
 RunW Tryd.prog (Instr.loadAt 3 t7_2) w fun t8_3 =>
 CallF Tryd.prog 25 #[a0, (.int .i64 0)] w fun t10_4 w =>
 jn 2 (fun t0_5 t3_6 w =>
 jn 2 (fun t0_8 t3_9 w =>
 drw (fun S_11 w =>
 RunA Tryd.prog (nilV t0_8) fun t53_12 =>
 RunA Tryd.prog (Instr.fieldAt 67 t53_12 0) fun t54_13 =>
 RunS Tryd.prog S_11 (Instr.loadAt 9 t54_13) fun t55_14 =>
 RunA Tryd.prog (nilV t0_8) fun t58_15 =>
 RunA Tryd.prog (Instr.fieldAt 67 t58_15 1) fun t59_16 =>
 RunS Tryd.prog S_11 (Instr.loadAt 3 t59_16) fun t60_17 =>
 RunA Tryd.prog (Instr.sliceAt 9 t55_14 (some t3_9) (some t60_17) none) fun t61_18 =>
 R t61_18 w) w) fun j_10 =>
 lp 0 (fun n_19 w =>
 drw (fun S_20 w =>
 RunA Tryd.prog (nilV t0_5) fun t24_21 =>
 RunA Tryd.prog (Instr.fieldAt 67 t24_21 1) fun t25_22 =>
 RunS Tryd.prog S_20 (Instr.loadAt 3 t25_22) fun t26_23 =>
 RunA Tryd.prog (nilV t0_5) fun t28_24 =>
 RunA Tryd.prog (Instr.fieldAt 67 t28_24 0) fun t29_25 =>
 RunS Tryd.prog S_20 (Instr.loadAt 9 t29_25) fun t30_26 =>
 RunS Tryd.prog S_20 (Builtin.len_ #[9] 3 #[t30_26]) fun t31_27 =>
 RunA Tryd.prog (bin .lss 3 (.tmp 26) (.tmp 31) t26_23 t31_27) fun t32_28 =>
 IfB t32_28 (
 RunA Tryd.prog (nilV t0_5) fun t35_29 =>
 RunA Tryd.prog (Instr.fieldAt 67 t35_29 0) fun t36_30 =>
 RunS Tryd.prog S_20 (Instr.loadAt 9 t36_30) fun t37_31 =>
 RunA Tryd.prog (nilV t0_5) fun t39_32 =>
 RunA Tryd.prog (Instr.fieldAt 67 t39_32 1) fun t40_33 =>
 RunS Tryd.prog S_20 (Instr.loadAt 3 t40_33) fun t41_34 =>
 RunA Tryd.prog (Instr.index 9 t37_31 t41_34) fun t42_35 =>
 CallF Tryd.prog 66 #[t42_35] w fun t43_36 w =>
 S_20 w ∧ (
 IfB t43_36 (
 RunA Tryd.prog (nilV t0_5) fun t46_37 =>
 RunA Tryd.prog (Instr.fieldAt 67 t46_37 1) fun t47_38 =>
 RunW Tryd.prog (Instr.loadAt 3 t47_38) w fun t48_39 =>
 RunA Tryd.prog (bin .add 3 (.tmp 48) (.const (.int .i64 1)) t48_39 (.int .i64 1)) fun t49_40 =>
 RunA Tryd.prog (nilV t0_5) fun t50_41 =>
 RunA Tryd.prog (Instr.fieldAt 67 t50_41 1) fun t51_42 =>
 RunU Tryd.prog (Instr.storeAt 3 t51_42 t49_40) w fun w =>
 (t0_5 : Value) = t0_5 ∧ ((t3_6 : Value) = t3_6 ∧ (n_19 w))) (
 j_10 t0_5 t3_6 w))) (
 j_10 t0_5 t3_6 w)) w) [] w) fun j_7 =>
 RunA Tryd.prog (nilV a0) fun t12_43 =>
 RunA Tryd.prog (Instr.fieldAt 67 t12_43 2) fun t13_44 =>
 RunW Tryd.prog (Instr.loadAt 25 t13_44) w fun t14_45 =>
 RunW Tryd.prog (bin .eql 25 (.tmp 14) (.const (.int .i64 0)) t14_45 (.int .i64 0)) w fun t15_46 =>
 IfB t15_46 (
 CallF Tryd.prog 27 #[t10_4] w fun t18_47 w =>
 RunA Tryd.prog (Op.unary .not t18_47) fun t19_48 =>
 IfB t19_48 (
 CallF Tryd.prog 26 #[a0, (.int .i64 4)] w fun t22_49 w =>
 j_7 a0 t8_3 w) (
 j_7 a0 t8_3 w)) (
 j_7 a0 t8_3 w)
theorem sh55_calls {a0 : Value} {w : World} {R : Value → World → Prop} (h : sh55 a0 w R) : CallF Tryd.prog 55 #[a0] w R :=
  calls_of_denF (mk := false) (args := [a0]) (an := (.seq (.ops [0]) (.seq (.ops [0, 3]) (.seq (.seq (.ops [0, 3, 4]) (.join [0, 3] (.seq (.ops [0, 3, 20]) (.cond (.ops [0, 3]) .leaf)))) (.seq (.join [0, 3] (.blk (.loop [0, 3] [] (.seq (.seq (.draw (.q 0 (.q 1 (.q 2 (.q 3 (.q 4 (.q 5 (.q 6 (.q 7 (.q 8 (.q 9 (.q 10 (.sp 11 (.q 11 (.q 12 (.q 13 (.q 14 (.q 15 (.q 16 (.q 17 (.q 18 (.q 19 (.one 20 (.q 21 .fin))))))))))) (.q 11 (.q 12 (.q 13 (.q 14 (.q 15 (.q 16 (.q 17 (.q 18 (.q 19 (.q 20 (.q 21 .fin))))))))))))))))))))))) [0, 3, 44]) (.cond .leaf .leaf)) (.blk (.ops [0, 3])))))) (.seq (.draw (.q 0 (.q 1 (.q 2 (.q 3 (.q 4 (.q 5 (.q 6 (.q 7 (.q 8 (.q 9 (.q 10 .fin))))))))))) [2]) .leaf)))))) (c := Tryd.f55.body.getD .skip) hent Tryd.func55 rfl (Nat.le_of_ble_eq_true (by kernel_rfl))
    (Eq.mp (show sh55 a0 w R = denF Tryd.prog ent false Tryd.f55 (.seq (.ops [0]) (.seq (.ops [0, 3]) (.seq (.seq (.ops [0, 3, 4]) (.join [0, 3] (.seq (.ops [0, 3, 20]) (.cond (.ops [0, 3]) .leaf)))) (.seq (.join [0, 3] (.blk (.loop [0, 3] [] (.seq (.seq (.draw (.q 0 (.q 1 (.q 2 (.q 3 (.q 4 (.q 5 (.q 6 (.q 7 (.q 8 (.q 9 (.q 10 (.sp 11 (.q 11 (.q 12 (.q 13 (.q 14 (.q 15 (.q 16 (.q 17 (.q 18 (.q 19 (.one 20 (.q 21 .fin))))))))))) (.q 11 (.q 12 (.q 13 (.q 14 (.q 15 (.q 16 (.q 17 (.q 18 (.q 19 (.q 20 (.q 21 .fin))))))))))))))))))))))) [0, 3, 44]) (.cond .leaf .leaf)) (.blk (.ops [0, 3])))))) (.seq (.draw (.q 0 (.q 1 (.q 2 (.q 3 (.q 4 (.q 5 (.q 6 (.q 7 (.q 8 (.q 9 (.q 10 .fin))))))))))) [2]) .leaf))))) (Tryd.f55.body.getD .skip) [a0] w R by kernel_rfl) h)

/-! ### 56: (*handbill/xml.reader).attr -/
def sh56 (a0 a1 : Value) (w : World) (R : Value → World → Prop) : Prop :=
 RunV Tryd.prog (Instr.alloc 95 true (.tuple #[])) w fun t4_1 w =>
 CallF Tryd.prog 42 #[a0] w fun t7_2 w =>
 RunV Tryd.prog (Instr.build 95 #[(0, t7_2)]) w fun t8_3 w =>
 RunV Tryd.prog (Instr.alloc 95 true (.tuple #[])) w fun t5_4 w =>
 RunU Tryd.prog (Instr.storeAt 95 t5_4 t8_3) w fun w =>
 jn 3 (fun t0_5 t4_6 t5_7 w =>
 CallF Tryd.prog 40 #[t0_5] w fun t22_9 w =>
 CallF Tryd.prog 39 #[t0_5, (.string ⟨#[61]⟩)] w fun t24_10 w =>
 CallF Tryd.prog 40 #[t0_5] w fun t26_11 w =>
 jn 2 (fun t4_12 t5_13 w =>
 RunW Tryd.prog (Instr.loadAt 95 t5_13) w fun t35_15 =>
 RunU Tryd.prog (Instr.storeAt 95 t4_12 t35_15) w fun w =>
 RunW Tryd.prog (Instr.loadAt 95 t4_12) w fun t4_16 =>
 R t4_16 w) fun j_14 =>
 RunA Tryd.prog (nilV t0_5) fun t28_17 =>
 RunA Tryd.prog (Instr.fieldAt 67 t28_17 2) fun t29_18 =>
 RunW Tryd.prog (Instr.loadAt 25 t29_18) w fun t30_19 =>
 RunW Tryd.prog (bin .eql 25 (.tmp 30) (.const (.int .i64 0)) t30_19 (.int .i64 0)) w fun t31_20 =>
 IfB t31_20 (
 CallF Tryd.prog 69 #[t0_5] w fun t33_21 w =>
 RunA Tryd.prog (Instr.fieldAt 95 t5_7 1) fun t34_22 =>
 RunU Tryd.prog (Instr.storeAt 9 t34_22 t33_21) w fun w =>
 j_14 t4_6 t5_7 w) (
 j_14 t4_6 t5_7 w)) fun j_8 =>
 RunA Tryd.prog (nilV a0) fun t10_23 =>
 RunA Tryd.prog (Instr.fieldAt 67 t10_23 2) fun t11_24 =>
 RunW Tryd.prog (Instr.loadAt 25 t11_24) w fun t12_25 =>
 RunW Tryd.prog (bin .eql 25 (.tmp 12) (.const (.int .i64 0)) t12_25 (.int .i64 0)) w fun t13_26 =>
 IfB t13_26 (
 RunV Tryd.prog (Instr.makeFunc (Go.Fn.func 68) #[] #[t5_4]) w fun t16_27 w =>
 CallF Tryd.prog 67 #[a1, t16_27] w fun t17_28 w =>
 IfB t17_28 (
 CallF Tryd.prog 26 #[a0, (.int .i64 4)] w fun t20_29 w =>
 j_8 a0 t4_1 t5_4 w) (
 j_8 a0 t4_1 t5_4 w)) (
 j_8 a0 t4_1 t5_4 w)
theorem sh56_calls {a0 a1 : Value} {w : World} {R : Value → World → Prop} (h : sh56 a0 a1 w R) : CallF Tryd.prog 56 #[a0, a1] w R :=
  calls_of_denF (mk := false) (args := [a0, a1]) (an := (.seq (.ops [0, 1, 4]) (.seq (.ops [0, 1, 4, 5]) (.seq (.join [0, 4, 5] (.seq (.ops [0, 4, 5, 18]) (.cond (.ops [0, 4, 5]) .leaf))) (.seq (.ops [0, 4, 5]) (.seq (.ops [0, 4, 5]) (.seq (.ops [0, 4, 5]) (.seq (.join [4, 5] (.seq (.ops [0, 4, 5, 31]) (.cond (.ops [4, 5]) .leaf))) (.seq (.ops [4]) .leaf))))))))) (c := Tryd.f56.body.getD .skip) hent Tryd.func56 rfl (Nat.le_of_ble_eq_true (by kernel_rfl))
    (Eq.mp (show sh56 a0 a1 w R = denF Tryd.prog ent false Tryd.f56 (.seq (.ops [0, 1, 4]) (.seq (.ops [0, 1, 4, 5]) (.seq (.join [0, 4, 5] (.seq (.ops [0, 4, 5, 18]) (.cond (.ops [0, 4, 5]) .leaf))) (.seq (.ops [0, 4, 5]) (.seq (.ops [0, 4, 5]) (.seq (.ops [0, 4, 5]) (.seq (.join [4, 5] (.seq (.ops [0, 4, 5, 31]) (.cond (.ops [4, 5]) .leaf))) (.seq (.ops [4]) .leaf)))))))) (Tryd.f56.body.getD .skip) [a0, a1] w R by kernel_rfl) h)

/-! ### 57: (handbill/xml.pair).tells -/
def sh57 (a0 : Value) (w : World) (R : Value → World → Prop) : Prop :=
 RunV Tryd.prog (Instr.box 95 a0) w fun t1_1 w =>
 jn 1 (fun t1_2 w =>
 drw (fun S_4 w =>
 RunA Tryd.prog (Instr.fieldAt 95 t1_2 0) fun t14_5 =>
 RunA Tryd.prog (Instr.fieldAt 82 t14_5 1) fun t15_6 =>
 RunS Tryd.prog S_4 (Instr.loadAt 9 t15_6) fun t16_7 =>
 RunA Tryd.prog (Instr.fieldAt 95 t1_2 0) fun t17_8 =>
 RunA Tryd.prog (Instr.fieldAt 82 t17_8 0) fun t18_9 =>
 RunS Tryd.prog S_4 (Instr.loadAt 9 t18_9) fun t19_10 =>
 RunS Tryd.prog S_4 (bin .eql 9 (.tmp 19) (.const (.string ⟨#[120, 109, 108, 110, 115]⟩)) t19_10 (.string ⟨#[120, 109, 108, 110, 115]⟩)) fun t20_11 =>
 R (.tuple #[t16_7, t20_11]) w) w) fun j_3 =>
 RunA Tryd.prog (Instr.fieldAt 95 t1_1 0) fun t4_12 =>
 RunA Tryd.prog (Instr.fieldAt 82 t4_12 0) fun t5_13 =>
 RunW Tryd.prog (Instr.loadAt 9 t5_13) w fun t6_14 =>
 RunW Tryd.prog (bin .eql 9 (.tmp 6) (.const (.string ⟨#[]⟩)) t6_14 (.string ⟨#[]⟩)) w fun t7_15 =>
 IfB t7_15 (
 RunA Tryd.prog (Instr.fieldAt 95 t1_1 0) fun t9_16 =>
 RunA Tryd.prog (Instr.fieldAt 82 t9_16 1) fun t10_17 =>
 RunW Tryd.prog (Instr.loadAt 9 t10_17) w fun t11_18 =>
 RunW Tryd.prog (bin .eql 9 (.tmp 11) (.const (.string ⟨#[120, 109, 108, 110, 115]⟩)) t11_18 (.string ⟨#[120, 109, 108, 110, 115]⟩)) w fun t12_19 =>
 IfB t12_19 (
 R (.tuple #[(.string ⟨#[]⟩), (.bool true)]) w) (
 j_3 t1_1 w)) (
 j_3 t1_1 w)
theorem sh57_calls {a0 : Value} {w : World} {R : Value → World → Prop} (h : sh57 a0 w R) : CallF Tryd.prog 57 #[a0] w R :=
  calls_of_denF (mk := false) (args := [a0]) (an := (.seq (.ops [1]) (.seq (.join [1] (.seq (.ops [1, 13]) (.cond (.seq (.ops [2, 3]) .leaf) .leaf))) (.seq (.draw (.q 0 (.q 1 (.q 2 (.q 3 (.q 4 (.q 5 (.q 6 (.q 7 (.q 8 .fin))))))))) [2, 3]) .leaf)))) (c := Tryd.f57.body.getD .skip) hent Tryd.func57 rfl (Nat.le_of_ble_eq_true (by kernel_rfl))
    (Eq.mp (show sh57 a0 w R = denF Tryd.prog ent false Tryd.f57 (.seq (.ops [1]) (.seq (.join [1] (.seq (.ops [1, 13]) (.cond (.seq (.ops [2, 3]) .leaf) .leaf))) (.seq (.draw (.q 0 (.q 1 (.q 2 (.q 3 (.q 4 (.q 5 (.q 6 (.q 7 (.q 8 .fin))))))))) [2, 3]) .leaf))) (Tryd.f57.body.getD .skip) [a0] w R by kernel_rfl) h)

/-! ### 58: (*handbill/xml.reader).space -/
def sh58 (a0 a1 a2 : Value) (w : World) (R : Value → World → Prop) : Prop :=
 RunV Tryd.prog (Instr.box 88 a1) w fun t4_1 w =>
 RunV Tryd.prog (Instr.box 9 a2) w fun t5_2 w =>
 RunV Tryd.prog (Instr.alloc 9 true (.tuple #[])) w fun t6_3 w =>
 RunW Tryd.prog (Instr.loadAt 9 t5_2) w fun t13_4 =>
 RunW Tryd.prog (bin .eql 9 (.tmp 13) (.const (.string ⟨#[120, 109, 108]⟩)) t13_4 (.string ⟨#[120, 109, 108]⟩)) w fun t14_5 =>
 IfB t14_5 (
 RunU Tryd.prog (Instr.storeAt 9 t6_3 (.string ⟨#[120, 109, 108]⟩)) w fun w =>
 RunW Tryd.prog (Instr.loadAt 9 t6_3) w fun t6_6 =>
 R t6_6 w) (
 RunA Tryd.prog (Instr.fieldAt 88 t4_1 1) fun t16_7 =>
 RunW Tryd.prog (Instr.loadAt 86 t16_7) w fun t17_8 =>
 RunW Tryd.prog (Instr.loadAt 9 t5_2) w fun t18_9 =>
 RunV Tryd.prog (Instr.lookup 86 t17_8 t18_9 true) w fun t19_10 w =>
 RunA Tryd.prog (Instr.extract t19_10 0) fun t20_11 =>
 RunA Tryd.prog (Instr.extract t19_10 1) fun t21_12 =>
 IfB t21_12 (
 RunU Tryd.prog (Instr.storeAt 9 t6_3 t20_11) w fun w =>
 RunW Tryd.prog (Instr.loadAt 9 t6_3) w fun t6_13 =>
 R t6_13 w) (
 RunA Tryd.prog (nilV a0) fun t25_14 =>
 RunA Tryd.prog (Instr.fieldAt 67 t25_14 4) fun t26_15 =>
 RunW Tryd.prog (Instr.loadAt 62 t26_15) w fun t27_16 =>
 CallF Tryd.prog 70 #[t27_16] w fun t28_17 w =>
 rngP Tryd.prog none 2 3 (fun l_18 K_19 t29_25 t30_26 w =>
 RunV Tryd.prog (Instr.alloc 88 true (.tuple #[])) w fun t10_30 w =>
 RunU Tryd.prog (Instr.storeAt 88 t10_30 t30_26) w fun w =>
 K_19 t5_2 t6_3 t10_30 w) (fun l_18 kn_20 ks_21 t5_27 t6_28 t10_29 w =>
 RunA Tryd.prog (Instr.fieldAt 88 t10_29 1) fun t32_31 =>
 RunW Tryd.prog (Instr.loadAt 86 t32_31) w fun t33_32 =>
 RunW Tryd.prog (Instr.loadAt 9 t5_27) w fun t34_33 =>
 RunV Tryd.prog (Instr.lookup 86 t33_32 t34_33 true) w fun t35_34 w =>
 RunA Tryd.prog (Instr.extract t35_34 0) fun t36_35 =>
 RunA Tryd.prog (Instr.extract t35_34 1) fun t37_36 =>
 IfB t37_36 (
 RunU Tryd.prog (Instr.storeAt 9 t6_28 t36_35) w fun w =>
 ks_21 .ret w) (
 kn_20 w)) t28_17 w (fun D_22 w =>
 jn 1 (fun t6_37 w =>
 RunU Tryd.prog (Instr.storeAt 9 t6_37 (.string ⟨#[]⟩)) w fun w =>
 (w).heap[D_22]? = some (.deferred (some [])) ∧ (
 RunW Tryd.prog (Instr.loadAt 9 t6_37) (w.putObj D_22 (.deferred none)) fun t6_39 =>
 R t6_39 (w.putObj D_22 (.deferred none)))) fun j_38 =>
 RunW Tryd.prog (Instr.loadAt 9 t5_2) w fun t40_40 =>
 RunW Tryd.prog (bin .neq 9 (.tmp 40) (.const (.string ⟨#[]⟩)) t40_40 (.string ⟨#[]⟩)) w fun t41_41 =>
 IfB t41_41 (
 CallF Tryd.prog 26 #[a0, (.int .i64 4)] w fun t43_42 w =>
 ([D_22] : List Nat) = [D_22] ∧ (j_38 t6_3 w)) (
 ([D_22] : List Nat) = [D_22] ∧ (j_38 t6_3 w))) (fun D_22 c_23 w => jumpK (fun i_24 w =>
 bif Nat.beq i_24 0 then (
 jn 1 (fun t6_43 w =>
 RunU Tryd.prog (Instr.storeAt 9 t6_43 (.string ⟨#[]⟩)) w fun w =>
 (w).heap[D_22]? = some (.deferred (some [])) ∧ (
 RunW Tryd.prog (Instr.loadAt 9 t6_43) (w.putObj D_22 (.deferred none)) fun t6_45 =>
 R t6_45 (w.putObj D_22 (.deferred none)))) fun j_44 =>
 RunW Tryd.prog (Instr.loadAt 9 t5_2) w fun t40_46 =>
 RunW Tryd.prog (bin .neq 9 (.tmp 40) (.const (.string ⟨#[]⟩)) t40_46 (.string ⟨#[]⟩)) w fun t41_47 =>
 IfB t41_47 (
 CallF Tryd.prog 26 #[a0, (.int .i64 4)] w fun t43_48 w =>
 ([D_22] : List Nat) = [D_22] ∧ (j_44 t6_3 w)) (
 ([D_22] : List Nat) = [D_22] ∧ (j_44 t6_3 w))) else (
 False)) (fun w =>
 (w).heap[D_22]? = some (.deferred (some [])) ∧ (
 RunW Tryd.prog (Instr.loadAt 9 t6_3) (w.putObj D_22 (.deferred none)) fun t6_49 =>
 R t6_49 (w.putObj D_22 (.deferred none)))) c_23 w)))
theorem sh58_calls {a0 a1 a2 : Value} {w : World} {R : Value → World → Prop} (h : sh58 a0 a1 a2 w R) : CallF Tryd.prog 58 #[a0, a1, a2] w R :=
  calls_of_denF (mk := true) (args := [a0, a1, a2]) (an := (.seq (.ops [0, 4, 5, 6]) (.seq (.seq (.ops [0, 4, 5, 6, 14]) (.cond (.seq (.ops [6]) .leaf) .leaf)) (.seq (.seq (.ops [0, 5, 6, 7, 8]) (.seq (.ops [0, 5, 6, 7, 22]) (.cond (.seq (.ops [6]) .leaf) .leaf))) (.seq (.seq (.ops [0, 5, 6, 28]) (.blk (.rng [5, 6, 10] (.ops [5, 6, 10]) (.blk (.seq (.ops [6, 11, 12]) (.seq (.ops [6, 11, 38]) (.cond (.seq (.ops []) .leaf) .leaf))))))) (.seq (.join [6] (.seq (.ops [0, 6, 41]) (.cond (.ops [6]) .leaf))) (.seq (.ops [6]) .leaf))))))) (c := Tryd.f58.body.getD .skip) hent Tryd.func58 rfl (Nat.le_of_ble_eq_true (by kernel_rfl))
    (Eq.mp (show sh58 a0 a1 a2 w R = denF Tryd.prog ent true Tryd.f58 (.seq (.ops [0, 4, 5, 6]) (.seq (.seq (.ops [0, 4, 5, 6, 14]) (.cond (.seq (.ops [6]) .leaf) .leaf)) (.seq (.seq (.ops [0, 5, 6, 7, 8]) (.seq (.ops [0, 5, 6, 7, 22]) (.cond (.seq (.ops [6]) .leaf) .leaf))) (.seq (.seq (.ops [0, 5, 6, 28]) (.blk (.rng [5, 6, 10] (.ops [5, 6, 10]) (.blk (.seq (.ops [6, 11, 12]) (.seq (.ops [6, 11, 38]) (.cond (.seq (.ops []) .leaf) .leaf))))))) (.seq (.join [6] (.seq (.ops [0, 6, 41]) (.cond (.ops [6]) .leaf))) (.seq (.ops [6]) .leaf)))))) (Tryd.f58.body.getD .skip) [a0, a1, a2] w R by kernel_rfl) h)

/-! ### 59: (*handbill/xml.reader).reference -/
def sh59 (a0 : Value) (w : World) (R : Value → World → Prop) : Prop :=
 RunV Tryd.prog (Instr.buildSlice 41 5 #[(0, (.string ⟨#[108, 116, 59]⟩)), (1, (.string ⟨#[103, 116, 59]⟩)), (2, (.string ⟨#[97, 109, 112, 59]⟩)), (3, (.string ⟨#[113, 117, 111, 116, 59]⟩)), (4, (.string ⟨#[97, 112, 111, 115, 59]⟩))]) w fun t9_1 w =>
 RunV Tryd.prog (Instr.buildSlice 41 5 #[(0, (.string ⟨#[60]⟩)), (1, (.string ⟨#[62]⟩)), (2, (.string ⟨#[38]⟩)), (3, (.string ⟨#[34]⟩)), (4, (.string ⟨#[39]⟩))]) w fun t10_2 w =>
 drw (fun S_3 w =>
 RunA Tryd.prog (nilV a0) fun t12_4 =>
 RunA Tryd.prog (Instr.fieldAt 67 t12_4 0) fun t13_5 =>
 RunS Tryd.prog S_3 (Instr.loadAt 9 t13_5) fun t14_6 =>
 RunA Tryd.prog (nilV a0) fun t16_7 =>
 RunA Tryd.prog (Instr.fieldAt 67 t16_7 1) fun t17_8 =>
 RunS Tryd.prog S_3 (Instr.loadAt 3 t17_8) fun t18_9 =>
 RunA Tryd.prog (Instr.sliceAt 9 t14_6 (some t18_9) none none) fun t19_10 =>
 CallF Tryd.prog 38 #[t19_10, (.string ⟨#[35]⟩)] w fun t21_11 w =>
 IfB t21_11 (
 RunA Tryd.prog (nilV a0) fun t23_12 =>
 RunA Tryd.prog (Instr.fieldAt 67 t23_12 1) fun t24_13 =>
 RunW Tryd.prog (Instr.loadAt 3 t24_13) w fun t25_14 =>
 RunA Tryd.prog (bin .add 3 (.tmp 25) (.const (.int .i64 1)) t25_14 (.int .i64 1)) fun t26_15 =>
 RunA Tryd.prog (nilV a0) fun t27_16 =>
 RunA Tryd.prog (Instr.fieldAt 67 t27_16 1) fun t28_17 =>
 RunU Tryd.prog (Instr.storeAt 3 t28_17 t26_15) w fun w =>
 CallF Tryd.prog 71 #[a0] w fun t30_18 w =>
 R t30_18 w) (
 RunW Tryd.prog (Builtin.len_ #[41] 3 #[t9_1]) w fun t32_19 =>
 lp 2 (fun n_22 t6_20 t33_21 w =>
 RunA Tryd.prog (bin .lss 3 (.tmp 33) (.tmp 32) t33_21 t32_19) fun t34_23 =>
 IfB t34_23 (
 RunA Tryd.prog (Instr.indexAt 41 t9_1 t33_21) fun t36_24 =>
 RunW Tryd.prog (Instr.loadAt 9 t36_24) w fun t37_25 =>
 CallF Tryd.prog 38 #[t19_10, t37_25] w fun t40_26 w =>
 IfB t40_26 (
 RunA Tryd.prog (nilV a0) fun t42_27 =>
 RunA Tryd.prog (Instr.fieldAt 67 t42_27 1) fun t43_28 =>
 RunW Tryd.prog (Instr.loadAt 3 t43_28) w fun t44_29 =>
 RunW Tryd.prog (Builtin.len_ #[9] 3 #[t37_25]) w fun t46_30 =>
 RunA Tryd.prog (bin .add 3 (.tmp 44) (.tmp 46) t44_29 t46_30) fun t47_31 =>
 RunA Tryd.prog (nilV a0) fun t48_32 =>
 RunA Tryd.prog (Instr.fieldAt 67 t48_32 1) fun t49_33 =>
 RunU Tryd.prog (Instr.storeAt 3 t49_33 t47_31) w fun w =>
 RunA Tryd.prog (Instr.indexAt 41 t10_2 t33_21) fun t52_34 =>
 RunW Tryd.prog (Instr.loadAt 9 t52_34) w fun t53_35 =>
 R t53_35 w) (
 jn 7 (fun t0_36 t4_37 t5_38 t6_39 t31_40 t32_41 t33_42 w =>
 RunA Tryd.prog (bin .add 3 (.tmp 33) (.const (.int .i64 1)) t33_42 (.int .i64 1)) fun t60_44 =>
 (t0_36 : Value) = a0 ∧ ((t4_37 : Value) = t10_2 ∧ ((t5_38 : Value) = t19_10 ∧ ((t31_40 : Value) = t9_1 ∧ ((t32_41 : Value) = t32_19 ∧ (n_22 t6_39 t60_44 w)))))) fun j_43 =>
 IfB t6_20 (
 j_43 a0 t10_2 t19_10 (.bool true) t9_1 t32_19 t33_21 w) (
 CallF Tryd.prog 38 #[t37_25, t19_10] w fun t58_45 w =>
 j_43 a0 t10_2 t19_10 t58_45 t9_1 t32_19 t33_21 w))) (
 jn 1 (fun t0_46 w =>
 CallF Tryd.prog 26 #[t0_46, (.int .i64 4)] w fun t65_48 w =>
 R (.string ⟨#[]⟩) w) fun j_47 =>
 IfB t6_20 (
 CallF Tryd.prog 26 #[a0, (.int .i64 2)] w fun t63_49 w =>
 j_47 a0 w) (
 j_47 a0 w))) [(.bool false), (.int .i64 0)] w)) w
theorem sh59_calls {a0 : Value} {w : World} {R : Value → World → Prop} (h : sh59 a0 w R) : CallF Tryd.prog 59 #[a0] w R :=
  calls_of_denF (mk := false) (args := [a0]) (an := (.seq (.ops [0]) (.seq (.ops [0, 3]) (.seq (.ops [0, 3, 4]) (.seq (.draw (.q 0 (.q 1 (.q 2 (.q 3 (.q 4 (.q 5 (.q 6 (.q 7 (.q 8 (.q 9 .fin)))))))))) [0, 3, 4, 5]) (.seq (.seq (.ops [0, 3, 4, 5, 21]) (.cond (.seq (.ops [0]) (.seq (.ops [2]) .leaf)) .leaf)) (.seq (.ops [0, 3, 4, 5, 6]) (.seq (.seq (.ops [0, 4, 5, 6, 31, 32, 33]) (.blk (.loop [0, 4, 5, 31, 32] [6, 33] (.seq (.ops [0, 4, 5, 6, 31, 32, 33, 34]) (.seq (.cond .leaf .leaf) (.seq (.blk (.seq (.ops [0, 4, 5, 6, 7, 8, 31, 32, 33]) (.seq (.seq (.ops [0, 4, 5, 6, 7, 8, 31, 32, 33, 40]) (.cond (.seq (.ops [4, 7]) (.seq (.ops [2]) .leaf)) .leaf)) (.join [0, 4, 5, 6, 31, 32, 33] (.ops [0, 4, 5, 6, 31, 32, 33]))))) (.ops [0, 4, 5, 6, 31, 32, 33]))))))) (.seq (.join [0] (.seq (.ops [0, 61]) (.cond (.ops [0]) .leaf))) (.seq (.ops []) (.seq (.ops [2]) .leaf))))))))))) (c := Tryd.f59.body.getD .skip) hent Tryd.func59 rfl (Nat.le_of_ble_eq_true (by kernel_rfl))
    (Eq.mp (show sh59 a0 w R = denF Tryd.prog ent false Tryd.f59 (.seq (.ops [0]) (.seq (.ops [0, 3]) (.seq (.ops [0, 3, 4]) (.seq (.draw (.q 0 (.q 1 (.q 2 (.q 3 (.q 4 (.q 5 (.q 6 (.q 7 (.q 8 (.q 9 .fin)))))))))) [0, 3, 4, 5]) (.seq (.seq (.ops [0, 3, 4, 5, 21]) (.cond (.seq (.ops [0]) (.seq (.ops [2]) .leaf)) .leaf)) (.seq (.ops [0, 3, 4, 5, 6]) (.seq (.seq (.ops [0, 4, 5, 6, 31, 32, 33]) (.blk (.loop [0, 4, 5, 31, 32] [6, 33] (.seq (.ops [0, 4, 5, 6, 31, 32, 33, 34]) (.seq (.cond .leaf .leaf) (.seq (.blk (.seq (.ops [0, 4, 5, 6, 7, 8, 31, 32, 33]) (.seq (.seq (.ops [0, 4, 5, 6, 7, 8, 31, 32, 33, 40]) (.cond (.seq (.ops [4, 7]) (.seq (.ops [2]) .leaf)) .leaf)) (.join [0, 4, 5, 6, 31, 32, 33] (.ops [0, 4, 5, 6, 31, 32, 33]))))) (.ops [0, 4, 5, 6, 31, 32, 33]))))))) (.seq (.join [0] (.seq (.ops [0, 61]) (.cond (.ops [0]) .leaf))) (.seq (.ops []) (.seq (.ops [2]) .leaf)))))))))) (Tryd.f59.body.getD .skip) [a0] w R by kernel_rfl) h)

/-! ### 60: (*strings.Builder).Reset -/
def sh60 (a0 : Value) (w : World) (R : Value → World → Prop) : Prop :=
 RunA Tryd.prog (nilV a0) fun t3_1 =>
 RunA Tryd.prog (Instr.fieldAt 65 t3_1 0) fun t4_2 =>
 RunU Tryd.prog (Instr.storeAt 63 t4_2 (.pointer none)) w fun w =>
 RunA Tryd.prog (nilV a0) fun t6_3 =>
 RunA Tryd.prog (Instr.fieldAt 65 t6_3 1) fun t7_4 =>
 RunU Tryd.prog (Instr.storeAt 22 t7_4 (.slice none 0 0)) w fun w =>
 R (.tuple #[]) w
theorem sh60_calls {a0 : Value} {w : World} {R : Value → World → Prop} (h : sh60 a0 w R) : CallF Tryd.prog 60 #[a0] w R :=
  calls_of_denF (mk := false) (args := [a0]) (an := (.seq (.ops [0]) (.ops []))) (c := Tryd.f60.body.getD .skip) hent Tryd.func60 rfl (Nat.le_of_ble_eq_true (by kernel_rfl))
    (Eq.mp (show sh60 a0 w R = denF Tryd.prog ent false Tryd.f60 (.seq (.ops [0]) (.ops [])) (Tryd.f60.body.getD .skip) [a0] w R by kernel_rfl) h)

/-! ### 63: internal/stringslite.IndexByte -/
def sh63 (a0 a1 : Value) (w : World) (R : Value → World → Prop) : Prop :=
 RunO Tryd.prog (callFunc 72 #[a0, a1]) w fun t7_1 w =>
 R t7_1 w
theorem sh63_calls {a0 a1 : Value} {w : World} {R : Value → World → Prop} (h : sh63 a0 a1 w R) : CallF Tryd.prog 63 #[a0, a1] w R :=
  calls_of_denF (mk := false) (args := [a0, a1]) (an := (.seq (.ops [0, 1]) (.seq (.ops [4]) .leaf))) (c := Tryd.f63.body.getD .skip) hent Tryd.func63 rfl (Nat.le_of_ble_eq_true (by kernel_rfl))
    (Eq.mp (show sh63 a0 a1 w R = denF Tryd.prog ent false Tryd.f63 (.seq (.ops [0, 1]) (.seq (.ops [4]) .leaf)) (Tryd.f63.body.getD .skip) [a0, a1] w R by kernel_rfl) h)

/-! ### 65: handbill/xml.good -/
def sh65 (a0 : Value) (w : World) (R : Value → World → Prop) : Prop :=
 RunA Tryd.prog (bin .geq 21 (.tmp 3) (.const (.int .i32 32)) a0 (.int .i32 32)) fun t4_1 =>
 IfB t4_1 (
 R (.bool true) w) (
 RunW Tryd.prog (bin .eql 21 (.tmp 6) (.const (.int .i32 9)) a0 (.int .i32 9)) w fun t7_2 =>
 IfB t7_2 (
 R (.bool true) w) (
 RunW Tryd.prog (bin .eql 21 (.tmp 10) (.const (.int .i32 10)) a0 (.int .i32 10)) w fun t11_3 =>
 IfB t11_3 (
 R (.bool true) w) (
 RunW Tryd.prog (bin .eql 21 (.tmp 14) (.const (.int .i32 13)) a0 (.int .i32 13)) w fun t15_4 =>
 R t15_4 w)))
theorem sh65_calls {a0 : Value} {w : World} {R : Value → World → Prop} (h : sh65 a0 w R) : CallF Tryd.prog 65 #[a0] w R :=
  calls_of_denF (mk := false) (args := [a0]) (an := (.seq (.ops [0]) (.seq (.ops [2]) .leaf))) (c := Tryd.f65.body.getD .skip) hent Tryd.func65 rfl (Nat.le_of_ble_eq_true (by kernel_rfl))
    (Eq.mp (show sh65 a0 w R = denF Tryd.prog ent false Tryd.f65 (.seq (.ops [0]) (.seq (.ops [2]) .leaf)) (Tryd.f65.body.getD .skip) [a0] w R by kernel_rfl) h)

/-! ### 66: handbill/xml.goes -/
def sh66 (a0 : Value) (w : World) (R : Value → World → Prop) : Prop :=
 CallF Tryd.prog 27 #[a0] w fun t4_1 w =>
 IfB t4_1 (
 R (.bool true) w) (
 RunA Tryd.prog (bin .geq 5 (.tmp 6) (.const (.int .u8 48)) a0 (.int .u8 48)) fun t7_2 =>
 IfB t7_2 (
 RunA Tryd.prog (bin .leq 5 (.tmp 9) (.const (.int .u8 57)) a0 (.int .u8 57)) fun t10_3 =>
 IfB t10_3 (
 R (.bool true) w) (
 RunW Tryd.prog (bin .eql 5 (.tmp 14) (.const (.int .u8 45)) a0 (.int .u8 45)) w fun t15_4 =>
 IfB t15_4 (
 R (.bool true) w) (
 RunW Tryd.prog (bin .eql 5 (.tmp 18) (.const (.int .u8 46)) a0 (.int .u8 46)) w fun t19_5 =>
 R t19_5 w))) (
 RunW Tryd.prog (bin .eql 5 (.tmp 14) (.const (.int .u8 45)) a0 (.int .u8 45)) w fun t15_6 =>
 IfB t15_6 (
 R (.bool true) w) (
 RunW Tryd.prog (bin .eql 5 (.tmp 18) (.const (.int .u8 46)) a0 (.int .u8 46)) w fun t19_7 =>
 R t19_7 w)))
theorem sh66_calls {a0 : Value} {w : World} {R : Value → World → Prop} (h : sh66 a0 w R) : CallF Tryd.prog 66 #[a0] w R :=
  calls_of_denF (mk := false) (args := [a0]) (an := (.seq (.ops [0]) (.seq (.ops [2]) .leaf))) (c := Tryd.f66.body.getD .skip) hent Tryd.func66 rfl (Nat.le_of_ble_eq_true (by kernel_rfl))
    (Eq.mp (show sh66 a0 w R = denF Tryd.prog ent false Tryd.f66 (.seq (.ops [0]) (.seq (.ops [2]) .leaf)) (Tryd.f66.body.getD .skip) [a0] w R by kernel_rfl) h)

/-! ### 67: slices.ContainsFunc[[]handbill/xml.pair,handbill/xml.pair] -/
def sh67 (a0 a1 : Value) (w : World) (R : Value → World → Prop) : Prop :=
 CallF Tryd.prog 74 #[a0, a1] w fun t7_1 w =>
 RunA Tryd.prog (bin .geq 3 (.tmp 7) (.const (.int .i64 0)) t7_1 (.int .i64 0)) fun t8_2 =>
 R t8_2 w
theorem sh67_calls {a0 a1 : Value} {w : World} {R : Value → World → Prop} (h : sh67 a0 a1 w R) : CallF Tryd.prog 67 #[a0, a1] w R :=
  calls_of_denF (mk := false) (args := [a0, a1]) (an := (.seq (.ops [0, 1]) (.seq (.ops [4]) .leaf))) (c := Tryd.f67.body.getD .skip) hent Tryd.func67 rfl (Nat.le_of_ble_eq_true (by kernel_rfl))
    (Eq.mp (show sh67 a0 a1 w R = denF Tryd.prog ent false Tryd.f67 (.seq (.ops [0, 1]) (.seq (.ops [4]) .leaf)) (Tryd.f67.body.getD .skip) [a0, a1] w R by kernel_rfl) h)

/-! ### 68: (*handbill/xml.reader).attr$1 -/
def sh68 (a0 a1 : Value) (w : World) (R : Value → World → Prop) : Prop :=
 RunV Tryd.prog (Instr.box 95 a0) w fun t2_1 w =>
 RunA Tryd.prog (Instr.fieldAt 95 t2_1 0) fun t4_2 =>
 RunW Tryd.prog (Instr.loadAt 82 t4_2) w fun t5_3 =>
 RunA Tryd.prog (Instr.fieldAt 95 a1 0) fun t6_4 =>
 RunW Tryd.prog (Instr.loadAt 82 t6_4) w fun t7_5 =>
 RunW Tryd.prog (bin .eql 82 (.tmp 5) (.tmp 7) t5_3 t7_5) w fun t8_6 =>
 R t8_6 w
theorem sh68_calls {a0 a1 : Value} {w : World} {R : Value → World → Prop} (h : sh68 a0 a1 w R) : CallF Tryd.prog 68 #[a0, a1] w R :=
  calls_of_denF (mk := false) (args := [a0, a1]) (an := (.seq (.ops [1, 2]) (.seq (.ops [3]) .leaf))) (c := Tryd.f68.body.getD .skip) hent Tryd.func68 rfl (Nat.le_of_ble_eq_true (by kernel_rfl))
    (Eq.mp (show sh68 a0 a1 w R = denF Tryd.prog ent false Tryd.f68 (.seq (.ops [1, 2]) (.seq (.ops [3]) .leaf)) (Tryd.f68.body.getD .skip) [a0, a1] w R by kernel_rfl) h)

/-! ### 69: (*handbill/xml.reader).value -/
def sh69 (a0 : Value) (w : World) (R : Value → World → Prop) : Prop :=
 CallF Tryd.prog 25 #[a0, (.int .i64 0)] w fun t7_1 w =>
 jn 2 (fun t0_2 t3_3 w =>
 RunA Tryd.prog (nilV t0_2) fun t24_5 =>
 RunA Tryd.prog (Instr.fieldAt 67 t24_5 1) fun t25_6 =>
 RunW Tryd.prog (Instr.loadAt 3 t25_6) w fun t26_7 =>
 RunA Tryd.prog (bin .add 3 (.tmp 26) (.const (.int .i64 1)) t26_7 (.int .i64 1)) fun t27_8 =>
 RunA Tryd.prog (nilV t0_2) fun t28_9 =>
 RunA Tryd.prog (Instr.fieldAt 67 t28_9 1) fun t29_10 =>
 RunU Tryd.prog (Instr.storeAt 3 t29_10 t27_8) w fun w =>
 RunV Tryd.prog (Instr.alloc 65 true (.tuple #[])) w fun t4_11 w =>
 lp 0 (fun n_12 w =>
 RunA Tryd.prog (nilV t0_2) fun t31_13 =>
 RunA Tryd.prog (Instr.fieldAt 67 t31_13 2) fun t32_14 =>
 RunW Tryd.prog (Instr.loadAt 25 t32_14) w fun t33_15 =>
 RunW Tryd.prog (bin .eql 25 (.tmp 33) (.const (.int .i64 0)) t33_15 (.int .i64 0)) w fun t34_16 =>
 IfB t34_16 (
 CallF Tryd.prog 25 #[t0_2, (.int .i64 0)] w fun t36_17 w =>
 jn 3 (fun t0_18 t3_19 t4_20 w =>
 (t0_18 : Value) = t0_2 ∧ ((t3_19 : Value) = t3_3 ∧ ((t4_20 : Value) = t4_11 ∧ (n_12 w)))) fun j_21 =>
 RunA Tryd.prog (nilV t0_2) fun t42_22 =>
 RunA Tryd.prog (Instr.fieldAt 67 t42_22 2) fun t43_23 =>
 RunW Tryd.prog (Instr.loadAt 25 t43_23) w fun t44_24 =>
 RunW Tryd.prog (bin .neq 25 (.tmp 44) (.const (.int .i64 0)) t44_24 (.int .i64 0)) w fun t45_25 =>
 IfB t45_25 (
 j_21 t0_2 t3_3 t4_11 w) (
 RunW Tryd.prog (bin .eql 5 (.tmp 47) (.tmp 48) t36_17 t3_3) w fun t49_26 =>
 IfB t49_26 (
 RunA Tryd.prog (nilV t0_2) fun t51_27 =>
 RunA Tryd.prog (Instr.fieldAt 67 t51_27 1) fun t52_28 =>
 RunW Tryd.prog (Instr.loadAt 3 t52_28) w fun t53_29 =>
 RunA Tryd.prog (bin .add 3 (.tmp 53) (.const (.int .i64 1)) t53_29 (.int .i64 1)) fun t54_30 =>
 RunA Tryd.prog (nilV t0_2) fun t55_31 =>
 RunA Tryd.prog (Instr.fieldAt 67 t55_31 1) fun t56_32 =>
 RunU Tryd.prog (Instr.storeAt 3 t56_32 t54_30) w fun w =>
 jn 1 (fun t4_33 w =>
 CallF Tryd.prog 34 #[t4_33] w fun t61_35 w =>
 R t61_35 w) fun j_34 =>
 CallF Tryd.prog 75 #[t4_11] w fun t57_36 w =>
 RunA Tryd.prog (bin .gtr 3 (.tmp 57) (.const (.int .i64 8000)) t57_36 (.int .i64 8000)) fun t58_37 =>
 IfB t58_37 (
 CallF Tryd.prog 26 #[t0_2, (.int .i64 3)] w fun t60_38 w =>
 j_34 t4_11 w) (
 j_34 t4_11 w)) (
 jn 3 (fun t0_39 t3_40 t4_41 w =>
 j_21 t0_39 t3_40 t4_41 w) fun j_42 =>
 RunW Tryd.prog (bin .eql 5 (.tmp 63) (.const (.int .u8 60)) t36_17 (.int .u8 60)) w fun t64_43 =>
 IfB t64_43 (
 CallF Tryd.prog 26 #[t0_2, (.int .i64 4)] w fun t66_44 w =>
 j_42 t0_2 t3_3 t4_11 w) (
 CallF Tryd.prog 46 #[t0_2] w fun t38_45 w =>
 CallF Tryd.prog 33 #[t4_11, t38_45] w fun t39_46 w =>
 j_42 t0_2 t3_3 t4_11 w)))) (
 R (.string ⟨#[]⟩) w)) [] w) fun j_4 =>
 RunA Tryd.prog (nilV a0) fun t9_47 =>
 RunA Tryd.prog (Instr.fieldAt 67 t9_47 2) fun t10_48 =>
 RunW Tryd.prog (Instr.loadAt 25 t10_48) w fun t11_49 =>
 RunW Tryd.prog (bin .eql 25 (.tmp 11) (.const (.int .i64 0)) t11_49 (.int .i64 0)) w fun t12_50 =>
 IfB t12_50 (
 RunW Tryd.prog (bin .neq 5 (.tmp 14) (.const (.int .u8 34)) t7_1 (.int .u8 34)) w fun t15_51 =>
 IfB t15_51 (
 RunW Tryd.prog (bin .neq 5 (.tmp 18) (.const (.int .u8 39)) t7_1 (.int .u8 39)) w fun t19_52 =>
 IfB t19_52 (
 CallF Tryd.prog 26 #[a0, (.int .i64 4)] w fun t22_53 w =>
 j_4 a0 t7_1 w) (
 j_4 a0 t7_1 w)) (
 j_4 a0 t7_1 w)) (
 j_4 a0 t7_1 w)
theorem sh69_calls {a0 : Value} {w : World} {R : Value → World → Prop} (h : sh69 a0 w R) : CallF Tryd.prog 69 #[a0] w R :=
  calls_of_denF (mk := false) (args := [a0]) (an := (.seq (.ops [0]) (.seq (.ops [0, 3]) (.seq (.join [0, 3] (.seq (.ops [0, 3, 20]) (.cond (.ops [0, 3]) .leaf))) (.seq (.ops [0, 3]) (.seq (.ops [0, 3, 4]) (.seq (.blk (.loop [0, 3, 4] [] (.seq (.seq (.ops [0, 3, 4, 34]) (.cond .leaf .leaf)) (.blk (.seq (.ops [0, 3, 4, 5]) (.blk (.join [0, 3, 4] (.seq (.ops [0, 3, 4, 5, 40]) (.cond .leaf (.seq (.ops [0, 3, 4, 5, 46]) (.cond (.seq (.ops [0, 4]) (.seq (.join [4] (.seq (.ops [0, 4, 58]) (.cond (.ops [4]) .leaf))) (.seq (.ops [2]) .leaf))) (.join [0, 3, 4] (.seq (.ops [0, 3, 4, 62]) (.cond (.ops [0, 3, 4]) (.ops [0, 3, 4]))))))))))))))) (.seq (.ops [2]) .leaf)))))))) (c := Tryd.f69.body.getD .skip) hent Tryd.func69 rfl (Nat.le_of_ble_eq_true (by kernel_rfl))
    (Eq.mp (show sh69 a0 w R = denF Tryd.prog ent false Tryd.f69 (.seq (.ops [0]) (.seq (.ops [0, 3]) (.seq (.join [0, 3] (.seq (.ops [0, 3, 20]) (.cond (.ops [0, 3]) .leaf))) (.seq (.ops [0, 3]) (.seq (.ops [0, 3, 4]) (.seq (.blk (.loop [0, 3, 4] [] (.seq (.seq (.ops [0, 3, 4, 34]) (.cond .leaf .leaf)) (.blk (.seq (.ops [0, 3, 4, 5]) (.blk (.join [0, 3, 4] (.seq (.ops [0, 3, 4, 5, 40]) (.cond .leaf (.seq (.ops [0, 3, 4, 5, 46]) (.cond (.seq (.ops [0, 4]) (.seq (.join [4] (.seq (.ops [0, 4, 58]) (.cond (.ops [4]) .leaf))) (.seq (.ops [2]) .leaf))) (.join [0, 3, 4] (.seq (.ops [0, 3, 4, 62]) (.cond (.ops [0, 3, 4]) (.ops [0, 3, 4]))))))))))))))) (.seq (.ops [2]) .leaf))))))) (Tryd.f69.body.getD .skip) [a0] w R by kernel_rfl) h)

/-! ### 70: slices.Backward[[]handbill/xml.frame,handbill/xml.frame] -/
def sh70 (a0 : Value) (w : World) (R : Value → World → Prop) : Prop :=
 RunV Tryd.prog (Instr.box 62 a0) w fun t1_1 w =>
 RunV Tryd.prog (Instr.makeFunc (Go.Fn.func 76) #[] #[t1_1]) w fun t3_2 w =>
 R t3_2 w
theorem sh70_calls {a0 : Value} {w : World} {R : Value → World → Prop} (h : sh70 a0 w R) : CallF Tryd.prog 70 #[a0] w R :=
  calls_of_denF (mk := false) (args := [a0]) (an := (.seq (.ops [1]) (.seq (.ops [2]) .leaf))) (c := Tryd.f70.body.getD .skip) hent Tryd.func70 rfl (Nat.le_of_ble_eq_true (by kernel_rfl))
    (Eq.mp (show sh70 a0 w R = denF Tryd.prog ent false Tryd.f70 (.seq (.ops [1]) (.seq (.ops [2]) .leaf)) (Tryd.f70.body.getD .skip) [a0] w R by kernel_rfl) h)

/-! ### 71: (*handbill/xml.reader).number -/
def sh71 (a0 : Value) (w : World) (R : Value → World → Prop) : Prop :=
 jn 3 (fun t0_1 t3_2 t4_3 w =>
 CallF Tryd.prog 77 #[t0_1, t3_2, t4_3] w fun t21_5 w =>
 CallF Tryd.prog 78 #[t21_5] w fun t24_6 w =>
 RunA Tryd.prog (Instr.extract t24_6 0) fun t25_7 =>
 RunA Tryd.prog (Instr.extract t24_6 1) fun t26_8 =>
 jn 1 (fun t6_9 w =>
 R t6_9 w) fun j_10 =>
 RunA Tryd.prog (Op.unary .not t26_8) fun t28_11 =>
 IfB t28_11 (
 CallF Tryd.prog 26 #[t0_1, (.int .i64 4)] w fun t36_12 w =>
 j_10 t25_7 w) (
 RunV Tryd.prog (convert 3 21 t21_5) w fun t31_13 w =>
 CallF Tryd.prog 65 #[t31_13] w fun t32_14 w =>
 RunA Tryd.prog (Op.unary .not t32_14) fun t33_15 =>
 IfB t33_15 (
 CallF Tryd.prog 26 #[t0_1, (.int .i64 4)] w fun t36_16 w =>
 j_10 t25_7 w) (
 j_10 t25_7 w))) fun j_4 =>
 CallF Tryd.prog 25 #[a0, (.int .i64 0)] w fun t9_17 w =>
 RunW Tryd.prog (bin .eql 5 (.tmp 9) (.const (.int .u8 120)) t9_17 (.int .u8 120)) w fun t10_18 =>
 IfB t10_18 (
 RunA Tryd.prog (nilV a0) fun t12_19 =>
 RunA Tryd.prog (Instr.fieldAt 67 t12_19 1) fun t13_20 =>
 RunW Tryd.prog (Instr.loadAt 3 t13_20) w fun t14_21 =>
 RunA Tryd.prog (bin .add 3 (.tmp 14) (.const (.int .i64 1)) t14_21 (.int .i64 1)) fun t15_22 =>
 RunA Tryd.prog (nilV a0) fun t16_23 =>
 RunA Tryd.prog (Instr.fieldAt 67 t16_23 1) fun t17_24 =>
 RunU Tryd.prog (Instr.storeAt 3 t17_24 t15_22) w fun w =>
 j_4 a0 (.int .i64 16) (.int .i64 6) w) (
 j_4 a0 (.int .i64 10) (.int .i64 7) w)
theorem sh71_calls {a0 : Value} {w : World} {R : Value → World → Prop} (h : sh71 a0 w R) : CallF Tryd.prog 71 #[a0] w R :=
  calls_of_denF (mk := false) (args := [a0]) (an := (.seq (.ops [0]) (.seq (.ops [0, 3, 4]) (.seq (.join [0, 3, 4] (.seq (.ops [0, 3, 4, 10]) (.cond (.seq (.ops [0, 3, 4]) (.ops [0, 3, 4])) .leaf))) (.seq (.ops [0, 5]) (.seq (.ops [0, 5, 6, 7]) (.seq (.join [6] (.seq (.ops [0, 6, 34]) (.cond (.ops [6]) .leaf))) (.seq (.ops [2]) .leaf)))))))) (c := Tryd.f71.body.getD .skip) hent Tryd.func71 rfl (Nat.le_of_ble_eq_true (by kernel_rfl))
    (Eq.mp (show sh71 a0 w R = denF Tryd.prog ent false Tryd.f71 (.seq (.ops [0]) (.seq (.ops [0, 3, 4]) (.seq (.join [0, 3, 4] (.seq (.ops [0, 3, 4, 10]) (.cond (.seq (.ops [0, 3, 4]) (.ops [0, 3, 4])) .leaf))) (.seq (.ops [0, 5]) (.seq (.ops [0, 5, 6, 7]) (.seq (.join [6] (.seq (.ops [0, 6, 34]) (.cond (.ops [6]) .leaf))) (.seq (.ops [2]) .leaf))))))) (Tryd.f71.body.getD .skip) [a0] w R by kernel_rfl) h)

/-! ### 74: slices.IndexFunc[[]handbill/xml.pair,handbill/xml.pair] -/
def sh74 (a0 a1 : Value) (w : World) (R : Value → World → Prop) : Prop :=
 RunW Tryd.prog (Builtin.len_ #[84] 3 #[a0]) w fun t7_1 =>
 lp 1 (fun n_3 t8_2 w =>
 RunA Tryd.prog (bin .lss 3 (.tmp 8) (.tmp 7) t8_2 t7_1) fun t9_4 =>
 IfB t9_4 (
 RunA Tryd.prog (Instr.indexAt 84 a0 t8_2) fun t14_5 =>
 RunW Tryd.prog (Instr.loadAt 95 t14_5) w fun t15_6 =>
 CallV Tryd.prog a1 #[t15_6] w fun t16_7 w =>
 IfB t16_7 (
 R t8_2 w) (
 RunA Tryd.prog (bin .add 3 (.tmp 8) (.const (.int .i64 1)) t8_2 (.int .i64 1)) fun t18_8 =>
 (a0 : Value) = a0 ∧ ((a1 : Value) = a1 ∧ ((t7_1 : Value) = t7_1 ∧ (n_3 t18_8 w))))) (
 R (.int .i64 (-1)) w)) [(.int .i64 0)] w
theorem sh74_calls {a0 a1 : Value} {w : World} {R : Value → World → Prop} (h : sh74 a0 a1 w R) : CallF Tryd.prog 74 #[a0, a1] w R :=
  calls_of_denF (mk := false) (args := [a0, a1]) (an := (.seq (.ops [0, 1]) (.seq (.seq (.ops [0, 1, 7, 8]) (.blk (.loop [0, 1, 7] [8] (.seq (.ops [0, 1, 7, 8, 9]) (.seq (.cond .leaf .leaf) (.seq (.blk (.seq (.ops [0, 1, 5, 7, 8]) (.seq (.ops [0, 1, 5, 7, 8, 16]) (.cond (.seq (.ops [4]) .leaf) .leaf)))) (.ops [0, 1, 7, 8]))))))) (.seq (.ops [4]) .leaf)))) (c := Tryd.f74.body.getD .skip) hent Tryd.func74 rfl (Nat.le_of_ble_eq_true (by kernel_rfl))
    (Eq.mp (show sh74 a0 a1 w R = denF Tryd.prog ent false Tryd.f74 (.seq (.ops [0, 1]) (.seq (.seq (.ops [0, 1, 7, 8]) (.blk (.loop [0, 1, 7] [8] (.seq (.ops [0, 1, 7, 8, 9]) (.seq (.cond .leaf .leaf) (.seq (.blk (.seq (.ops [0, 1, 5, 7, 8]) (.seq (.ops [0, 1, 5, 7, 8, 16]) (.cond (.seq (.ops [4]) .leaf) .leaf)))) (.ops [0, 1, 7, 8]))))))) (.seq (.ops [4]) .leaf))) (Tryd.f74.body.getD .skip) [a0, a1] w R by kernel_rfl) h)

/-! ### 75: (*strings.Builder).Len -/
def sh75 (a0 : Value) (w : World) (R : Value → World → Prop) : Prop :=
 RunA Tryd.prog (nilV a0) fun t4_1 =>
 RunA Tryd.prog (Instr.fieldAt 65 t4_1 1) fun t5_2 =>
 RunW Tryd.prog (Instr.loadAt 22 t5_2) w fun t6_3 =>
 RunW Tryd.prog (Builtin.len_ #[22] 3 #[t6_3]) w fun t7_4 =>
 R t7_4 w
theorem sh75_calls {a0 : Value} {w : World} {R : Value → World → Prop} (h : sh75 a0 w R) : CallF Tryd.prog 75 #[a0] w R :=
  calls_of_denF (mk := false) (args := [a0]) (an := (.seq (.ops [0]) (.seq (.ops [2]) .leaf))) (c := Tryd.f75.body.getD .skip) hent Tryd.func75 rfl (Nat.le_of_ble_eq_true (by kernel_rfl))
    (Eq.mp (show sh75 a0 w R = denF Tryd.prog ent false Tryd.f75 (.seq (.ops [0]) (.seq (.ops [2]) .leaf)) (Tryd.f75.body.getD .skip) [a0] w R by kernel_rfl) h)

/-! ### 76: slices.Backward[[]handbill/xml.frame,handbill/xml.frame]$1 -/
def sh76 (a0 a1 : Value) (w : World) (R : Value → World → Prop) : Prop :=
 RunW Tryd.prog (Instr.loadAt 62 a1) w fun t4_1 =>
 RunW Tryd.prog (Builtin.len_ #[62] 3 #[t4_1]) w fun t5_2 =>
 RunA Tryd.prog (bin .sub 3 (.tmp 5) (.const (.int .i64 1)) t5_2 (.int .i64 1)) fun t6_3 =>
 lp 1 (fun n_5 t3_4 w =>
 RunA Tryd.prog (bin .geq 3 (.tmp 7) (.const (.int .i64 0)) t3_4 (.int .i64 0)) fun t8_6 =>
 IfB t8_6 (
 RunW Tryd.prog (Instr.loadAt 62 a1) w fun t13_7 =>
 RunA Tryd.prog (Instr.indexAt 62 t13_7 t3_4) fun t15_8 =>
 RunW Tryd.prog (Instr.loadAt 88 t15_8) w fun t16_9 =>
 CallV Tryd.prog a0 #[t3_4, t16_9] w fun t17_10 w =>
 RunA Tryd.prog (Op.unary .not t17_10) fun t18_11 =>
 IfB t18_11 (
 R (.tuple #[]) w) (
 RunA Tryd.prog (bin .sub 3 (.tmp 9) (.const (.int .i64 1)) t3_4 (.int .i64 1)) fun t10_12 =>
 (a0 : Value) = a0 ∧ ((a1 : Value) = a1 ∧ (n_5 t10_12 w)))) (
 R (.tuple #[]) w)) [t6_3] w
theorem sh76_calls {a0 a1 : Value} {w : World} {R : Value → World → Prop} (h : sh76 a0 a1 w R) : CallF Tryd.prog 76 #[a0, a1] w R :=
  calls_of_denF (mk := false) (args := [a0, a1]) (an := (.seq (.ops [0, 1, 3]) (.blk (.loop [0, 1] [3] (.seq (.seq (.ops [0, 1, 3, 8]) (.cond .leaf .leaf)) (.seq (.blk (.seq (.ops [0, 1, 3, 18]) (.cond .leaf .leaf))) (.ops [0, 1, 3]))))))) (c := Tryd.f76.body.getD .skip) hent Tryd.func76 rfl (Nat.le_of_ble_eq_true (by kernel_rfl))
    (Eq.mp (show sh76 a0 a1 w R = denF Tryd.prog ent false Tryd.f76 (.seq (.ops [0, 1, 3]) (.blk (.loop [0, 1] [3] (.seq (.seq (.ops [0, 1, 3, 8]) (.cond .leaf .leaf)) (.seq (.blk (.seq (.ops [0, 1, 3, 18]) (.cond .leaf .leaf))) (.ops [0, 1, 3])))))) (Tryd.f76.body.getD .skip) [a0, a1] w R by kernel_rfl) h)

/-! ### 77: (*handbill/xml.reader).digits -/
def sh77 (a0 a1 a2 : Value) (w : World) (R : Value → World → Prop) : Prop :=
 RunA Tryd.prog (nilV a0) fun t13_1 =>
 RunA Tryd.prog (Instr.fieldAt 67 t13_1 1) fun t14_2 =>
 RunW Tryd.prog (Instr.loadAt 3 t14_2) w fun t15_3 =>
 jn 3 (fun t0_4 t1_5 t7_6 w =>
 drw (fun S_8 w =>
 RunA Tryd.prog (nilV t0_4) fun t73_9 =>
 RunA Tryd.prog (Instr.fieldAt 67 t73_9 0) fun t74_10 =>
 RunS Tryd.prog S_8 (Instr.loadAt 9 t74_10) fun t75_11 =>
 RunA Tryd.prog (nilV t0_4) fun t78_12 =>
 RunA Tryd.prog (Instr.fieldAt 67 t78_12 1) fun t79_13 =>
 RunS Tryd.prog S_8 (Instr.loadAt 3 t79_13) fun t80_14 =>
 RunA Tryd.prog (Instr.sliceAt 9 t75_11 (some t7_6) (some t80_14) none) fun t81_15 =>
 CallF Tryd.prog 79 #[t81_15, t1_5, (.int .i64 64)] w fun t83_16 w =>
 RunA Tryd.prog (Instr.extract t83_16 0) fun t84_17 =>
 RunA Tryd.prog (Instr.extract t83_16 1) fun t85_18 =>
 jn 2 (fun t0_19 t10_20 w =>
 RunA Tryd.prog (nilV t0_19) fun t91_22 =>
 RunA Tryd.prog (Instr.fieldAt 67 t91_22 1) fun t92_23 =>
 RunW Tryd.prog (Instr.loadAt 3 t92_23) w fun t93_24 =>
 RunA Tryd.prog (bin .add 3 (.tmp 93) (.const (.int .i64 1)) t93_24 (.int .i64 1)) fun t94_25 =>
 RunA Tryd.prog (nilV t0_19) fun t95_26 =>
 RunA Tryd.prog (Instr.fieldAt 67 t95_26 1) fun t96_27 =>
 RunU Tryd.prog (Instr.storeAt 3 t96_27 t94_25) w fun w =>
 RunV Tryd.prog (convert 122 3 t10_20) w fun t98_28 w =>
 R t98_28 w) fun j_21 =>
 RunW Tryd.prog (bin .neq 73 (.tmp 86) (.const (.nilIface)) t85_18 (.nilIface)) w fun t87_29 =>
 IfB t87_29 (
 CallF Tryd.prog 26 #[t0_4, (.int .i64 4)] w fun t89_30 w =>
 j_21 t0_4 t84_17 w) (
 j_21 t0_4 t84_17 w)) w) fun j_7 =>
 lp 0 (fun n_31 w =>
 RunA Tryd.prog (nilV a0) fun t17_32 =>
 RunA Tryd.prog (Instr.fieldAt 67 t17_32 2) fun t18_33 =>
 RunW Tryd.prog (Instr.loadAt 25 t18_33) w fun t19_34 =>
 RunW Tryd.prog (bin .eql 25 (.tmp 19) (.const (.int .i64 0)) t19_34 (.int .i64 0)) w fun t20_35 =>
 IfB t20_35 (
 CallF Tryd.prog 25 #[a0, (.int .i64 0)] w fun t23_36 w =>
 RunW Tryd.prog (bin .neq 5 (.tmp 23) (.const (.int .u8 59)) t23_36 (.int .u8 59)) w fun t24_37 =>
 IfB t24_37 (
 RunA Tryd.prog (nilV a0) fun t27_38 =>
 RunA Tryd.prog (Instr.fieldAt 67 t27_38 2) fun t28_39 =>
 RunW Tryd.prog (Instr.loadAt 25 t28_39) w fun t29_40 =>
 RunW Tryd.prog (bin .neq 25 (.tmp 29) (.const (.int .i64 0)) t29_40 (.int .i64 0)) w fun t30_41 =>
 IfB t30_41 (
 j_7 a0 a1 t15_3 w) (
 drw (fun S_42 w =>
 RunA Tryd.prog (nilV a0) fun t33_43 =>
 RunA Tryd.prog (Instr.fieldAt 67 t33_43 0) fun t34_44 =>
 RunS Tryd.prog S_42 (Instr.loadAt 9 t34_44) fun t35_45 =>
 RunA Tryd.prog (nilV a0) fun t37_46 =>
 RunA Tryd.prog (Instr.fieldAt 67 t37_46 1) fun t38_47 =>
 RunS Tryd.prog S_42 (Instr.loadAt 3 t38_47) fun t39_48 =>
 RunA Tryd.prog (nilV a0) fun t41_49 =>
 RunA Tryd.prog (Instr.fieldAt 67 t41_49 1) fun t42_50 =>
 RunS Tryd.prog S_42 (Instr.loadAt 3 t42_50) fun t43_51 =>
 RunA Tryd.prog (bin .add 3 (.tmp 43) (.const (.int .i64 1)) t43_51 (.int .i64 1)) fun t44_52 =>
 RunA Tryd.prog (Instr.sliceAt 9 t35_45 (some t39_48) (some t44_52) none) fun t45_53 =>
 CallF Tryd.prog 79 #[t45_53, a1, (.int .i64 8)] w fun t47_54 w =>
 RunA Tryd.prog (Instr.extract t47_54 0) fun t48_55 =>
 RunA Tryd.prog (Instr.extract t47_54 1) fun t49_56 =>
 RunW Tryd.prog (bin .neq 73 (.tmp 50) (.const (.nilIface)) t49_56 (.nilIface)) w fun t51_57 =>
 IfB t51_57 (
 CallF Tryd.prog 26 #[a0, (.int .i64 4)] w fun t63_58 w =>
 j_7 a0 a1 t15_3 w) (
 RunA Tryd.prog (nilV a0) fun t54_59 =>
 RunA Tryd.prog (Instr.fieldAt 67 t54_59 1) fun t55_60 =>
 RunW Tryd.prog (Instr.loadAt 3 t55_60) w fun t56_61 =>
 RunA Tryd.prog (bin .sub 3 (.tmp 56) (.tmp 57) t56_61 t15_3) fun t58_62 =>
 RunA Tryd.prog (bin .geq 3 (.tmp 58) (.tmp 59) t58_62 a2) fun t60_63 =>
 IfB t60_63 (
 CallF Tryd.prog 26 #[a0, (.int .i64 4)] w fun t63_64 w =>
 j_7 a0 a1 t15_3 w) (
 RunA Tryd.prog (nilV a0) fun t65_65 =>
 RunA Tryd.prog (Instr.fieldAt 67 t65_65 1) fun t66_66 =>
 RunW Tryd.prog (Instr.loadAt 3 t66_66) w fun t67_67 =>
 RunA Tryd.prog (bin .add 3 (.tmp 67) (.const (.int .i64 1)) t67_67 (.int .i64 1)) fun t68_68 =>
 RunA Tryd.prog (nilV a0) fun t69_69 =>
 RunA Tryd.prog (Instr.fieldAt 67 t69_69 1) fun t70_70 =>
 RunU Tryd.prog (Instr.storeAt 3 t70_70 t68_68) w fun w =>
 (a0 : Value) = a0 ∧ ((a1 : Value) = a1 ∧ ((a2 : Value) = a2 ∧ ((t15_3 : Value) = t15_3 ∧ (n_31 w))))))) w)) (
 j_7 a0 a1 t15_3 w)) (
 j_7 a0 a1 t15_3 w)) [] w
theorem sh77_calls {a0 a1 a2 : Value} {w : World} {R : Value → World → Prop} (h : sh77 a0 a1 a2 w R) : CallF Tryd.prog 77 #[a0, a1, a2] w R :=
  calls_of_denF (mk := false) (args := [a0, a1, a2]) (an := (.seq (.ops [0, 1, 2]) (.seq (.ops [0, 1, 2, 7]) (.seq (.join [0, 1, 7] (.blk (.loop [0, 1, 2, 7] [] (.seq (.seq (.ops [0, 1, 2, 7, 25]) (.cond .leaf .leaf)) (.blk (.seq (.seq (.ops [0, 1, 2, 7, 30]) (.cond .leaf .leaf)) (.seq (.seq (.draw (.q 0 (.q 1 (.q 2 (.q 3 (.q 4 (.q 5 (.q 6 (.q 7 (.q 8 (.q 9 (.q 10 (.q 11 (.q 12 (.q 13 (.q 14 (.one 15 (.q 16 (.q 17 (.q 18 (.q 19 (.q 20 .fin))))))))))))))))))))) [0, 1, 2, 7, 9]) (.seq (.ops [0, 1, 2, 7, 61]) (.cond (.seq (.ops [0, 1, 7]) .leaf) .leaf))) (.ops [0, 1, 2, 7])))))))) (.seq (.draw (.q 0 (.q 1 (.q 2 (.q 3 (.q 4 (.q 5 (.q 6 (.q 7 (.q 8 (.q 9 (.q 10 (.one 11 (.q 12 (.q 13 (.q 14 (.q 15 (.q 16 .fin))))))))))))))))) [0, 10, 11]) (.seq (.join [0, 10] (.seq (.ops [0, 10, 87]) (.cond (.ops [0, 10]) .leaf))) (.seq (.ops [10]) (.seq (.ops [6]) .leaf)))))))) (c := Tryd.f77.body.getD .skip) hent Tryd.func77 rfl (Nat.le_of_ble_eq_true (by kernel_rfl))
    (Eq.mp (show sh77 a0 a1 a2 w R = denF Tryd.prog ent false Tryd.f77 (.seq (.ops [0, 1, 2]) (.seq (.ops [0, 1, 2, 7]) (.seq (.join [0, 1, 7] (.blk (.loop [0, 1, 2, 7] [] (.seq (.seq (.ops [0, 1, 2, 7, 25]) (.cond .leaf .leaf)) (.blk (.seq (.seq (.ops [0, 1, 2, 7, 30]) (.cond .leaf .leaf)) (.seq (.seq (.draw (.q 0 (.q 1 (.q 2 (.q 3 (.q 4 (.q 5 (.q 6 (.q 7 (.q 8 (.q 9 (.q 10 (.q 11 (.q 12 (.q 13 (.q 14 (.one 15 (.q 16 (.q 17 (.q 18 (.q 19 (.q 20 .fin))))))))))))))))))))) [0, 1, 2, 7, 9]) (.seq (.ops [0, 1, 2, 7, 61]) (.cond (.seq (.ops [0, 1, 7]) .leaf) .leaf))) (.ops [0, 1, 2, 7])))))))) (.seq (.draw (.q 0 (.q 1 (.q 2 (.q 3 (.q 4 (.q 5 (.q 6 (.q 7 (.q 8 (.q 9 (.q 10 (.one 11 (.q 12 (.q 13 (.q 14 (.q 15 (.q 16 .fin))))))))))))))))) [0, 10, 11]) (.seq (.join [0, 10] (.seq (.ops [0, 10, 87]) (.cond (.ops [0, 10]) .leaf))) (.seq (.ops [10]) (.seq (.ops [6]) .leaf))))))) (Tryd.f77.body.getD .skip) [a0, a1, a2] w R by kernel_rfl) h)

/-! ### 78: handbill/text.Sign -/
def sh78 (a0 : Value) (w : World) (R : Value → World → Prop) : Prop :=
 RunA Tryd.prog (bin .lss 3 (.tmp 4) (.const (.int .i64 0)) a0 (.int .i64 0)) fun t5_1 =>
 IfB t5_1 (
 R (.tuple #[(.string ⟨#[]⟩), (.bool false)]) w) (
 RunA Tryd.prog (bin .gtr 3 (.tmp 7) (.const (.int .i64 1114111)) a0 (.int .i64 1114111)) fun t8_2 =>
 IfB t8_2 (
 R (.tuple #[(.string ⟨#[]⟩), (.bool false)]) w) (
 RunV Tryd.prog (convert 3 21 a0) w fun t12_3 w =>
 CallF Tryd.prog 80 #[t12_3] w fun t13_4 w =>
 RunA Tryd.prog (Op.unary .not t13_4) fun t14_5 =>
 IfB t14_5 (
 R (.tuple #[(.string ⟨#[]⟩), (.bool false)]) w) (
 RunV Tryd.prog (convert 3 21 a0) w fun t17_6 w =>
 RunV Tryd.prog (convert 21 9 t17_6) w fun t18_7 w =>
 R (.tuple #[t18_7, (.bool true)]) w)))
theorem sh78_calls {a0 : Value} {w : World} {R : Value → World → Prop} (h : sh78 a0 w R) : CallF Tryd.prog 78 #[a0] w R :=
  calls_of_denF (mk := false) (args := [a0]) (an := (.seq (.ops [0]) (.seq (.seq (.ops [0, 15]) (.cond (.seq (.ops [2, 3]) .leaf) .leaf)) (.seq (.ops [2, 3]) .leaf)))) (c := Tryd.f78.body.getD .skip) hent Tryd.func78 rfl (Nat.le_of_ble_eq_true (by kernel_rfl))
    (Eq.mp (show sh78 a0 w R = denF Tryd.prog ent false Tryd.f78 (.seq (.ops [0]) (.seq (.seq (.ops [0, 15]) (.cond (.seq (.ops [2, 3]) .leaf) .leaf)) (.seq (.ops [2, 3]) .leaf))) (Tryd.f78.body.getD .skip) [a0] w R by kernel_rfl) h)

/-! ### 79: strconv.ParseUint -/
def sh79 (a0 a1 a2 : Value) (w : World) (R : Value → World → Prop) : Prop :=
 CallF Tryd.prog 81 #[a0, a1, a2] w fun t14_1 w =>
 RunA Tryd.prog (Instr.extract t14_1 0) fun t15_2 =>
 RunA Tryd.prog (Instr.extract t14_1 1) fun t16_3 =>
 RunW Tryd.prog (bin .neq 73 (.tmp 17) (.const (.nilIface)) t16_3 (.nilIface)) w fun t18_4 =>
 IfB t18_4 (
 CallF Tryd.prog 82 #[(.string ⟨#[80, 97, 114, 115, 101, 85, 105, 110, 116]⟩), a0, a1, a2, t16_3] w fun t24_5 w =>
 R (.tuple #[t15_2, t24_5]) w) (
 R (.tuple #[t15_2, (.nilIface)]) w)
theorem sh79_calls {a0 a1 a2 : Value} {w : World} {R : Value → World → Prop} (h : sh79 a0 a1 a2 w R) : CallF Tryd.prog 79 #[a0, a1, a2] w R :=
  calls_of_denF (mk := false) (args := [a0, a1, a2]) (an := (.seq (.ops [0, 1, 2]) (.seq (.ops [0, 1, 2, 8, 9]) (.seq (.seq (.ops [0, 1, 2, 8, 9, 18]) (.cond (.seq (.ops [6, 7]) .leaf) .leaf)) (.seq (.ops [6, 7]) .leaf))))) (c := Tryd.f79.body.getD .skip) hent Tryd.func79 rfl (Nat.le_of_ble_eq_true (by kernel_rfl))
    (Eq.mp (show sh79 a0 a1 a2 w R = denF Tryd.prog ent false Tryd.f79 (.seq (.ops [0, 1, 2]) (.seq (.ops [0, 1, 2, 8, 9]) (.seq (.seq (.ops [0, 1, 2, 8, 9, 18]) (.cond (.seq (.ops [6, 7]) .leaf) .leaf)) (.seq (.ops [6, 7]) .leaf)))) (Tryd.f79.body.getD .skip) [a0, a1, a2] w R by kernel_rfl) h)

/-! ### 80: unicode/utf8.ValidRune -/
def sh80 (a0 : Value) (w : World) (R : Value → World → Prop) : Prop :=
 jn 0 (fun w =>
 R (.bool false) w) fun j_1 =>
 RunA Tryd.prog (bin .leq 21 (.const (.int .i32 0)) (.tmp 4) (.int .i32 0) a0) fun t5_2 =>
 IfB t5_2 (
 RunA Tryd.prog (bin .lss 21 (.tmp 7) (.const (.int .i32 55296)) a0 (.int .i32 55296)) fun t8_3 =>
 IfB t8_3 (
 R (.bool true) w) (
 jn 0 (fun w =>
 j_1 w) fun j_4 =>
 RunA Tryd.prog (bin .lss 21 (.const (.int .i32 57343)) (.tmp 11) (.int .i32 57343) a0) fun t12_5 =>
 IfB t12_5 (
 RunA Tryd.prog (bin .leq 21 (.tmp 14) (.const (.int .i32 1114111)) a0 (.int .i32 1114111)) fun t15_6 =>
 IfB t15_6 (
 R (.bool true) w) (
 j_4 w)) (
 j_4 w))) (
 jn 0 (fun w =>
 j_1 w) fun j_7 =>
 RunA Tryd.prog (bin .lss 21 (.const (.int .i32 57343)) (.tmp 11) (.int .i32 57343) a0) fun t12_8 =>
 IfB t12_8 (
 RunA Tryd.prog (bin .leq 21 (.tmp 14) (.const (.int .i32 1114111)) a0 (.int .i32 1114111)) fun t15_9 =>
 IfB t15_9 (
 R (.bool true) w) (
 j_7 w)) (
 j_7 w))
theorem sh80_calls {a0 : Value} {w : World} {R : Value → World → Prop} (h : sh80 a0 w R) : CallF Tryd.prog 80 #[a0] w R :=
  calls_of_denF (mk := false) (args := [a0]) (an := (.seq (.ops [0]) (.seq (.blk (.join [] (.seq (.ops [0, 3]) (.cond (.seq (.ops [2]) .leaf) (.join [] (.seq (.ops [10]) (.cond (.seq (.ops [2]) .leaf) .leaf))))))) (.seq (.ops [2]) .leaf)))) (c := Tryd.f80.body.getD .skip) hent Tryd.func80 rfl (Nat.le_of_ble_eq_true (by kernel_rfl))
    (Eq.mp (show sh80 a0 w R = denF Tryd.prog ent false Tryd.f80 (.seq (.ops [0]) (.seq (.blk (.join [] (.seq (.ops [0, 3]) (.cond (.seq (.ops [2]) .leaf) (.join [] (.seq (.ops [10]) (.cond (.seq (.ops [2]) .leaf) .leaf))))))) (.seq (.ops [2]) .leaf))) (Tryd.f80.body.getD .skip) [a0] w R by kernel_rfl) h)

/-! ### 81: internal/strconv.ParseUint -/
def sh81 (a0 a1 a2 : Value) (w : World) (R : Value → World → Prop) : Prop :=
 RunW Tryd.prog (bin .eql 9 (.tmp 18) (.const (.string ⟨#[]⟩)) a0 (.string ⟨#[]⟩)) w fun t19_1 =>
 IfB t19_1 (
 RunV Tryd.prog (Instr.makeInterface 126 (.int .i64 2)) w fun t20_2 w =>
 R (.tuple #[(.int .u64 0), t20_2]) w) (
 RunW Tryd.prog (bin .eql 3 (.tmp 21) (.const (.int .i64 0)) a1 (.int .i64 0)) w fun t22_3 =>
 jn 5 (fun t0_4 t1_5 t2_6 t8_7 t9_8 w =>
 jn 5 (fun t0_10 t1_11 t2_12 t8_13 t9_14 w =>
 jn 6 (fun t0_16 t1_17 t2_18 t8_19 t9_20 t10_21 w =>
 RunV Tryd.prog (convert 3 112 t2_18) w fun t95_23 w =>
 RunA Tryd.prog (bin .shl 122 (.const (.int .u64 1)) (.tmp 95) (.int .u64 1) t95_23) fun t96_24 =>
 RunA Tryd.prog (bin .sub 122 (.tmp 96) (.const (.int .u64 1)) t96_24 (.int .u64 1)) fun t97_25 =>
 RunV Tryd.prog (convert 9 22 t0_16) w fun t99_26 w =>
 RunW Tryd.prog (Builtin.len_ #[22] 3 #[t99_26]) w fun t100_27 =>
 lp 3 (fun n_31 t12_28 t13_29 t101_30 w =>
 RunA Tryd.prog (bin .lss 3 (.tmp 101) (.tmp 100) t101_30 t100_27) fun t102_32 =>
 IfB t102_32 (
 jn 10 (fun t1_33 t8_34 t9_35 t10_36 t11_37 t12_38 t13_39 t99_40 t100_41 t101_42 w =>
 RunA Tryd.prog (bin .add 3 (.tmp 101) (.const (.int .i64 1)) t101_42 (.int .i64 1)) fun t163_44 =>
 (t1_33 : Value) = t1_17 ∧ ((t8_34 : Value) = t8_19 ∧ ((t9_35 : Value) = t9_20 ∧ ((t10_36 : Value) = t10_21 ∧ ((t11_37 : Value) = t97_25 ∧ ((t99_40 : Value) = t99_26 ∧ ((t100_41 : Value) = t100_27 ∧ (n_31 t12_38 t13_39 t163_44 w)))))))) fun j_43 =>
 RunA Tryd.prog (Instr.indexAt 22 t99_26 t101_30) fun t103_45 =>
 RunW Tryd.prog (Instr.loadAt 5 t103_45) w fun t104_46 =>
 jn 11 (fun t1_47 t8_48 t9_49 t10_50 t11_51 t12_52 t13_53 t16_54 t99_55 t100_56 t101_57 w =>
 RunV Tryd.prog (convert 3 5 t1_47) w fun t136_59 w =>
 RunA Tryd.prog (bin .geq 5 (.tmp 134) (.tmp 136) t16_54 t136_59) fun t137_60 =>
 IfB t137_60 (
 RunV Tryd.prog (Instr.makeInterface 126 (.int .i64 2)) w fun t138_61 w =>
 R (.tuple #[(.int .u64 0), t138_61]) w) (
 RunA Tryd.prog (bin .geq 122 (.tmp 139) (.tmp 140) t13_53 t10_50) fun t141_62 =>
 IfB t141_62 (
 RunV Tryd.prog (Instr.makeInterface 126 (.int .i64 1)) w fun t143_63 w =>
 R (.tuple #[t11_51, t143_63]) w) (
 RunV Tryd.prog (convert 3 122 t1_47) w fun t146_64 w =>
 RunA Tryd.prog (bin .mul 122 (.tmp 144) (.tmp 146) t13_53 t146_64) fun t147_65 =>
 RunV Tryd.prog (convert 5 122 t16_54) w fun t150_66 w =>
 RunA Tryd.prog (bin .add 122 (.tmp 148) (.tmp 150) t147_65 t150_66) fun t151_67 =>
 RunA Tryd.prog (bin .lss 122 (.tmp 152) (.tmp 153) t151_67 t147_65) fun t154_68 =>
 IfB t154_68 (
 RunV Tryd.prog (Instr.makeInterface 126 (.int .i64 1)) w fun t161_69 w =>
 R (.tuple #[t11_51, t161_69]) w) (
 RunA Tryd.prog (bin .gtr 122 (.tmp 156) (.tmp 157) t151_67 t11_51) fun t158_70 =>
 IfB t158_70 (
 RunV Tryd.prog (Instr.makeInterface 126 (.int .i64 1)) w fun t161_71 w =>
 R (.tuple #[t11_51, t161_71]) w) (
 j_43 t1_47 t8_48 t9_49 t10_50 t11_51 t12_52 t151_67 t99_55 t100_56 t101_57 w))))) fun j_58 =>
 RunW Tryd.prog (bin .eql 5 (.tmp 107) (.const (.int .u8 95)) t104_46 (.int .u8 95)) w fun t108_72 =>
 IfB t108_72 (
 IfB t8_19 (
 j_43 t1_17 t8_19 t9_20 t10_21 t97_25 (.bool true) t13_29 t99_26 t100_27 t101_30 w) (
 jn 11 (fun t1_73 t8_74 t9_75 t10_76 t11_77 t12_78 t13_79 t16_80 t99_81 t100_82 t101_83 w =>
 j_58 t1_73 t8_74 t9_75 t10_76 t11_77 t12_78 t13_79 t16_80 t99_81 t100_82 t101_83 w) fun j_84 =>
 RunA Tryd.prog (bin .leq 5 (.const (.int .u8 48)) (.tmp 113) (.int .u8 48) t104_46) fun t114_85 =>
 IfB t114_85 (
 RunA Tryd.prog (bin .leq 5 (.tmp 116) (.const (.int .u8 57)) t104_46 (.int .u8 57)) fun t117_86 =>
 IfB t117_86 (
 RunA Tryd.prog (bin .sub 5 (.tmp 119) (.const (.int .u8 48)) t104_46 (.int .u8 48)) fun t120_87 =>
 j_84 t1_17 t8_19 t9_20 t10_21 t97_25 t12_28 t13_29 t120_87 t99_26 t100_27 t101_30 w) (
 CallF Tryd.prog 83 #[t104_46] w fun t123_88 w =>
 RunA Tryd.prog (bin .leq 5 (.const (.int .u8 97)) (.tmp 123) (.int .u8 97) t123_88) fun t124_89 =>
 IfB t124_89 (
 CallF Tryd.prog 83 #[t104_46] w fun t127_90 w =>
 RunA Tryd.prog (bin .leq 5 (.tmp 127) (.const (.int .u8 122)) t127_90 (.int .u8 122)) fun t128_91 =>
 IfB t128_91 (
 CallF Tryd.prog 83 #[t104_46] w fun t131_92 w =>
 RunA Tryd.prog (bin .sub 5 (.tmp 131) (.const (.int .u8 97)) t131_92 (.int .u8 97)) fun t132_93 =>
 RunA Tryd.prog (bin .add 5 (.tmp 132) (.const (.int .u8 10)) t132_93 (.int .u8 10)) fun t133_94 =>
 j_84 t1_17 t8_19 t9_20 t10_21 t97_25 t12_28 t13_29 t133_94 t99_26 t100_27 t101_30 w) (
 RunV Tryd.prog (Instr.makeInterface 126 (.int .i64 2)) w fun t105_95 w =>
 R (.tuple #[(.int .u64 0), t105_95]) w)) (
 RunV Tryd.prog (Instr.makeInterface 126 (.int .i64 2)) w fun t105_96 w =>
 R (.tuple #[(.int .u64 0), t105_96]) w))) (
 CallF Tryd.prog 83 #[t104_46] w fun t123_97 w =>
 RunA Tryd.prog (bin .leq 5 (.const (.int .u8 97)) (.tmp 123) (.int .u8 97) t123_97) fun t124_98 =>
 IfB t124_98 (
 CallF Tryd.prog 83 #[t104_46] w fun t127_99 w =>
 RunA Tryd.prog (bin .leq 5 (.tmp 127) (.const (.int .u8 122)) t127_99 (.int .u8 122)) fun t128_100 =>
 IfB t128_100 (
 CallF Tryd.prog 83 #[t104_46] w fun t131_101 w =>
 RunA Tryd.prog (bin .sub 5 (.tmp 131) (.const (.int .u8 97)) t131_101 (.int .u8 97)) fun t132_102 =>
 RunA Tryd.prog (bin .add 5 (.tmp 132) (.const (.int .u8 10)) t132_102 (.int .u8 10)) fun t133_103 =>
 j_84 t1_17 t8_19 t9_20 t10_21 t97_25 t12_28 t13_29 t133_103 t99_26 t100_27 t101_30 w) (
 RunV Tryd.prog (Instr.makeInterface 126 (.int .i64 2)) w fun t105_104 w =>
 R (.tuple #[(.int .u64 0), t105_104]) w)) (
 RunV Tryd.prog (Instr.makeInterface 126 (.int .i64 2)) w fun t105_105 w =>
 R (.tuple #[(.int .u64 0), t105_105]) w)))) (
 jn 11 (fun t1_106 t8_107 t9_108 t10_109 t11_110 t12_111 t13_112 t16_113 t99_114 t100_115 t101_116 w =>
 j_58 t1_106 t8_107 t9_108 t10_109 t11_110 t12_111 t13_112 t16_113 t99_114 t100_115 t101_116 w) fun j_117 =>
 RunA Tryd.prog (bin .leq 5 (.const (.int .u8 48)) (.tmp 113) (.int .u8 48) t104_46) fun t114_118 =>
 IfB t114_118 (
 RunA Tryd.prog (bin .leq 5 (.tmp 116) (.const (.int .u8 57)) t104_46 (.int .u8 57)) fun t117_119 =>
 IfB t117_119 (
 RunA Tryd.prog (bin .sub 5 (.tmp 119) (.const (.int .u8 48)) t104_46 (.int .u8 48)) fun t120_120 =>
 j_117 t1_17 t8_19 t9_20 t10_21 t97_25 t12_28 t13_29 t120_120 t99_26 t100_27 t101_30 w) (
 CallF Tryd.prog 83 #[t104_46] w fun t123_121 w =>
 RunA Tryd.prog (bin .leq 5 (.const (.int .u8 97)) (.tmp 123) (.int .u8 97) t123_121) fun t124_122 =>
 IfB t124_122 (
 CallF Tryd.prog 83 #[t104_46] w fun t127_123 w =>
 RunA Tryd.prog (bin .leq 5 (.tmp 127) (.const (.int .u8 122)) t127_123 (.int .u8 122)) fun t128_124 =>
 IfB t128_124 (
 CallF Tryd.prog 83 #[t104_46] w fun t131_125 w =>
 RunA Tryd.prog (bin .sub 5 (.tmp 131) (.const (.int .u8 97)) t131_125 (.int .u8 97)) fun t132_126 =>
 RunA Tryd.prog (bin .add 5 (.tmp 132) (.const (.int .u8 10)) t132_126 (.int .u8 10)) fun t133_127 =>
 j_117 t1_17 t8_19 t9_20 t10_21 t97_25 t12_28 t13_29 t133_127 t99_26 t100_27 t101_30 w) (
 RunV Tryd.prog (Instr.makeInterface 126 (.int .i64 2)) w fun t105_128 w =>
 R (.tuple #[(.int .u64 0), t105_128]) w)) (
 RunV Tryd.prog (Instr.makeInterface 126 (.int .i64 2)) w fun t105_129 w =>
 R (.tuple #[(.int .u64 0), t105_129]) w))) (
 CallF Tryd.prog 83 #[t104_46] w fun t123_130 w =>
 RunA Tryd.prog (bin .leq 5 (.const (.int .u8 97)) (.tmp 123) (.int .u8 97) t123_130) fun t124_131 =>
 IfB t124_131 (
 CallF Tryd.prog 83 #[t104_46] w fun t127_132 w =>
 RunA Tryd.prog (bin .leq 5 (.tmp 127) (.const (.int .u8 122)) t127_132 (.int .u8 122)) fun t128_133 =>
 IfB t128_133 (
 CallF Tryd.prog 83 #[t104_46] w fun t131_134 w =>
 RunA Tryd.prog (bin .sub 5 (.tmp 131) (.const (.int .u8 97)) t131_134 (.int .u8 97)) fun t132_135 =>
 RunA Tryd.prog (bin .add 5 (.tmp 132) (.const (.int .u8 10)) t132_135 (.int .u8 10)) fun t133_136 =>
 j_117 t1_17 t8_19 t9_20 t10_21 t97_25 t12_28 t13_29 t133_136 t99_26 t100_27 t101_30 w) (
 RunV Tryd.prog (Instr.makeInterface 126 (.int .i64 2)) w fun t105_137 w =>
 R (.tuple #[(.int .u64 0), t105_137]) w)) (
 RunV Tryd.prog (Instr.makeInterface 126 (.int .i64 2)) w fun t105_138 w =>
 R (.tuple #[(.int .u64 0), t105_138]) w)))) (
 jn 1 (fun t13_139 w =>
 R (.tuple #[t13_139, (.nilIface)]) w) fun j_140 =>
 IfB t12_28 (
 CallF Tryd.prog 84 #[t9_20] w fun t167_141 w =>
 RunA Tryd.prog (Op.unary .not t167_141) fun t168_142 =>
 IfB t168_142 (
 RunV Tryd.prog (Instr.makeInterface 126 (.int .i64 2)) w fun t170_143 w =>
 R (.tuple #[(.int .u64 0), t170_143]) w) (
 j_140 t13_29 w)) (
 j_140 t13_29 w))) [(.bool false), (.int .u64 0), (.int .i64 0)] w) fun j_22 =>
 RunW Tryd.prog (bin .eql 3 (.tmp 85) (.const (.int .i64 10)) t1_11 (.int .i64 10)) w fun t91_144 =>
 IfB t91_144 (
 j_22 t0_10 t1_11 t2_12 t8_13 t9_14 (.int .u64 1844674407370955162) w) (
 jn 6 (fun t0_145 t1_146 t2_147 t8_148 t9_149 t10_150 w =>
 j_22 t0_145 t1_146 t2_147 t8_148 t9_149 t10_150 w) fun j_151 =>
 RunW Tryd.prog (bin .eql 3 (.tmp 85) (.const (.int .i64 16)) t1_11 (.int .i64 16)) w fun t93_152 =>
 IfB t93_152 (
 j_151 t0_10 t1_11 t2_12 t8_13 t9_14 (.int .u64 1152921504606846976) w) (
 RunV Tryd.prog (convert 3 122 t1_11) w fun t87_153 w =>
 RunA Tryd.prog (bin .quo 122 (.const (.int .u64 18446744073709551615)) (.tmp 87) (.int .u64 18446744073709551615) t87_153) fun t88_154 =>
 RunA Tryd.prog (bin .add 122 (.tmp 88) (.const (.int .u64 1)) t88_154 (.int .u64 1)) fun t89_155 =>
 j_151 t0_10 t1_11 t2_12 t8_13 t9_14 t89_155 w))) fun j_15 =>
 RunW Tryd.prog (bin .eql 3 (.tmp 76) (.const (.int .i64 0)) t2_6 (.int .i64 0)) w fun t77_156 =>
 IfB t77_156 (
 j_15 t0_4 t1_5 (.int .i64 64) t8_7 t9_8 w) (
 RunA Tryd.prog (bin .lss 3 (.tmp 78) (.const (.int .i64 0)) t2_6 (.int .i64 0)) fun t79_157 =>
 IfB t79_157 (
 RunV Tryd.prog (Instr.makeInterface 126 (.int .i64 4)) w fun t84_158 w =>
 R (.tuple #[(.int .u64 0), t84_158]) w) (
 RunA Tryd.prog (bin .gtr 3 (.tmp 81) (.const (.int .i64 64)) t2_6 (.int .i64 64)) fun t82_159 =>
 IfB t82_159 (
 RunV Tryd.prog (Instr.makeInterface 126 (.int .i64 4)) w fun t84_160 w =>
 R (.tuple #[(.int .u64 0), t84_160]) w) (
 j_15 t0_4 t1_5 t2_6 t8_7 t9_8 w)))) fun j_9 =>
 RunA Tryd.prog (bin .leq 3 (.const (.int .i64 2)) (.tmp 26) (.int .i64 2) a1) fun t27_161 =>
 IfB t27_161 (
 RunA Tryd.prog (bin .leq 3 (.tmp 29) (.const (.int .i64 36)) a1 (.int .i64 36)) fun t30_162 =>
 IfB t30_162 (
 j_9 a0 a1 a2 t22_3 a0 w) (
 RunW Tryd.prog (bin .eql 3 (.tmp 33) (.const (.int .i64 0)) a1 (.int .i64 0)) w fun t34_163 =>
 IfB t34_163 (
 jn 5 (fun t0_164 t1_165 t2_166 t8_167 t9_168 w =>
 j_9 t0_164 t1_165 t2_166 t8_167 t9_168 w) fun j_169 =>
 RunA Tryd.prog (Instr.index 9 a0 (.int .i64 0)) fun t36_170 =>
 RunW Tryd.prog (bin .eql 5 (.tmp 36) (.const (.int .u8 48)) t36_170 (.int .u8 48)) w fun t37_171 =>
 IfB t37_171 (
 jn 5 (fun t0_172 t1_173 t2_174 t8_175 t9_176 w =>
 j_169 t0_172 t1_173 t2_174 t8_175 t9_176 w) fun j_177 =>
 RunW Tryd.prog (Builtin.len_ #[9] 3 #[a0]) w fun t42_178 =>
 RunA Tryd.prog (bin .geq 3 (.tmp 42) (.const (.int .i64 3)) t42_178 (.int .i64 3)) fun t43_179 =>
 IfB t43_179 (
 RunA Tryd.prog (Instr.index 9 a0 (.int .i64 1)) fun t46_180 =>
 CallF Tryd.prog 83 #[t46_180] w fun t47_181 w =>
 RunW Tryd.prog (bin .eql 5 (.tmp 47) (.const (.int .u8 98)) t47_181 (.int .u8 98)) w fun t48_182 =>
 IfB t48_182 (
 RunA Tryd.prog (Instr.sliceAt 9 a0 (some (.int .i64 2)) none none) fun t51_183 =>
 j_177 t51_183 (.int .i64 2) a2 t22_3 a0 w) (
 jn 5 (fun t0_184 t1_185 t2_186 t8_187 t9_188 w =>
 j_177 t0_184 t1_185 t2_186 t8_187 t9_188 w) fun j_189 =>
 RunW Tryd.prog (Builtin.len_ #[9] 3 #[a0]) w fun t54_190 =>
 RunA Tryd.prog (bin .geq 3 (.tmp 54) (.const (.int .i64 3)) t54_190 (.int .i64 3)) fun t55_191 =>
 IfB t55_191 (
 RunA Tryd.prog (Instr.index 9 a0 (.int .i64 1)) fun t58_192 =>
 CallF Tryd.prog 83 #[t58_192] w fun t59_193 w =>
 RunW Tryd.prog (bin .eql 5 (.tmp 59) (.const (.int .u8 111)) t59_193 (.int .u8 111)) w fun t60_194 =>
 IfB t60_194 (
 RunA Tryd.prog (Instr.sliceAt 9 a0 (some (.int .i64 2)) none none) fun t63_195 =>
 j_189 t63_195 (.int .i64 8) a2 t22_3 a0 w) (
 jn 5 (fun t0_196 t1_197 t2_198 t8_199 t9_200 w =>
 j_189 t0_196 t1_197 t2_198 t8_199 t9_200 w) fun j_201 =>
 RunW Tryd.prog (Builtin.len_ #[9] 3 #[a0]) w fun t66_202 =>
 RunA Tryd.prog (bin .geq 3 (.tmp 66) (.const (.int .i64 3)) t66_202 (.int .i64 3)) fun t67_203 =>
 IfB t67_203 (
 RunA Tryd.prog (Instr.index 9 a0 (.int .i64 1)) fun t70_204 =>
 CallF Tryd.prog 83 #[t70_204] w fun t71_205 w =>
 RunW Tryd.prog (bin .eql 5 (.tmp 71) (.const (.int .u8 120)) t71_205 (.int .u8 120)) w fun t72_206 =>
 IfB t72_206 (
 RunA Tryd.prog (Instr.sliceAt 9 a0 (some (.int .i64 2)) none none) fun t75_207 =>
 j_201 t75_207 (.int .i64 16) a2 t22_3 a0 w) (
 RunA Tryd.prog (Instr.sliceAt 9 a0 (some (.int .i64 1)) none none) fun t39_208 =>
 j_201 t39_208 (.int .i64 8) a2 t22_3 a0 w)) (
 RunA Tryd.prog (Instr.sliceAt 9 a0 (some (.int .i64 1)) none none) fun t39_209 =>
 j_201 t39_209 (.int .i64 8) a2 t22_3 a0 w))) (
 jn 5 (fun t0_210 t1_211 t2_212 t8_213 t9_214 w =>
 j_189 t0_210 t1_211 t2_212 t8_213 t9_214 w) fun j_215 =>
 RunW Tryd.prog (Builtin.len_ #[9] 3 #[a0]) w fun t66_216 =>
 RunA Tryd.prog (bin .geq 3 (.tmp 66) (.const (.int .i64 3)) t66_216 (.int .i64 3)) fun t67_217 =>
 IfB t67_217 (
 RunA Tryd.prog (Instr.index 9 a0 (.int .i64 1)) fun t70_218 =>
 CallF Tryd.prog 83 #[t70_218] w fun t71_219 w =>
 RunW Tryd.prog (bin .eql 5 (.tmp 71) (.const (.int .u8 120)) t71_219 (.int .u8 120)) w fun t72_220 =>
 IfB t72_220 (
 RunA Tryd.prog (Instr.sliceAt 9 a0 (some (.int .i64 2)) none none) fun t75_221 =>
 j_215 t75_221 (.int .i64 16) a2 t22_3 a0 w) (
 RunA Tryd.prog (Instr.sliceAt 9 a0 (some (.int .i64 1)) none none) fun t39_222 =>
 j_215 t39_222 (.int .i64 8) a2 t22_3 a0 w)) (
 RunA Tryd.prog (Instr.sliceAt 9 a0 (some (.int .i64 1)) none none) fun t39_223 =>
 j_215 t39_223 (.int .i64 8) a2 t22_3 a0 w)))) (
 jn 5 (fun t0_224 t1_225 t2_226 t8_227 t9_228 w =>
 j_177 t0_224 t1_225 t2_226 t8_227 t9_228 w) fun j_229 =>
 RunW Tryd.prog (Builtin.len_ #[9] 3 #[a0]) w fun t54_230 =>
 RunA Tryd.prog (bin .geq 3 (.tmp 54) (.const (.int .i64 3)) t54_230 (.int .i64 3)) fun t55_231 =>
 IfB t55_231 (
 RunA Tryd.prog (Instr.index 9 a0 (.int .i64 1)) fun t58_232 =>
 CallF Tryd.prog 83 #[t58_232] w fun t59_233 w =>
 RunW Tryd.prog (bin .eql 5 (.tmp 59) (.const (.int .u8 111)) t59_233 (.int .u8 111)) w fun t60_234 =>
 IfB t60_234 (
 RunA Tryd.prog (Instr.sliceAt 9 a0 (some (.int .i64 2)) none none) fun t63_235 =>
 j_229 t63_235 (.int .i64 8) a2 t22_3 a0 w) (
 jn 5 (fun t0_236 t1_237 t2_238 t8_239 t9_240 w =>
 j_229 t0_236 t1_237 t2_238 t8_239 t9_240 w) fun j_241 =>
 RunW Tryd.prog (Builtin.len_ #[9] 3 #[a0]) w fun t66_242 =>
 RunA Tryd.prog (bin .geq 3 (.tmp 66) (.const (.int .i64 3)) t66_242 (.int .i64 3)) fun t67_243 =>
 IfB t67_243 (
 RunA Tryd.prog (Instr.index 9 a0 (.int .i64 1)) fun t70_244 =>
 CallF Tryd.prog 83 #[t70_244] w fun t71_245 w =>
 RunW Tryd.prog (bin .eql 5 (.tmp 71) (.const (.int .u8 120)) t71_245 (.int .u8 120)) w fun t72_246 =>
 IfB t72_246 (
 RunA Tryd.prog (Instr.sliceAt 9 a0 (some (.int .i64 2)) none none) fun t75_247 =>
 j_241 t75_247 (.int .i64 16) a2 t22_3 a0 w) (
 RunA Tryd.prog (Instr.sliceAt 9 a0 (some (.int .i64 1)) none none) fun t39_248 =>
 j_241 t39_248 (.int .i64 8) a2 t22_3 a0 w)) (
 RunA Tryd.prog (Instr.sliceAt 9 a0 (some (.int .i64 1)) none none) fun t39_249 =>
 j_241 t39_249 (.int .i64 8) a2 t22_3 a0 w))) (
 jn 5 (fun t0_250 t1_251 t2_252 t8_253 t9_254 w =>
 j_229 t0_250 t1_251 t2_252 t8_253 t9_254 w) fun j_255 =>
 RunW Tryd.prog (Builtin.len_ #[9] 3 #[a0]) w fun t66_256 =>
 RunA Tryd.prog (bin .geq 3 (.tmp 66) (.const (.int .i64 3)) t66_256 (.int .i64 3)) fun t67_257 =>
 IfB t67_257 (
 RunA Tryd.prog (Instr.index 9 a0 (.int .i64 1)) fun t70_258 =>
 CallF Tryd.prog 83 #[t70_258] w fun t71_259 w =>
 RunW Tryd.prog (bin .eql 5 (.tmp 71) (.const (.int .u8 120)) t71_259 (.int .u8 120)) w fun t72_260 =>
 IfB t72_260 (
 RunA Tryd.prog (Instr.sliceAt 9 a0 (some (.int .i64 2)) none none) fun t75_261 =>
 j_255 t75_261 (.int .i64 16) a2 t22_3 a0 w) (
 RunA Tryd.prog (Instr.sliceAt 9 a0 (some (.int .i64 1)) none none) fun t39_262 =>
 j_255 t39_262 (.int .i64 8) a2 t22_3 a0 w)) (
 RunA Tryd.prog (Instr.sliceAt 9 a0 (some (.int .i64 1)) none none) fun t39_263 =>
 j_255 t39_263 (.int .i64 8) a2 t22_3 a0 w)))) (
 j_169 a0 (.int .i64 10) a2 t22_3 a0 w)) (
 RunV Tryd.prog (Instr.makeInterface 126 (.int .i64 3)) w fun t24_264 w =>
 R (.tuple #[(.int .u64 0), t24_264]) w))) (
 RunW Tryd.prog (bin .eql 3 (.tmp 33) (.const (.int .i64 0)) a1 (.int .i64 0)) w fun t34_265 =>
 IfB t34_265 (
 jn 5 (fun t0_266 t1_267 t2_268 t8_269 t9_270 w =>
 j_9 t0_266 t1_267 t2_268 t8_269 t9_270 w) fun j_271 =>
 RunA Tryd.prog (Instr.index 9 a0 (.int .i64 0)) fun t36_272 =>
 RunW Tryd.prog (bin .eql 5 (.tmp 36) (.const (.int .u8 48)) t36_272 (.int .u8 48)) w fun t37_273 =>
 IfB t37_273 (
 jn 5 (fun t0_274 t1_275 t2_276 t8_277 t9_278 w =>
 j_271 t0_274 t1_275 t2_276 t8_277 t9_278 w) fun j_279 =>
 RunW Tryd.prog (Builtin.len_ #[9] 3 #[a0]) w fun t42_280 =>
 RunA Tryd.prog (bin .geq 3 (.tmp 42) (.const (.int .i64 3)) t42_280 (.int .i64 3)) fun t43_281 =>
 IfB t43_281 (
 RunA Tryd.prog (Instr.index 9 a0 (.int .i64 1)) fun t46_282 =>
 CallF Tryd.prog 83 #[t46_282] w fun t47_283 w =>
 RunW Tryd.prog (bin .eql 5 (.tmp 47) (.const (.int .u8 98)) t47_283 (.int .u8 98)) w fun t48_284 =>
 IfB t48_284 (
 RunA Tryd.prog (Instr.sliceAt 9 a0 (some (.int .i64 2)) none none) fun t51_285 =>
 j_279 t51_285 (.int .i64 2) a2 t22_3 a0 w) (
 jn 5 (fun t0_286 t1_287 t2_288 t8_289 t9_290 w =>
 j_279 t0_286 t1_287 t2_288 t8_289 t9_290 w) fun j_291 =>
 RunW Tryd.prog (Builtin.len_ #[9] 3 #[a0]) w fun t54_292 =>
 RunA Tryd.prog (bin .geq 3 (.tmp 54) (.const (.int .i64 3)) t54_292 (.int .i64 3)) fun t55_293 =>
 IfB t55_293 (
 RunA Tryd.prog (Instr.index 9 a0 (.int .i64 1)) fun t58_294 =>
 CallF Tryd.prog 83 #[t58_294] w fun t59_295 w =>
 RunW Tryd.prog (bin .eql 5 (.tmp 59) (.const (.int .u8 111)) t59_295 (.int .u8 111)) w fun t60_296 =>
 IfB t60_296 (
 RunA Tryd.prog (Instr.sliceAt 9 a0 (some (.int .i64 2)) none none) fun t63_297 =>
 j_291 t63_297 (.int .i64 8) a2 t22_3 a0 w) (
 jn 5 (fun t0_298 t1_299 t2_300 t8_301 t9_302 w =>
 j_291 t0_298 t1_299 t2_300 t8_301 t9_302 w) fun j_303 =>
 RunW Tryd.prog (Builtin.len_ #[9] 3 #[a0]) w fun t66_304 =>
 RunA Tryd.prog (bin .geq 3 (.tmp 66) (.const (.int .i64 3)) t66_304 (.int .i64 3)) fun t67_305 =>
 IfB t67_305 (
 RunA Tryd.prog (Instr.index 9 a0 (.int .i64 1)) fun t70_306 =>
 CallF Tryd.prog 83 #[t70_306] w fun t71_307 w =>
 RunW Tryd.prog (bin .eql 5 (.tmp 71) (.const (.int .u8 120)) t71_307 (.int .u8 120)) w fun t72_308 =>
 IfB t72_308 (
 RunA Tryd.prog (Instr.sliceAt 9 a0 (some (.int .i64 2)) none none) fun t75_309 =>
 j_303 t75_309 (.int .i64 16) a2 t22_3 a0 w) (
 RunA Tryd.prog (Instr.sliceAt 9 a0 (some (.int .i64 1)) none none) fun t39_310 =>
 j_303 t39_310 (.int .i64 8) a2 t22_3 a0 w)) (
 RunA Tryd.prog (Instr.sliceAt 9 a0 (some (.int .i64 1)) none none) fun t39_311 =>
 j_303 t39_311 (.int .i64 8) a2 t22_3 a0 w))) (
 jn 5 (fun t0_312 t1_313 t2_314 t8_315 t9_316 w =>
 j_291 t0_312 t1_313 t2_314 t8_315 t9_316 w) fun j_317 =>
 RunW Tryd.prog (Builtin.len_ #[9] 3 #[a0]) w fun t66_318 =>
 RunA Tryd.prog (bin .geq 3 (.tmp 66) (.const (.int .i64 3)) t66_318 (.int .i64 3)) fun t67_319 =>
 IfB t67_319 (
 RunA Tryd.prog (Instr.index 9 a0 (.int .i64 1)) fun t70_320 =>
 CallF Tryd.prog 83 #[t70_320] w fun t71_321 w =>
 RunW Tryd.prog (bin .eql 5 (.tmp 71) (.const (.int .u8 120)) t71_321 (.int .u8 120)) w fun t72_322 =>
 IfB t72_322 (
 RunA Tryd.prog (Instr.sliceAt 9 a0 (some (.int .i64 2)) none none) fun t75_323 =>
 j_317 t75_323 (.int .i64 16) a2 t22_3 a0 w) (
 RunA Tryd.prog (Instr.sliceAt 9 a0 (some (.int .i64 1)) none none) fun t39_324 =>
 j_317 t39_324 (.int .i64 8) a2 t22_3 a0 w)) (
 RunA Tryd.prog (Instr.sliceAt 9 a0 (some (.int .i64 1)) none none) fun t39_325 =>
 j_317 t39_325 (.int .i64 8) a2 t22_3 a0 w)))) (
 jn 5 (fun t0_326 t1_327 t2_328 t8_329 t9_330 w =>
 j_279 t0_326 t1_327 t2_328 t8_329 t9_330 w) fun j_331 =>
 RunW Tryd.prog (Builtin.len_ #[9] 3 #[a0]) w fun t54_332 =>
 RunA Tryd.prog (bin .geq 3 (.tmp 54) (.const (.int .i64 3)) t54_332 (.int .i64 3)) fun t55_333 =>
 IfB t55_333 (
 RunA Tryd.prog (Instr.index 9 a0 (.int .i64 1)) fun t58_334 =>
 CallF Tryd.prog 83 #[t58_334] w fun t59_335 w =>
 RunW Tryd.prog (bin .eql 5 (.tmp 59) (.const (.int .u8 111)) t59_335 (.int .u8 111)) w fun t60_336 =>
 IfB t60_336 (
 RunA Tryd.prog (Instr.sliceAt 9 a0 (some (.int .i64 2)) none none) fun t63_337 =>
 j_331 t63_337 (.int .i64 8) a2 t22_3 a0 w) (
 jn 5 (fun t0_338 t1_339 t2_340 t8_341 t9_342 w =>
 j_331 t0_338 t1_339 t2_340 t8_341 t9_342 w) fun j_343 =>
 RunW Tryd.prog (Builtin.len_ #[9] 3 #[a0]) w fun t66_344 =>
 RunA Tryd.prog (bin .geq 3 (.tmp 66) (.const (.int .i64 3)) t66_344 (.int .i64 3)) fun t67_345 =>
 IfB t67_345 (
 RunA Tryd.prog (Instr.index 9 a0 (.int .i64 1)) fun t70_346 =>
 CallF Tryd.prog 83 #[t70_346] w fun t71_347 w =>
 RunW Tryd.prog (bin .eql 5 (.tmp 71) (.const (.int .u8 120)) t71_347 (.int .u8 120)) w fun t72_348 =>
 IfB t72_348 (
 RunA Tryd.prog (Instr.sliceAt 9 a0 (some (.int .i64 2)) none none) fun t75_349 =>
 j_343 t75_349 (.int .i64 16) a2 t22_3 a0 w) (
 RunA Tryd.prog (Instr.sliceAt 9 a0 (some (.int .i64 1)) none none) fun t39_350 =>
 j_343 t39_350 (.int .i64 8) a2 t22_3 a0 w)) (
 RunA Tryd.prog (Instr.sliceAt 9 a0 (some (.int .i64 1)) none none) fun t39_351 =>
 j_343 t39_351 (.int .i64 8) a2 t22_3 a0 w))) (
 jn 5 (fun t0_352 t1_353 t2_354 t8_355 t9_356 w =>
 j_331 t0_352 t1_353 t2_354 t8_355 t9_356 w) fun j_357 =>
 RunW Tryd.prog (Builtin.len_ #[9] 3 #[a0]) w fun t66_358 =>
 RunA Tryd.prog (bin .geq 3 (.tmp 66) (.const (.int .i64 3)) t66_358 (.int .i64 3)) fun t67_359 =>
 IfB t67_359 (
 RunA Tryd.prog (Instr.index 9 a0 (.int .i64 1)) fun t70_360 =>
 CallF Tryd.prog 83 #[t70_360] w fun t71_361 w =>
 RunW Tryd.prog (bin .eql 5 (.tmp 71) (.const (.int .u8 120)) t71_361 (.int .u8 120)) w fun t72_362 =>
 IfB t72_362 (
 RunA Tryd.prog (Instr.sliceAt 9 a0 (some (.int .i64 2)) none none) fun t75_363 =>
 j_357 t75_363 (.int .i64 16) a2 t22_3 a0 w) (
 RunA Tryd.prog (Instr.sliceAt 9 a0 (some (.int .i64 1)) none none) fun t39_364 =>
 j_357 t39_364 (.int .i64 8) a2 t22_3 a0 w)) (
 RunA Tryd.prog (Instr.sliceAt 9 a0 (some (.int .i64 1)) none none) fun t39_365 =>
 j_357 t39_365 (.int .i64 8) a2 t22_3 a0 w)))) (
 j_271 a0 (.int .i64 10) a2 t22_3 a0 w)) (
 RunV Tryd.prog (Instr.makeInterface 126 (.int .i64 3)) w fun t24_366 w =>
 R (.tuple #[(.int .u64 0), t24_366]) w)))
theorem sh81_calls {a0 a1 a2 : Value} {w : World} {R : Value → World → Prop} (h : sh81 a0 a1 a2 w R) : CallF Tryd.prog 81 #[a0, a1, a2] w R :=
  calls_of_denF (mk := false) (args := [a0, a1, a2]) (an := (.seq (.ops [0, 1, 2]) (.seq (.seq (.ops [0, 1, 2, 19]) (.cond (.seq (.ops [6, 7]) .leaf) .leaf)) (.seq (.ops [0, 1, 2, 8]) (.seq (.ops [0, 1, 2, 8, 9]) (.seq (.blk (.join [0, 1, 2, 8, 9] (.seq (.ops [0, 1, 2, 8, 9, 25]) (.cond .leaf (.seq (.ops [0, 2, 8, 9, 32]) (.cond (.seq (.ops [0, 1, 2, 8, 9]) (.join [0, 1, 2, 8, 9] (.seq (.ops [0, 1, 2, 8, 9, 37]) (.cond (.blk (.join [0, 1, 2, 8, 9] (.seq (.ops [0, 2, 8, 9, 40]) (.cond (.seq (.ops [0, 1, 2, 8, 9]) (.ops [0, 1, 2, 8, 9])) (.join [0, 1, 2, 8, 9] (.seq (.ops [0, 2, 8, 9, 52]) (.cond (.seq (.ops [0, 1, 2, 8, 9]) (.ops [0, 1, 2, 8, 9])) (.join [0, 1, 2, 8, 9] (.seq (.ops [0, 2, 8, 9, 64]) (.cond (.seq (.ops [0, 1, 2, 8, 9]) (.ops [0, 1, 2, 8, 9])) (.seq (.ops [0, 1, 2, 8, 9]) (.ops [0, 1, 2, 8, 9])))))))))))) .leaf)))) (.seq (.ops [6, 7]) .leaf))))))) (.seq (.join [0, 1, 2, 8, 9] (.seq (.ops [0, 1, 2, 8, 9, 77]) (.cond (.ops [0, 1, 2, 8, 9]) (.seq (.ops [0, 1, 2, 8, 9, 83]) (.cond (.seq (.ops [6, 7]) .leaf) .leaf))))) (.seq (.ops [0, 1, 2, 8, 9]) (.seq (.seq (.ops [0, 1, 2, 8, 9, 85]) (.blk (.join [0, 1, 2, 8, 9, 10] (.seq (.ops [0, 1, 2, 8, 9, 85, 90]) (.cond (.ops [0, 1, 2, 8, 9, 10]) (.join [0, 1, 2, 8, 9, 10] (.seq (.ops [0, 1, 2, 8, 9, 92]) (.cond (.ops [0, 1, 2, 8, 9, 10]) (.ops [0, 1, 2, 8, 9, 10]))))))))) (.seq (.ops [0, 1, 8, 9, 10, 11]) (.seq (.ops [0, 1, 8, 9, 10, 11, 12]) (.seq (.ops [0, 1, 8, 9, 10, 11, 12, 13]) (.seq (.seq (.ops [1, 8, 9, 10, 11, 12, 13, 99, 100, 101]) (.blk (.loop [1, 8, 9, 10, 11, 99, 100] [12, 13, 101] (.seq (.ops [1, 8, 9, 10, 11, 12, 13, 99, 100, 101, 102]) (.seq (.cond .leaf .leaf) (.seq (.join [1, 8, 9, 10, 11, 12, 13, 99, 100, 101] (.blk (.seq (.ops [1, 8, 9, 10, 11, 12, 13, 15, 99, 100, 101]) (.seq (.ops [1, 8, 9, 10, 11, 12, 13, 15, 99, 100, 101]) (.seq (.blk (.join [1, 8, 9, 10, 11, 12, 13, 16, 99, 100, 101] (.seq (.ops [1, 8, 9, 10, 11, 12, 13, 15, 99, 100, 101, 106]) (.cond (.seq (.ops [1, 8, 9, 10, 11, 12, 13, 99, 100, 101]) .leaf) (.join [1, 8, 9, 10, 11, 12, 13, 16, 99, 100, 101] (.seq (.ops [1, 8, 9, 10, 11, 12, 13, 15, 99, 100, 101, 112]) (.cond (.ops [1, 8, 9, 10, 11, 12, 13, 16, 99, 100, 101]) (.seq (.ops [1, 8, 9, 10, 11, 12, 13, 15, 99, 100, 101, 121]) (.cond (.ops [1, 8, 9, 10, 11, 12, 13, 16, 99, 100, 101]) (.seq (.ops [6, 7]) .leaf)))))))))) (.seq (.seq (.ops [1, 8, 9, 10, 11, 12, 13, 16, 99, 100, 101, 137]) (.cond (.seq (.ops [6, 7]) .leaf) .leaf)) (.seq (.seq (.ops [1, 8, 9, 10, 11, 12, 13, 16, 99, 100, 101, 141]) (.cond (.seq (.ops [6, 7]) .leaf) .leaf)) (.seq (.ops [1, 8, 9, 10, 11, 12, 13, 16, 99, 100, 101]) (.seq (.ops [1, 8, 9, 10, 11, 12, 13, 17, 99, 100, 101]) (.seq (.seq (.ops [1, 8, 9, 10, 11, 12, 17, 99, 100, 101, 159]) (.cond (.seq (.ops [6, 7]) .leaf) .leaf)) (.ops [1, 8, 9, 10, 11, 12, 13, 99, 100, 101]))))))))))) (.ops [1, 8, 9, 10, 11, 12, 13, 99, 100, 101]))))))) (.seq (.join [13] (.seq (.ops [13, 169]) (.cond (.seq (.ops [6, 7]) .leaf) .leaf))) (.seq (.ops [6, 7]) .leaf))))))))))))))) (c := Tryd.f81.body.getD .skip) hent Tryd.func81 rfl (Nat.le_of_ble_eq_true (by kernel_rfl))
    (Eq.mp (show sh81 a0 a1 a2 w R = denF Tryd.prog ent false Tryd.f81 (.seq (.ops [0, 1, 2]) (.seq (.seq (.ops [0, 1, 2, 19]) (.cond (.seq (.ops [6, 7]) .leaf) .leaf)) (.seq (.ops [0, 1, 2, 8]) (.seq (.ops [0, 1, 2, 8, 9]) (.seq (.blk (.join [0, 1, 2, 8, 9] (.seq (.ops [0, 1, 2, 8, 9, 25]) (.cond .leaf (.seq (.ops [0, 2, 8, 9, 32]) (.cond (.seq (.ops [0, 1, 2, 8, 9]) (.join [0, 1, 2, 8, 9] (.seq (.ops [0, 1, 2, 8, 9, 37]) (.cond (.blk (.join [0, 1, 2, 8, 9] (.seq (.ops [0, 2, 8, 9, 40]) (.cond (.seq (.ops [0, 1, 2, 8, 9]) (.ops [0, 1, 2, 8, 9])) (.join [0, 1, 2, 8, 9] (.seq (.ops [0, 2, 8, 9, 52]) (.cond (.seq (.ops [0, 1, 2, 8, 9]) (.ops [0, 1, 2, 8, 9])) (.join [0, 1, 2, 8, 9] (.seq (.ops [0, 2, 8, 9, 64]) (.cond (.seq (.ops [0, 1, 2, 8, 9]) (.ops [0, 1, 2, 8, 9])) (.seq (.ops [0, 1, 2, 8, 9]) (.ops [0, 1, 2, 8, 9])))))))))))) .leaf)))) (.seq (.ops [6, 7]) .leaf))))))) (.seq (.join [0, 1, 2, 8, 9] (.seq (.ops [0, 1, 2, 8, 9, 77]) (.cond (.ops [0, 1, 2, 8, 9]) (.seq (.ops [0, 1, 2, 8, 9, 83]) (.cond (.seq (.ops [6, 7]) .leaf) .leaf))))) (.seq (.ops [0, 1, 2, 8, 9]) (.seq (.seq (.ops [0, 1, 2, 8, 9, 85]) (.blk (.join [0, 1, 2, 8, 9, 10] (.seq (.ops [0, 1, 2, 8, 9, 85, 90]) (.cond (.ops [0, 1, 2, 8, 9, 10]) (.join [0, 1, 2, 8, 9, 10] (.seq (.ops [0, 1, 2, 8, 9, 92]) (.cond (.ops [0, 1, 2, 8, 9, 10]) (.ops [0, 1, 2, 8, 9, 10]))))))))) (.seq (.ops [0, 1, 8, 9, 10, 11]) (.seq (.ops [0, 1, 8, 9, 10, 11, 12]) (.seq (.ops [0, 1, 8, 9, 10, 11, 12, 13]) (.seq (.seq (.ops [1, 8, 9, 10, 11, 12, 13, 99, 100, 101]) (.blk (.loop [1, 8, 9, 10, 11, 99, 100] [12, 13, 101] (.seq (.ops [1, 8, 9, 10, 11, 12, 13, 99, 100, 101, 102]) (.seq (.cond .leaf .leaf) (.seq (.join [1, 8, 9, 10, 11, 12, 13, 99, 100, 101] (.blk (.seq (.ops [1, 8, 9, 10, 11, 12, 13, 15, 99, 100, 101]) (.seq (.ops [1, 8, 9, 10, 11, 12, 13, 15, 99, 100, 101]) (.seq (.blk (.join [1, 8, 9, 10, 11, 12, 13, 16, 99, 100, 101] (.seq (.ops [1, 8, 9, 10, 11, 12, 13, 15, 99, 100, 101, 106]) (.cond (.seq (.ops [1, 8, 9, 10, 11, 12, 13, 99, 100, 101]) .leaf) (.join [1, 8, 9, 10, 11, 12, 13, 16, 99, 100, 101] (.seq (.ops [1, 8, 9, 10, 11, 12, 13, 15, 99, 100, 101, 112]) (.cond (.ops [1, 8, 9, 10, 11, 12, 13, 16, 99, 100, 101]) (.seq (.ops [1, 8, 9, 10, 11, 12, 13, 15, 99, 100, 101, 121]) (.cond (.ops [1, 8, 9, 10, 11, 12, 13, 16, 99, 100, 101]) (.seq (.ops [6, 7]) .leaf)))))))))) (.seq (.seq (.ops [1, 8, 9, 10, 11, 12, 13, 16, 99, 100, 101, 137]) (.cond (.seq (.ops [6, 7]) .leaf) .leaf)) (.seq (.seq (.ops [1, 8, 9, 10, 11, 12, 13, 16, 99, 100, 101, 141]) (.cond (.seq (.ops [6, 7]) .leaf) .leaf)) (.seq (.ops [1, 8, 9, 10, 11, 12, 13, 16, 99, 100, 101]) (.seq (.ops [1, 8, 9, 10, 11, 12, 13, 17, 99, 100, 101]) (.seq (.seq (.ops [1, 8, 9, 10, 11, 12, 17, 99, 100, 101, 159]) (.cond (.seq (.ops [6, 7]) .leaf) .leaf)) (.ops [1, 8, 9, 10, 11, 12, 13, 99, 100, 101]))))))))))) (.ops [1, 8, 9, 10, 11, 12, 13, 99, 100, 101]))))))) (.seq (.join [13] (.seq (.ops [13, 169]) (.cond (.seq (.ops [6, 7]) .leaf) .leaf))) (.seq (.ops [6, 7]) .leaf)))))))))))))) (Tryd.f81.body.getD .skip) [a0, a1, a2] w R by kernel_rfl) h)

/-! ### 83: internal/strconv.lower -/
def sh83 (a0 : Value) (w : World) (R : Value → World → Prop) : Prop :=
 RunA Tryd.prog (bin .or 5 (.tmp 3) (.const (.int .u8 32)) a0 (.int .u8 32)) fun t4_1 =>
 R t4_1 w
theorem sh83_calls {a0 : Value} {w : World} {R : Value → World → Prop} (h : sh83 a0 w R) : CallF Tryd.prog 83 #[a0] w R :=
  calls_of_denF (mk := false) (args := [a0]) (an := (.seq (.ops [0]) (.seq (.ops [2]) .leaf))) (c := Tryd.f83.body.getD .skip) hent Tryd.func83 rfl (Nat.le_of_ble_eq_true (by kernel_rfl))
    (Eq.mp (show sh83 a0 w R = denF Tryd.prog ent false Tryd.f83 (.seq (.ops [0]) (.seq (.ops [2]) .leaf)) (Tryd.f83.body.getD .skip) [a0] w R by kernel_rfl) h)

end Go.Proofs.YtlflpbflpcmckaaDoor
