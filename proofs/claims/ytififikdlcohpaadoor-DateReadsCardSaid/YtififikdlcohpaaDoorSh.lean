/-
  The shallow forms of the functions, printed by a program (ez.py) out of Lean's print of the loaded functions; each is proved to imply the function's contract: the equations are the kernel's.
-/
import Derived.Test.YtififikdlcohpaaDoorProg
import Derived.Test.YtififikdlcohpaaDoorEzSound
namespace Go.Proofs.YtififikdlcohpaaDoor
open Go Go.Ez
set_option linter.unusedVariables false
set_option maxRecDepth 100000
def ent : List Nat := [24, 25, 26, 27, 28, 29, 30, 31, 32, 33, 34, 35, 51, 52, 53, 54, 55, 56, 57, 58, 59, 60, 61, 62, 63, 64, 65, 66, 67, 68, 69, 70, 71, 72, 73, 74, 75, 84, 85, 86, 87, 88, 94, 95, 96, 97, 98, 100, 101]
theorem hent : ∀ g, memN g ent = true → Enters Tryd.prog g := enters_all (by kernel_rfl)

/-! ### 8: handbill/hbllaw5.DateDays -/
def sh8 (a0 a1 a2 : Value) (w : World) (R : Value → World → Prop) : Prop :=
 CallF Tryd.prog 24 #[] w fun t20_1 w =>
 RunA Tryd.prog (Op.unary .not t20_1) fun t21_2 =>
 IfB t21_2 (
 R (.bool false) w) (
 CallF Tryd.prog 25 #[a0, a1, a2, (.int .i64 0), (.int .i64 0), (.int .i64 0)] w fun t26_3 w =>
 RunA Tryd.prog (Instr.extract t26_3 0) fun t27_4 =>
 RunA Tryd.prog (Instr.extract t26_3 1) fun t28_5 =>
 RunA Tryd.prog (Op.unary .not t28_5) fun t30_6 =>
 IfB t30_6 (
 CallF Tryd.prog 25 #[a0, a1, a2, (.int .i64 23), (.int .i64 59), (.int .i64 59)] w fun t35_7 w =>
 RunA Tryd.prog (Instr.extract t35_7 0) fun t36_8 =>
 RunA Tryd.prog (Instr.extract t35_7 1) fun t37_9 =>
 CallF Tryd.prog 24 #[] w fun t38_10 w =>
 IfB t38_10 (
 RunW Tryd.prog (bin .eql 3 (.tmp 40) (.const (.int .i64 0)) t27_4 (.int .i64 0)) w fun t41_11 =>
 IfB t41_11 (
 RunA Tryd.prog (Op.unary .not t37_9) fun t45_12 =>
 R t45_12 w) (
 R (.bool false) w)) (
 R (.bool false) w)) (
 RunA Tryd.prog (bin .add 3 (.tmp 49) (.const (.int .i64 1)) a2 (.int .i64 1)) fun t50_13 =>
 CallF Tryd.prog 25 #[a0, a1, t50_13, (.int .i64 0), (.int .i64 0), (.int .i64 0)] w fun t55_14 w =>
 RunA Tryd.prog (Instr.extract t55_14 0) fun t56_15 =>
 RunA Tryd.prog (Instr.extract t55_14 1) fun t57_16 =>
 jn 7 (fun t0_17 t1_18 t2_19 t7_20 t13_21 t14_22 t15_23 w =>
 jn 6 (fun t0_25 t1_26 t2_27 t7_28 t14_29 t15_30 w =>
 CallF Tryd.prog 25 #[t0_25, t1_26, t2_27, (.int .i64 23), (.int .i64 59), (.int .i64 60)] w fun t84_32 w =>
 RunA Tryd.prog (Instr.extract t84_32 0) fun t85_33 =>
 RunA Tryd.prog (Instr.extract t84_32 1) fun t86_34 =>
 CallF Tryd.prog 25 #[t0_25, t1_26, t2_27, (.int .i64 23), (.int .i64 59), (.int .i64 59)] w fun t91_35 w =>
 RunA Tryd.prog (Instr.extract t91_35 0) fun t92_36 =>
 RunA Tryd.prog (Instr.extract t91_35 1) fun t93_37 =>
 CallF Tryd.prog 24 #[] w fun t94_38 w =>
 IfB t94_38 (
 IfB t15_30 (
 RunA Tryd.prog (bin .add 3 (.tmp 99) (.const (.int .i64 86400)) t7_28 (.int .i64 86400)) fun t100_39 =>
 RunW Tryd.prog (bin .eql 3 (.tmp 98) (.tmp 100) t14_29 t100_39) w fun t101_40 =>
 IfB t101_40 (
 IfB t86_34 (
 IfB t93_37 (
 RunW Tryd.prog (bin .eql 3 (.tmp 127) (.tmp 128) t85_33 t92_36) w fun t129_41 =>
 IfB t129_41 (
 RunA Tryd.prog (bin .add 3 (.tmp 133) (.const (.int .i64 86399)) t7_28 (.int .i64 86399)) fun t134_42 =>
 RunW Tryd.prog (bin .eql 3 (.tmp 132) (.tmp 134) t92_36 t134_42) w fun t135_43 =>
 IfB t135_43 (
 RunA Tryd.prog (bin .leq 3 (.tmp 138) (.const (.int .i64 31)) t2_27 (.int .i64 31)) fun t139_44 =>
 IfB t139_44 (
 RunA Tryd.prog (bin .leq 3 (.tmp 142) (.const (.int .i64 12)) t1_26 (.int .i64 12)) fun t143_45 =>
 R t143_45 w) (
 R (.bool false) w)) (
 R (.bool false) w)) (
 R (.bool false) w)) (
 R (.bool false) w)) (
 R (.bool false) w)) (
 RunA Tryd.prog (Op.unary .not t15_30) fun t105_46 =>
 IfB t105_46 (
 RunW Tryd.prog (bin .eql 3 (.tmp 107) (.const (.int .i64 9999)) t0_25 (.int .i64 9999)) w fun t108_47 =>
 IfB t108_47 (
 RunW Tryd.prog (bin .eql 3 (.tmp 111) (.const (.int .i64 12)) t1_26 (.int .i64 12)) w fun t112_48 =>
 IfB t112_48 (
 RunW Tryd.prog (bin .eql 3 (.tmp 115) (.const (.int .i64 31)) t2_27 (.int .i64 31)) w fun t116_49 =>
 IfB t116_49 (
 IfB t86_34 (
 IfB t93_37 (
 RunW Tryd.prog (bin .eql 3 (.tmp 127) (.tmp 128) t85_33 t92_36) w fun t129_50 =>
 IfB t129_50 (
 RunA Tryd.prog (bin .add 3 (.tmp 133) (.const (.int .i64 86399)) t7_28 (.int .i64 86399)) fun t134_51 =>
 RunW Tryd.prog (bin .eql 3 (.tmp 132) (.tmp 134) t92_36 t134_51) w fun t135_52 =>
 IfB t135_52 (
 RunA Tryd.prog (bin .leq 3 (.tmp 138) (.const (.int .i64 31)) t2_27 (.int .i64 31)) fun t139_53 =>
 IfB t139_53 (
 RunA Tryd.prog (bin .leq 3 (.tmp 142) (.const (.int .i64 12)) t1_26 (.int .i64 12)) fun t143_54 =>
 R t143_54 w) (
 R (.bool false) w)) (
 R (.bool false) w)) (
 R (.bool false) w)) (
 R (.bool false) w)) (
 R (.bool false) w)) (
 R (.bool false) w)) (
 R (.bool false) w)) (
 R (.bool false) w)) (
 R (.bool false) w))) (
 RunA Tryd.prog (Op.unary .not t15_30) fun t105_55 =>
 IfB t105_55 (
 RunW Tryd.prog (bin .eql 3 (.tmp 107) (.const (.int .i64 9999)) t0_25 (.int .i64 9999)) w fun t108_56 =>
 IfB t108_56 (
 RunW Tryd.prog (bin .eql 3 (.tmp 111) (.const (.int .i64 12)) t1_26 (.int .i64 12)) w fun t112_57 =>
 IfB t112_57 (
 RunW Tryd.prog (bin .eql 3 (.tmp 115) (.const (.int .i64 31)) t2_27 (.int .i64 31)) w fun t116_58 =>
 IfB t116_58 (
 IfB t86_34 (
 IfB t93_37 (
 RunW Tryd.prog (bin .eql 3 (.tmp 127) (.tmp 128) t85_33 t92_36) w fun t129_59 =>
 IfB t129_59 (
 RunA Tryd.prog (bin .add 3 (.tmp 133) (.const (.int .i64 86399)) t7_28 (.int .i64 86399)) fun t134_60 =>
 RunW Tryd.prog (bin .eql 3 (.tmp 132) (.tmp 134) t92_36 t134_60) w fun t135_61 =>
 IfB t135_61 (
 RunA Tryd.prog (bin .leq 3 (.tmp 138) (.const (.int .i64 31)) t2_27 (.int .i64 31)) fun t139_62 =>
 IfB t139_62 (
 RunA Tryd.prog (bin .leq 3 (.tmp 142) (.const (.int .i64 12)) t1_26 (.int .i64 12)) fun t143_63 =>
 R t143_63 w) (
 R (.bool false) w)) (
 R (.bool false) w)) (
 R (.bool false) w)) (
 R (.bool false) w)) (
 R (.bool false) w)) (
 R (.bool false) w)) (
 R (.bool false) w)) (
 R (.bool false) w)) (
 R (.bool false) w))) (
 R (.bool false) w)) fun j_31 =>
 RunA Tryd.prog (Op.unary .not t15_23) fun t70_64 =>
 IfB t70_64 (
 RunA Tryd.prog (bin .add 3 (.tmp 71) (.const (.int .i64 1)) t0_17 (.int .i64 1)) fun t72_65 =>
 CallF Tryd.prog 25 #[t72_65, (.int .i64 1), t13_21, (.int .i64 0), (.int .i64 0), (.int .i64 0)] w fun t77_66 w =>
 RunA Tryd.prog (Instr.extract t77_66 0) fun t78_67 =>
 RunA Tryd.prog (Instr.extract t77_66 1) fun t79_68 =>
 j_31 t0_17 t1_18 t2_19 t7_20 t78_67 t79_68 w) (
 j_31 t0_17 t1_18 t2_19 t7_20 t14_22 t15_23 w)) fun j_24 =>
 RunA Tryd.prog (Op.unary .not t57_16) fun t59_69 =>
 IfB t59_69 (
 RunA Tryd.prog (bin .add 3 (.tmp 60) (.const (.int .i64 1)) a1 (.int .i64 1)) fun t61_70 =>
 CallF Tryd.prog 25 #[a0, t61_70, (.int .i64 1), (.int .i64 0), (.int .i64 0), (.int .i64 0)] w fun t66_71 w =>
 RunA Tryd.prog (Instr.extract t66_71 0) fun t67_72 =>
 RunA Tryd.prog (Instr.extract t66_71 1) fun t68_73 =>
 j_24 a0 a1 a2 t27_4 (.int .i64 1) t67_72 t68_73 w) (
 j_24 a0 a1 a2 t27_4 t50_13 t56_15 t57_16 w)))
theorem sh8_calls {a0 a1 a2 : Value} {w : World} {R : Value → World → Prop} (h : sh8 a0 a1 a2 w R) : CallF Tryd.prog 8 #[a0, a1, a2] w R :=
  calls_of_denF (mk := false) (args := [a0, a1, a2]) (an := (.seq (.ops [0, 1, 2]) (.seq (.seq (.ops [0, 1, 2, 21]) (.cond (.seq (.ops [6]) .leaf) .leaf)) (.seq (.ops [0, 1, 2, 7, 8]) (.seq (.seq (.ops [0, 1, 2, 7, 30]) (.cond (.seq (.ops [7, 10]) (.seq (.ops [6]) .leaf)) .leaf)) (.seq (.ops [0, 1, 2, 7, 11, 12, 13]) (.seq (.ops [0, 1, 2, 7, 11, 13, 14, 15]) (.seq (.join [0, 1, 2, 7, 13, 14, 15] (.seq (.ops [0, 1, 2, 7, 11, 13, 14, 15, 59]) (.cond (.seq (.ops [0, 1, 2, 7, 11, 12, 13]) (.ops [0, 1, 2, 7, 13, 14, 15])) .leaf))) (.seq (.join [0, 1, 2, 7, 14, 15] (.seq (.ops [0, 1, 2, 7, 13, 14, 15, 70]) (.cond (.seq (.ops [0, 1, 2, 7, 11, 12, 13]) (.ops [0, 1, 2, 7, 14, 15])) .leaf))) (.seq (.ops [0, 1, 2, 7, 14, 15, 16, 17]) (.seq (.ops [0, 1, 2, 7, 14, 15, 16, 17, 18, 19]) (.seq (.ops [6]) .leaf)))))))))))) (c := Tryd.f8.body.getD .skip) hent Tryd.func8 rfl (Nat.le_of_ble_eq_true (by kernel_rfl))
    (Eq.mp (show sh8 a0 a1 a2 w R = denF Tryd.prog ent false Tryd.f8 (.seq (.ops [0, 1, 2]) (.seq (.seq (.ops [0, 1, 2, 21]) (.cond (.seq (.ops [6]) .leaf) .leaf)) (.seq (.ops [0, 1, 2, 7, 8]) (.seq (.seq (.ops [0, 1, 2, 7, 30]) (.cond (.seq (.ops [7, 10]) (.seq (.ops [6]) .leaf)) .leaf)) (.seq (.ops [0, 1, 2, 7, 11, 12, 13]) (.seq (.ops [0, 1, 2, 7, 11, 13, 14, 15]) (.seq (.join [0, 1, 2, 7, 13, 14, 15] (.seq (.ops [0, 1, 2, 7, 11, 13, 14, 15, 59]) (.cond (.seq (.ops [0, 1, 2, 7, 11, 12, 13]) (.ops [0, 1, 2, 7, 13, 14, 15])) .leaf))) (.seq (.join [0, 1, 2, 7, 14, 15] (.seq (.ops [0, 1, 2, 7, 13, 14, 15, 70]) (.cond (.seq (.ops [0, 1, 2, 7, 11, 12, 13]) (.ops [0, 1, 2, 7, 14, 15])) .leaf))) (.seq (.ops [0, 1, 2, 7, 14, 15, 16, 17]) (.seq (.ops [0, 1, 2, 7, 14, 15, 16, 17, 18, 19]) (.seq (.ops [6]) .leaf))))))))))) (Tryd.f8.body.getD .skip) [a0, a1, a2] w R by kernel_rfl) h)

/-! ### 9: handbill/hbllaw5.DateMails -/
def sh9 (a0 a1 a2 a3 a4 a5 a6 : Value) (w : World) (R : Value → World → Prop) : Prop :=
 CallF Tryd.prog 24 #[] w fun t30_1 w =>
 RunA Tryd.prog (Op.unary .not t30_1) fun t31_2 =>
 IfB t31_2 (
 R (.bool false) w) (
 jn 8 (fun t0_3 t1_4 t2_5 t3_6 t4_7 t5_8 t6_9 t85_10 w =>
 IfB t85_10 (
 CallF Tryd.prog 24 #[] w fun t86_12 w =>
 R t86_12 w) (
 RunV Tryd.prog (Instr.buildSlice 42 12 #[(0, (.string ⟨#[74, 97, 110]⟩)), (1, (.string ⟨#[70, 101, 98]⟩)), (2, (.string ⟨#[77, 97, 114]⟩)), (3, (.string ⟨#[65, 112, 114]⟩)), (4, (.string ⟨#[77, 97, 121]⟩)), (5, (.string ⟨#[74, 117, 110]⟩)), (6, (.string ⟨#[74, 117, 108]⟩)), (7, (.string ⟨#[65, 117, 103]⟩)), (8, (.string ⟨#[83, 101, 112]⟩)), (9, (.string ⟨#[79, 99, 116]⟩)), (10, (.string ⟨#[78, 111, 118]⟩)), (11, (.string ⟨#[68, 101, 99]⟩))]) w fun t87_13 w =>
 RunV Tryd.prog (Instr.buildSlice 42 10 #[(0, (.string ⟨#[71, 77, 84]⟩)), (1, (.string ⟨#[69, 83, 84]⟩)), (2, (.string ⟨#[69, 68, 84]⟩)), (3, (.string ⟨#[67, 83, 84]⟩)), (4, (.string ⟨#[67, 68, 84]⟩)), (5, (.string ⟨#[77, 83, 84]⟩)), (6, (.string ⟨#[77, 68, 84]⟩)), (7, (.string ⟨#[80, 83, 84]⟩)), (8, (.string ⟨#[80, 68, 84]⟩)), (9, (.string ⟨#[43, 48, 49, 51, 48]⟩))]) w fun t88_14 w =>
 RunV Tryd.prog (Instr.buildSlice 43 10 #[(0, (.int .i64 0)), (1, (.int .i64 (-5))), (2, (.int .i64 (-4))), (3, (.int .i64 (-6))), (4, (.int .i64 (-5))), (5, (.int .i64 (-7))), (6, (.int .i64 (-6))), (7, (.int .i64 (-8))), (8, (.int .i64 (-7))), (9, (.int .i64 0))]) w fun t89_15 w =>
 RunA Tryd.prog (Instr.indexAt 43 t89_15 t6_9) fun t92_16 =>
 RunW Tryd.prog (Instr.loadAt 3 t92_16) w fun t93_17 =>
 RunA Tryd.prog (bin .mul 3 (.tmp 93) (.const (.int .i64 3600)) t93_17 (.int .i64 3600)) fun t94_18 =>
 jn 10 (fun t0_19 t1_20 t2_21 t3_22 t4_23 t5_24 t6_25 t15_26 t16_27 t18_28 w =>
 CallF Tryd.prog 25 #[t2_21, t1_20, t0_19, t3_22, t4_23, t5_24] w fun t104_30 w =>
 RunA Tryd.prog (Instr.extract t104_30 0) fun t105_31 =>
 RunA Tryd.prog (Instr.extract t104_30 1) fun t106_32 =>
 RunA Tryd.prog (bin .quo 3 (.tmp 107) (.const (.int .i64 100)) t2_21 (.int .i64 100)) fun t108_33 =>
 CallF Tryd.prog 26 #[t108_33] w fun t109_34 w =>
 CallF Tryd.prog 26 #[t2_21] w fun t111_35 w =>
 RunA Tryd.prog (bin .add 9 (.tmp 109) (.tmp 111) t109_34 t111_35) fun t112_36 =>
 drw (fun S_37 w =>
 RunA Tryd.prog (bin .sub 3 (.tmp 117) (.const (.int .i64 1)) t1_20 (.int .i64 1)) fun t118_38 =>
 RunA Tryd.prog (Instr.indexAt 42 t15_26 t118_38) fun t119_39 =>
 RunS Tryd.prog S_37 (Instr.loadAt 9 t119_39) fun t120_40 =>
 CallF Tryd.prog 26 #[t0_19] w fun t114_41 w =>
 S_37 w ∧ (
 RunA Tryd.prog (bin .add 9 (.tmp 114) (.const (.string ⟨#[32]⟩)) t114_41 (.string ⟨#[32]⟩)) fun t115_42 =>
 RunA Tryd.prog (bin .add 9 (.tmp 115) (.tmp 120) t115_42 t120_40) fun t121_43 =>
 RunA Tryd.prog (bin .add 9 (.tmp 121) (.const (.string ⟨#[32]⟩)) t121_43 (.string ⟨#[32]⟩)) fun t122_44 =>
 drw (fun S_45 w =>
 RunA Tryd.prog (Instr.indexAt 42 t16_27 t6_25) fun t137_46 =>
 RunS Tryd.prog S_45 (Instr.loadAt 9 t137_46) fun t138_47 =>
 CallF Tryd.prog 26 #[t3_22] w fun t124_48 w =>
 S_45 w ∧ (
 RunA Tryd.prog (bin .add 9 (.const (.string ⟨#[32]⟩)) (.tmp 124) (.string ⟨#[32]⟩) t124_48) fun t125_49 =>
 RunA Tryd.prog (bin .add 9 (.tmp 125) (.const (.string ⟨#[58]⟩)) t125_49 (.string ⟨#[58]⟩)) fun t126_50 =>
 CallF Tryd.prog 26 #[t4_23] w fun t128_51 w =>
 S_45 w ∧ (
 RunA Tryd.prog (bin .add 9 (.tmp 126) (.tmp 128) t126_50 t128_51) fun t129_52 =>
 RunA Tryd.prog (bin .add 9 (.tmp 129) (.const (.string ⟨#[58]⟩)) t129_52 (.string ⟨#[58]⟩)) fun t130_53 =>
 CallF Tryd.prog 26 #[t5_24] w fun t132_54 w =>
 S_45 w ∧ (
 RunA Tryd.prog (bin .add 9 (.tmp 130) (.tmp 132) t130_53 t132_54) fun t133_55 =>
 RunA Tryd.prog (bin .add 9 (.tmp 133) (.const (.string ⟨#[32]⟩)) t133_55 (.string ⟨#[32]⟩)) fun t134_56 =>
 RunA Tryd.prog (bin .add 9 (.tmp 134) (.tmp 138) t134_56 t138_47) fun t139_57 =>
 RunA Tryd.prog (bin .add 9 (.tmp 141) (.tmp 142) t122_44 t112_36) fun t143_58 =>
 RunA Tryd.prog (bin .add 9 (.tmp 143) (.tmp 144) t143_58 t139_57) fun t145_59 =>
 CallF Tryd.prog 27 #[t145_59] w fun t146_60 w =>
 RunA Tryd.prog (Instr.extract t146_60 0) fun t147_61 =>
 RunA Tryd.prog (Instr.extract t146_60 1) fun t148_62 =>
 RunA Tryd.prog (bin .add 9 (.const (.string ⟨#[84, 117, 101, 44, 32]⟩)) (.tmp 150) (.string ⟨#[84, 117, 101, 44, 32]⟩) t122_44) fun t151_63 =>
 CallF Tryd.prog 26 #[t2_21] w fun t153_64 w =>
 RunA Tryd.prog (bin .add 9 (.tmp 151) (.tmp 153) t151_63 t153_64) fun t154_65 =>
 RunA Tryd.prog (bin .add 9 (.tmp 154) (.tmp 155) t154_65 t139_57) fun t156_66 =>
 CallF Tryd.prog 27 #[t156_66] w fun t157_67 w =>
 RunA Tryd.prog (Instr.extract t157_67 0) fun t158_68 =>
 RunA Tryd.prog (Instr.extract t157_67 1) fun t159_69 =>
 RunA Tryd.prog (bin .add 9 (.const (.string ⟨#[84, 117, 101, 115, 100, 97, 121, 44, 32]⟩)) (.tmp 161) (.string ⟨#[84, 117, 101, 115, 100, 97, 121, 44, 32]⟩) t122_44) fun t162_70 =>
 RunA Tryd.prog (bin .add 9 (.tmp 162) (.tmp 163) t162_70 t112_36) fun t164_71 =>
 RunA Tryd.prog (bin .add 9 (.tmp 164) (.tmp 165) t164_71 t139_57) fun t166_72 =>
 CallF Tryd.prog 27 #[t166_72] w fun t167_73 w =>
 RunA Tryd.prog (Instr.extract t167_73 0) fun t168_74 =>
 RunA Tryd.prog (Instr.extract t167_73 1) fun t169_75 =>
 RunW Tryd.prog (bin .neq 23 (.tmp 170) (.tmp 171) t148_62 t159_69) w fun t172_76 =>
 IfB t172_76 (
 R (.bool false) w) (
 RunW Tryd.prog (bin .neq 3 (.tmp 174) (.tmp 175) t147_61 t158_68) w fun t176_77 =>
 IfB t176_77 (
 R (.bool false) w) (
 RunW Tryd.prog (bin .neq 23 (.tmp 179) (.const (.int .i64 4)) t169_75 (.int .i64 4)) w fun t180_78 =>
 IfB t180_78 (
 R (.bool false) w) (
 RunA Tryd.prog (Op.unary .not t106_32) fun t183_79 =>
 IfB t183_79 (
 CallF Tryd.prog 24 #[] w fun t190_80 w =>
 IfB t190_80 (
 RunW Tryd.prog (bin .eql 23 (.tmp 192) (.const (.int .i64 1)) t148_62 (.int .i64 1)) w fun t193_81 =>
 R t193_81 w) (
 R (.bool false) w)) (
 RunA Tryd.prog (bin .sub 3 (.tmp 185) (.tmp 186) t105_31 t18_28) fun t187_82 =>
 RunA Tryd.prog (bin .lss 3 (.tmp 187) (.const (.int .i64 0)) t187_82 (.int .i64 0)) fun t188_83 =>
 IfB t188_83 (
 CallF Tryd.prog 24 #[] w fun t190_84 w =>
 IfB t190_84 (
 RunW Tryd.prog (bin .eql 23 (.tmp 192) (.const (.int .i64 1)) t148_62 (.int .i64 1)) w fun t193_85 =>
 R t193_85 w) (
 R (.bool false) w)) (
 CallF Tryd.prog 24 #[] w fun t195_86 w =>
 IfB t195_86 (
 RunW Tryd.prog (bin .eql 23 (.tmp 197) (.const (.int .i64 0)) t148_62 (.int .i64 0)) w fun t198_87 =>
 IfB t198_87 (
 RunA Tryd.prog (bin .sub 3 (.tmp 202) (.tmp 203) t105_31 t18_28) fun t204_88 =>
 RunW Tryd.prog (bin .eql 3 (.tmp 201) (.tmp 204) t147_61 t204_88) w fun t205_89 =>
 R t205_89 w) (
 R (.bool false) w)) (
 R (.bool false) w)))))))))) w)) w) fun j_29 =>
 RunW Tryd.prog (bin .eql 3 (.tmp 95) (.const (.int .i64 9)) t6_9 (.int .i64 9)) w fun t96_90 =>
 IfB t96_90 (
 j_29 t0_3 t1_4 t2_5 t3_6 t4_7 t5_8 t6_9 t87_13 t88_14 (.int .i64 5400) w) (
 j_29 t0_3 t1_4 t2_5 t3_6 t4_7 t5_8 t6_9 t87_13 t88_14 t94_18 w))) fun j_11 =>
 RunA Tryd.prog (bin .lss 3 (.tmp 32) (.const (.int .i64 1)) a0 (.int .i64 1)) fun t33_91 =>
 IfB t33_91 (
 j_11 a0 a1 a2 a3 a4 a5 a6 (.bool true) w) (
 RunA Tryd.prog (bin .gtr 3 (.tmp 35) (.const (.int .i64 99)) a0 (.int .i64 99)) fun t36_92 =>
 IfB t36_92 (
 j_11 a0 a1 a2 a3 a4 a5 a6 (.bool true) w) (
 RunA Tryd.prog (bin .lss 3 (.tmp 39) (.const (.int .i64 1)) a1 (.int .i64 1)) fun t40_93 =>
 IfB t40_93 (
 j_11 a0 a1 a2 a3 a4 a5 a6 (.bool true) w) (
 RunA Tryd.prog (bin .gtr 3 (.tmp 43) (.const (.int .i64 12)) a1 (.int .i64 12)) fun t44_94 =>
 IfB t44_94 (
 j_11 a0 a1 a2 a3 a4 a5 a6 (.bool true) w) (
 RunA Tryd.prog (bin .lss 3 (.tmp 47) (.const (.int .i64 1970)) a2 (.int .i64 1970)) fun t48_95 =>
 IfB t48_95 (
 j_11 a0 a1 a2 a3 a4 a5 a6 (.bool true) w) (
 RunA Tryd.prog (bin .gtr 3 (.tmp 51) (.const (.int .i64 2068)) a2 (.int .i64 2068)) fun t52_96 =>
 IfB t52_96 (
 j_11 a0 a1 a2 a3 a4 a5 a6 (.bool true) w) (
 RunA Tryd.prog (bin .lss 3 (.tmp 55) (.const (.int .i64 0)) a3 (.int .i64 0)) fun t56_97 =>
 IfB t56_97 (
 j_11 a0 a1 a2 a3 a4 a5 a6 (.bool true) w) (
 RunA Tryd.prog (bin .gtr 3 (.tmp 59) (.const (.int .i64 99)) a3 (.int .i64 99)) fun t60_98 =>
 IfB t60_98 (
 j_11 a0 a1 a2 a3 a4 a5 a6 (.bool true) w) (
 RunA Tryd.prog (bin .lss 3 (.tmp 63) (.const (.int .i64 0)) a4 (.int .i64 0)) fun t64_99 =>
 IfB t64_99 (
 j_11 a0 a1 a2 a3 a4 a5 a6 (.bool true) w) (
 RunA Tryd.prog (bin .gtr 3 (.tmp 67) (.const (.int .i64 99)) a4 (.int .i64 99)) fun t68_100 =>
 IfB t68_100 (
 j_11 a0 a1 a2 a3 a4 a5 a6 (.bool true) w) (
 RunA Tryd.prog (bin .lss 3 (.tmp 71) (.const (.int .i64 0)) a5 (.int .i64 0)) fun t72_101 =>
 IfB t72_101 (
 j_11 a0 a1 a2 a3 a4 a5 a6 (.bool true) w) (
 RunA Tryd.prog (bin .gtr 3 (.tmp 75) (.const (.int .i64 99)) a5 (.int .i64 99)) fun t76_102 =>
 IfB t76_102 (
 j_11 a0 a1 a2 a3 a4 a5 a6 (.bool true) w) (
 RunA Tryd.prog (bin .lss 3 (.tmp 79) (.const (.int .i64 0)) a6 (.int .i64 0)) fun t80_103 =>
 IfB t80_103 (
 j_11 a0 a1 a2 a3 a4 a5 a6 (.bool true) w) (
 RunA Tryd.prog (bin .gtr 3 (.tmp 83) (.const (.int .i64 9)) a6 (.int .i64 9)) fun t84_104 =>
 j_11 a0 a1 a2 a3 a4 a5 a6 t84_104 w))))))))))))))
theorem sh9_calls {a0 a1 a2 a3 a4 a5 a6 : Value} {w : World} {R : Value → World → Prop} (h : sh9 a0 a1 a2 a3 a4 a5 a6 w R) : CallF Tryd.prog 9 #[a0, a1, a2, a3, a4, a5, a6] w R :=
  calls_of_denF (mk := false) (args := [a0, a1, a2, a3, a4, a5, a6]) (an := (.seq (.ops [0, 1, 2, 3, 4, 5, 6]) (.seq (.seq (.ops [0, 1, 2, 3, 4, 5, 6, 31]) (.cond (.seq (.ops [14]) .leaf) .leaf)) (.seq (.seq (.join [0, 1, 2, 3, 4, 5, 6, 85] (.ops [0, 1, 2, 3, 4, 5, 6, 85])) (.cond (.seq (.ops [14]) .leaf) .leaf)) (.seq (.ops [0, 1, 2, 3, 4, 5, 6, 15]) (.seq (.ops [0, 1, 2, 3, 4, 5, 6, 15, 16]) (.seq (.ops [0, 1, 2, 3, 4, 5, 6, 15, 16, 17]) (.seq (.ops [0, 1, 2, 3, 4, 5, 6, 15, 16, 18]) (.seq (.join [0, 1, 2, 3, 4, 5, 6, 15, 16, 18] (.seq (.ops [0, 1, 2, 3, 4, 5, 6, 15, 16, 18, 96]) (.cond (.ops [0, 1, 2, 3, 4, 5, 6, 15, 16, 18]) .leaf))) (.seq (.ops [0, 1, 2, 3, 4, 5, 6, 15, 16, 18, 19, 20]) (.seq (.ops [0, 1, 2, 3, 4, 5, 6, 15, 16, 18, 19, 20, 21]) (.seq (.draw (.q 0 (.q 3 (.q 4 (.q 5 (.q 6 (.q 7 (.one 1 (.q 2 (.q 8 (.q 9 (.q 10 .fin))))))))))) [2, 3, 4, 5, 6, 16, 18, 19, 20, 21, 22]) (.seq (.draw (.q 0 (.q 4 (.q 8 (.q 12 (.q 13 (.q 14 (.q 15 (.one 1 (.q 2 (.q 3 (.one 5 (.q 6 (.q 7 (.one 9 (.q 10 (.q 11 (.q 16 (.q 17 .fin)))))))))))))))))) [2, 18, 19, 20, 21, 22, 23]) (.seq (.ops [2, 18, 19, 20, 21, 22, 23, 24, 25]) (.seq (.ops [18, 19, 20, 21, 22, 23, 24, 25, 26, 27]) (.seq (.ops [18, 19, 20, 24, 25, 26, 27, 29]) (.seq (.seq (.ops [18, 19, 20, 24, 25, 181]) (.cond (.seq (.ops [14]) .leaf) .leaf)) (.seq (.seq (.ops [18, 19, 24, 25, 189]) (.cond (.seq (.ops [14]) .leaf) .leaf)) (.seq (.ops [14]) .leaf))))))))))))))))))) (c := Tryd.f9.body.getD .skip) hent Tryd.func9 rfl (Nat.le_of_ble_eq_true (by kernel_rfl))
    (Eq.mp (show sh9 a0 a1 a2 a3 a4 a5 a6 w R = denF Tryd.prog ent false Tryd.f9 (.seq (.ops [0, 1, 2, 3, 4, 5, 6]) (.seq (.seq (.ops [0, 1, 2, 3, 4, 5, 6, 31]) (.cond (.seq (.ops [14]) .leaf) .leaf)) (.seq (.seq (.join [0, 1, 2, 3, 4, 5, 6, 85] (.ops [0, 1, 2, 3, 4, 5, 6, 85])) (.cond (.seq (.ops [14]) .leaf) .leaf)) (.seq (.ops [0, 1, 2, 3, 4, 5, 6, 15]) (.seq (.ops [0, 1, 2, 3, 4, 5, 6, 15, 16]) (.seq (.ops [0, 1, 2, 3, 4, 5, 6, 15, 16, 17]) (.seq (.ops [0, 1, 2, 3, 4, 5, 6, 15, 16, 18]) (.seq (.join [0, 1, 2, 3, 4, 5, 6, 15, 16, 18] (.seq (.ops [0, 1, 2, 3, 4, 5, 6, 15, 16, 18, 96]) (.cond (.ops [0, 1, 2, 3, 4, 5, 6, 15, 16, 18]) .leaf))) (.seq (.ops [0, 1, 2, 3, 4, 5, 6, 15, 16, 18, 19, 20]) (.seq (.ops [0, 1, 2, 3, 4, 5, 6, 15, 16, 18, 19, 20, 21]) (.seq (.draw (.q 0 (.q 3 (.q 4 (.q 5 (.q 6 (.q 7 (.one 1 (.q 2 (.q 8 (.q 9 (.q 10 .fin))))))))))) [2, 3, 4, 5, 6, 16, 18, 19, 20, 21, 22]) (.seq (.draw (.q 0 (.q 4 (.q 8 (.q 12 (.q 13 (.q 14 (.q 15 (.one 1 (.q 2 (.q 3 (.one 5 (.q 6 (.q 7 (.one 9 (.q 10 (.q 11 (.q 16 (.q 17 .fin)))))))))))))))))) [2, 18, 19, 20, 21, 22, 23]) (.seq (.ops [2, 18, 19, 20, 21, 22, 23, 24, 25]) (.seq (.ops [18, 19, 20, 21, 22, 23, 24, 25, 26, 27]) (.seq (.ops [18, 19, 20, 24, 25, 26, 27, 29]) (.seq (.seq (.ops [18, 19, 20, 24, 25, 181]) (.cond (.seq (.ops [14]) .leaf) .leaf)) (.seq (.seq (.ops [18, 19, 24, 25, 189]) (.cond (.seq (.ops [14]) .leaf) .leaf)) (.seq (.ops [14]) .leaf)))))))))))))))))) (Tryd.f9.body.getD .skip) [a0, a1, a2, a3, a4, a5, a6] w R by kernel_rfl) h)

/-! ### 10: handbill/hbllaw5.DateBack -/
def sh10 (a0 a1 a2 : Value) (w : World) (R : Value → World → Prop) : Prop :=
 CallF Tryd.prog 24 #[] w fun t19_1 w =>
 RunA Tryd.prog (Op.unary .not t19_1) fun t20_2 =>
 IfB t20_2 (
 R (.bool false) w) (
 CallF Tryd.prog 28 #[a0] w fun t23_3 w =>
 RunA Tryd.prog (Instr.extract t23_3 0) fun t24_4 =>
 RunA Tryd.prog (Instr.extract t23_3 1) fun t25_5 =>
 RunW Tryd.prog (bin .neq 23 (.tmp 26) (.const (.int .i64 0)) t25_5 (.int .i64 0)) w fun t27_6 =>
 IfB t27_6 (
 CallF Tryd.prog 24 #[] w fun t28_7 w =>
 IfB t28_7 (
 RunW Tryd.prog (bin .eql 9 (.tmp 30) (.const (.string ⟨#[]⟩)) t24_4 (.string ⟨#[]⟩)) w fun t31_8 =>
 IfB t31_8 (
 RunA Tryd.prog (bin .lss 3 (.tmp 34) (.const (.int .i64 0)) a0 (.int .i64 0)) fun t35_9 =>
 IfB t35_9 (
 R (.bool true) w) (
 RunA Tryd.prog (bin .geq 3 (.tmp 37) (.const (.int .i64 253402300800)) a0 (.int .i64 253402300800)) fun t38_10 =>
 R t38_10 w)) (
 R (.bool false) w)) (
 R (.bool false) w)) (
 CallF Tryd.prog 29 #[t24_4] w fun t43_11 w =>
 RunA Tryd.prog (Instr.extract t43_11 0) fun t44_12 =>
 RunA Tryd.prog (Instr.extract t43_11 1) fun t45_13 =>
 RunW Tryd.prog (bin .neq 23 (.tmp 46) (.const (.int .i64 0)) t45_13 (.int .i64 0)) w fun t47_14 =>
 IfB t47_14 (
 R (.bool false) w) (
 RunW Tryd.prog (bin .neq 3 (.tmp 49) (.tmp 50) t44_12 a0) w fun t51_15 =>
 IfB t51_15 (
 R (.bool false) w) (
 RunW Tryd.prog (Builtin.len_ #[9] 3 #[t24_4]) w fun t55_16 =>
 RunW Tryd.prog (bin .neq 3 (.tmp 55) (.const (.int .i64 20)) t55_16 (.int .i64 20)) w fun t56_17 =>
 IfB t56_17 (
 R (.bool false) w) (
 RunA Tryd.prog (bin .lss 3 (.tmp 58) (.const (.int .i64 0)) a1 (.int .i64 0)) fun t59_18 =>
 IfB t59_18 (
 CallF Tryd.prog 24 #[] w fun t72_19 w =>
 R t72_19 w) (
 RunA Tryd.prog (bin .gtr 3 (.tmp 61) (.const (.int .i64 23)) a1 (.int .i64 23)) fun t62_20 =>
 IfB t62_20 (
 CallF Tryd.prog 24 #[] w fun t72_21 w =>
 R t72_21 w) (
 RunA Tryd.prog (bin .lss 3 (.tmp 65) (.const (.int .i64 0)) a2 (.int .i64 0)) fun t66_22 =>
 IfB t66_22 (
 CallF Tryd.prog 24 #[] w fun t72_23 w =>
 R t72_23 w) (
 RunA Tryd.prog (bin .gtr 3 (.tmp 69) (.const (.int .i64 59)) a2 (.int .i64 59)) fun t70_24 =>
 IfB t70_24 (
 CallF Tryd.prog 24 #[] w fun t72_25 w =>
 R t72_25 w) (
 RunA Tryd.prog (bin .quo 3 (.tmp 73) (.const (.int .i64 10)) a1 (.int .i64 10)) fun t74_26 =>
 RunA Tryd.prog (bin .add 3 (.const (.int .i64 48)) (.tmp 74) (.int .i64 48) t74_26) fun t75_27 =>
 RunV Tryd.prog (convert 3 5 t75_27) w fun t76_28 w =>
 RunA Tryd.prog (bin .rem 3 (.tmp 77) (.const (.int .i64 10)) a1 (.int .i64 10)) fun t78_29 =>
 RunA Tryd.prog (bin .add 3 (.const (.int .i64 48)) (.tmp 78) (.int .i64 48) t78_29) fun t79_30 =>
 RunV Tryd.prog (convert 3 5 t79_30) w fun t80_31 w =>
 RunA Tryd.prog (bin .quo 3 (.tmp 81) (.const (.int .i64 10)) a2 (.int .i64 10)) fun t82_32 =>
 RunA Tryd.prog (bin .add 3 (.const (.int .i64 48)) (.tmp 82) (.int .i64 48) t82_32) fun t83_33 =>
 RunV Tryd.prog (convert 3 5 t83_33) w fun t84_34 w =>
 RunA Tryd.prog (bin .rem 3 (.tmp 85) (.const (.int .i64 10)) a2 (.int .i64 10)) fun t86_35 =>
 RunA Tryd.prog (bin .add 3 (.const (.int .i64 48)) (.tmp 86) (.int .i64 48) t86_35) fun t87_36 =>
 RunV Tryd.prog (convert 3 5 t87_36) w fun t88_37 w =>
 RunV Tryd.prog (Instr.buildSlice 49 5 #[(0, t76_28), (1, t80_31), (2, (.int .u8 58)), (3, t84_34), (4, t88_37)]) w fun t89_38 w =>
 RunV Tryd.prog (convert 49 9 t89_38) w fun t90_39 w =>
 RunA Tryd.prog (bin .mul 3 (.tmp 91) (.const (.int .i64 3600)) a1 (.int .i64 3600)) fun t92_40 =>
 RunA Tryd.prog (bin .mul 3 (.tmp 93) (.const (.int .i64 60)) a2 (.int .i64 60)) fun t94_41 =>
 RunA Tryd.prog (bin .add 3 (.tmp 92) (.tmp 94) t92_40 t94_41) fun t95_42 =>
 RunA Tryd.prog (Instr.sliceAt 9 t24_4 none (some (.int .i64 19)) none) fun t98_43 =>
 RunA Tryd.prog (bin .add 9 (.tmp 98) (.const (.string ⟨#[45]⟩)) t98_43 (.string ⟨#[45]⟩)) fun t99_44 =>
 RunA Tryd.prog (bin .add 9 (.tmp 99) (.tmp 100) t99_44 t90_39) fun t101_45 =>
 CallF Tryd.prog 29 #[t101_45] w fun t102_46 w =>
 RunA Tryd.prog (Instr.extract t102_46 0) fun t103_47 =>
 RunA Tryd.prog (Instr.extract t102_46 1) fun t104_48 =>
 RunA Tryd.prog (Instr.sliceAt 9 t24_4 none (some (.int .i64 19)) none) fun t107_49 =>
 RunA Tryd.prog (bin .add 9 (.tmp 107) (.const (.string ⟨#[43]⟩)) t107_49 (.string ⟨#[43]⟩)) fun t108_50 =>
 RunA Tryd.prog (bin .add 9 (.tmp 108) (.tmp 109) t108_50 t90_39) fun t110_51 =>
 CallF Tryd.prog 29 #[t110_51] w fun t111_52 w =>
 RunA Tryd.prog (Instr.extract t111_52 0) fun t112_53 =>
 RunA Tryd.prog (Instr.extract t111_52 1) fun t113_54 =>
 RunA Tryd.prog (Instr.sliceAt 9 t24_4 none (some (.int .i64 19)) none) fun t116_55 =>
 RunA Tryd.prog (bin .add 9 (.tmp 116) (.const (.string ⟨#[46, 50, 53]⟩)) t116_55 (.string ⟨#[46, 50, 53]⟩)) fun t117_56 =>
 RunA Tryd.prog (bin .add 9 (.tmp 117) (.const (.string ⟨#[90]⟩)) t117_56 (.string ⟨#[90]⟩)) fun t118_57 =>
 CallF Tryd.prog 29 #[t118_57] w fun t119_58 w =>
 RunA Tryd.prog (Instr.extract t119_58 0) fun t120_59 =>
 RunA Tryd.prog (Instr.extract t119_58 1) fun t121_60 =>
 jn 3 (fun t0_61 t17_62 t18_63 w =>
 CallF Tryd.prog 24 #[] w fun t159_65 w =>
 IfB t159_65 (
 RunW Tryd.prog (bin .eql 23 (.tmp 161) (.const (.int .i64 0)) t18_63 (.int .i64 0)) w fun t162_66 =>
 IfB t162_66 (
 RunW Tryd.prog (bin .eql 3 (.tmp 165) (.tmp 166) t17_62 t0_61) w fun t167_67 =>
 R t167_67 w) (
 R (.bool false) w)) (
 R (.bool false) w)) fun j_64 =>
 RunW Tryd.prog (bin .eql 23 (.tmp 122) (.const (.int .i64 0)) t104_48 (.int .i64 0)) w fun t123_68 =>
 RunA Tryd.prog (bin .add 3 (.tmp 124) (.tmp 125) a0 t95_42) fun t126_69 =>
 RunA Tryd.prog (bin .lss 3 (.tmp 126) (.const (.int .i64 253402300800)) t126_69 (.int .i64 253402300800)) fun t127_70 =>
 RunW Tryd.prog (bin .neq 4 (.tmp 123) (.tmp 127) t123_68 t127_70) w fun t128_71 =>
 IfB t128_71 (
 R (.bool false) w) (
 RunW Tryd.prog (bin .eql 23 (.tmp 130) (.const (.int .i64 0)) t104_48 (.int .i64 0)) w fun t131_72 =>
 IfB t131_72 (
 RunA Tryd.prog (bin .add 3 (.tmp 134) (.tmp 135) a0 t95_42) fun t136_73 =>
 RunW Tryd.prog (bin .neq 3 (.tmp 133) (.tmp 136) t103_47 t136_73) w fun t137_74 =>
 IfB t137_74 (
 R (.bool false) w) (
 RunW Tryd.prog (bin .eql 23 (.tmp 141) (.const (.int .i64 0)) t113_54 (.int .i64 0)) w fun t142_75 =>
 RunA Tryd.prog (bin .geq 3 (.tmp 143) (.tmp 144) a0 t95_42) fun t145_76 =>
 RunW Tryd.prog (bin .neq 4 (.tmp 142) (.tmp 145) t142_75 t145_76) w fun t146_77 =>
 IfB t146_77 (
 R (.bool false) w) (
 RunW Tryd.prog (bin .eql 23 (.tmp 149) (.const (.int .i64 0)) t113_54 (.int .i64 0)) w fun t150_78 =>
 IfB t150_78 (
 RunA Tryd.prog (bin .sub 3 (.tmp 153) (.tmp 154) a0 t95_42) fun t155_79 =>
 RunW Tryd.prog (bin .neq 3 (.tmp 152) (.tmp 155) t112_53 t155_79) w fun t156_80 =>
 IfB t156_80 (
 R (.bool false) w) (
 j_64 a0 t120_59 t121_60 w)) (
 j_64 a0 t120_59 t121_60 w)))) (
 RunW Tryd.prog (bin .eql 23 (.tmp 141) (.const (.int .i64 0)) t113_54 (.int .i64 0)) w fun t142_81 =>
 RunA Tryd.prog (bin .geq 3 (.tmp 143) (.tmp 144) a0 t95_42) fun t145_82 =>
 RunW Tryd.prog (bin .neq 4 (.tmp 142) (.tmp 145) t142_81 t145_82) w fun t146_83 =>
 IfB t146_83 (
 R (.bool false) w) (
 RunW Tryd.prog (bin .eql 23 (.tmp 149) (.const (.int .i64 0)) t113_54 (.int .i64 0)) w fun t150_84 =>
 IfB t150_84 (
 RunA Tryd.prog (bin .sub 3 (.tmp 153) (.tmp 154) a0 t95_42) fun t155_85 =>
 RunW Tryd.prog (bin .neq 3 (.tmp 152) (.tmp 155) t112_53 t155_85) w fun t156_86 =>
 IfB t156_86 (
 R (.bool false) w) (
 j_64 a0 t120_59 t121_60 w)) (
 j_64 a0 t120_59 t121_60 w)))))))))))))
theorem sh10_calls {a0 a1 a2 : Value} {w : World} {R : Value → World → Prop} (h : sh10 a0 a1 a2 w R) : CallF Tryd.prog 10 #[a0, a1, a2] w R :=
  calls_of_denF (mk := false) (args := [a0, a1, a2]) (an := (.seq (.ops [0, 1, 2]) (.seq (.seq (.ops [0, 1, 2, 20]) (.cond (.seq (.ops [6]) .leaf) .leaf)) (.seq (.ops [0, 1, 2, 7, 8]) (.seq (.seq (.ops [0, 1, 2, 7, 27]) (.cond (.seq (.ops [6]) .leaf) .leaf)) (.seq (.ops [0, 1, 2, 7, 9, 10]) (.seq (.seq (.ops [0, 1, 2, 7, 57]) (.cond (.seq (.ops [6]) .leaf) .leaf)) (.seq (.seq (.ops [0, 1, 2, 7, 71]) (.cond (.seq (.ops [6]) .leaf) .leaf)) (.seq (.ops [0, 1, 2, 7, 11]) (.seq (.ops [0, 7, 11, 12]) (.seq (.ops [0, 7, 11, 12, 13, 14]) (.seq (.ops [0, 7, 12, 13, 14, 15, 16]) (.seq (.ops [0, 12, 13, 14, 15, 16, 17, 18]) (.seq (.join [0, 17, 18] (.seq (.ops [0, 17, 18, 158]) (.cond (.seq (.ops [6]) .leaf) .leaf))) (.seq (.ops [6]) .leaf))))))))))))))) (c := Tryd.f10.body.getD .skip) hent Tryd.func10 rfl (Nat.le_of_ble_eq_true (by kernel_rfl))
    (Eq.mp (show sh10 a0 a1 a2 w R = denF Tryd.prog ent false Tryd.f10 (.seq (.ops [0, 1, 2]) (.seq (.seq (.ops [0, 1, 2, 20]) (.cond (.seq (.ops [6]) .leaf) .leaf)) (.seq (.ops [0, 1, 2, 7, 8]) (.seq (.seq (.ops [0, 1, 2, 7, 27]) (.cond (.seq (.ops [6]) .leaf) .leaf)) (.seq (.ops [0, 1, 2, 7, 9, 10]) (.seq (.seq (.ops [0, 1, 2, 7, 57]) (.cond (.seq (.ops [6]) .leaf) .leaf)) (.seq (.seq (.ops [0, 1, 2, 7, 71]) (.cond (.seq (.ops [6]) .leaf) .leaf)) (.seq (.ops [0, 1, 2, 7, 11]) (.seq (.ops [0, 7, 11, 12]) (.seq (.ops [0, 7, 11, 12, 13, 14]) (.seq (.ops [0, 7, 12, 13, 14, 15, 16]) (.seq (.ops [0, 12, 13, 14, 15, 16, 17, 18]) (.seq (.join [0, 17, 18] (.seq (.ops [0, 17, 18, 158]) (.cond (.seq (.ops [6]) .leaf) .leaf))) (.seq (.ops [6]) .leaf)))))))))))))) (Tryd.f10.body.getD .skip) [a0, a1, a2] w R by kernel_rfl) h)

/-! ### 11: handbill/hbllaw5.DateReads -/
def sh11 (a0 a1 a2 a3 a4 a5 a6 a7 : Value) (w : World) (R : Value → World → Prop) : Prop :=
 CallF Tryd.prog 24 #[] w fun t37_1 w =>
 RunA Tryd.prog (Op.unary .not t37_1) fun t38_2 =>
 IfB t38_2 (
 R (.bool false) w) (
 RunW Tryd.prog (Builtin.len_ #[9] 3 #[a0]) w fun t40_3 =>
 RunA Tryd.prog (bin .gtr 3 (.tmp 40) (.const (.int .i64 500)) t40_3 (.int .i64 500)) fun t41_4 =>
 IfB t41_4 (
 CallF Tryd.prog 24 #[] w fun t42_5 w =>
 R t42_5 w) (
 CallF Tryd.prog 27 #[a0] w fun t45_6 w =>
 RunA Tryd.prog (Instr.extract t45_6 0) fun t46_7 =>
 RunA Tryd.prog (Instr.extract t45_6 1) fun t47_8 =>
 CallF Tryd.prog 30 #[a0] w fun t50_9 w =>
 RunA Tryd.prog (Instr.extract t50_9 0) fun t51_10 =>
 RunA Tryd.prog (Instr.extract t50_9 1) fun t52_11 =>
 CallF Tryd.prog 29 #[a0] w fun t55_12 w =>
 RunA Tryd.prog (Instr.extract t55_12 0) fun t56_13 =>
 RunA Tryd.prog (Instr.extract t55_12 1) fun t57_14 =>
 CallF Tryd.prog 31 #[a0] w fun t60_15 w =>
 RunA Tryd.prog (Instr.extract t60_15 0) fun t61_16 =>
 RunA Tryd.prog (Instr.extract t60_15 1) fun t62_17 =>
 CallF Tryd.prog 32 #[a0] w fun t65_18 w =>
 RunA Tryd.prog (Instr.extract t65_18 0) fun t66_19 =>
 RunA Tryd.prog (Instr.extract t65_18 1) fun t67_20 =>
 CallF Tryd.prog 33 #[a0] w fun t70_21 w =>
 RunA Tryd.prog (Instr.extract t70_21 0) fun t71_22 =>
 RunA Tryd.prog (Instr.extract t70_21 1) fun t72_23 =>
 CallF Tryd.prog 28 #[a1] w fun t75_24 w =>
 RunA Tryd.prog (Instr.extract t75_24 0) fun t76_25 =>
 RunA Tryd.prog (Instr.extract t75_24 1) fun t77_26 =>
 CallF Tryd.prog 34 #[a1] w fun t80_27 w =>
 RunA Tryd.prog (Instr.extract t80_27 0) fun t81_28 =>
 RunA Tryd.prog (Instr.extract t80_27 1) fun t82_29 =>
 CallF Tryd.prog 25 #[a2, a3, a4, a5, a6, a7] w fun t90_30 w =>
 RunA Tryd.prog (Instr.extract t90_30 0) fun t91_31 =>
 RunA Tryd.prog (Instr.extract t90_30 1) fun t92_32 =>
 CallF Tryd.prog 35 #[a2, a3, a4, a5, a6, a7] w fun t100_33 w =>
 RunA Tryd.prog (Instr.extract t100_33 0) fun t101_34 =>
 RunA Tryd.prog (Instr.extract t100_33 1) fun t102_35 =>
 CallF Tryd.prog 24 #[] w fun t103_36 w =>
 IfB t103_36 (
 RunW Tryd.prog (bin .eql 3 (.tmp 105) (.tmp 106) t46_7 t51_10) w fun t107_37 =>
 IfB t107_37 (
 RunW Tryd.prog (bin .eql 23 (.tmp 110) (.tmp 111) t47_8 t52_11) w fun t112_38 =>
 IfB t112_38 (
 RunW Tryd.prog (bin .eql 3 (.tmp 115) (.tmp 116) t56_13 t61_16) w fun t117_39 =>
 IfB t117_39 (
 RunW Tryd.prog (bin .eql 23 (.tmp 120) (.tmp 121) t57_14 t62_17) w fun t122_40 =>
 IfB t122_40 (
 RunW Tryd.prog (bin .eql 3 (.tmp 125) (.tmp 126) t66_19 t71_22) w fun t127_41 =>
 IfB t127_41 (
 RunW Tryd.prog (bin .eql 23 (.tmp 130) (.tmp 131) t67_20 t72_23) w fun t132_42 =>
 IfB t132_42 (
 RunW Tryd.prog (bin .eql 9 (.tmp 135) (.tmp 136) t76_25 t81_28) w fun t137_43 =>
 IfB t137_43 (
 RunW Tryd.prog (bin .eql 23 (.tmp 140) (.tmp 141) t77_26 t82_29) w fun t142_44 =>
 IfB t142_44 (
 RunW Tryd.prog (bin .eql 3 (.tmp 145) (.tmp 146) t91_31 t101_34) w fun t147_45 =>
 IfB t147_45 (
 RunW Tryd.prog (bin .eql 4 (.tmp 150) (.tmp 151) t92_32 t102_35) w fun t152_46 =>
 R t152_46 w) (
 R (.bool false) w)) (
 R (.bool false) w)) (
 R (.bool false) w)) (
 R (.bool false) w)) (
 R (.bool false) w)) (
 R (.bool false) w)) (
 R (.bool false) w)) (
 R (.bool false) w)) (
 R (.bool false) w)) (
 R (.bool false) w)))
theorem sh11_calls {a0 a1 a2 a3 a4 a5 a6 a7 : Value} {w : World} {R : Value → World → Prop} (h : sh11 a0 a1 a2 a3 a4 a5 a6 a7 w R) : CallF Tryd.prog 11 #[a0, a1, a2, a3, a4, a5, a6, a7] w R :=
  calls_of_denF (mk := false) (args := [a0, a1, a2, a3, a4, a5, a6, a7]) (an := (.seq (.ops [0, 1, 2, 3, 4, 5, 6, 7]) (.seq (.seq (.ops [0, 1, 2, 3, 4, 5, 6, 7, 38]) (.cond (.seq (.ops [16]) .leaf) .leaf)) (.seq (.seq (.ops [0, 1, 2, 3, 4, 5, 6, 7, 41]) (.cond (.seq (.ops [16]) .leaf) .leaf)) (.seq (.ops [0, 1, 2, 3, 4, 5, 6, 7, 17, 18]) (.seq (.ops [0, 1, 2, 3, 4, 5, 6, 7, 17, 18, 19, 20]) (.seq (.ops [0, 1, 2, 3, 4, 5, 6, 7, 17, 18, 19, 20, 21, 22]) (.seq (.ops [0, 1, 2, 3, 4, 5, 6, 7, 17, 18, 19, 20, 21, 22, 23, 24]) (.seq (.ops [0, 1, 2, 3, 4, 5, 6, 7, 17, 18, 19, 20, 21, 22, 23, 24, 25, 26]) (.seq (.ops [1, 2, 3, 4, 5, 6, 7, 17, 18, 19, 20, 21, 22, 23, 24, 25, 26, 27, 28]) (.seq (.ops [1, 2, 3, 4, 5, 6, 7, 17, 18, 19, 20, 21, 22, 23, 24, 25, 26, 27, 28, 29, 30]) (.seq (.ops [2, 3, 4, 5, 6, 7, 17, 18, 19, 20, 21, 22, 23, 24, 25, 26, 27, 28, 29, 30, 31, 32]) (.seq (.ops [2, 3, 4, 5, 6, 7, 17, 18, 19, 20, 21, 22, 23, 24, 25, 26, 27, 28, 29, 30, 31, 32, 33, 34]) (.seq (.ops [17, 18, 19, 20, 21, 22, 23, 24, 25, 26, 27, 28, 29, 30, 31, 32, 33, 34, 35, 36]) (.seq (.ops [16]) .leaf))))))))))))))) (c := Tryd.f11.body.getD .skip) hent Tryd.func11 rfl (Nat.le_of_ble_eq_true (by kernel_rfl))
    (Eq.mp (show sh11 a0 a1 a2 a3 a4 a5 a6 a7 w R = denF Tryd.prog ent false Tryd.f11 (.seq (.ops [0, 1, 2, 3, 4, 5, 6, 7]) (.seq (.seq (.ops [0, 1, 2, 3, 4, 5, 6, 7, 38]) (.cond (.seq (.ops [16]) .leaf) .leaf)) (.seq (.seq (.ops [0, 1, 2, 3, 4, 5, 6, 7, 41]) (.cond (.seq (.ops [16]) .leaf) .leaf)) (.seq (.ops [0, 1, 2, 3, 4, 5, 6, 7, 17, 18]) (.seq (.ops [0, 1, 2, 3, 4, 5, 6, 7, 17, 18, 19, 20]) (.seq (.ops [0, 1, 2, 3, 4, 5, 6, 7, 17, 18, 19, 20, 21, 22]) (.seq (.ops [0, 1, 2, 3, 4, 5, 6, 7, 17, 18, 19, 20, 21, 22, 23, 24]) (.seq (.ops [0, 1, 2, 3, 4, 5, 6, 7, 17, 18, 19, 20, 21, 22, 23, 24, 25, 26]) (.seq (.ops [1, 2, 3, 4, 5, 6, 7, 17, 18, 19, 20, 21, 22, 23, 24, 25, 26, 27, 28]) (.seq (.ops [1, 2, 3, 4, 5, 6, 7, 17, 18, 19, 20, 21, 22, 23, 24, 25, 26, 27, 28, 29, 30]) (.seq (.ops [2, 3, 4, 5, 6, 7, 17, 18, 19, 20, 21, 22, 23, 24, 25, 26, 27, 28, 29, 30, 31, 32]) (.seq (.ops [2, 3, 4, 5, 6, 7, 17, 18, 19, 20, 21, 22, 23, 24, 25, 26, 27, 28, 29, 30, 31, 32, 33, 34]) (.seq (.ops [17, 18, 19, 20, 21, 22, 23, 24, 25, 26, 27, 28, 29, 30, 31, 32, 33, 34, 35, 36]) (.seq (.ops [16]) .leaf)))))))))))))) (Tryd.f11.body.getD .skip) [a0, a1, a2, a3, a4, a5, a6, a7] w R by kernel_rfl) h)

/-! ### 12: handbill/hbllaw5.DateOrder -/
def sh12 (a0 a1 : Value) (w : World) (R : Value → World → Prop) : Prop :=
 CallF Tryd.prog 24 #[] w fun t11_1 w =>
 RunA Tryd.prog (Op.unary .not t11_1) fun t12_2 =>
 IfB t12_2 (
 R (.bool false) w) (
 CallF Tryd.prog 28 #[a0] w fun t15_3 w =>
 RunA Tryd.prog (Instr.extract t15_3 0) fun t16_4 =>
 RunA Tryd.prog (Instr.extract t15_3 1) fun t17_5 =>
 CallF Tryd.prog 28 #[a1] w fun t20_6 w =>
 RunA Tryd.prog (Instr.extract t20_6 0) fun t21_7 =>
 RunA Tryd.prog (Instr.extract t20_6 1) fun t22_8 =>
 RunW Tryd.prog (bin .neq 23 (.tmp 23) (.const (.int .i64 0)) t17_5 (.int .i64 0)) w fun t24_9 =>
 IfB t24_9 (
 CallF Tryd.prog 24 #[] w fun t29_10 w =>
 R t29_10 w) (
 RunW Tryd.prog (bin .neq 23 (.tmp 26) (.const (.int .i64 0)) t22_8 (.int .i64 0)) w fun t27_11 =>
 IfB t27_11 (
 CallF Tryd.prog 24 #[] w fun t29_12 w =>
 R t29_12 w) (
 CallF Tryd.prog 32 #[t16_4] w fun t32_13 w =>
 RunA Tryd.prog (Instr.extract t32_13 0) fun t33_14 =>
 RunA Tryd.prog (Instr.extract t32_13 1) fun t34_15 =>
 CallF Tryd.prog 24 #[] w fun t35_16 w =>
 IfB t35_16 (
 RunA Tryd.prog (bin .lss 3 (.tmp 37) (.tmp 38) a0 a1) fun t39_17 =>
 RunA Tryd.prog (bin .lss 9 (.tmp 40) (.tmp 41) t16_4 t21_7) fun t42_18 =>
 RunW Tryd.prog (bin .eql 4 (.tmp 39) (.tmp 42) t39_17 t42_18) w fun t43_19 =>
 IfB t43_19 (
 RunW Tryd.prog (bin .eql 23 (.tmp 46) (.const (.int .i64 0)) t34_15 (.int .i64 0)) w fun t47_20 =>
 IfB t47_20 (
 RunW Tryd.prog (bin .eql 3 (.tmp 50) (.tmp 51) t33_14 a0) w fun t52_21 =>
 R t52_21 w) (
 R (.bool false) w)) (
 R (.bool false) w)) (
 R (.bool false) w))))
theorem sh12_calls {a0 a1 : Value} {w : World} {R : Value → World → Prop} (h : sh12 a0 a1 w R) : CallF Tryd.prog 12 #[a0, a1] w R :=
  calls_of_denF (mk := false) (args := [a0, a1]) (an := (.seq (.ops [0, 1]) (.seq (.seq (.ops [0, 1, 12]) (.cond (.seq (.ops [4]) .leaf) .leaf)) (.seq (.ops [0, 1, 5, 6]) (.seq (.ops [0, 1, 5, 6, 7, 8]) (.seq (.seq (.ops [0, 1, 5, 7, 28]) (.cond (.seq (.ops [4]) .leaf) .leaf)) (.seq (.ops [0, 1, 5, 7, 9, 10]) (.seq (.ops [4]) .leaf)))))))) (c := Tryd.f12.body.getD .skip) hent Tryd.func12 rfl (Nat.le_of_ble_eq_true (by kernel_rfl))
    (Eq.mp (show sh12 a0 a1 w R = denF Tryd.prog ent false Tryd.f12 (.seq (.ops [0, 1]) (.seq (.seq (.ops [0, 1, 12]) (.cond (.seq (.ops [4]) .leaf) .leaf)) (.seq (.ops [0, 1, 5, 6]) (.seq (.ops [0, 1, 5, 6, 7, 8]) (.seq (.seq (.ops [0, 1, 5, 7, 28]) (.cond (.seq (.ops [4]) .leaf) .leaf)) (.seq (.ops [0, 1, 5, 7, 9, 10]) (.seq (.ops [4]) .leaf))))))) (Tryd.f12.body.getD .skip) [a0, a1] w R by kernel_rfl) h)

/-! ### 24: handbill/hbllaw5.first -/
def sh24 (w : World) (R : Value → World → Prop) : Prop :=
 CallF Tryd.prog 27 #[(.string ⟨#[83, 117, 110, 44, 32, 48, 54, 32, 78, 111, 118, 32, 49, 57, 57, 52, 32, 48, 56, 58, 52, 57, 58, 51, 55, 32, 71, 77, 84]⟩)] w fun t6_1 w =>
 RunA Tryd.prog (Instr.extract t6_1 0) fun t7_2 =>
 RunA Tryd.prog (Instr.extract t6_1 1) fun t8_3 =>
 CallF Tryd.prog 29 #[(.string ⟨#[49, 57, 57, 52, 45, 49, 49, 45, 48, 54, 84, 48, 57, 58, 52, 57, 58, 51, 55, 43, 48, 49, 58, 48, 48]⟩)] w fun t10_4 w =>
 RunA Tryd.prog (Instr.extract t10_4 0) fun t11_5 =>
 RunA Tryd.prog (Instr.extract t10_4 1) fun t12_6 =>
 RunW Tryd.prog (bin .eql 23 (.tmp 13) (.const (.int .i64 0)) t8_3 (.int .i64 0)) w fun t14_7 =>
 IfB t14_7 (
 RunW Tryd.prog (bin .eql 23 (.tmp 16) (.const (.int .i64 0)) t12_6 (.int .i64 0)) w fun t17_8 =>
 IfB t17_8 (
 RunW Tryd.prog (bin .eql 3 (.tmp 20) (.const (.int .i64 784111777)) t7_2 (.int .i64 784111777)) w fun t21_9 =>
 IfB t21_9 (
 RunW Tryd.prog (bin .eql 3 (.tmp 24) (.tmp 25) t11_5 t7_2) w fun t26_10 =>
 R t26_10 w) (
 R (.bool false) w)) (
 R (.bool false) w)) (
 R (.bool false) w)
theorem sh24_calls {w : World} {R : Value → World → Prop} (h : sh24  w R) : CallF Tryd.prog 24 #[] w R :=
  calls_of_denF (mk := false) (args := []) (an := (.seq (.ops []) (.seq (.ops [1, 2]) (.seq (.ops [1, 2, 3, 4]) (.seq (.ops [0]) .leaf))))) (c := Tryd.f24.body.getD .skip) hent Tryd.func24 rfl (Nat.le_of_ble_eq_true (by kernel_rfl))
    (Eq.mp (show sh24  w R = denF Tryd.prog ent false Tryd.f24 (.seq (.ops []) (.seq (.ops [1, 2]) (.seq (.ops [1, 2, 3, 4]) (.seq (.ops [0]) .leaf)))) (Tryd.f24.body.getD .skip) [] w R by kernel_rfl) h)

/-! ### 25: handbill/date.Make -/
def sh25 (a0 a1 a2 a3 a4 a5 : Value) (w : World) (R : Value → World → Prop) : Prop :=
 jn 7 (fun t0_1 t1_2 t2_3 t3_4 t4_5 t5_6 t64_7 w =>
 IfB t64_7 (
 R (.tuple #[(.int .i64 0), (.bool false)]) w) (
 CallF Tryd.prog 52 #[t0_1] w fun t66_9 w =>
 RunA Tryd.prog (bin .add 3 (.tmp 66) (.tmp 67) t66_9 t2_3) fun t68_10 =>
 RunA Tryd.prog (bin .sub 3 (.tmp 68) (.const (.int .i64 1)) t68_10 (.int .i64 1)) fun t69_11 =>
 lp 2 (fun n_14 t14_12 t15_13 w =>
 RunA Tryd.prog (bin .lss 3 (.tmp 70) (.tmp 71) t15_13 t1_2) fun t72_15 =>
 IfB t72_15 (
 CallF Tryd.prog 51 #[t0_1, t15_13] w fun t78_16 w =>
 RunA Tryd.prog (bin .add 3 (.tmp 75) (.tmp 78) t14_12 t78_16) fun t79_17 =>
 RunA Tryd.prog (bin .add 3 (.tmp 73) (.const (.int .i64 1)) t15_13 (.int .i64 1)) fun t74_18 =>
 (t0_1 : Value) = t0_1 ∧ ((t1_2 : Value) = t1_2 ∧ ((t3_4 : Value) = t3_4 ∧ ((t4_5 : Value) = t4_5 ∧ ((t5_6 : Value) = t5_6 ∧ (n_14 t79_17 t74_18 w)))))) (
 RunA Tryd.prog (bin .mul 3 (.tmp 80) (.const (.int .i64 86400)) t14_12 (.int .i64 86400)) fun t81_19 =>
 RunA Tryd.prog (bin .mul 3 (.tmp 82) (.const (.int .i64 3600)) t3_4 (.int .i64 3600)) fun t83_20 =>
 RunA Tryd.prog (bin .add 3 (.tmp 81) (.tmp 83) t81_19 t83_20) fun t84_21 =>
 RunA Tryd.prog (bin .mul 3 (.tmp 85) (.const (.int .i64 60)) t4_5 (.int .i64 60)) fun t86_22 =>
 RunA Tryd.prog (bin .add 3 (.tmp 84) (.tmp 86) t84_21 t86_22) fun t87_23 =>
 RunW Tryd.prog (Builtin.min_ #[3, 3] 3 #[t5_6, (.int .i64 59)]) w fun t89_24 =>
 RunA Tryd.prog (bin .add 3 (.tmp 87) (.tmp 89) t87_23 t89_24) fun t90_25 =>
 R (.tuple #[t90_25, (.bool true)]) w)) [t69_11, (.int .i64 1)] w)) fun j_8 =>
 RunA Tryd.prog (bin .lss 3 (.tmp 16) (.const (.int .i64 1970)) a0 (.int .i64 1970)) fun t17_26 =>
 IfB t17_26 (
 j_8 a0 a1 a2 a3 a4 a5 (.bool true) w) (
 RunA Tryd.prog (bin .gtr 3 (.tmp 19) (.const (.int .i64 9999)) a0 (.int .i64 9999)) fun t20_27 =>
 IfB t20_27 (
 j_8 a0 a1 a2 a3 a4 a5 (.bool true) w) (
 RunA Tryd.prog (bin .lss 3 (.tmp 23) (.const (.int .i64 1)) a1 (.int .i64 1)) fun t24_28 =>
 IfB t24_28 (
 j_8 a0 a1 a2 a3 a4 a5 (.bool true) w) (
 RunA Tryd.prog (bin .gtr 3 (.tmp 27) (.const (.int .i64 12)) a1 (.int .i64 12)) fun t28_29 =>
 IfB t28_29 (
 j_8 a0 a1 a2 a3 a4 a5 (.bool true) w) (
 RunA Tryd.prog (bin .lss 3 (.tmp 31) (.const (.int .i64 1)) a2 (.int .i64 1)) fun t32_30 =>
 IfB t32_30 (
 j_8 a0 a1 a2 a3 a4 a5 (.bool true) w) (
 CallF Tryd.prog 51 #[a0, a1] w fun t38_31 w =>
 RunA Tryd.prog (bin .gtr 3 (.tmp 35) (.tmp 38) a2 t38_31) fun t39_32 =>
 IfB t39_32 (
 j_8 a0 a1 a2 a3 a4 a5 (.bool true) w) (
 RunA Tryd.prog (bin .lss 3 (.tmp 42) (.const (.int .i64 0)) a3 (.int .i64 0)) fun t43_33 =>
 IfB t43_33 (
 j_8 a0 a1 a2 a3 a4 a5 (.bool true) w) (
 RunA Tryd.prog (bin .gtr 3 (.tmp 46) (.const (.int .i64 23)) a3 (.int .i64 23)) fun t47_34 =>
 IfB t47_34 (
 j_8 a0 a1 a2 a3 a4 a5 (.bool true) w) (
 RunA Tryd.prog (bin .lss 3 (.tmp 50) (.const (.int .i64 0)) a4 (.int .i64 0)) fun t51_35 =>
 IfB t51_35 (
 j_8 a0 a1 a2 a3 a4 a5 (.bool true) w) (
 RunA Tryd.prog (bin .gtr 3 (.tmp 54) (.const (.int .i64 59)) a4 (.int .i64 59)) fun t55_36 =>
 IfB t55_36 (
 j_8 a0 a1 a2 a3 a4 a5 (.bool true) w) (
 RunA Tryd.prog (bin .lss 3 (.tmp 58) (.const (.int .i64 0)) a5 (.int .i64 0)) fun t59_37 =>
 IfB t59_37 (
 j_8 a0 a1 a2 a3 a4 a5 (.bool true) w) (
 RunA Tryd.prog (bin .gtr 3 (.tmp 62) (.const (.int .i64 60)) a5 (.int .i64 60)) fun t63_38 =>
 j_8 a0 a1 a2 a3 a4 a5 t63_38 w)))))))))))
theorem sh25_calls {a0 a1 a2 a3 a4 a5 : Value} {w : World} {R : Value → World → Prop} (h : sh25 a0 a1 a2 a3 a4 a5 w R) : CallF Tryd.prog 25 #[a0, a1, a2, a3, a4, a5] w R :=
  calls_of_denF (mk := false) (args := [a0, a1, a2, a3, a4, a5]) (an := (.seq (.ops [0, 1, 2, 3, 4, 5]) (.seq (.seq (.join [0, 1, 2, 3, 4, 5, 64] (.ops [0, 1, 2, 3, 4, 5, 64])) (.cond (.seq (.ops [12, 13]) .leaf) .leaf)) (.seq (.ops [0, 1, 3, 4, 5, 14]) (.seq (.seq (.ops [0, 1, 3, 4, 5, 14, 15]) (.blk (.loop [0, 1, 3, 4, 5] [14, 15] (.seq (.seq (.ops [0, 1, 3, 4, 5, 14, 15, 72]) (.cond .leaf .leaf)) (.seq (.blk (.ops [0, 1, 3, 4, 5, 14, 15])) (.ops [0, 1, 3, 4, 5, 14, 15])))))) (.seq (.ops [12, 13]) .leaf)))))) (c := Tryd.f25.body.getD .skip) hent Tryd.func25 rfl (Nat.le_of_ble_eq_true (by kernel_rfl))
    (Eq.mp (show sh25 a0 a1 a2 a3 a4 a5 w R = denF Tryd.prog ent false Tryd.f25 (.seq (.ops [0, 1, 2, 3, 4, 5]) (.seq (.seq (.join [0, 1, 2, 3, 4, 5, 64] (.ops [0, 1, 2, 3, 4, 5, 64])) (.cond (.seq (.ops [12, 13]) .leaf) .leaf)) (.seq (.ops [0, 1, 3, 4, 5, 14]) (.seq (.seq (.ops [0, 1, 3, 4, 5, 14, 15]) (.blk (.loop [0, 1, 3, 4, 5] [14, 15] (.seq (.seq (.ops [0, 1, 3, 4, 5, 14, 15, 72]) (.cond .leaf .leaf)) (.seq (.blk (.ops [0, 1, 3, 4, 5, 14, 15])) (.ops [0, 1, 3, 4, 5, 14, 15])))))) (.seq (.ops [12, 13]) .leaf))))) (Tryd.f25.body.getD .skip) [a0, a1, a2, a3, a4, a5] w R by kernel_rfl) h)

/-! ### 26: handbill/hbllaw5.two -/
def sh26 (a0 : Value) (w : World) (R : Value → World → Prop) : Prop :=
 RunA Tryd.prog (bin .quo 3 (.tmp 3) (.const (.int .i64 10)) a0 (.int .i64 10)) fun t4_1 =>
 RunA Tryd.prog (bin .rem 3 (.tmp 4) (.const (.int .i64 10)) t4_1 (.int .i64 10)) fun t5_2 =>
 RunA Tryd.prog (bin .add 3 (.const (.int .i64 48)) (.tmp 5) (.int .i64 48) t5_2) fun t6_3 =>
 RunV Tryd.prog (convert 3 5 t6_3) w fun t7_4 w =>
 RunA Tryd.prog (bin .rem 3 (.tmp 8) (.const (.int .i64 10)) a0 (.int .i64 10)) fun t9_5 =>
 RunA Tryd.prog (bin .add 3 (.const (.int .i64 48)) (.tmp 9) (.int .i64 48) t9_5) fun t10_6 =>
 RunV Tryd.prog (convert 3 5 t10_6) w fun t11_7 w =>
 RunV Tryd.prog (Instr.buildSlice 49 2 #[(0, t7_4), (1, t11_7)]) w fun t12_8 w =>
 RunV Tryd.prog (convert 49 9 t12_8) w fun t13_9 w =>
 R t13_9 w
theorem sh26_calls {a0 : Value} {w : World} {R : Value → World → Prop} (h : sh26 a0 w R) : CallF Tryd.prog 26 #[a0] w R :=
  calls_of_denF (mk := false) (args := [a0]) (an := (.seq (.ops [0]) (.seq (.ops [2]) .leaf))) (c := Tryd.f26.body.getD .skip) hent Tryd.func26 rfl (Nat.le_of_ble_eq_true (by kernel_rfl))
    (Eq.mp (show sh26 a0 w R = denF Tryd.prog ent false Tryd.f26 (.seq (.ops [0]) (.seq (.ops [2]) .leaf)) (Tryd.f26.body.getD .skip) [a0] w R by kernel_rfl) h)

/-! ### 27: handbill/date.Mail -/
def sh27 (a0 : Value) (w : World) (R : Value → World → Prop) : Prop :=
 RunV Tryd.prog (Instr.build 76 #[(0, a0)]) w fun t7_1 w =>
 RunV Tryd.prog (Instr.box 76 t7_1) w fun t8_2 w =>
 jn 1 (fun t4_3 w =>
 RunV Tryd.prog (Instr.alloc 81 true (.tuple #[])) w fun t5_5 w =>
 CallF Tryd.prog 56 #[t4_3, (.int .i64 1), (.int .i64 2)] w fun t16_6 w =>
 RunA Tryd.prog (Instr.fieldAt 81 t5_5 2) fun t17_7 =>
 RunU Tryd.prog (Instr.storeAt 3 t17_7 t16_6) w fun w =>
 CallF Tryd.prog 55 #[t4_3, (.string ⟨#[32]⟩)] w fun t19_8 w =>
 CallF Tryd.prog 57 #[] w fun t21_9 w =>
 CallF Tryd.prog 53 #[t4_3, t21_9] w fun t22_10 w =>
 RunA Tryd.prog (Instr.fieldAt 81 t5_5 1) fun t23_11 =>
 RunU Tryd.prog (Instr.storeAt 3 t23_11 t22_10) w fun w =>
 jn 2 (fun t4_12 t5_13 w =>
 CallF Tryd.prog 55 #[t4_12, (.string ⟨#[32]⟩)] w fun t31_15 w =>
 CallF Tryd.prog 58 #[t4_12] w fun t33_16 w =>
 RunA Tryd.prog (Instr.fieldAt 81 t5_13 0) fun t34_17 =>
 RunU Tryd.prog (Instr.storeAt 3 t34_17 t33_16) w fun w =>
 CallF Tryd.prog 55 #[t4_12, (.string ⟨#[32]⟩)] w fun t36_18 w =>
 CallF Tryd.prog 56 #[t4_12, (.int .i64 2), (.int .i64 2)] w fun t38_19 w =>
 RunA Tryd.prog (Instr.fieldAt 81 t5_13 3) fun t39_20 =>
 RunU Tryd.prog (Instr.storeAt 3 t39_20 t38_19) w fun w =>
 CallF Tryd.prog 55 #[t4_12, (.string ⟨#[58]⟩)] w fun t41_21 w =>
 CallF Tryd.prog 56 #[t4_12, (.int .i64 2), (.int .i64 2)] w fun t43_22 w =>
 RunA Tryd.prog (Instr.fieldAt 81 t5_13 4) fun t44_23 =>
 RunU Tryd.prog (Instr.storeAt 3 t44_23 t43_22) w fun w =>
 jn 2 (fun t4_24 t5_25 w =>
 CallF Tryd.prog 55 #[t4_24, (.string ⟨#[32]⟩)] w fun t51_27 w =>
 CallF Tryd.prog 60 #[t4_24] w fun t53_28 w =>
 RunA Tryd.prog (Instr.fieldAt 81 t5_25 6) fun t54_29 =>
 RunU Tryd.prog (Instr.storeAt 3 t54_29 t53_28) w fun w =>
 RunW Tryd.prog (Instr.loadAt 81 t5_25) w fun t56_30 =>
 CallF Tryd.prog 61 #[t4_24, t56_30] w fun t57_31 w =>
 RunA Tryd.prog (Instr.extract t57_31 0) fun t58_32 =>
 RunA Tryd.prog (Instr.extract t57_31 1) fun t59_33 =>
 R (.tuple #[t58_32, t59_33]) w) fun j_26 =>
 CallF Tryd.prog 59 #[t4_12, (.string ⟨#[58]⟩)] w fun t46_34 w =>
 IfB t46_34 (
 CallF Tryd.prog 56 #[t4_12, (.int .i64 2), (.int .i64 2)] w fun t48_35 w =>
 RunA Tryd.prog (Instr.fieldAt 81 t5_13 5) fun t49_36 =>
 RunU Tryd.prog (Instr.storeAt 3 t49_36 t48_35) w fun w =>
 j_26 t4_12 t5_13 w) (
 j_26 t4_12 t5_13 w)) fun j_14 =>
 RunA Tryd.prog (Instr.fieldAt 81 t5_5 1) fun t24_37 =>
 RunW Tryd.prog (Instr.loadAt 3 t24_37) w fun t25_38 =>
 RunW Tryd.prog (bin .eql 3 (.tmp 25) (.const (.int .i64 0)) t25_38 (.int .i64 0)) w fun t26_39 =>
 IfB t26_39 (
 RunA Tryd.prog (nilV t4_3) fun t28_40 =>
 RunA Tryd.prog (Instr.fieldAt 76 t28_40 1) fun t29_41 =>
 RunU Tryd.prog (Instr.storeAt 4 t29_41 (.bool true)) w fun w =>
 j_14 t4_3 t5_5 w) (
 j_14 t4_3 t5_5 w)) fun j_4 =>
 CallF Tryd.prog 54 #[] w fun t10_42 w =>
 CallF Tryd.prog 53 #[t8_2, t10_42] w fun t11_43 w =>
 RunA Tryd.prog (bin .gtr 3 (.tmp 11) (.const (.int .i64 0)) t11_43 (.int .i64 0)) fun t12_44 =>
 IfB t12_44 (
 CallF Tryd.prog 55 #[t8_2, (.string ⟨#[44, 32]⟩)] w fun t14_45 w =>
 j_4 t8_2 w) (
 j_4 t8_2 w)
theorem sh27_calls {a0 : Value} {w : World} {R : Value → World → Prop} (h : sh27 a0 w R) : CallF Tryd.prog 27 #[a0] w R :=
  calls_of_denF (mk := false) (args := [a0]) (an := (.seq (.ops [0]) (.seq (.ops [4]) (.seq (.join [4] (.seq (.ops [4, 12]) (.cond (.ops [4]) .leaf))) (.seq (.ops [4, 5]) (.seq (.ops [4, 5]) (.seq (.ops [4, 5]) (.seq (.ops [4, 5]) (.seq (.join [4, 5] (.seq (.ops [4, 5, 26]) (.cond (.ops [4, 5]) .leaf))) (.seq (.ops [4, 5]) (.seq (.ops [4, 5]) (.seq (.ops [4, 5]) (.seq (.ops [4, 5]) (.seq (.ops [4, 5]) (.seq (.ops [4, 5]) (.seq (.join [4, 5] (.seq (.ops [4, 5, 46]) (.cond (.ops [4, 5]) .leaf))) (.seq (.ops [4, 5]) (.seq (.ops [4, 5]) (.seq (.ops [2, 3]) .leaf))))))))))))))))))) (c := Tryd.f27.body.getD .skip) hent Tryd.func27 rfl (Nat.le_of_ble_eq_true (by kernel_rfl))
    (Eq.mp (show sh27 a0 w R = denF Tryd.prog ent false Tryd.f27 (.seq (.ops [0]) (.seq (.ops [4]) (.seq (.join [4] (.seq (.ops [4, 12]) (.cond (.ops [4]) .leaf))) (.seq (.ops [4, 5]) (.seq (.ops [4, 5]) (.seq (.ops [4, 5]) (.seq (.ops [4, 5]) (.seq (.join [4, 5] (.seq (.ops [4, 5, 26]) (.cond (.ops [4, 5]) .leaf))) (.seq (.ops [4, 5]) (.seq (.ops [4, 5]) (.seq (.ops [4, 5]) (.seq (.ops [4, 5]) (.seq (.ops [4, 5]) (.seq (.ops [4, 5]) (.seq (.join [4, 5] (.seq (.ops [4, 5, 46]) (.cond (.ops [4, 5]) .leaf))) (.seq (.ops [4, 5]) (.seq (.ops [4, 5]) (.seq (.ops [2, 3]) .leaf)))))))))))))))))) (Tryd.f27.body.getD .skip) [a0] w R by kernel_rfl) h)

/-! ### 28: handbill/date.Print -/
def sh28 (a0 : Value) (w : World) (R : Value → World → Prop) : Prop :=
 CallF Tryd.prog 62 #[a0] w fun t10_1 w =>
 RunA Tryd.prog (Op.unary .not t10_1) fun t11_2 =>
 IfB t11_2 (
 R (.tuple #[(.string ⟨#[]⟩), (.int .i64 1)]) w) (
 RunA Tryd.prog (bin .quo 3 (.tmp 12) (.const (.int .i64 86400)) a0 (.int .i64 86400)) fun t13_3 =>
 RunA Tryd.prog (bin .rem 3 (.tmp 14) (.const (.int .i64 86400)) a0 (.int .i64 86400)) fun t15_4 =>
 RunA Tryd.prog (bin .quo 3 (.tmp 16) (.const (.int .i64 366)) t13_3 (.int .i64 366)) fun t17_5 =>
 RunA Tryd.prog (bin .add 3 (.const (.int .i64 1970)) (.tmp 17) (.int .i64 1970) t17_5) fun t18_6 =>
 lp 1 (fun n_8 t6_7 w =>
 RunA Tryd.prog (bin .add 3 (.tmp 19) (.const (.int .i64 1)) t6_7 (.int .i64 1)) fun t20_9 =>
 CallF Tryd.prog 52 #[t20_9] w fun t21_10 w =>
 RunA Tryd.prog (bin .leq 3 (.tmp 21) (.tmp 22) t21_10 t13_3) fun t23_11 =>
 IfB t23_11 (
 RunA Tryd.prog (bin .add 3 (.tmp 24) (.const (.int .i64 1)) t6_7 (.int .i64 1)) fun t25_12 =>
 (t13_3 : Value) = t13_3 ∧ ((t15_4 : Value) = t15_4 ∧ (((.int .i64 1) : Value) = (.int .i64 1) ∧ (n_8 t25_12 w)))) (
 CallF Tryd.prog 52 #[t6_7] w fun t28_13 w =>
 RunA Tryd.prog (bin .sub 3 (.tmp 26) (.tmp 28) t13_3 t28_13) fun t29_14 =>
 lp 2 (fun n_17 t7_15 t8_16 w =>
 CallF Tryd.prog 51 #[t6_7, t7_15] w fun t33_18 w =>
 RunA Tryd.prog (bin .geq 3 (.tmp 30) (.tmp 33) t8_16 t33_18) fun t34_19 =>
 IfB t34_19 (
 CallF Tryd.prog 51 #[t6_7, t7_15] w fun t38_20 w =>
 RunA Tryd.prog (bin .sub 3 (.tmp 35) (.tmp 38) t8_16 t38_20) fun t39_21 =>
 RunA Tryd.prog (bin .add 3 (.tmp 40) (.const (.int .i64 1)) t7_15 (.int .i64 1)) fun t41_22 =>
 (t15_4 : Value) = t15_4 ∧ ((t6_7 : Value) = t6_7 ∧ (n_17 t41_22 t39_21 w))) (
 CallF Tryd.prog 63 #[t6_7, (.int .i64 4)] w fun t43_23 w =>
 RunA Tryd.prog (bin .add 9 (.tmp 43) (.const (.string ⟨#[45]⟩)) t43_23 (.string ⟨#[45]⟩)) fun t44_24 =>
 CallF Tryd.prog 63 #[t7_15, (.int .i64 2)] w fun t46_25 w =>
 RunA Tryd.prog (bin .add 9 (.tmp 44) (.tmp 46) t44_24 t46_25) fun t47_26 =>
 RunA Tryd.prog (bin .add 9 (.tmp 47) (.const (.string ⟨#[45]⟩)) t47_26 (.string ⟨#[45]⟩)) fun t48_27 =>
 RunA Tryd.prog (bin .add 3 (.tmp 49) (.const (.int .i64 1)) t8_16 (.int .i64 1)) fun t50_28 =>
 CallF Tryd.prog 63 #[t50_28, (.int .i64 2)] w fun t51_29 w =>
 RunA Tryd.prog (bin .add 9 (.tmp 48) (.tmp 51) t48_27 t51_29) fun t52_30 =>
 RunA Tryd.prog (bin .add 9 (.tmp 52) (.const (.string ⟨#[84]⟩)) t52_30 (.string ⟨#[84]⟩)) fun t53_31 =>
 RunA Tryd.prog (bin .quo 3 (.tmp 54) (.const (.int .i64 3600)) t15_4 (.int .i64 3600)) fun t55_32 =>
 CallF Tryd.prog 63 #[t55_32, (.int .i64 2)] w fun t56_33 w =>
 RunA Tryd.prog (bin .add 9 (.tmp 53) (.tmp 56) t53_31 t56_33) fun t57_34 =>
 RunA Tryd.prog (bin .add 9 (.tmp 57) (.const (.string ⟨#[58]⟩)) t57_34 (.string ⟨#[58]⟩)) fun t58_35 =>
 RunA Tryd.prog (bin .quo 3 (.tmp 59) (.const (.int .i64 60)) t15_4 (.int .i64 60)) fun t60_36 =>
 RunA Tryd.prog (bin .rem 3 (.tmp 60) (.const (.int .i64 60)) t60_36 (.int .i64 60)) fun t61_37 =>
 CallF Tryd.prog 63 #[t61_37, (.int .i64 2)] w fun t62_38 w =>
 RunA Tryd.prog (bin .add 9 (.tmp 58) (.tmp 62) t58_35 t62_38) fun t63_39 =>
 RunA Tryd.prog (bin .add 9 (.tmp 63) (.const (.string ⟨#[58]⟩)) t63_39 (.string ⟨#[58]⟩)) fun t64_40 =>
 RunA Tryd.prog (bin .rem 3 (.tmp 65) (.const (.int .i64 60)) t15_4 (.int .i64 60)) fun t66_41 =>
 CallF Tryd.prog 63 #[t66_41, (.int .i64 2)] w fun t67_42 w =>
 RunA Tryd.prog (bin .add 9 (.tmp 64) (.tmp 67) t64_40 t67_42) fun t68_43 =>
 RunA Tryd.prog (bin .add 9 (.tmp 68) (.const (.string ⟨#[90]⟩)) t68_43 (.string ⟨#[90]⟩)) fun t69_44 =>
 R (.tuple #[t69_44, (.int .i64 0)]) w)) [(.int .i64 1), t29_14] w)) [t18_6] w)
theorem sh28_calls {a0 : Value} {w : World} {R : Value → World → Prop} (h : sh28 a0 w R) : CallF Tryd.prog 28 #[a0] w R :=
  calls_of_denF (mk := false) (args := [a0]) (an := (.seq (.ops [0]) (.seq (.seq (.ops [0, 11]) (.cond (.seq (.ops [2, 3]) .leaf) .leaf)) (.seq (.ops [4, 5]) (.seq (.ops [4, 5, 6, 7]) (.seq (.blk (.loop [4, 5, 7] [6] (.seq (.seq (.ops [4, 5, 6, 7, 23]) (.cond .leaf .leaf)) (.blk (.ops [4, 5, 6, 7]))))) (.seq (.ops [5, 6, 7, 8]) (.seq (.blk (.loop [5, 6] [7, 8] (.seq (.seq (.ops [5, 6, 7, 8, 34]) (.cond .leaf .leaf)) (.blk (.seq (.ops [5, 6, 7, 8]) (.ops [5, 6, 7, 8])))))) (.seq (.ops [2, 3]) .leaf))))))))) (c := Tryd.f28.body.getD .skip) hent Tryd.func28 rfl (Nat.le_of_ble_eq_true (by kernel_rfl))
    (Eq.mp (show sh28 a0 w R = denF Tryd.prog ent false Tryd.f28 (.seq (.ops [0]) (.seq (.seq (.ops [0, 11]) (.cond (.seq (.ops [2, 3]) .leaf) .leaf)) (.seq (.ops [4, 5]) (.seq (.ops [4, 5, 6, 7]) (.seq (.blk (.loop [4, 5, 7] [6] (.seq (.seq (.ops [4, 5, 6, 7, 23]) (.cond .leaf .leaf)) (.blk (.ops [4, 5, 6, 7]))))) (.seq (.ops [5, 6, 7, 8]) (.seq (.blk (.loop [5, 6] [7, 8] (.seq (.seq (.ops [5, 6, 7, 8, 34]) (.cond .leaf .leaf)) (.blk (.seq (.ops [5, 6, 7, 8]) (.ops [5, 6, 7, 8])))))) (.seq (.ops [2, 3]) .leaf)))))))) (Tryd.f28.body.getD .skip) [a0] w R by kernel_rfl) h)

/-! ### 29: handbill/date.Net -/
def sh29 (a0 : Value) (w : World) (R : Value → World → Prop) : Prop :=
 RunV Tryd.prog (Instr.build 76 #[(0, a0)]) w fun t7_1 w =>
 RunV Tryd.prog (Instr.box 76 t7_1) w fun t8_2 w =>
 RunV Tryd.prog (Instr.alloc 81 true (.tuple #[])) w fun t5_3 w =>
 CallF Tryd.prog 56 #[t8_2, (.int .i64 4), (.int .i64 4)] w fun t10_4 w =>
 RunA Tryd.prog (Instr.fieldAt 81 t5_3 0) fun t11_5 =>
 RunU Tryd.prog (Instr.storeAt 3 t11_5 t10_4) w fun w =>
 CallF Tryd.prog 55 #[t8_2, (.string ⟨#[45]⟩)] w fun t13_6 w =>
 CallF Tryd.prog 56 #[t8_2, (.int .i64 2), (.int .i64 2)] w fun t15_7 w =>
 RunA Tryd.prog (Instr.fieldAt 81 t5_3 1) fun t16_8 =>
 RunU Tryd.prog (Instr.storeAt 3 t16_8 t15_7) w fun w =>
 CallF Tryd.prog 55 #[t8_2, (.string ⟨#[45]⟩)] w fun t18_9 w =>
 CallF Tryd.prog 56 #[t8_2, (.int .i64 2), (.int .i64 2)] w fun t20_10 w =>
 RunA Tryd.prog (Instr.fieldAt 81 t5_3 2) fun t21_11 =>
 RunU Tryd.prog (Instr.storeAt 3 t21_11 t20_10) w fun w =>
 jn 2 (fun t4_12 t5_13 w =>
 CallF Tryd.prog 56 #[t4_12, (.int .i64 2), (.int .i64 2)] w fun t28_15 w =>
 RunA Tryd.prog (Instr.fieldAt 81 t5_13 3) fun t29_16 =>
 RunU Tryd.prog (Instr.storeAt 3 t29_16 t28_15) w fun w =>
 CallF Tryd.prog 55 #[t4_12, (.string ⟨#[58]⟩)] w fun t31_17 w =>
 CallF Tryd.prog 56 #[t4_12, (.int .i64 2), (.int .i64 2)] w fun t33_18 w =>
 RunA Tryd.prog (Instr.fieldAt 81 t5_13 4) fun t34_19 =>
 RunU Tryd.prog (Instr.storeAt 3 t34_19 t33_18) w fun w =>
 CallF Tryd.prog 55 #[t4_12, (.string ⟨#[58]⟩)] w fun t36_20 w =>
 CallF Tryd.prog 56 #[t4_12, (.int .i64 2), (.int .i64 2)] w fun t38_21 w =>
 RunA Tryd.prog (Instr.fieldAt 81 t5_13 5) fun t39_22 =>
 RunU Tryd.prog (Instr.storeAt 3 t39_22 t38_21) w fun w =>
 CallF Tryd.prog 64 #[t4_12] w fun t41_23 w =>
 jn 2 (fun t4_24 t5_25 w =>
 RunW Tryd.prog (Instr.loadAt 81 t5_25) w fun t54_27 =>
 CallF Tryd.prog 61 #[t4_24, t54_27] w fun t55_28 w =>
 RunA Tryd.prog (Instr.extract t55_28 0) fun t56_29 =>
 RunA Tryd.prog (Instr.extract t55_28 1) fun t57_30 =>
 R (.tuple #[t56_29, t57_30]) w) fun j_26 =>
 CallF Tryd.prog 59 #[t4_12, (.string ⟨#[90]⟩)] w fun t43_31 w =>
 RunA Tryd.prog (Op.unary .not t43_31) fun t44_32 =>
 IfB t44_32 (
 CallF Tryd.prog 59 #[t4_12, (.string ⟨#[122]⟩)] w fun t47_33 w =>
 RunA Tryd.prog (Op.unary .not t47_33) fun t48_34 =>
 IfB t48_34 (
 CallF Tryd.prog 65 #[t4_12, (.string ⟨#[58]⟩)] w fun t51_35 w =>
 RunA Tryd.prog (Instr.fieldAt 81 t5_13 6) fun t52_36 =>
 RunU Tryd.prog (Instr.storeAt 3 t52_36 t51_35) w fun w =>
 j_26 t4_12 t5_13 w) (
 j_26 t4_12 t5_13 w)) (
 j_26 t4_12 t5_13 w)) fun j_14 =>
 CallF Tryd.prog 59 #[t8_2, (.string ⟨#[84]⟩)] w fun t23_37 w =>
 RunA Tryd.prog (Op.unary .not t23_37) fun t24_38 =>
 IfB t24_38 (
 CallF Tryd.prog 55 #[t8_2, (.string ⟨#[116]⟩)] w fun t26_39 w =>
 j_14 t8_2 t5_3 w) (
 j_14 t8_2 t5_3 w)
theorem sh29_calls {a0 : Value} {w : World} {R : Value → World → Prop} (h : sh29 a0 w R) : CallF Tryd.prog 29 #[a0] w R :=
  calls_of_denF (mk := false) (args := [a0]) (an := (.seq (.ops [0]) (.seq (.ops [4]) (.seq (.ops [4, 5]) (.seq (.ops [4, 5]) (.seq (.ops [4, 5]) (.seq (.ops [4, 5]) (.seq (.ops [4, 5]) (.seq (.ops [4, 5]) (.seq (.join [4, 5] (.seq (.ops [4, 5, 24]) (.cond (.ops [4, 5]) .leaf))) (.seq (.ops [4, 5]) (.seq (.ops [4, 5]) (.seq (.ops [4, 5]) (.seq (.ops [4, 5]) (.seq (.ops [4, 5]) (.seq (.ops [4, 5]) (.seq (.join [4, 5] (.seq (.ops [4, 5, 49]) (.cond (.ops [4, 5]) .leaf))) (.seq (.ops [2, 3]) .leaf)))))))))))))))))) (c := Tryd.f29.body.getD .skip) hent Tryd.func29 rfl (Nat.le_of_ble_eq_true (by kernel_rfl))
    (Eq.mp (show sh29 a0 w R = denF Tryd.prog ent false Tryd.f29 (.seq (.ops [0]) (.seq (.ops [4]) (.seq (.ops [4, 5]) (.seq (.ops [4, 5]) (.seq (.ops [4, 5]) (.seq (.ops [4, 5]) (.seq (.ops [4, 5]) (.seq (.ops [4, 5]) (.seq (.join [4, 5] (.seq (.ops [4, 5, 24]) (.cond (.ops [4, 5]) .leaf))) (.seq (.ops [4, 5]) (.seq (.ops [4, 5]) (.seq (.ops [4, 5]) (.seq (.ops [4, 5]) (.seq (.ops [4, 5]) (.seq (.ops [4, 5]) (.seq (.join [4, 5] (.seq (.ops [4, 5, 49]) (.cond (.ops [4, 5]) .leaf))) (.seq (.ops [2, 3]) .leaf))))))))))))))))) (Tryd.f29.body.getD .skip) [a0] w R by kernel_rfl) h)

/-! ### 30: handbill/hblref1.Mail -/
def sh30 (a0 : Value) (w : World) (R : Value → World → Prop) : Prop :=
 jn 1 (fun t0_1 w =>
 CallF Tryd.prog 67 #[t0_1, (.int .u8 32)] w fun t35_3 w =>
 RunW Tryd.prog (Builtin.len_ #[42] 3 #[t35_3]) w fun t37_4 =>
 RunW Tryd.prog (bin .neq 3 (.tmp 37) (.const (.int .i64 5)) t37_4 (.int .i64 5)) w fun t38_5 =>
 IfB t38_5 (
 R (.tuple #[(.int .i64 0), (.int .i64 4)]) w) (
 jn 4 (fun t4_6 t5_7 t6_8 t7_9 w =>
 jn 4 (fun t4_11 t5_12 t6_13 t7_14 w =>
 jn 4 (fun t4_16 t5_17 t6_18 t7_19 w =>
 RunA Tryd.prog (Instr.indexAt 42 t4_16 (.int .i64 3)) fun t117_21 =>
 RunW Tryd.prog (Instr.loadAt 9 t117_21) w fun t118_22 =>
 jn 5 (fun t4_23 t5_24 t6_25 t7_26 t8_27 w =>
 CallF Tryd.prog 68 #[t8_27, (.int .i64 0), (.int .i64 2)] w fun t143_29 w =>
 CallF Tryd.prog 68 #[t8_27, (.int .i64 3), (.int .i64 2)] w fun t145_30 w =>
 jn 7 (fun t4_31 t5_32 t6_33 t7_34 t9_35 t10_36 t11_37 w =>
 RunA Tryd.prog (Instr.indexAt 42 t4_31 (.int .i64 4)) fun t153_39 =>
 RunW Tryd.prog (Instr.loadAt 9 t153_39) w fun t154_40 =>
 CallF Tryd.prog 69 #[t154_40] w fun t155_41 w =>
 RunA Tryd.prog (Instr.extract t155_41 0) fun t156_42 =>
 RunA Tryd.prog (Instr.extract t155_41 1) fun t157_43 =>
 RunA Tryd.prog (bin .lss 3 (.tmp 158) (.const (.int .i64 0)) t9_35 (.int .i64 0)) fun t159_44 =>
 IfB t159_44 (
 R (.tuple #[(.int .i64 0), (.int .i64 4)]) w) (
 RunA Tryd.prog (bin .lss 3 (.tmp 161) (.const (.int .i64 0)) t10_36 (.int .i64 0)) fun t162_45 =>
 IfB t162_45 (
 R (.tuple #[(.int .i64 0), (.int .i64 4)]) w) (
 RunA Tryd.prog (bin .lss 3 (.tmp 165) (.const (.int .i64 0)) t11_37 (.int .i64 0)) fun t166_46 =>
 IfB t166_46 (
 R (.tuple #[(.int .i64 0), (.int .i64 4)]) w) (
 RunA Tryd.prog (Op.unary .not t157_43) fun t170_47 =>
 IfB t170_47 (
 R (.tuple #[(.int .i64 0), (.int .i64 4)]) w) (
 RunA Tryd.prog (bin .add 3 (.tmp 173) (.const (.int .i64 1)) t6_33 (.int .i64 1)) fun t174_48 =>
 CallF Tryd.prog 70 #[t7_34, t174_48, t5_32, t9_35, t10_36, t11_37, t156_42] w fun t180_49 w =>
 RunA Tryd.prog (Instr.extract t180_49 0) fun t181_50 =>
 RunA Tryd.prog (Instr.extract t180_49 1) fun t182_51 =>
 R (.tuple #[t181_50, t182_51]) w))))) fun j_38 =>
 RunW Tryd.prog (Builtin.len_ #[9] 3 #[t8_27]) w fun t147_52 =>
 RunW Tryd.prog (bin .eql 3 (.tmp 147) (.const (.int .i64 8)) t147_52 (.int .i64 8)) w fun t148_53 =>
 IfB t148_53 (
 CallF Tryd.prog 68 #[t8_27, (.int .i64 6), (.int .i64 2)] w fun t150_54 w =>
 j_38 t4_23 t5_24 t6_25 t7_26 t143_29 t145_30 t150_54 w) (
 j_38 t4_23 t5_24 t6_25 t7_26 t143_29 t145_30 (.int .i64 0) w)) fun j_28 =>
 RunW Tryd.prog (Builtin.len_ #[9] 3 #[t118_22]) w fun t120_55 =>
 RunW Tryd.prog (bin .neq 3 (.tmp 120) (.const (.int .i64 5)) t120_55 (.int .i64 5)) w fun t121_56 =>
 IfB t121_56 (
 RunW Tryd.prog (Builtin.len_ #[9] 3 #[t118_22]) w fun t124_57 =>
 RunW Tryd.prog (bin .neq 3 (.tmp 124) (.const (.int .i64 8)) t124_57 (.int .i64 8)) w fun t125_58 =>
 IfB t125_58 (
 R (.tuple #[(.int .i64 0), (.int .i64 4)]) w) (
 RunA Tryd.prog (Instr.index 9 t118_22 (.int .i64 2)) fun t129_59 =>
 RunW Tryd.prog (bin .neq 5 (.tmp 129) (.const (.int .u8 58)) t129_59 (.int .u8 58)) w fun t130_60 =>
 IfB t130_60 (
 R (.tuple #[(.int .i64 0), (.int .i64 4)]) w) (
 RunW Tryd.prog (Builtin.len_ #[9] 3 #[t118_22]) w fun t134_61 =>
 RunW Tryd.prog (bin .eql 3 (.tmp 134) (.const (.int .i64 8)) t134_61 (.int .i64 8)) w fun t135_62 =>
 IfB t135_62 (
 RunA Tryd.prog (Instr.index 9 t118_22 (.int .i64 5)) fun t138_63 =>
 RunW Tryd.prog (bin .neq 5 (.tmp 138) (.const (.int .u8 58)) t138_63 (.int .u8 58)) w fun t139_64 =>
 IfB t139_64 (
 R (.tuple #[(.int .i64 0), (.int .i64 4)]) w) (
 j_28 t4_16 t5_17 t6_18 t7_19 t118_22 w)) (
 j_28 t4_16 t5_17 t6_18 t7_19 t118_22 w)))) (
 RunA Tryd.prog (Instr.index 9 t118_22 (.int .i64 2)) fun t129_65 =>
 RunW Tryd.prog (bin .neq 5 (.tmp 129) (.const (.int .u8 58)) t129_65 (.int .u8 58)) w fun t130_66 =>
 IfB t130_66 (
 R (.tuple #[(.int .i64 0), (.int .i64 4)]) w) (
 RunW Tryd.prog (Builtin.len_ #[9] 3 #[t118_22]) w fun t134_67 =>
 RunW Tryd.prog (bin .eql 3 (.tmp 134) (.const (.int .i64 8)) t134_67 (.int .i64 8)) w fun t135_68 =>
 IfB t135_68 (
 RunA Tryd.prog (Instr.index 9 t118_22 (.int .i64 5)) fun t138_69 =>
 RunW Tryd.prog (bin .neq 5 (.tmp 138) (.const (.int .u8 58)) t138_69 (.int .u8 58)) w fun t139_70 =>
 IfB t139_70 (
 R (.tuple #[(.int .i64 0), (.int .i64 4)]) w) (
 j_28 t4_16 t5_17 t6_18 t7_19 t118_22 w)) (
 j_28 t4_16 t5_17 t6_18 t7_19 t118_22 w)))) fun j_20 =>
 RunA Tryd.prog (Instr.indexAt 42 t4_11 (.int .i64 2)) fun t99_71 =>
 RunW Tryd.prog (Instr.loadAt 9 t99_71) w fun t100_72 =>
 RunW Tryd.prog (Builtin.len_ #[9] 3 #[t100_72]) w fun t101_73 =>
 RunW Tryd.prog (bin .eql 3 (.tmp 101) (.const (.int .i64 2)) t101_73 (.int .i64 2)) w fun t102_74 =>
 IfB t102_74 (
 RunA Tryd.prog (bin .lss 3 (.tmp 104) (.const (.int .i64 69)) t7_14 (.int .i64 69)) fun t105_75 =>
 IfB t105_75 (
 RunA Tryd.prog (bin .add 3 (.tmp 107) (.const (.int .i64 2000)) t7_14 (.int .i64 2000)) fun t108_76 =>
 j_20 t4_11 t5_12 t6_13 t108_76 w) (
 jn 4 (fun t4_77 t5_78 t6_79 t7_80 w =>
 j_20 t4_77 t5_78 t6_79 t7_80 w) fun j_81 =>
 RunA Tryd.prog (Instr.indexAt 42 t4_11 (.int .i64 2)) fun t110_82 =>
 RunW Tryd.prog (Instr.loadAt 9 t110_82) w fun t111_83 =>
 RunW Tryd.prog (Builtin.len_ #[9] 3 #[t111_83]) w fun t112_84 =>
 RunW Tryd.prog (bin .eql 3 (.tmp 112) (.const (.int .i64 2)) t112_84 (.int .i64 2)) w fun t113_85 =>
 IfB t113_85 (
 RunA Tryd.prog (bin .add 3 (.tmp 114) (.const (.int .i64 1900)) t7_14 (.int .i64 1900)) fun t115_86 =>
 j_81 t4_11 t5_12 t6_13 t115_86 w) (
 j_81 t4_11 t5_12 t6_13 t7_14 w))) (
 jn 4 (fun t4_87 t5_88 t6_89 t7_90 w =>
 j_20 t4_87 t5_88 t6_89 t7_90 w) fun j_91 =>
 RunA Tryd.prog (Instr.indexAt 42 t4_11 (.int .i64 2)) fun t110_92 =>
 RunW Tryd.prog (Instr.loadAt 9 t110_92) w fun t111_93 =>
 RunW Tryd.prog (Builtin.len_ #[9] 3 #[t111_93]) w fun t112_94 =>
 RunW Tryd.prog (bin .eql 3 (.tmp 112) (.const (.int .i64 2)) t112_94 (.int .i64 2)) w fun t113_95 =>
 IfB t113_95 (
 RunA Tryd.prog (bin .add 3 (.tmp 114) (.const (.int .i64 1900)) t7_14 (.int .i64 1900)) fun t115_96 =>
 j_91 t4_11 t5_12 t6_13 t115_96 w) (
 j_91 t4_11 t5_12 t6_13 t7_14 w))) fun j_15 =>
 RunA Tryd.prog (Instr.indexAt 42 t4_6 (.int .i64 0)) fun t61_97 =>
 RunW Tryd.prog (Instr.loadAt 9 t61_97) w fun t62_98 =>
 RunW Tryd.prog (Builtin.len_ #[9] 3 #[t62_98]) w fun t63_99 =>
 RunA Tryd.prog (bin .lss 3 (.tmp 63) (.const (.int .i64 1)) t63_99 (.int .i64 1)) fun t64_100 =>
 IfB t64_100 (
 R (.tuple #[(.int .i64 0), (.int .i64 4)]) w) (
 RunA Tryd.prog (Instr.indexAt 42 t4_6 (.int .i64 0)) fun t67_101 =>
 RunW Tryd.prog (Instr.loadAt 9 t67_101) w fun t68_102 =>
 RunW Tryd.prog (Builtin.len_ #[9] 3 #[t68_102]) w fun t69_103 =>
 RunA Tryd.prog (bin .gtr 3 (.tmp 69) (.const (.int .i64 2)) t69_103 (.int .i64 2)) fun t70_104 =>
 IfB t70_104 (
 R (.tuple #[(.int .i64 0), (.int .i64 4)]) w) (
 RunA Tryd.prog (bin .lss 3 (.tmp 73) (.const (.int .i64 0)) t5_7 (.int .i64 0)) fun t74_105 =>
 IfB t74_105 (
 R (.tuple #[(.int .i64 0), (.int .i64 4)]) w) (
 RunA Tryd.prog (bin .lss 3 (.tmp 77) (.const (.int .i64 0)) t6_8 (.int .i64 0)) fun t78_106 =>
 IfB t78_106 (
 R (.tuple #[(.int .i64 0), (.int .i64 4)]) w) (
 RunA Tryd.prog (Instr.indexAt 42 t4_6 (.int .i64 2)) fun t82_107 =>
 RunW Tryd.prog (Instr.loadAt 9 t82_107) w fun t83_108 =>
 RunW Tryd.prog (Builtin.len_ #[9] 3 #[t83_108]) w fun t84_109 =>
 RunW Tryd.prog (bin .neq 3 (.tmp 84) (.const (.int .i64 4)) t84_109 (.int .i64 4)) w fun t85_110 =>
 IfB t85_110 (
 RunA Tryd.prog (Instr.indexAt 42 t4_6 (.int .i64 2)) fun t88_111 =>
 RunW Tryd.prog (Instr.loadAt 9 t88_111) w fun t89_112 =>
 RunW Tryd.prog (Builtin.len_ #[9] 3 #[t89_112]) w fun t90_113 =>
 RunW Tryd.prog (bin .neq 3 (.tmp 90) (.const (.int .i64 2)) t90_113 (.int .i64 2)) w fun t91_114 =>
 IfB t91_114 (
 R (.tuple #[(.int .i64 0), (.int .i64 4)]) w) (
 RunA Tryd.prog (bin .lss 3 (.tmp 95) (.const (.int .i64 0)) t7_9 (.int .i64 0)) fun t96_115 =>
 IfB t96_115 (
 R (.tuple #[(.int .i64 0), (.int .i64 4)]) w) (
 j_15 t4_6 t5_7 t6_8 t7_9 w))) (
 RunA Tryd.prog (bin .lss 3 (.tmp 95) (.const (.int .i64 0)) t7_9 (.int .i64 0)) fun t96_116 =>
 IfB t96_116 (
 R (.tuple #[(.int .i64 0), (.int .i64 4)]) w) (
 j_15 t4_6 t5_7 t6_8 t7_9 w))))))) fun j_10 =>
 drw (fun S_117 w =>
 RunA Tryd.prog (Instr.indexAt 42 t35_3 (.int .i64 0)) fun t40_118 =>
 RunS Tryd.prog S_117 (Instr.loadAt 9 t40_118) fun t41_119 =>
 RunA Tryd.prog (Instr.indexAt 42 t35_3 (.int .i64 0)) fun t43_120 =>
 RunS Tryd.prog S_117 (Instr.loadAt 9 t43_120) fun t44_121 =>
 RunS Tryd.prog S_117 (Builtin.len_ #[9] 3 #[t44_121]) fun t45_122 =>
 RunA Tryd.prog (Instr.indexAt 42 t35_3 (.int .i64 1)) fun t49_123 =>
 RunS Tryd.prog S_117 (Instr.loadAt 9 t49_123) fun t50_124 =>
 RunA Tryd.prog (Instr.indexAt 42 t35_3 (.int .i64 2)) fun t53_125 =>
 RunS Tryd.prog S_117 (Instr.loadAt 9 t53_125) fun t54_126 =>
 RunA Tryd.prog (Instr.indexAt 42 t35_3 (.int .i64 2)) fun t56_127 =>
 RunS Tryd.prog S_117 (Instr.loadAt 9 t56_127) fun t57_128 =>
 RunS Tryd.prog S_117 (Builtin.len_ #[9] 3 #[t57_128]) fun t58_129 =>
 (CallF Tryd.prog 68 #[t41_119, (.int .i64 0), t45_122] w fun t46_130 w =>
 S_117 w ∧ (
 RunV Tryd.prog (Instr.buildSlice 42 12 #[(0, (.string ⟨#[74, 97, 110]⟩)), (1, (.string ⟨#[70, 101, 98]⟩)), (2, (.string ⟨#[77, 97, 114]⟩)), (3, (.string ⟨#[65, 112, 114]⟩)), (4, (.string ⟨#[77, 97, 121]⟩)), (5, (.string ⟨#[74, 117, 110]⟩)), (6, (.string ⟨#[74, 117, 108]⟩)), (7, (.string ⟨#[65, 117, 103]⟩)), (8, (.string ⟨#[83, 101, 112]⟩)), (9, (.string ⟨#[79, 99, 116]⟩)), (10, (.string ⟨#[78, 111, 118]⟩)), (11, (.string ⟨#[68, 101, 99]⟩))]) w fun t47_131 w =>
 S_117 w ∧ (
 CallF Tryd.prog 66 #[t47_131, t50_124] w fun t51_132 w =>
 S_117 w ∧ (
 CallF Tryd.prog 68 #[t54_126, (.int .i64 0), t58_129] w fun t59_133 w =>
 j_10 t35_3 t46_130 t51_132 t59_133 w)))) ∧ (
 (RunV Tryd.prog (Instr.buildSlice 42 12 #[(0, (.string ⟨#[74, 97, 110]⟩)), (1, (.string ⟨#[70, 101, 98]⟩)), (2, (.string ⟨#[77, 97, 114]⟩)), (3, (.string ⟨#[65, 112, 114]⟩)), (4, (.string ⟨#[77, 97, 121]⟩)), (5, (.string ⟨#[74, 117, 110]⟩)), (6, (.string ⟨#[74, 117, 108]⟩)), (7, (.string ⟨#[65, 117, 103]⟩)), (8, (.string ⟨#[83, 101, 112]⟩)), (9, (.string ⟨#[79, 99, 116]⟩)), (10, (.string ⟨#[78, 111, 118]⟩)), (11, (.string ⟨#[68, 101, 99]⟩))]) w fun t47_134 w =>
 S_117 w ∧ (
 CallF Tryd.prog 68 #[t41_119, (.int .i64 0), t45_122] w fun t46_135 w =>
 S_117 w ∧ (
 CallF Tryd.prog 66 #[t47_134, t50_124] w fun t51_136 w =>
 S_117 w ∧ (
 CallF Tryd.prog 68 #[t54_126, (.int .i64 0), t58_129] w fun t59_137 w =>
 j_10 t35_3 t46_135 t51_136 t59_137 w)))) ∧ (
 True))) w)) fun j_2 =>
 RunW Tryd.prog (Builtin.len_ #[9] 3 #[a0]) w fun t15_138 =>
 RunA Tryd.prog (bin .gtr 3 (.tmp 15) (.const (.int .i64 5)) t15_138 (.int .i64 5)) fun t16_139 =>
 IfB t16_139 (
 RunA Tryd.prog (Instr.index 9 a0 (.int .i64 3)) fun t19_140 =>
 RunW Tryd.prog (bin .eql 5 (.tmp 19) (.const (.int .u8 44)) t19_140 (.int .u8 44)) w fun t20_141 =>
 IfB t20_141 (
 RunV Tryd.prog (Instr.buildSlice 42 7 #[(0, (.string ⟨#[77, 111, 110]⟩)), (1, (.string ⟨#[84, 117, 101]⟩)), (2, (.string ⟨#[87, 101, 100]⟩)), (3, (.string ⟨#[84, 104, 117]⟩)), (4, (.string ⟨#[70, 114, 105]⟩)), (5, (.string ⟨#[83, 97, 116]⟩)), (6, (.string ⟨#[83, 117, 110]⟩))]) w fun t22_142 w =>
 RunA Tryd.prog (Instr.sliceAt 9 a0 none (some (.int .i64 3)) none) fun t24_143 =>
 CallF Tryd.prog 66 #[t22_142, t24_143] w fun t25_144 w =>
 RunA Tryd.prog (bin .lss 3 (.tmp 25) (.const (.int .i64 0)) t25_144 (.int .i64 0)) fun t26_145 =>
 IfB t26_145 (
 R (.tuple #[(.int .i64 0), (.int .i64 4)]) w) (
 RunA Tryd.prog (Instr.index 9 a0 (.int .i64 4)) fun t29_146 =>
 RunW Tryd.prog (bin .neq 5 (.tmp 29) (.const (.int .u8 32)) t29_146 (.int .u8 32)) w fun t30_147 =>
 IfB t30_147 (
 R (.tuple #[(.int .i64 0), (.int .i64 4)]) w) (
 RunA Tryd.prog (Instr.sliceAt 9 a0 (some (.int .i64 5)) none none) fun t33_148 =>
 j_2 t33_148 w))) (
 j_2 a0 w)) (
 j_2 a0 w)
theorem sh30_calls {a0 : Value} {w : World} {R : Value → World → Prop} (h : sh30 a0 w R) : CallF Tryd.prog 30 #[a0] w R :=
  calls_of_denF (mk := false) (args := [a0]) (an := (.seq (.ops [0]) (.seq (.join [0] (.seq (.ops [0, 21]) (.cond (.seq (.seq (.ops [0, 31]) (.cond (.seq (.ops [2, 3]) .leaf) .leaf)) (.ops [0])) .leaf))) (.seq (.ops [4]) (.seq (.seq (.ops [4, 38]) (.cond (.seq (.ops [2, 3]) .leaf) .leaf)) (.seq (.join [4, 5, 6, 7] (.draw (.q 0 (.q 1 (.q 2 (.q 3 (.q 4 (.q 5 (.q 6 (.q 9 (.q 10 (.q 11 (.q 13 (.q 14 (.q 15 (.q 16 (.q 17 (.q 18 (.q 19 (.alt 7 (.one 8 (.one 12 (.one 20 (.q 21 (.q 22 (.q 23 .fin)))))) (.alt 8 (.one 7 (.one 12 (.one 20 (.q 21 (.q 22 (.q 23 .fin)))))) .fin))))))))))))))))))) [4, 5, 6, 7])) (.seq (.join [4, 5, 6, 7] (.seq (.ops [4, 5, 6, 7, 97]) (.cond (.seq (.ops [2, 3]) .leaf) .leaf))) (.seq (.join [4, 5, 6, 7] (.seq (.ops [4, 5, 6, 7, 106]) (.cond (.ops [4, 5, 6, 7]) (.join [4, 5, 6, 7] (.seq (.ops [4, 5, 6, 7, 113]) (.cond (.ops [4, 5, 6, 7]) .leaf)))))) (.seq (.ops [4, 5, 6, 7, 8]) (.seq (.join [4, 5, 6, 7, 8] (.seq (.ops [4, 5, 6, 7, 8, 141]) (.cond (.seq (.ops [2, 3]) .leaf) .leaf))) (.seq (.ops [4, 5, 6, 7, 8, 9, 10, 11]) (.seq (.join [4, 5, 6, 7, 9, 10, 11] (.seq (.ops [4, 5, 6, 7, 8, 9, 10, 11, 148]) (.cond (.ops [4, 5, 6, 7, 9, 10, 11]) .leaf))) (.seq (.ops [5, 6, 7, 9, 10, 11, 12, 13]) (.seq (.seq (.ops [5, 6, 7, 9, 10, 11, 12, 171]) (.cond (.seq (.ops [2, 3]) .leaf) .leaf)) (.seq (.ops [2, 3]) .leaf))))))))))))))) (c := Tryd.f30.body.getD .skip) hent Tryd.func30 rfl (Nat.le_of_ble_eq_true (by kernel_rfl))
    (Eq.mp (show sh30 a0 w R = denF Tryd.prog ent false Tryd.f30 (.seq (.ops [0]) (.seq (.join [0] (.seq (.ops [0, 21]) (.cond (.seq (.seq (.ops [0, 31]) (.cond (.seq (.ops [2, 3]) .leaf) .leaf)) (.ops [0])) .leaf))) (.seq (.ops [4]) (.seq (.seq (.ops [4, 38]) (.cond (.seq (.ops [2, 3]) .leaf) .leaf)) (.seq (.join [4, 5, 6, 7] (.draw (.q 0 (.q 1 (.q 2 (.q 3 (.q 4 (.q 5 (.q 6 (.q 9 (.q 10 (.q 11 (.q 13 (.q 14 (.q 15 (.q 16 (.q 17 (.q 18 (.q 19 (.alt 7 (.one 8 (.one 12 (.one 20 (.q 21 (.q 22 (.q 23 .fin)))))) (.alt 8 (.one 7 (.one 12 (.one 20 (.q 21 (.q 22 (.q 23 .fin)))))) .fin))))))))))))))))))) [4, 5, 6, 7])) (.seq (.join [4, 5, 6, 7] (.seq (.ops [4, 5, 6, 7, 97]) (.cond (.seq (.ops [2, 3]) .leaf) .leaf))) (.seq (.join [4, 5, 6, 7] (.seq (.ops [4, 5, 6, 7, 106]) (.cond (.ops [4, 5, 6, 7]) (.join [4, 5, 6, 7] (.seq (.ops [4, 5, 6, 7, 113]) (.cond (.ops [4, 5, 6, 7]) .leaf)))))) (.seq (.ops [4, 5, 6, 7, 8]) (.seq (.join [4, 5, 6, 7, 8] (.seq (.ops [4, 5, 6, 7, 8, 141]) (.cond (.seq (.ops [2, 3]) .leaf) .leaf))) (.seq (.ops [4, 5, 6, 7, 8, 9, 10, 11]) (.seq (.join [4, 5, 6, 7, 9, 10, 11] (.seq (.ops [4, 5, 6, 7, 8, 9, 10, 11, 148]) (.cond (.ops [4, 5, 6, 7, 9, 10, 11]) .leaf))) (.seq (.ops [5, 6, 7, 9, 10, 11, 12, 13]) (.seq (.seq (.ops [5, 6, 7, 9, 10, 11, 12, 171]) (.cond (.seq (.ops [2, 3]) .leaf) .leaf)) (.seq (.ops [2, 3]) .leaf)))))))))))))) (Tryd.f30.body.getD .skip) [a0] w R by kernel_rfl) h)

/-! ### 31: handbill/hblref1.Net -/
def sh31 (a0 : Value) (w : World) (R : Value → World → Prop) : Prop :=
 jn 1 (fun t0_1 w =>
 CallF Tryd.prog 68 #[t0_1, (.int .i64 0), (.int .i64 4)] w fun t48_3 w =>
 CallF Tryd.prog 68 #[t0_1, (.int .i64 5), (.int .i64 2)] w fun t50_4 w =>
 CallF Tryd.prog 68 #[t0_1, (.int .i64 8), (.int .i64 2)] w fun t52_5 w =>
 CallF Tryd.prog 68 #[t0_1, (.int .i64 11), (.int .i64 2)] w fun t54_6 w =>
 CallF Tryd.prog 68 #[t0_1, (.int .i64 14), (.int .i64 2)] w fun t56_7 w =>
 CallF Tryd.prog 68 #[t0_1, (.int .i64 17), (.int .i64 2)] w fun t58_8 w =>
 RunA Tryd.prog (bin .lss 3 (.tmp 59) (.const (.int .i64 0)) t48_3 (.int .i64 0)) fun t60_9 =>
 IfB t60_9 (
 R (.tuple #[(.int .i64 0), (.int .i64 4)]) w) (
 RunA Tryd.prog (bin .lss 3 (.tmp 62) (.const (.int .i64 0)) t50_4 (.int .i64 0)) fun t63_10 =>
 IfB t63_10 (
 R (.tuple #[(.int .i64 0), (.int .i64 4)]) w) (
 RunA Tryd.prog (bin .lss 3 (.tmp 66) (.const (.int .i64 0)) t52_5 (.int .i64 0)) fun t67_11 =>
 IfB t67_11 (
 R (.tuple #[(.int .i64 0), (.int .i64 4)]) w) (
 RunA Tryd.prog (bin .lss 3 (.tmp 70) (.const (.int .i64 0)) t54_6 (.int .i64 0)) fun t71_12 =>
 IfB t71_12 (
 R (.tuple #[(.int .i64 0), (.int .i64 4)]) w) (
 RunA Tryd.prog (bin .lss 3 (.tmp 74) (.const (.int .i64 0)) t56_7 (.int .i64 0)) fun t75_13 =>
 IfB t75_13 (
 R (.tuple #[(.int .i64 0), (.int .i64 4)]) w) (
 RunA Tryd.prog (bin .lss 3 (.tmp 78) (.const (.int .i64 0)) t58_8 (.int .i64 0)) fun t79_14 =>
 IfB t79_14 (
 R (.tuple #[(.int .i64 0), (.int .i64 4)]) w) (
 jn 8 (fun t0_15 t4_16 t5_17 t6_18 t7_19 t8_20 t9_21 t10_22 w =>
 RunA Tryd.prog (Instr.sliceAt 9 t0_15 (some t10_22) none none) fun t103_24 =>
 RunW Tryd.prog (bin .eql 9 (.tmp 104) (.const (.string ⟨#[90]⟩)) t103_24 (.string ⟨#[90]⟩)) w fun t105_25 =>
 IfB t105_25 (
 CallF Tryd.prog 70 #[t4_16, t5_17, t6_18, t7_19, t8_20, t9_21, (.int .i64 0)] w fun t116_26 w =>
 RunA Tryd.prog (Instr.extract t116_26 0) fun t117_27 =>
 RunA Tryd.prog (Instr.extract t116_26 1) fun t118_28 =>
 R (.tuple #[t117_27, t118_28]) w) (
 RunW Tryd.prog (bin .eql 9 (.tmp 107) (.const (.string ⟨#[122]⟩)) t103_24 (.string ⟨#[122]⟩)) w fun t108_29 =>
 IfB t108_29 (
 CallF Tryd.prog 70 #[t4_16, t5_17, t6_18, t7_19, t8_20, t9_21, (.int .i64 0)] w fun t116_30 w =>
 RunA Tryd.prog (Instr.extract t116_30 0) fun t117_31 =>
 RunA Tryd.prog (Instr.extract t116_30 1) fun t118_32 =>
 R (.tuple #[t117_31, t118_32]) w) (
 jn 7 (fun t4_33 t5_34 t6_35 t7_36 t8_37 t9_38 t11_39 w =>
 drw (fun S_41 w =>
 RunA Tryd.prog (Instr.index 9 t11_39 (.int .i64 0)) fun t143_42 =>
 CallF Tryd.prog 68 #[t11_39, (.int .i64 1), (.int .i64 2)] w fun t139_43 w =>
 CallF Tryd.prog 68 #[t11_39, (.int .i64 4), (.int .i64 2)] w fun t141_44 w =>
 CallF Tryd.prog 71 #[t139_43, t141_44, t143_42] w fun t144_45 w =>
 RunA Tryd.prog (Instr.extract t144_45 0) fun t145_46 =>
 RunA Tryd.prog (Instr.extract t144_45 1) fun t146_47 =>
 RunA Tryd.prog (Op.unary .not t146_47) fun t148_48 =>
 IfB t148_48 (
 R (.tuple #[(.int .i64 0), (.int .i64 4)]) w) (
 CallF Tryd.prog 70 #[t4_33, t5_34, t6_35, t7_36, t8_37, t9_38, t145_46] w fun t156_49 w =>
 RunA Tryd.prog (Instr.extract t156_49 0) fun t157_50 =>
 RunA Tryd.prog (Instr.extract t156_49 1) fun t158_51 =>
 R (.tuple #[t157_50, t158_51]) w)) w) fun j_40 =>
 RunW Tryd.prog (Builtin.len_ #[9] 3 #[t103_24]) w fun t120_52 =>
 RunW Tryd.prog (bin .neq 3 (.tmp 120) (.const (.int .i64 6)) t120_52 (.int .i64 6)) w fun t121_53 =>
 IfB t121_53 (
 R (.tuple #[(.int .i64 0), (.int .i64 4)]) w) (
 RunA Tryd.prog (Instr.index 9 t103_24 (.int .i64 0)) fun t124_54 =>
 RunW Tryd.prog (bin .neq 5 (.tmp 124) (.const (.int .u8 43)) t124_54 (.int .u8 43)) w fun t125_55 =>
 IfB t125_55 (
 RunA Tryd.prog (Instr.index 9 t103_24 (.int .i64 0)) fun t128_56 =>
 RunW Tryd.prog (bin .neq 5 (.tmp 128) (.const (.int .u8 45)) t128_56 (.int .u8 45)) w fun t129_57 =>
 IfB t129_57 (
 R (.tuple #[(.int .i64 0), (.int .i64 4)]) w) (
 RunA Tryd.prog (Instr.index 9 t103_24 (.int .i64 3)) fun t134_58 =>
 RunW Tryd.prog (bin .neq 5 (.tmp 134) (.const (.int .u8 58)) t134_58 (.int .u8 58)) w fun t135_59 =>
 IfB t135_59 (
 R (.tuple #[(.int .i64 0), (.int .i64 4)]) w) (
 j_40 t4_16 t5_17 t6_18 t7_19 t8_20 t9_21 t103_24 w))) (
 RunA Tryd.prog (Instr.index 9 t103_24 (.int .i64 3)) fun t134_60 =>
 RunW Tryd.prog (bin .neq 5 (.tmp 134) (.const (.int .u8 58)) t134_60 (.int .u8 58)) w fun t135_61 =>
 IfB t135_61 (
 R (.tuple #[(.int .i64 0), (.int .i64 4)]) w) (
 j_40 t4_16 t5_17 t6_18 t7_19 t8_20 t9_21 t103_24 w)))))) fun j_23 =>
 RunA Tryd.prog (Instr.index 9 t0_1 (.int .i64 19)) fun t83_62 =>
 RunW Tryd.prog (bin .eql 5 (.tmp 83) (.const (.int .u8 46)) t83_62 (.int .u8 46)) w fun t84_63 =>
 IfB t84_63 (
 RunA Tryd.prog (bin .add 3 (.tmp 85) (.const (.int .i64 1)) (.int .i64 19) (.int .i64 1)) fun t86_64 =>
 jn 8 (fun t0_65 t4_66 t5_67 t6_68 t7_69 t8_70 t9_71 t10_72 w =>
 RunW Tryd.prog (bin .eql 3 (.tmp 99) (.const (.int .i64 20)) t10_72 (.int .i64 20)) w fun t100_74 =>
 IfB t100_74 (
 R (.tuple #[(.int .i64 0), (.int .i64 4)]) w) (
 j_23 t0_65 t4_66 t5_67 t6_68 t7_69 t8_70 t9_71 t10_72 w)) fun j_73 =>
 lp 1 (fun n_76 t10_75 w =>
 RunW Tryd.prog (Builtin.len_ #[9] 3 #[t0_1]) w fun t89_77 =>
 RunA Tryd.prog (bin .lss 3 (.tmp 87) (.tmp 89) t10_75 t89_77) fun t90_78 =>
 IfB t90_78 (
 CallF Tryd.prog 68 #[t0_1, t10_75, (.int .i64 1)] w fun t94_79 w =>
 RunA Tryd.prog (bin .geq 3 (.tmp 94) (.const (.int .i64 0)) t94_79 (.int .i64 0)) fun t95_80 =>
 IfB t95_80 (
 RunA Tryd.prog (bin .add 3 (.tmp 97) (.const (.int .i64 1)) t10_75 (.int .i64 1)) fun t98_81 =>
 (t0_1 : Value) = t0_1 ∧ ((t48_3 : Value) = t48_3 ∧ ((t50_4 : Value) = t50_4 ∧ ((t52_5 : Value) = t52_5 ∧ ((t54_6 : Value) = t54_6 ∧ ((t56_7 : Value) = t56_7 ∧ ((t58_8 : Value) = t58_8 ∧ (n_76 t98_81 w)))))))) (
 j_73 t0_1 t48_3 t50_4 t52_5 t54_6 t56_7 t58_8 t10_75 w)) (
 j_73 t0_1 t48_3 t50_4 t52_5 t54_6 t56_7 t58_8 t10_75 w)) [t86_64] w) (
 j_23 t0_1 t48_3 t50_4 t52_5 t54_6 t56_7 t58_8 (.int .i64 19) w)))))))) fun j_2 =>
 RunW Tryd.prog (Builtin.len_ #[9] 3 #[a0]) w fun t15_82 =>
 RunA Tryd.prog (bin .lss 3 (.tmp 15) (.const (.int .i64 20)) t15_82 (.int .i64 20)) fun t16_83 =>
 IfB t16_83 (
 R (.tuple #[(.int .i64 0), (.int .i64 4)]) w) (
 RunA Tryd.prog (Instr.index 9 a0 (.int .i64 4)) fun t19_84 =>
 RunW Tryd.prog (bin .neq 5 (.tmp 19) (.const (.int .u8 45)) t19_84 (.int .u8 45)) w fun t20_85 =>
 IfB t20_85 (
 R (.tuple #[(.int .i64 0), (.int .i64 4)]) w) (
 RunA Tryd.prog (Instr.index 9 a0 (.int .i64 7)) fun t24_86 =>
 RunW Tryd.prog (bin .neq 5 (.tmp 24) (.const (.int .u8 45)) t24_86 (.int .u8 45)) w fun t25_87 =>
 IfB t25_87 (
 R (.tuple #[(.int .i64 0), (.int .i64 4)]) w) (
 RunA Tryd.prog (Instr.index 9 a0 (.int .i64 10)) fun t29_88 =>
 RunW Tryd.prog (bin .neq 5 (.tmp 29) (.const (.int .u8 84)) t29_88 (.int .u8 84)) w fun t30_89 =>
 IfB t30_89 (
 RunA Tryd.prog (Instr.index 9 a0 (.int .i64 10)) fun t33_90 =>
 RunW Tryd.prog (bin .neq 5 (.tmp 33) (.const (.int .u8 116)) t33_90 (.int .u8 116)) w fun t34_91 =>
 IfB t34_91 (
 R (.tuple #[(.int .i64 0), (.int .i64 4)]) w) (
 RunA Tryd.prog (Instr.index 9 a0 (.int .i64 13)) fun t39_92 =>
 RunW Tryd.prog (bin .neq 5 (.tmp 39) (.const (.int .u8 58)) t39_92 (.int .u8 58)) w fun t40_93 =>
 IfB t40_93 (
 R (.tuple #[(.int .i64 0), (.int .i64 4)]) w) (
 RunA Tryd.prog (Instr.index 9 a0 (.int .i64 16)) fun t44_94 =>
 RunW Tryd.prog (bin .neq 5 (.tmp 44) (.const (.int .u8 58)) t44_94 (.int .u8 58)) w fun t45_95 =>
 IfB t45_95 (
 R (.tuple #[(.int .i64 0), (.int .i64 4)]) w) (
 j_2 a0 w)))) (
 RunA Tryd.prog (Instr.index 9 a0 (.int .i64 13)) fun t39_96 =>
 RunW Tryd.prog (bin .neq 5 (.tmp 39) (.const (.int .u8 58)) t39_96 (.int .u8 58)) w fun t40_97 =>
 IfB t40_97 (
 R (.tuple #[(.int .i64 0), (.int .i64 4)]) w) (
 RunA Tryd.prog (Instr.index 9 a0 (.int .i64 16)) fun t44_98 =>
 RunW Tryd.prog (bin .neq 5 (.tmp 44) (.const (.int .u8 58)) t44_98 (.int .u8 58)) w fun t45_99 =>
 IfB t45_99 (
 R (.tuple #[(.int .i64 0), (.int .i64 4)]) w) (
 j_2 a0 w))))))
theorem sh31_calls {a0 : Value} {w : World} {R : Value → World → Prop} (h : sh31 a0 w R) : CallF Tryd.prog 31 #[a0] w R :=
  calls_of_denF (mk := false) (args := [a0]) (an := (.seq (.ops [0]) (.seq (.join [0] (.seq (.ops [0, 46]) (.cond (.seq (.ops [2, 3]) .leaf) .leaf))) (.seq (.ops [0, 4, 5, 6, 7, 8, 9]) (.seq (.seq (.ops [0, 4, 5, 6, 7, 8, 9, 80]) (.cond (.seq (.ops [2, 3]) .leaf) .leaf)) (.seq (.ops [0, 4, 5, 6, 7, 8, 9, 10]) (.seq (.join [0, 4, 5, 6, 7, 8, 9, 10] (.seq (.ops [0, 4, 5, 6, 7, 8, 9, 10, 84]) (.cond (.seq (.ops [0, 4, 5, 6, 7, 8, 9, 10]) (.seq (.join [0, 4, 5, 6, 7, 8, 9, 10] (.blk (.loop [0, 4, 5, 6, 7, 8, 9] [10] (.seq (.seq (.ops [0, 4, 5, 6, 7, 8, 9, 10, 96]) (.cond .leaf .leaf)) (.blk (.ops [0, 4, 5, 6, 7, 8, 9, 10])))))) (.seq (.ops [0, 4, 5, 6, 7, 8, 9, 10, 100]) (.cond (.seq (.ops [2, 3]) .leaf) .leaf)))) .leaf))) (.seq (.ops [4, 5, 6, 7, 8, 9, 11]) (.seq (.seq (.ops [4, 5, 6, 7, 8, 9, 11, 109]) (.cond (.seq (.ops [2, 3]) .leaf) .leaf)) (.seq (.join [4, 5, 6, 7, 8, 9, 11] (.seq (.ops [4, 5, 6, 7, 8, 9, 11, 136]) (.cond (.seq (.ops [2, 3]) .leaf) .leaf))) (.seq (.draw (.q 0 (.q 2 (.q 4 (.q 5 (.one 1 (.one 3 (.one 6 (.q 7 (.q 8 (.q 9 (.q 10 (.q 11 .fin)))))))))))) [4, 5, 6, 7, 8, 9, 12, 13]) (.seq (.seq (.ops [4, 5, 6, 7, 8, 9, 12, 148]) (.cond (.seq (.ops [2, 3]) .leaf) .leaf)) (.seq (.ops [2, 3]) .leaf))))))))))))) (c := Tryd.f31.body.getD .skip) hent Tryd.func31 rfl (Nat.le_of_ble_eq_true (by kernel_rfl))
    (Eq.mp (show sh31 a0 w R = denF Tryd.prog ent false Tryd.f31 (.seq (.ops [0]) (.seq (.join [0] (.seq (.ops [0, 46]) (.cond (.seq (.ops [2, 3]) .leaf) .leaf))) (.seq (.ops [0, 4, 5, 6, 7, 8, 9]) (.seq (.seq (.ops [0, 4, 5, 6, 7, 8, 9, 80]) (.cond (.seq (.ops [2, 3]) .leaf) .leaf)) (.seq (.ops [0, 4, 5, 6, 7, 8, 9, 10]) (.seq (.join [0, 4, 5, 6, 7, 8, 9, 10] (.seq (.ops [0, 4, 5, 6, 7, 8, 9, 10, 84]) (.cond (.seq (.ops [0, 4, 5, 6, 7, 8, 9, 10]) (.seq (.join [0, 4, 5, 6, 7, 8, 9, 10] (.blk (.loop [0, 4, 5, 6, 7, 8, 9] [10] (.seq (.seq (.ops [0, 4, 5, 6, 7, 8, 9, 10, 96]) (.cond .leaf .leaf)) (.blk (.ops [0, 4, 5, 6, 7, 8, 9, 10])))))) (.seq (.ops [0, 4, 5, 6, 7, 8, 9, 10, 100]) (.cond (.seq (.ops [2, 3]) .leaf) .leaf)))) .leaf))) (.seq (.ops [4, 5, 6, 7, 8, 9, 11]) (.seq (.seq (.ops [4, 5, 6, 7, 8, 9, 11, 109]) (.cond (.seq (.ops [2, 3]) .leaf) .leaf)) (.seq (.join [4, 5, 6, 7, 8, 9, 11] (.seq (.ops [4, 5, 6, 7, 8, 9, 11, 136]) (.cond (.seq (.ops [2, 3]) .leaf) .leaf))) (.seq (.draw (.q 0 (.q 2 (.q 4 (.q 5 (.one 1 (.one 3 (.one 6 (.q 7 (.q 8 (.q 9 (.q 10 (.q 11 .fin)))))))))))) [4, 5, 6, 7, 8, 9, 12, 13]) (.seq (.seq (.ops [4, 5, 6, 7, 8, 9, 12, 148]) (.cond (.seq (.ops [2, 3]) .leaf) .leaf)) (.seq (.ops [2, 3]) .leaf)))))))))))) (Tryd.f31.body.getD .skip) [a0] w R by kernel_rfl) h)

/-! ### 32: handbill/date.Any -/
def sh32 (a0 : Value) (w : World) (R : Value → World → Prop) : Prop :=
 CallF Tryd.prog 29 #[a0] w fun t8_1 w =>
 RunA Tryd.prog (Instr.extract t8_1 0) fun t9_2 =>
 RunA Tryd.prog (Instr.extract t8_1 1) fun t10_3 =>
 RunW Tryd.prog (bin .neq 23 (.tmp 11) (.const (.int .i64 4)) t10_3 (.int .i64 4)) w fun t12_4 =>
 IfB t12_4 (
 R (.tuple #[t9_2, t10_3]) w) (
 CallF Tryd.prog 27 #[a0] w fun t16_5 w =>
 RunA Tryd.prog (Instr.extract t16_5 0) fun t17_6 =>
 RunA Tryd.prog (Instr.extract t16_5 1) fun t18_7 =>
 R (.tuple #[t17_6, t18_7]) w)
theorem sh32_calls {a0 : Value} {w : World} {R : Value → World → Prop} (h : sh32 a0 w R) : CallF Tryd.prog 32 #[a0] w R :=
  calls_of_denF (mk := false) (args := [a0]) (an := (.seq (.ops [0]) (.seq (.seq (.ops [0, 4, 5]) (.seq (.ops [0, 4, 5, 12]) (.cond (.seq (.ops [2, 3]) .leaf) .leaf))) (.seq (.ops [2, 3]) .leaf)))) (c := Tryd.f32.body.getD .skip) hent Tryd.func32 rfl (Nat.le_of_ble_eq_true (by kernel_rfl))
    (Eq.mp (show sh32 a0 w R = denF Tryd.prog ent false Tryd.f32 (.seq (.ops [0]) (.seq (.seq (.ops [0, 4, 5]) (.seq (.ops [0, 4, 5, 12]) (.cond (.seq (.ops [2, 3]) .leaf) .leaf))) (.seq (.ops [2, 3]) .leaf))) (Tryd.f32.body.getD .skip) [a0] w R by kernel_rfl) h)

/-! ### 33: handbill/hblref1.Any -/
def sh33 (a0 : Value) (w : World) (R : Value → World → Prop) : Prop :=
 CallF Tryd.prog 31 #[a0] w fun t8_1 w =>
 RunA Tryd.prog (Instr.extract t8_1 0) fun t9_2 =>
 RunA Tryd.prog (Instr.extract t8_1 1) fun t10_3 =>
 RunW Tryd.prog (bin .eql 23 (.tmp 11) (.const (.int .i64 4)) t10_3 (.int .i64 4)) w fun t12_4 =>
 IfB t12_4 (
 CallF Tryd.prog 30 #[a0] w fun t14_5 w =>
 RunA Tryd.prog (Instr.extract t14_5 0) fun t15_6 =>
 RunA Tryd.prog (Instr.extract t14_5 1) fun t16_7 =>
 R (.tuple #[t15_6, t16_7]) w) (
 R (.tuple #[t9_2, t10_3]) w)
theorem sh33_calls {a0 : Value} {w : World} {R : Value → World → Prop} (h : sh33 a0 w R) : CallF Tryd.prog 33 #[a0] w R :=
  calls_of_denF (mk := false) (args := [a0]) (an := (.seq (.ops [0]) (.seq (.ops [0, 4, 5]) (.seq (.seq (.ops [0, 4, 5, 12]) (.cond (.seq (.ops [2, 3]) .leaf) .leaf)) (.seq (.ops [2, 3]) .leaf))))) (c := Tryd.f33.body.getD .skip) hent Tryd.func33 rfl (Nat.le_of_ble_eq_true (by kernel_rfl))
    (Eq.mp (show sh33 a0 w R = denF Tryd.prog ent false Tryd.f33 (.seq (.ops [0]) (.seq (.ops [0, 4, 5]) (.seq (.seq (.ops [0, 4, 5, 12]) (.cond (.seq (.ops [2, 3]) .leaf) .leaf)) (.seq (.ops [2, 3]) .leaf)))) (Tryd.f33.body.getD .skip) [a0] w R by kernel_rfl) h)

/-! ### 34: handbill/hblref1.Date -/
def sh34 (a0 : Value) (w : World) (R : Value → World → Prop) : Prop :=
 CallF Tryd.prog 72 #[a0] w fun t10_1 w =>
 RunA Tryd.prog (Op.unary .not t10_1) fun t11_2 =>
 IfB t11_2 (
 R (.tuple #[(.string ⟨#[]⟩), (.int .i64 1)]) w) (
 RunA Tryd.prog (bin .quo 3 (.tmp 12) (.const (.int .i64 86400)) a0 (.int .i64 86400)) fun t13_3 =>
 RunA Tryd.prog (bin .rem 3 (.tmp 14) (.const (.int .i64 86400)) a0 (.int .i64 86400)) fun t15_4 =>
 lp 1 (fun n_6 t6_5 w =>
 RunA Tryd.prog (bin .add 3 (.tmp 16) (.const (.int .i64 1)) t6_5 (.int .i64 1)) fun t17_7 =>
 CallF Tryd.prog 73 #[t17_7] w fun t18_8 w =>
 RunA Tryd.prog (bin .leq 3 (.tmp 18) (.tmp 19) t18_8 t13_3) fun t20_9 =>
 IfB t20_9 (
 RunA Tryd.prog (bin .add 3 (.tmp 21) (.const (.int .i64 1)) t6_5 (.int .i64 1)) fun t22_10 =>
 (t13_3 : Value) = t13_3 ∧ ((t15_4 : Value) = t15_4 ∧ (n_6 t22_10 w))) (
 CallF Tryd.prog 73 #[t6_5] w fun t25_11 w =>
 RunA Tryd.prog (bin .sub 3 (.tmp 23) (.tmp 25) t13_3 t25_11) fun t26_12 =>
 lp 2 (fun n_15 t7_13 t8_14 w =>
 CallF Tryd.prog 74 #[t6_5, t8_14] w fun t30_16 w =>
 RunA Tryd.prog (bin .geq 3 (.tmp 27) (.tmp 30) t7_13 t30_16) fun t31_17 =>
 IfB t31_17 (
 CallF Tryd.prog 74 #[t6_5, t8_14] w fun t35_18 w =>
 RunA Tryd.prog (bin .sub 3 (.tmp 32) (.tmp 35) t7_13 t35_18) fun t36_19 =>
 RunA Tryd.prog (bin .add 3 (.tmp 37) (.const (.int .i64 1)) t8_14 (.int .i64 1)) fun t38_20 =>
 (t15_4 : Value) = t15_4 ∧ ((t6_5 : Value) = t6_5 ∧ (n_15 t36_19 t38_20 w))) (
 RunA Tryd.prog (bin .quo 3 (.tmp 39) (.const (.int .i64 100)) t6_5 (.int .i64 100)) fun t40_21 =>
 CallF Tryd.prog 75 #[t40_21] w fun t41_22 w =>
 CallF Tryd.prog 75 #[t6_5] w fun t43_23 w =>
 RunA Tryd.prog (bin .add 9 (.tmp 41) (.tmp 43) t41_22 t43_23) fun t44_24 =>
 RunA Tryd.prog (bin .add 9 (.tmp 44) (.const (.string ⟨#[45]⟩)) t44_24 (.string ⟨#[45]⟩)) fun t45_25 =>
 CallF Tryd.prog 75 #[t8_14] w fun t47_26 w =>
 RunA Tryd.prog (bin .add 9 (.tmp 45) (.tmp 47) t45_25 t47_26) fun t48_27 =>
 RunA Tryd.prog (bin .add 9 (.tmp 48) (.const (.string ⟨#[45]⟩)) t48_27 (.string ⟨#[45]⟩)) fun t49_28 =>
 RunA Tryd.prog (bin .add 3 (.tmp 50) (.const (.int .i64 1)) t7_13 (.int .i64 1)) fun t51_29 =>
 CallF Tryd.prog 75 #[t51_29] w fun t52_30 w =>
 RunA Tryd.prog (bin .add 9 (.tmp 49) (.tmp 52) t49_28 t52_30) fun t53_31 =>
 RunA Tryd.prog (bin .add 9 (.tmp 53) (.const (.string ⟨#[84]⟩)) t53_31 (.string ⟨#[84]⟩)) fun t54_32 =>
 RunA Tryd.prog (bin .quo 3 (.tmp 55) (.const (.int .i64 3600)) t15_4 (.int .i64 3600)) fun t56_33 =>
 CallF Tryd.prog 75 #[t56_33] w fun t57_34 w =>
 RunA Tryd.prog (bin .add 9 (.tmp 54) (.tmp 57) t54_32 t57_34) fun t58_35 =>
 RunA Tryd.prog (bin .add 9 (.tmp 58) (.const (.string ⟨#[58]⟩)) t58_35 (.string ⟨#[58]⟩)) fun t59_36 =>
 RunA Tryd.prog (bin .quo 3 (.tmp 60) (.const (.int .i64 60)) t15_4 (.int .i64 60)) fun t61_37 =>
 RunA Tryd.prog (bin .rem 3 (.tmp 61) (.const (.int .i64 60)) t61_37 (.int .i64 60)) fun t62_38 =>
 CallF Tryd.prog 75 #[t62_38] w fun t63_39 w =>
 RunA Tryd.prog (bin .add 9 (.tmp 59) (.tmp 63) t59_36 t63_39) fun t64_40 =>
 RunA Tryd.prog (bin .add 9 (.tmp 64) (.const (.string ⟨#[58]⟩)) t64_40 (.string ⟨#[58]⟩)) fun t65_41 =>
 RunA Tryd.prog (bin .rem 3 (.tmp 66) (.const (.int .i64 60)) t15_4 (.int .i64 60)) fun t67_42 =>
 CallF Tryd.prog 75 #[t67_42] w fun t68_43 w =>
 RunA Tryd.prog (bin .add 9 (.tmp 65) (.tmp 68) t65_41 t68_43) fun t69_44 =>
 RunA Tryd.prog (bin .add 9 (.tmp 69) (.const (.string ⟨#[90]⟩)) t69_44 (.string ⟨#[90]⟩)) fun t70_45 =>
 R (.tuple #[t70_45, (.int .i64 0)]) w)) [t26_12, (.int .i64 1)] w)) [(.int .i64 1970)] w)
theorem sh34_calls {a0 : Value} {w : World} {R : Value → World → Prop} (h : sh34 a0 w R) : CallF Tryd.prog 34 #[a0] w R :=
  calls_of_denF (mk := false) (args := [a0]) (an := (.seq (.ops [0]) (.seq (.seq (.ops [0, 11]) (.cond (.seq (.ops [2, 3]) .leaf) .leaf)) (.seq (.ops [4, 5]) (.seq (.ops [4, 5, 6]) (.seq (.blk (.loop [4, 5] [6] (.seq (.seq (.ops [4, 5, 6, 20]) (.cond .leaf .leaf)) (.blk (.ops [4, 5, 6]))))) (.seq (.ops [5, 6, 7, 8]) (.seq (.blk (.loop [5, 6] [7, 8] (.seq (.seq (.ops [5, 6, 7, 8, 31]) (.cond .leaf .leaf)) (.blk (.seq (.ops [5, 6, 7, 8]) (.ops [5, 6, 7, 8])))))) (.seq (.ops [2, 3]) .leaf))))))))) (c := Tryd.f34.body.getD .skip) hent Tryd.func34 rfl (Nat.le_of_ble_eq_true (by kernel_rfl))
    (Eq.mp (show sh34 a0 w R = denF Tryd.prog ent false Tryd.f34 (.seq (.ops [0]) (.seq (.seq (.ops [0, 11]) (.cond (.seq (.ops [2, 3]) .leaf) .leaf)) (.seq (.ops [4, 5]) (.seq (.ops [4, 5, 6]) (.seq (.blk (.loop [4, 5] [6] (.seq (.seq (.ops [4, 5, 6, 20]) (.cond .leaf .leaf)) (.blk (.ops [4, 5, 6]))))) (.seq (.ops [5, 6, 7, 8]) (.seq (.blk (.loop [5, 6] [7, 8] (.seq (.seq (.ops [5, 6, 7, 8, 31]) (.cond .leaf .leaf)) (.blk (.seq (.ops [5, 6, 7, 8]) (.ops [5, 6, 7, 8])))))) (.seq (.ops [2, 3]) .leaf)))))))) (Tryd.f34.body.getD .skip) [a0] w R by kernel_rfl) h)

/-! ### 35: handbill/hblref1.Make -/
def sh35 (a0 a1 a2 a3 a4 a5 : Value) (w : World) (R : Value → World → Prop) : Prop :=
 jn 7 (fun t0_1 t1_2 t2_3 t3_4 t4_5 t5_6 t64_7 w =>
 IfB t64_7 (
 R (.tuple #[(.int .i64 0), (.bool false)]) w) (
 CallF Tryd.prog 73 #[t0_1] w fun t66_9 w =>
 RunA Tryd.prog (bin .add 3 (.tmp 66) (.tmp 67) t66_9 t2_3) fun t68_10 =>
 RunA Tryd.prog (bin .sub 3 (.tmp 68) (.const (.int .i64 1)) t68_10 (.int .i64 1)) fun t69_11 =>
 lp 2 (fun n_14 t14_12 t15_13 w =>
 RunA Tryd.prog (bin .lss 3 (.tmp 70) (.tmp 71) t15_13 t1_2) fun t72_15 =>
 IfB t72_15 (
 CallF Tryd.prog 74 #[t0_1, t15_13] w fun t78_16 w =>
 RunA Tryd.prog (bin .add 3 (.tmp 75) (.tmp 78) t14_12 t78_16) fun t79_17 =>
 RunA Tryd.prog (bin .add 3 (.tmp 73) (.const (.int .i64 1)) t15_13 (.int .i64 1)) fun t74_18 =>
 (t0_1 : Value) = t0_1 ∧ ((t1_2 : Value) = t1_2 ∧ ((t3_4 : Value) = t3_4 ∧ ((t4_5 : Value) = t4_5 ∧ ((t5_6 : Value) = t5_6 ∧ (n_14 t79_17 t74_18 w)))))) (
 RunA Tryd.prog (bin .mul 3 (.tmp 80) (.const (.int .i64 86400)) t14_12 (.int .i64 86400)) fun t81_19 =>
 RunA Tryd.prog (bin .mul 3 (.tmp 82) (.const (.int .i64 3600)) t3_4 (.int .i64 3600)) fun t83_20 =>
 RunA Tryd.prog (bin .add 3 (.tmp 81) (.tmp 83) t81_19 t83_20) fun t84_21 =>
 RunA Tryd.prog (bin .mul 3 (.tmp 85) (.const (.int .i64 60)) t4_5 (.int .i64 60)) fun t86_22 =>
 RunA Tryd.prog (bin .add 3 (.tmp 84) (.tmp 86) t84_21 t86_22) fun t87_23 =>
 RunW Tryd.prog (Builtin.min_ #[3, 3] 3 #[t5_6, (.int .i64 59)]) w fun t89_24 =>
 RunA Tryd.prog (bin .add 3 (.tmp 87) (.tmp 89) t87_23 t89_24) fun t90_25 =>
 R (.tuple #[t90_25, (.bool true)]) w)) [t69_11, (.int .i64 1)] w)) fun j_8 =>
 RunA Tryd.prog (bin .lss 3 (.tmp 16) (.const (.int .i64 1970)) a0 (.int .i64 1970)) fun t17_26 =>
 IfB t17_26 (
 j_8 a0 a1 a2 a3 a4 a5 (.bool true) w) (
 RunA Tryd.prog (bin .gtr 3 (.tmp 19) (.const (.int .i64 9999)) a0 (.int .i64 9999)) fun t20_27 =>
 IfB t20_27 (
 j_8 a0 a1 a2 a3 a4 a5 (.bool true) w) (
 RunA Tryd.prog (bin .lss 3 (.tmp 23) (.const (.int .i64 1)) a1 (.int .i64 1)) fun t24_28 =>
 IfB t24_28 (
 j_8 a0 a1 a2 a3 a4 a5 (.bool true) w) (
 RunA Tryd.prog (bin .gtr 3 (.tmp 27) (.const (.int .i64 12)) a1 (.int .i64 12)) fun t28_29 =>
 IfB t28_29 (
 j_8 a0 a1 a2 a3 a4 a5 (.bool true) w) (
 RunA Tryd.prog (bin .lss 3 (.tmp 31) (.const (.int .i64 1)) a2 (.int .i64 1)) fun t32_30 =>
 IfB t32_30 (
 j_8 a0 a1 a2 a3 a4 a5 (.bool true) w) (
 CallF Tryd.prog 74 #[a0, a1] w fun t38_31 w =>
 RunA Tryd.prog (bin .gtr 3 (.tmp 35) (.tmp 38) a2 t38_31) fun t39_32 =>
 IfB t39_32 (
 j_8 a0 a1 a2 a3 a4 a5 (.bool true) w) (
 RunA Tryd.prog (bin .lss 3 (.tmp 42) (.const (.int .i64 0)) a3 (.int .i64 0)) fun t43_33 =>
 IfB t43_33 (
 j_8 a0 a1 a2 a3 a4 a5 (.bool true) w) (
 RunA Tryd.prog (bin .gtr 3 (.tmp 46) (.const (.int .i64 23)) a3 (.int .i64 23)) fun t47_34 =>
 IfB t47_34 (
 j_8 a0 a1 a2 a3 a4 a5 (.bool true) w) (
 RunA Tryd.prog (bin .lss 3 (.tmp 50) (.const (.int .i64 0)) a4 (.int .i64 0)) fun t51_35 =>
 IfB t51_35 (
 j_8 a0 a1 a2 a3 a4 a5 (.bool true) w) (
 RunA Tryd.prog (bin .gtr 3 (.tmp 54) (.const (.int .i64 59)) a4 (.int .i64 59)) fun t55_36 =>
 IfB t55_36 (
 j_8 a0 a1 a2 a3 a4 a5 (.bool true) w) (
 RunA Tryd.prog (bin .lss 3 (.tmp 58) (.const (.int .i64 0)) a5 (.int .i64 0)) fun t59_37 =>
 IfB t59_37 (
 j_8 a0 a1 a2 a3 a4 a5 (.bool true) w) (
 RunA Tryd.prog (bin .gtr 3 (.tmp 62) (.const (.int .i64 60)) a5 (.int .i64 60)) fun t63_38 =>
 j_8 a0 a1 a2 a3 a4 a5 t63_38 w)))))))))))
theorem sh35_calls {a0 a1 a2 a3 a4 a5 : Value} {w : World} {R : Value → World → Prop} (h : sh35 a0 a1 a2 a3 a4 a5 w R) : CallF Tryd.prog 35 #[a0, a1, a2, a3, a4, a5] w R :=
  calls_of_denF (mk := false) (args := [a0, a1, a2, a3, a4, a5]) (an := (.seq (.ops [0, 1, 2, 3, 4, 5]) (.seq (.seq (.join [0, 1, 2, 3, 4, 5, 64] (.ops [0, 1, 2, 3, 4, 5, 64])) (.cond (.seq (.ops [12, 13]) .leaf) .leaf)) (.seq (.ops [0, 1, 3, 4, 5, 14]) (.seq (.seq (.ops [0, 1, 3, 4, 5, 14, 15]) (.blk (.loop [0, 1, 3, 4, 5] [14, 15] (.seq (.seq (.ops [0, 1, 3, 4, 5, 14, 15, 72]) (.cond .leaf .leaf)) (.seq (.blk (.ops [0, 1, 3, 4, 5, 14, 15])) (.ops [0, 1, 3, 4, 5, 14, 15])))))) (.seq (.ops [12, 13]) .leaf)))))) (c := Tryd.f35.body.getD .skip) hent Tryd.func35 rfl (Nat.le_of_ble_eq_true (by kernel_rfl))
    (Eq.mp (show sh35 a0 a1 a2 a3 a4 a5 w R = denF Tryd.prog ent false Tryd.f35 (.seq (.ops [0, 1, 2, 3, 4, 5]) (.seq (.seq (.join [0, 1, 2, 3, 4, 5, 64] (.ops [0, 1, 2, 3, 4, 5, 64])) (.cond (.seq (.ops [12, 13]) .leaf) .leaf)) (.seq (.ops [0, 1, 3, 4, 5, 14]) (.seq (.seq (.ops [0, 1, 3, 4, 5, 14, 15]) (.blk (.loop [0, 1, 3, 4, 5] [14, 15] (.seq (.seq (.ops [0, 1, 3, 4, 5, 14, 15, 72]) (.cond .leaf .leaf)) (.seq (.blk (.ops [0, 1, 3, 4, 5, 14, 15])) (.ops [0, 1, 3, 4, 5, 14, 15])))))) (.seq (.ops [12, 13]) .leaf))))) (Tryd.f35.body.getD .skip) [a0, a1, a2, a3, a4, a5] w R by kernel_rfl) h)

/-! ### 51: handbill/date.length -/
def sh51 (a0 a1 : Value) (w : World) (R : Value → World → Prop) : Prop :=
 jn 0 (fun w =>
 R (.int .i64 31) w) fun j_1 =>
 RunW Tryd.prog (bin .eql 3 (.tmp 6) (.const (.int .i64 2)) a1 (.int .i64 2)) w fun t7_2 =>
 IfB t7_2 (
 CallF Tryd.prog 84 #[a0] w fun t10_3 w =>
 IfB t10_3 (
 R (.int .i64 29) w) (
 RunW Tryd.prog (bin .eql 3 (.tmp 13) (.const (.int .i64 2)) a1 (.int .i64 2)) w fun t14_4 =>
 IfB t14_4 (
 R (.int .i64 28) w) (
 RunW Tryd.prog (bin .eql 3 (.tmp 16) (.const (.int .i64 4)) a1 (.int .i64 4)) w fun t17_5 =>
 IfB t17_5 (
 R (.int .i64 30) w) (
 RunW Tryd.prog (bin .eql 3 (.tmp 19) (.const (.int .i64 6)) a1 (.int .i64 6)) w fun t20_6 =>
 IfB t20_6 (
 R (.int .i64 30) w) (
 RunW Tryd.prog (bin .eql 3 (.tmp 23) (.const (.int .i64 9)) a1 (.int .i64 9)) w fun t24_7 =>
 IfB t24_7 (
 R (.int .i64 30) w) (
 RunW Tryd.prog (bin .eql 3 (.tmp 27) (.const (.int .i64 11)) a1 (.int .i64 11)) w fun t28_8 =>
 IfB t28_8 (
 R (.int .i64 30) w) (
 j_1 w))))))) (
 RunW Tryd.prog (bin .eql 3 (.tmp 13) (.const (.int .i64 2)) a1 (.int .i64 2)) w fun t14_9 =>
 IfB t14_9 (
 R (.int .i64 28) w) (
 RunW Tryd.prog (bin .eql 3 (.tmp 16) (.const (.int .i64 4)) a1 (.int .i64 4)) w fun t17_10 =>
 IfB t17_10 (
 R (.int .i64 30) w) (
 RunW Tryd.prog (bin .eql 3 (.tmp 19) (.const (.int .i64 6)) a1 (.int .i64 6)) w fun t20_11 =>
 IfB t20_11 (
 R (.int .i64 30) w) (
 RunW Tryd.prog (bin .eql 3 (.tmp 23) (.const (.int .i64 9)) a1 (.int .i64 9)) w fun t24_12 =>
 IfB t24_12 (
 R (.int .i64 30) w) (
 RunW Tryd.prog (bin .eql 3 (.tmp 27) (.const (.int .i64 11)) a1 (.int .i64 11)) w fun t28_13 =>
 IfB t28_13 (
 R (.int .i64 30) w) (
 j_1 w))))))
theorem sh51_calls {a0 a1 : Value} {w : World} {R : Value → World → Prop} (h : sh51 a0 a1 w R) : CallF Tryd.prog 51 #[a0, a1] w R :=
  calls_of_denF (mk := false) (args := [a0, a1]) (an := (.seq (.ops [0, 1]) (.seq (.blk (.join [] (.seq (.ops [1, 5]) (.cond (.seq (.ops [4]) .leaf) (.seq (.ops [1, 12]) (.cond (.seq (.ops [4]) .leaf) (.seq (.ops [15]) (.cond (.seq (.ops [4]) .leaf) .leaf)))))))) (.seq (.ops [4]) .leaf)))) (c := Tryd.f51.body.getD .skip) hent Tryd.func51 rfl (Nat.le_of_ble_eq_true (by kernel_rfl))
    (Eq.mp (show sh51 a0 a1 w R = denF Tryd.prog ent false Tryd.f51 (.seq (.ops [0, 1]) (.seq (.blk (.join [] (.seq (.ops [1, 5]) (.cond (.seq (.ops [4]) .leaf) (.seq (.ops [1, 12]) (.cond (.seq (.ops [4]) .leaf) (.seq (.ops [15]) (.cond (.seq (.ops [4]) .leaf) .leaf)))))))) (.seq (.ops [4]) .leaf))) (Tryd.f51.body.getD .skip) [a0, a1] w R by kernel_rfl) h)

/-! ### 52: handbill/date.first -/
def sh52 (a0 : Value) (w : World) (R : Value → World → Prop) : Prop :=
 RunA Tryd.prog (bin .sub 3 (.tmp 3) (.const (.int .i64 1)) a0 (.int .i64 1)) fun t4_1 =>
 RunA Tryd.prog (bin .mul 3 (.tmp 5) (.const (.int .i64 365)) t4_1 (.int .i64 365)) fun t6_2 =>
 RunA Tryd.prog (bin .quo 3 (.tmp 7) (.const (.int .i64 4)) t4_1 (.int .i64 4)) fun t8_3 =>
 RunA Tryd.prog (bin .add 3 (.tmp 6) (.tmp 8) t6_2 t8_3) fun t9_4 =>
 RunA Tryd.prog (bin .quo 3 (.tmp 10) (.const (.int .i64 100)) t4_1 (.int .i64 100)) fun t11_5 =>
 RunA Tryd.prog (bin .sub 3 (.tmp 9) (.tmp 11) t9_4 t11_5) fun t12_6 =>
 RunA Tryd.prog (bin .quo 3 (.tmp 13) (.const (.int .i64 400)) t4_1 (.int .i64 400)) fun t14_7 =>
 RunA Tryd.prog (bin .add 3 (.tmp 12) (.tmp 14) t12_6 t14_7) fun t15_8 =>
 RunA Tryd.prog (bin .sub 3 (.tmp 15) (.const (.int .i64 719162)) t15_8 (.int .i64 719162)) fun t16_9 =>
 R t16_9 w
theorem sh52_calls {a0 : Value} {w : World} {R : Value → World → Prop} (h : sh52 a0 w R) : CallF Tryd.prog 52 #[a0] w R :=
  calls_of_denF (mk := false) (args := [a0]) (an := (.seq (.ops [0]) (.seq (.ops [0]) (.seq (.ops [2]) .leaf)))) (c := Tryd.f52.body.getD .skip) hent Tryd.func52 rfl (Nat.le_of_ble_eq_true (by kernel_rfl))
    (Eq.mp (show sh52 a0 w R = denF Tryd.prog ent false Tryd.f52 (.seq (.ops [0]) (.seq (.ops [0]) (.seq (.ops [2]) .leaf))) (Tryd.f52.body.getD .skip) [a0] w R by kernel_rfl) h)

/-! ### 53: (*handbill/date.reader).one -/
def sh53 (a0 a1 : Value) (w : World) (R : Value → World → Prop) : Prop :=
 RunV Tryd.prog (Instr.makeFunc (Go.Fn.func 59) #[a0] #[]) w fun t7_1 w =>
 CallF Tryd.prog 85 #[a1, t7_1] w fun t8_2 w =>
 RunA Tryd.prog (bin .add 3 (.const (.int .i64 1)) (.tmp 8) (.int .i64 1) t8_2) fun t9_3 =>
 R t9_3 w
theorem sh53_calls {a0 a1 : Value} {w : World} {R : Value → World → Prop} (h : sh53 a0 a1 w R) : CallF Tryd.prog 53 #[a0, a1] w R :=
  calls_of_denF (mk := false) (args := [a0, a1]) (an := (.seq (.ops [0, 1]) (.seq (.ops [4]) .leaf))) (c := Tryd.f53.body.getD .skip) hent Tryd.func53 rfl (Nat.le_of_ble_eq_true (by kernel_rfl))
    (Eq.mp (show sh53 a0 a1 w R = denF Tryd.prog ent false Tryd.f53 (.seq (.ops [0, 1]) (.seq (.ops [4]) .leaf)) (Tryd.f53.body.getD .skip) [a0, a1] w R by kernel_rfl) h)

/-! ### 54: handbill/date.weekdays -/
def sh54 (w : World) (R : Value → World → Prop) : Prop :=
 RunV Tryd.prog (Instr.buildSlice 42 7 #[(0, (.string ⟨#[77, 111, 110]⟩)), (1, (.string ⟨#[84, 117, 101]⟩)), (2, (.string ⟨#[87, 101, 100]⟩)), (3, (.string ⟨#[84, 104, 117]⟩)), (4, (.string ⟨#[70, 114, 105]⟩)), (5, (.string ⟨#[83, 97, 116]⟩)), (6, (.string ⟨#[83, 117, 110]⟩))]) w fun t1_1 w =>
 R t1_1 w
theorem sh54_calls {w : World} {R : Value → World → Prop} (h : sh54  w R) : CallF Tryd.prog 54 #[] w R :=
  calls_of_denF (mk := false) (args := []) (an := (.seq (.ops []) (.seq (.ops [0]) .leaf))) (c := Tryd.f54.body.getD .skip) hent Tryd.func54 rfl (Nat.le_of_ble_eq_true (by kernel_rfl))
    (Eq.mp (show sh54  w R = denF Tryd.prog ent false Tryd.f54 (.seq (.ops []) (.seq (.ops [0]) .leaf)) (Tryd.f54.body.getD .skip) [] w R by kernel_rfl) h)

/-! ### 55: (*handbill/date.reader).wants -/
def sh55 (a0 a1 : Value) (w : World) (R : Value → World → Prop) : Prop :=
 CallF Tryd.prog 59 #[a0, a1] w fun t6_1 w =>
 RunA Tryd.prog (Op.unary .not t6_1) fun t7_2 =>
 IfB t7_2 (
 RunA Tryd.prog (nilV a0) fun t9_3 =>
 RunA Tryd.prog (Instr.fieldAt 76 t9_3 1) fun t10_4 =>
 RunU Tryd.prog (Instr.storeAt 4 t10_4 (.bool true)) w fun w =>
 R (.tuple #[]) w) (
 R (.tuple #[]) w)
theorem sh55_calls {a0 a1 : Value} {w : World} {R : Value → World → Prop} (h : sh55 a0 a1 w R) : CallF Tryd.prog 55 #[a0, a1] w R :=
  calls_of_denF (mk := false) (args := [a0, a1]) (an := (.seq (.ops [0, 7]) (.cond (.ops []) .leaf))) (c := Tryd.f55.body.getD .skip) hent Tryd.func55 rfl (Nat.le_of_ble_eq_true (by kernel_rfl))
    (Eq.mp (show sh55 a0 a1 w R = denF Tryd.prog ent false Tryd.f55 (.seq (.ops [0, 7]) (.cond (.ops []) .leaf)) (Tryd.f55.body.getD .skip) [a0, a1] w R by kernel_rfl) h)

/-! ### 56: (*handbill/date.reader).number -/
def sh56 (a0 a1 a2 : Value) (w : World) (R : Value → World → Prop) : Prop :=
 jn 4 (fun t0_1 t1_2 t7_3 t8_4 w =>
 jn 3 (fun t0_6 t7_7 t8_8 w =>
 RunA Tryd.prog (nilV t0_6) fun t60_10 =>
 RunA Tryd.prog (Instr.fieldAt 76 t60_10 0) fun t61_11 =>
 RunW Tryd.prog (Instr.loadAt 9 t61_11) w fun t62_12 =>
 RunA Tryd.prog (Instr.sliceAt 9 t62_12 (some t8_8) none none) fun t64_13 =>
 RunA Tryd.prog (nilV t0_6) fun t65_14 =>
 RunA Tryd.prog (Instr.fieldAt 76 t65_14 0) fun t66_15 =>
 RunU Tryd.prog (Instr.storeAt 9 t66_15 t64_13) w fun w =>
 R t7_7 w) fun j_9 =>
 RunA Tryd.prog (bin .lss 3 (.tmp 52) (.tmp 53) t8_4 t1_2) fun t54_16 =>
 IfB t54_16 (
 RunA Tryd.prog (nilV t0_1) fun t56_17 =>
 RunA Tryd.prog (Instr.fieldAt 76 t56_17 1) fun t57_18 =>
 RunU Tryd.prog (Instr.storeAt 4 t57_18 (.bool true)) w fun w =>
 j_9 t0_1 t7_3 t8_4 w) (
 j_9 t0_1 t7_3 t8_4 w)) fun j_5 =>
 lp 2 (fun n_21 t7_19 t8_20 w =>
 RunA Tryd.prog (bin .lss 3 (.tmp 9) (.tmp 10) t8_20 a2) fun t11_22 =>
 IfB t11_22 (
 RunA Tryd.prog (nilV a0) fun t15_23 =>
 RunA Tryd.prog (Instr.fieldAt 76 t15_23 0) fun t16_24 =>
 RunW Tryd.prog (Instr.loadAt 9 t16_24) w fun t17_25 =>
 RunW Tryd.prog (Builtin.len_ #[9] 3 #[t17_25]) w fun t18_26 =>
 RunA Tryd.prog (bin .lss 3 (.tmp 13) (.tmp 18) t8_20 t18_26) fun t19_27 =>
 IfB t19_27 (
 RunA Tryd.prog (nilV a0) fun t23_28 =>
 RunA Tryd.prog (Instr.fieldAt 76 t23_28 0) fun t24_29 =>
 RunW Tryd.prog (Instr.loadAt 9 t24_29) w fun t25_30 =>
 RunA Tryd.prog (Instr.index 9 t25_30 t8_20) fun t27_31 =>
 RunA Tryd.prog (bin .geq 5 (.tmp 27) (.const (.int .u8 48)) t27_31 (.int .u8 48)) fun t28_32 =>
 IfB t28_32 (
 RunA Tryd.prog (nilV a0) fun t32_33 =>
 RunA Tryd.prog (Instr.fieldAt 76 t32_33 0) fun t33_34 =>
 RunW Tryd.prog (Instr.loadAt 9 t33_34) w fun t34_35 =>
 RunA Tryd.prog (Instr.index 9 t34_35 t8_20) fun t36_36 =>
 RunA Tryd.prog (bin .leq 5 (.tmp 36) (.const (.int .u8 57)) t36_36 (.int .u8 57)) fun t37_37 =>
 IfB t37_37 (
 RunA Tryd.prog (bin .mul 3 (.tmp 39) (.const (.int .i64 10)) t7_19 (.int .i64 10)) fun t40_38 =>
 RunA Tryd.prog (nilV a0) fun t42_39 =>
 RunA Tryd.prog (Instr.fieldAt 76 t42_39 0) fun t43_40 =>
 RunW Tryd.prog (Instr.loadAt 9 t43_40) w fun t44_41 =>
 RunA Tryd.prog (Instr.index 9 t44_41 t8_20) fun t46_42 =>
 RunA Tryd.prog (bin .sub 5 (.tmp 46) (.const (.int .u8 48)) t46_42 (.int .u8 48)) fun t47_43 =>
 RunV Tryd.prog (convert 5 3 t47_43) w fun t48_44 w =>
 RunA Tryd.prog (bin .add 3 (.tmp 40) (.tmp 48) t40_38 t48_44) fun t49_45 =>
 RunA Tryd.prog (bin .add 3 (.tmp 50) (.const (.int .i64 1)) t8_20 (.int .i64 1)) fun t51_46 =>
 (a0 : Value) = a0 ∧ ((a1 : Value) = a1 ∧ ((a2 : Value) = a2 ∧ (n_21 t49_45 t51_46 w)))) (
 j_5 a0 a1 t7_19 t8_20 w)) (
 j_5 a0 a1 t7_19 t8_20 w)) (
 j_5 a0 a1 t7_19 t8_20 w)) (
 j_5 a0 a1 t7_19 t8_20 w)) [(.int .i64 0), (.int .i64 0)] w
theorem sh56_calls {a0 a1 a2 : Value} {w : World} {R : Value → World → Prop} (h : sh56 a0 a1 a2 w R) : CallF Tryd.prog 56 #[a0, a1, a2] w R :=
  calls_of_denF (mk := false) (args := [a0, a1, a2]) (an := (.seq (.ops [0, 1, 2]) (.seq (.ops [0, 1, 2, 7, 8]) (.seq (.join [0, 1, 7, 8] (.blk (.loop [0, 1, 2] [7, 8] (.seq (.seq (.ops [0, 1, 2, 7, 8, 38]) (.cond .leaf .leaf)) (.blk (.seq (.ops [0, 1, 2, 7, 8]) (.ops [0, 1, 2, 7, 8]))))))) (.seq (.join [0, 7, 8] (.seq (.ops [0, 7, 8, 54]) (.cond (.ops [0, 7, 8]) .leaf))) (.seq (.ops [7]) (.seq (.ops [6]) .leaf))))))) (c := Tryd.f56.body.getD .skip) hent Tryd.func56 rfl (Nat.le_of_ble_eq_true (by kernel_rfl))
    (Eq.mp (show sh56 a0 a1 a2 w R = denF Tryd.prog ent false Tryd.f56 (.seq (.ops [0, 1, 2]) (.seq (.ops [0, 1, 2, 7, 8]) (.seq (.join [0, 1, 7, 8] (.blk (.loop [0, 1, 2] [7, 8] (.seq (.seq (.ops [0, 1, 2, 7, 8, 38]) (.cond .leaf .leaf)) (.blk (.seq (.ops [0, 1, 2, 7, 8]) (.ops [0, 1, 2, 7, 8]))))))) (.seq (.join [0, 7, 8] (.seq (.ops [0, 7, 8, 54]) (.cond (.ops [0, 7, 8]) .leaf))) (.seq (.ops [7]) (.seq (.ops [6]) .leaf)))))) (Tryd.f56.body.getD .skip) [a0, a1, a2] w R by kernel_rfl) h)

/-! ### 57: handbill/date.months -/
def sh57 (w : World) (R : Value → World → Prop) : Prop :=
 RunV Tryd.prog (Instr.buildSlice 42 12 #[(0, (.string ⟨#[74, 97, 110]⟩)), (1, (.string ⟨#[70, 101, 98]⟩)), (2, (.string ⟨#[77, 97, 114]⟩)), (3, (.string ⟨#[65, 112, 114]⟩)), (4, (.string ⟨#[77, 97, 121]⟩)), (5, (.string ⟨#[74, 117, 110]⟩)), (6, (.string ⟨#[74, 117, 108]⟩)), (7, (.string ⟨#[65, 117, 103]⟩)), (8, (.string ⟨#[83, 101, 112]⟩)), (9, (.string ⟨#[79, 99, 116]⟩)), (10, (.string ⟨#[78, 111, 118]⟩)), (11, (.string ⟨#[68, 101, 99]⟩))]) w fun t1_1 w =>
 R t1_1 w
theorem sh57_calls {w : World} {R : Value → World → Prop} (h : sh57  w R) : CallF Tryd.prog 57 #[] w R :=
  calls_of_denF (mk := false) (args := []) (an := (.seq (.ops []) (.seq (.ops [0]) .leaf))) (c := Tryd.f57.body.getD .skip) hent Tryd.func57 rfl (Nat.le_of_ble_eq_true (by kernel_rfl))
    (Eq.mp (show sh57  w R = denF Tryd.prog ent false Tryd.f57 (.seq (.ops []) (.seq (.ops [0]) .leaf)) (Tryd.f57.body.getD .skip) [] w R by kernel_rfl) h)

/-! ### 58: (*handbill/date.reader).year -/
def sh58 (a0 : Value) (w : World) (R : Value → World → Prop) : Prop :=
 RunA Tryd.prog (nilV a0) fun t6_1 =>
 RunA Tryd.prog (Instr.fieldAt 76 t6_1 0) fun t7_2 =>
 RunW Tryd.prog (Instr.loadAt 9 t7_2) w fun t8_3 =>
 RunW Tryd.prog (Builtin.len_ #[9] 3 #[t8_3]) w fun t9_4 =>
 CallF Tryd.prog 56 #[a0, (.int .i64 2), (.int .i64 4)] w fun t11_5 w =>
 RunA Tryd.prog (nilV a0) fun t14_6 =>
 RunA Tryd.prog (Instr.fieldAt 76 t14_6 0) fun t15_7 =>
 RunW Tryd.prog (Instr.loadAt 9 t15_7) w fun t16_8 =>
 RunW Tryd.prog (Builtin.len_ #[9] 3 #[t16_8]) w fun t17_9 =>
 RunA Tryd.prog (bin .sub 3 (.tmp 12) (.tmp 17) t9_4 t17_9) fun t18_10 =>
 RunW Tryd.prog (bin .eql 3 (.tmp 18) (.const (.int .i64 4)) t18_10 (.int .i64 4)) w fun t20_11 =>
 IfB t20_11 (
 R t11_5 w) (
 jn 1 (fun t4_12 w =>
 RunA Tryd.prog (bin .leq 3 (.tmp 27) (.const (.int .i64 68)) t4_12 (.int .i64 68)) fun t28_14 =>
 IfB t28_14 (
 RunA Tryd.prog (bin .add 3 (.const (.int .i64 2000)) (.tmp 29) (.int .i64 2000) t4_12) fun t30_15 =>
 R t30_15 w) (
 RunA Tryd.prog (bin .add 3 (.const (.int .i64 1900)) (.tmp 31) (.int .i64 1900) t4_12) fun t32_16 =>
 R t32_16 w)) fun j_13 =>
 RunW Tryd.prog (bin .eql 3 (.tmp 18) (.const (.int .i64 3)) t18_10 (.int .i64 3)) w fun t23_17 =>
 IfB t23_17 (
 RunA Tryd.prog (nilV a0) fun t25_18 =>
 RunA Tryd.prog (Instr.fieldAt 76 t25_18 1) fun t26_19 =>
 RunU Tryd.prog (Instr.storeAt 4 t26_19 (.bool true)) w fun w =>
 j_13 t11_5 w) (
 j_13 t11_5 w))
theorem sh58_calls {a0 : Value} {w : World} {R : Value → World → Prop} (h : sh58 a0 w R) : CallF Tryd.prog 58 #[a0] w R :=
  calls_of_denF (mk := false) (args := [a0]) (an := (.seq (.ops [0]) (.seq (.ops [0, 3]) (.seq (.ops [0, 3, 4]) (.seq (.seq (.ops [0, 4, 18]) (.blk (.seq (.ops [0, 4, 18, 19]) (.cond (.seq (.ops [2]) .leaf) (.join [4] (.seq (.ops [0, 4, 22]) (.cond (.ops [4]) .leaf))))))) (.seq (.seq (.ops [4, 28]) (.cond (.seq (.ops [2]) .leaf) .leaf)) (.seq (.ops [2]) .leaf))))))) (c := Tryd.f58.body.getD .skip) hent Tryd.func58 rfl (Nat.le_of_ble_eq_true (by kernel_rfl))
    (Eq.mp (show sh58 a0 w R = denF Tryd.prog ent false Tryd.f58 (.seq (.ops [0]) (.seq (.ops [0, 3]) (.seq (.ops [0, 3, 4]) (.seq (.seq (.ops [0, 4, 18]) (.blk (.seq (.ops [0, 4, 18, 19]) (.cond (.seq (.ops [2]) .leaf) (.join [4] (.seq (.ops [0, 4, 22]) (.cond (.ops [4]) .leaf))))))) (.seq (.seq (.ops [4, 28]) (.cond (.seq (.ops [2]) .leaf) .leaf)) (.seq (.ops [2]) .leaf)))))) (Tryd.f58.body.getD .skip) [a0] w R by kernel_rfl) h)

/-! ### 59: (*handbill/date.reader).eats -/
def sh59 (a0 a1 : Value) (w : World) (R : Value → World → Prop) : Prop :=
 RunA Tryd.prog (nilV a0) fun t9_1 =>
 RunA Tryd.prog (Instr.fieldAt 76 t9_1 0) fun t10_2 =>
 RunW Tryd.prog (Instr.loadAt 9 t10_2) w fun t11_3 =>
 CallF Tryd.prog 86 #[t11_3, a1] w fun t13_4 w =>
 RunA Tryd.prog (Instr.extract t13_4 0) fun t14_5 =>
 RunA Tryd.prog (Instr.extract t13_4 1) fun t15_6 =>
 jn 1 (fun t6_7 w =>
 R t6_7 w) fun j_8 =>
 IfB t15_6 (
 RunA Tryd.prog (nilV a0) fun t19_9 =>
 RunA Tryd.prog (Instr.fieldAt 76 t19_9 0) fun t20_10 =>
 RunU Tryd.prog (Instr.storeAt 9 t20_10 t14_5) w fun w =>
 j_8 t15_6 w) (
 j_8 t15_6 w)
theorem sh59_calls {a0 a1 : Value} {w : World} {R : Value → World → Prop} (h : sh59 a0 a1 w R) : CallF Tryd.prog 59 #[a0, a1] w R :=
  calls_of_denF (mk := false) (args := [a0, a1]) (an := (.seq (.ops [0, 1]) (.seq (.ops [0, 5, 6]) (.seq (.join [6] (.seq (.ops [0, 5, 6, 16]) (.cond (.ops [6]) .leaf))) (.seq (.ops [4]) .leaf))))) (c := Tryd.f59.body.getD .skip) hent Tryd.func59 rfl (Nat.le_of_ble_eq_true (by kernel_rfl))
    (Eq.mp (show sh59 a0 a1 w R = denF Tryd.prog ent false Tryd.f59 (.seq (.ops [0, 1]) (.seq (.ops [0, 5, 6]) (.seq (.join [6] (.seq (.ops [0, 5, 6, 16]) (.cond (.ops [6]) .leaf))) (.seq (.ops [4]) .leaf)))) (Tryd.f59.body.getD .skip) [a0, a1] w R by kernel_rfl) h)

/-! ### 60: (*handbill/date.reader).zone -/
def sh60 (a0 : Value) (w : World) (R : Value → World → Prop) : Prop :=
 RunV Tryd.prog (Instr.buildSlice 42 11 #[(0, (.string ⟨#[71, 77, 84]⟩)), (1, (.string ⟨#[85, 84]⟩)), (2, (.string ⟨#[90]⟩)), (3, (.string ⟨#[69, 83, 84]⟩)), (4, (.string ⟨#[69, 68, 84]⟩)), (5, (.string ⟨#[67, 83, 84]⟩)), (6, (.string ⟨#[67, 68, 84]⟩)), (7, (.string ⟨#[77, 83, 84]⟩)), (8, (.string ⟨#[77, 68, 84]⟩)), (9, (.string ⟨#[80, 83, 84]⟩)), (10, (.string ⟨#[80, 68, 84]⟩))]) w fun t6_1 w =>
 RunV Tryd.prog (Instr.buildSlice 43 11 #[(0, (.int .i64 0)), (1, (.int .i64 0)), (2, (.int .i64 0)), (3, (.int .i64 (-5))), (4, (.int .i64 (-4))), (5, (.int .i64 (-6))), (6, (.int .i64 (-5))), (7, (.int .i64 (-7))), (8, (.int .i64 (-6))), (9, (.int .i64 (-8))), (10, (.int .i64 (-7)))]) w fun t7_2 w =>
 CallF Tryd.prog 53 #[a0, t6_1] w fun t10_3 w =>
 RunA Tryd.prog (bin .gtr 3 (.tmp 11) (.const (.int .i64 0)) t10_3 (.int .i64 0)) fun t12_4 =>
 IfB t12_4 (
 RunA Tryd.prog (bin .sub 3 (.tmp 14) (.const (.int .i64 1)) t10_3 (.int .i64 1)) fun t15_5 =>
 RunA Tryd.prog (Instr.indexAt 43 t7_2 t15_5) fun t16_6 =>
 RunW Tryd.prog (Instr.loadAt 3 t16_6) w fun t17_7 =>
 RunA Tryd.prog (bin .mul 3 (.tmp 17) (.const (.int .i64 3600)) t17_7 (.int .i64 3600)) fun t18_8 =>
 R t18_8 w) (
 CallF Tryd.prog 65 #[a0, (.string ⟨#[]⟩)] w fun t20_9 w =>
 R t20_9 w)
theorem sh60_calls {a0 : Value} {w : World} {R : Value → World → Prop} (h : sh60 a0 w R) : CallF Tryd.prog 60 #[a0] w R :=
  calls_of_denF (mk := false) (args := [a0]) (an := (.seq (.ops [0]) (.seq (.ops [0, 3]) (.seq (.ops [0, 3, 4]) (.seq (.seq (.ops [0, 4, 5]) (.seq (.ops [0, 4, 5, 12]) (.cond (.seq (.ops [2]) .leaf) .leaf))) (.seq (.ops [2]) .leaf)))))) (c := Tryd.f60.body.getD .skip) hent Tryd.func60 rfl (Nat.le_of_ble_eq_true (by kernel_rfl))
    (Eq.mp (show sh60 a0 w R = denF Tryd.prog ent false Tryd.f60 (.seq (.ops [0]) (.seq (.ops [0, 3]) (.seq (.ops [0, 3, 4]) (.seq (.seq (.ops [0, 4, 5]) (.seq (.ops [0, 4, 5, 12]) (.cond (.seq (.ops [2]) .leaf) .leaf))) (.seq (.ops [2]) .leaf))))) (Tryd.f60.body.getD .skip) [a0] w R by kernel_rfl) h)

/-! ### 61: (*handbill/date.reader).second -/
def sh61 (a0 a1 : Value) (w : World) (R : Value → World → Prop) : Prop :=
 RunV Tryd.prog (Instr.box 81 a1) w fun t3_1 w =>
 RunA Tryd.prog (nilV a0) fun t9_2 =>
 RunA Tryd.prog (Instr.fieldAt 76 t9_2 1) fun t10_3 =>
 RunW Tryd.prog (Instr.loadAt 4 t10_3) w fun t11_4 =>
 IfB t11_4 (
 R (.tuple #[(.int .i64 0), (.int .i64 4)]) w) (
 RunA Tryd.prog (nilV a0) fun t14_5 =>
 RunA Tryd.prog (Instr.fieldAt 76 t14_5 0) fun t15_6 =>
 RunW Tryd.prog (Instr.loadAt 9 t15_6) w fun t16_7 =>
 RunW Tryd.prog (bin .neq 9 (.tmp 16) (.const (.string ⟨#[]⟩)) t16_7 (.string ⟨#[]⟩)) w fun t17_8 =>
 IfB t17_8 (
 R (.tuple #[(.int .i64 0), (.int .i64 4)]) w) (
 RunA Tryd.prog (Instr.fieldAt 81 t3_1 0) fun t20_9 =>
 RunW Tryd.prog (Instr.loadAt 3 t20_9) w fun t21_10 =>
 RunA Tryd.prog (Instr.fieldAt 81 t3_1 1) fun t22_11 =>
 RunW Tryd.prog (Instr.loadAt 3 t22_11) w fun t23_12 =>
 RunA Tryd.prog (Instr.fieldAt 81 t3_1 2) fun t24_13 =>
 RunW Tryd.prog (Instr.loadAt 3 t24_13) w fun t25_14 =>
 RunA Tryd.prog (Instr.fieldAt 81 t3_1 3) fun t26_15 =>
 RunW Tryd.prog (Instr.loadAt 3 t26_15) w fun t27_16 =>
 RunA Tryd.prog (Instr.fieldAt 81 t3_1 4) fun t28_17 =>
 RunW Tryd.prog (Instr.loadAt 3 t28_17) w fun t29_18 =>
 RunA Tryd.prog (Instr.fieldAt 81 t3_1 5) fun t30_19 =>
 RunW Tryd.prog (Instr.loadAt 3 t30_19) w fun t31_20 =>
 CallF Tryd.prog 25 #[t21_10, t23_12, t25_14, t27_16, t29_18, t31_20] w fun t32_21 w =>
 RunA Tryd.prog (Instr.extract t32_21 0) fun t33_22 =>
 RunA Tryd.prog (Instr.extract t32_21 1) fun t34_23 =>
 RunA Tryd.prog (Op.unary .not t34_23) fun t36_24 =>
 IfB t36_24 (
 R (.tuple #[(.int .i64 0), (.int .i64 1)]) w) (
 RunA Tryd.prog (Instr.fieldAt 81 t3_1 6) fun t39_25 =>
 RunW Tryd.prog (Instr.loadAt 3 t39_25) w fun t40_26 =>
 RunA Tryd.prog (bin .sub 3 (.tmp 38) (.tmp 40) t33_22 t40_26) fun t41_27 =>
 CallF Tryd.prog 62 #[t41_27] w fun t42_28 w =>
 RunA Tryd.prog (Op.unary .not t42_28) fun t43_29 =>
 IfB t43_29 (
 R (.tuple #[(.int .i64 0), (.int .i64 1)]) w) (
 RunA Tryd.prog (Instr.fieldAt 81 t3_1 6) fun t46_30 =>
 RunW Tryd.prog (Instr.loadAt 3 t46_30) w fun t47_31 =>
 RunA Tryd.prog (bin .sub 3 (.tmp 45) (.tmp 47) t33_22 t47_31) fun t48_32 =>
 R (.tuple #[t48_32, (.int .i64 0)]) w))))
theorem sh61_calls {a0 a1 : Value} {w : World} {R : Value → World → Prop} (h : sh61 a0 a1 w R) : CallF Tryd.prog 61 #[a0, a1] w R :=
  calls_of_denF (mk := false) (args := [a0, a1]) (an := (.seq (.ops [0, 3]) (.seq (.seq (.ops [3, 18]) (.cond (.seq (.ops [4, 5]) .leaf) .leaf)) (.seq (.ops [3, 6, 7]) (.seq (.seq (.ops [3, 6, 44]) (.cond (.seq (.ops [4, 5]) .leaf) .leaf)) (.seq (.ops [4, 5]) .leaf)))))) (c := Tryd.f61.body.getD .skip) hent Tryd.func61 rfl (Nat.le_of_ble_eq_true (by kernel_rfl))
    (Eq.mp (show sh61 a0 a1 w R = denF Tryd.prog ent false Tryd.f61 (.seq (.ops [0, 3]) (.seq (.seq (.ops [3, 18]) (.cond (.seq (.ops [4, 5]) .leaf) .leaf)) (.seq (.ops [3, 6, 7]) (.seq (.seq (.ops [3, 6, 44]) (.cond (.seq (.ops [4, 5]) .leaf) .leaf)) (.seq (.ops [4, 5]) .leaf))))) (Tryd.f61.body.getD .skip) [a0, a1] w R by kernel_rfl) h)

/-! ### 62: handbill/date.within -/
def sh62 (a0 : Value) (w : World) (R : Value → World → Prop) : Prop :=
 RunA Tryd.prog (bin .geq 3 (.tmp 3) (.const (.int .i64 0)) a0 (.int .i64 0)) fun t4_1 =>
 IfB t4_1 (
 CallF Tryd.prog 52 #[(.int .i64 10000)] w fun t7_2 w =>
 RunA Tryd.prog (bin .mul 3 (.tmp 7) (.const (.int .i64 86400)) t7_2 (.int .i64 86400)) fun t8_3 =>
 RunA Tryd.prog (bin .lss 3 (.tmp 6) (.tmp 8) a0 t8_3) fun t9_4 =>
 R t9_4 w) (
 R (.bool false) w)
theorem sh62_calls {a0 : Value} {w : World} {R : Value → World → Prop} (h : sh62 a0 w R) : CallF Tryd.prog 62 #[a0] w R :=
  calls_of_denF (mk := false) (args := [a0]) (an := (.seq (.ops [0]) (.seq (.ops [2]) .leaf))) (c := Tryd.f62.body.getD .skip) hent Tryd.func62 rfl (Nat.le_of_ble_eq_true (by kernel_rfl))
    (Eq.mp (show sh62 a0 w R = denF Tryd.prog ent false Tryd.f62 (.seq (.ops [0]) (.seq (.ops [2]) .leaf)) (Tryd.f62.body.getD .skip) [a0] w R by kernel_rfl) h)

/-! ### 63: handbill/date.digits -/
def sh63 (a0 a1 : Value) (w : World) (R : Value → World → Prop) : Prop :=
 RunV Tryd.prog (Instr.makeSlice 49 a1 a1) w fun t8_1 w =>
 RunW Tryd.prog (Builtin.len_ #[49] 3 #[t8_1]) w fun t10_2 =>
 lp 2 (fun n_5 t0_3 t11_4 w =>
 RunA Tryd.prog (bin .lss 3 (.tmp 11) (.tmp 10) t11_4 t10_2) fun t12_6 =>
 IfB t12_6 (
 RunA Tryd.prog (bin .sub 3 (.tmp 15) (.const (.int .i64 1)) a1 (.int .i64 1)) fun t16_7 =>
 RunA Tryd.prog (bin .sub 3 (.tmp 16) (.tmp 17) t16_7 t11_4) fun t18_8 =>
 RunA Tryd.prog (bin .rem 3 (.tmp 19) (.const (.int .i64 10)) t0_3 (.int .i64 10)) fun t20_9 =>
 RunA Tryd.prog (bin .add 3 (.const (.int .i64 48)) (.tmp 20) (.int .i64 48) t20_9) fun t21_10 =>
 RunV Tryd.prog (convert 3 5 t21_10) w fun t22_11 w =>
 RunA Tryd.prog (Instr.indexAt 49 t8_1 t18_8) fun t23_12 =>
 RunU Tryd.prog (Instr.storeAt 5 t23_12 t22_11) w fun w =>
 RunA Tryd.prog (bin .quo 3 (.tmp 24) (.const (.int .i64 10)) t0_3 (.int .i64 10)) fun t25_13 =>
 RunA Tryd.prog (bin .add 3 (.tmp 11) (.const (.int .i64 1)) t11_4 (.int .i64 1)) fun t26_14 =>
 (a1 : Value) = a1 ∧ ((t8_1 : Value) = t8_1 ∧ ((t10_2 : Value) = t10_2 ∧ (n_5 t25_13 t26_14 w)))) (
 RunV Tryd.prog (convert 49 9 t8_1) w fun t28_15 w =>
 R t28_15 w)) [a0, (.int .i64 0)] w
theorem sh63_calls {a0 a1 : Value} {w : World} {R : Value → World → Prop} (h : sh63 a0 a1 w R) : CallF Tryd.prog 63 #[a0, a1] w R :=
  calls_of_denF (mk := false) (args := [a0, a1]) (an := (.seq (.ops [0, 1]) (.seq (.ops [0, 1, 5]) (.seq (.seq (.ops [0, 1, 5, 10, 11]) (.blk (.loop [1, 5, 10] [0, 11] (.seq (.ops [0, 1, 5, 10, 11, 12]) (.seq (.cond .leaf .leaf) (.seq (.blk (.seq (.ops [0, 1, 5, 6, 10, 11]) (.seq (.ops [0, 1, 5, 10, 11]) (.ops [0, 1, 5, 10, 11])))) (.ops [0, 1, 5, 10, 11]))))))) (.seq (.ops [4]) .leaf))))) (c := Tryd.f63.body.getD .skip) hent Tryd.func63 rfl (Nat.le_of_ble_eq_true (by kernel_rfl))
    (Eq.mp (show sh63 a0 a1 w R = denF Tryd.prog ent false Tryd.f63 (.seq (.ops [0, 1]) (.seq (.ops [0, 1, 5]) (.seq (.seq (.ops [0, 1, 5, 10, 11]) (.blk (.loop [1, 5, 10] [0, 11] (.seq (.ops [0, 1, 5, 10, 11, 12]) (.seq (.cond .leaf .leaf) (.seq (.blk (.seq (.ops [0, 1, 5, 6, 10, 11]) (.seq (.ops [0, 1, 5, 10, 11]) (.ops [0, 1, 5, 10, 11])))) (.ops [0, 1, 5, 10, 11]))))))) (.seq (.ops [4]) .leaf)))) (Tryd.f63.body.getD .skip) [a0, a1] w R by kernel_rfl) h)

/-! ### 64: (*handbill/date.reader).fraction -/
def sh64 (a0 : Value) (w : World) (R : Value → World → Prop) : Prop :=
 CallF Tryd.prog 59 #[a0, (.string ⟨#[46]⟩)] w fun t3_1 w =>
 IfB t3_1 (
 CallF Tryd.prog 56 #[a0, (.int .i64 1), (.int .i64 1)] w fun t5_2 w =>
 RunA Tryd.prog (nilV a0) fun t8_3 =>
 RunA Tryd.prog (Instr.fieldAt 76 t8_3 0) fun t9_4 =>
 RunW Tryd.prog (Instr.loadAt 9 t9_4) w fun t10_5 =>
 CallF Tryd.prog 87 #[t10_5, (.string ⟨#[48, 49, 50, 51, 52, 53, 54, 55, 56, 57]⟩)] w fun t11_6 w =>
 RunA Tryd.prog (nilV a0) fun t12_7 =>
 RunA Tryd.prog (Instr.fieldAt 76 t12_7 0) fun t13_8 =>
 RunU Tryd.prog (Instr.storeAt 9 t13_8 t11_6) w fun w =>
 R (.tuple #[]) w) (
 R (.tuple #[]) w)
theorem sh64_calls {a0 : Value} {w : World} {R : Value → World → Prop} (h : sh64 a0 w R) : CallF Tryd.prog 64 #[a0] w R :=
  calls_of_denF (mk := false) (args := [a0]) (an := (.seq (.ops [0, 3]) (.cond (.seq (.ops [0]) (.ops [])) .leaf))) (c := Tryd.f64.body.getD .skip) hent Tryd.func64 rfl (Nat.le_of_ble_eq_true (by kernel_rfl))
    (Eq.mp (show sh64 a0 w R = denF Tryd.prog ent false Tryd.f64 (.seq (.ops [0, 3]) (.cond (.seq (.ops [0]) (.ops [])) .leaf)) (Tryd.f64.body.getD .skip) [a0] w R by kernel_rfl) h)

/-! ### 65: (*handbill/date.reader).offset -/
def sh65 (a0 a1 : Value) (w : World) (R : Value → World → Prop) : Prop :=
 jn 3 (fun t0_1 t1_2 t5_3 w =>
 CallF Tryd.prog 56 #[t0_1, (.int .i64 2), (.int .i64 2)] w fun t14_5 w =>
 CallF Tryd.prog 55 #[t0_1, t1_2] w fun t17_6 w =>
 CallF Tryd.prog 56 #[t0_1, (.int .i64 2), (.int .i64 2)] w fun t19_7 w =>
 jn 3 (fun t5_8 t6_9 t7_10 w =>
 RunA Tryd.prog (bin .mul 3 (.tmp 30) (.const (.int .i64 3600)) t6_9 (.int .i64 3600)) fun t31_12 =>
 RunA Tryd.prog (bin .mul 3 (.tmp 32) (.const (.int .i64 60)) t7_10 (.int .i64 60)) fun t33_13 =>
 RunA Tryd.prog (bin .add 3 (.tmp 31) (.tmp 33) t31_12 t33_13) fun t34_14 =>
 RunA Tryd.prog (bin .mul 3 (.tmp 29) (.tmp 34) t5_8 t34_14) fun t35_15 =>
 R t35_15 w) fun j_11 =>
 RunA Tryd.prog (bin .gtr 3 (.tmp 20) (.const (.int .i64 23)) t14_5 (.int .i64 23)) fun t21_16 =>
 IfB t21_16 (
 RunA Tryd.prog (nilV t0_1) fun t27_17 =>
 RunA Tryd.prog (Instr.fieldAt 76 t27_17 1) fun t28_18 =>
 RunU Tryd.prog (Instr.storeAt 4 t28_18 (.bool true)) w fun w =>
 j_11 t5_3 t14_5 t19_7 w) (
 RunA Tryd.prog (bin .gtr 3 (.tmp 23) (.const (.int .i64 59)) t19_7 (.int .i64 59)) fun t24_19 =>
 IfB t24_19 (
 RunA Tryd.prog (nilV t0_1) fun t27_20 =>
 RunA Tryd.prog (Instr.fieldAt 76 t27_20 1) fun t28_21 =>
 RunU Tryd.prog (Instr.storeAt 4 t28_21 (.bool true)) w fun w =>
 j_11 t5_3 t14_5 t19_7 w) (
 j_11 t5_3 t14_5 t19_7 w))) fun j_4 =>
 CallF Tryd.prog 59 #[a0, (.string ⟨#[43]⟩)] w fun t9_22 w =>
 RunA Tryd.prog (Op.unary .not t9_22) fun t10_23 =>
 IfB t10_23 (
 CallF Tryd.prog 55 #[a0, (.string ⟨#[45]⟩)] w fun t12_24 w =>
 j_4 a0 a1 (.int .i64 (-1)) w) (
 j_4 a0 a1 (.int .i64 1) w)
theorem sh65_calls {a0 a1 : Value} {w : World} {R : Value → World → Prop} (h : sh65 a0 a1 w R) : CallF Tryd.prog 65 #[a0, a1] w R :=
  calls_of_denF (mk := false) (args := [a0, a1]) (an := (.seq (.ops [0, 1]) (.seq (.ops [0, 1, 5]) (.seq (.join [0, 1, 5] (.seq (.ops [0, 1, 5, 10]) (.cond (.seq (.ops [0, 1]) (.ops [0, 1, 5])) .leaf))) (.seq (.ops [0, 1, 5, 6]) (.seq (.ops [0, 5, 6]) (.seq (.ops [0, 5, 6, 7]) (.seq (.join [5, 6, 7] (.seq (.ops [0, 5, 6, 7, 25]) (.cond (.ops [5, 6, 7]) .leaf))) (.seq (.ops [4]) .leaf))))))))) (c := Tryd.f65.body.getD .skip) hent Tryd.func65 rfl (Nat.le_of_ble_eq_true (by kernel_rfl))
    (Eq.mp (show sh65 a0 a1 w R = denF Tryd.prog ent false Tryd.f65 (.seq (.ops [0, 1]) (.seq (.ops [0, 1, 5]) (.seq (.join [0, 1, 5] (.seq (.ops [0, 1, 5, 10]) (.cond (.seq (.ops [0, 1]) (.ops [0, 1, 5])) .leaf))) (.seq (.ops [0, 1, 5, 6]) (.seq (.ops [0, 5, 6]) (.seq (.ops [0, 5, 6, 7]) (.seq (.join [5, 6, 7] (.seq (.ops [0, 5, 6, 7, 25]) (.cond (.ops [5, 6, 7]) .leaf))) (.seq (.ops [4]) .leaf)))))))) (Tryd.f65.body.getD .skip) [a0, a1] w R by kernel_rfl) h)

/-! ### 66: handbill/hblref1.place -/
def sh66 (a0 a1 : Value) (w : World) (R : Value → World → Prop) : Prop :=
 lp 1 (fun n_2 t5_1 w =>
 RunW Tryd.prog (Builtin.len_ #[42] 3 #[a0]) w fun t8_3 =>
 RunA Tryd.prog (bin .lss 3 (.tmp 6) (.tmp 8) t5_1 t8_3) fun t9_4 =>
 IfB t9_4 (
 RunA Tryd.prog (Instr.indexAt 42 a0 t5_1) fun t14_5 =>
 RunW Tryd.prog (Instr.loadAt 9 t14_5) w fun t15_6 =>
 RunW Tryd.prog (bin .eql 9 (.tmp 15) (.tmp 16) t15_6 a1) w fun t17_7 =>
 IfB t17_7 (
 R t5_1 w) (
 RunA Tryd.prog (bin .add 3 (.tmp 10) (.const (.int .i64 1)) t5_1 (.int .i64 1)) fun t11_8 =>
 (a0 : Value) = a0 ∧ ((a1 : Value) = a1 ∧ (n_2 t11_8 w)))) (
 R (.int .i64 (-1)) w)) [(.int .i64 0)] w
theorem sh66_calls {a0 a1 : Value} {w : World} {R : Value → World → Prop} (h : sh66 a0 a1 w R) : CallF Tryd.prog 66 #[a0, a1] w R :=
  calls_of_denF (mk := false) (args := [a0, a1]) (an := (.seq (.ops [0, 1]) (.seq (.seq (.ops [0, 1, 5]) (.blk (.loop [0, 1] [5] (.seq (.seq (.ops [0, 1, 5, 9]) (.cond .leaf .leaf)) (.seq (.blk (.seq (.ops [0, 1, 5, 17]) (.cond (.seq (.ops [4]) .leaf) .leaf))) (.ops [0, 1, 5])))))) (.seq (.ops [4]) .leaf)))) (c := Tryd.f66.body.getD .skip) hent Tryd.func66 rfl (Nat.le_of_ble_eq_true (by kernel_rfl))
    (Eq.mp (show sh66 a0 a1 w R = denF Tryd.prog ent false Tryd.f66 (.seq (.ops [0, 1]) (.seq (.seq (.ops [0, 1, 5]) (.blk (.loop [0, 1] [5] (.seq (.seq (.ops [0, 1, 5, 9]) (.cond .leaf .leaf)) (.seq (.blk (.seq (.ops [0, 1, 5, 17]) (.cond (.seq (.ops [4]) .leaf) .leaf))) (.ops [0, 1, 5])))))) (.seq (.ops [4]) .leaf))) (Tryd.f66.body.getD .skip) [a0, a1] w R by kernel_rfl) h)

/-! ### 67: handbill/hblref.Split -/
def sh67 (a0 a1 : Value) (w : World) (R : Value → World → Prop) : Prop :=
 lp 3 (fun n_4 t5_1 t6_2 t7_3 w =>
 RunW Tryd.prog (Builtin.len_ #[9] 3 #[a0]) w fun t10_5 =>
 RunA Tryd.prog (bin .leq 3 (.tmp 8) (.tmp 10) t7_3 t10_5) fun t11_6 =>
 IfB t11_6 (
 jn 5 (fun t0_7 t1_8 t5_9 t6_10 t7_11 w =>
 RunA Tryd.prog (bin .add 3 (.tmp 12) (.const (.int .i64 1)) t7_11 (.int .i64 1)) fun t13_13 =>
 (t0_7 : Value) = a0 ∧ ((t1_8 : Value) = a1 ∧ (n_4 t5_9 t6_10 t13_13 w))) fun j_12 =>
 RunW Tryd.prog (Builtin.len_ #[9] 3 #[a0]) w fun t16_14 =>
 RunW Tryd.prog (bin .eql 3 (.tmp 14) (.tmp 16) t7_3 t16_14) w fun t17_15 =>
 IfB t17_15 (
 RunA Tryd.prog (Instr.sliceAt 9 a0 (some t6_2) (some t7_3) none) fun t29_16 =>
 RunV Tryd.prog (Instr.buildSlice 42 1 #[(0, t29_16)]) w fun t30_17 w =>
 RunV Tryd.prog (Builtin.append_ #[42, 42] 42 #[t5_1, t30_17]) w fun t31_18 w =>
 RunA Tryd.prog (bin .add 3 (.tmp 32) (.const (.int .i64 1)) t7_3 (.int .i64 1)) fun t33_19 =>
 j_12 a0 a1 t31_18 t33_19 t7_3 w) (
 RunA Tryd.prog (Instr.index 9 a0 t7_3) fun t21_20 =>
 RunW Tryd.prog (bin .eql 5 (.tmp 21) (.tmp 22) t21_20 a1) w fun t23_21 =>
 IfB t23_21 (
 RunA Tryd.prog (Instr.sliceAt 9 a0 (some t6_2) (some t7_3) none) fun t29_22 =>
 RunV Tryd.prog (Instr.buildSlice 42 1 #[(0, t29_22)]) w fun t30_23 w =>
 RunV Tryd.prog (Builtin.append_ #[42, 42] 42 #[t5_1, t30_23]) w fun t31_24 w =>
 RunA Tryd.prog (bin .add 3 (.tmp 32) (.const (.int .i64 1)) t7_3 (.int .i64 1)) fun t33_25 =>
 j_12 a0 a1 t31_24 t33_25 t7_3 w) (
 j_12 a0 a1 t5_1 t6_2 t7_3 w))) (
 R t5_1 w)) [(.slice none 0 0), (.int .i64 0), (.int .i64 0)] w
theorem sh67_calls {a0 a1 : Value} {w : World} {R : Value → World → Prop} (h : sh67 a0 a1 w R) : CallF Tryd.prog 67 #[a0, a1] w R :=
  calls_of_denF (mk := false) (args := [a0, a1]) (an := (.seq (.ops [0, 1]) (.seq (.ops [0, 1, 5]) (.seq (.ops [0, 1, 5, 6]) (.seq (.seq (.ops [0, 1, 5, 6, 7]) (.blk (.loop [0, 1] [5, 6, 7] (.seq (.seq (.ops [0, 1, 5, 6, 7, 11]) (.cond .leaf .leaf)) (.seq (.blk (.join [0, 1, 5, 6, 7] (.seq (.ops [0, 1, 5, 6, 7, 24]) (.cond (.seq (.ops [0, 1, 5, 7]) (.ops [0, 1, 5, 6, 7])) .leaf)))) (.ops [0, 1, 5, 6, 7])))))) (.seq (.ops [4]) .leaf)))))) (c := Tryd.f67.body.getD .skip) hent Tryd.func67 rfl (Nat.le_of_ble_eq_true (by kernel_rfl))
    (Eq.mp (show sh67 a0 a1 w R = denF Tryd.prog ent false Tryd.f67 (.seq (.ops [0, 1]) (.seq (.ops [0, 1, 5]) (.seq (.ops [0, 1, 5, 6]) (.seq (.seq (.ops [0, 1, 5, 6, 7]) (.blk (.loop [0, 1] [5, 6, 7] (.seq (.seq (.ops [0, 1, 5, 6, 7, 11]) (.cond .leaf .leaf)) (.seq (.blk (.join [0, 1, 5, 6, 7] (.seq (.ops [0, 1, 5, 6, 7, 24]) (.cond (.seq (.ops [0, 1, 5, 7]) (.ops [0, 1, 5, 6, 7])) .leaf)))) (.ops [0, 1, 5, 6, 7])))))) (.seq (.ops [4]) .leaf))))) (Tryd.f67.body.getD .skip) [a0, a1] w R by kernel_rfl) h)

/-! ### 68: handbill/hblref1.digits -/
def sh68 (a0 a1 a2 : Value) (w : World) (R : Value → World → Prop) : Prop :=
 RunA Tryd.prog (bin .lss 3 (.tmp 9) (.const (.int .i64 0)) a1 (.int .i64 0)) fun t10_1 =>
 IfB t10_1 (
 R (.int .i64 (-1)) w) (
 RunA Tryd.prog (bin .add 3 (.tmp 12) (.tmp 13) a1 a2) fun t14_2 =>
 RunW Tryd.prog (Builtin.len_ #[9] 3 #[a0]) w fun t16_3 =>
 RunA Tryd.prog (bin .gtr 3 (.tmp 14) (.tmp 16) t14_2 t16_3) fun t17_4 =>
 IfB t17_4 (
 R (.int .i64 (-1)) w) (
 lp 2 (fun n_7 t7_5 t8_6 w =>
 RunA Tryd.prog (bin .add 3 (.tmp 21) (.tmp 22) a1 a2) fun t23_8 =>
 RunA Tryd.prog (bin .lss 3 (.tmp 20) (.tmp 23) t8_6 t23_8) fun t24_9 =>
 IfB t24_9 (
 RunA Tryd.prog (Instr.index 9 a0 t8_6) fun t29_10 =>
 RunA Tryd.prog (bin .lss 5 (.tmp 29) (.const (.int .u8 48)) t29_10 (.int .u8 48)) fun t30_11 =>
 IfB t30_11 (
 R (.int .i64 (-1)) w) (
 RunA Tryd.prog (Instr.index 9 a0 t8_6) fun t34_12 =>
 RunA Tryd.prog (bin .gtr 5 (.tmp 34) (.const (.int .u8 57)) t34_12 (.int .u8 57)) fun t35_13 =>
 IfB t35_13 (
 R (.int .i64 (-1)) w) (
 RunA Tryd.prog (bin .mul 3 (.const (.int .i64 10)) (.tmp 37) (.int .i64 10) t7_5) fun t38_14 =>
 RunA Tryd.prog (Instr.index 9 a0 t8_6) fun t41_15 =>
 RunA Tryd.prog (bin .sub 5 (.tmp 41) (.const (.int .u8 48)) t41_15 (.int .u8 48)) fun t42_16 =>
 RunV Tryd.prog (convert 5 3 t42_16) w fun t43_17 w =>
 RunA Tryd.prog (bin .add 3 (.tmp 38) (.tmp 43) t38_14 t43_17) fun t44_18 =>
 RunA Tryd.prog (bin .add 3 (.tmp 25) (.const (.int .i64 1)) t8_6 (.int .i64 1)) fun t26_19 =>
 (a0 : Value) = a0 ∧ ((a1 : Value) = a1 ∧ ((a2 : Value) = a2 ∧ (n_7 t44_18 t26_19 w)))))) (
 R t7_5 w)) [(.int .i64 0), a1] w))
theorem sh68_calls {a0 a1 a2 : Value} {w : World} {R : Value → World → Prop} (h : sh68 a0 a1 a2 w R) : CallF Tryd.prog 68 #[a0, a1, a2] w R :=
  calls_of_denF (mk := false) (args := [a0, a1, a2]) (an := (.seq (.ops [0, 1, 2]) (.seq (.seq (.ops [0, 1, 2, 18]) (.cond (.seq (.ops [6]) .leaf) .leaf)) (.seq (.ops [0, 1, 2, 7]) (.seq (.seq (.ops [0, 1, 2, 7, 8]) (.blk (.loop [0, 1, 2] [7, 8] (.seq (.seq (.ops [0, 1, 2, 7, 8, 24]) (.cond .leaf .leaf)) (.seq (.blk (.seq (.seq (.ops [0, 1, 2, 7, 8, 36]) (.cond (.seq (.ops [6]) .leaf) .leaf)) (.ops [0, 1, 2, 7, 8]))) (.ops [0, 1, 2, 7, 8])))))) (.seq (.ops [6]) .leaf)))))) (c := Tryd.f68.body.getD .skip) hent Tryd.func68 rfl (Nat.le_of_ble_eq_true (by kernel_rfl))
    (Eq.mp (show sh68 a0 a1 a2 w R = denF Tryd.prog ent false Tryd.f68 (.seq (.ops [0, 1, 2]) (.seq (.seq (.ops [0, 1, 2, 18]) (.cond (.seq (.ops [6]) .leaf) .leaf)) (.seq (.ops [0, 1, 2, 7]) (.seq (.seq (.ops [0, 1, 2, 7, 8]) (.blk (.loop [0, 1, 2] [7, 8] (.seq (.seq (.ops [0, 1, 2, 7, 8, 24]) (.cond .leaf .leaf)) (.seq (.blk (.seq (.seq (.ops [0, 1, 2, 7, 8, 36]) (.cond (.seq (.ops [6]) .leaf) .leaf)) (.ops [0, 1, 2, 7, 8]))) (.ops [0, 1, 2, 7, 8])))))) (.seq (.ops [6]) .leaf))))) (Tryd.f68.body.getD .skip) [a0, a1, a2] w R by kernel_rfl) h)

/-! ### 69: handbill/hblref1.zone -/
def sh69 (a0 : Value) (w : World) (R : Value → World → Prop) : Prop :=
 jn 1 (fun t0_1 w =>
 jn 2 (fun t26_3 t27_4 w =>
 IfB t27_4 (
 R (.tuple #[(.int .i64 0), (.bool true)]) w) (
 RunW Tryd.prog (bin .eql 9 (.tmp 26) (.const (.string ⟨#[69, 68, 84]⟩)) t26_3 (.string ⟨#[69, 68, 84]⟩)) w fun t32_6 =>
 IfB t32_6 (
 R (.tuple #[(.int .i64 (-14400)), (.bool true)]) w) (
 jn 2 (fun t26_7 t33_8 w =>
 IfB t33_8 (
 R (.tuple #[(.int .i64 (-18000)), (.bool true)]) w) (
 jn 2 (fun t26_10 t36_11 w =>
 IfB t36_11 (
 R (.tuple #[(.int .i64 (-21600)), (.bool true)]) w) (
 jn 2 (fun t26_13 t39_14 w =>
 IfB t39_14 (
 R (.tuple #[(.int .i64 (-25200)), (.bool true)]) w) (
 RunW Tryd.prog (bin .eql 9 (.tmp 26) (.const (.string ⟨#[80, 83, 84]⟩)) t26_13 (.string ⟨#[80, 83, 84]⟩)) w fun t43_16 =>
 IfB t43_16 (
 R (.tuple #[(.int .i64 (-28800)), (.bool true)]) w) (
 R (.tuple #[(.int .i64 0), (.bool false)]) w))) fun j_15 =>
 RunW Tryd.prog (bin .eql 9 (.tmp 26) (.const (.string ⟨#[77, 83, 84]⟩)) t26_10 (.string ⟨#[77, 83, 84]⟩)) w fun t40_17 =>
 IfB t40_17 (
 j_15 t26_10 t40_17 w) (
 RunW Tryd.prog (bin .eql 9 (.tmp 26) (.const (.string ⟨#[80, 68, 84]⟩)) t26_10 (.string ⟨#[80, 68, 84]⟩)) w fun t41_18 =>
 j_15 t26_10 t41_18 w))) fun j_12 =>
 RunW Tryd.prog (bin .eql 9 (.tmp 26) (.const (.string ⟨#[67, 83, 84]⟩)) t26_7 (.string ⟨#[67, 83, 84]⟩)) w fun t37_19 =>
 IfB t37_19 (
 j_12 t26_7 t37_19 w) (
 RunW Tryd.prog (bin .eql 9 (.tmp 26) (.const (.string ⟨#[77, 68, 84]⟩)) t26_7 (.string ⟨#[77, 68, 84]⟩)) w fun t38_20 =>
 j_12 t26_7 t38_20 w))) fun j_9 =>
 RunW Tryd.prog (bin .eql 9 (.tmp 26) (.const (.string ⟨#[69, 83, 84]⟩)) t26_3 (.string ⟨#[69, 83, 84]⟩)) w fun t34_21 =>
 IfB t34_21 (
 j_9 t26_3 t34_21 w) (
 RunW Tryd.prog (bin .eql 9 (.tmp 26) (.const (.string ⟨#[67, 68, 84]⟩)) t26_3 (.string ⟨#[67, 68, 84]⟩)) w fun t35_22 =>
 j_9 t26_3 t35_22 w)))) fun j_5 =>
 RunW Tryd.prog (bin .eql 9 (.tmp 26) (.const (.string ⟨#[71, 77, 84]⟩)) t0_1 (.string ⟨#[71, 77, 84]⟩)) w fun t28_23 =>
 IfB t28_23 (
 j_5 t0_1 t28_23 w) (
 jn 2 (fun t26_24 t27_25 w =>
 j_5 t26_24 t27_25 w) fun j_26 =>
 RunW Tryd.prog (bin .eql 9 (.tmp 26) (.const (.string ⟨#[85, 84]⟩)) t0_1 (.string ⟨#[85, 84]⟩)) w fun t29_27 =>
 IfB t29_27 (
 j_26 t0_1 t29_27 w) (
 RunW Tryd.prog (bin .eql 9 (.tmp 26) (.const (.string ⟨#[90]⟩)) t0_1 (.string ⟨#[90]⟩)) w fun t30_28 =>
 j_26 t0_1 t30_28 w))) fun j_2 =>
 RunW Tryd.prog (Builtin.len_ #[9] 3 #[a0]) w fun t5_29 =>
 RunW Tryd.prog (bin .eql 3 (.tmp 5) (.const (.int .i64 5)) t5_29 (.int .i64 5)) w fun t6_30 =>
 IfB t6_30 (
 RunA Tryd.prog (Instr.index 9 a0 (.int .i64 0)) fun t9_31 =>
 RunW Tryd.prog (bin .eql 5 (.tmp 9) (.const (.int .u8 43)) t9_31 (.int .u8 43)) w fun t10_32 =>
 IfB t10_32 (
 drw (fun S_33 w =>
 RunA Tryd.prog (Instr.index 9 a0 (.int .i64 0)) fun t22_34 =>
 CallF Tryd.prog 68 #[a0, (.int .i64 1), (.int .i64 2)] w fun t18_35 w =>
 CallF Tryd.prog 68 #[a0, (.int .i64 3), (.int .i64 2)] w fun t20_36 w =>
 CallF Tryd.prog 71 #[t18_35, t20_36, t22_34] w fun t23_37 w =>
 RunA Tryd.prog (Instr.extract t23_37 0) fun t24_38 =>
 RunA Tryd.prog (Instr.extract t23_37 1) fun t25_39 =>
 R (.tuple #[t24_38, t25_39]) w) w) (
 RunA Tryd.prog (Instr.index 9 a0 (.int .i64 0)) fun t13_40 =>
 RunW Tryd.prog (bin .eql 5 (.tmp 13) (.const (.int .u8 45)) t13_40 (.int .u8 45)) w fun t14_41 =>
 IfB t14_41 (
 drw (fun S_42 w =>
 RunA Tryd.prog (Instr.index 9 a0 (.int .i64 0)) fun t22_43 =>
 CallF Tryd.prog 68 #[a0, (.int .i64 1), (.int .i64 2)] w fun t18_44 w =>
 CallF Tryd.prog 68 #[a0, (.int .i64 3), (.int .i64 2)] w fun t20_45 w =>
 CallF Tryd.prog 71 #[t18_44, t20_45, t22_43] w fun t23_46 w =>
 RunA Tryd.prog (Instr.extract t23_46 0) fun t24_47 =>
 RunA Tryd.prog (Instr.extract t23_46 1) fun t25_48 =>
 R (.tuple #[t24_47, t25_48]) w) w) (
 j_2 a0 w))) (
 j_2 a0 w)
theorem sh69_calls {a0 : Value} {w : World} {R : Value → World → Prop} (h : sh69 a0 w R) : CallF Tryd.prog 69 #[a0] w R :=
  calls_of_denF (mk := false) (args := [a0]) (an := (.seq (.ops [0]) (.seq (.join [0] (.seq (.ops [0, 16]) (.cond (.seq (.draw (.q 0 (.q 2 (.q 4 (.q 5 (.one 1 (.one 3 (.one 6 (.q 7 (.q 8 (.q 9 (.q 10 .fin))))))))))) [2, 3]) .leaf) .leaf))) (.seq (.seq (.ops [26]) (.blk (.seq (.join [26, 27] (.seq (.ops [26, 27]) (.cond .leaf (.join [26, 27] (.seq (.ops [26, 27]) (.cond .leaf (.ops [26, 27]))))))) (.cond (.seq (.ops [2, 3]) .leaf) (.seq (.ops [26, 31]) (.cond (.seq (.ops [2, 3]) .leaf) (.seq (.join [26, 33] (.seq (.ops [26, 33]) (.cond .leaf (.ops [26, 33])))) (.cond (.seq (.ops [2, 3]) .leaf) (.seq (.join [26, 36] (.seq (.ops [26, 36]) (.cond .leaf (.ops [26, 36])))) (.cond (.seq (.ops [2, 3]) .leaf) (.seq (.join [26, 39] (.seq (.ops [26, 39]) (.cond .leaf (.ops [26, 39])))) (.cond (.seq (.ops [2, 3]) .leaf) (.seq (.ops [42]) (.cond (.seq (.ops [2, 3]) .leaf) .leaf)))))))))))))) (.seq (.ops [2, 3]) .leaf))))) (c := Tryd.f69.body.getD .skip) hent Tryd.func69 rfl (Nat.le_of_ble_eq_true (by kernel_rfl))
    (Eq.mp (show sh69 a0 w R = denF Tryd.prog ent false Tryd.f69 (.seq (.ops [0]) (.seq (.join [0] (.seq (.ops [0, 16]) (.cond (.seq (.draw (.q 0 (.q 2 (.q 4 (.q 5 (.one 1 (.one 3 (.one 6 (.q 7 (.q 8 (.q 9 (.q 10 .fin))))))))))) [2, 3]) .leaf) .leaf))) (.seq (.seq (.ops [26]) (.blk (.seq (.join [26, 27] (.seq (.ops [26, 27]) (.cond .leaf (.join [26, 27] (.seq (.ops [26, 27]) (.cond .leaf (.ops [26, 27]))))))) (.cond (.seq (.ops [2, 3]) .leaf) (.seq (.ops [26, 31]) (.cond (.seq (.ops [2, 3]) .leaf) (.seq (.join [26, 33] (.seq (.ops [26, 33]) (.cond .leaf (.ops [26, 33])))) (.cond (.seq (.ops [2, 3]) .leaf) (.seq (.join [26, 36] (.seq (.ops [26, 36]) (.cond .leaf (.ops [26, 36])))) (.cond (.seq (.ops [2, 3]) .leaf) (.seq (.join [26, 39] (.seq (.ops [26, 39]) (.cond .leaf (.ops [26, 39])))) (.cond (.seq (.ops [2, 3]) .leaf) (.seq (.ops [42]) (.cond (.seq (.ops [2, 3]) .leaf) .leaf)))))))))))))) (.seq (.ops [2, 3]) .leaf)))) (Tryd.f69.body.getD .skip) [a0] w R by kernel_rfl) h)

/-! ### 70: handbill/hblref1.made -/
def sh70 (a0 a1 a2 a3 a4 a5 a6 : Value) (w : World) (R : Value → World → Prop) : Prop :=
 CallF Tryd.prog 35 #[a0, a1, a2, a3, a4, a5] w fun t25_1 w =>
 RunA Tryd.prog (Instr.extract t25_1 0) fun t26_2 =>
 RunA Tryd.prog (Instr.extract t25_1 1) fun t27_3 =>
 RunA Tryd.prog (Op.unary .not t27_3) fun t29_4 =>
 IfB t29_4 (
 R (.tuple #[(.int .i64 0), (.int .i64 1)]) w) (
 RunA Tryd.prog (bin .sub 3 (.tmp 31) (.tmp 32) t26_2 a6) fun t33_5 =>
 CallF Tryd.prog 72 #[t33_5] w fun t34_6 w =>
 RunA Tryd.prog (Op.unary .not t34_6) fun t35_7 =>
 IfB t35_7 (
 R (.tuple #[(.int .i64 0), (.int .i64 1)]) w) (
 RunA Tryd.prog (bin .sub 3 (.tmp 37) (.tmp 38) t26_2 a6) fun t39_8 =>
 R (.tuple #[t39_8, (.int .i64 0)]) w))
theorem sh70_calls {a0 a1 a2 a3 a4 a5 a6 : Value} {w : World} {R : Value → World → Prop} (h : sh70 a0 a1 a2 a3 a4 a5 a6 w R) : CallF Tryd.prog 70 #[a0, a1, a2, a3, a4, a5, a6] w R :=
  calls_of_denF (mk := false) (args := [a0, a1, a2, a3, a4, a5, a6]) (an := (.seq (.ops [0, 1, 2, 3, 4, 5, 6]) (.seq (.ops [6, 16, 17]) (.seq (.seq (.ops [6, 16, 36]) (.cond (.seq (.ops [14, 15]) .leaf) .leaf)) (.seq (.ops [14, 15]) .leaf))))) (c := Tryd.f70.body.getD .skip) hent Tryd.func70 rfl (Nat.le_of_ble_eq_true (by kernel_rfl))
    (Eq.mp (show sh70 a0 a1 a2 a3 a4 a5 a6 w R = denF Tryd.prog ent false Tryd.f70 (.seq (.ops [0, 1, 2, 3, 4, 5, 6]) (.seq (.ops [6, 16, 17]) (.seq (.seq (.ops [6, 16, 36]) (.cond (.seq (.ops [14, 15]) .leaf) .leaf)) (.seq (.ops [14, 15]) .leaf)))) (Tryd.f70.body.getD .skip) [a0, a1, a2, a3, a4, a5, a6] w R by kernel_rfl) h)

/-! ### 71: handbill/hblref1.offset -/
def sh71 (a0 a1 a2 : Value) (w : World) (R : Value → World → Prop) : Prop :=
 RunA Tryd.prog (bin .lss 3 (.tmp 8) (.const (.int .i64 0)) a0 (.int .i64 0)) fun t9_1 =>
 IfB t9_1 (
 R (.tuple #[(.int .i64 0), (.bool false)]) w) (
 RunA Tryd.prog (bin .gtr 3 (.tmp 11) (.const (.int .i64 23)) a0 (.int .i64 23)) fun t12_2 =>
 IfB t12_2 (
 R (.tuple #[(.int .i64 0), (.bool false)]) w) (
 RunA Tryd.prog (bin .lss 3 (.tmp 15) (.const (.int .i64 0)) a1 (.int .i64 0)) fun t16_3 =>
 IfB t16_3 (
 R (.tuple #[(.int .i64 0), (.bool false)]) w) (
 RunA Tryd.prog (bin .gtr 3 (.tmp 19) (.const (.int .i64 59)) a1 (.int .i64 59)) fun t20_4 =>
 IfB t20_4 (
 R (.tuple #[(.int .i64 0), (.bool false)]) w) (
 RunW Tryd.prog (bin .eql 5 (.tmp 22) (.const (.int .u8 45)) a2 (.int .u8 45)) w fun t23_5 =>
 IfB t23_5 (
 RunA Tryd.prog (bin .mul 3 (.tmp 24) (.const (.int .i64 3600)) a0 (.int .i64 3600)) fun t25_6 =>
 RunA Tryd.prog (bin .mul 3 (.tmp 26) (.const (.int .i64 60)) a1 (.int .i64 60)) fun t27_7 =>
 RunA Tryd.prog (bin .add 3 (.tmp 25) (.tmp 27) t25_6 t27_7) fun t28_8 =>
 RunA Tryd.prog (Op.unary .neg t28_8) fun t29_9 =>
 R (.tuple #[t29_9, (.bool true)]) w) (
 RunA Tryd.prog (bin .mul 3 (.tmp 30) (.const (.int .i64 3600)) a0 (.int .i64 3600)) fun t31_10 =>
 RunA Tryd.prog (bin .mul 3 (.tmp 32) (.const (.int .i64 60)) a1 (.int .i64 60)) fun t33_11 =>
 RunA Tryd.prog (bin .add 3 (.tmp 31) (.tmp 33) t31_10 t33_11) fun t34_12 =>
 R (.tuple #[t34_12, (.bool true)]) w)))))
theorem sh71_calls {a0 a1 a2 : Value} {w : World} {R : Value → World → Prop} (h : sh71 a0 a1 a2 w R) : CallF Tryd.prog 71 #[a0, a1, a2] w R :=
  calls_of_denF (mk := false) (args := [a0, a1, a2]) (an := (.seq (.ops [0, 1, 2]) (.seq (.seq (.ops [0, 1, 2, 21]) (.cond (.seq (.ops [6, 7]) .leaf) .leaf)) (.seq (.seq (.ops [0, 1, 23]) (.cond (.seq (.ops [6, 7]) .leaf) .leaf)) (.seq (.ops [6, 7]) .leaf))))) (c := Tryd.f71.body.getD .skip) hent Tryd.func71 rfl (Nat.le_of_ble_eq_true (by kernel_rfl))
    (Eq.mp (show sh71 a0 a1 a2 w R = denF Tryd.prog ent false Tryd.f71 (.seq (.ops [0, 1, 2]) (.seq (.seq (.ops [0, 1, 2, 21]) (.cond (.seq (.ops [6, 7]) .leaf) .leaf)) (.seq (.seq (.ops [0, 1, 23]) (.cond (.seq (.ops [6, 7]) .leaf) .leaf)) (.seq (.ops [6, 7]) .leaf)))) (Tryd.f71.body.getD .skip) [a0, a1, a2] w R by kernel_rfl) h)

/-! ### 72: handbill/hblref1.in -/
def sh72 (a0 : Value) (w : World) (R : Value → World → Prop) : Prop :=
 RunA Tryd.prog (bin .geq 3 (.tmp 3) (.const (.int .i64 0)) a0 (.int .i64 0)) fun t4_1 =>
 IfB t4_1 (
 CallF Tryd.prog 73 #[(.int .i64 10000)] w fun t7_2 w =>
 RunA Tryd.prog (bin .mul 3 (.tmp 7) (.const (.int .i64 86400)) t7_2 (.int .i64 86400)) fun t8_3 =>
 RunA Tryd.prog (bin .lss 3 (.tmp 6) (.tmp 8) a0 t8_3) fun t9_4 =>
 R t9_4 w) (
 R (.bool false) w)
theorem sh72_calls {a0 : Value} {w : World} {R : Value → World → Prop} (h : sh72 a0 w R) : CallF Tryd.prog 72 #[a0] w R :=
  calls_of_denF (mk := false) (args := [a0]) (an := (.seq (.ops [0]) (.seq (.ops [2]) .leaf))) (c := Tryd.f72.body.getD .skip) hent Tryd.func72 rfl (Nat.le_of_ble_eq_true (by kernel_rfl))
    (Eq.mp (show sh72 a0 w R = denF Tryd.prog ent false Tryd.f72 (.seq (.ops [0]) (.seq (.ops [2]) .leaf)) (Tryd.f72.body.getD .skip) [a0] w R by kernel_rfl) h)

/-! ### 73: handbill/hblref1.first -/
def sh73 (a0 : Value) (w : World) (R : Value → World → Prop) : Prop :=
 RunA Tryd.prog (bin .sub 3 (.tmp 4) (.const (.int .i64 1)) a0 (.int .i64 1)) fun t5_1 =>
 RunA Tryd.prog (bin .mul 3 (.const (.int .i64 365)) (.tmp 6) (.int .i64 365) t5_1) fun t7_2 =>
 RunA Tryd.prog (bin .quo 3 (.tmp 8) (.const (.int .i64 4)) t5_1 (.int .i64 4)) fun t9_3 =>
 RunA Tryd.prog (bin .add 3 (.tmp 7) (.tmp 9) t7_2 t9_3) fun t10_4 =>
 RunA Tryd.prog (bin .quo 3 (.tmp 11) (.const (.int .i64 100)) t5_1 (.int .i64 100)) fun t12_5 =>
 RunA Tryd.prog (bin .sub 3 (.tmp 10) (.tmp 12) t10_4 t12_5) fun t13_6 =>
 RunA Tryd.prog (bin .quo 3 (.tmp 14) (.const (.int .i64 400)) t5_1 (.int .i64 400)) fun t15_7 =>
 RunA Tryd.prog (bin .add 3 (.tmp 13) (.tmp 15) t13_6 t15_7) fun t16_8 =>
 RunA Tryd.prog (bin .sub 3 (.tmp 16) (.const (.int .i64 719162)) t16_8 (.int .i64 719162)) fun t17_9 =>
 R t17_9 w
theorem sh73_calls {a0 : Value} {w : World} {R : Value → World → Prop} (h : sh73 a0 w R) : CallF Tryd.prog 73 #[a0] w R :=
  calls_of_denF (mk := false) (args := [a0]) (an := (.seq (.ops [0]) (.seq (.ops [3]) (.seq (.ops [2]) .leaf)))) (c := Tryd.f73.body.getD .skip) hent Tryd.func73 rfl (Nat.le_of_ble_eq_true (by kernel_rfl))
    (Eq.mp (show sh73 a0 w R = denF Tryd.prog ent false Tryd.f73 (.seq (.ops [0]) (.seq (.ops [3]) (.seq (.ops [2]) .leaf))) (Tryd.f73.body.getD .skip) [a0] w R by kernel_rfl) h)

/-! ### 74: handbill/hblref1.length -/
def sh74 (a0 a1 : Value) (w : World) (R : Value → World → Prop) : Prop :=
 jn 3 (fun t0_1 t5_2 t6_3 w =>
 IfB t6_3 (
 R (.int .i64 30) w) (
 RunW Tryd.prog (bin .eql 3 (.tmp 5) (.const (.int .i64 2)) t5_2 (.int .i64 2)) w fun t12_5 =>
 IfB t12_5 (
 CallF Tryd.prog 88 #[t0_1] w fun t14_6 w =>
 IfB t14_6 (
 R (.int .i64 29) w) (
 R (.int .i64 28) w)) (
 R (.int .i64 31) w))) fun j_4 =>
 RunW Tryd.prog (bin .eql 3 (.tmp 5) (.const (.int .i64 4)) a1 (.int .i64 4)) w fun t7_7 =>
 IfB t7_7 (
 j_4 a0 a1 t7_7 w) (
 jn 3 (fun t0_8 t5_9 t6_10 w =>
 j_4 t0_8 t5_9 t6_10 w) fun j_11 =>
 RunW Tryd.prog (bin .eql 3 (.tmp 5) (.const (.int .i64 6)) a1 (.int .i64 6)) w fun t8_12 =>
 IfB t8_12 (
 j_11 a0 a1 t8_12 w) (
 jn 3 (fun t0_13 t5_14 t6_15 w =>
 j_11 t0_13 t5_14 t6_15 w) fun j_16 =>
 RunW Tryd.prog (bin .eql 3 (.tmp 5) (.const (.int .i64 9)) a1 (.int .i64 9)) w fun t9_17 =>
 IfB t9_17 (
 j_16 a0 a1 t9_17 w) (
 RunW Tryd.prog (bin .eql 3 (.tmp 5) (.const (.int .i64 11)) a1 (.int .i64 11)) w fun t10_18 =>
 j_16 a0 a1 t10_18 w)))
theorem sh74_calls {a0 a1 : Value} {w : World} {R : Value → World → Prop} (h : sh74 a0 a1 w R) : CallF Tryd.prog 74 #[a0, a1] w R :=
  calls_of_denF (mk := false) (args := [a0, a1]) (an := (.seq (.ops [0, 1]) (.seq (.seq (.ops [0, 5]) (.blk (.seq (.join [0, 5, 6] (.seq (.ops [0, 5, 6]) (.cond .leaf (.join [0, 5, 6] (.seq (.ops [0, 5, 6]) (.cond .leaf (.join [0, 5, 6] (.seq (.ops [0, 5, 6]) (.cond .leaf (.ops [0, 5, 6])))))))))) (.cond (.seq (.ops [4]) .leaf) (.seq (.ops [0, 11]) (.cond (.seq (.seq (.ops [14]) (.cond (.seq (.ops [4]) .leaf) .leaf)) (.seq (.ops [4]) .leaf)) .leaf)))))) (.seq (.ops [4]) .leaf)))) (c := Tryd.f74.body.getD .skip) hent Tryd.func74 rfl (Nat.le_of_ble_eq_true (by kernel_rfl))
    (Eq.mp (show sh74 a0 a1 w R = denF Tryd.prog ent false Tryd.f74 (.seq (.ops [0, 1]) (.seq (.seq (.ops [0, 5]) (.blk (.seq (.join [0, 5, 6] (.seq (.ops [0, 5, 6]) (.cond .leaf (.join [0, 5, 6] (.seq (.ops [0, 5, 6]) (.cond .leaf (.join [0, 5, 6] (.seq (.ops [0, 5, 6]) (.cond .leaf (.ops [0, 5, 6])))))))))) (.cond (.seq (.ops [4]) .leaf) (.seq (.ops [0, 11]) (.cond (.seq (.seq (.ops [14]) (.cond (.seq (.ops [4]) .leaf) .leaf)) (.seq (.ops [4]) .leaf)) .leaf)))))) (.seq (.ops [4]) .leaf))) (Tryd.f74.body.getD .skip) [a0, a1] w R by kernel_rfl) h)

/-! ### 75: handbill/hblref1.two -/
def sh75 (a0 : Value) (w : World) (R : Value → World → Prop) : Prop :=
 RunA Tryd.prog (bin .quo 3 (.tmp 3) (.const (.int .i64 10)) a0 (.int .i64 10)) fun t4_1 =>
 RunA Tryd.prog (bin .rem 3 (.tmp 4) (.const (.int .i64 10)) t4_1 (.int .i64 10)) fun t5_2 =>
 RunA Tryd.prog (bin .add 3 (.const (.int .i64 48)) (.tmp 5) (.int .i64 48) t5_2) fun t6_3 =>
 RunV Tryd.prog (convert 3 5 t6_3) w fun t7_4 w =>
 RunA Tryd.prog (bin .rem 3 (.tmp 8) (.const (.int .i64 10)) a0 (.int .i64 10)) fun t9_5 =>
 RunA Tryd.prog (bin .add 3 (.const (.int .i64 48)) (.tmp 9) (.int .i64 48) t9_5) fun t10_6 =>
 RunV Tryd.prog (convert 3 5 t10_6) w fun t11_7 w =>
 RunV Tryd.prog (Instr.buildSlice 49 2 #[(0, t7_4), (1, t11_7)]) w fun t12_8 w =>
 RunV Tryd.prog (convert 49 9 t12_8) w fun t13_9 w =>
 R t13_9 w
theorem sh75_calls {a0 : Value} {w : World} {R : Value → World → Prop} (h : sh75 a0 w R) : CallF Tryd.prog 75 #[a0] w R :=
  calls_of_denF (mk := false) (args := [a0]) (an := (.seq (.ops [0]) (.seq (.ops [2]) .leaf))) (c := Tryd.f75.body.getD .skip) hent Tryd.func75 rfl (Nat.le_of_ble_eq_true (by kernel_rfl))
    (Eq.mp (show sh75 a0 w R = denF Tryd.prog ent false Tryd.f75 (.seq (.ops [0]) (.seq (.ops [2]) .leaf)) (Tryd.f75.body.getD .skip) [a0] w R by kernel_rfl) h)

/-! ### 84: handbill/date.leap -/
def sh84 (a0 : Value) (w : World) (R : Value → World → Prop) : Prop :=
 RunA Tryd.prog (bin .rem 3 (.tmp 3) (.const (.int .i64 4)) a0 (.int .i64 4)) fun t4_1 =>
 RunW Tryd.prog (bin .eql 3 (.tmp 4) (.const (.int .i64 0)) t4_1 (.int .i64 0)) w fun t5_2 =>
 IfB t5_2 (
 RunA Tryd.prog (bin .rem 3 (.tmp 7) (.const (.int .i64 100)) a0 (.int .i64 100)) fun t8_3 =>
 RunW Tryd.prog (bin .neq 3 (.tmp 8) (.const (.int .i64 0)) t8_3 (.int .i64 0)) w fun t9_4 =>
 IfB t9_4 (
 R (.bool true) w) (
 RunA Tryd.prog (bin .rem 3 (.tmp 12) (.const (.int .i64 400)) a0 (.int .i64 400)) fun t13_5 =>
 RunW Tryd.prog (bin .eql 3 (.tmp 13) (.const (.int .i64 0)) t13_5 (.int .i64 0)) w fun t14_6 =>
 R t14_6 w)) (
 RunA Tryd.prog (bin .rem 3 (.tmp 12) (.const (.int .i64 400)) a0 (.int .i64 400)) fun t13_7 =>
 RunW Tryd.prog (bin .eql 3 (.tmp 13) (.const (.int .i64 0)) t13_7 (.int .i64 0)) w fun t14_8 =>
 R t14_8 w)
theorem sh84_calls {a0 : Value} {w : World} {R : Value → World → Prop} (h : sh84 a0 w R) : CallF Tryd.prog 84 #[a0] w R :=
  calls_of_denF (mk := false) (args := [a0]) (an := (.seq (.ops [0]) (.seq (.ops [2]) .leaf))) (c := Tryd.f84.body.getD .skip) hent Tryd.func84 rfl (Nat.le_of_ble_eq_true (by kernel_rfl))
    (Eq.mp (show sh84 a0 w R = denF Tryd.prog ent false Tryd.f84 (.seq (.ops [0]) (.seq (.ops [2]) .leaf)) (Tryd.f84.body.getD .skip) [a0] w R by kernel_rfl) h)

/-! ### 85: slices.IndexFunc[[]string,string] -/
def sh85 (a0 a1 : Value) (w : World) (R : Value → World → Prop) : Prop :=
 RunW Tryd.prog (Builtin.len_ #[42] 3 #[a0]) w fun t7_1 =>
 lp 1 (fun n_3 t8_2 w =>
 RunA Tryd.prog (bin .lss 3 (.tmp 8) (.tmp 7) t8_2 t7_1) fun t9_4 =>
 IfB t9_4 (
 RunA Tryd.prog (Instr.indexAt 42 a0 t8_2) fun t14_5 =>
 RunW Tryd.prog (Instr.loadAt 9 t14_5) w fun t15_6 =>
 CallV Tryd.prog a1 #[t15_6] w fun t16_7 w =>
 IfB t16_7 (
 R t8_2 w) (
 RunA Tryd.prog (bin .add 3 (.tmp 8) (.const (.int .i64 1)) t8_2 (.int .i64 1)) fun t18_8 =>
 (a0 : Value) = a0 ∧ ((a1 : Value) = a1 ∧ ((t7_1 : Value) = t7_1 ∧ (n_3 t18_8 w))))) (
 R (.int .i64 (-1)) w)) [(.int .i64 0)] w
theorem sh85_calls {a0 a1 : Value} {w : World} {R : Value → World → Prop} (h : sh85 a0 a1 w R) : CallF Tryd.prog 85 #[a0, a1] w R :=
  calls_of_denF (mk := false) (args := [a0, a1]) (an := (.seq (.ops [0, 1]) (.seq (.seq (.ops [0, 1, 7, 8]) (.blk (.loop [0, 1, 7] [8] (.seq (.ops [0, 1, 7, 8, 9]) (.seq (.cond .leaf .leaf) (.seq (.blk (.seq (.ops [0, 1, 5, 7, 8]) (.seq (.ops [0, 1, 5, 7, 8, 16]) (.cond (.seq (.ops [4]) .leaf) .leaf)))) (.ops [0, 1, 7, 8]))))))) (.seq (.ops [4]) .leaf)))) (c := Tryd.f85.body.getD .skip) hent Tryd.func85 rfl (Nat.le_of_ble_eq_true (by kernel_rfl))
    (Eq.mp (show sh85 a0 a1 w R = denF Tryd.prog ent false Tryd.f85 (.seq (.ops [0, 1]) (.seq (.seq (.ops [0, 1, 7, 8]) (.blk (.loop [0, 1, 7] [8] (.seq (.ops [0, 1, 7, 8, 9]) (.seq (.cond .leaf .leaf) (.seq (.blk (.seq (.ops [0, 1, 5, 7, 8]) (.seq (.ops [0, 1, 5, 7, 8, 16]) (.cond (.seq (.ops [4]) .leaf) .leaf)))) (.ops [0, 1, 7, 8]))))))) (.seq (.ops [4]) .leaf))) (Tryd.f85.body.getD .skip) [a0, a1] w R by kernel_rfl) h)

/-! ### 86: strings.CutPrefix -/
def sh86 (a0 a1 : Value) (w : World) (R : Value → World → Prop) : Prop :=
 CallF Tryd.prog 94 #[a0, a1] w fun t8_1 w =>
 RunA Tryd.prog (Instr.extract t8_1 0) fun t9_2 =>
 RunA Tryd.prog (Instr.extract t8_1 1) fun t10_3 =>
 R (.tuple #[t9_2, t10_3]) w
theorem sh86_calls {a0 a1 : Value} {w : World} {R : Value → World → Prop} (h : sh86 a0 a1 w R) : CallF Tryd.prog 86 #[a0, a1] w R :=
  calls_of_denF (mk := false) (args := [a0, a1]) (an := (.seq (.ops [0, 1]) (.seq (.ops [4, 5]) .leaf))) (c := Tryd.f86.body.getD .skip) hent Tryd.func86 rfl (Nat.le_of_ble_eq_true (by kernel_rfl))
    (Eq.mp (show sh86 a0 a1 w R = denF Tryd.prog ent false Tryd.f86 (.seq (.ops [0, 1]) (.seq (.ops [4, 5]) .leaf)) (Tryd.f86.body.getD .skip) [a0, a1] w R by kernel_rfl) h)

/-! ### 87: strings.TrimLeft -/
def sh87 (a0 a1 : Value) (w : World) (R : Value → World → Prop) : Prop :=
 RunW Tryd.prog (bin .eql 9 (.tmp 7) (.const (.string ⟨#[]⟩)) a0 (.string ⟨#[]⟩)) w fun t8_1 =>
 IfB t8_1 (
 R a0 w) (
 RunW Tryd.prog (bin .eql 9 (.tmp 10) (.const (.string ⟨#[]⟩)) a1 (.string ⟨#[]⟩)) w fun t11_2 =>
 IfB t11_2 (
 R a0 w) (
 jn 2 (fun t0_3 t1_4 w =>
 CallF Tryd.prog 96 #[t1_4] w fun t28_6 w =>
 RunA Tryd.prog (Instr.extract t28_6 0) fun t29_7 =>
 RunA Tryd.prog (Instr.extract t28_6 1) fun t30_8 =>
 RunV Tryd.prog (Instr.alloc 114 true (.tuple #[])) w fun t5_9 w =>
 RunU Tryd.prog (Instr.storeAt 114 t5_9 t29_7) w fun w =>
 IfB t30_8 (
 CallF Tryd.prog 97 #[t0_3, t5_9] w fun t33_10 w =>
 R t33_10 w) (
 CallF Tryd.prog 98 #[t0_3, t1_4] w fun t36_11 w =>
 R t36_11 w)) fun j_5 =>
 RunW Tryd.prog (Builtin.len_ #[9] 3 #[a1]) w fun t15_12 =>
 RunW Tryd.prog (bin .eql 3 (.tmp 15) (.const (.int .i64 1)) t15_12 (.int .i64 1)) w fun t16_13 =>
 IfB t16_13 (
 RunA Tryd.prog (Instr.index 9 a1 (.int .i64 0)) fun t19_14 =>
 RunA Tryd.prog (bin .lss 5 (.tmp 19) (.const (.int .u8 128)) t19_14 (.int .u8 128)) fun t20_15 =>
 IfB t20_15 (
 RunA Tryd.prog (Instr.index 9 a1 (.int .i64 0)) fun t24_16 =>
 CallF Tryd.prog 95 #[a0, t24_16] w fun t25_17 w =>
 R t25_17 w) (
 j_5 a0 a1 w)) (
 j_5 a0 a1 w)))
theorem sh87_calls {a0 a1 : Value} {w : World} {R : Value → World → Prop} (h : sh87 a0 a1 w R) : CallF Tryd.prog 87 #[a0, a1] w R :=
  calls_of_denF (mk := false) (args := [a0, a1]) (an := (.seq (.ops [0, 1]) (.seq (.seq (.ops [0, 1, 12]) (.cond (.seq (.ops [4]) .leaf) .leaf)) (.seq (.join [0, 1] (.seq (.ops [0, 1, 21]) (.cond (.seq (.ops [4]) .leaf) .leaf))) (.seq (.seq (.ops [0, 1, 5, 6]) (.seq (.ops [0, 1, 5, 31]) (.cond (.seq (.ops [4]) .leaf) .leaf))) (.seq (.ops [4]) .leaf)))))) (c := Tryd.f87.body.getD .skip) hent Tryd.func87 rfl (Nat.le_of_ble_eq_true (by kernel_rfl))
    (Eq.mp (show sh87 a0 a1 w R = denF Tryd.prog ent false Tryd.f87 (.seq (.ops [0, 1]) (.seq (.seq (.ops [0, 1, 12]) (.cond (.seq (.ops [4]) .leaf) .leaf)) (.seq (.join [0, 1] (.seq (.ops [0, 1, 21]) (.cond (.seq (.ops [4]) .leaf) .leaf))) (.seq (.seq (.ops [0, 1, 5, 6]) (.seq (.ops [0, 1, 5, 31]) (.cond (.seq (.ops [4]) .leaf) .leaf))) (.seq (.ops [4]) .leaf))))) (Tryd.f87.body.getD .skip) [a0, a1] w R by kernel_rfl) h)

/-! ### 88: handbill/hblref1.leap -/
def sh88 (a0 : Value) (w : World) (R : Value → World → Prop) : Prop :=
 RunA Tryd.prog (bin .rem 3 (.tmp 3) (.const (.int .i64 4)) a0 (.int .i64 4)) fun t4_1 =>
 RunW Tryd.prog (bin .eql 3 (.tmp 4) (.const (.int .i64 0)) t4_1 (.int .i64 0)) w fun t5_2 =>
 IfB t5_2 (
 RunA Tryd.prog (bin .rem 3 (.tmp 7) (.const (.int .i64 100)) a0 (.int .i64 100)) fun t8_3 =>
 RunW Tryd.prog (bin .neq 3 (.tmp 8) (.const (.int .i64 0)) t8_3 (.int .i64 0)) w fun t9_4 =>
 IfB t9_4 (
 R (.bool true) w) (
 RunA Tryd.prog (bin .rem 3 (.tmp 11) (.const (.int .i64 400)) a0 (.int .i64 400)) fun t12_5 =>
 RunW Tryd.prog (bin .eql 3 (.tmp 12) (.const (.int .i64 0)) t12_5 (.int .i64 0)) w fun t13_6 =>
 R t13_6 w)) (
 R (.bool false) w)
theorem sh88_calls {a0 : Value} {w : World} {R : Value → World → Prop} (h : sh88 a0 w R) : CallF Tryd.prog 88 #[a0] w R :=
  calls_of_denF (mk := false) (args := [a0]) (an := (.seq (.ops [0]) (.seq (.ops [2]) .leaf))) (c := Tryd.f88.body.getD .skip) hent Tryd.func88 rfl (Nat.le_of_ble_eq_true (by kernel_rfl))
    (Eq.mp (show sh88 a0 w R = denF Tryd.prog ent false Tryd.f88 (.seq (.ops [0]) (.seq (.ops [2]) .leaf)) (Tryd.f88.body.getD .skip) [a0] w R by kernel_rfl) h)

/-! ### 94: internal/stringslite.CutPrefix -/
def sh94 (a0 a1 : Value) (w : World) (R : Value → World → Prop) : Prop :=
 CallF Tryd.prog 100 #[a0, a1] w fun t8_1 w =>
 RunA Tryd.prog (Op.unary .not t8_1) fun t9_2 =>
 IfB t9_2 (
 R (.tuple #[a0, (.bool false)]) w) (
 RunW Tryd.prog (Builtin.len_ #[9] 3 #[a1]) w fun t13_3 =>
 RunA Tryd.prog (Instr.sliceAt 9 a0 (some t13_3) none none) fun t14_4 =>
 R (.tuple #[t14_4, (.bool true)]) w)
theorem sh94_calls {a0 a1 : Value} {w : World} {R : Value → World → Prop} (h : sh94 a0 a1 w R) : CallF Tryd.prog 94 #[a0, a1] w R :=
  calls_of_denF (mk := false) (args := [a0, a1]) (an := (.seq (.ops [0, 1]) (.seq (.seq (.ops [0, 1, 9]) (.cond (.seq (.ops [4, 5]) .leaf) .leaf)) (.seq (.ops [4, 5]) .leaf)))) (c := Tryd.f94.body.getD .skip) hent Tryd.func94 rfl (Nat.le_of_ble_eq_true (by kernel_rfl))
    (Eq.mp (show sh94 a0 a1 w R = denF Tryd.prog ent false Tryd.f94 (.seq (.ops [0, 1]) (.seq (.seq (.ops [0, 1, 9]) (.cond (.seq (.ops [4, 5]) .leaf) .leaf)) (.seq (.ops [4, 5]) .leaf))) (Tryd.f94.body.getD .skip) [a0, a1] w R by kernel_rfl) h)

/-! ### 95: strings.trimLeftByte -/
def sh95 (a0 a1 : Value) (w : World) (R : Value → World → Prop) : Prop :=
 jn 1 (fun t0_1 w =>
 R t0_1 w) fun j_2 =>
 lp 1 (fun n_4 t0_3 w =>
 RunW Tryd.prog (Builtin.len_ #[9] 3 #[t0_3]) w fun t6_5 =>
 RunA Tryd.prog (bin .gtr 3 (.tmp 6) (.const (.int .i64 0)) t6_5 (.int .i64 0)) fun t7_6 =>
 IfB t7_6 (
 RunA Tryd.prog (Instr.index 9 t0_3 (.int .i64 0)) fun t10_7 =>
 RunW Tryd.prog (bin .eql 5 (.tmp 10) (.tmp 11) t10_7 a1) w fun t12_8 =>
 IfB t12_8 (
 RunA Tryd.prog (Instr.sliceAt 9 t0_3 (some (.int .i64 1)) none none) fun t15_9 =>
 (a1 : Value) = a1 ∧ (n_4 t15_9 w)) (
 j_2 t0_3 w)) (
 j_2 t0_3 w)) [a0] w
theorem sh95_calls {a0 a1 : Value} {w : World} {R : Value → World → Prop} (h : sh95 a0 a1 w R) : CallF Tryd.prog 95 #[a0, a1] w R :=
  calls_of_denF (mk := false) (args := [a0, a1]) (an := (.seq (.ops [0, 1]) (.seq (.join [0] (.blk (.loop [1] [0] (.seq (.seq (.ops [0, 1, 13]) (.cond .leaf .leaf)) (.blk (.ops [0, 1])))))) (.seq (.ops [4]) .leaf)))) (c := Tryd.f95.body.getD .skip) hent Tryd.func95 rfl (Nat.le_of_ble_eq_true (by kernel_rfl))
    (Eq.mp (show sh95 a0 a1 w R = denF Tryd.prog ent false Tryd.f95 (.seq (.ops [0, 1]) (.seq (.join [0] (.blk (.loop [1] [0] (.seq (.seq (.ops [0, 1, 13]) (.cond .leaf .leaf)) (.blk (.ops [0, 1])))))) (.seq (.ops [4]) .leaf))) (Tryd.f95.body.getD .skip) [a0, a1] w R by kernel_rfl) h)

/-! ### 96: strings.makeASCIISet -/
def sh96 (a0 : Value) (w : World) (R : Value → World → Prop) : Prop :=
 RunV Tryd.prog (Instr.alloc 114 true (.tuple #[])) w fun t2_1 w =>
 lp 1 (fun n_3 t4_2 w =>
 RunW Tryd.prog (Builtin.len_ #[9] 3 #[a0]) w fun t8_4 =>
 RunA Tryd.prog (bin .lss 3 (.tmp 6) (.tmp 8) t4_2 t8_4) fun t9_5 =>
 IfB t9_5 (
 RunA Tryd.prog (Instr.index 9 a0 t4_2) fun t14_6 =>
 RunA Tryd.prog (bin .geq 5 (.tmp 15) (.const (.int .u8 128)) t14_6 (.int .u8 128)) fun t16_7 =>
 IfB t16_7 (
 RunW Tryd.prog (Instr.loadAt 114 t2_1) w fun t17_8 =>
 RunU Tryd.prog (Instr.storeAt 114 t2_1 t17_8) w fun w =>
 RunW Tryd.prog (Instr.loadAt 114 t2_1) w fun t2_9 =>
 R (.tuple #[t2_9, (.bool false)]) w) (
 RunA Tryd.prog (Instr.indexAt 114 t2_1 t14_6) fun t19_10 =>
 RunU Tryd.prog (Instr.storeAt 4 t19_10 (.bool true)) w fun w =>
 RunA Tryd.prog (bin .add 3 (.tmp 10) (.const (.int .i64 1)) t4_2 (.int .i64 1)) fun t11_11 =>
 (a0 : Value) = a0 ∧ ((t2_1 : Value) = t2_1 ∧ (n_3 t11_11 w)))) (
 RunW Tryd.prog (Instr.loadAt 114 t2_1) w fun t20_12 =>
 RunU Tryd.prog (Instr.storeAt 114 t2_1 t20_12) w fun w =>
 RunW Tryd.prog (Instr.loadAt 114 t2_1) w fun t2_13 =>
 R (.tuple #[t2_13, (.bool true)]) w)) [(.int .i64 0)] w
theorem sh96_calls {a0 : Value} {w : World} {R : Value → World → Prop} (h : sh96 a0 w R) : CallF Tryd.prog 96 #[a0] w R :=
  calls_of_denF (mk := false) (args := [a0]) (an := (.seq (.ops [0, 2]) (.seq (.seq (.ops [0, 2, 4]) (.blk (.loop [0, 2] [4] (.seq (.seq (.ops [0, 2, 4, 9]) (.cond .leaf .leaf)) (.seq (.blk (.seq (.ops [0, 2, 4, 5]) (.seq (.seq (.ops [0, 2, 4, 5, 16]) (.cond (.seq (.ops [2, 3]) .leaf) .leaf)) (.ops [0, 2, 4])))) (.ops [0, 2, 4])))))) (.seq (.ops [2, 3]) .leaf)))) (c := Tryd.f96.body.getD .skip) hent Tryd.func96 rfl (Nat.le_of_ble_eq_true (by kernel_rfl))
    (Eq.mp (show sh96 a0 w R = denF Tryd.prog ent false Tryd.f96 (.seq (.ops [0, 2]) (.seq (.seq (.ops [0, 2, 4]) (.blk (.loop [0, 2] [4] (.seq (.seq (.ops [0, 2, 4, 9]) (.cond .leaf .leaf)) (.seq (.blk (.seq (.ops [0, 2, 4, 5]) (.seq (.seq (.ops [0, 2, 4, 5, 16]) (.cond (.seq (.ops [2, 3]) .leaf) .leaf)) (.ops [0, 2, 4])))) (.ops [0, 2, 4])))))) (.seq (.ops [2, 3]) .leaf))) (Tryd.f96.body.getD .skip) [a0] w R by kernel_rfl) h)

/-! ### 97: strings.trimLeftASCII -/
def sh97 (a0 a1 : Value) (w : World) (R : Value → World → Prop) : Prop :=
 jn 1 (fun t0_1 w =>
 R t0_1 w) fun j_2 =>
 lp 1 (fun n_4 t0_3 w =>
 RunW Tryd.prog (Builtin.len_ #[9] 3 #[t0_3]) w fun t6_5 =>
 RunA Tryd.prog (bin .gtr 3 (.tmp 6) (.const (.int .i64 0)) t6_5 (.int .i64 0)) fun t7_6 =>
 IfB t7_6 (
 RunA Tryd.prog (Instr.index 9 t0_3 (.int .i64 0)) fun t10_7 =>
 CallF Tryd.prog 101 #[a1, t10_7] w fun t11_8 w =>
 RunA Tryd.prog (Op.unary .not t11_8) fun t12_9 =>
 IfB t12_9 (
 j_2 t0_3 w) (
 RunA Tryd.prog (Instr.sliceAt 9 t0_3 (some (.int .i64 1)) none none) fun t14_10 =>
 (a1 : Value) = a1 ∧ (n_4 t14_10 w))) (
 j_2 t0_3 w)) [a0] w
theorem sh97_calls {a0 a1 : Value} {w : World} {R : Value → World → Prop} (h : sh97 a0 a1 w R) : CallF Tryd.prog 97 #[a0, a1] w R :=
  calls_of_denF (mk := false) (args := [a0, a1]) (an := (.seq (.ops [0, 1]) (.seq (.join [0] (.blk (.loop [1] [0] (.seq (.seq (.ops [0, 1, 7]) (.cond .leaf .leaf)) (.blk (.seq (.seq (.ops [0, 1, 12]) (.cond .leaf .leaf)) (.ops [0, 1]))))))) (.seq (.ops [4]) .leaf)))) (c := Tryd.f97.body.getD .skip) hent Tryd.func97 rfl (Nat.le_of_ble_eq_true (by kernel_rfl))
    (Eq.mp (show sh97 a0 a1 w R = denF Tryd.prog ent false Tryd.f97 (.seq (.ops [0, 1]) (.seq (.join [0] (.blk (.loop [1] [0] (.seq (.seq (.ops [0, 1, 7]) (.cond .leaf .leaf)) (.blk (.seq (.seq (.ops [0, 1, 12]) (.cond .leaf .leaf)) (.ops [0, 1]))))))) (.seq (.ops [4]) .leaf))) (Tryd.f97.body.getD .skip) [a0, a1] w R by kernel_rfl) h)

/-! ### 100: internal/stringslite.HasPrefix -/
def sh100 (a0 a1 : Value) (w : World) (R : Value → World → Prop) : Prop :=
 RunW Tryd.prog (Builtin.len_ #[9] 3 #[a0]) w fun t6_1 =>
 RunW Tryd.prog (Builtin.len_ #[9] 3 #[a1]) w fun t8_2 =>
 RunA Tryd.prog (bin .geq 3 (.tmp 6) (.tmp 8) t6_1 t8_2) fun t9_3 =>
 IfB t9_3 (
 RunW Tryd.prog (Builtin.len_ #[9] 3 #[a1]) w fun t13_4 =>
 RunA Tryd.prog (Instr.sliceAt 9 a0 none (some t13_4) none) fun t14_5 =>
 RunW Tryd.prog (bin .eql 9 (.tmp 14) (.tmp 15) t14_5 a1) w fun t16_6 =>
 R t16_6 w) (
 R (.bool false) w)
theorem sh100_calls {a0 a1 : Value} {w : World} {R : Value → World → Prop} (h : sh100 a0 a1 w R) : CallF Tryd.prog 100 #[a0, a1] w R :=
  calls_of_denF (mk := false) (args := [a0, a1]) (an := (.seq (.ops [0, 1]) (.seq (.ops [4]) .leaf))) (c := Tryd.f100.body.getD .skip) hent Tryd.func100 rfl (Nat.le_of_ble_eq_true (by kernel_rfl))
    (Eq.mp (show sh100 a0 a1 w R = denF Tryd.prog ent false Tryd.f100 (.seq (.ops [0, 1]) (.seq (.ops [4]) .leaf)) (Tryd.f100.body.getD .skip) [a0, a1] w R by kernel_rfl) h)

/-! ### 101: (*strings.asciiSet).contains -/
def sh101 (a0 a1 : Value) (w : World) (R : Value → World → Prop) : Prop :=
 RunA Tryd.prog (nilV a0) fun t7_1 =>
 RunA Tryd.prog (Instr.indexAt 114 t7_1 a1) fun t8_2 =>
 RunW Tryd.prog (Instr.loadAt 4 t8_2) w fun t9_3 =>
 R t9_3 w
theorem sh101_calls {a0 a1 : Value} {w : World} {R : Value → World → Prop} (h : sh101 a0 a1 w R) : CallF Tryd.prog 101 #[a0, a1] w R :=
  calls_of_denF (mk := false) (args := [a0, a1]) (an := (.seq (.ops [0, 1]) (.seq (.ops [4]) .leaf))) (c := Tryd.f101.body.getD .skip) hent Tryd.func101 rfl (Nat.le_of_ble_eq_true (by kernel_rfl))
    (Eq.mp (show sh101 a0 a1 w R = denF Tryd.prog ent false Tryd.f101 (.seq (.ops [0, 1]) (.seq (.ops [4]) .leaf)) (Tryd.f101.body.getD .skip) [a0, a1] w R by kernel_rfl) h)

end Go.Proofs.YtififikdlcohpaaDoor
