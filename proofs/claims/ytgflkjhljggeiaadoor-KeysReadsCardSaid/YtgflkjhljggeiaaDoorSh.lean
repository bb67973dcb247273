/-
  The shallow forms of the functions, printed by a program (ez.py) out of Lean's print of the loaded functions; each is proved to imply the function's contract: the equations are the kernel's.
-/
import Derived.Test.YtgflkjhljggeiaaDoorProg
import Derived.Test.YtgflkjhljggeiaaDoorEzSound
namespace Go.Proofs.YtgflkjhljggeiaaDoor
open Go Go.Ez
set_option linter.unusedVariables false
set_option maxRecDepth 100000
def ent : List Nat := [6, 7, 8, 9, 10, 12, 14, 15, 16, 18, 19, 20, 21, 22, 23, 24, 25, 26, 27, 28, 29, 30, 31, 32, 33, 34, 35, 36, 37, 38, 39, 40, 41, 42, 43, 44, 48, 51, 52, 53, 62]
theorem hent : ∀ g, memN g ent = true → Enters Tryd.prog g := enters_all (by kernel_rfl)

/-! ### 3: handbill/hbllaw14.KeysApart -/
def sh3 (a0 a1 : Value) (w : World) (R : Value → World → Prop) : Prop :=
 RunV Tryd.prog (Instr.box 23 a0) w fun t2_1 w =>
 RunV Tryd.prog (Instr.box 23 a1) w fun t3_2 w =>
 CallF Tryd.prog 6 #[] w fun t14_3 w =>
 RunA Tryd.prog (Op.unary .not t14_3) fun t15_4 =>
 IfB t15_4 (
 R (.bool false) w) (
 RunA Tryd.prog (Instr.fieldAt 23 t2_1 1) fun t16_5 =>
 RunW Tryd.prog (Instr.loadAt 9 t16_5) w fun t17_6 =>
 RunW Tryd.prog (Builtin.len_ #[9] 3 #[t17_6]) w fun t18_7 =>
 RunA Tryd.prog (Instr.fieldAt 23 t2_1 2) fun t19_8 =>
 RunW Tryd.prog (Instr.loadAt 9 t19_8) w fun t20_9 =>
 RunW Tryd.prog (Builtin.len_ #[9] 3 #[t20_9]) w fun t21_10 =>
 RunA Tryd.prog (bin .add 3 (.tmp 18) (.tmp 21) t18_7 t21_10) fun t22_11 =>
 RunA Tryd.prog (Instr.fieldAt 23 t2_1 3) fun t23_12 =>
 RunW Tryd.prog (Instr.loadAt 9 t23_12) w fun t24_13 =>
 RunW Tryd.prog (Builtin.len_ #[9] 3 #[t24_13]) w fun t25_14 =>
 RunA Tryd.prog (bin .add 3 (.tmp 22) (.tmp 25) t22_11 t25_14) fun t26_15 =>
 RunA Tryd.prog (Instr.fieldAt 23 t2_1 4) fun t27_16 =>
 RunW Tryd.prog (Instr.loadAt 9 t27_16) w fun t28_17 =>
 RunW Tryd.prog (Builtin.len_ #[9] 3 #[t28_17]) w fun t29_18 =>
 RunA Tryd.prog (bin .add 3 (.tmp 26) (.tmp 29) t26_15 t29_18) fun t30_19 =>
 RunA Tryd.prog (bin .gtr 3 (.tmp 30) (.const (.int .i64 3000)) t30_19 (.int .i64 3000)) fun t31_20 =>
 IfB t31_20 (
 CallF Tryd.prog 6 #[] w fun t50_21 w =>
 R t50_21 w) (
 RunA Tryd.prog (Instr.fieldAt 23 t3_2 1) fun t33_22 =>
 RunW Tryd.prog (Instr.loadAt 9 t33_22) w fun t34_23 =>
 RunW Tryd.prog (Builtin.len_ #[9] 3 #[t34_23]) w fun t35_24 =>
 RunA Tryd.prog (Instr.fieldAt 23 t3_2 2) fun t36_25 =>
 RunW Tryd.prog (Instr.loadAt 9 t36_25) w fun t37_26 =>
 RunW Tryd.prog (Builtin.len_ #[9] 3 #[t37_26]) w fun t38_27 =>
 RunA Tryd.prog (bin .add 3 (.tmp 35) (.tmp 38) t35_24 t38_27) fun t39_28 =>
 RunA Tryd.prog (Instr.fieldAt 23 t3_2 3) fun t40_29 =>
 RunW Tryd.prog (Instr.loadAt 9 t40_29) w fun t41_30 =>
 RunW Tryd.prog (Builtin.len_ #[9] 3 #[t41_30]) w fun t42_31 =>
 RunA Tryd.prog (bin .add 3 (.tmp 39) (.tmp 42) t39_28 t42_31) fun t43_32 =>
 RunA Tryd.prog (Instr.fieldAt 23 t3_2 4) fun t44_33 =>
 RunW Tryd.prog (Instr.loadAt 9 t44_33) w fun t45_34 =>
 RunW Tryd.prog (Builtin.len_ #[9] 3 #[t45_34]) w fun t46_35 =>
 RunA Tryd.prog (bin .add 3 (.tmp 43) (.tmp 46) t43_32 t46_35) fun t47_36 =>
 RunA Tryd.prog (bin .gtr 3 (.tmp 47) (.const (.int .i64 3000)) t47_36 (.int .i64 3000)) fun t48_37 =>
 IfB t48_37 (
 CallF Tryd.prog 6 #[] w fun t50_38 w =>
 R t50_38 w) (
 drw (fun S_39 w =>
 RunS Tryd.prog S_39 (Instr.loadAt 23 t2_1) fun t51_40 =>
 RunS Tryd.prog S_39 (Instr.loadAt 23 t3_2) fun t53_41 =>
 CallF Tryd.prog 7 #[t51_40] w fun t52_42 w =>
 S_39 w ∧ (
 CallF Tryd.prog 7 #[t53_41] w fun t54_43 w =>
 CallF Tryd.prog 8 #[t52_42] w fun t57_44 w =>
 RunA Tryd.prog (Instr.extract t57_44 0) fun t58_45 =>
 RunA Tryd.prog (Instr.extract t57_44 1) fun t59_46 =>
 RunV Tryd.prog (Instr.alloc 23 true (.tuple #[])) w fun t7_47 w =>
 RunU Tryd.prog (Instr.storeAt 23 t7_47 t58_45) w fun w =>
 CallF Tryd.prog 8 #[t54_43] w fun t62_48 w =>
 RunA Tryd.prog (Instr.extract t62_48 0) fun t63_49 =>
 RunA Tryd.prog (Instr.extract t62_48 1) fun t64_50 =>
 RunV Tryd.prog (Instr.alloc 23 true (.tuple #[])) w fun t9_51 w =>
 RunU Tryd.prog (Instr.storeAt 23 t9_51 t63_49) w fun w =>
 jn 2 (fun t2_52 t3_53 w =>
 drw (fun S_55 w =>
 RunA Tryd.prog (Instr.fieldAt 23 t2_52 2) fun t78_56 =>
 RunS Tryd.prog S_55 (Instr.loadAt 9 t78_56) fun t79_57 =>
 RunA Tryd.prog (Instr.fieldAt 23 t3_53 2) fun t81_58 =>
 RunS Tryd.prog S_55 (Instr.loadAt 9 t81_58) fun t82_59 =>
 CallF Tryd.prog 9 #[t79_57] w fun t80_60 w =>
 S_55 w ∧ (
 CallF Tryd.prog 9 #[t82_59] w fun t83_61 w =>
 RunA Tryd.prog (Instr.fieldAt 23 t3_53 2) fun t84_62 =>
 RunW Tryd.prog (Instr.loadAt 9 t84_62) w fun t85_63 =>
 RunA Tryd.prog (Instr.fieldAt 23 t3_53 5) fun t86_64 =>
 RunW Tryd.prog (Instr.loadAt 3 t86_64) w fun t87_65 =>
 CallF Tryd.prog 10 #[t85_63, t87_65] w fun t88_66 w =>
 CallF Tryd.prog 6 #[] w fun t89_67 w =>
 IfB t89_67 (
 RunW Tryd.prog (bin .eql 9 (.tmp 91) (.const (.string ⟨#[]⟩)) t80_60 (.string ⟨#[]⟩)) w fun t92_68 =>
 IfB t92_68 (
 RunW Tryd.prog (bin .eql 9 (.tmp 121) (.const (.string ⟨#[]⟩)) t80_60 (.string ⟨#[]⟩)) w fun t122_69 =>
 IfB t122_69 (
 R (.bool true) w) (
 RunW Tryd.prog (bin .eql 9 (.tmp 124) (.const (.string ⟨#[]⟩)) t83_61 (.string ⟨#[]⟩)) w fun t125_70 =>
 IfB t125_70 (
 R (.bool true) w) (
 RunW Tryd.prog (bin .eql 9 (.tmp 128) (.tmp 129) t80_60 t83_61) w fun t130_71 =>
 RunA Tryd.prog (Instr.fieldAt 23 t2_52 2) fun t131_72 =>
 RunW Tryd.prog (Instr.loadAt 9 t131_72) w fun t132_73 =>
 RunA Tryd.prog (Instr.fieldAt 23 t3_53 2) fun t133_74 =>
 RunW Tryd.prog (Instr.loadAt 9 t133_74) w fun t134_75 =>
 RunW Tryd.prog (bin .eql 9 (.tmp 132) (.tmp 134) t132_73 t134_75) w fun t135_76 =>
 RunW Tryd.prog (bin .eql 4 (.tmp 130) (.tmp 135) t130_71 t135_76) w fun t136_77 =>
 R t136_77 w))) (
 RunW Tryd.prog (bin .eql 9 (.tmp 94) (.const (.string ⟨#[]⟩)) t88_66 (.string ⟨#[]⟩)) w fun t95_78 =>
 IfB t95_78 (
 RunW Tryd.prog (bin .eql 9 (.tmp 121) (.const (.string ⟨#[]⟩)) t80_60 (.string ⟨#[]⟩)) w fun t122_79 =>
 IfB t122_79 (
 R (.bool true) w) (
 RunW Tryd.prog (bin .eql 9 (.tmp 124) (.const (.string ⟨#[]⟩)) t83_61 (.string ⟨#[]⟩)) w fun t125_80 =>
 IfB t125_80 (
 R (.bool true) w) (
 RunW Tryd.prog (bin .eql 9 (.tmp 128) (.tmp 129) t80_60 t83_61) w fun t130_81 =>
 RunA Tryd.prog (Instr.fieldAt 23 t2_52 2) fun t131_82 =>
 RunW Tryd.prog (Instr.loadAt 9 t131_82) w fun t132_83 =>
 RunA Tryd.prog (Instr.fieldAt 23 t3_53 2) fun t133_84 =>
 RunW Tryd.prog (Instr.loadAt 9 t133_84) w fun t134_85 =>
 RunW Tryd.prog (bin .eql 9 (.tmp 132) (.tmp 134) t132_83 t134_85) w fun t135_86 =>
 RunW Tryd.prog (bin .eql 4 (.tmp 130) (.tmp 135) t130_81 t135_86) w fun t136_87 =>
 R t136_87 w))) (
 RunA Tryd.prog (Instr.fieldAt 23 t2_52 2) fun t98_88 =>
 RunW Tryd.prog (Instr.loadAt 9 t98_88) w fun t99_89 =>
 RunA Tryd.prog (Instr.fieldAt 23 t3_53 2) fun t100_90 =>
 RunW Tryd.prog (Instr.loadAt 9 t100_90) w fun t101_91 =>
 RunW Tryd.prog (bin .eql 9 (.tmp 99) (.tmp 101) t99_89 t101_91) w fun t102_92 =>
 IfB t102_92 (
 RunW Tryd.prog (bin .eql 9 (.tmp 121) (.const (.string ⟨#[]⟩)) t80_60 (.string ⟨#[]⟩)) w fun t122_93 =>
 IfB t122_93 (
 R (.bool true) w) (
 RunW Tryd.prog (bin .eql 9 (.tmp 124) (.const (.string ⟨#[]⟩)) t83_61 (.string ⟨#[]⟩)) w fun t125_94 =>
 IfB t125_94 (
 R (.bool true) w) (
 RunW Tryd.prog (bin .eql 9 (.tmp 128) (.tmp 129) t80_60 t83_61) w fun t130_95 =>
 RunA Tryd.prog (Instr.fieldAt 23 t2_52 2) fun t131_96 =>
 RunW Tryd.prog (Instr.loadAt 9 t131_96) w fun t132_97 =>
 RunA Tryd.prog (Instr.fieldAt 23 t3_53 2) fun t133_98 =>
 RunW Tryd.prog (Instr.loadAt 9 t133_98) w fun t134_99 =>
 RunW Tryd.prog (bin .eql 9 (.tmp 132) (.tmp 134) t132_97 t134_99) w fun t135_100 =>
 RunW Tryd.prog (bin .eql 4 (.tmp 130) (.tmp 135) t130_95 t135_100) w fun t136_101 =>
 R t136_101 w))) (
 RunW Tryd.prog (Builtin.len_ #[9] 3 #[t88_66]) w fun t106_102 =>
 RunW Tryd.prog (Builtin.len_ #[9] 3 #[t80_60]) w fun t108_103 =>
 RunA Tryd.prog (bin .lss 3 (.tmp 106) (.tmp 108) t106_102 t108_103) fun t109_104 =>
 IfB t109_104 (
 RunW Tryd.prog (bin .eql 9 (.tmp 121) (.const (.string ⟨#[]⟩)) t80_60 (.string ⟨#[]⟩)) w fun t122_105 =>
 IfB t122_105 (
 R (.bool true) w) (
 RunW Tryd.prog (bin .eql 9 (.tmp 124) (.const (.string ⟨#[]⟩)) t83_61 (.string ⟨#[]⟩)) w fun t125_106 =>
 IfB t125_106 (
 R (.bool true) w) (
 RunW Tryd.prog (bin .eql 9 (.tmp 128) (.tmp 129) t80_60 t83_61) w fun t130_107 =>
 RunA Tryd.prog (Instr.fieldAt 23 t2_52 2) fun t131_108 =>
 RunW Tryd.prog (Instr.loadAt 9 t131_108) w fun t132_109 =>
 RunA Tryd.prog (Instr.fieldAt 23 t3_53 2) fun t133_110 =>
 RunW Tryd.prog (Instr.loadAt 9 t133_110) w fun t134_111 =>
 RunW Tryd.prog (bin .eql 9 (.tmp 132) (.tmp 134) t132_109 t134_111) w fun t135_112 =>
 RunW Tryd.prog (bin .eql 4 (.tmp 130) (.tmp 135) t130_107 t135_112) w fun t136_113 =>
 R t136_113 w))) (
 RunW Tryd.prog (Builtin.len_ #[9] 3 #[t80_60]) w fun t114_114 =>
 RunA Tryd.prog (Instr.sliceAt 9 t88_66 none (some t114_114) none) fun t115_115 =>
 RunW Tryd.prog (bin .neq 9 (.tmp 115) (.tmp 116) t115_115 t80_60) w fun t117_116 =>
 IfB t117_116 (
 RunW Tryd.prog (bin .eql 9 (.tmp 121) (.const (.string ⟨#[]⟩)) t80_60 (.string ⟨#[]⟩)) w fun t122_117 =>
 IfB t122_117 (
 R (.bool true) w) (
 RunW Tryd.prog (bin .eql 9 (.tmp 124) (.const (.string ⟨#[]⟩)) t83_61 (.string ⟨#[]⟩)) w fun t125_118 =>
 IfB t125_118 (
 R (.bool true) w) (
 RunW Tryd.prog (bin .eql 9 (.tmp 128) (.tmp 129) t80_60 t83_61) w fun t130_119 =>
 RunA Tryd.prog (Instr.fieldAt 23 t2_52 2) fun t131_120 =>
 RunW Tryd.prog (Instr.loadAt 9 t131_120) w fun t132_121 =>
 RunA Tryd.prog (Instr.fieldAt 23 t3_53 2) fun t133_122 =>
 RunW Tryd.prog (Instr.loadAt 9 t133_122) w fun t134_123 =>
 RunW Tryd.prog (bin .eql 9 (.tmp 132) (.tmp 134) t132_121 t134_123) w fun t135_124 =>
 RunW Tryd.prog (bin .eql 4 (.tmp 130) (.tmp 135) t130_119 t135_124) w fun t136_125 =>
 R t136_125 w))) (
 R (.bool false) w)))))) (
 R (.bool false) w))) w) fun j_54 =>
 IfB t59_46 (
 IfB t64_50 (
 RunW Tryd.prog (bin .eql 9 (.tmp 70) (.tmp 71) t52_42 t54_43) w fun t72_126 =>
 RunW Tryd.prog (Instr.loadAt 23 t7_47) w fun t73_127 =>
 RunW Tryd.prog (Instr.loadAt 23 t9_51) w fun t74_128 =>
 RunW Tryd.prog (bin .eql 23 (.tmp 73) (.tmp 74) t73_127 t74_128) w fun t75_129 =>
 RunW Tryd.prog (bin .neq 4 (.tmp 72) (.tmp 75) t72_126 t75_129) w fun t76_130 =>
 IfB t76_130 (
 R (.bool false) w) (
 j_54 t2_1 t3_2 w)) (
 j_54 t2_1 t3_2 w)) (
 j_54 t2_1 t3_2 w))) w)))
theorem sh3_calls {a0 a1 : Value} {w : World} {R : Value → World → Prop} (h : sh3 a0 a1 w R) : CallF Tryd.prog 3 #[a0, a1] w R :=
  calls_of_denF (mk := false) (args := [a0, a1]) (an := (.seq (.ops [2, 3]) (.seq (.seq (.ops [2, 3, 15]) (.cond (.seq (.ops [4]) .leaf) .leaf)) (.seq (.seq (.ops [2, 3, 49]) (.cond (.seq (.ops [4]) .leaf) .leaf)) (.seq (.draw (.q 0 (.q 2 (.one 1 (.one 3 (.q 4 (.q 5 .fin)))))) [2, 3, 5, 6]) (.seq (.ops [2, 3, 5, 6, 7, 8]) (.seq (.ops [2, 3, 5, 6, 7, 8, 9, 10]) (.seq (.join [2, 3] (.seq (.ops [2, 3, 77]) (.cond (.seq (.ops [4]) .leaf) .leaf))) (.seq (.draw (.q 0 (.q 1 (.q 3 (.q 4 (.one 2 (.one 5 (.q 6 (.q 7 .fin)))))))) [2, 3, 11, 12]) (.seq (.ops [2, 3, 11, 12, 13]) (.seq (.ops [4]) .leaf))))))))))) (c := Tryd.f3.body.getD .skip) hent Tryd.func3 rfl (Nat.le_of_ble_eq_true (by kernel_rfl))
    (Eq.mp (show sh3 a0 a1 w R = denF Tryd.prog ent false Tryd.f3 (.seq (.ops [2, 3]) (.seq (.seq (.ops [2, 3, 15]) (.cond (.seq (.ops [4]) .leaf) .leaf)) (.seq (.seq (.ops [2, 3, 49]) (.cond (.seq (.ops [4]) .leaf) .leaf)) (.seq (.draw (.q 0 (.q 2 (.one 1 (.one 3 (.q 4 (.q 5 .fin)))))) [2, 3, 5, 6]) (.seq (.ops [2, 3, 5, 6, 7, 8]) (.seq (.ops [2, 3, 5, 6, 7, 8, 9, 10]) (.seq (.join [2, 3] (.seq (.ops [2, 3, 77]) (.cond (.seq (.ops [4]) .leaf) .leaf))) (.seq (.draw (.q 0 (.q 1 (.q 3 (.q 4 (.one 2 (.one 5 (.q 6 (.q 7 .fin)))))))) [2, 3, 11, 12]) (.seq (.ops [2, 3, 11, 12, 13]) (.seq (.ops [4]) .leaf)))))))))) (Tryd.f3.body.getD .skip) [a0, a1] w R by kernel_rfl) h)

/-! ### 5: handbill/hbllaw14.KeysBack -/
def sh5 (a0 a1 a2 : Value) (w : World) (R : Value → World → Prop) : Prop :=
 RunV Tryd.prog (Instr.box 23 a0) w fun t3_1 w =>
 CallF Tryd.prog 6 #[] w fun t17_2 w =>
 RunA Tryd.prog (Op.unary .not t17_2) fun t18_3 =>
 IfB t18_3 (
 R (.bool false) w) (
 RunA Tryd.prog (Instr.fieldAt 23 t3_1 1) fun t19_4 =>
 RunW Tryd.prog (Instr.loadAt 9 t19_4) w fun t20_5 =>
 RunW Tryd.prog (Builtin.len_ #[9] 3 #[t20_5]) w fun t21_6 =>
 RunA Tryd.prog (bin .gtr 3 (.tmp 21) (.const (.int .i64 3000)) t21_6 (.int .i64 3000)) fun t22_7 =>
 IfB t22_7 (
 CallF Tryd.prog 6 #[] w fun t46_8 w =>
 R t46_8 w) (
 RunA Tryd.prog (Instr.fieldAt 23 t3_1 2) fun t24_9 =>
 RunW Tryd.prog (Instr.loadAt 9 t24_9) w fun t25_10 =>
 RunW Tryd.prog (Builtin.len_ #[9] 3 #[t25_10]) w fun t26_11 =>
 RunA Tryd.prog (bin .gtr 3 (.tmp 26) (.const (.int .i64 3000)) t26_11 (.int .i64 3000)) fun t27_12 =>
 IfB t27_12 (
 CallF Tryd.prog 6 #[] w fun t46_13 w =>
 R t46_13 w) (
 RunA Tryd.prog (Instr.fieldAt 23 t3_1 3) fun t30_14 =>
 RunW Tryd.prog (Instr.loadAt 9 t30_14) w fun t31_15 =>
 RunW Tryd.prog (Builtin.len_ #[9] 3 #[t31_15]) w fun t32_16 =>
 RunA Tryd.prog (bin .gtr 3 (.tmp 32) (.const (.int .i64 3000)) t32_16 (.int .i64 3000)) fun t33_17 =>
 IfB t33_17 (
 CallF Tryd.prog 6 #[] w fun t46_18 w =>
 R t46_18 w) (
 RunA Tryd.prog (Instr.fieldAt 23 t3_1 4) fun t36_19 =>
 RunW Tryd.prog (Instr.loadAt 9 t36_19) w fun t37_20 =>
 RunW Tryd.prog (Builtin.len_ #[9] 3 #[t37_20]) w fun t38_21 =>
 RunA Tryd.prog (bin .gtr 3 (.tmp 38) (.const (.int .i64 3000)) t38_21 (.int .i64 3000)) fun t39_22 =>
 IfB t39_22 (
 CallF Tryd.prog 6 #[] w fun t46_23 w =>
 R t46_23 w) (
 RunW Tryd.prog (Builtin.len_ #[9] 3 #[a1]) w fun t43_24 =>
 RunA Tryd.prog (bin .gtr 3 (.tmp 43) (.const (.int .i64 3000)) t43_24 (.int .i64 3000)) fun t44_25 =>
 IfB t44_25 (
 CallF Tryd.prog 6 #[] w fun t46_26 w =>
 R t46_26 w) (
 RunW Tryd.prog (Instr.loadAt 23 t3_1) w fun t47_27 =>
 CallF Tryd.prog 7 #[t47_27] w fun t48_28 w =>
 CallF Tryd.prog 8 #[t48_28] w fun t51_29 w =>
 RunA Tryd.prog (Instr.extract t51_29 0) fun t52_30 =>
 RunA Tryd.prog (Instr.extract t51_29 1) fun t53_31 =>
 RunV Tryd.prog (Instr.alloc 23 true (.tuple #[])) w fun t8_32 w =>
 RunU Tryd.prog (Instr.storeAt 23 t8_32 t52_30) w fun w =>
 jn 3 (fun t1_33 t2_34 t3_35 w =>
 CallF Tryd.prog 8 #[t1_33] w fun t76_37 w =>
 RunA Tryd.prog (Instr.extract t76_37 0) fun t77_38 =>
 RunA Tryd.prog (Instr.extract t76_37 1) fun t78_39 =>
 RunV Tryd.prog (Instr.alloc 23 true (.tuple #[])) w fun t10_40 w =>
 RunU Tryd.prog (Instr.storeAt 23 t10_40 t77_38) w fun w =>
 jn 2 (fun t2_41 t3_42 w =>
 drw (fun S_44 w =>
 RunA Tryd.prog (Instr.fieldAt 23 t3_42 2) fun t95_45 =>
 RunS Tryd.prog S_44 (Instr.loadAt 9 t95_45) fun t96_46 =>
 RunA Tryd.prog (Instr.fieldAt 23 t3_42 5) fun t97_47 =>
 RunS Tryd.prog S_44 (Instr.loadAt 3 t97_47) fun t98_48 =>
 RunA Tryd.prog (Instr.fieldAt 23 t3_42 2) fun t100_49 =>
 RunS Tryd.prog S_44 (Instr.loadAt 9 t100_49) fun t101_50 =>
 CallF Tryd.prog 10 #[t96_46, t98_48] w fun t99_51 w =>
 S_44 w ∧ (
 CallF Tryd.prog 10 #[t101_50, t2_41] w fun t103_52 w =>
 jn 1 (fun t3_53 w =>
 drw (fun S_55 w =>
 RunA Tryd.prog (Instr.fieldAt 23 t3_53 2) fun t127_56 =>
 RunS Tryd.prog S_55 (Instr.loadAt 9 t127_56) fun t128_57 =>
 RunA Tryd.prog (Instr.fieldAt 23 t3_53 5) fun t129_58 =>
 RunS Tryd.prog S_55 (Instr.loadAt 3 t129_58) fun t130_59 =>
 RunA Tryd.prog (Instr.fieldAt 23 t3_53 1) fun t132_60 =>
 RunS Tryd.prog S_55 (Instr.loadAt 9 t132_60) fun t133_61 =>
 RunA Tryd.prog (Instr.fieldAt 23 t3_53 2) fun t134_62 =>
 RunS Tryd.prog S_55 (Instr.loadAt 9 t134_62) fun t135_63 =>
 RunA Tryd.prog (Instr.fieldAt 23 t3_53 1) fun t137_64 =>
 RunS Tryd.prog S_55 (Instr.loadAt 9 t137_64) fun t138_65 =>
 RunA Tryd.prog (Instr.fieldAt 23 t3_53 2) fun t139_66 =>
 RunS Tryd.prog S_55 (Instr.loadAt 9 t139_66) fun t140_67 =>
 RunA Tryd.prog (Instr.fieldAt 23 t3_53 5) fun t141_68 =>
 RunS Tryd.prog S_55 (Instr.loadAt 3 t141_68) fun t142_69 =>
 RunA Tryd.prog (Instr.fieldAt 23 t3_53 1) fun t144_70 =>
 RunS Tryd.prog S_55 (Instr.loadAt 9 t144_70) fun t145_71 =>
 RunA Tryd.prog (Instr.fieldAt 23 t3_53 3) fun t146_72 =>
 RunS Tryd.prog S_55 (Instr.loadAt 9 t146_72) fun t147_73 =>
 CallF Tryd.prog 10 #[t128_57, t130_59] w fun t131_74 w =>
 S_55 w ∧ (
 CallF Tryd.prog 20 #[t133_61, t135_63] w fun t136_75 w =>
 S_55 w ∧ (
 CallF Tryd.prog 21 #[t138_65, t140_67, t142_69] w fun t143_76 w =>
 S_55 w ∧ (
 CallF Tryd.prog 22 #[t145_71, t147_73] w fun t148_77 w =>
 RunV Tryd.prog (Instr.buildSlice 41 4 #[(0, t131_74), (1, t136_75), (2, t143_76), (3, t148_77)]) w fun t149_78 w =>
 drw (fun S_79 w =>
 RunA Tryd.prog (Instr.fieldAt 23 t3_53 2) fun t150_80 =>
 RunS Tryd.prog S_79 (Instr.loadAt 9 t150_80) fun t151_81 =>
 RunA Tryd.prog (Instr.fieldAt 23 t3_53 1) fun t153_82 =>
 RunS Tryd.prog S_79 (Instr.loadAt 9 t153_82) fun t154_83 =>
 RunA Tryd.prog (Instr.fieldAt 23 t3_53 1) fun t156_84 =>
 RunS Tryd.prog S_79 (Instr.loadAt 9 t156_84) fun t157_85 =>
 RunA Tryd.prog (Instr.fieldAt 23 t3_53 2) fun t158_86 =>
 RunS Tryd.prog S_79 (Instr.loadAt 9 t158_86) fun t159_87 =>
 RunA Tryd.prog (Instr.fieldAt 23 t3_53 1) fun t161_88 =>
 RunS Tryd.prog S_79 (Instr.loadAt 9 t161_88) fun t162_89 =>
 CallF Tryd.prog 9 #[t151_81] w fun t152_90 w =>
 S_79 w ∧ (
 CallF Tryd.prog 16 #[t154_83] w fun t155_91 w =>
 S_79 w ∧ (
 CallF Tryd.prog 19 #[t157_85, t159_87] w fun t160_92 w =>
 S_79 w ∧ (
 CallF Tryd.prog 18 #[t162_89] w fun t163_93 w =>
 RunV Tryd.prog (Instr.buildSlice 41 4 #[(0, t152_90), (1, t155_91), (2, t160_92), (3, t163_93)]) w fun t164_94 w =>
 lp 1 (fun n_96 t16_95 w =>
 RunW Tryd.prog (Builtin.len_ #[41] 3 #[t149_78]) w fun t167_97 =>
 RunA Tryd.prog (bin .lss 3 (.tmp 165) (.tmp 167) t16_95 t167_97) fun t168_98 =>
 IfB t168_98 (
 jn 3 (fun t14_99 t15_100 t16_101 w =>
 RunA Tryd.prog (bin .add 3 (.tmp 169) (.const (.int .i64 1)) t16_101 (.int .i64 1)) fun t170_103 =>
 (t14_99 : Value) = t149_78 ∧ ((t15_100 : Value) = t164_94 ∧ (n_96 t170_103 w))) fun j_102 =>
 drw (fun S_104 w =>
 RunA Tryd.prog (Instr.indexAt 41 t149_78 t16_95) fun t173_105 =>
 RunS Tryd.prog S_104 (Instr.loadAt 9 t173_105) fun t174_106 =>
 RunS Tryd.prog S_104 (bin .neq 9 (.tmp 174) (.const (.string ⟨#[]⟩)) t174_106 (.string ⟨#[]⟩)) fun t175_107 =>
 IfB t175_107 (
 RunA Tryd.prog (Instr.indexAt 41 t164_94 t16_95) fun t179_108 =>
 RunS Tryd.prog S_104 (Instr.loadAt 9 t179_108) fun t180_109 =>
 RunS Tryd.prog S_104 (bin .eql 9 (.tmp 180) (.const (.string ⟨#[]⟩)) t180_109 (.string ⟨#[]⟩)) fun t181_110 =>
 IfB t181_110 (
 R (.bool false) w) (
 RunA Tryd.prog (Instr.indexAt 41 t149_78 t16_95) fun t185_111 =>
 RunS Tryd.prog S_104 (Instr.loadAt 9 t185_111) fun t186_112 =>
 RunS Tryd.prog S_104 (Builtin.len_ #[9] 3 #[t186_112]) fun t187_113 =>
 RunA Tryd.prog (Instr.indexAt 41 t164_94 t16_95) fun t190_114 =>
 RunS Tryd.prog S_104 (Instr.loadAt 9 t190_114) fun t191_115 =>
 RunS Tryd.prog S_104 (Builtin.len_ #[9] 3 #[t191_115]) fun t192_116 =>
 RunA Tryd.prog (bin .leq 3 (.tmp 187) (.tmp 192) t187_113 t192_116) fun t193_117 =>
 IfB t193_117 (
 R (.bool false) w) (
 RunA Tryd.prog (Instr.indexAt 41 t149_78 t16_95) fun t198_118 =>
 RunS Tryd.prog S_104 (Instr.loadAt 9 t198_118) fun t199_119 =>
 RunA Tryd.prog (Instr.indexAt 41 t164_94 t16_95) fun t202_120 =>
 RunS Tryd.prog S_104 (Instr.loadAt 9 t202_120) fun t203_121 =>
 RunS Tryd.prog S_104 (Builtin.len_ #[9] 3 #[t203_121]) fun t204_122 =>
 RunA Tryd.prog (Instr.sliceAt 9 t199_119 none (some t204_122) none) fun t205_123 =>
 RunA Tryd.prog (Instr.indexAt 41 t164_94 t16_95) fun t208_124 =>
 RunS Tryd.prog S_104 (Instr.loadAt 9 t208_124) fun t209_125 =>
 RunS Tryd.prog S_104 (bin .neq 9 (.tmp 205) (.tmp 209) t205_123 t209_125) fun t210_126 =>
 IfB t210_126 (
 R (.bool false) w) (
 j_102 t149_78 t164_94 t16_95 w)))) (
 j_102 t149_78 t164_94 t16_95 w)) w) (
 CallF Tryd.prog 6 #[] w fun t213_127 w =>
 R t213_127 w)) [(.int .i64 0)] w)))) w)))) w) fun j_54 =>
 RunW Tryd.prog (bin .neq 9 (.tmp 104) (.const (.string ⟨#[]⟩)) t99_51 (.string ⟨#[]⟩)) w fun t105_128 =>
 IfB t105_128 (
 RunW Tryd.prog (bin .neq 9 (.tmp 107) (.const (.string ⟨#[]⟩)) t103_52 (.string ⟨#[]⟩)) w fun t108_129 =>
 IfB t108_129 (
 RunA Tryd.prog (bin .lss 9 (.tmp 111) (.tmp 112) t99_51 t103_52) fun t113_130 =>
 RunA Tryd.prog (Instr.fieldAt 23 t3_42 5) fun t114_131 =>
 RunW Tryd.prog (Instr.loadAt 3 t114_131) w fun t115_132 =>
 RunA Tryd.prog (bin .lss 3 (.tmp 115) (.tmp 116) t115_132 t2_41) fun t117_133 =>
 RunW Tryd.prog (bin .neq 4 (.tmp 113) (.tmp 117) t113_130 t117_133) w fun t118_134 =>
 IfB t118_134 (
 R (.bool false) w) (
 RunW Tryd.prog (Builtin.len_ #[9] 3 #[t99_51]) w fun t121_135 =>
 RunW Tryd.prog (Builtin.len_ #[9] 3 #[t103_52]) w fun t123_136 =>
 RunW Tryd.prog (bin .neq 3 (.tmp 121) (.tmp 123) t121_135 t123_136) w fun t124_137 =>
 IfB t124_137 (
 R (.bool false) w) (
 j_54 t3_42 w))) (
 j_54 t3_42 w)) (
 j_54 t3_42 w))) w) fun j_43 =>
 IfB t78_39 (
 RunW Tryd.prog (Instr.loadAt 23 t10_40) w fun t81_138 =>
 CallF Tryd.prog 7 #[t81_138] w fun t82_139 w =>
 RunW Tryd.prog (bin .neq 9 (.tmp 82) (.tmp 83) t82_139 t1_33) w fun t84_140 =>
 IfB t84_140 (
 R (.bool false) w) (
 RunA Tryd.prog (Op.unary .not t78_39) fun t88_141 =>
 IfB t88_141 (
 RunW Tryd.prog (Instr.loadAt 23 t10_40) w fun t90_142 =>
 RunV Tryd.prog (Instr.build 23 #[]) w fun t91_143 w =>
 RunW Tryd.prog (bin .neq 23 (.tmp 90) (.tmp 91) t90_142 t91_143) w fun t92_144 =>
 IfB t92_144 (
 R (.bool false) w) (
 j_43 t2_34 t3_35 w)) (
 j_43 t2_34 t3_35 w))) (
 RunA Tryd.prog (Op.unary .not t78_39) fun t88_145 =>
 IfB t88_145 (
 RunW Tryd.prog (Instr.loadAt 23 t10_40) w fun t90_146 =>
 RunV Tryd.prog (Instr.build 23 #[]) w fun t91_147 w =>
 RunW Tryd.prog (bin .neq 23 (.tmp 90) (.tmp 91) t90_146 t91_147) w fun t92_148 =>
 IfB t92_148 (
 R (.bool false) w) (
 j_43 t2_34 t3_35 w)) (
 j_43 t2_34 t3_35 w))) fun j_36 =>
 RunW Tryd.prog (bin .neq 9 (.tmp 55) (.const (.string ⟨#[]⟩)) t48_28 (.string ⟨#[]⟩)) w fun t56_149 =>
 RunW Tryd.prog (bin .neq 4 (.tmp 54) (.tmp 56) t53_31 t56_149) w fun t57_150 =>
 IfB t57_150 (
 R (.bool false) w) (
 IfB t53_31 (
 RunW Tryd.prog (Instr.loadAt 23 t8_32) w fun t61_151 =>
 CallF Tryd.prog 7 #[t61_151] w fun t62_152 w =>
 RunW Tryd.prog (bin .neq 9 (.tmp 62) (.tmp 63) t62_152 t48_28) w fun t64_153 =>
 IfB t64_153 (
 R (.bool false) w) (
 RunA Tryd.prog (Instr.fieldAt 23 t8_32 0) fun t66_154 =>
 RunW Tryd.prog (Instr.loadAt 3 t66_154) w fun t67_155 =>
 RunA Tryd.prog (Instr.fieldAt 23 t3_1 0) fun t68_156 =>
 RunW Tryd.prog (Instr.loadAt 3 t68_156) w fun t69_157 =>
 RunW Tryd.prog (bin .neq 3 (.tmp 67) (.tmp 69) t67_155 t69_157) w fun t70_158 =>
 IfB t70_158 (
 R (.bool false) w) (
 j_36 a1 a2 t3_1 w))) (
 j_36 a1 a2 t3_1 w))))))))
theorem sh5_calls {a0 a1 a2 : Value} {w : World} {R : Value → World → Prop} (h : sh5 a0 a1 a2 w R) : CallF Tryd.prog 5 #[a0, a1, a2] w R :=
  calls_of_denF (mk := false) (args := [a0, a1, a2]) (an := (.seq (.ops [1, 2, 3]) (.seq (.seq (.ops [1, 2, 3, 18]) (.cond (.seq (.ops [6]) .leaf) .leaf)) (.seq (.seq (.ops [1, 2, 3, 45]) (.cond (.seq (.ops [6]) .leaf) .leaf)) (.seq (.ops [1, 2, 3, 7]) (.seq (.ops [1, 2, 3, 7, 8, 9]) (.seq (.join [1, 2, 3] (.seq (.ops [1, 2, 3, 73]) (.cond (.seq (.ops [6]) .leaf) .leaf))) (.seq (.ops [1, 2, 3, 10, 11]) (.seq (.join [2, 3] (.seq (.ops [2, 3, 94]) (.cond (.seq (.ops [6]) .leaf) .leaf))) (.seq (.draw (.q 0 (.q 1 (.q 2 (.q 3 (.q 5 (.q 6 (.q 7 (.one 4 (.one 8 (.q 9 (.q 10 .fin))))))))))) [2, 3, 12, 13]) (.seq (.join [3] (.seq (.ops [3, 126]) (.cond (.seq (.ops [6]) .leaf) .leaf))) (.seq (.draw (.q 0 (.q 1 (.q 2 (.q 3 (.q 5 (.q 6 (.q 7 (.q 8 (.q 10 (.q 11 (.q 12 (.q 13 (.q 14 (.q 15 (.q 17 (.q 18 (.q 19 (.q 20 (.one 4 (.one 9 (.one 16 (.one 21 (.one 22 (.q 23 .fin)))))))))))))))))))))))) [3, 14]) (.seq (.draw (.q 0 (.q 1 (.q 3 (.q 4 (.q 6 (.q 7 (.q 8 (.q 9 (.q 11 (.q 12 (.one 2 (.one 5 (.one 10 (.one 13 (.one 14 (.q 15 .fin)))))))))))))))) [14, 15]) (.seq (.seq (.ops [14, 15, 16]) (.blk (.loop [14, 15] [16] (.seq (.seq (.ops [14, 15, 16, 168]) (.cond .leaf .leaf)) (.seq (.blk (.join [14, 15, 16] (.seq (.draw (.q 0 (.q 1 (.q 2 (.q 3 (.q 4 (.q 5 (.sp 6 (.q 6 (.q 7 (.q 8 (.q 9 (.q 10 (.q 11 (.sp 12 (.q 12 (.q 13 (.q 14 (.q 15 (.q 16 (.q 17 (.q 18 (.q 19 (.q 20 (.q 21 (.q 22 (.q 23 (.q 24 (.q 25 (.q 26 (.q 27 (.q 28 (.q 29 (.q 30 (.q 31 (.q 32 (.q 33 (.q 34 (.q 35 (.q 36 (.q 37 (.q 38 (.q 39 (.q 40 (.q 41 .fin)))))))))))))))))))))))))))))) (.q 12 (.q 13 (.q 14 (.q 15 (.q 16 (.q 17 (.q 18 (.q 19 (.q 20 (.q 21 (.q 22 (.q 23 (.q 24 (.sp 25 (.q 25 (.q 26 (.q 27 (.q 28 (.q 29 (.q 30 (.q 31 (.q 32 (.q 33 (.q 34 (.q 35 (.q 36 (.q 37 (.q 38 (.q 39 (.q 40 (.q 41 .fin))))))))))))))))) (.q 25 (.q 26 (.q 27 (.q 28 (.q 29 (.q 30 (.q 31 (.q 32 (.q 33 (.q 34 (.q 35 (.q 36 (.q 37 (.q 38 (.q 39 (.q 40 (.q 41 .fin)))))))))))))))))))))))))))))))))))))) (.q 6 (.q 7 (.q 8 (.q 9 (.q 10 (.q 11 (.q 12 (.q 13 (.q 14 (.q 15 (.q 16 (.q 17 (.q 18 (.q 19 (.q 20 (.q 21 (.q 22 (.q 23 (.q 24 (.q 25 (.q 26 (.q 27 (.q 28 (.q 29 (.q 30 (.q 31 (.q 32 (.q 33 (.q 34 (.q 35 (.q 36 (.q 37 (.q 38 (.q 39 (.q 40 (.q 41 .fin))))))))))))))))))))))))))))))))))))))))))) [14, 15, 16, 212]) (.cond (.seq (.ops [6]) .leaf) .leaf)))) (.ops [14, 15, 16])))))) (.seq (.ops [6]) .leaf))))))))))))))) (c := Tryd.f5.body.getD .skip) hent Tryd.func5 rfl (Nat.le_of_ble_eq_true (by kernel_rfl))
    (Eq.mp (show sh5 a0 a1 a2 w R = denF Tryd.prog ent false Tryd.f5 (.seq (.ops [1, 2, 3]) (.seq (.seq (.ops [1, 2, 3, 18]) (.cond (.seq (.ops [6]) .leaf) .leaf)) (.seq (.seq (.ops [1, 2, 3, 45]) (.cond (.seq (.ops [6]) .leaf) .leaf)) (.seq (.ops [1, 2, 3, 7]) (.seq (.ops [1, 2, 3, 7, 8, 9]) (.seq (.join [1, 2, 3] (.seq (.ops [1, 2, 3, 73]) (.cond (.seq (.ops [6]) .leaf) .leaf))) (.seq (.ops [1, 2, 3, 10, 11]) (.seq (.join [2, 3] (.seq (.ops [2, 3, 94]) (.cond (.seq (.ops [6]) .leaf) .leaf))) (.seq (.draw (.q 0 (.q 1 (.q 2 (.q 3 (.q 5 (.q 6 (.q 7 (.one 4 (.one 8 (.q 9 (.q 10 .fin))))))))))) [2, 3, 12, 13]) (.seq (.join [3] (.seq (.ops [3, 126]) (.cond (.seq (.ops [6]) .leaf) .leaf))) (.seq (.draw (.q 0 (.q 1 (.q 2 (.q 3 (.q 5 (.q 6 (.q 7 (.q 8 (.q 10 (.q 11 (.q 12 (.q 13 (.q 14 (.q 15 (.q 17 (.q 18 (.q 19 (.q 20 (.one 4 (.one 9 (.one 16 (.one 21 (.one 22 (.q 23 .fin)))))))))))))))))))))))) [3, 14]) (.seq (.draw (.q 0 (.q 1 (.q 3 (.q 4 (.q 6 (.q 7 (.q 8 (.q 9 (.q 11 (.q 12 (.one 2 (.one 5 (.one 10 (.one 13 (.one 14 (.q 15 .fin)))))))))))))))) [14, 15]) (.seq (.seq (.ops [14, 15, 16]) (.blk (.loop [14, 15] [16] (.seq (.seq (.ops [14, 15, 16, 168]) (.cond .leaf .leaf)) (.seq (.blk (.join [14, 15, 16] (.seq (.draw (.q 0 (.q 1 (.q 2 (.q 3 (.q 4 (.q 5 (.sp 6 (.q 6 (.q 7 (.q 8 (.q 9 (.q 10 (.q 11 (.sp 12 (.q 12 (.q 13 (.q 14 (.q 15 (.q 16 (.q 17 (.q 18 (.q 19 (.q 20 (.q 21 (.q 22 (.q 23 (.q 24 (.q 25 (.q 26 (.q 27 (.q 28 (.q 29 (.q 30 (.q 31 (.q 32 (.q 33 (.q 34 (.q 35 (.q 36 (.q 37 (.q 38 (.q 39 (.q 40 (.q 41 .fin)))))))))))))))))))))))))))))) (.q 12 (.q 13 (.q 14 (.q 15 (.q 16 (.q 17 (.q 18 (.q 19 (.q 20 (.q 21 (.q 22 (.q 23 (.q 24 (.sp 25 (.q 25 (.q 26 (.q 27 (.q 28 (.q 29 (.q 30 (.q 31 (.q 32 (.q 33 (.q 34 (.q 35 (.q 36 (.q 37 (.q 38 (.q 39 (.q 40 (.q 41 .fin))))))))))))))))) (.q 25 (.q 26 (.q 27 (.q 28 (.q 29 (.q 30 (.q 31 (.q 32 (.q 33 (.q 34 (.q 35 (.q 36 (.q 37 (.q 38 (.q 39 (.q 40 (.q 41 .fin)))))))))))))))))))))))))))))))))))))) (.q 6 (.q 7 (.q 8 (.q 9 (.q 10 (.q 11 (.q 12 (.q 13 (.q 14 (.q 15 (.q 16 (.q 17 (.q 18 (.q 19 (.q 20 (.q 21 (.q 22 (.q 23 (.q 24 (.q 25 (.q 26 (.q 27 (.q 28 (.q 29 (.q 30 (.q 31 (.q 32 (.q 33 (.q 34 (.q 35 (.q 36 (.q 37 (.q 38 (.q 39 (.q 40 (.q 41 .fin))))))))))))))))))))))))))))))))))))))))))) [14, 15, 16, 212]) (.cond (.seq (.ops [6]) .leaf) .leaf)))) (.ops [14, 15, 16])))))) (.seq (.ops [6]) .leaf)))))))))))))) (Tryd.f5.body.getD .skip) [a0, a1, a2] w R by kernel_rfl) h)

/-! ### 6: handbill/hbllaw14.first -/
def sh6 (w : World) (R : Value → World → Prop) : Prop :=
 CallF Tryd.prog 8 #[(.string ⟨#[115, 47, 117, 47, 120]⟩)] w fun t4_1 w =>
 RunA Tryd.prog (Instr.extract t4_1 0) fun t5_2 =>
 RunA Tryd.prog (Instr.extract t4_1 1) fun t6_3 =>
 RunV Tryd.prog (Instr.alloc 23 true (.tuple #[])) w fun t1_4 w =>
 RunU Tryd.prog (Instr.storeAt 23 t1_4 t5_2) w fun w =>
 CallF Tryd.prog 10 #[(.string ⟨#[120]⟩), (.int .i64 7)] w fun t7_5 w =>
 RunW Tryd.prog (bin .eql 9 (.tmp 7) (.const (.string ⟨#[101, 47, 120, 47, 48, 48, 48, 48, 48, 55]⟩)) t7_5 (.string ⟨#[101, 47, 120, 47, 48, 48, 48, 48, 48, 55]⟩)) w fun t8_6 =>
 IfB t8_6 (
 IfB t6_3 (
 RunA Tryd.prog (Instr.fieldAt 23 t1_4 0) fun t13_7 =>
 RunW Tryd.prog (Instr.loadAt 3 t13_7) w fun t14_8 =>
 RunW Tryd.prog (bin .eql 3 (.tmp 14) (.const (.int .i64 4)) t14_8 (.int .i64 4)) w fun t15_9 =>
 IfB t15_9 (
 RunA Tryd.prog (Instr.fieldAt 23 t1_4 1) fun t18_10 =>
 RunW Tryd.prog (Instr.loadAt 9 t18_10) w fun t19_11 =>
 RunW Tryd.prog (bin .eql 9 (.tmp 19) (.const (.string ⟨#[117]⟩)) t19_11 (.string ⟨#[117]⟩)) w fun t20_12 =>
 IfB t20_12 (
 RunA Tryd.prog (Instr.fieldAt 23 t1_4 2) fun t23_13 =>
 RunW Tryd.prog (Instr.loadAt 9 t23_13) w fun t24_14 =>
 RunW Tryd.prog (bin .eql 9 (.tmp 24) (.const (.string ⟨#[120]⟩)) t24_14 (.string ⟨#[120]⟩)) w fun t25_15 =>
 R t25_15 w) (
 R (.bool false) w)) (
 R (.bool false) w)) (
 R (.bool false) w)) (
 R (.bool false) w)
theorem sh6_calls {w : World} {R : Value → World → Prop} (h : sh6  w R) : CallF Tryd.prog 6 #[] w R :=
  calls_of_denF (mk := false) (args := []) (an := (.seq (.ops []) (.seq (.ops [1, 2]) (.seq (.ops [0]) .leaf)))) (c := Tryd.f6.body.getD .skip) hent Tryd.func6 rfl (Nat.le_of_ble_eq_true (by kernel_rfl))
    (Eq.mp (show sh6  w R = denF Tryd.prog ent false Tryd.f6 (.seq (.ops []) (.seq (.ops [1, 2]) (.seq (.ops [0]) .leaf))) (Tryd.f6.body.getD .skip) [] w R by kernel_rfl) h)

/-! ### 7: handbill/hbllaw14.key -/
def sh7 (a0 : Value) (w : World) (R : Value → World → Prop) : Prop :=
 RunV Tryd.prog (Instr.box 23 a0) w fun t1_1 w =>
 RunA Tryd.prog (Instr.fieldAt 23 t1_1 0) fun t3_2 =>
 RunW Tryd.prog (Instr.loadAt 3 t3_2) w fun t4_3 =>
 RunW Tryd.prog (bin .eql 3 (.tmp 4) (.const (.int .i64 1)) t4_3 (.int .i64 1)) w fun t6_4 =>
 IfB t6_4 (
 RunA Tryd.prog (Instr.fieldAt 23 t1_1 2) fun t7_5 =>
 RunW Tryd.prog (Instr.loadAt 9 t7_5) w fun t8_6 =>
 CallF Tryd.prog 23 #[t8_6] w fun t9_7 w =>
 R t9_7 w) (
 RunW Tryd.prog (bin .eql 3 (.tmp 4) (.const (.int .i64 2)) t4_3 (.int .i64 2)) w fun t11_8 =>
 IfB t11_8 (
 RunA Tryd.prog (Instr.fieldAt 23 t1_1 2) fun t12_9 =>
 RunW Tryd.prog (Instr.loadAt 9 t12_9) w fun t13_10 =>
 RunA Tryd.prog (Instr.fieldAt 23 t1_1 5) fun t14_11 =>
 RunW Tryd.prog (Instr.loadAt 3 t14_11) w fun t15_12 =>
 CallF Tryd.prog 10 #[t13_10, t15_12] w fun t16_13 w =>
 R t16_13 w) (
 RunW Tryd.prog (bin .eql 3 (.tmp 4) (.const (.int .i64 3)) t4_3 (.int .i64 3)) w fun t18_14 =>
 IfB t18_14 (
 RunA Tryd.prog (Instr.fieldAt 23 t1_1 2) fun t19_15 =>
 RunW Tryd.prog (Instr.loadAt 9 t19_15) w fun t20_16 =>
 RunA Tryd.prog (Instr.fieldAt 23 t1_1 4) fun t21_17 =>
 RunW Tryd.prog (Instr.loadAt 9 t21_17) w fun t22_18 =>
 CallF Tryd.prog 24 #[t20_16, t22_18] w fun t23_19 w =>
 R t23_19 w) (
 RunW Tryd.prog (bin .eql 3 (.tmp 4) (.const (.int .i64 4)) t4_3 (.int .i64 4)) w fun t25_20 =>
 IfB t25_20 (
 RunA Tryd.prog (Instr.fieldAt 23 t1_1 1) fun t26_21 =>
 RunW Tryd.prog (Instr.loadAt 9 t26_21) w fun t27_22 =>
 RunA Tryd.prog (Instr.fieldAt 23 t1_1 2) fun t28_23 =>
 RunW Tryd.prog (Instr.loadAt 9 t28_23) w fun t29_24 =>
 CallF Tryd.prog 20 #[t27_22, t29_24] w fun t30_25 w =>
 R t30_25 w) (
 RunW Tryd.prog (bin .eql 3 (.tmp 4) (.const (.int .i64 5)) t4_3 (.int .i64 5)) w fun t32_26 =>
 IfB t32_26 (
 RunA Tryd.prog (Instr.fieldAt 23 t1_1 1) fun t33_27 =>
 RunW Tryd.prog (Instr.loadAt 9 t33_27) w fun t34_28 =>
 RunA Tryd.prog (Instr.fieldAt 23 t1_1 3) fun t35_29 =>
 RunW Tryd.prog (Instr.loadAt 9 t35_29) w fun t36_30 =>
 CallF Tryd.prog 22 #[t34_28, t36_30] w fun t37_31 w =>
 R t37_31 w) (
 RunW Tryd.prog (bin .eql 3 (.tmp 4) (.const (.int .i64 6)) t4_3 (.int .i64 6)) w fun t39_32 =>
 IfB t39_32 (
 RunA Tryd.prog (Instr.fieldAt 23 t1_1 1) fun t40_33 =>
 RunW Tryd.prog (Instr.loadAt 9 t40_33) w fun t41_34 =>
 RunA Tryd.prog (Instr.fieldAt 23 t1_1 2) fun t42_35 =>
 RunW Tryd.prog (Instr.loadAt 9 t42_35) w fun t43_36 =>
 RunA Tryd.prog (Instr.fieldAt 23 t1_1 5) fun t44_37 =>
 RunW Tryd.prog (Instr.loadAt 3 t44_37) w fun t45_38 =>
 CallF Tryd.prog 21 #[t41_34, t43_36, t45_38] w fun t46_39 w =>
 R t46_39 w) (
 RunW Tryd.prog (bin .eql 3 (.tmp 4) (.const (.int .i64 7)) t4_3 (.int .i64 7)) w fun t48_40 =>
 IfB t48_40 (
 RunA Tryd.prog (Instr.fieldAt 23 t1_1 1) fun t49_41 =>
 RunW Tryd.prog (Instr.loadAt 9 t49_41) w fun t50_42 =>
 RunA Tryd.prog (Instr.fieldAt 23 t1_1 2) fun t51_43 =>
 RunW Tryd.prog (Instr.loadAt 9 t51_43) w fun t52_44 =>
 CallF Tryd.prog 25 #[t50_42, t52_44] w fun t53_45 w =>
 R t53_45 w) (
 R (.string ⟨#[]⟩) w)))))))
theorem sh7_calls {a0 : Value} {w : World} {R : Value → World → Prop} (h : sh7 a0 w R) : CallF Tryd.prog 7 #[a0] w R :=
  calls_of_denF (mk := false) (args := [a0]) (an := (.seq (.ops [1]) (.seq (.seq (.ops [1, 4]) (.blk (.seq (.ops [1, 4, 5]) (.cond (.seq (.ops [2]) .leaf) (.seq (.ops [1, 4, 10]) (.cond (.seq (.ops [2]) .leaf) (.seq (.ops [1, 4, 17]) (.cond (.seq (.ops [2]) .leaf) (.seq (.ops [1, 4, 24]) (.cond (.seq (.ops [2]) .leaf) (.seq (.ops [1, 4, 31]) (.cond (.seq (.ops [2]) .leaf) (.seq (.ops [1, 4, 38]) (.cond (.seq (.ops [2]) .leaf) (.seq (.ops [1, 47]) (.cond (.seq (.ops [2]) .leaf) .leaf)))))))))))))))) (.seq (.ops [2]) .leaf)))) (c := Tryd.f7.body.getD .skip) hent Tryd.func7 rfl (Nat.le_of_ble_eq_true (by kernel_rfl))
    (Eq.mp (show sh7 a0 w R = denF Tryd.prog ent false Tryd.f7 (.seq (.ops [1]) (.seq (.seq (.ops [1, 4]) (.blk (.seq (.ops [1, 4, 5]) (.cond (.seq (.ops [2]) .leaf) (.seq (.ops [1, 4, 10]) (.cond (.seq (.ops [2]) .leaf) (.seq (.ops [1, 4, 17]) (.cond (.seq (.ops [2]) .leaf) (.seq (.ops [1, 4, 24]) (.cond (.seq (.ops [2]) .leaf) (.seq (.ops [1, 4, 31]) (.cond (.seq (.ops [2]) .leaf) (.seq (.ops [1, 4, 38]) (.cond (.seq (.ops [2]) .leaf) (.seq (.ops [1, 47]) (.cond (.seq (.ops [2]) .leaf) .leaf)))))))))))))))) (.seq (.ops [2]) .leaf))) (Tryd.f7.body.getD .skip) [a0] w R by kernel_rfl) h)

/-! ### 8: handbill/keys.Parse -/
def sh8 (a0 : Value) (w : World) (R : Value → World → Prop) : Prop :=
 RunV Tryd.prog (Instr.alloc 23 true (.tuple #[])) w fun t2_1 w =>
 CallF Tryd.prog 26 #[a0] w fun t6_2 w =>
 RunV Tryd.prog (Instr.alloc 23 true (.tuple #[])) w fun t4_3 w =>
 RunU Tryd.prog (Instr.storeAt 23 t4_3 t6_2) w fun w =>
 RunA Tryd.prog (Instr.fieldAt 23 t4_3 0) fun t7_4 =>
 RunW Tryd.prog (Instr.loadAt 3 t7_4) w fun t8_5 =>
 RunW Tryd.prog (bin .eql 3 (.tmp 8) (.const (.int .i64 0)) t8_5 (.int .i64 0)) w fun t9_6 =>
 IfB t9_6 (
 RunV Tryd.prog (Instr.build 23 #[]) w fun t16_7 w =>
 RunU Tryd.prog (Instr.storeAt 23 t2_1 t16_7) w fun w =>
 RunW Tryd.prog (Instr.loadAt 23 t2_1) w fun t2_8 =>
 R (.tuple #[t2_8, (.bool false)]) w) (
 RunW Tryd.prog (Instr.loadAt 23 t4_3) w fun t11_9 =>
 CallF Tryd.prog 27 #[t11_9] w fun t12_10 w =>
 RunW Tryd.prog (bin .neq 9 (.tmp 12) (.tmp 13) t12_10 a0) w fun t14_11 =>
 IfB t14_11 (
 RunV Tryd.prog (Instr.build 23 #[]) w fun t16_12 w =>
 RunU Tryd.prog (Instr.storeAt 23 t2_1 t16_12) w fun w =>
 RunW Tryd.prog (Instr.loadAt 23 t2_1) w fun t2_13 =>
 R (.tuple #[t2_13, (.bool false)]) w) (
 RunW Tryd.prog (Instr.loadAt 23 t4_3) w fun t17_14 =>
 RunU Tryd.prog (Instr.storeAt 23 t2_1 t17_14) w fun w =>
 RunW Tryd.prog (Instr.loadAt 23 t2_1) w fun t2_15 =>
 R (.tuple #[t2_15, (.bool true)]) w))
theorem sh8_calls {a0 : Value} {w : World} {R : Value → World → Prop} (h : sh8 a0 w R) : CallF Tryd.prog 8 #[a0] w R :=
  calls_of_denF (mk := false) (args := [a0]) (an := (.seq (.ops [0, 2]) (.seq (.ops [0, 2, 4]) (.seq (.seq (.ops [2, 4, 15]) (.cond (.seq (.ops [2, 3]) .leaf) .leaf)) (.seq (.ops [2, 3]) .leaf))))) (c := Tryd.f8.body.getD .skip) hent Tryd.func8 rfl (Nat.le_of_ble_eq_true (by kernel_rfl))
    (Eq.mp (show sh8 a0 w R = denF Tryd.prog ent false Tryd.f8 (.seq (.ops [0, 2]) (.seq (.ops [0, 2, 4]) (.seq (.seq (.ops [2, 4, 15]) (.cond (.seq (.ops [2, 3]) .leaf) .leaf)) (.seq (.ops [2, 3]) .leaf)))) (Tryd.f8.body.getD .skip) [a0] w R by kernel_rfl) h)

/-! ### 9: handbill/keys.Entries -/
def sh9 (a0 : Value) (w : World) (R : Value → World → Prop) : Prop :=
 RunV Tryd.prog (Instr.buildSlice 41 1 #[(0, a0)]) w fun t4_1 w =>
 CallF Tryd.prog 29 #[(.string ⟨#[101]⟩), t4_1] w fun t5_2 w =>
 CallF Tryd.prog 28 #[t5_2] w fun t6_3 w =>
 R t6_3 w
theorem sh9_calls {a0 : Value} {w : World} {R : Value → World → Prop} (h : sh9 a0 w R) : CallF Tryd.prog 9 #[a0] w R :=
  calls_of_denF (mk := false) (args := [a0]) (an := (.seq (.ops [0]) (.seq (.ops [2]) .leaf))) (c := Tryd.f9.body.getD .skip) hent Tryd.func9 rfl (Nat.le_of_ble_eq_true (by kernel_rfl))
    (Eq.mp (show sh9 a0 w R = denF Tryd.prog ent false Tryd.f9 (.seq (.ops [0]) (.seq (.ops [2]) .leaf)) (Tryd.f9.body.getD .skip) [a0] w R by kernel_rfl) h)

/-! ### 10: handbill/keys.Entry -/
def sh10 (a0 a1 : Value) (w : World) (R : Value → World → Prop) : Prop :=
 RunV Tryd.prog (Instr.buildSlice 41 1 #[(0, a0)]) w fun t6_1 w =>
 CallF Tryd.prog 29 #[(.string ⟨#[101]⟩), t6_1] w fun t7_2 w =>
 CallF Tryd.prog 30 #[t7_2, a1] w fun t9_3 w =>
 R t9_3 w
theorem sh10_calls {a0 a1 : Value} {w : World} {R : Value → World → Prop} (h : sh10 a0 a1 w R) : CallF Tryd.prog 10 #[a0, a1] w R :=
  calls_of_denF (mk := false) (args := [a0, a1]) (an := (.seq (.ops [0, 1]) (.seq (.ops [4]) .leaf))) (c := Tryd.f10.body.getD .skip) hent Tryd.func10 rfl (Nat.le_of_ble_eq_true (by kernel_rfl))
    (Eq.mp (show sh10 a0 a1 w R = denF Tryd.prog ent false Tryd.f10 (.seq (.ops [0, 1]) (.seq (.ops [4]) .leaf)) (Tryd.f10.body.getD .skip) [a0, a1] w R by kernel_rfl) h)

/-! ### 11: handbill/hblref14.Parse -/
def sh11 (a0 : Value) (w : World) (R : Value → World → Prop) : Prop :=
 RunV Tryd.prog (Instr.alloc 31 true (.tuple #[])) w fun t2_1 w =>
 CallF Tryd.prog 31 #[a0, (.int .u8 47)] w fun t9_2 w =>
 RunV Tryd.prog (Instr.build 31 #[]) w fun t10_3 w =>
 RunV Tryd.prog (Instr.alloc 31 true (.tuple #[])) w fun t5_4 w =>
 RunU Tryd.prog (Instr.storeAt 31 t5_4 t10_3) w fun w =>
 jn 5 (fun t0_5 t2_6 t4_7 t5_8 t11_9 w =>
 jn 3 (fun t0_11 t2_12 t5_13 w =>
 RunW Tryd.prog (bin .eql 9 (.tmp 138) (.const (.string ⟨#[]⟩)) t0_11 (.string ⟨#[]⟩)) w fun t139_15 =>
 IfB t139_15 (
 RunV Tryd.prog (Instr.build 31 #[]) w fun t146_16 w =>
 RunU Tryd.prog (Instr.storeAt 31 t2_12 t146_16) w fun w =>
 RunW Tryd.prog (Instr.loadAt 31 t2_12) w fun t2_17 =>
 R (.tuple #[t2_17, (.bool false)]) w) (
 RunW Tryd.prog (Instr.loadAt 31 t5_13) w fun t141_18 =>
 CallF Tryd.prog 12 #[t141_18] w fun t142_19 w =>
 RunW Tryd.prog (bin .neq 9 (.tmp 142) (.tmp 143) t142_19 t0_11) w fun t144_20 =>
 IfB t144_20 (
 RunV Tryd.prog (Instr.build 31 #[]) w fun t146_21 w =>
 RunU Tryd.prog (Instr.storeAt 31 t2_12 t146_21) w fun w =>
 RunW Tryd.prog (Instr.loadAt 31 t2_12) w fun t2_22 =>
 R (.tuple #[t2_22, (.bool false)]) w) (
 RunW Tryd.prog (Instr.loadAt 31 t5_13) w fun t147_23 =>
 RunU Tryd.prog (Instr.storeAt 31 t2_12 t147_23) w fun w =>
 RunW Tryd.prog (Instr.loadAt 31 t2_12) w fun t2_24 =>
 R (.tuple #[t2_24, (.bool true)]) w))) fun j_14 =>
 IfB t11_9 (
 RunA Tryd.prog (Instr.indexAt 41 t4_7 (.int .i64 1)) fun t22_25 =>
 RunW Tryd.prog (Instr.loadAt 9 t22_25) w fun t23_26 =>
 RunV Tryd.prog (Instr.build 31 #[(0, (.int .i64 1)), (2, t23_26)]) w fun t24_27 w =>
 RunU Tryd.prog (Instr.storeAt 31 t5_8 t24_27) w fun w =>
 j_14 t0_5 t2_6 t5_8 w) (
 jn 5 (fun t0_28 t2_29 t4_30 t5_31 t25_32 w =>
 jn 3 (fun t0_34 t2_35 t5_36 w =>
 j_14 t0_34 t2_35 t5_36 w) fun j_37 =>
 IfB t25_32 (
 drw (fun S_38 w =>
 RunA Tryd.prog (Instr.indexAt 41 t4_30 (.int .i64 1)) fun t36_39 =>
 RunS Tryd.prog S_38 (Instr.loadAt 9 t36_39) fun t37_40 =>
 RunA Tryd.prog (Instr.indexAt 41 t4_30 (.int .i64 2)) fun t39_41 =>
 RunS Tryd.prog S_38 (Instr.loadAt 9 t39_41) fun t40_42 =>
 CallF Tryd.prog 32 #[t40_42] w fun t41_43 w =>
 S_38 w ∧ (
 RunV Tryd.prog (Instr.build 31 #[(0, (.int .i64 2)), (2, t37_40), (5, t41_43)]) w fun t42_44 w =>
 RunU Tryd.prog (Instr.storeAt 31 t5_31 t42_44) w fun w =>
 j_37 t0_28 t2_29 t5_31 w)) w) (
 jn 3 (fun t0_45 t2_46 t5_47 w =>
 j_37 t0_45 t2_46 t5_47 w) fun j_48 =>
 RunW Tryd.prog (Builtin.len_ #[41] 3 #[t4_30]) w fun t45_49 =>
 RunW Tryd.prog (bin .eql 3 (.tmp 45) (.const (.int .i64 3)) t45_49 (.int .i64 3)) w fun t46_50 =>
 IfB t46_50 (
 RunA Tryd.prog (Instr.indexAt 41 t4_30 (.int .i64 0)) fun t49_51 =>
 RunW Tryd.prog (Instr.loadAt 9 t49_51) w fun t50_52 =>
 RunW Tryd.prog (bin .eql 9 (.tmp 50) (.const (.string ⟨#[103]⟩)) t50_52 (.string ⟨#[103]⟩)) w fun t51_53 =>
 IfB t51_53 (
 RunA Tryd.prog (Instr.indexAt 41 t4_30 (.int .i64 2)) fun t55_54 =>
 RunW Tryd.prog (Instr.loadAt 9 t55_54) w fun t56_55 =>
 CallF Tryd.prog 33 #[t56_55] w fun t57_56 w =>
 RunA Tryd.prog (Instr.extract t57_56 0) fun t58_57 =>
 RunA Tryd.prog (Instr.extract t57_56 1) fun t59_58 =>
 drw (fun S_59 w =>
 RunA Tryd.prog (Instr.indexAt 41 t4_30 (.int .i64 1)) fun t61_60 =>
 RunS Tryd.prog S_59 (Instr.loadAt 9 t61_60) fun t62_61 =>
 RunS Tryd.prog S_59 (convert 48 9 t58_57) fun t64_62 =>
 RunV Tryd.prog (Instr.build 31 #[(0, (.int .i64 3)), (2, t62_61), (4, t64_62)]) w fun t65_63 w =>
 RunU Tryd.prog (Instr.storeAt 31 t5_31 t65_63) w fun w =>
 j_48 t0_28 t2_29 t5_31 w) w) (
 jn 3 (fun t0_64 t2_65 t5_66 w =>
 j_48 t0_64 t2_65 t5_66 w) fun j_67 =>
 RunW Tryd.prog (Builtin.len_ #[41] 3 #[t4_30]) w fun t68_68 =>
 RunW Tryd.prog (bin .eql 3 (.tmp 68) (.const (.int .i64 3)) t68_68 (.int .i64 3)) w fun t69_69 =>
 IfB t69_69 (
 RunA Tryd.prog (Instr.indexAt 41 t4_30 (.int .i64 0)) fun t72_70 =>
 RunW Tryd.prog (Instr.loadAt 9 t72_70) w fun t73_71 =>
 RunW Tryd.prog (bin .eql 9 (.tmp 73) (.const (.string ⟨#[115]⟩)) t73_71 (.string ⟨#[115]⟩)) w fun t74_72 =>
 IfB t74_72 (
 drw (fun S_73 w =>
 RunA Tryd.prog (Instr.indexAt 41 t4_30 (.int .i64 1)) fun t77_74 =>
 RunS Tryd.prog S_73 (Instr.loadAt 9 t77_74) fun t78_75 =>
 RunA Tryd.prog (Instr.indexAt 41 t4_30 (.int .i64 2)) fun t80_76 =>
 RunS Tryd.prog S_73 (Instr.loadAt 9 t80_76) fun t81_77 =>
 RunV Tryd.prog (Instr.build 31 #[(0, (.int .i64 4)), (1, t78_75), (2, t81_77)]) w fun t82_78 w =>
 RunU Tryd.prog (Instr.storeAt 31 t5_31 t82_78) w fun w =>
 j_67 t0_28 t2_29 t5_31 w) w) (
 jn 3 (fun t0_79 t2_80 t5_81 w =>
 j_67 t0_79 t2_80 t5_81 w) fun j_82 =>
 RunW Tryd.prog (Builtin.len_ #[41] 3 #[t4_30]) w fun t85_83 =>
 RunW Tryd.prog (bin .eql 3 (.tmp 85) (.const (.int .i64 3)) t85_83 (.int .i64 3)) w fun t86_84 =>
 IfB t86_84 (
 RunA Tryd.prog (Instr.indexAt 41 t4_30 (.int .i64 0)) fun t89_85 =>
 RunW Tryd.prog (Instr.loadAt 9 t89_85) w fun t90_86 =>
 RunW Tryd.prog (bin .eql 9 (.tmp 90) (.const (.string ⟨#[100]⟩)) t90_86 (.string ⟨#[100]⟩)) w fun t91_87 =>
 IfB t91_87 (
 drw (fun S_88 w =>
 RunA Tryd.prog (Instr.indexAt 41 t4_30 (.int .i64 1)) fun t94_89 =>
 RunS Tryd.prog S_88 (Instr.loadAt 9 t94_89) fun t95_90 =>
 RunA Tryd.prog (Instr.indexAt 41 t4_30 (.int .i64 2)) fun t97_91 =>
 RunS Tryd.prog S_88 (Instr.loadAt 9 t97_91) fun t98_92 =>
 RunV Tryd.prog (Instr.build 31 #[(0, (.int .i64 5)), (1, t95_90), (3, t98_92)]) w fun t99_93 w =>
 RunU Tryd.prog (Instr.storeAt 31 t5_31 t99_93) w fun w =>
 j_82 t0_28 t2_29 t5_31 w) w) (
 jn 3 (fun t0_94 t2_95 t5_96 w =>
 j_82 t0_94 t2_95 t5_96 w) fun j_97 =>
 RunW Tryd.prog (Builtin.len_ #[41] 3 #[t4_30]) w fun t102_98 =>
 RunW Tryd.prog (bin .eql 3 (.tmp 102) (.const (.int .i64 4)) t102_98 (.int .i64 4)) w fun t103_99 =>
 IfB t103_99 (
 RunA Tryd.prog (Instr.indexAt 41 t4_30 (.int .i64 0)) fun t106_100 =>
 RunW Tryd.prog (Instr.loadAt 9 t106_100) w fun t107_101 =>
 RunW Tryd.prog (bin .eql 9 (.tmp 107) (.const (.string ⟨#[114]⟩)) t107_101 (.string ⟨#[114]⟩)) w fun t108_102 =>
 IfB t108_102 (
 drw (fun S_103 w =>
 RunA Tryd.prog (Instr.indexAt 41 t4_30 (.int .i64 1)) fun t111_104 =>
 RunS Tryd.prog S_103 (Instr.loadAt 9 t111_104) fun t112_105 =>
 RunA Tryd.prog (Instr.indexAt 41 t4_30 (.int .i64 2)) fun t114_106 =>
 RunS Tryd.prog S_103 (Instr.loadAt 9 t114_106) fun t115_107 =>
 RunA Tryd.prog (Instr.indexAt 41 t4_30 (.int .i64 3)) fun t117_108 =>
 RunS Tryd.prog S_103 (Instr.loadAt 9 t117_108) fun t118_109 =>
 CallF Tryd.prog 32 #[t118_109] w fun t119_110 w =>
 S_103 w ∧ (
 RunV Tryd.prog (Instr.build 31 #[(0, (.int .i64 6)), (1, t112_105), (2, t115_107), (5, t119_110)]) w fun t120_111 w =>
 RunU Tryd.prog (Instr.storeAt 31 t5_31 t120_111) w fun w =>
 j_97 t0_28 t2_29 t5_31 w)) w) (
 jn 3 (fun t0_112 t2_113 t5_114 w =>
 j_97 t0_112 t2_113 t5_114 w) fun j_115 =>
 RunW Tryd.prog (Builtin.len_ #[41] 3 #[t4_30]) w fun t123_116 =>
 RunW Tryd.prog (bin .eql 3 (.tmp 123) (.const (.int .i64 3)) t123_116 (.int .i64 3)) w fun t124_117 =>
 IfB t124_117 (
 RunA Tryd.prog (Instr.indexAt 41 t4_30 (.int .i64 0)) fun t127_118 =>
 RunW Tryd.prog (Instr.loadAt 9 t127_118) w fun t128_119 =>
 RunW Tryd.prog (bin .eql 9 (.tmp 128) (.const (.string ⟨#[109]⟩)) t128_119 (.string ⟨#[109]⟩)) w fun t129_120 =>
 IfB t129_120 (
 drw (fun S_121 w =>
 RunA Tryd.prog (Instr.indexAt 41 t4_30 (.int .i64 1)) fun t132_122 =>
 RunS Tryd.prog S_121 (Instr.loadAt 9 t132_122) fun t133_123 =>
 RunA Tryd.prog (Instr.indexAt 41 t4_30 (.int .i64 2)) fun t135_124 =>
 RunS Tryd.prog S_121 (Instr.loadAt 9 t135_124) fun t136_125 =>
 RunV Tryd.prog (Instr.build 31 #[(0, (.int .i64 7)), (1, t133_123), (2, t136_125)]) w fun t137_126 w =>
 RunU Tryd.prog (Instr.storeAt 31 t5_31 t137_126) w fun w =>
 j_115 t0_28 t2_29 t5_31 w) w) (
 j_115 t0_28 t2_29 t5_31 w)) (
 j_115 t0_28 t2_29 t5_31 w))) (
 jn 3 (fun t0_127 t2_128 t5_129 w =>
 j_97 t0_127 t2_128 t5_129 w) fun j_130 =>
 RunW Tryd.prog (Builtin.len_ #[41] 3 #[t4_30]) w fun t123_131 =>
 RunW Tryd.prog (bin .eql 3 (.tmp 123) (.const (.int .i64 3)) t123_131 (.int .i64 3)) w fun t124_132 =>
 IfB t124_132 (
 RunA Tryd.prog (Instr.indexAt 41 t4_30 (.int .i64 0)) fun t127_133 =>
 RunW Tryd.prog (Instr.loadAt 9 t127_133) w fun t128_134 =>
 RunW Tryd.prog (bin .eql 9 (.tmp 128) (.const (.string ⟨#[109]⟩)) t128_134 (.string ⟨#[109]⟩)) w fun t129_135 =>
 IfB t129_135 (
 drw (fun S_136 w =>
 RunA Tryd.prog (Instr.indexAt 41 t4_30 (.int .i64 1)) fun t132_137 =>
 RunS Tryd.prog S_136 (Instr.loadAt 9 t132_137) fun t133_138 =>
 RunA Tryd.prog (Instr.indexAt 41 t4_30 (.int .i64 2)) fun t135_139 =>
 RunS Tryd.prog S_136 (Instr.loadAt 9 t135_139) fun t136_140 =>
 RunV Tryd.prog (Instr.build 31 #[(0, (.int .i64 7)), (1, t133_138), (2, t136_140)]) w fun t137_141 w =>
 RunU Tryd.prog (Instr.storeAt 31 t5_31 t137_141) w fun w =>
 j_130 t0_28 t2_29 t5_31 w) w) (
 j_130 t0_28 t2_29 t5_31 w)) (
 j_130 t0_28 t2_29 t5_31 w)))) (
 jn 3 (fun t0_142 t2_143 t5_144 w =>
 j_82 t0_142 t2_143 t5_144 w) fun j_145 =>
 RunW Tryd.prog (Builtin.len_ #[41] 3 #[t4_30]) w fun t102_146 =>
 RunW Tryd.prog (bin .eql 3 (.tmp 102) (.const (.int .i64 4)) t102_146 (.int .i64 4)) w fun t103_147 =>
 IfB t103_147 (
 RunA Tryd.prog (Instr.indexAt 41 t4_30 (.int .i64 0)) fun t106_148 =>
 RunW Tryd.prog (Instr.loadAt 9 t106_148) w fun t107_149 =>
 RunW Tryd.prog (bin .eql 9 (.tmp 107) (.const (.string ⟨#[114]⟩)) t107_149 (.string ⟨#[114]⟩)) w fun t108_150 =>
 IfB t108_150 (
 drw (fun S_151 w =>
 RunA Tryd.prog (Instr.indexAt 41 t4_30 (.int .i64 1)) fun t111_152 =>
 RunS Tryd.prog S_151 (Instr.loadAt 9 t111_152) fun t112_153 =>
 RunA Tryd.prog (Instr.indexAt 41 t4_30 (.int .i64 2)) fun t114_154 =>
 RunS Tryd.prog S_151 (Instr.loadAt 9 t114_154) fun t115_155 =>
 RunA Tryd.prog (Instr.indexAt 41 t4_30 (.int .i64 3)) fun t117_156 =>
 RunS Tryd.prog S_151 (Instr.loadAt 9 t117_156) fun t118_157 =>
 CallF Tryd.prog 32 #[t118_157] w fun t119_158 w =>
 S_151 w ∧ (
 RunV Tryd.prog (Instr.build 31 #[(0, (.int .i64 6)), (1, t112_153), (2, t115_155), (5, t119_158)]) w fun t120_159 w =>
 RunU Tryd.prog (Instr.storeAt 31 t5_31 t120_159) w fun w =>
 j_145 t0_28 t2_29 t5_31 w)) w) (
 jn 3 (fun t0_160 t2_161 t5_162 w =>
 j_145 t0_160 t2_161 t5_162 w) fun j_163 =>
 RunW Tryd.prog (Builtin.len_ #[41] 3 #[t4_30]) w fun t123_164 =>
 RunW Tryd.prog (bin .eql 3 (.tmp 123) (.const (.int .i64 3)) t123_164 (.int .i64 3)) w fun t124_165 =>
 IfB t124_165 (
 RunA Tryd.prog (Instr.indexAt 41 t4_30 (.int .i64 0)) fun t127_166 =>
 RunW Tryd.prog (Instr.loadAt 9 t127_166) w fun t128_167 =>
 RunW Tryd.prog (bin .eql 9 (.tmp 128) (.const (.string ⟨#[109]⟩)) t128_167 (.string ⟨#[109]⟩)) w fun t129_168 =>
 IfB t129_168 (
 drw (fun S_169 w =>
 RunA Tryd.prog (Instr.indexAt 41 t4_30 (.int .i64 1)) fun t132_170 =>
 RunS Tryd.prog S_169 (Instr.loadAt 9 t132_170) fun t133_171 =>
 RunA Tryd.prog (Instr.indexAt 41 t4_30 (.int .i64 2)) fun t135_172 =>
 RunS Tryd.prog S_169 (Instr.loadAt 9 t135_172) fun t136_173 =>
 RunV Tryd.prog (Instr.build 31 #[(0, (.int .i64 7)), (1, t133_171), (2, t136_173)]) w fun t137_174 w =>
 RunU Tryd.prog (Instr.storeAt 31 t5_31 t137_174) w fun w =>
 j_163 t0_28 t2_29 t5_31 w) w) (
 j_163 t0_28 t2_29 t5_31 w)) (
 j_163 t0_28 t2_29 t5_31 w))) (
 jn 3 (fun t0_175 t2_176 t5_177 w =>
 j_145 t0_175 t2_176 t5_177 w) fun j_178 =>
 RunW Tryd.prog (Builtin.len_ #[41] 3 #[t4_30]) w fun t123_179 =>
 RunW Tryd.prog (bin .eql 3 (.tmp 123) (.const (.int .i64 3)) t123_179 (.int .i64 3)) w fun t124_180 =>
 IfB t124_180 (
 RunA Tryd.prog (Instr.indexAt 41 t4_30 (.int .i64 0)) fun t127_181 =>
 RunW Tryd.prog (Instr.loadAt 9 t127_181) w fun t128_182 =>
 RunW Tryd.prog (bin .eql 9 (.tmp 128) (.const (.string ⟨#[109]⟩)) t128_182 (.string ⟨#[109]⟩)) w fun t129_183 =>
 IfB t129_183 (
 drw (fun S_184 w =>
 RunA Tryd.prog (Instr.indexAt 41 t4_30 (.int .i64 1)) fun t132_185 =>
 RunS Tryd.prog S_184 (Instr.loadAt 9 t132_185) fun t133_186 =>
 RunA Tryd.prog (Instr.indexAt 41 t4_30 (.int .i64 2)) fun t135_187 =>
 RunS Tryd.prog S_184 (Instr.loadAt 9 t135_187) fun t136_188 =>
 RunV Tryd.prog (Instr.build 31 #[(0, (.int .i64 7)), (1, t133_186), (2, t136_188)]) w fun t137_189 w =>
 RunU Tryd.prog (Instr.storeAt 31 t5_31 t137_189) w fun w =>
 j_178 t0_28 t2_29 t5_31 w) w) (
 j_178 t0_28 t2_29 t5_31 w)) (
 j_178 t0_28 t2_29 t5_31 w))))) (
 jn 3 (fun t0_190 t2_191 t5_192 w =>
 j_67 t0_190 t2_191 t5_192 w) fun j_193 =>
 RunW Tryd.prog (Builtin.len_ #[41] 3 #[t4_30]) w fun t85_194 =>
 RunW Tryd.prog (bin .eql 3 (.tmp 85) (.const (.int .i64 3)) t85_194 (.int .i64 3)) w fun t86_195 =>
 IfB t86_195 (
 RunA Tryd.prog (Instr.indexAt 41 t4_30 (.int .i64 0)) fun t89_196 =>
 RunW Tryd.prog (Instr.loadAt 9 t89_196) w fun t90_197 =>
 RunW Tryd.prog (bin .eql 9 (.tmp 90) (.const (.string ⟨#[100]⟩)) t90_197 (.string ⟨#[100]⟩)) w fun t91_198 =>
 IfB t91_198 (
 drw (fun S_199 w =>
 RunA Tryd.prog (Instr.indexAt 41 t4_30 (.int .i64 1)) fun t94_200 =>
 RunS Tryd.prog S_199 (Instr.loadAt 9 t94_200) fun t95_201 =>
 RunA Tryd.prog (Instr.indexAt 41 t4_30 (.int .i64 2)) fun t97_202 =>
 RunS Tryd.prog S_199 (Instr.loadAt 9 t97_202) fun t98_203 =>
 RunV Tryd.prog (Instr.build 31 #[(0, (.int .i64 5)), (1, t95_201), (3, t98_203)]) w fun t99_204 w =>
 RunU Tryd.prog (Instr.storeAt 31 t5_31 t99_204) w fun w =>
 j_193 t0_28 t2_29 t5_31 w) w) (
 jn 3 (fun t0_205 t2_206 t5_207 w =>
 j_193 t0_205 t2_206 t5_207 w) fun j_208 =>
 RunW Tryd.prog (Builtin.len_ #[41] 3 #[t4_30]) w fun t102_209 =>
 RunW Tryd.prog (bin .eql 3 (.tmp 102) (.const (.int .i64 4)) t102_209 (.int .i64 4)) w fun t103_210 =>
 IfB t103_210 (
 RunA Tryd.prog (Instr.indexAt 41 t4_30 (.int .i64 0)) fun t106_211 =>
 RunW Tryd.prog (Instr.loadAt 9 t106_211) w fun t107_212 =>
 RunW Tryd.prog (bin .eql 9 (.tmp 107) (.const (.string ⟨#[114]⟩)) t107_212 (.string ⟨#[114]⟩)) w fun t108_213 =>
 IfB t108_213 (
 drw (fun S_214 w =>
 RunA Tryd.prog (Instr.indexAt 41 t4_30 (.int .i64 1)) fun t111_215 =>
 RunS Tryd.prog S_214 (Instr.loadAt 9 t111_215) fun t112_216 =>
 RunA Tryd.prog (Instr.indexAt 41 t4_30 (.int .i64 2)) fun t114_217 =>
 RunS Tryd.prog S_214 (Instr.loadAt 9 t114_217) fun t115_218 =>
 RunA Tryd.prog (Instr.indexAt 41 t4_30 (.int .i64 3)) fun t117_219 =>
 RunS Tryd.prog S_214 (Instr.loadAt 9 t117_219) fun t118_220 =>
 CallF Tryd.prog 32 #[t118_220] w fun t119_221 w =>
 S_214 w ∧ (
 RunV Tryd.prog (Instr.build 31 #[(0, (.int .i64 6)), (1, t112_216), (2, t115_218), (5, t119_221)]) w fun t120_222 w =>
 RunU Tryd.prog (Instr.storeAt 31 t5_31 t120_222) w fun w =>
 j_208 t0_28 t2_29 t5_31 w)) w) (
 jn 3 (fun t0_223 t2_224 t5_225 w =>
 j_208 t0_223 t2_224 t5_225 w) fun j_226 =>
 RunW Tryd.prog (Builtin.len_ #[41] 3 #[t4_30]) w fun t123_227 =>
 RunW Tryd.prog (bin .eql 3 (.tmp 123) (.const (.int .i64 3)) t123_227 (.int .i64 3)) w fun t124_228 =>
 IfB t124_228 (
 RunA Tryd.prog (Instr.indexAt 41 t4_30 (.int .i64 0)) fun t127_229 =>
 RunW Tryd.prog (Instr.loadAt 9 t127_229) w fun t128_230 =>
 RunW Tryd.prog (bin .eql 9 (.tmp 128) (.const (.string ⟨#[109]⟩)) t128_230 (.string ⟨#[109]⟩)) w fun t129_231 =>
 IfB t129_231 (
 drw (fun S_232 w =>
 RunA Tryd.prog (Instr.indexAt 41 t4_30 (.int .i64 1)) fun t132_233 =>
 RunS Tryd.prog S_232 (Instr.loadAt 9 t132_233) fun t133_234 =>
 RunA Tryd.prog (Instr.indexAt 41 t4_30 (.int .i64 2)) fun t135_235 =>
 RunS Tryd.prog S_232 (Instr.loadAt 9 t135_235) fun t136_236 =>
 RunV Tryd.prog (Instr.build 31 #[(0, (.int .i64 7)), (1, t133_234), (2, t136_236)]) w fun t137_237 w =>
 RunU Tryd.prog (Instr.storeAt 31 t5_31 t137_237) w fun w =>
 j_226 t0_28 t2_29 t5_31 w) w) (
 j_226 t0_28 t2_29 t5_31 w)) (
 j_226 t0_28 t2_29 t5_31 w))) (
 jn 3 (fun t0_238 t2_239 t5_240 w =>
 j_208 t0_238 t2_239 t5_240 w) fun j_241 =>
 RunW Tryd.prog (Builtin.len_ #[41] 3 #[t4_30]) w fun t123_242 =>
 RunW Tryd.prog (bin .eql 3 (.tmp 123) (.const (.int .i64 3)) t123_242 (.int .i64 3)) w fun t124_243 =>
 IfB t124_243 (
 RunA Tryd.prog (Instr.indexAt 41 t4_30 (.int .i64 0)) fun t127_244 =>
 RunW Tryd.prog (Instr.loadAt 9 t127_244) w fun t128_245 =>
 RunW Tryd.prog (bin .eql 9 (.tmp 128) (.const (.string ⟨#[109]⟩)) t128_245 (.string ⟨#[109]⟩)) w fun t129_246 =>
 IfB t129_246 (
 drw (fun S_247 w =>
 RunA Tryd.prog (Instr.indexAt 41 t4_30 (.int .i64 1)) fun t132_248 =>
 RunS Tryd.prog S_247 (Instr.loadAt 9 t132_248) fun t133_249 =>
 RunA Tryd.prog (Instr.indexAt 41 t4_30 (.int .i64 2)) fun t135_250 =>
 RunS Tryd.prog S_247 (Instr.loadAt 9 t135_250) fun t136_251 =>
 RunV Tryd.prog (Instr.build 31 #[(0, (.int .i64 7)), (1, t133_249), (2, t136_251)]) w fun t137_252 w =>
 RunU Tryd.prog (Instr.storeAt 31 t5_31 t137_252) w fun w =>
 j_241 t0_28 t2_29 t5_31 w) w) (
 j_241 t0_28 t2_29 t5_31 w)) (
 j_241 t0_28 t2_29 t5_31 w)))) (
 jn 3 (fun t0_253 t2_254 t5_255 w =>
 j_193 t0_253 t2_254 t5_255 w) fun j_256 =>
 RunW Tryd.prog (Builtin.len_ #[41] 3 #[t4_30]) w fun t102_257 =>
 RunW Tryd.prog (bin .eql 3 (.tmp 102) (.const (.int .i64 4)) t102_257 (.int .i64 4)) w fun t103_258 =>
 IfB t103_258 (
 RunA Tryd.prog (Instr.indexAt 41 t4_30 (.int .i64 0)) fun t106_259 =>
 RunW Tryd.prog (Instr.loadAt 9 t106_259) w fun t107_260 =>
 RunW Tryd.prog (bin .eql 9 (.tmp 107) (.const (.string ⟨#[114]⟩)) t107_260 (.string ⟨#[114]⟩)) w fun t108_261 =>
 IfB t108_261 (
 drw (fun S_262 w =>
 RunA Tryd.prog (Instr.indexAt 41 t4_30 (.int .i64 1)) fun t111_263 =>
 RunS Tryd.prog S_262 (Instr.loadAt 9 t111_263) fun t112_264 =>
 RunA Tryd.prog (Instr.indexAt 41 t4_30 (.int .i64 2)) fun t114_265 =>
 RunS Tryd.prog S_262 (Instr.loadAt 9 t114_265) fun t115_266 =>
 RunA Tryd.prog (Instr.indexAt 41 t4_30 (.int .i64 3)) fun t117_267 =>
 RunS Tryd.prog S_262 (Instr.loadAt 9 t117_267) fun t118_268 =>
 CallF Tryd.prog 32 #[t118_268] w fun t119_269 w =>
 S_262 w ∧ (
 RunV Tryd.prog (Instr.build 31 #[(0, (.int .i64 6)), (1, t112_264), (2, t115_266), (5, t119_269)]) w fun t120_270 w =>
 RunU Tryd.prog (Instr.storeAt 31 t5_31 t120_270) w fun w =>
 j_256 t0_28 t2_29 t5_31 w)) w) (
 jn 3 (fun t0_271 t2_272 t5_273 w =>
 j_256 t0_271 t2_272 t5_273 w) fun j_274 =>
 RunW Tryd.prog (Builtin.len_ #[41] 3 #[t4_30]) w fun t123_275 =>
 RunW Tryd.prog (bin .eql 3 (.tmp 123) (.const (.int .i64 3)) t123_275 (.int .i64 3)) w fun t124_276 =>
 IfB t124_276 (
 RunA Tryd.prog (Instr.indexAt 41 t4_30 (.int .i64 0)) fun t127_277 =>
 RunW Tryd.prog (Instr.loadAt 9 t127_277) w fun t128_278 =>
 RunW Tryd.prog (bin .eql 9 (.tmp 128) (.const (.string ⟨#[109]⟩)) t128_278 (.string ⟨#[109]⟩)) w fun t129_279 =>
 IfB t129_279 (
 drw (fun S_280 w =>
 RunA Tryd.prog (Instr.indexAt 41 t4_30 (.int .i64 1)) fun t132_281 =>
 RunS Tryd.prog S_280 (Instr.loadAt 9 t132_281) fun t133_282 =>
 RunA Tryd.prog (Instr.indexAt 41 t4_30 (.int .i64 2)) fun t135_283 =>
 RunS Tryd.prog S_280 (Instr.loadAt 9 t135_283) fun t136_284 =>
 RunV Tryd.prog (Instr.build 31 #[(0, (.int .i64 7)), (1, t133_282), (2, t136_284)]) w fun t137_285 w =>
 RunU Tryd.prog (Instr.storeAt 31 t5_31 t137_285) w fun w =>
 j_274 t0_28 t2_29 t5_31 w) w) (
 j_274 t0_28 t2_29 t5_31 w)) (
 j_274 t0_28 t2_29 t5_31 w))) (
 jn 3 (fun t0_286 t2_287 t5_288 w =>
 j_256 t0_286 t2_287 t5_288 w) fun j_289 =>
 RunW Tryd.prog (Builtin.len_ #[41] 3 #[t4_30]) w fun t123_290 =>
 RunW Tryd.prog (bin .eql 3 (.tmp 123) (.const (.int .i64 3)) t123_290 (.int .i64 3)) w fun t124_291 =>
 IfB t124_291 (
 RunA Tryd.prog (Instr.indexAt 41 t4_30 (.int .i64 0)) fun t127_292 =>
 RunW Tryd.prog (Instr.loadAt 9 t127_292) w fun t128_293 =>
 RunW Tryd.prog (bin .eql 9 (.tmp 128) (.const (.string ⟨#[109]⟩)) t128_293 (.string ⟨#[109]⟩)) w fun t129_294 =>
 IfB t129_294 (
 drw (fun S_295 w =>
 RunA Tryd.prog (Instr.indexAt 41 t4_30 (.int .i64 1)) fun t132_296 =>
 RunS Tryd.prog S_295 (Instr.loadAt 9 t132_296) fun t133_297 =>
 RunA Tryd.prog (Instr.indexAt 41 t4_30 (.int .i64 2)) fun t135_298 =>
 RunS Tryd.prog S_295 (Instr.loadAt 9 t135_298) fun t136_299 =>
 RunV Tryd.prog (Instr.build 31 #[(0, (.int .i64 7)), (1, t133_297), (2, t136_299)]) w fun t137_300 w =>
 RunU Tryd.prog (Instr.storeAt 31 t5_31 t137_300) w fun w =>
 j_289 t0_28 t2_29 t5_31 w) w) (
 j_289 t0_28 t2_29 t5_31 w)) (
 j_289 t0_28 t2_29 t5_31 w)))))) (
 jn 3 (fun t0_301 t2_302 t5_303 w =>
 j_48 t0_301 t2_302 t5_303 w) fun j_304 =>
 RunW Tryd.prog (Builtin.len_ #[41] 3 #[t4_30]) w fun t68_305 =>
 RunW Tryd.prog (bin .eql 3 (.tmp 68) (.const (.int .i64 3)) t68_305 (.int .i64 3)) w fun t69_306 =>
 IfB t69_306 (
 RunA Tryd.prog (Instr.indexAt 41 t4_30 (.int .i64 0)) fun t72_307 =>
 RunW Tryd.prog (Instr.loadAt 9 t72_307) w fun t73_308 =>
 RunW Tryd.prog (bin .eql 9 (.tmp 73) (.const (.string ⟨#[115]⟩)) t73_308 (.string ⟨#[115]⟩)) w fun t74_309 =>
 IfB t74_309 (
 drw (fun S_310 w =>
 RunA Tryd.prog (Instr.indexAt 41 t4_30 (.int .i64 1)) fun t77_311 =>
 RunS Tryd.prog S_310 (Instr.loadAt 9 t77_311) fun t78_312 =>
 RunA Tryd.prog (Instr.indexAt 41 t4_30 (.int .i64 2)) fun t80_313 =>
 RunS Tryd.prog S_310 (Instr.loadAt 9 t80_313) fun t81_314 =>
 RunV Tryd.prog (Instr.build 31 #[(0, (.int .i64 4)), (1, t78_312), (2, t81_314)]) w fun t82_315 w =>
 RunU Tryd.prog (Instr.storeAt 31 t5_31 t82_315) w fun w =>
 j_304 t0_28 t2_29 t5_31 w) w) (
 jn 3 (fun t0_316 t2_317 t5_318 w =>
 j_304 t0_316 t2_317 t5_318 w) fun j_319 =>
 RunW Tryd.prog (Builtin.len_ #[41] 3 #[t4_30]) w fun t85_320 =>
 RunW Tryd.prog (bin .eql 3 (.tmp 85) (.const (.int .i64 3)) t85_320 (.int .i64 3)) w fun t86_321 =>
 IfB t86_321 (
 RunA Tryd.prog (Instr.indexAt 41 t4_30 (.int .i64 0)) fun t89_322 =>
 RunW Tryd.prog (Instr.loadAt 9 t89_322) w fun t90_323 =>
 RunW Tryd.prog (bin .eql 9 (.tmp 90) (.const (.string ⟨#[100]⟩)) t90_323 (.string ⟨#[100]⟩)) w fun t91_324 =>
 IfB t91_324 (
 drw (fun S_325 w =>
 RunA Tryd.prog (Instr.indexAt 41 t4_30 (.int .i64 1)) fun t94_326 =>
 RunS Tryd.prog S_325 (Instr.loadAt 9 t94_326) fun t95_327 =>
 RunA Tryd.prog (Instr.indexAt 41 t4_30 (.int .i64 2)) fun t97_328 =>
 RunS Tryd.prog S_325 (Instr.loadAt 9 t97_328) fun t98_329 =>
 RunV Tryd.prog (Instr.build 31 #[(0, (.int .i64 5)), (1, t95_327), (3, t98_329)]) w fun t99_330 w =>
 RunU Tryd.prog (Instr.storeAt 31 t5_31 t99_330) w fun w =>
 j_319 t0_28 t2_29 t5_31 w) w) (
 jn 3 (fun t0_331 t2_332 t5_333 w =>
 j_319 t0_331 t2_332 t5_333 w) fun j_334 =>
 RunW Tryd.prog (Builtin.len_ #[41] 3 #[t4_30]) w fun t102_335 =>
 RunW Tryd.prog (bin .eql 3 (.tmp 102) (.const (.int .i64 4)) t102_335 (.int .i64 4)) w fun t103_336 =>
 IfB t103_336 (
 RunA Tryd.prog (Instr.indexAt 41 t4_30 (.int .i64 0)) fun t106_337 =>
 RunW Tryd.prog (Instr.loadAt 9 t106_337) w fun t107_338 =>
 RunW Tryd.prog (bin .eql 9 (.tmp 107) (.const (.string ⟨#[114]⟩)) t107_338 (.string ⟨#[114]⟩)) w fun t108_339 =>
 IfB t108_339 (
 drw (fun S_340 w =>
 RunA Tryd.prog (Instr.indexAt 41 t4_30 (.int .i64 1)) fun t111_341 =>
 RunS Tryd.prog S_340 (Instr.loadAt 9 t111_341) fun t112_342 =>
 RunA Tryd.prog (Instr.indexAt 41 t4_30 (.int .i64 2)) fun t114_343 =>
 RunS Tryd.prog S_340 (Instr.loadAt 9 t114_343) fun t115_344 =>
 RunA Tryd.prog (Instr.indexAt 41 t4_30 (.int .i64 3)) fun t117_345 =>
 RunS Tryd.prog S_340 (Instr.loadAt 9 t117_345) fun t118_346 =>
 CallF Tryd.prog 32 #[t118_346] w fun t119_347 w =>
 S_340 w ∧ (
 RunV Tryd.prog (Instr.build 31 #[(0, (.int .i64 6)), (1, t112_342), (2, t115_344), (5, t119_347)]) w fun t120_348 w =>
 RunU Tryd.prog (Instr.storeAt 31 t5_31 t120_348) w fun w =>
 j_334 t0_28 t2_29 t5_31 w)) w) (
 jn 3 (fun t0_349 t2_350 t5_351 w =>
 j_334 t0_349 t2_350 t5_351 w) fun j_352 =>
 RunW Tryd.prog (Builtin.len_ #[41] 3 #[t4_30]) w fun t123_353 =>
 RunW Tryd.prog (bin .eql 3 (.tmp 123) (.const (.int .i64 3)) t123_353 (.int .i64 3)) w fun t124_354 =>
 IfB t124_354 (
 RunA Tryd.prog (Instr.indexAt 41 t4_30 (.int .i64 0)) fun t127_355 =>
 RunW Tryd.prog (Instr.loadAt 9 t127_355) w fun t128_356 =>
 RunW Tryd.prog (bin .eql 9 (.tmp 128) (.const (.string ⟨#[109]⟩)) t128_356 (.string ⟨#[109]⟩)) w fun t129_357 =>
 IfB t129_357 (
 drw (fun S_358 w =>
 RunA Tryd.prog (Instr.indexAt 41 t4_30 (.int .i64 1)) fun t132_359 =>
 RunS Tryd.prog S_358 (Instr.loadAt 9 t132_359) fun t133_360 =>
 RunA Tryd.prog (Instr.indexAt 41 t4_30 (.int .i64 2)) fun t135_361 =>
 RunS Tryd.prog S_358 (Instr.loadAt 9 t135_361) fun t136_362 =>
 RunV Tryd.prog (Instr.build 31 #[(0, (.int .i64 7)), (1, t133_360), (2, t136_362)]) w fun t137_363 w =>
 RunU Tryd.prog (Instr.storeAt 31 t5_31 t137_363) w fun w =>
 j_352 t0_28 t2_29 t5_31 w) w) (
 j_352 t0_28 t2_29 t5_31 w)) (
 j_352 t0_28 t2_29 t5_31 w))) (
 jn 3 (fun t0_364 t2_365 t5_366 w =>
 j_334 t0_364 t2_365 t5_366 w) fun j_367 =>
 RunW Tryd.prog (Builtin.len_ #[41] 3 #[t4_30]) w fun t123_368 =>
 RunW Tryd.prog (bin .eql 3 (.tmp 123) (.const (.int .i64 3)) t123_368 (.int .i64 3)) w fun t124_369 =>
 IfB t124_369 (
 RunA Tryd.prog (Instr.indexAt 41 t4_30 (.int .i64 0)) fun t127_370 =>
 RunW Tryd.prog (Instr.loadAt 9 t127_370) w fun t128_371 =>
 RunW Tryd.prog (bin .eql 9 (.tmp 128) (.const (.string ⟨#[109]⟩)) t128_371 (.string ⟨#[109]⟩)) w fun t129_372 =>
 IfB t129_372 (
 drw (fun S_373 w =>
 RunA Tryd.prog (Instr.indexAt 41 t4_30 (.int .i64 1)) fun t132_374 =>
 RunS Tryd.prog S_373 (Instr.loadAt 9 t132_374) fun t133_375 =>
 RunA Tryd.prog (Instr.indexAt 41 t4_30 (.int .i64 2)) fun t135_376 =>
 RunS Tryd.prog S_373 (Instr.loadAt 9 t135_376) fun t136_377 =>
 RunV Tryd.prog (Instr.build 31 #[(0, (.int .i64 7)), (1, t133_375), (2, t136_377)]) w fun t137_378 w =>
 RunU Tryd.prog (Instr.storeAt 31 t5_31 t137_378) w fun w =>
 j_367 t0_28 t2_29 t5_31 w) w) (
 j_367 t0_28 t2_29 t5_31 w)) (
 j_367 t0_28 t2_29 t5_31 w)))) (
 jn 3 (fun t0_379 t2_380 t5_381 w =>
 j_319 t0_379 t2_380 t5_381 w) fun j_382 =>
 RunW Tryd.prog (Builtin.len_ #[41] 3 #[t4_30]) w fun t102_383 =>
 RunW Tryd.prog (bin .eql 3 (.tmp 102) (.const (.int .i64 4)) t102_383 (.int .i64 4)) w fun t103_384 =>
 IfB t103_384 (
 RunA Tryd.prog (Instr.indexAt 41 t4_30 (.int .i64 0)) fun t106_385 =>
 RunW Tryd.prog (Instr.loadAt 9 t106_385) w fun t107_386 =>
 RunW Tryd.prog (bin .eql 9 (.tmp 107) (.const (.string ⟨#[114]⟩)) t107_386 (.string ⟨#[114]⟩)) w fun t108_387 =>
 IfB t108_387 (
 drw (fun S_388 w =>
 RunA Tryd.prog (Instr.indexAt 41 t4_30 (.int .i64 1)) fun t111_389 =>
 RunS Tryd.prog S_388 (Instr.loadAt 9 t111_389) fun t112_390 =>
 RunA Tryd.prog (Instr.indexAt 41 t4_30 (.int .i64 2)) fun t114_391 =>
 RunS Tryd.prog S_388 (Instr.loadAt 9 t114_391) fun t115_392 =>
 RunA Tryd.prog (Instr.indexAt 41 t4_30 (.int .i64 3)) fun t117_393 =>
 RunS Tryd.prog S_388 (Instr.loadAt 9 t117_393) fun t118_394 =>
 CallF Tryd.prog 32 #[t118_394] w fun t119_395 w =>
 S_388 w ∧ (
 RunV Tryd.prog (Instr.build 31 #[(0, (.int .i64 6)), (1, t112_390), (2, t115_392), (5, t119_395)]) w fun t120_396 w =>
 RunU Tryd.prog (Instr.storeAt 31 t5_31 t120_396) w fun w =>
 j_382 t0_28 t2_29 t5_31 w)) w) (
 jn 3 (fun t0_397 t2_398 t5_399 w =>
 j_382 t0_397 t2_398 t5_399 w) fun j_400 =>
 RunW Tryd.prog (Builtin.len_ #[41] 3 #[t4_30]) w fun t123_401 =>
 RunW Tryd.prog (bin .eql 3 (.tmp 123) (.const (.int .i64 3)) t123_401 (.int .i64 3)) w fun t124_402 =>
 IfB t124_402 (
 RunA Tryd.prog (Instr.indexAt 41 t4_30 (.int .i64 0)) fun t127_403 =>
 RunW Tryd.prog (Instr.loadAt 9 t127_403) w fun t128_404 =>
 RunW Tryd.prog (bin .eql 9 (.tmp 128) (.const (.string ⟨#[109]⟩)) t128_404 (.string ⟨#[109]⟩)) w fun t129_405 =>
 IfB t129_405 (
 drw (fun S_406 w =>
 RunA Tryd.prog (Instr.indexAt 41 t4_30 (.int .i64 1)) fun t132_407 =>
 RunS Tryd.prog S_406 (Instr.loadAt 9 t132_407) fun t133_408 =>
 RunA Tryd.prog (Instr.indexAt 41 t4_30 (.int .i64 2)) fun t135_409 =>
 RunS Tryd.prog S_406 (Instr.loadAt 9 t135_409) fun t136_410 =>
 RunV Tryd.prog (Instr.build 31 #[(0, (.int .i64 7)), (1, t133_408), (2, t136_410)]) w fun t137_411 w =>
 RunU Tryd.prog (Instr.storeAt 31 t5_31 t137_411) w fun w =>
 j_400 t0_28 t2_29 t5_31 w) w) (
 j_400 t0_28 t2_29 t5_31 w)) (
 j_400 t0_28 t2_29 t5_31 w))) (
 jn 3 (fun t0_412 t2_413 t5_414 w =>
 j_382 t0_412 t2_413 t5_414 w) fun j_415 =>
 RunW Tryd.prog (Builtin.len_ #[41] 3 #[t4_30]) w fun t123_416 =>
 RunW Tryd.prog (bin .eql 3 (.tmp 123) (.const (.int .i64 3)) t123_416 (.int .i64 3)) w fun t124_417 =>
 IfB t124_417 (
 RunA Tryd.prog (Instr.indexAt 41 t4_30 (.int .i64 0)) fun t127_418 =>
 RunW Tryd.prog (Instr.loadAt 9 t127_418) w fun t128_419 =>
 RunW Tryd.prog (bin .eql 9 (.tmp 128) (.const (.string ⟨#[109]⟩)) t128_419 (.string ⟨#[109]⟩)) w fun t129_420 =>
 IfB t129_420 (
 drw (fun S_421 w =>
 RunA Tryd.prog (Instr.indexAt 41 t4_30 (.int .i64 1)) fun t132_422 =>
 RunS Tryd.prog S_421 (Instr.loadAt 9 t132_422) fun t133_423 =>
 RunA Tryd.prog (Instr.indexAt 41 t4_30 (.int .i64 2)) fun t135_424 =>
 RunS Tryd.prog S_421 (Instr.loadAt 9 t135_424) fun t136_425 =>
 RunV Tryd.prog (Instr.build 31 #[(0, (.int .i64 7)), (1, t133_423), (2, t136_425)]) w fun t137_426 w =>
 RunU Tryd.prog (Instr.storeAt 31 t5_31 t137_426) w fun w =>
 j_415 t0_28 t2_29 t5_31 w) w) (
 j_415 t0_28 t2_29 t5_31 w)) (
 j_415 t0_28 t2_29 t5_31 w))))) (
 jn 3 (fun t0_427 t2_428 t5_429 w =>
 j_304 t0_427 t2_428 t5_429 w) fun j_430 =>
 RunW Tryd.prog (Builtin.len_ #[41] 3 #[t4_30]) w fun t85_431 =>
 RunW Tryd.prog (bin .eql 3 (.tmp 85) (.const (.int .i64 3)) t85_431 (.int .i64 3)) w fun t86_432 =>
 IfB t86_432 (
 RunA Tryd.prog (Instr.indexAt 41 t4_30 (.int .i64 0)) fun t89_433 =>
 RunW Tryd.prog (Instr.loadAt 9 t89_433) w fun t90_434 =>
 RunW Tryd.prog (bin .eql 9 (.tmp 90) (.const (.string ⟨#[100]⟩)) t90_434 (.string ⟨#[100]⟩)) w fun t91_435 =>
 IfB t91_435 (
 drw (fun S_436 w =>
 RunA Tryd.prog (Instr.indexAt 41 t4_30 (.int .i64 1)) fun t94_437 =>
 RunS Tryd.prog S_436 (Instr.loadAt 9 t94_437) fun t95_438 =>
 RunA Tryd.prog (Instr.indexAt 41 t4_30 (.int .i64 2)) fun t97_439 =>
 RunS Tryd.prog S_436 (Instr.loadAt 9 t97_439) fun t98_440 =>
 RunV Tryd.prog (Instr.build 31 #[(0, (.int .i64 5)), (1, t95_438), (3, t98_440)]) w fun t99_441 w =>
 RunU Tryd.prog (Instr.storeAt 31 t5_31 t99_441) w fun w =>
 j_430 t0_28 t2_29 t5_31 w) w) (
 jn 3 (fun t0_442 t2_443 t5_444 w =>
 j_430 t0_442 t2_443 t5_444 w) fun j_445 =>
 RunW Tryd.prog (Builtin.len_ #[41] 3 #[t4_30]) w fun t102_446 =>
 RunW Tryd.prog (bin .eql 3 (.tmp 102) (.const (.int .i64 4)) t102_446 (.int .i64 4)) w fun t103_447 =>
 IfB t103_447 (
 RunA Tryd.prog (Instr.indexAt 41 t4_30 (.int .i64 0)) fun t106_448 =>
 RunW Tryd.prog (Instr.loadAt 9 t106_448) w fun t107_449 =>
 RunW Tryd.prog (bin .eql 9 (.tmp 107) (.const (.string ⟨#[114]⟩)) t107_449 (.string ⟨#[114]⟩)) w fun t108_450 =>
 IfB t108_450 (
 drw (fun S_451 w =>
 RunA Tryd.prog (Instr.indexAt 41 t4_30 (.int .i64 1)) fun t111_452 =>
 RunS Tryd.prog S_451 (Instr.loadAt 9 t111_452) fun t112_453 =>
 RunA Tryd.prog (Instr.indexAt 41 t4_30 (.int .i64 2)) fun t114_454 =>
 RunS Tryd.prog S_451 (Instr.loadAt 9 t114_454) fun t115_455 =>
 RunA Tryd.prog (Instr.indexAt 41 t4_30 (.int .i64 3)) fun t117_456 =>
 RunS Tryd.prog S_451 (Instr.loadAt 9 t117_456) fun t118_457 =>
 CallF Tryd.prog 32 #[t118_457] w fun t119_458 w =>
 S_451 w ∧ (
 RunV Tryd.prog (Instr.build 31 #[(0, (.int .i64 6)), (1, t112_453), (2, t115_455), (5, t119_458)]) w fun t120_459 w =>
 RunU Tryd.prog (Instr.storeAt 31 t5_31 t120_459) w fun w =>
 j_445 t0_28 t2_29 t5_31 w)) w) (
 jn 3 (fun t0_460 t2_461 t5_462 w =>
 j_445 t0_460 t2_461 t5_462 w) fun j_463 =>
 RunW Tryd.prog (Builtin.len_ #[41] 3 #[t4_30]) w fun t123_464 =>
 RunW Tryd.prog (bin .eql 3 (.tmp 123) (.const (.int .i64 3)) t123_464 (.int .i64 3)) w fun t124_465 =>
 IfB t124_465 (
 RunA Tryd.prog (Instr.indexAt 41 t4_30 (.int .i64 0)) fun t127_466 =>
 RunW Tryd.prog (Instr.loadAt 9 t127_466) w fun t128_467 =>
 RunW Tryd.prog (bin .eql 9 (.tmp 128) (.const (.string ⟨#[109]⟩)) t128_467 (.string ⟨#[109]⟩)) w fun t129_468 =>
 IfB t129_468 (
 drw (fun S_469 w =>
 RunA Tryd.prog (Instr.indexAt 41 t4_30 (.int .i64 1)) fun t132_470 =>
 RunS Tryd.prog S_469 (Instr.loadAt 9 t132_470) fun t133_471 =>
 RunA Tryd.prog (Instr.indexAt 41 t4_30 (.int .i64 2)) fun t135_472 =>
 RunS Tryd.prog S_469 (Instr.loadAt 9 t135_472) fun t136_473 =>
 RunV Tryd.prog (Instr.build 31 #[(0, (.int .i64 7)), (1, t133_471), (2, t136_473)]) w fun t137_474 w =>
 RunU Tryd.prog (Instr.storeAt 31 t5_31 t137_474) w fun w =>
 j_463 t0_28 t2_29 t5_31 w) w) (
 j_463 t0_28 t2_29 t5_31 w)) (
 j_463 t0_28 t2_29 t5_31 w))) (
 jn 3 (fun t0_475 t2_476 t5_477 w =>
 j_445 t0_475 t2_476 t5_477 w) fun j_478 =>
 RunW Tryd.prog (Builtin.len_ #[41] 3 #[t4_30]) w fun t123_479 =>
 RunW Tryd.prog (bin .eql 3 (.tmp 123) (.const (.int .i64 3)) t123_479 (.int .i64 3)) w fun t124_480 =>
 IfB t124_480 (
 RunA Tryd.prog (Instr.indexAt 41 t4_30 (.int .i64 0)) fun t127_481 =>
 RunW Tryd.prog (Instr.loadAt 9 t127_481) w fun t128_482 =>
 RunW Tryd.prog (bin .eql 9 (.tmp 128) (.const (.string ⟨#[109]⟩)) t128_482 (.string ⟨#[109]⟩)) w fun t129_483 =>
 IfB t129_483 (
 drw (fun S_484 w =>
 RunA Tryd.prog (Instr.indexAt 41 t4_30 (.int .i64 1)) fun t132_485 =>
 RunS Tryd.prog S_484 (Instr.loadAt 9 t132_485) fun t133_486 =>
 RunA Tryd.prog (Instr.indexAt 41 t4_30 (.int .i64 2)) fun t135_487 =>
 RunS Tryd.prog S_484 (Instr.loadAt 9 t135_487) fun t136_488 =>
 RunV Tryd.prog (Instr.build 31 #[(0, (.int .i64 7)), (1, t133_486), (2, t136_488)]) w fun t137_489 w =>
 RunU Tryd.prog (Instr.storeAt 31 t5_31 t137_489) w fun w =>
 j_478 t0_28 t2_29 t5_31 w) w) (
 j_478 t0_28 t2_29 t5_31 w)) (
 j_478 t0_28 t2_29 t5_31 w)))) (
 jn 3 (fun t0_490 t2_491 t5_492 w =>
 j_430 t0_490 t2_491 t5_492 w) fun j_493 =>
 RunW Tryd.prog (Builtin.len_ #[41] 3 #[t4_30]) w fun t102_494 =>
 RunW Tryd.prog (bin .eql 3 (.tmp 102) (.const (.int .i64 4)) t102_494 (.int .i64 4)) w fun t103_495 =>
 IfB t103_495 (
 RunA Tryd.prog (Instr.indexAt 41 t4_30 (.int .i64 0)) fun t106_496 =>
 RunW Tryd.prog (Instr.loadAt 9 t106_496) w fun t107_497 =>
 RunW Tryd.prog (bin .eql 9 (.tmp 107) (.const (.string ⟨#[114]⟩)) t107_497 (.string ⟨#[114]⟩)) w fun t108_498 =>
 IfB t108_498 (
 drw (fun S_499 w =>
 RunA Tryd.prog (Instr.indexAt 41 t4_30 (.int .i64 1)) fun t111_500 =>
 RunS Tryd.prog S_499 (Instr.loadAt 9 t111_500) fun t112_501 =>
 RunA Tryd.prog (Instr.indexAt 41 t4_30 (.int .i64 2)) fun t114_502 =>
 RunS Tryd.prog S_499 (Instr.loadAt 9 t114_502) fun t115_503 =>
 RunA Tryd.prog (Instr.indexAt 41 t4_30 (.int .i64 3)) fun t117_504 =>
 RunS Tryd.prog S_499 (Instr.loadAt 9 t117_504) fun t118_505 =>
 CallF Tryd.prog 32 #[t118_505] w fun t119_506 w =>
 S_499 w ∧ (
 RunV Tryd.prog (Instr.build 31 #[(0, (.int .i64 6)), (1, t112_501), (2, t115_503), (5, t119_506)]) w fun t120_507 w =>
 RunU Tryd.prog (Instr.storeAt 31 t5_31 t120_507) w fun w =>
 j_493 t0_28 t2_29 t5_31 w)) w) (
 jn 3 (fun t0_508 t2_509 t5_510 w =>
 j_493 t0_508 t2_509 t5_510 w) fun j_511 =>
 RunW Tryd.prog (Builtin.len_ #[41] 3 #[t4_30]) w fun t123_512 =>
 RunW Tryd.prog (bin .eql 3 (.tmp 123) (.const (.int .i64 3)) t123_512 (.int .i64 3)) w fun t124_513 =>
 IfB t124_513 (
 RunA Tryd.prog (Instr.indexAt 41 t4_30 (.int .i64 0)) fun t127_514 =>
 RunW Tryd.prog (Instr.loadAt 9 t127_514) w fun t128_515 =>
 RunW Tryd.prog (bin .eql 9 (.tmp 128) (.const (.string ⟨#[109]⟩)) t128_515 (.string ⟨#[109]⟩)) w fun t129_516 =>
 IfB t129_516 (
 drw (fun S_517 w =>
 RunA Tryd.prog (Instr.indexAt 41 t4_30 (.int .i64 1)) fun t132_518 =>
 RunS Tryd.prog S_517 (Instr.loadAt 9 t132_518) fun t133_519 =>
 RunA Tryd.prog (Instr.indexAt 41 t4_30 (.int .i64 2)) fun t135_520 =>
 RunS Tryd.prog S_517 (Instr.loadAt 9 t135_520) fun t136_521 =>
 RunV Tryd.prog (Instr.build 31 #[(0, (.int .i64 7)), (1, t133_519), (2, t136_521)]) w fun t137_522 w =>
 RunU Tryd.prog (Instr.storeAt 31 t5_31 t137_522) w fun w =>
 j_511 t0_28 t2_29 t5_31 w) w) (
 j_511 t0_28 t2_29 t5_31 w)) (
 j_511 t0_28 t2_29 t5_31 w))) (
 jn 3 (fun t0_523 t2_524 t5_525 w =>
 j_493 t0_523 t2_524 t5_525 w) fun j_526 =>
 RunW Tryd.prog (Builtin.len_ #[41] 3 #[t4_30]) w fun t123_527 =>
 RunW Tryd.prog (bin .eql 3 (.tmp 123) (.const (.int .i64 3)) t123_527 (.int .i64 3)) w fun t124_528 =>
 IfB t124_528 (
 RunA Tryd.prog (Instr.indexAt 41 t4_30 (.int .i64 0)) fun t127_529 =>
 RunW Tryd.prog (Instr.loadAt 9 t127_529) w fun t128_530 =>
 RunW Tryd.prog (bin .eql 9 (.tmp 128) (.const (.string ⟨#[109]⟩)) t128_530 (.string ⟨#[109]⟩)) w fun t129_531 =>
 IfB t129_531 (
 drw (fun S_532 w =>
 RunA Tryd.prog (Instr.indexAt 41 t4_30 (.int .i64 1)) fun t132_533 =>
 RunS Tryd.prog S_532 (Instr.loadAt 9 t132_533) fun t133_534 =>
 RunA Tryd.prog (Instr.indexAt 41 t4_30 (.int .i64 2)) fun t135_535 =>
 RunS Tryd.prog S_532 (Instr.loadAt 9 t135_535) fun t136_536 =>
 RunV Tryd.prog (Instr.build 31 #[(0, (.int .i64 7)), (1, t133_534), (2, t136_536)]) w fun t137_537 w =>
 RunU Tryd.prog (Instr.storeAt 31 t5_31 t137_537) w fun w =>
 j_526 t0_28 t2_29 t5_31 w) w) (
 j_526 t0_28 t2_29 t5_31 w)) (
 j_526 t0_28 t2_29 t5_31 w))))))) fun j_33 =>
 RunW Tryd.prog (Builtin.len_ #[41] 3 #[t4_7]) w fun t27_538 =>
 RunW Tryd.prog (bin .eql 3 (.tmp 27) (.const (.int .i64 3)) t27_538 (.int .i64 3)) w fun t28_539 =>
 IfB t28_539 (
 RunA Tryd.prog (Instr.indexAt 41 t4_7 (.int .i64 0)) fun t31_540 =>
 RunW Tryd.prog (Instr.loadAt 9 t31_540) w fun t32_541 =>
 RunW Tryd.prog (bin .eql 9 (.tmp 32) (.const (.string ⟨#[101]⟩)) t32_541 (.string ⟨#[101]⟩)) w fun t33_542 =>
 j_33 t0_5 t2_6 t4_7 t5_8 t33_542 w) (
 j_33 t0_5 t2_6 t4_7 t5_8 (.bool false) w))) fun j_10 =>
 RunW Tryd.prog (Builtin.len_ #[41] 3 #[t9_2]) w fun t13_543 =>
 RunW Tryd.prog (bin .eql 3 (.tmp 13) (.const (.int .i64 2)) t13_543 (.int .i64 2)) w fun t14_544 =>
 IfB t14_544 (
 RunA Tryd.prog (Instr.indexAt 41 t9_2 (.int .i64 0)) fun t17_545 =>
 RunW Tryd.prog (Instr.loadAt 9 t17_545) w fun t18_546 =>
 RunW Tryd.prog (bin .eql 9 (.tmp 18) (.const (.string ⟨#[102]⟩)) t18_546 (.string ⟨#[102]⟩)) w fun t19_547 =>
 j_10 a0 t2_1 t9_2 t5_4 t19_547 w) (
 j_10 a0 t2_1 t9_2 t5_4 (.bool false) w)
theorem sh11_calls {a0 : Value} {w : World} {R : Value → World → Prop} (h : sh11 a0 w R) : CallF Tryd.prog 11 #[a0] w R :=
  calls_of_denF (mk := false) (args := [a0]) (an := (.seq (.ops [0, 2]) (.seq (.ops [0, 2, 4]) (.seq (.ops [0, 2, 4, 5]) (.seq (.blk (.seq (.join [0, 2, 4, 5, 11] (.ops [0, 2, 4, 5, 11])) (.join [0, 2, 5] (.cond (.ops [0, 2, 5]) (.seq (.join [0, 2, 4, 5, 25] (.ops [0, 2, 4, 5, 25])) (.join [0, 2, 5] (.cond (.draw (.q 0 (.q 1 (.q 2 (.q 3 (.q 4 (.q 5 (.one 6 (.one 7 (.one 8 .fin))))))))) [0, 2, 5]) (.join [0, 2, 5] (.seq (.ops [0, 2, 4, 5, 43]) (.cond (.seq (.ops [0, 2, 4, 5, 6]) (.draw (.q 0 (.q 1 (.q 2 (.q 3 (.q 4 (.one 5 (.one 6 .fin))))))) [0, 2, 5])) (.join [0, 2, 5] (.seq (.ops [0, 2, 4, 5, 66]) (.cond (.draw (.q 0 (.q 1 (.q 2 (.q 3 (.q 4 (.q 5 (.one 6 (.one 7 .fin)))))))) [0, 2, 5]) (.join [0, 2, 5] (.seq (.ops [0, 2, 4, 5, 83]) (.cond (.draw (.q 0 (.q 1 (.q 2 (.q 3 (.q 4 (.q 5 (.one 6 (.one 7 .fin)))))))) [0, 2, 5]) (.join [0, 2, 5] (.seq (.ops [0, 2, 4, 5, 100]) (.cond (.draw (.q 0 (.q 1 (.q 2 (.q 3 (.q 4 (.q 5 (.q 6 (.q 7 (.q 8 (.one 9 (.one 10 (.one 11 .fin)))))))))))) [0, 2, 5]) (.join [0, 2, 5] (.seq (.ops [0, 2, 4, 5, 121]) (.cond (.draw (.q 0 (.q 1 (.q 2 (.q 3 (.q 4 (.q 5 (.one 6 (.one 7 .fin)))))))) [0, 2, 5]) .leaf)))))))))))))))))))))) (.seq (.seq (.ops [2, 5, 145]) (.cond (.seq (.ops [2, 3]) .leaf) .leaf)) (.seq (.ops [2, 3]) .leaf))))))) (c := Tryd.f11.body.getD .skip) hent Tryd.func11 rfl (Nat.le_of_ble_eq_true (by kernel_rfl))
    (Eq.mp (show sh11 a0 w R = denF Tryd.prog ent false Tryd.f11 (.seq (.ops [0, 2]) (.seq (.ops [0, 2, 4]) (.seq (.ops [0, 2, 4, 5]) (.seq (.blk (.seq (.join [0, 2, 4, 5, 11] (.ops [0, 2, 4, 5, 11])) (.join [0, 2, 5] (.cond (.ops [0, 2, 5]) (.seq (.join [0, 2, 4, 5, 25] (.ops [0, 2, 4, 5, 25])) (.join [0, 2, 5] (.cond (.draw (.q 0 (.q 1 (.q 2 (.q 3 (.q 4 (.q 5 (.one 6 (.one 7 (.one 8 .fin))))))))) [0, 2, 5]) (.join [0, 2, 5] (.seq (.ops [0, 2, 4, 5, 43]) (.cond (.seq (.ops [0, 2, 4, 5, 6]) (.draw (.q 0 (.q 1 (.q 2 (.q 3 (.q 4 (.one 5 (.one 6 .fin))))))) [0, 2, 5])) (.join [0, 2, 5] (.seq (.ops [0, 2, 4, 5, 66]) (.cond (.draw (.q 0 (.q 1 (.q 2 (.q 3 (.q 4 (.q 5 (.one 6 (.one 7 .fin)))))))) [0, 2, 5]) (.join [0, 2, 5] (.seq (.ops [0, 2, 4, 5, 83]) (.cond (.draw (.q 0 (.q 1 (.q 2 (.q 3 (.q 4 (.q 5 (.one 6 (.one 7 .fin)))))))) [0, 2, 5]) (.join [0, 2, 5] (.seq (.ops [0, 2, 4, 5, 100]) (.cond (.draw (.q 0 (.q 1 (.q 2 (.q 3 (.q 4 (.q 5 (.q 6 (.q 7 (.q 8 (.one 9 (.one 10 (.one 11 .fin)))))))))))) [0, 2, 5]) (.join [0, 2, 5] (.seq (.ops [0, 2, 4, 5, 121]) (.cond (.draw (.q 0 (.q 1 (.q 2 (.q 3 (.q 4 (.q 5 (.one 6 (.one 7 .fin)))))))) [0, 2, 5]) .leaf)))))))))))))))))))))) (.seq (.seq (.ops [2, 5, 145]) (.cond (.seq (.ops [2, 3]) .leaf) .leaf)) (.seq (.ops [2, 3]) .leaf)))))) (Tryd.f11.body.getD .skip) [a0] w R by kernel_rfl) h)

/-! ### 12: handbill/hblref14.Key -/
def sh12 (a0 : Value) (w : World) (R : Value → World → Prop) : Prop :=
 RunV Tryd.prog (Instr.box 31 a0) w fun t1_1 w =>
 RunA Tryd.prog (Instr.fieldAt 31 t1_1 5) fun t8_2 =>
 RunW Tryd.prog (Instr.loadAt 3 t8_2) w fun t9_3 =>
 CallF Tryd.prog 34 #[t9_3, (.int .i64 6)] w fun t10_4 w =>
 RunA Tryd.prog (Instr.extract t10_4 0) fun t11_5 =>
 RunA Tryd.prog (Instr.extract t10_4 1) fun t12_6 =>
 drw (fun S_7 w =>
 RunA Tryd.prog (Instr.fieldAt 31 t1_1 1) fun t13_8 =>
 RunS Tryd.prog S_7 (Instr.loadAt 9 t13_8) fun t14_9 =>
 RunA Tryd.prog (Instr.fieldAt 31 t1_1 2) fun t16_10 =>
 RunS Tryd.prog S_7 (Instr.loadAt 9 t16_10) fun t17_11 =>
 CallF Tryd.prog 15 #[t14_9] w fun t15_12 w =>
 S_7 w ∧ (
 CallF Tryd.prog 15 #[t17_11] w fun t18_13 w =>
 jn 6 (fun t1_14 t3_15 t4_16 t5_17 t6_18 t19_19 w =>
 IfB t19_19 (
 RunA Tryd.prog (Instr.fieldAt 31 t1_14 2) fun t26_21 =>
 RunW Tryd.prog (Instr.loadAt 9 t26_21) w fun t27_22 =>
 RunA Tryd.prog (bin .add 9 (.const (.string ⟨#[102, 47]⟩)) (.tmp 27) (.string ⟨#[102, 47]⟩) t27_22) fun t28_23 =>
 R t28_23 w) (
 jn 6 (fun t1_24 t3_25 t4_26 t5_27 t6_28 t29_29 w =>
 IfB t29_29 (
 RunA Tryd.prog (Instr.fieldAt 31 t1_24 2) fun t39_31 =>
 RunW Tryd.prog (Instr.loadAt 9 t39_31) w fun t40_32 =>
 RunA Tryd.prog (bin .add 9 (.const (.string ⟨#[101, 47]⟩)) (.tmp 40) (.string ⟨#[101, 47]⟩) t40_32) fun t41_33 =>
 RunA Tryd.prog (bin .add 9 (.tmp 41) (.const (.string ⟨#[47]⟩)) t41_33 (.string ⟨#[47]⟩)) fun t42_34 =>
 RunA Tryd.prog (bin .add 9 (.tmp 42) (.tmp 43) t42_34 t3_25) fun t44_35 =>
 R t44_35 w) (
 jn 6 (fun t1_36 t3_37 t4_38 t5_39 t6_40 t45_41 w =>
 IfB t45_41 (
 drw (fun S_43 w =>
 RunA Tryd.prog (Instr.fieldAt 31 t1_36 2) fun t64_44 =>
 RunS Tryd.prog S_43 (Instr.loadAt 9 t64_44) fun t65_45 =>
 RunA Tryd.prog (bin .add 9 (.const (.string ⟨#[103, 47]⟩)) (.tmp 65) (.string ⟨#[103, 47]⟩) t65_45) fun t66_46 =>
 RunA Tryd.prog (bin .add 9 (.tmp 66) (.const (.string ⟨#[47]⟩)) t66_46 (.string ⟨#[47]⟩)) fun t67_47 =>
 RunA Tryd.prog (Instr.fieldAt 31 t1_36 4) fun t68_48 =>
 RunS Tryd.prog S_43 (Instr.loadAt 9 t68_48) fun t69_49 =>
 RunV Tryd.prog (convert 9 48 t69_49) w fun t70_50 w =>
 S_43 w ∧ (
 CallF Tryd.prog 35 #[t70_50] w fun t71_51 w =>
 S_43 w ∧ (
 RunA Tryd.prog (bin .add 9 (.tmp 67) (.tmp 71) t67_47 t71_51) fun t72_52 =>
 R t72_52 w))) w) (
 jn 6 (fun t1_53 t3_54 t4_55 t5_56 t6_57 t73_58 w =>
 IfB t73_58 (
 RunA Tryd.prog (Instr.fieldAt 31 t1_53 1) fun t83_60 =>
 RunW Tryd.prog (Instr.loadAt 9 t83_60) w fun t84_61 =>
 RunA Tryd.prog (bin .add 9 (.const (.string ⟨#[115, 47]⟩)) (.tmp 84) (.string ⟨#[115, 47]⟩) t84_61) fun t85_62 =>
 RunA Tryd.prog (bin .add 9 (.tmp 85) (.const (.string ⟨#[47]⟩)) t85_62 (.string ⟨#[47]⟩)) fun t86_63 =>
 RunA Tryd.prog (Instr.fieldAt 31 t1_53 2) fun t87_64 =>
 RunW Tryd.prog (Instr.loadAt 9 t87_64) w fun t88_65 =>
 RunA Tryd.prog (bin .add 9 (.tmp 86) (.tmp 88) t86_63 t88_65) fun t89_66 =>
 R t89_66 w) (
 jn 6 (fun t1_67 t3_68 t4_69 t5_70 t6_71 t90_72 w =>
 IfB t90_72 (
 RunA Tryd.prog (Instr.fieldAt 31 t1_67 1) fun t102_74 =>
 RunW Tryd.prog (Instr.loadAt 9 t102_74) w fun t103_75 =>
 RunA Tryd.prog (bin .add 9 (.const (.string ⟨#[100, 47]⟩)) (.tmp 103) (.string ⟨#[100, 47]⟩) t103_75) fun t104_76 =>
 RunA Tryd.prog (bin .add 9 (.tmp 104) (.const (.string ⟨#[47]⟩)) t104_76 (.string ⟨#[47]⟩)) fun t105_77 =>
 RunA Tryd.prog (Instr.fieldAt 31 t1_67 3) fun t106_78 =>
 RunW Tryd.prog (Instr.loadAt 9 t106_78) w fun t107_79 =>
 RunA Tryd.prog (bin .add 9 (.tmp 105) (.tmp 107) t105_77 t107_79) fun t108_80 =>
 R t108_80 w) (
 jn 5 (fun t1_81 t3_82 t5_83 t6_84 t109_85 w =>
 IfB t109_85 (
 RunA Tryd.prog (Instr.fieldAt 31 t1_81 1) fun t122_87 =>
 RunW Tryd.prog (Instr.loadAt 9 t122_87) w fun t123_88 =>
 RunA Tryd.prog (bin .add 9 (.const (.string ⟨#[114, 47]⟩)) (.tmp 123) (.string ⟨#[114, 47]⟩) t123_88) fun t124_89 =>
 RunA Tryd.prog (bin .add 9 (.tmp 124) (.const (.string ⟨#[47]⟩)) t124_89 (.string ⟨#[47]⟩)) fun t125_90 =>
 RunA Tryd.prog (Instr.fieldAt 31 t1_81 2) fun t126_91 =>
 RunW Tryd.prog (Instr.loadAt 9 t126_91) w fun t127_92 =>
 RunA Tryd.prog (bin .add 9 (.tmp 125) (.tmp 127) t125_90 t127_92) fun t128_93 =>
 RunA Tryd.prog (bin .add 9 (.tmp 128) (.const (.string ⟨#[47]⟩)) t128_93 (.string ⟨#[47]⟩)) fun t129_94 =>
 RunA Tryd.prog (bin .add 9 (.tmp 129) (.tmp 130) t129_94 t3_82) fun t131_95 =>
 R t131_95 w) (
 jn 0 (fun w =>
 R (.string ⟨#[]⟩) w) fun j_96 =>
 RunA Tryd.prog (Instr.fieldAt 31 t1_81 0) fun t133_97 =>
 RunW Tryd.prog (Instr.loadAt 3 t133_97) w fun t134_98 =>
 RunW Tryd.prog (bin .eql 3 (.tmp 134) (.const (.int .i64 7)) t134_98 (.int .i64 7)) w fun t135_99 =>
 IfB t135_99 (
 IfB t5_83 (
 IfB t6_84 (
 RunA Tryd.prog (Instr.fieldAt 31 t1_81 1) fun t142_100 =>
 RunW Tryd.prog (Instr.loadAt 9 t142_100) w fun t143_101 =>
 RunA Tryd.prog (bin .add 9 (.const (.string ⟨#[109, 47]⟩)) (.tmp 143) (.string ⟨#[109, 47]⟩) t143_101) fun t144_102 =>
 RunA Tryd.prog (bin .add 9 (.tmp 144) (.const (.string ⟨#[47]⟩)) t144_102 (.string ⟨#[47]⟩)) fun t145_103 =>
 RunA Tryd.prog (Instr.fieldAt 31 t1_81 2) fun t146_104 =>
 RunW Tryd.prog (Instr.loadAt 9 t146_104) w fun t147_105 =>
 RunA Tryd.prog (bin .add 9 (.tmp 145) (.tmp 147) t145_103 t147_105) fun t148_106 =>
 R t148_106 w) (
 j_96 w)) (
 j_96 w)) (
 j_96 w))) fun j_86 =>
 RunA Tryd.prog (Instr.fieldAt 31 t1_67 0) fun t110_107 =>
 RunW Tryd.prog (Instr.loadAt 3 t110_107) w fun t111_108 =>
 RunW Tryd.prog (bin .eql 3 (.tmp 111) (.const (.int .i64 6)) t111_108 (.int .i64 6)) w fun t112_109 =>
 IfB t112_109 (
 IfB t5_70 (
 IfB t6_71 (
 j_86 t1_67 t3_68 t5_70 t6_71 t4_69 w) (
 j_86 t1_67 t3_68 t5_70 t6_71 (.bool false) w)) (
 j_86 t1_67 t3_68 t5_70 t6_71 (.bool false) w)) (
 j_86 t1_67 t3_68 t5_70 t6_71 (.bool false) w))) fun j_73 =>
 RunA Tryd.prog (Instr.fieldAt 31 t1_53 0) fun t91_110 =>
 RunW Tryd.prog (Instr.loadAt 3 t91_110) w fun t92_111 =>
 RunW Tryd.prog (bin .eql 3 (.tmp 92) (.const (.int .i64 5)) t92_111 (.int .i64 5)) w fun t93_112 =>
 IfB t93_112 (
 IfB t5_56 (
 RunA Tryd.prog (Instr.fieldAt 31 t1_53 3) fun t98_113 =>
 RunW Tryd.prog (Instr.loadAt 9 t98_113) w fun t99_114 =>
 CallF Tryd.prog 15 #[t99_114] w fun t100_115 w =>
 j_73 t1_53 t3_54 t4_55 t5_56 t6_57 t100_115 w) (
 j_73 t1_53 t3_54 t4_55 t5_56 t6_57 (.bool false) w)) (
 j_73 t1_53 t3_54 t4_55 t5_56 t6_57 (.bool false) w))) fun j_59 =>
 RunA Tryd.prog (Instr.fieldAt 31 t1_36 0) fun t74_116 =>
 RunW Tryd.prog (Instr.loadAt 3 t74_116) w fun t75_117 =>
 RunW Tryd.prog (bin .eql 3 (.tmp 75) (.const (.int .i64 4)) t75_117 (.int .i64 4)) w fun t76_118 =>
 IfB t76_118 (
 IfB t5_39 (
 j_59 t1_36 t3_37 t4_38 t5_39 t6_40 t6_40 w) (
 j_59 t1_36 t3_37 t4_38 t5_39 t6_40 (.bool false) w)) (
 j_59 t1_36 t3_37 t4_38 t5_39 t6_40 (.bool false) w))) fun j_42 =>
 RunA Tryd.prog (Instr.fieldAt 31 t1_24 0) fun t46_119 =>
 RunW Tryd.prog (Instr.loadAt 3 t46_119) w fun t47_120 =>
 RunW Tryd.prog (bin .eql 3 (.tmp 47) (.const (.int .i64 3)) t47_120 (.int .i64 3)) w fun t48_121 =>
 IfB t48_121 (
 IfB t6_28 (
 RunA Tryd.prog (Instr.fieldAt 31 t1_24 4) fun t53_122 =>
 RunW Tryd.prog (Instr.loadAt 9 t53_122) w fun t54_123 =>
 RunW Tryd.prog (Builtin.len_ #[9] 3 #[t54_123]) w fun t55_124 =>
 RunA Tryd.prog (bin .geq 3 (.tmp 55) (.const (.int .i64 1)) t55_124 (.int .i64 1)) fun t56_125 =>
 IfB t56_125 (
 RunA Tryd.prog (Instr.fieldAt 31 t1_24 4) fun t59_126 =>
 RunW Tryd.prog (Instr.loadAt 9 t59_126) w fun t60_127 =>
 RunW Tryd.prog (Builtin.len_ #[9] 3 #[t60_127]) w fun t61_128 =>
 RunA Tryd.prog (bin .leq 3 (.tmp 61) (.const (.int .i64 500)) t61_128 (.int .i64 500)) fun t62_129 =>
 j_42 t1_24 t3_25 t4_26 t5_27 t6_28 t62_129 w) (
 j_42 t1_24 t3_25 t4_26 t5_27 t6_28 (.bool false) w)) (
 j_42 t1_24 t3_25 t4_26 t5_27 t6_28 (.bool false) w)) (
 j_42 t1_24 t3_25 t4_26 t5_27 t6_28 (.bool false) w))) fun j_30 =>
 RunA Tryd.prog (Instr.fieldAt 31 t1_14 0) fun t30_130 =>
 RunW Tryd.prog (Instr.loadAt 3 t30_130) w fun t31_131 =>
 RunW Tryd.prog (bin .eql 3 (.tmp 31) (.const (.int .i64 2)) t31_131 (.int .i64 2)) w fun t32_132 =>
 IfB t32_132 (
 IfB t6_18 (
 j_30 t1_14 t3_15 t4_16 t5_17 t6_18 t4_16 w) (
 j_30 t1_14 t3_15 t4_16 t5_17 t6_18 (.bool false) w)) (
 j_30 t1_14 t3_15 t4_16 t5_17 t6_18 (.bool false) w))) fun j_20 =>
 RunA Tryd.prog (Instr.fieldAt 31 t1_1 0) fun t20_133 =>
 RunW Tryd.prog (Instr.loadAt 3 t20_133) w fun t21_134 =>
 RunW Tryd.prog (bin .eql 3 (.tmp 21) (.const (.int .i64 1)) t21_134 (.int .i64 1)) w fun t22_135 =>
 IfB t22_135 (
 j_20 t1_1 t11_5 t12_6 t15_12 t18_13 t18_13 w) (
 j_20 t1_1 t11_5 t12_6 t15_12 t18_13 (.bool false) w))) w
theorem sh12_calls {a0 : Value} {w : World} {R : Value → World → Prop} (h : sh12 a0 w R) : CallF Tryd.prog 12 #[a0] w R :=
  calls_of_denF (mk := false) (args := [a0]) (an := (.seq (.ops [1]) (.seq (.ops [1, 3, 4]) (.seq (.draw (.q 0 (.q 1 (.q 3 (.q 4 (.one 2 (.one 5 (.q 6 (.q 7 .fin)))))))) [1, 3, 4, 5, 6]) (.seq (.blk (.seq (.join [1, 3, 4, 5, 6, 19] (.ops [1, 3, 4, 5, 6, 19])) (.cond (.seq (.ops [2]) .leaf) (.seq (.join [1, 3, 4, 5, 6, 29] (.ops [1, 3, 4, 5, 6, 29])) (.cond (.seq (.ops [2]) .leaf) (.seq (.join [1, 3, 4, 5, 6, 45] (.ops [1, 3, 4, 5, 6, 45])) (.cond (.seq (.draw (.q 0 (.q 1 (.q 2 (.q 3 (.q 4 (.q 5 (.one 6 (.one 7 (.q 8 (.q 9 .fin)))))))))) [2]) .leaf) (.seq (.join [1, 3, 4, 5, 6, 73] (.ops [1, 3, 4, 5, 6, 73])) (.cond (.seq (.ops [2]) .leaf) (.seq (.join [1, 3, 4, 5, 6, 90] (.ops [1, 3, 4, 5, 6, 90])) (.cond (.seq (.ops [2]) .leaf) (.seq (.join [1, 3, 5, 6, 109] (.ops [1, 3, 5, 6, 109])) (.cond (.seq (.ops [2]) .leaf) (.join [] (.seq (.ops [1, 132]) (.cond (.seq (.ops [2]) .leaf) .leaf)))))))))))))))) (.seq (.ops [2]) .leaf)))))) (c := Tryd.f12.body.getD .skip) hent Tryd.func12 rfl (Nat.le_of_ble_eq_true (by kernel_rfl))
    (Eq.mp (show sh12 a0 w R = denF Tryd.prog ent false Tryd.f12 (.seq (.ops [1]) (.seq (.ops [1, 3, 4]) (.seq (.draw (.q 0 (.q 1 (.q 3 (.q 4 (.one 2 (.one 5 (.q 6 (.q 7 .fin)))))))) [1, 3, 4, 5, 6]) (.seq (.blk (.seq (.join [1, 3, 4, 5, 6, 19] (.ops [1, 3, 4, 5, 6, 19])) (.cond (.seq (.ops [2]) .leaf) (.seq (.join [1, 3, 4, 5, 6, 29] (.ops [1, 3, 4, 5, 6, 29])) (.cond (.seq (.ops [2]) .leaf) (.seq (.join [1, 3, 4, 5, 6, 45] (.ops [1, 3, 4, 5, 6, 45])) (.cond (.seq (.draw (.q 0 (.q 1 (.q 2 (.q 3 (.q 4 (.q 5 (.one 6 (.one 7 (.q 8 (.q 9 .fin)))))))))) [2]) .leaf) (.seq (.join [1, 3, 4, 5, 6, 73] (.ops [1, 3, 4, 5, 6, 73])) (.cond (.seq (.ops [2]) .leaf) (.seq (.join [1, 3, 4, 5, 6, 90] (.ops [1, 3, 4, 5, 6, 90])) (.cond (.seq (.ops [2]) .leaf) (.seq (.join [1, 3, 5, 6, 109] (.ops [1, 3, 5, 6, 109])) (.cond (.seq (.ops [2]) .leaf) (.join [] (.seq (.ops [1, 132]) (.cond (.seq (.ops [2]) .leaf) .leaf)))))))))))))))) (.seq (.ops [2]) .leaf))))) (Tryd.f12.body.getD .skip) [a0] w R by kernel_rfl) h)

/-! ### 13: handbill/hbllaw14.parts -/
def sh13 (a0 : Value) (w : World) (R : Value → World → Prop) : Prop :=
 RunV Tryd.prog (Instr.box 23 a0) w fun t1_1 w =>
 RunV Tryd.prog (Instr.alloc 31 true (.tuple #[])) w fun t2_2 w =>
 RunA Tryd.prog (Instr.fieldAt 23 t1_1 0) fun t3_3 =>
 RunW Tryd.prog (Instr.loadAt 3 t3_3) w fun t4_4 =>
 RunA Tryd.prog (Instr.fieldAt 23 t1_1 1) fun t5_5 =>
 RunW Tryd.prog (Instr.loadAt 9 t5_5) w fun t6_6 =>
 RunA Tryd.prog (Instr.fieldAt 23 t1_1 2) fun t7_7 =>
 RunW Tryd.prog (Instr.loadAt 9 t7_7) w fun t8_8 =>
 RunA Tryd.prog (Instr.fieldAt 23 t1_1 3) fun t9_9 =>
 RunW Tryd.prog (Instr.loadAt 9 t9_9) w fun t10_10 =>
 RunA Tryd.prog (Instr.fieldAt 23 t1_1 4) fun t11_11 =>
 RunW Tryd.prog (Instr.loadAt 9 t11_11) w fun t12_12 =>
 RunA Tryd.prog (Instr.fieldAt 23 t1_1 5) fun t13_13 =>
 RunW Tryd.prog (Instr.loadAt 3 t13_13) w fun t14_14 =>
 RunV Tryd.prog (Instr.build 31 #[(0, t4_4), (1, t6_6), (2, t8_8), (3, t10_10), (4, t12_12), (5, t14_14)]) w fun t15_15 w =>
 RunU Tryd.prog (Instr.storeAt 31 t2_2 t15_15) w fun w =>
 RunW Tryd.prog (Instr.loadAt 31 t2_2) w fun t2_16 =>
 R t2_16 w
theorem sh13_calls {a0 : Value} {w : World} {R : Value → World → Prop} (h : sh13 a0 w R) : CallF Tryd.prog 13 #[a0] w R :=
  calls_of_denF (mk := false) (args := [a0]) (an := (.seq (.ops [1, 2]) (.seq (.ops [2]) .leaf))) (c := Tryd.f13.body.getD .skip) hent Tryd.func13 rfl (Nat.le_of_ble_eq_true (by kernel_rfl))
    (Eq.mp (show sh13 a0 w R = denF Tryd.prog ent false Tryd.f13 (.seq (.ops [1, 2]) (.seq (.ops [2]) .leaf)) (Tryd.f13.body.getD .skip) [a0] w R by kernel_rfl) h)

/-! ### 14: handbill/keys.Name -/
def sh14 (a0 : Value) (w : World) (R : Value → World → Prop) : Prop :=
 RunW Tryd.prog (Builtin.len_ #[9] 3 #[a0]) w fun t6_1 =>
 lp 1 (fun n_3 t7_2 w =>
 RunA Tryd.prog (bin .lss 3 (.tmp 7) (.tmp 6) t7_2 t6_1) fun t8_4 =>
 IfB t8_4 (
 RunA Tryd.prog (Instr.index 9 a0 t7_2) fun t12_5 =>
 jn 3 (fun t0_6 t6_7 t7_8 w =>
 RunA Tryd.prog (bin .add 3 (.tmp 7) (.const (.int .i64 1)) t7_8 (.int .i64 1)) fun t32_10 =>
 (t0_6 : Value) = a0 ∧ ((t6_7 : Value) = t6_1 ∧ (n_3 t32_10 w))) fun j_9 =>
 RunA Tryd.prog (bin .geq 5 (.tmp 13) (.const (.int .u8 97)) t12_5 (.int .u8 97)) fun t14_11 =>
 IfB t14_11 (
 RunA Tryd.prog (bin .leq 5 (.tmp 16) (.const (.int .u8 122)) t12_5 (.int .u8 122)) fun t17_12 =>
 IfB t17_12 (
 RunA Tryd.prog (Op.unary .not (.bool true)) fun t31_13 =>
 IfB t31_13 (
 R (.bool false) w) (
 j_9 a0 t6_1 t7_2 w)) (
 RunA Tryd.prog (bin .geq 5 (.tmp 20) (.const (.int .u8 48)) t12_5 (.int .u8 48)) fun t21_14 =>
 IfB t21_14 (
 RunA Tryd.prog (bin .leq 5 (.tmp 23) (.const (.int .u8 57)) t12_5 (.int .u8 57)) fun t24_15 =>
 IfB t24_15 (
 RunA Tryd.prog (Op.unary .not (.bool true)) fun t31_16 =>
 IfB t31_16 (
 R (.bool false) w) (
 j_9 a0 t6_1 t7_2 w)) (
 RunW Tryd.prog (bin .eql 5 (.tmp 28) (.const (.int .u8 45)) t12_5 (.int .u8 45)) w fun t29_17 =>
 RunA Tryd.prog (Op.unary .not t29_17) fun t31_18 =>
 IfB t31_18 (
 R (.bool false) w) (
 j_9 a0 t6_1 t7_2 w))) (
 RunW Tryd.prog (bin .eql 5 (.tmp 28) (.const (.int .u8 45)) t12_5 (.int .u8 45)) w fun t29_19 =>
 RunA Tryd.prog (Op.unary .not t29_19) fun t31_20 =>
 IfB t31_20 (
 R (.bool false) w) (
 j_9 a0 t6_1 t7_2 w)))) (
 RunA Tryd.prog (bin .geq 5 (.tmp 20) (.const (.int .u8 48)) t12_5 (.int .u8 48)) fun t21_21 =>
 IfB t21_21 (
 RunA Tryd.prog (bin .leq 5 (.tmp 23) (.const (.int .u8 57)) t12_5 (.int .u8 57)) fun t24_22 =>
 IfB t24_22 (
 RunA Tryd.prog (Op.unary .not (.bool true)) fun t31_23 =>
 IfB t31_23 (
 R (.bool false) w) (
 j_9 a0 t6_1 t7_2 w)) (
 RunW Tryd.prog (bin .eql 5 (.tmp 28) (.const (.int .u8 45)) t12_5 (.int .u8 45)) w fun t29_24 =>
 RunA Tryd.prog (Op.unary .not t29_24) fun t31_25 =>
 IfB t31_25 (
 R (.bool false) w) (
 j_9 a0 t6_1 t7_2 w))) (
 RunW Tryd.prog (bin .eql 5 (.tmp 28) (.const (.int .u8 45)) t12_5 (.int .u8 45)) w fun t29_26 =>
 RunA Tryd.prog (Op.unary .not t29_26) fun t31_27 =>
 IfB t31_27 (
 R (.bool false) w) (
 j_9 a0 t6_1 t7_2 w)))) (
 RunW Tryd.prog (bin .neq 9 (.tmp 33) (.const (.string ⟨#[]⟩)) a0 (.string ⟨#[]⟩)) w fun t34_28 =>
 IfB t34_28 (
 RunW Tryd.prog (Builtin.len_ #[9] 3 #[a0]) w fun t37_29 =>
 RunA Tryd.prog (bin .leq 3 (.tmp 37) (.const (.int .i64 20)) t37_29 (.int .i64 20)) fun t38_30 =>
 R t38_30 w) (
 R (.bool false) w))) [(.int .i64 0)] w
theorem sh14_calls {a0 : Value} {w : World} {R : Value → World → Prop} (h : sh14 a0 w R) : CallF Tryd.prog 14 #[a0] w R :=
  calls_of_denF (mk := false) (args := [a0]) (an := (.seq (.ops [0]) (.seq (.seq (.ops [0, 6, 7]) (.blk (.loop [0, 6] [7] (.seq (.ops [0, 6, 7, 8]) (.seq (.cond .leaf .leaf) (.seq (.blk (.seq (.ops [0, 3, 6, 7]) (.seq (.ops [0, 4, 6, 7]) (.join [0, 6, 7] (.seq (.ops [0, 6, 7, 31]) (.cond (.seq (.ops [2]) .leaf) .leaf)))))) (.ops [0, 6, 7]))))))) (.seq (.ops [2]) .leaf)))) (c := Tryd.f14.body.getD .skip) hent Tryd.func14 rfl (Nat.le_of_ble_eq_true (by kernel_rfl))
    (Eq.mp (show sh14 a0 w R = denF Tryd.prog ent false Tryd.f14 (.seq (.ops [0]) (.seq (.seq (.ops [0, 6, 7]) (.blk (.loop [0, 6] [7] (.seq (.ops [0, 6, 7, 8]) (.seq (.cond .leaf .leaf) (.seq (.blk (.seq (.ops [0, 3, 6, 7]) (.seq (.ops [0, 4, 6, 7]) (.join [0, 6, 7] (.seq (.ops [0, 6, 7, 31]) (.cond (.seq (.ops [2]) .leaf) .leaf)))))) (.ops [0, 6, 7]))))))) (.seq (.ops [2]) .leaf))) (Tryd.f14.body.getD .skip) [a0] w R by kernel_rfl) h)

/-! ### 15: handbill/hblref14.Name -/
def sh15 (a0 : Value) (w : World) (R : Value → World → Prop) : Prop :=
 lp 1 (fun n_2 t3_1 w =>
 RunW Tryd.prog (Builtin.len_ #[9] 3 #[a0]) w fun t7_3 =>
 RunA Tryd.prog (bin .lss 3 (.tmp 5) (.tmp 7) t3_1 t7_3) fun t8_4 =>
 IfB t8_4 (
 RunA Tryd.prog (Instr.index 9 a0 t3_1) fun t13_5 =>
 jn 2 (fun t0_6 t3_7 w =>
 RunA Tryd.prog (bin .add 3 (.tmp 9) (.const (.int .i64 1)) t3_7 (.int .i64 1)) fun t10_9 =>
 (t0_6 : Value) = a0 ∧ (n_2 t10_9 w)) fun j_8 =>
 RunA Tryd.prog (bin .lss 5 (.tmp 14) (.const (.int .u8 97)) t13_5 (.int .u8 97)) fun t15_10 =>
 IfB t15_10 (
 RunA Tryd.prog (bin .lss 5 (.tmp 21) (.const (.int .u8 48)) t13_5 (.int .u8 48)) fun t22_11 =>
 IfB t22_11 (
 RunW Tryd.prog (bin .neq 5 (.tmp 29) (.const (.int .u8 45)) t13_5 (.int .u8 45)) w fun t30_12 =>
 IfB t30_12 (
 R (.bool false) w) (
 j_8 a0 t3_1 w)) (
 RunA Tryd.prog (bin .gtr 5 (.tmp 24) (.const (.int .u8 57)) t13_5 (.int .u8 57)) fun t25_13 =>
 IfB t25_13 (
 RunW Tryd.prog (bin .neq 5 (.tmp 29) (.const (.int .u8 45)) t13_5 (.int .u8 45)) w fun t30_14 =>
 IfB t30_14 (
 R (.bool false) w) (
 j_8 a0 t3_1 w)) (
 j_8 a0 t3_1 w))) (
 RunA Tryd.prog (bin .gtr 5 (.tmp 17) (.const (.int .u8 122)) t13_5 (.int .u8 122)) fun t18_15 =>
 IfB t18_15 (
 RunA Tryd.prog (bin .lss 5 (.tmp 21) (.const (.int .u8 48)) t13_5 (.int .u8 48)) fun t22_16 =>
 IfB t22_16 (
 RunW Tryd.prog (bin .neq 5 (.tmp 29) (.const (.int .u8 45)) t13_5 (.int .u8 45)) w fun t30_17 =>
 IfB t30_17 (
 R (.bool false) w) (
 j_8 a0 t3_1 w)) (
 RunA Tryd.prog (bin .gtr 5 (.tmp 24) (.const (.int .u8 57)) t13_5 (.int .u8 57)) fun t25_18 =>
 IfB t25_18 (
 RunW Tryd.prog (bin .neq 5 (.tmp 29) (.const (.int .u8 45)) t13_5 (.int .u8 45)) w fun t30_19 =>
 IfB t30_19 (
 R (.bool false) w) (
 j_8 a0 t3_1 w)) (
 j_8 a0 t3_1 w))) (
 j_8 a0 t3_1 w))) (
 RunW Tryd.prog (Builtin.len_ #[9] 3 #[a0]) w fun t33_20 =>
 RunA Tryd.prog (bin .geq 3 (.tmp 33) (.const (.int .i64 1)) t33_20 (.int .i64 1)) fun t34_21 =>
 IfB t34_21 (
 RunW Tryd.prog (Builtin.len_ #[9] 3 #[a0]) w fun t37_22 =>
 RunA Tryd.prog (bin .leq 3 (.tmp 37) (.const (.int .i64 20)) t37_22 (.int .i64 20)) fun t38_23 =>
 R t38_23 w) (
 R (.bool false) w))) [(.int .i64 0)] w
theorem sh15_calls {a0 : Value} {w : World} {R : Value → World → Prop} (h : sh15 a0 w R) : CallF Tryd.prog 15 #[a0] w R :=
  calls_of_denF (mk := false) (args := [a0]) (an := (.seq (.ops [0]) (.seq (.seq (.ops [0, 3]) (.blk (.loop [0] [3] (.seq (.seq (.ops [0, 3, 8]) (.cond .leaf .leaf)) (.seq (.blk (.seq (.ops [0, 3, 4]) (.join [0, 3] (.seq (.ops [0, 3, 31]) (.cond (.seq (.ops [2]) .leaf) .leaf))))) (.ops [0, 3])))))) (.seq (.ops [2]) .leaf)))) (c := Tryd.f15.body.getD .skip) hent Tryd.func15 rfl (Nat.le_of_ble_eq_true (by kernel_rfl))
    (Eq.mp (show sh15 a0 w R = denF Tryd.prog ent false Tryd.f15 (.seq (.ops [0]) (.seq (.seq (.ops [0, 3]) (.blk (.loop [0] [3] (.seq (.seq (.ops [0, 3, 8]) (.cond .leaf .leaf)) (.seq (.blk (.seq (.ops [0, 3, 4]) (.join [0, 3] (.seq (.ops [0, 3, 31]) (.cond (.seq (.ops [2]) .leaf) .leaf))))) (.ops [0, 3])))))) (.seq (.ops [2]) .leaf))) (Tryd.f15.body.getD .skip) [a0] w R by kernel_rfl) h)

/-! ### 16: handbill/keys.Subs -/
def sh16 (a0 : Value) (w : World) (R : Value → World → Prop) : Prop :=
 RunV Tryd.prog (Instr.buildSlice 41 1 #[(0, a0)]) w fun t4_1 w =>
 CallF Tryd.prog 29 #[(.string ⟨#[115]⟩), t4_1] w fun t5_2 w =>
 CallF Tryd.prog 28 #[t5_2] w fun t6_3 w =>
 R t6_3 w
theorem sh16_calls {a0 : Value} {w : World} {R : Value → World → Prop} (h : sh16 a0 w R) : CallF Tryd.prog 16 #[a0] w R :=
  calls_of_denF (mk := false) (args := [a0]) (an := (.seq (.ops [0]) (.seq (.ops [2]) .leaf))) (c := Tryd.f16.body.getD .skip) hent Tryd.func16 rfl (Nat.le_of_ble_eq_true (by kernel_rfl))
    (Eq.mp (show sh16 a0 w R = denF Tryd.prog ent false Tryd.f16 (.seq (.ops [0]) (.seq (.ops [2]) .leaf)) (Tryd.f16.body.getD .skip) [a0] w R by kernel_rfl) h)

/-! ### 17: handbill/hblref14.Prefix -/
def sh17 (a0 a1 a2 : Value) (w : World) (R : Value → World → Prop) : Prop :=
 CallF Tryd.prog 15 #[a1] w fun t10_1 w =>
 CallF Tryd.prog 15 #[a2] w fun t12_2 w =>
 jn 0 (fun w =>
 R (.string ⟨#[]⟩) w) fun j_3 =>
 RunW Tryd.prog (bin .eql 3 (.tmp 14) (.const (.int .i64 4)) a0 (.int .i64 4)) w fun t15_4 =>
 IfB t15_4 (
 IfB t10_1 (
 RunA Tryd.prog (bin .add 9 (.const (.string ⟨#[115, 47]⟩)) (.tmp 19) (.string ⟨#[115, 47]⟩) a1) fun t20_5 =>
 RunA Tryd.prog (bin .add 9 (.tmp 20) (.const (.string ⟨#[47]⟩)) t20_5 (.string ⟨#[47]⟩)) fun t21_6 =>
 R t21_6 w) (
 jn 0 (fun w =>
 j_3 w) fun j_7 =>
 RunW Tryd.prog (bin .eql 3 (.tmp 23) (.const (.int .i64 5)) a0 (.int .i64 5)) w fun t24_8 =>
 IfB t24_8 (
 IfB t10_1 (
 RunA Tryd.prog (bin .add 9 (.const (.string ⟨#[100, 47]⟩)) (.tmp 28) (.string ⟨#[100, 47]⟩) a1) fun t29_9 =>
 RunA Tryd.prog (bin .add 9 (.tmp 29) (.const (.string ⟨#[47]⟩)) t29_9 (.string ⟨#[47]⟩)) fun t30_10 =>
 R t30_10 w) (
 jn 0 (fun w =>
 j_7 w) fun j_11 =>
 RunW Tryd.prog (bin .eql 3 (.tmp 32) (.const (.int .i64 2)) a0 (.int .i64 2)) w fun t33_12 =>
 IfB t33_12 (
 IfB t12_2 (
 RunA Tryd.prog (bin .add 9 (.const (.string ⟨#[101, 47]⟩)) (.tmp 37) (.string ⟨#[101, 47]⟩) a2) fun t38_13 =>
 RunA Tryd.prog (bin .add 9 (.tmp 38) (.const (.string ⟨#[47]⟩)) t38_13 (.string ⟨#[47]⟩)) fun t39_14 =>
 R t39_14 w) (
 jn 0 (fun w =>
 j_11 w) fun j_15 =>
 RunW Tryd.prog (bin .eql 3 (.tmp 41) (.const (.int .i64 6)) a0 (.int .i64 6)) w fun t42_16 =>
 IfB t42_16 (
 IfB t10_1 (
 IfB t12_2 (
 RunA Tryd.prog (bin .add 9 (.const (.string ⟨#[114, 47]⟩)) (.tmp 49) (.string ⟨#[114, 47]⟩) a1) fun t50_17 =>
 RunA Tryd.prog (bin .add 9 (.tmp 50) (.const (.string ⟨#[47]⟩)) t50_17 (.string ⟨#[47]⟩)) fun t51_18 =>
 RunA Tryd.prog (bin .add 9 (.tmp 51) (.tmp 52) t51_18 a2) fun t53_19 =>
 RunA Tryd.prog (bin .add 9 (.tmp 53) (.const (.string ⟨#[47]⟩)) t53_19 (.string ⟨#[47]⟩)) fun t54_20 =>
 R t54_20 w) (
 j_15 w)) (
 j_15 w)) (
 j_15 w))) (
 jn 0 (fun w =>
 j_11 w) fun j_21 =>
 RunW Tryd.prog (bin .eql 3 (.tmp 41) (.const (.int .i64 6)) a0 (.int .i64 6)) w fun t42_22 =>
 IfB t42_22 (
 IfB t10_1 (
 IfB t12_2 (
 RunA Tryd.prog (bin .add 9 (.const (.string ⟨#[114, 47]⟩)) (.tmp 49) (.string ⟨#[114, 47]⟩) a1) fun t50_23 =>
 RunA Tryd.prog (bin .add 9 (.tmp 50) (.const (.string ⟨#[47]⟩)) t50_23 (.string ⟨#[47]⟩)) fun t51_24 =>
 RunA Tryd.prog (bin .add 9 (.tmp 51) (.tmp 52) t51_24 a2) fun t53_25 =>
 RunA Tryd.prog (bin .add 9 (.tmp 53) (.const (.string ⟨#[47]⟩)) t53_25 (.string ⟨#[47]⟩)) fun t54_26 =>
 R t54_26 w) (
 j_21 w)) (
 j_21 w)) (
 j_21 w)))) (
 jn 0 (fun w =>
 j_7 w) fun j_27 =>
 RunW Tryd.prog (bin .eql 3 (.tmp 32) (.const (.int .i64 2)) a0 (.int .i64 2)) w fun t33_28 =>
 IfB t33_28 (
 IfB t12_2 (
 RunA Tryd.prog (bin .add 9 (.const (.string ⟨#[101, 47]⟩)) (.tmp 37) (.string ⟨#[101, 47]⟩) a2) fun t38_29 =>
 RunA Tryd.prog (bin .add 9 (.tmp 38) (.const (.string ⟨#[47]⟩)) t38_29 (.string ⟨#[47]⟩)) fun t39_30 =>
 R t39_30 w) (
 jn 0 (fun w =>
 j_27 w) fun j_31 =>
 RunW Tryd.prog (bin .eql 3 (.tmp 41) (.const (.int .i64 6)) a0 (.int .i64 6)) w fun t42_32 =>
 IfB t42_32 (
 IfB t10_1 (
 IfB t12_2 (
 RunA Tryd.prog (bin .add 9 (.const (.string ⟨#[114, 47]⟩)) (.tmp 49) (.string ⟨#[114, 47]⟩) a1) fun t50_33 =>
 RunA Tryd.prog (bin .add 9 (.tmp 50) (.const (.string ⟨#[47]⟩)) t50_33 (.string ⟨#[47]⟩)) fun t51_34 =>
 RunA Tryd.prog (bin .add 9 (.tmp 51) (.tmp 52) t51_34 a2) fun t53_35 =>
 RunA Tryd.prog (bin .add 9 (.tmp 53) (.const (.string ⟨#[47]⟩)) t53_35 (.string ⟨#[47]⟩)) fun t54_36 =>
 R t54_36 w) (
 j_31 w)) (
 j_31 w)) (
 j_31 w))) (
 jn 0 (fun w =>
 j_27 w) fun j_37 =>
 RunW Tryd.prog (bin .eql 3 (.tmp 41) (.const (.int .i64 6)) a0 (.int .i64 6)) w fun t42_38 =>
 IfB t42_38 (
 IfB t10_1 (
 IfB t12_2 (
 RunA Tryd.prog (bin .add 9 (.const (.string ⟨#[114, 47]⟩)) (.tmp 49) (.string ⟨#[114, 47]⟩) a1) fun t50_39 =>
 RunA Tryd.prog (bin .add 9 (.tmp 50) (.const (.string ⟨#[47]⟩)) t50_39 (.string ⟨#[47]⟩)) fun t51_40 =>
 RunA Tryd.prog (bin .add 9 (.tmp 51) (.tmp 52) t51_40 a2) fun t53_41 =>
 RunA Tryd.prog (bin .add 9 (.tmp 53) (.const (.string ⟨#[47]⟩)) t53_41 (.string ⟨#[47]⟩)) fun t54_42 =>
 R t54_42 w) (
 j_37 w)) (
 j_37 w)) (
 j_37 w))))) (
 jn 0 (fun w =>
 j_3 w) fun j_43 =>
 RunW Tryd.prog (bin .eql 3 (.tmp 23) (.const (.int .i64 5)) a0 (.int .i64 5)) w fun t24_44 =>
 IfB t24_44 (
 IfB t10_1 (
 RunA Tryd.prog (bin .add 9 (.const (.string ⟨#[100, 47]⟩)) (.tmp 28) (.string ⟨#[100, 47]⟩) a1) fun t29_45 =>
 RunA Tryd.prog (bin .add 9 (.tmp 29) (.const (.string ⟨#[47]⟩)) t29_45 (.string ⟨#[47]⟩)) fun t30_46 =>
 R t30_46 w) (
 jn 0 (fun w =>
 j_43 w) fun j_47 =>
 RunW Tryd.prog (bin .eql 3 (.tmp 32) (.const (.int .i64 2)) a0 (.int .i64 2)) w fun t33_48 =>
 IfB t33_48 (
 IfB t12_2 (
 RunA Tryd.prog (bin .add 9 (.const (.string ⟨#[101, 47]⟩)) (.tmp 37) (.string ⟨#[101, 47]⟩) a2) fun t38_49 =>
 RunA Tryd.prog (bin .add 9 (.tmp 38) (.const (.string ⟨#[47]⟩)) t38_49 (.string ⟨#[47]⟩)) fun t39_50 =>
 R t39_50 w) (
 jn 0 (fun w =>
 j_47 w) fun j_51 =>
 RunW Tryd.prog (bin .eql 3 (.tmp 41) (.const (.int .i64 6)) a0 (.int .i64 6)) w fun t42_52 =>
 IfB t42_52 (
 IfB t10_1 (
 IfB t12_2 (
 RunA Tryd.prog (bin .add 9 (.const (.string ⟨#[114, 47]⟩)) (.tmp 49) (.string ⟨#[114, 47]⟩) a1) fun t50_53 =>
 RunA Tryd.prog (bin .add 9 (.tmp 50) (.const (.string ⟨#[47]⟩)) t50_53 (.string ⟨#[47]⟩)) fun t51_54 =>
 RunA Tryd.prog (bin .add 9 (.tmp 51) (.tmp 52) t51_54 a2) fun t53_55 =>
 RunA Tryd.prog (bin .add 9 (.tmp 53) (.const (.string ⟨#[47]⟩)) t53_55 (.string ⟨#[47]⟩)) fun t54_56 =>
 R t54_56 w) (
 j_51 w)) (
 j_51 w)) (
 j_51 w))) (
 jn 0 (fun w =>
 j_47 w) fun j_57 =>
 RunW Tryd.prog (bin .eql 3 (.tmp 41) (.const (.int .i64 6)) a0 (.int .i64 6)) w fun t42_58 =>
 IfB t42_58 (
 IfB t10_1 (
 IfB t12_2 (
 RunA Tryd.prog (bin .add 9 (.const (.string ⟨#[114, 47]⟩)) (.tmp 49) (.string ⟨#[114, 47]⟩) a1) fun t50_59 =>
 RunA Tryd.prog (bin .add 9 (.tmp 50) (.const (.string ⟨#[47]⟩)) t50_59 (.string ⟨#[47]⟩)) fun t51_60 =>
 RunA Tryd.prog (bin .add 9 (.tmp 51) (.tmp 52) t51_60 a2) fun t53_61 =>
 RunA Tryd.prog (bin .add 9 (.tmp 53) (.const (.string ⟨#[47]⟩)) t53_61 (.string ⟨#[47]⟩)) fun t54_62 =>
 R t54_62 w) (
 j_57 w)) (
 j_57 w)) (
 j_57 w)))) (
 jn 0 (fun w =>
 j_43 w) fun j_63 =>
 RunW Tryd.prog (bin .eql 3 (.tmp 32) (.const (.int .i64 2)) a0 (.int .i64 2)) w fun t33_64 =>
 IfB t33_64 (
 IfB t12_2 (
 RunA Tryd.prog (bin .add 9 (.const (.string ⟨#[101, 47]⟩)) (.tmp 37) (.string ⟨#[101, 47]⟩) a2) fun t38_65 =>
 RunA Tryd.prog (bin .add 9 (.tmp 38) (.const (.string ⟨#[47]⟩)) t38_65 (.string ⟨#[47]⟩)) fun t39_66 =>
 R t39_66 w) (
 jn 0 (fun w =>
 j_63 w) fun j_67 =>
 RunW Tryd.prog (bin .eql 3 (.tmp 41) (.const (.int .i64 6)) a0 (.int .i64 6)) w fun t42_68 =>
 IfB t42_68 (
 IfB t10_1 (
 IfB t12_2 (
 RunA Tryd.prog (bin .add 9 (.const (.string ⟨#[114, 47]⟩)) (.tmp 49) (.string ⟨#[114, 47]⟩) a1) fun t50_69 =>
 RunA Tryd.prog (bin .add 9 (.tmp 50) (.const (.string ⟨#[47]⟩)) t50_69 (.string ⟨#[47]⟩)) fun t51_70 =>
 RunA Tryd.prog (bin .add 9 (.tmp 51) (.tmp 52) t51_70 a2) fun t53_71 =>
 RunA Tryd.prog (bin .add 9 (.tmp 53) (.const (.string ⟨#[47]⟩)) t53_71 (.string ⟨#[47]⟩)) fun t54_72 =>
 R t54_72 w) (
 j_67 w)) (
 j_67 w)) (
 j_67 w))) (
 jn 0 (fun w =>
 j_63 w) fun j_73 =>
 RunW Tryd.prog (bin .eql 3 (.tmp 41) (.const (.int .i64 6)) a0 (.int .i64 6)) w fun t42_74 =>
 IfB t42_74 (
 IfB t10_1 (
 IfB t12_2 (
 RunA Tryd.prog (bin .add 9 (.const (.string ⟨#[114, 47]⟩)) (.tmp 49) (.string ⟨#[114, 47]⟩) a1) fun t50_75 =>
 RunA Tryd.prog (bin .add 9 (.tmp 50) (.const (.string ⟨#[47]⟩)) t50_75 (.string ⟨#[47]⟩)) fun t51_76 =>
 RunA Tryd.prog (bin .add 9 (.tmp 51) (.tmp 52) t51_76 a2) fun t53_77 =>
 RunA Tryd.prog (bin .add 9 (.tmp 53) (.const (.string ⟨#[47]⟩)) t53_77 (.string ⟨#[47]⟩)) fun t54_78 =>
 R t54_78 w) (
 j_73 w)) (
 j_73 w)) (
 j_73 w))))
theorem sh17_calls {a0 a1 a2 : Value} {w : World} {R : Value → World → Prop} (h : sh17 a0 a1 a2 w R) : CallF Tryd.prog 17 #[a0, a1, a2] w R :=
  calls_of_denF (mk := false) (args := [a0, a1, a2]) (an := (.seq (.ops [0, 1, 2]) (.seq (.ops [0, 1, 2, 7, 8]) (.seq (.blk (.join [] (.seq (.ops [0, 1, 2, 7, 8, 13]) (.cond (.seq (.ops [6]) .leaf) (.join [] (.seq (.ops [0, 1, 2, 7, 8, 22]) (.cond (.seq (.ops [6]) .leaf) (.join [] (.seq (.ops [0, 1, 2, 7, 8, 31]) (.cond (.seq (.ops [6]) .leaf) (.join [] (.seq (.ops [1, 2, 40]) (.cond (.seq (.ops [6]) .leaf) .leaf))))))))))))) (.seq (.ops [6]) .leaf))))) (c := Tryd.f17.body.getD .skip) hent Tryd.func17 rfl (Nat.le_of_ble_eq_true (by kernel_rfl))
    (Eq.mp (show sh17 a0 a1 a2 w R = denF Tryd.prog ent false Tryd.f17 (.seq (.ops [0, 1, 2]) (.seq (.ops [0, 1, 2, 7, 8]) (.seq (.blk (.join [] (.seq (.ops [0, 1, 2, 7, 8, 13]) (.cond (.seq (.ops [6]) .leaf) (.join [] (.seq (.ops [0, 1, 2, 7, 8, 22]) (.cond (.seq (.ops [6]) .leaf) (.join [] (.seq (.ops [0, 1, 2, 7, 8, 31]) (.cond (.seq (.ops [6]) .leaf) (.join [] (.seq (.ops [1, 2, 40]) (.cond (.seq (.ops [6]) .leaf) .leaf))))))))))))) (.seq (.ops [6]) .leaf)))) (Tryd.f17.body.getD .skip) [a0, a1, a2] w R by kernel_rfl) h)

/-! ### 18: handbill/keys.Folders -/
def sh18 (a0 : Value) (w : World) (R : Value → World → Prop) : Prop :=
 RunV Tryd.prog (Instr.buildSlice 41 1 #[(0, a0)]) w fun t4_1 w =>
 CallF Tryd.prog 29 #[(.string ⟨#[100]⟩), t4_1] w fun t5_2 w =>
 CallF Tryd.prog 28 #[t5_2] w fun t6_3 w =>
 R t6_3 w
theorem sh18_calls {a0 : Value} {w : World} {R : Value → World → Prop} (h : sh18 a0 w R) : CallF Tryd.prog 18 #[a0] w R :=
  calls_of_denF (mk := false) (args := [a0]) (an := (.seq (.ops [0]) (.seq (.ops [2]) .leaf))) (c := Tryd.f18.body.getD .skip) hent Tryd.func18 rfl (Nat.le_of_ble_eq_true (by kernel_rfl))
    (Eq.mp (show sh18 a0 w R = denF Tryd.prog ent false Tryd.f18 (.seq (.ops [0]) (.seq (.ops [2]) .leaf)) (Tryd.f18.body.getD .skip) [a0] w R by kernel_rfl) h)

/-! ### 19: handbill/keys.States -/
def sh19 (a0 a1 : Value) (w : World) (R : Value → World → Prop) : Prop :=
 RunV Tryd.prog (Instr.buildSlice 41 2 #[(0, a0), (1, a1)]) w fun t7_1 w =>
 CallF Tryd.prog 29 #[(.string ⟨#[114]⟩), t7_1] w fun t8_2 w =>
 CallF Tryd.prog 28 #[t8_2] w fun t9_3 w =>
 R t9_3 w
theorem sh19_calls {a0 a1 : Value} {w : World} {R : Value → World → Prop} (h : sh19 a0 a1 w R) : CallF Tryd.prog 19 #[a0, a1] w R :=
  calls_of_denF (mk := false) (args := [a0, a1]) (an := (.seq (.ops [0, 1]) (.seq (.ops [4]) .leaf))) (c := Tryd.f19.body.getD .skip) hent Tryd.func19 rfl (Nat.le_of_ble_eq_true (by kernel_rfl))
    (Eq.mp (show sh19 a0 a1 w R = denF Tryd.prog ent false Tryd.f19 (.seq (.ops [0, 1]) (.seq (.ops [4]) .leaf)) (Tryd.f19.body.getD .skip) [a0, a1] w R by kernel_rfl) h)

/-! ### 20: handbill/keys.Sub -/
def sh20 (a0 a1 : Value) (w : World) (R : Value → World → Prop) : Prop :=
 RunV Tryd.prog (Instr.buildSlice 41 2 #[(0, a0), (1, a1)]) w fun t7_1 w =>
 CallF Tryd.prog 29 #[(.string ⟨#[115]⟩), t7_1] w fun t8_2 w =>
 R t8_2 w
theorem sh20_calls {a0 a1 : Value} {w : World} {R : Value → World → Prop} (h : sh20 a0 a1 w R) : CallF Tryd.prog 20 #[a0, a1] w R :=
  calls_of_denF (mk := false) (args := [a0, a1]) (an := (.seq (.ops [0, 1]) (.seq (.ops [4]) .leaf))) (c := Tryd.f20.body.getD .skip) hent Tryd.func20 rfl (Nat.le_of_ble_eq_true (by kernel_rfl))
    (Eq.mp (show sh20 a0 a1 w R = denF Tryd.prog ent false Tryd.f20 (.seq (.ops [0, 1]) (.seq (.ops [4]) .leaf)) (Tryd.f20.body.getD .skip) [a0, a1] w R by kernel_rfl) h)

/-! ### 21: handbill/keys.State -/
def sh21 (a0 a1 a2 : Value) (w : World) (R : Value → World → Prop) : Prop :=
 RunV Tryd.prog (Instr.buildSlice 41 2 #[(0, a0), (1, a1)]) w fun t9_1 w =>
 CallF Tryd.prog 29 #[(.string ⟨#[114]⟩), t9_1] w fun t10_2 w =>
 CallF Tryd.prog 30 #[t10_2, a2] w fun t12_3 w =>
 R t12_3 w
theorem sh21_calls {a0 a1 a2 : Value} {w : World} {R : Value → World → Prop} (h : sh21 a0 a1 a2 w R) : CallF Tryd.prog 21 #[a0, a1, a2] w R :=
  calls_of_denF (mk := false) (args := [a0, a1, a2]) (an := (.seq (.ops [0, 1, 2]) (.seq (.ops [6]) .leaf))) (c := Tryd.f21.body.getD .skip) hent Tryd.func21 rfl (Nat.le_of_ble_eq_true (by kernel_rfl))
    (Eq.mp (show sh21 a0 a1 a2 w R = denF Tryd.prog ent false Tryd.f21 (.seq (.ops [0, 1, 2]) (.seq (.ops [6]) .leaf)) (Tryd.f21.body.getD .skip) [a0, a1, a2] w R by kernel_rfl) h)

/-! ### 22: handbill/keys.Folder -/
def sh22 (a0 a1 : Value) (w : World) (R : Value → World → Prop) : Prop :=
 RunV Tryd.prog (Instr.buildSlice 41 2 #[(0, a0), (1, a1)]) w fun t7_1 w =>
 CallF Tryd.prog 29 #[(.string ⟨#[100]⟩), t7_1] w fun t8_2 w =>
 R t8_2 w
theorem sh22_calls {a0 a1 : Value} {w : World} {R : Value → World → Prop} (h : sh22 a0 a1 w R) : CallF Tryd.prog 22 #[a0, a1] w R :=
  calls_of_denF (mk := false) (args := [a0, a1]) (an := (.seq (.ops [0, 1]) (.seq (.ops [4]) .leaf))) (c := Tryd.f22.body.getD .skip) hent Tryd.func22 rfl (Nat.le_of_ble_eq_true (by kernel_rfl))
    (Eq.mp (show sh22 a0 a1 w R = denF Tryd.prog ent false Tryd.f22 (.seq (.ops [0, 1]) (.seq (.ops [4]) .leaf)) (Tryd.f22.body.getD .skip) [a0, a1] w R by kernel_rfl) h)

/-! ### 23: handbill/keys.Feed -/
def sh23 (a0 : Value) (w : World) (R : Value → World → Prop) : Prop :=
 RunV Tryd.prog (Instr.buildSlice 41 1 #[(0, a0)]) w fun t4_1 w =>
 CallF Tryd.prog 29 #[(.string ⟨#[102]⟩), t4_1] w fun t5_2 w =>
 R t5_2 w
theorem sh23_calls {a0 : Value} {w : World} {R : Value → World → Prop} (h : sh23 a0 w R) : CallF Tryd.prog 23 #[a0] w R :=
  calls_of_denF (mk := false) (args := [a0]) (an := (.seq (.ops [0]) (.seq (.ops [2]) .leaf))) (c := Tryd.f23.body.getD .skip) hent Tryd.func23 rfl (Nat.le_of_ble_eq_true (by kernel_rfl))
    (Eq.mp (show sh23 a0 w R = denF Tryd.prog ent false Tryd.f23 (.seq (.ops [0]) (.seq (.ops [2]) .leaf)) (Tryd.f23.body.getD .skip) [a0] w R by kernel_rfl) h)

/-! ### 24: handbill/keys.Guid -/
def sh24 (a0 a1 : Value) (w : World) (R : Value → World → Prop) : Prop :=
 RunV Tryd.prog (Instr.buildSlice 41 1 #[(0, a0)]) w fun t7_1 w =>
 CallF Tryd.prog 29 #[(.string ⟨#[103]⟩), t7_1] w fun t8_2 w =>
 RunW Tryd.prog (bin .eql 9 (.tmp 9) (.const (.string ⟨#[]⟩)) t8_2 (.string ⟨#[]⟩)) w fun t10_3 =>
 IfB t10_3 (
 R (.string ⟨#[]⟩) w) (
 RunW Tryd.prog (bin .eql 9 (.tmp 12) (.const (.string ⟨#[]⟩)) a1 (.string ⟨#[]⟩)) w fun t13_4 =>
 IfB t13_4 (
 R (.string ⟨#[]⟩) w) (
 RunW Tryd.prog (Builtin.len_ #[9] 3 #[a1]) w fun t17_5 =>
 RunA Tryd.prog (bin .gtr 3 (.tmp 17) (.const (.int .i64 500)) t17_5 (.int .i64 500)) fun t18_6 =>
 IfB t18_6 (
 R (.string ⟨#[]⟩) w) (
 RunA Tryd.prog (bin .add 9 (.tmp 20) (.const (.string ⟨#[47]⟩)) t8_2 (.string ⟨#[47]⟩)) fun t21_7 =>
 RunV Tryd.prog (convert 9 48 a1) w fun t23_8 w =>
 CallF Tryd.prog 36 #[t23_8] w fun t24_9 w =>
 RunA Tryd.prog (bin .add 9 (.tmp 21) (.tmp 24) t21_7 t24_9) fun t25_10 =>
 R t25_10 w)))
theorem sh24_calls {a0 a1 : Value} {w : World} {R : Value → World → Prop} (h : sh24 a0 a1 w R) : CallF Tryd.prog 24 #[a0, a1] w R :=
  calls_of_denF (mk := false) (args := [a0, a1]) (an := (.seq (.ops [0, 1]) (.seq (.ops [1, 5]) (.seq (.seq (.ops [1, 5, 19]) (.cond (.seq (.ops [4]) .leaf) .leaf)) (.seq (.ops [4]) .leaf))))) (c := Tryd.f24.body.getD .skip) hent Tryd.func24 rfl (Nat.le_of_ble_eq_true (by kernel_rfl))
    (Eq.mp (show sh24 a0 a1 w R = denF Tryd.prog ent false Tryd.f24 (.seq (.ops [0, 1]) (.seq (.ops [1, 5]) (.seq (.seq (.ops [1, 5, 19]) (.cond (.seq (.ops [4]) .leaf) .leaf)) (.seq (.ops [4]) .leaf)))) (Tryd.f24.body.getD .skip) [a0, a1] w R by kernel_rfl) h)

/-! ### 25: handbill/keys.Marks -/
def sh25 (a0 a1 : Value) (w : World) (R : Value → World → Prop) : Prop :=
 RunV Tryd.prog (Instr.buildSlice 41 2 #[(0, a0), (1, a1)]) w fun t7_1 w =>
 CallF Tryd.prog 29 #[(.string ⟨#[109]⟩), t7_1] w fun t8_2 w =>
 R t8_2 w
theorem sh25_calls {a0 a1 : Value} {w : World} {R : Value → World → Prop} (h : sh25 a0 a1 w R) : CallF Tryd.prog 25 #[a0, a1] w R :=
  calls_of_denF (mk := false) (args := [a0, a1]) (an := (.seq (.ops [0, 1]) (.seq (.ops [4]) .leaf))) (c := Tryd.f25.body.getD .skip) hent Tryd.func25 rfl (Nat.le_of_ble_eq_true (by kernel_rfl))
    (Eq.mp (show sh25 a0 a1 w R = denF Tryd.prog ent false Tryd.f25 (.seq (.ops [0, 1]) (.seq (.ops [4]) .leaf)) (Tryd.f25.body.getD .skip) [a0, a1] w R by kernel_rfl) h)

/-! ### 26: handbill/keys.split -/
def sh26 (a0 : Value) (w : World) (R : Value → World → Prop) : Prop :=
 RunV Tryd.prog (Instr.alloc 23 true (.tuple #[])) w fun t2_1 w =>
 CallF Tryd.prog 37 #[a0, (.string ⟨#[47]⟩)] w fun t11_2 w =>
 RunV Tryd.prog (Instr.buildSlice 41 4 #[(0, (.string ⟨#[]⟩)), (1, (.string ⟨#[]⟩)), (2, (.string ⟨#[]⟩)), (3, (.string ⟨#[]⟩))]) w fun t12_3 w =>
 RunV Tryd.prog (Builtin.append_ #[41, 41] 41 #[t11_2, t12_3]) w fun t13_4 w =>
 RunA Tryd.prog (Instr.indexAt 41 t13_4 (.int .i64 2)) fun t16_5 =>
 RunW Tryd.prog (Instr.loadAt 9 t16_5) w fun t17_6 =>
 CallF Tryd.prog 38 #[t17_6] w fun t18_7 w =>
 RunA Tryd.prog (Instr.extract t18_7 0) fun t19_8 =>
 RunA Tryd.prog (Instr.extract t18_7 1) fun t20_9 =>
 RunA Tryd.prog (Instr.indexAt 41 t13_4 (.int .i64 3)) fun t23_10 =>
 RunW Tryd.prog (Instr.loadAt 9 t23_10) w fun t24_11 =>
 CallF Tryd.prog 38 #[t24_11] w fun t25_12 w =>
 RunA Tryd.prog (Instr.extract t25_12 0) fun t26_13 =>
 RunA Tryd.prog (Instr.extract t25_12 1) fun t27_14 =>
 RunA Tryd.prog (Instr.indexAt 41 t13_4 (.int .i64 2)) fun t30_15 =>
 RunW Tryd.prog (Instr.loadAt 9 t30_15) w fun t31_16 =>
 CallF Tryd.prog 39 #[t31_16] w fun t32_17 w =>
 RunA Tryd.prog (Instr.extract t32_17 0) fun t33_18 =>
 RunA Tryd.prog (Instr.extract t32_17 1) fun t34_19 =>
 RunA Tryd.prog (Instr.indexAt 41 t13_4 (.int .i64 0)) fun t36_20 =>
 RunW Tryd.prog (Instr.loadAt 9 t36_20) w fun t37_21 =>
 RunW Tryd.prog (bin .eql 9 (.tmp 37) (.const (.string ⟨#[102]⟩)) t37_21 (.string ⟨#[102]⟩)) w fun t39_22 =>
 IfB t39_22 (
 RunA Tryd.prog (Instr.indexAt 41 t13_4 (.int .i64 1)) fun t41_23 =>
 RunW Tryd.prog (Instr.loadAt 9 t41_23) w fun t42_24 =>
 RunV Tryd.prog (Instr.build 23 #[(0, (.int .i64 1)), (2, t42_24)]) w fun t43_25 w =>
 RunU Tryd.prog (Instr.storeAt 23 t2_1 t43_25) w fun w =>
 RunW Tryd.prog (Instr.loadAt 23 t2_1) w fun t2_26 =>
 R t2_26 w) (
 RunW Tryd.prog (bin .eql 9 (.tmp 37) (.const (.string ⟨#[101]⟩)) t37_21 (.string ⟨#[101]⟩)) w fun t45_27 =>
 IfB t45_27 (
 RunA Tryd.prog (Instr.indexAt 41 t13_4 (.int .i64 1)) fun t47_28 =>
 RunW Tryd.prog (Instr.loadAt 9 t47_28) w fun t48_29 =>
 RunV Tryd.prog (Instr.build 23 #[(0, (.int .i64 2)), (2, t48_29), (5, t19_8)]) w fun t50_30 w =>
 RunU Tryd.prog (Instr.storeAt 23 t2_1 t50_30) w fun w =>
 RunW Tryd.prog (Instr.loadAt 23 t2_1) w fun t2_31 =>
 R t2_31 w) (
 RunW Tryd.prog (bin .eql 9 (.tmp 37) (.const (.string ⟨#[103]⟩)) t37_21 (.string ⟨#[103]⟩)) w fun t52_32 =>
 IfB t52_32 (
 drw (fun S_33 w =>
 RunA Tryd.prog (Instr.indexAt 41 t13_4 (.int .i64 1)) fun t54_34 =>
 RunS Tryd.prog S_33 (Instr.loadAt 9 t54_34) fun t55_35 =>
 RunS Tryd.prog S_33 (convert 48 9 t33_18) fun t57_36 =>
 RunV Tryd.prog (Instr.build 23 #[(0, (.int .i64 3)), (2, t55_35), (4, t57_36)]) w fun t58_37 w =>
 RunU Tryd.prog (Instr.storeAt 23 t2_1 t58_37) w fun w =>
 RunW Tryd.prog (Instr.loadAt 23 t2_1) w fun t2_38 =>
 R t2_38 w) w) (
 RunW Tryd.prog (bin .eql 9 (.tmp 37) (.const (.string ⟨#[115]⟩)) t37_21 (.string ⟨#[115]⟩)) w fun t60_39 =>
 IfB t60_39 (
 drw (fun S_40 w =>
 RunA Tryd.prog (Instr.indexAt 41 t13_4 (.int .i64 1)) fun t62_41 =>
 RunS Tryd.prog S_40 (Instr.loadAt 9 t62_41) fun t63_42 =>
 RunA Tryd.prog (Instr.indexAt 41 t13_4 (.int .i64 2)) fun t65_43 =>
 RunS Tryd.prog S_40 (Instr.loadAt 9 t65_43) fun t66_44 =>
 RunV Tryd.prog (Instr.build 23 #[(0, (.int .i64 4)), (1, t63_42), (2, t66_44)]) w fun t67_45 w =>
 RunU Tryd.prog (Instr.storeAt 23 t2_1 t67_45) w fun w =>
 RunW Tryd.prog (Instr.loadAt 23 t2_1) w fun t2_46 =>
 R t2_46 w) w) (
 RunW Tryd.prog (bin .eql 9 (.tmp 37) (.const (.string ⟨#[100]⟩)) t37_21 (.string ⟨#[100]⟩)) w fun t69_47 =>
 IfB t69_47 (
 drw (fun S_48 w =>
 RunA Tryd.prog (Instr.indexAt 41 t13_4 (.int .i64 1)) fun t71_49 =>
 RunS Tryd.prog S_48 (Instr.loadAt 9 t71_49) fun t72_50 =>
 RunA Tryd.prog (Instr.indexAt 41 t13_4 (.int .i64 2)) fun t74_51 =>
 RunS Tryd.prog S_48 (Instr.loadAt 9 t74_51) fun t75_52 =>
 RunV Tryd.prog (Instr.build 23 #[(0, (.int .i64 5)), (1, t72_50), (3, t75_52)]) w fun t76_53 w =>
 RunU Tryd.prog (Instr.storeAt 23 t2_1 t76_53) w fun w =>
 RunW Tryd.prog (Instr.loadAt 23 t2_1) w fun t2_54 =>
 R t2_54 w) w) (
 RunW Tryd.prog (bin .eql 9 (.tmp 37) (.const (.string ⟨#[114]⟩)) t37_21 (.string ⟨#[114]⟩)) w fun t78_55 =>
 IfB t78_55 (
 drw (fun S_56 w =>
 RunA Tryd.prog (Instr.indexAt 41 t13_4 (.int .i64 1)) fun t80_57 =>
 RunS Tryd.prog S_56 (Instr.loadAt 9 t80_57) fun t81_58 =>
 RunA Tryd.prog (Instr.indexAt 41 t13_4 (.int .i64 2)) fun t83_59 =>
 RunS Tryd.prog S_56 (Instr.loadAt 9 t83_59) fun t84_60 =>
 RunV Tryd.prog (Instr.build 23 #[(0, (.int .i64 6)), (1, t81_58), (2, t84_60), (5, t26_13)]) w fun t86_61 w =>
 RunU Tryd.prog (Instr.storeAt 23 t2_1 t86_61) w fun w =>
 RunW Tryd.prog (Instr.loadAt 23 t2_1) w fun t2_62 =>
 R t2_62 w) w) (
 RunW Tryd.prog (bin .eql 9 (.tmp 37) (.const (.string ⟨#[109]⟩)) t37_21 (.string ⟨#[109]⟩)) w fun t88_63 =>
 IfB t88_63 (
 drw (fun S_64 w =>
 RunA Tryd.prog (Instr.indexAt 41 t13_4 (.int .i64 1)) fun t90_65 =>
 RunS Tryd.prog S_64 (Instr.loadAt 9 t90_65) fun t91_66 =>
 RunA Tryd.prog (Instr.indexAt 41 t13_4 (.int .i64 2)) fun t93_67 =>
 RunS Tryd.prog S_64 (Instr.loadAt 9 t93_67) fun t94_68 =>
 RunV Tryd.prog (Instr.build 23 #[(0, (.int .i64 7)), (1, t91_66), (2, t94_68)]) w fun t95_69 w =>
 RunU Tryd.prog (Instr.storeAt 23 t2_1 t95_69) w fun w =>
 RunW Tryd.prog (Instr.loadAt 23 t2_1) w fun t2_70 =>
 R t2_70 w) w) (
 RunV Tryd.prog (Instr.build 23 #[]) w fun t96_71 w =>
 RunU Tryd.prog (Instr.storeAt 23 t2_1 t96_71) w fun w =>
 RunW Tryd.prog (Instr.loadAt 23 t2_1) w fun t2_72 =>
 R t2_72 w)))))))
theorem sh26_calls {a0 : Value} {w : World} {R : Value → World → Prop} (h : sh26 a0 w R) : CallF Tryd.prog 26 #[a0] w R :=
  calls_of_denF (mk := false) (args := [a0]) (an := (.seq (.ops [0, 2]) (.seq (.ops [2, 3]) (.seq (.ops [2, 3, 4]) (.seq (.ops [2, 3, 4, 6]) (.seq (.ops [2, 3, 4, 6, 8]) (.seq (.seq (.ops [2, 3, 4, 6, 8, 37]) (.blk (.seq (.ops [2, 3, 4, 6, 8, 37, 38]) (.cond (.seq (.ops [2]) .leaf) (.seq (.ops [2, 3, 4, 6, 8, 37, 44]) (.cond (.seq (.ops [2]) .leaf) (.seq (.ops [2, 3, 6, 8, 37, 51]) (.cond (.seq (.draw (.q 0 (.q 1 (.q 2 (.q 3 (.q 4 (.one 5 (.one 6 .fin))))))) [2]) .leaf) (.seq (.ops [2, 3, 6, 37, 59]) (.cond (.seq (.draw (.q 0 (.q 1 (.q 2 (.q 3 (.q 4 (.q 5 (.one 6 (.one 7 .fin)))))))) [2]) .leaf) (.seq (.ops [2, 3, 6, 37, 68]) (.cond (.seq (.draw (.q 0 (.q 1 (.q 2 (.q 3 (.q 4 (.q 5 (.one 6 (.one 7 .fin)))))))) [2]) .leaf) (.seq (.ops [2, 3, 6, 37, 77]) (.cond (.seq (.draw (.q 0 (.q 1 (.q 2 (.q 3 (.q 4 (.q 5 (.q 6 (.one 7 (.one 8 .fin))))))))) [2]) .leaf) (.seq (.ops [2, 3, 87]) (.cond (.seq (.draw (.q 0 (.q 1 (.q 2 (.q 3 (.q 4 (.q 5 (.one 6 (.one 7 .fin)))))))) [2]) .leaf) .leaf)))))))))))))))) (.seq (.ops [2]) .leaf)))))))) (c := Tryd.f26.body.getD .skip) hent Tryd.func26 rfl (Nat.le_of_ble_eq_true (by kernel_rfl))
    (Eq.mp (show sh26 a0 w R = denF Tryd.prog ent false Tryd.f26 (.seq (.ops [0, 2]) (.seq (.ops [2, 3]) (.seq (.ops [2, 3, 4]) (.seq (.ops [2, 3, 4, 6]) (.seq (.ops [2, 3, 4, 6, 8]) (.seq (.seq (.ops [2, 3, 4, 6, 8, 37]) (.blk (.seq (.ops [2, 3, 4, 6, 8, 37, 38]) (.cond (.seq (.ops [2]) .leaf) (.seq (.ops [2, 3, 4, 6, 8, 37, 44]) (.cond (.seq (.ops [2]) .leaf) (.seq (.ops [2, 3, 6, 8, 37, 51]) (.cond (.seq (.draw (.q 0 (.q 1 (.q 2 (.q 3 (.q 4 (.one 5 (.one 6 .fin))))))) [2]) .leaf) (.seq (.ops [2, 3, 6, 37, 59]) (.cond (.seq (.draw (.q 0 (.q 1 (.q 2 (.q 3 (.q 4 (.q 5 (.one 6 (.one 7 .fin)))))))) [2]) .leaf) (.seq (.ops [2, 3, 6, 37, 68]) (.cond (.seq (.draw (.q 0 (.q 1 (.q 2 (.q 3 (.q 4 (.q 5 (.one 6 (.one 7 .fin)))))))) [2]) .leaf) (.seq (.ops [2, 3, 6, 37, 77]) (.cond (.seq (.draw (.q 0 (.q 1 (.q 2 (.q 3 (.q 4 (.q 5 (.q 6 (.one 7 (.one 8 .fin))))))))) [2]) .leaf) (.seq (.ops [2, 3, 87]) (.cond (.seq (.draw (.q 0 (.q 1 (.q 2 (.q 3 (.q 4 (.q 5 (.one 6 (.one 7 .fin)))))))) [2]) .leaf) .leaf)))))))))))))))) (.seq (.ops [2]) .leaf))))))) (Tryd.f26.body.getD .skip) [a0] w R by kernel_rfl) h)

/-! ### 27: (handbill/keys.Parts).key -/
def sh27 (a0 : Value) (w : World) (R : Value → World → Prop) : Prop :=
 RunV Tryd.prog (Instr.box 23 a0) w fun t1_1 w =>
 RunA Tryd.prog (Instr.fieldAt 23 t1_1 0) fun t3_2 =>
 RunW Tryd.prog (Instr.loadAt 3 t3_2) w fun t4_3 =>
 RunW Tryd.prog (bin .eql 3 (.tmp 4) (.const (.int .i64 1)) t4_3 (.int .i64 1)) w fun t6_4 =>
 IfB t6_4 (
 RunA Tryd.prog (Instr.fieldAt 23 t1_1 2) fun t7_5 =>
 RunW Tryd.prog (Instr.loadAt 9 t7_5) w fun t8_6 =>
 CallF Tryd.prog 23 #[t8_6] w fun t9_7 w =>
 R t9_7 w) (
 RunW Tryd.prog (bin .eql 3 (.tmp 4) (.const (.int .i64 2)) t4_3 (.int .i64 2)) w fun t11_8 =>
 IfB t11_8 (
 RunA Tryd.prog (Instr.fieldAt 23 t1_1 2) fun t12_9 =>
 RunW Tryd.prog (Instr.loadAt 9 t12_9) w fun t13_10 =>
 RunA Tryd.prog (Instr.fieldAt 23 t1_1 5) fun t14_11 =>
 RunW Tryd.prog (Instr.loadAt 3 t14_11) w fun t15_12 =>
 CallF Tryd.prog 10 #[t13_10, t15_12] w fun t16_13 w =>
 R t16_13 w) (
 RunW Tryd.prog (bin .eql 3 (.tmp 4) (.const (.int .i64 3)) t4_3 (.int .i64 3)) w fun t18_14 =>
 IfB t18_14 (
 RunA Tryd.prog (Instr.fieldAt 23 t1_1 2) fun t19_15 =>
 RunW Tryd.prog (Instr.loadAt 9 t19_15) w fun t20_16 =>
 RunA Tryd.prog (Instr.fieldAt 23 t1_1 4) fun t21_17 =>
 RunW Tryd.prog (Instr.loadAt 9 t21_17) w fun t22_18 =>
 CallF Tryd.prog 24 #[t20_16, t22_18] w fun t23_19 w =>
 R t23_19 w) (
 RunW Tryd.prog (bin .eql 3 (.tmp 4) (.const (.int .i64 4)) t4_3 (.int .i64 4)) w fun t25_20 =>
 IfB t25_20 (
 RunA Tryd.prog (Instr.fieldAt 23 t1_1 1) fun t26_21 =>
 RunW Tryd.prog (Instr.loadAt 9 t26_21) w fun t27_22 =>
 RunA Tryd.prog (Instr.fieldAt 23 t1_1 2) fun t28_23 =>
 RunW Tryd.prog (Instr.loadAt 9 t28_23) w fun t29_24 =>
 CallF Tryd.prog 20 #[t27_22, t29_24] w fun t30_25 w =>
 R t30_25 w) (
 RunW Tryd.prog (bin .eql 3 (.tmp 4) (.const (.int .i64 5)) t4_3 (.int .i64 5)) w fun t32_26 =>
 IfB t32_26 (
 RunA Tryd.prog (Instr.fieldAt 23 t1_1 1) fun t33_27 =>
 RunW Tryd.prog (Instr.loadAt 9 t33_27) w fun t34_28 =>
 RunA Tryd.prog (Instr.fieldAt 23 t1_1 3) fun t35_29 =>
 RunW Tryd.prog (Instr.loadAt 9 t35_29) w fun t36_30 =>
 CallF Tryd.prog 22 #[t34_28, t36_30] w fun t37_31 w =>
 R t37_31 w) (
 RunW Tryd.prog (bin .eql 3 (.tmp 4) (.const (.int .i64 6)) t4_3 (.int .i64 6)) w fun t39_32 =>
 IfB t39_32 (
 RunA Tryd.prog (Instr.fieldAt 23 t1_1 1) fun t40_33 =>
 RunW Tryd.prog (Instr.loadAt 9 t40_33) w fun t41_34 =>
 RunA Tryd.prog (Instr.fieldAt 23 t1_1 2) fun t42_35 =>
 RunW Tryd.prog (Instr.loadAt 9 t42_35) w fun t43_36 =>
 RunA Tryd.prog (Instr.fieldAt 23 t1_1 5) fun t44_37 =>
 RunW Tryd.prog (Instr.loadAt 3 t44_37) w fun t45_38 =>
 CallF Tryd.prog 21 #[t41_34, t43_36, t45_38] w fun t46_39 w =>
 R t46_39 w) (
 RunW Tryd.prog (bin .eql 3 (.tmp 4) (.const (.int .i64 7)) t4_3 (.int .i64 7)) w fun t48_40 =>
 IfB t48_40 (
 RunA Tryd.prog (Instr.fieldAt 23 t1_1 1) fun t49_41 =>
 RunW Tryd.prog (Instr.loadAt 9 t49_41) w fun t50_42 =>
 RunA Tryd.prog (Instr.fieldAt 23 t1_1 2) fun t51_43 =>
 RunW Tryd.prog (Instr.loadAt 9 t51_43) w fun t52_44 =>
 CallF Tryd.prog 25 #[t50_42, t52_44] w fun t53_45 w =>
 R t53_45 w) (
 R (.string ⟨#[]⟩) w)))))))
theorem sh27_calls {a0 : Value} {w : World} {R : Value → World → Prop} (h : sh27 a0 w R) : CallF Tryd.prog 27 #[a0] w R :=
  calls_of_denF (mk := false) (args := [a0]) (an := (.seq (.ops [1]) (.seq (.seq (.ops [1, 4]) (.blk (.seq (.ops [1, 4, 5]) (.cond (.seq (.ops [2]) .leaf) (.seq (.ops [1, 4, 10]) (.cond (.seq (.ops [2]) .leaf) (.seq (.ops [1, 4, 17]) (.cond (.seq (.ops [2]) .leaf) (.seq (.ops [1, 4, 24]) (.cond (.seq (.ops [2]) .leaf) (.seq (.ops [1, 4, 31]) (.cond (.seq (.ops [2]) .leaf) (.seq (.ops [1, 4, 38]) (.cond (.seq (.ops [2]) .leaf) (.seq (.ops [1, 47]) (.cond (.seq (.ops [2]) .leaf) .leaf)))))))))))))))) (.seq (.ops [2]) .leaf)))) (c := Tryd.f27.body.getD .skip) hent Tryd.func27 rfl (Nat.le_of_ble_eq_true (by kernel_rfl))
    (Eq.mp (show sh27 a0 w R = denF Tryd.prog ent false Tryd.f27 (.seq (.ops [1]) (.seq (.seq (.ops [1, 4]) (.blk (.seq (.ops [1, 4, 5]) (.cond (.seq (.ops [2]) .leaf) (.seq (.ops [1, 4, 10]) (.cond (.seq (.ops [2]) .leaf) (.seq (.ops [1, 4, 17]) (.cond (.seq (.ops [2]) .leaf) (.seq (.ops [1, 4, 24]) (.cond (.seq (.ops [2]) .leaf) (.seq (.ops [1, 4, 31]) (.cond (.seq (.ops [2]) .leaf) (.seq (.ops [1, 4, 38]) (.cond (.seq (.ops [2]) .leaf) (.seq (.ops [1, 47]) (.cond (.seq (.ops [2]) .leaf) .leaf)))))))))))))))) (.seq (.ops [2]) .leaf))) (Tryd.f27.body.getD .skip) [a0] w R by kernel_rfl) h)

/-! ### 28: handbill/keys.begun -/
def sh28 (a0 : Value) (w : World) (R : Value → World → Prop) : Prop :=
 RunW Tryd.prog (bin .eql 9 (.tmp 3) (.const (.string ⟨#[]⟩)) a0 (.string ⟨#[]⟩)) w fun t4_1 =>
 IfB t4_1 (
 R (.string ⟨#[]⟩) w) (
 RunA Tryd.prog (bin .add 9 (.tmp 5) (.const (.string ⟨#[47]⟩)) a0 (.string ⟨#[47]⟩)) fun t6_2 =>
 R t6_2 w)
theorem sh28_calls {a0 : Value} {w : World} {R : Value → World → Prop} (h : sh28 a0 w R) : CallF Tryd.prog 28 #[a0] w R :=
  calls_of_denF (mk := false) (args := [a0]) (an := (.seq (.ops [0]) (.seq (.seq (.ops [0, 4]) (.cond (.seq (.ops [2]) .leaf) .leaf)) (.seq (.ops [2]) .leaf)))) (c := Tryd.f28.body.getD .skip) hent Tryd.func28 rfl (Nat.le_of_ble_eq_true (by kernel_rfl))
    (Eq.mp (show sh28 a0 w R = denF Tryd.prog ent false Tryd.f28 (.seq (.ops [0]) (.seq (.seq (.ops [0, 4]) (.cond (.seq (.ops [2]) .leaf) .leaf)) (.seq (.ops [2]) .leaf))) (Tryd.f28.body.getD .skip) [a0] w R by kernel_rfl) h)

/-! ### 29: handbill/keys.joined -/
def sh29 (a0 a1 : Value) (w : World) (R : Value → World → Prop) : Prop :=
 RunW Tryd.prog (Builtin.len_ #[41] 3 #[a1]) w fun t8_1 =>
 lp 1 (fun n_3 t9_2 w =>
 RunA Tryd.prog (bin .lss 3 (.tmp 9) (.tmp 8) t9_2 t8_1) fun t10_4 =>
 IfB t10_4 (
 RunA Tryd.prog (Instr.indexAt 41 a1 t9_2) fun t11_5 =>
 RunW Tryd.prog (Instr.loadAt 9 t11_5) w fun t12_6 =>
 CallF Tryd.prog 14 #[t12_6] w fun t14_7 w =>
 RunA Tryd.prog (Op.unary .not t14_7) fun t15_8 =>
 IfB t15_8 (
 R (.string ⟨#[]⟩) w) (
 RunA Tryd.prog (bin .add 3 (.tmp 9) (.const (.int .i64 1)) t9_2 (.int .i64 1)) fun t16_9 =>
 (a0 : Value) = a0 ∧ ((a1 : Value) = a1 ∧ ((a1 : Value) = a1 ∧ ((t8_1 : Value) = t8_1 ∧ (n_3 t16_9 w)))))) (
 RunA Tryd.prog (bin .add 9 (.tmp 17) (.const (.string ⟨#[47]⟩)) a0 (.string ⟨#[47]⟩)) fun t18_10 =>
 CallF Tryd.prog 40 #[a1, (.string ⟨#[47]⟩)] w fun t20_11 w =>
 RunA Tryd.prog (bin .add 9 (.tmp 18) (.tmp 20) t18_10 t20_11) fun t21_12 =>
 R t21_12 w)) [(.int .i64 0)] w
theorem sh29_calls {a0 a1 : Value} {w : World} {R : Value → World → Prop} (h : sh29 a0 a1 w R) : CallF Tryd.prog 29 #[a0, a1] w R :=
  calls_of_denF (mk := false) (args := [a0, a1]) (an := (.seq (.ops [0, 1]) (.seq (.seq (.ops [0, 1, 7, 8, 9]) (.blk (.loop [0, 1, 7, 8] [9] (.seq (.ops [0, 1, 7, 8, 9, 10]) (.seq (.cond .leaf .leaf) (.seq (.blk (.seq (.ops [0, 1, 6, 7, 8, 9]) (.seq (.ops [0, 1, 7, 8, 9, 15]) (.cond (.seq (.ops [4]) .leaf) .leaf)))) (.ops [0, 1, 7, 8, 9]))))))) (.seq (.ops [4]) .leaf)))) (c := Tryd.f29.body.getD .skip) hent Tryd.func29 rfl (Nat.le_of_ble_eq_true (by kernel_rfl))
    (Eq.mp (show sh29 a0 a1 w R = denF Tryd.prog ent false Tryd.f29 (.seq (.ops [0, 1]) (.seq (.seq (.ops [0, 1, 7, 8, 9]) (.blk (.loop [0, 1, 7, 8] [9] (.seq (.ops [0, 1, 7, 8, 9, 10]) (.seq (.cond .leaf .leaf) (.seq (.blk (.seq (.ops [0, 1, 6, 7, 8, 9]) (.seq (.ops [0, 1, 7, 8, 9, 15]) (.cond (.seq (.ops [4]) .leaf) .leaf)))) (.ops [0, 1, 7, 8, 9]))))))) (.seq (.ops [4]) .leaf))) (Tryd.f29.body.getD .skip) [a0, a1] w R by kernel_rfl) h)

/-! ### 30: handbill/keys.numbered -/
def sh30 (a0 a1 : Value) (w : World) (R : Value → World → Prop) : Prop :=
 CallF Tryd.prog 41 #[a1, (.int .i64 6)] w fun t9_1 w =>
 RunA Tryd.prog (Instr.extract t9_1 0) fun t10_2 =>
 RunA Tryd.prog (Instr.extract t9_1 1) fun t11_3 =>
 RunW Tryd.prog (bin .eql 9 (.tmp 12) (.const (.string ⟨#[]⟩)) a0 (.string ⟨#[]⟩)) w fun t13_4 =>
 IfB t13_4 (
 R (.string ⟨#[]⟩) w) (
 RunA Tryd.prog (Op.unary .not t11_3) fun t16_5 =>
 IfB t16_5 (
 R (.string ⟨#[]⟩) w) (
 RunA Tryd.prog (bin .add 9 (.tmp 18) (.const (.string ⟨#[47]⟩)) a0 (.string ⟨#[47]⟩)) fun t19_6 =>
 RunA Tryd.prog (bin .add 9 (.tmp 19) (.tmp 20) t19_6 t10_2) fun t21_7 =>
 R t21_7 w))
theorem sh30_calls {a0 a1 : Value} {w : World} {R : Value → World → Prop} (h : sh30 a0 a1 w R) : CallF Tryd.prog 30 #[a0, a1] w R :=
  calls_of_denF (mk := false) (args := [a0, a1]) (an := (.seq (.ops [0, 1]) (.seq (.ops [0, 5, 6]) (.seq (.seq (.ops [0, 5, 17]) (.cond (.seq (.ops [4]) .leaf) .leaf)) (.seq (.ops [4]) .leaf))))) (c := Tryd.f30.body.getD .skip) hent Tryd.func30 rfl (Nat.le_of_ble_eq_true (by kernel_rfl))
    (Eq.mp (show sh30 a0 a1 w R = denF Tryd.prog ent false Tryd.f30 (.seq (.ops [0, 1]) (.seq (.ops [0, 5, 6]) (.seq (.seq (.ops [0, 5, 17]) (.cond (.seq (.ops [4]) .leaf) .leaf)) (.seq (.ops [4]) .leaf)))) (Tryd.f30.body.getD .skip) [a0, a1] w R by kernel_rfl) h)

/-! ### 31: handbill/hblref.Split -/
def sh31 (a0 a1 : Value) (w : World) (R : Value → World → Prop) : Prop :=
 lp 3 (fun n_4 t5_1 t6_2 t7_3 w =>
 RunW Tryd.prog (Builtin.len_ #[9] 3 #[a0]) w fun t10_5 =>
 RunA Tryd.prog (bin .leq 3 (.tmp 8) (.tmp 10) t7_3 t10_5) fun t11_6 =>
 IfB t11_6 (
 jn 5 (fun t0_7 t1_8 t5_9 t6_10 t7_11 w =>
 RunA Tryd.prog (bin .add 3 (.tmp 12) (.const (.int .i64 1)) t7_11 (.int .i64 1)) fun t13_13 =>
 (t0_7 : Value) = a0 ∧ ((t1_8 : Value) = a1 ∧ (n_4 t5_9 t6_10 t13_13 w))) fun j_12 =>
 RunW Tryd.prog (Builtin.len_ #[9] 3 #[a0]) w fun t16_14 =>
 RunW Tryd.prog (bin .eql 3 (.tmp 14) (.tmp 16) t7_3 t16_14) w fun t17_15 =>
 IfB t17_15 (
 RunA Tryd.prog (Instr.sliceAt 9 a0 (some t6_2) (some t7_3) none) fun t29_16 =>
 RunV Tryd.prog (Instr.buildSlice 41 1 #[(0, t29_16)]) w fun t30_17 w =>
 RunV Tryd.prog (Builtin.append_ #[41, 41] 41 #[t5_1, t30_17]) w fun t31_18 w =>
 RunA Tryd.prog (bin .add 3 (.tmp 32) (.const (.int .i64 1)) t7_3 (.int .i64 1)) fun t33_19 =>
 j_12 a0 a1 t31_18 t33_19 t7_3 w) (
 RunA Tryd.prog (Instr.index 9 a0 t7_3) fun t21_20 =>
 RunW Tryd.prog (bin .eql 5 (.tmp 21) (.tmp 22) t21_20 a1) w fun t23_21 =>
 IfB t23_21 (
 RunA Tryd.prog (Instr.sliceAt 9 a0 (some t6_2) (some t7_3) none) fun t29_22 =>
 RunV Tryd.prog (Instr.buildSlice 41 1 #[(0, t29_22)]) w fun t30_23 w =>
 RunV Tryd.prog (Builtin.append_ #[41, 41] 41 #[t5_1, t30_23]) w fun t31_24 w =>
 RunA Tryd.prog (bin .add 3 (.tmp 32) (.const (.int .i64 1)) t7_3 (.int .i64 1)) fun t33_25 =>
 j_12 a0 a1 t31_24 t33_25 t7_3 w) (
 j_12 a0 a1 t5_1 t6_2 t7_3 w))) (
 R t5_1 w)) [(.slice none 0 0), (.int .i64 0), (.int .i64 0)] w
theorem sh31_calls {a0 a1 : Value} {w : World} {R : Value → World → Prop} (h : sh31 a0 a1 w R) : CallF Tryd.prog 31 #[a0, a1] w R :=
  calls_of_denF (mk := false) (args := [a0, a1]) (an := (.seq (.ops [0, 1]) (.seq (.ops [0, 1, 5]) (.seq (.ops [0, 1, 5, 6]) (.seq (.seq (.ops [0, 1, 5, 6, 7]) (.blk (.loop [0, 1] [5, 6, 7] (.seq (.seq (.ops [0, 1, 5, 6, 7, 11]) (.cond .leaf .leaf)) (.seq (.blk (.join [0, 1, 5, 6, 7] (.seq (.ops [0, 1, 5, 6, 7, 24]) (.cond (.seq (.ops [0, 1, 5, 7]) (.ops [0, 1, 5, 6, 7])) .leaf)))) (.ops [0, 1, 5, 6, 7])))))) (.seq (.ops [4]) .leaf)))))) (c := Tryd.f31.body.getD .skip) hent Tryd.func31 rfl (Nat.le_of_ble_eq_true (by kernel_rfl))
    (Eq.mp (show sh31 a0 a1 w R = denF Tryd.prog ent false Tryd.f31 (.seq (.ops [0, 1]) (.seq (.ops [0, 1, 5]) (.seq (.ops [0, 1, 5, 6]) (.seq (.seq (.ops [0, 1, 5, 6, 7]) (.blk (.loop [0, 1] [5, 6, 7] (.seq (.seq (.ops [0, 1, 5, 6, 7, 11]) (.cond .leaf .leaf)) (.seq (.blk (.join [0, 1, 5, 6, 7] (.seq (.ops [0, 1, 5, 6, 7, 24]) (.cond (.seq (.ops [0, 1, 5, 7]) (.ops [0, 1, 5, 6, 7])) .leaf)))) (.ops [0, 1, 5, 6, 7])))))) (.seq (.ops [4]) .leaf))))) (Tryd.f31.body.getD .skip) [a0, a1] w R by kernel_rfl) h)

/-! ### 32: handbill/hblref14.number -/
def sh32 (a0 : Value) (w : World) (R : Value → World → Prop) : Prop :=
 lp 1 (fun n_2 t3_1 w =>
 RunW Tryd.prog (Builtin.len_ #[9] 3 #[a0]) w fun t8_3 =>
 RunA Tryd.prog (bin .lss 3 (.tmp 6) (.tmp 8) t3_1 t8_3) fun t9_4 =>
 IfB t9_4 (
 RunA Tryd.prog (Instr.index 9 a0 t3_1) fun t14_5 =>
 RunA Tryd.prog (bin .lss 5 (.tmp 14) (.const (.int .u8 48)) t14_5 (.int .u8 48)) fun t15_6 =>
 IfB t15_6 (
 R (.int .i64 (-1)) w) (
 RunA Tryd.prog (Instr.index 9 a0 t3_1) fun t19_7 =>
 RunA Tryd.prog (bin .gtr 5 (.tmp 19) (.const (.int .u8 57)) t19_7 (.int .u8 57)) fun t20_8 =>
 IfB t20_8 (
 R (.int .i64 (-1)) w) (
 RunA Tryd.prog (bin .add 3 (.tmp 10) (.const (.int .i64 1)) t3_1 (.int .i64 1)) fun t11_9 =>
 (a0 : Value) = a0 ∧ (n_2 t11_9 w)))) (
 jn 2 (fun t0_10 t4_11 w =>
 RunW Tryd.prog (Builtin.len_ #[9] 3 #[t0_10]) w fun t41_13 =>
 RunW Tryd.prog (bin .neq 3 (.tmp 41) (.const (.int .i64 6)) t41_13 (.int .i64 6)) w fun t42_14 =>
 IfB t42_14 (
 R (.int .i64 (-1)) w) (
 R t4_11 w)) fun j_12 =>
 lp 2 (fun n_17 t4_15 t5_16 w =>
 RunW Tryd.prog (Builtin.len_ #[9] 3 #[a0]) w fun t24_18 =>
 RunA Tryd.prog (bin .lss 3 (.tmp 22) (.tmp 24) t5_16 t24_18) fun t25_19 =>
 IfB t25_19 (
 RunA Tryd.prog (bin .lss 3 (.tmp 27) (.const (.int .i64 7)) t5_16 (.int .i64 7)) fun t28_20 =>
 IfB t28_20 (
 RunA Tryd.prog (bin .mul 3 (.const (.int .i64 10)) (.tmp 32) (.int .i64 10) t4_15) fun t33_21 =>
 RunA Tryd.prog (Instr.index 9 a0 t5_16) fun t36_22 =>
 RunA Tryd.prog (bin .sub 5 (.tmp 36) (.const (.int .u8 48)) t36_22 (.int .u8 48)) fun t37_23 =>
 RunV Tryd.prog (convert 5 3 t37_23) w fun t38_24 w =>
 RunA Tryd.prog (bin .add 3 (.tmp 33) (.tmp 38) t33_21 t38_24) fun t39_25 =>
 RunA Tryd.prog (bin .add 3 (.tmp 30) (.const (.int .i64 1)) t5_16 (.int .i64 1)) fun t31_26 =>
 (a0 : Value) = a0 ∧ (n_17 t39_25 t31_26 w)) (
 j_12 a0 t4_15 w)) (
 j_12 a0 t4_15 w)) [(.int .i64 0), (.int .i64 0)] w)) [(.int .i64 0)] w
theorem sh32_calls {a0 : Value} {w : World} {R : Value → World → Prop} (h : sh32 a0 w R) : CallF Tryd.prog 32 #[a0] w R :=
  calls_of_denF (mk := false) (args := [a0]) (an := (.seq (.ops [0]) (.seq (.seq (.ops [0, 3]) (.blk (.loop [0] [3] (.seq (.seq (.ops [0, 3, 9]) (.cond .leaf .leaf)) (.seq (.blk (.seq (.ops [0, 3, 21]) (.cond (.seq (.ops [2]) .leaf) .leaf))) (.ops [0, 3])))))) (.seq (.ops [0, 4]) (.seq (.seq (.ops [0, 4, 5]) (.join [0, 4] (.blk (.loop [0] [4, 5] (.seq (.seq (.ops [0, 4, 5, 29]) (.cond .leaf .leaf)) (.seq (.blk (.ops [0, 4, 5])) (.ops [0, 4, 5]))))))) (.seq (.seq (.ops [4, 42]) (.cond (.seq (.ops [2]) .leaf) .leaf)) (.seq (.ops [2]) .leaf))))))) (c := Tryd.f32.body.getD .skip) hent Tryd.func32 rfl (Nat.le_of_ble_eq_true (by kernel_rfl))
    (Eq.mp (show sh32 a0 w R = denF Tryd.prog ent false Tryd.f32 (.seq (.ops [0]) (.seq (.seq (.ops [0, 3]) (.blk (.loop [0] [3] (.seq (.seq (.ops [0, 3, 9]) (.cond .leaf .leaf)) (.seq (.blk (.seq (.ops [0, 3, 21]) (.cond (.seq (.ops [2]) .leaf) .leaf))) (.ops [0, 3])))))) (.seq (.ops [0, 4]) (.seq (.seq (.ops [0, 4, 5]) (.join [0, 4] (.blk (.loop [0] [4, 5] (.seq (.seq (.ops [0, 4, 5, 29]) (.cond .leaf .leaf)) (.seq (.blk (.ops [0, 4, 5])) (.ops [0, 4, 5]))))))) (.seq (.seq (.ops [4, 42]) (.cond (.seq (.ops [2]) .leaf) .leaf)) (.seq (.ops [2]) .leaf)))))) (Tryd.f32.body.getD .skip) [a0] w R by kernel_rfl) h)

/-! ### 33: handbill/hblref1.Unhex -/
def sh33 (a0 : Value) (w : World) (R : Value → World → Prop) : Prop :=
 lp 2 (fun n_3 t4_1 t5_2 w =>
 RunA Tryd.prog (bin .add 3 (.tmp 8) (.const (.int .i64 1)) t5_2 (.int .i64 1)) fun t9_4 =>
 RunW Tryd.prog (Builtin.len_ #[9] 3 #[a0]) w fun t11_5 =>
 RunA Tryd.prog (bin .lss 3 (.tmp 9) (.tmp 11) t9_4 t11_5) fun t12_6 =>
 IfB t12_6 (
 drw (fun S_7 w =>
 RunA Tryd.prog (Instr.index 9 a0 t5_2) fun t17_8 =>
 RunA Tryd.prog (bin .add 3 (.tmp 20) (.const (.int .i64 1)) t5_2 (.int .i64 1)) fun t21_9 =>
 RunA Tryd.prog (Instr.index 9 a0 t21_9) fun t22_10 =>
 CallF Tryd.prog 42 #[t17_8] w fun t18_11 w =>
 CallF Tryd.prog 42 #[t22_10] w fun t23_12 w =>
 RunA Tryd.prog (bin .lss 3 (.tmp 24) (.const (.int .i64 0)) t18_11 (.int .i64 0)) fun t25_13 =>
 IfB t25_13 (
 R (.tuple #[(.slice none 0 0), (.bool false)]) w) (
 RunA Tryd.prog (bin .lss 3 (.tmp 27) (.const (.int .i64 0)) t23_12 (.int .i64 0)) fun t28_14 =>
 IfB t28_14 (
 R (.tuple #[(.slice none 0 0), (.bool false)]) w) (
 RunA Tryd.prog (bin .shl 3 (.tmp 31) (.const (.int .u64 4)) t18_11 (.int .u64 4)) fun t32_15 =>
 RunA Tryd.prog (bin .or 3 (.tmp 32) (.tmp 33) t32_15 t23_12) fun t34_16 =>
 RunV Tryd.prog (convert 3 5 t34_16) w fun t35_17 w =>
 RunV Tryd.prog (Instr.buildSlice 48 1 #[(0, t35_17)]) w fun t36_18 w =>
 RunV Tryd.prog (Builtin.append_ #[48, 48] 48 #[t4_1, t36_18]) w fun t37_19 w =>
 RunA Tryd.prog (bin .add 3 (.tmp 13) (.const (.int .i64 2)) t5_2 (.int .i64 2)) fun t14_20 =>
 (a0 : Value) = a0 ∧ (n_3 t37_19 t14_20 w)))) w) (
 CallF Tryd.prog 35 #[t4_1] w fun t39_21 w =>
 RunW Tryd.prog (bin .neq 9 (.tmp 39) (.tmp 40) t39_21 a0) w fun t41_22 =>
 IfB t41_22 (
 R (.tuple #[(.slice none 0 0), (.bool false)]) w) (
 R (.tuple #[t4_1, (.bool true)]) w))) [(.slice none 0 0), (.int .i64 0)] w
theorem sh33_calls {a0 : Value} {w : World} {R : Value → World → Prop} (h : sh33 a0 w R) : CallF Tryd.prog 33 #[a0] w R :=
  calls_of_denF (mk := false) (args := [a0]) (an := (.seq (.ops [0]) (.seq (.ops [0, 4]) (.seq (.seq (.ops [0, 4, 5]) (.blk (.loop [0] [4, 5] (.seq (.seq (.ops [0, 4, 5, 12]) (.cond .leaf .leaf)) (.seq (.blk (.seq (.draw (.q 0 (.q 1 (.q 2 (.q 4 (.q 5 (.q 6 (.q 7 (.one 3 (.one 8 (.q 9 (.q 10 .fin))))))))))) [0, 4, 5, 6, 7]) (.seq (.seq (.ops [0, 4, 5, 6, 7, 29]) (.cond (.seq (.ops [2, 3]) .leaf) .leaf)) (.ops [0, 4, 5])))) (.ops [0, 4, 5])))))) (.seq (.seq (.ops [4, 41]) (.cond (.seq (.ops [2, 3]) .leaf) .leaf)) (.seq (.ops [2, 3]) .leaf)))))) (c := Tryd.f33.body.getD .skip) hent Tryd.func33 rfl (Nat.le_of_ble_eq_true (by kernel_rfl))
    (Eq.mp (show sh33 a0 w R = denF Tryd.prog ent false Tryd.f33 (.seq (.ops [0]) (.seq (.ops [0, 4]) (.seq (.seq (.ops [0, 4, 5]) (.blk (.loop [0] [4, 5] (.seq (.seq (.ops [0, 4, 5, 12]) (.cond .leaf .leaf)) (.seq (.blk (.seq (.draw (.q 0 (.q 1 (.q 2 (.q 4 (.q 5 (.q 6 (.q 7 (.one 3 (.one 8 (.q 9 (.q 10 .fin))))))))))) [0, 4, 5, 6, 7]) (.seq (.seq (.ops [0, 4, 5, 6, 7, 29]) (.cond (.seq (.ops [2, 3]) .leaf) .leaf)) (.ops [0, 4, 5])))) (.ops [0, 4, 5])))))) (.seq (.seq (.ops [4, 41]) (.cond (.seq (.ops [2, 3]) .leaf) .leaf)) (.seq (.ops [2, 3]) .leaf))))) (Tryd.f33.body.getD .skip) [a0] w R by kernel_rfl) h)

/-! ### 34: handbill/hblref1.Digits -/
def sh34 (a0 a1 : Value) (w : World) (R : Value → World → Prop) : Prop :=
 RunA Tryd.prog (bin .lss 3 (.tmp 8) (.const (.int .i64 0)) a0 (.int .i64 0)) fun t9_1 =>
 IfB t9_1 (
 R (.tuple #[(.string ⟨#[]⟩), (.bool false)]) w) (
 RunA Tryd.prog (bin .lss 3 (.tmp 11) (.const (.int .i64 1)) a1 (.int .i64 1)) fun t12_2 =>
 IfB t12_2 (
 R (.tuple #[(.string ⟨#[]⟩), (.bool false)]) w) (
 RunA Tryd.prog (bin .gtr 3 (.tmp 15) (.const (.int .i64 18)) a1 (.int .i64 18)) fun t16_3 =>
 IfB t16_3 (
 R (.tuple #[(.string ⟨#[]⟩), (.bool false)]) w) (
 RunV Tryd.prog (Instr.makeSlice 48 a1 a1) w fun t19_4 w =>
 RunA Tryd.prog (bin .sub 3 (.tmp 20) (.const (.int .i64 1)) a1 (.int .i64 1)) fun t21_5 =>
 lp 2 (fun n_8 t0_6 t7_7 w =>
 RunA Tryd.prog (bin .geq 3 (.tmp 22) (.const (.int .i64 0)) t7_7 (.int .i64 0)) fun t23_9 =>
 IfB t23_9 (
 RunA Tryd.prog (bin .rem 3 (.tmp 28) (.const (.int .i64 10)) t0_6 (.int .i64 10)) fun t29_10 =>
 RunA Tryd.prog (bin .add 3 (.const (.int .i64 48)) (.tmp 29) (.int .i64 48) t29_10) fun t30_11 =>
 RunV Tryd.prog (convert 3 5 t30_11) w fun t31_12 w =>
 RunA Tryd.prog (bin .quo 3 (.tmp 32) (.const (.int .i64 10)) t0_6 (.int .i64 10)) fun t33_13 =>
 RunA Tryd.prog (Instr.indexAt 48 t19_4 t7_7) fun t34_14 =>
 RunU Tryd.prog (Instr.storeAt 5 t34_14 t31_12) w fun w =>
 RunA Tryd.prog (bin .sub 3 (.tmp 24) (.const (.int .i64 1)) t7_7 (.int .i64 1)) fun t25_15 =>
 (t19_4 : Value) = t19_4 ∧ (n_8 t33_13 t25_15 w)) (
 RunA Tryd.prog (bin .gtr 3 (.tmp 35) (.const (.int .i64 0)) t0_6 (.int .i64 0)) fun t36_16 =>
 IfB t36_16 (
 R (.tuple #[(.string ⟨#[]⟩), (.bool false)]) w) (
 RunV Tryd.prog (convert 48 9 t19_4) w fun t38_17 w =>
 R (.tuple #[t38_17, (.bool true)]) w))) [a0, t21_5] w)))
theorem sh34_calls {a0 a1 : Value} {w : World} {R : Value → World → Prop} (h : sh34 a0 a1 w R) : CallF Tryd.prog 34 #[a0, a1] w R :=
  calls_of_denF (mk := false) (args := [a0, a1]) (an := (.seq (.ops [0, 1]) (.seq (.seq (.ops [0, 1, 17]) (.cond (.seq (.ops [4, 5]) .leaf) .leaf)) (.seq (.ops [0, 1, 6]) (.seq (.seq (.ops [0, 6, 7]) (.blk (.loop [6] [0, 7] (.seq (.seq (.ops [0, 6, 7, 23]) (.cond .leaf .leaf)) (.seq (.blk (.ops [0, 6, 7])) (.ops [0, 6, 7])))))) (.seq (.seq (.ops [6, 36]) (.cond (.seq (.ops [4, 5]) .leaf) .leaf)) (.seq (.ops [4, 5]) .leaf))))))) (c := Tryd.f34.body.getD .skip) hent Tryd.func34 rfl (Nat.le_of_ble_eq_true (by kernel_rfl))
    (Eq.mp (show sh34 a0 a1 w R = denF Tryd.prog ent false Tryd.f34 (.seq (.ops [0, 1]) (.seq (.seq (.ops [0, 1, 17]) (.cond (.seq (.ops [4, 5]) .leaf) .leaf)) (.seq (.ops [0, 1, 6]) (.seq (.seq (.ops [0, 6, 7]) (.blk (.loop [6] [0, 7] (.seq (.seq (.ops [0, 6, 7, 23]) (.cond .leaf .leaf)) (.seq (.blk (.ops [0, 6, 7])) (.ops [0, 6, 7])))))) (.seq (.seq (.ops [6, 36]) (.cond (.seq (.ops [4, 5]) .leaf) .leaf)) (.seq (.ops [4, 5]) .leaf)))))) (Tryd.f34.body.getD .skip) [a0, a1] w R by kernel_rfl) h)

/-! ### 35: handbill/hblref1.Hex -/
def sh35 (a0 : Value) (w : World) (R : Value → World → Prop) : Prop :=
 lp 2 (fun n_3 t4_1 t5_2 w =>
 RunW Tryd.prog (Builtin.len_ #[48] 3 #[a0]) w fun t8_4 =>
 RunA Tryd.prog (bin .lss 3 (.tmp 6) (.tmp 8) t5_2 t8_4) fun t9_5 =>
 IfB t9_5 (
 drw (fun S_6 w =>
 RunA Tryd.prog (Instr.indexAt 48 a0 t5_2) fun t16_7 =>
 RunS Tryd.prog S_6 (Instr.loadAt 5 t16_7) fun t17_8 =>
 RunA Tryd.prog (bin .shr 5 (.tmp 17) (.const (.int .u64 4)) t17_8 (.int .u64 4)) fun t18_9 =>
 RunA Tryd.prog (Instr.index 9 (.string ⟨#[48, 49, 50, 51, 52, 53, 54, 55, 56, 57, 97, 98, 99, 100, 101, 102]⟩) t18_9) fun t19_10 =>
 RunA Tryd.prog (Instr.indexAt 48 a0 t5_2) fun t23_11 =>
 RunS Tryd.prog S_6 (Instr.loadAt 5 t23_11) fun t24_12 =>
 RunA Tryd.prog (bin .and 5 (.tmp 24) (.const (.int .u8 15)) t24_12 (.int .u8 15)) fun t25_13 =>
 RunA Tryd.prog (Instr.index 9 (.string ⟨#[48, 49, 50, 51, 52, 53, 54, 55, 56, 57, 97, 98, 99, 100, 101, 102]⟩) t25_13) fun t26_14 =>
 RunV Tryd.prog (Instr.buildSlice 48 2 #[(0, t19_10), (1, t26_14)]) w fun t27_15 w =>
 RunV Tryd.prog (Builtin.append_ #[48, 48] 48 #[t4_1, t27_15]) w fun t28_16 w =>
 RunA Tryd.prog (bin .add 3 (.tmp 10) (.const (.int .i64 1)) t5_2 (.int .i64 1)) fun t11_17 =>
 (a0 : Value) = a0 ∧ (((.string ⟨#[48, 49, 50, 51, 52, 53, 54, 55, 56, 57, 97, 98, 99, 100, 101, 102]⟩) : Value) = (.string ⟨#[48, 49, 50, 51, 52, 53, 54, 55, 56, 57, 97, 98, 99, 100, 101, 102]⟩) ∧ (n_3 t28_16 t11_17 w))) w) (
 RunV Tryd.prog (convert 48 9 t4_1) w fun t30_18 w =>
 R t30_18 w)) [(.slice none 0 0), (.int .i64 0)] w
theorem sh35_calls {a0 : Value} {w : World} {R : Value → World → Prop} (h : sh35 a0 w R) : CallF Tryd.prog 35 #[a0] w R :=
  calls_of_denF (mk := false) (args := [a0]) (an := (.seq (.ops [0]) (.seq (.ops [0, 3]) (.seq (.ops [0, 3, 4]) (.seq (.seq (.ops [0, 3, 4, 5]) (.blk (.loop [0, 3] [4, 5] (.seq (.seq (.ops [0, 3, 4, 5, 9]) (.cond .leaf .leaf)) (.seq (.blk (.draw (.q 0 (.q 1 (.q 2 (.q 3 (.q 4 (.q 5 (.q 6 (.q 7 (.q 8 (.q 9 (.q 10 (.q 11 (.q 12 (.q 13 (.q 14 (.one 15 (.one 16 (.q 17 .fin)))))))))))))))))) [0, 3, 4, 5])) (.ops [0, 3, 4, 5])))))) (.seq (.ops [2]) .leaf)))))) (c := Tryd.f35.body.getD .skip) hent Tryd.func35 rfl (Nat.le_of_ble_eq_true (by kernel_rfl))
    (Eq.mp (show sh35 a0 w R = denF Tryd.prog ent false Tryd.f35 (.seq (.ops [0]) (.seq (.ops [0, 3]) (.seq (.ops [0, 3, 4]) (.seq (.seq (.ops [0, 3, 4, 5]) (.blk (.loop [0, 3] [4, 5] (.seq (.seq (.ops [0, 3, 4, 5, 9]) (.cond .leaf .leaf)) (.seq (.blk (.draw (.q 0 (.q 1 (.q 2 (.q 3 (.q 4 (.q 5 (.q 6 (.q 7 (.q 8 (.q 9 (.q 10 (.q 11 (.q 12 (.q 13 (.q 14 (.one 15 (.one 16 (.q 17 .fin)))))))))))))))))) [0, 3, 4, 5])) (.ops [0, 3, 4, 5])))))) (.seq (.ops [2]) .leaf))))) (Tryd.f35.body.getD .skip) [a0] w R by kernel_rfl) h)

/-! ### 36: handbill/num.Hex -/
def sh36 (a0 : Value) (w : World) (R : Value → World → Prop) : Prop :=
 RunV Tryd.prog (Instr.alloc 64 true (.tuple #[])) w fun t3_1 w =>
 RunW Tryd.prog (Builtin.len_ #[48] 3 #[a0]) w fun t7_2 =>
 lp 1 (fun n_4 t8_3 w =>
 RunA Tryd.prog (bin .lss 3 (.tmp 8) (.tmp 7) t8_3 t7_2) fun t9_5 =>
 IfB t9_5 (
 RunA Tryd.prog (Instr.indexAt 48 a0 t8_3) fun t10_6 =>
 RunW Tryd.prog (Instr.loadAt 5 t10_6) w fun t11_7 =>
 RunA Tryd.prog (bin .shr 5 (.tmp 12) (.const (.int .u64 4)) t11_7 (.int .u64 4)) fun t13_8 =>
 RunA Tryd.prog (Instr.index 9 (.string ⟨#[48, 49, 50, 51, 52, 53, 54, 55, 56, 57, 97, 98, 99, 100, 101, 102]⟩) t13_8) fun t14_9 =>
 CallF Tryd.prog 43 #[t3_1, t14_9] w fun t15_10 w =>
 RunA Tryd.prog (bin .and 5 (.tmp 16) (.const (.int .u8 15)) t11_7 (.int .u8 15)) fun t17_11 =>
 RunA Tryd.prog (Instr.index 9 (.string ⟨#[48, 49, 50, 51, 52, 53, 54, 55, 56, 57, 97, 98, 99, 100, 101, 102]⟩) t17_11) fun t18_12 =>
 CallF Tryd.prog 43 #[t3_1, t18_12] w fun t19_13 w =>
 RunA Tryd.prog (bin .add 3 (.tmp 8) (.const (.int .i64 1)) t8_3 (.int .i64 1)) fun t20_14 =>
 (t3_1 : Value) = t3_1 ∧ ((a0 : Value) = a0 ∧ ((t7_2 : Value) = t7_2 ∧ (n_4 t20_14 w)))) (
 CallF Tryd.prog 44 #[t3_1] w fun t21_15 w =>
 R t21_15 w)) [(.int .i64 0)] w
theorem sh36_calls {a0 : Value} {w : World} {R : Value → World → Prop} (h : sh36 a0 w R) : CallF Tryd.prog 36 #[a0] w R :=
  calls_of_denF (mk := false) (args := [a0]) (an := (.seq (.ops [0]) (.seq (.ops [0, 3]) (.seq (.seq (.ops [3, 6, 7, 8]) (.blk (.loop [3, 6, 7] [8] (.seq (.ops [3, 6, 7, 8, 9]) (.seq (.cond .leaf .leaf) (.seq (.blk (.seq (.ops [3, 5, 6, 7, 8]) (.seq (.ops [3, 5, 6, 7, 8]) (.ops [3, 6, 7, 8])))) (.ops [3, 6, 7, 8]))))))) (.seq (.ops [2]) .leaf))))) (c := Tryd.f36.body.getD .skip) hent Tryd.func36 rfl (Nat.le_of_ble_eq_true (by kernel_rfl))
    (Eq.mp (show sh36 a0 w R = denF Tryd.prog ent false Tryd.f36 (.seq (.ops [0]) (.seq (.ops [0, 3]) (.seq (.seq (.ops [3, 6, 7, 8]) (.blk (.loop [3, 6, 7] [8] (.seq (.ops [3, 6, 7, 8, 9]) (.seq (.cond .leaf .leaf) (.seq (.blk (.seq (.ops [3, 5, 6, 7, 8]) (.seq (.ops [3, 5, 6, 7, 8]) (.ops [3, 6, 7, 8])))) (.ops [3, 6, 7, 8]))))))) (.seq (.ops [2]) .leaf)))) (Tryd.f36.body.getD .skip) [a0] w R by kernel_rfl) h)

/-! ### 39: handbill/num.Unhex -/
def sh39 (a0 : Value) (w : World) (R : Value → World → Prop) : Prop :=
 RunW Tryd.prog (Builtin.len_ #[9] 3 #[a0]) w fun t9_1 =>
 RunA Tryd.prog (bin .rem 3 (.tmp 9) (.const (.int .i64 2)) t9_1 (.int .i64 2)) fun t10_2 =>
 RunW Tryd.prog (bin .neq 3 (.tmp 10) (.const (.int .i64 0)) t10_2 (.int .i64 0)) w fun t11_3 =>
 IfB t11_3 (
 R (.tuple #[(.slice none 0 0), (.bool false)]) w) (
 lp 2 (fun n_6 t4_4 t5_5 w =>
 RunW Tryd.prog (Builtin.len_ #[9] 3 #[a0]) w fun t14_7 =>
 RunA Tryd.prog (bin .lss 3 (.tmp 12) (.tmp 14) t5_5 t14_7) fun t15_8 =>
 IfB t15_8 (
 drw (fun S_9 w =>
 RunA Tryd.prog (Instr.index 9 a0 t5_5) fun t20_10 =>
 RunA Tryd.prog (bin .add 3 (.tmp 23) (.const (.int .i64 1)) t5_5 (.int .i64 1)) fun t24_11 =>
 RunA Tryd.prog (Instr.index 9 a0 t24_11) fun t25_12 =>
 CallF Tryd.prog 48 #[(.string ⟨#[48, 49, 50, 51, 52, 53, 54, 55, 56, 57, 97, 98, 99, 100, 101, 102]⟩), t20_10] w fun t21_13 w =>
 CallF Tryd.prog 48 #[(.string ⟨#[48, 49, 50, 51, 52, 53, 54, 55, 56, 57, 97, 98, 99, 100, 101, 102]⟩), t25_12] w fun t26_14 w =>
 RunA Tryd.prog (bin .lss 3 (.tmp 27) (.const (.int .i64 0)) t21_13 (.int .i64 0)) fun t28_15 =>
 IfB t28_15 (
 R (.tuple #[(.slice none 0 0), (.bool false)]) w) (
 RunA Tryd.prog (bin .lss 3 (.tmp 30) (.const (.int .i64 0)) t26_14 (.int .i64 0)) fun t31_16 =>
 IfB t31_16 (
 R (.tuple #[(.slice none 0 0), (.bool false)]) w) (
 RunA Tryd.prog (bin .shl 3 (.tmp 34) (.const (.int .u64 4)) t21_13 (.int .u64 4)) fun t35_17 =>
 RunA Tryd.prog (bin .or 3 (.tmp 35) (.tmp 36) t35_17 t26_14) fun t37_18 =>
 RunV Tryd.prog (convert 3 5 t37_18) w fun t38_19 w =>
 RunV Tryd.prog (Instr.buildSlice 48 1 #[(0, t38_19)]) w fun t39_20 w =>
 RunV Tryd.prog (Builtin.append_ #[48, 48] 48 #[t4_4, t39_20]) w fun t40_21 w =>
 RunA Tryd.prog (bin .add 3 (.tmp 16) (.const (.int .i64 2)) t5_5 (.int .i64 2)) fun t17_22 =>
 (a0 : Value) = a0 ∧ (n_6 t40_21 t17_22 w)))) w) (
 R (.tuple #[t4_4, (.bool true)]) w)) [(.slice none 0 0), (.int .i64 0)] w)
theorem sh39_calls {a0 : Value} {w : World} {R : Value → World → Prop} (h : sh39 a0 w R) : CallF Tryd.prog 39 #[a0] w R :=
  calls_of_denF (mk := false) (args := [a0]) (an := (.seq (.ops [0]) (.seq (.seq (.ops [0, 11]) (.cond (.seq (.ops [2, 3]) .leaf) .leaf)) (.seq (.ops [0, 4]) (.seq (.seq (.ops [0, 4, 5]) (.blk (.loop [0] [4, 5] (.seq (.seq (.ops [0, 4, 5, 15]) (.cond .leaf .leaf)) (.seq (.blk (.seq (.draw (.q 0 (.q 1 (.q 2 (.q 4 (.q 5 (.q 6 (.q 7 (.one 3 (.one 8 (.q 9 (.q 10 .fin))))))))))) [0, 4, 5, 6, 7]) (.seq (.seq (.ops [0, 4, 5, 6, 7, 32]) (.cond (.seq (.ops [2, 3]) .leaf) .leaf)) (.ops [0, 4, 5])))) (.ops [0, 4, 5])))))) (.seq (.ops [2, 3]) .leaf)))))) (c := Tryd.f39.body.getD .skip) hent Tryd.func39 rfl (Nat.le_of_ble_eq_true (by kernel_rfl))
    (Eq.mp (show sh39 a0 w R = denF Tryd.prog ent false Tryd.f39 (.seq (.ops [0]) (.seq (.seq (.ops [0, 11]) (.cond (.seq (.ops [2, 3]) .leaf) .leaf)) (.seq (.ops [0, 4]) (.seq (.seq (.ops [0, 4, 5]) (.blk (.loop [0] [4, 5] (.seq (.seq (.ops [0, 4, 5, 15]) (.cond .leaf .leaf)) (.seq (.blk (.seq (.draw (.q 0 (.q 1 (.q 2 (.q 4 (.q 5 (.q 6 (.q 7 (.one 3 (.one 8 (.q 9 (.q 10 .fin))))))))))) [0, 4, 5, 6, 7]) (.seq (.seq (.ops [0, 4, 5, 6, 7, 32]) (.cond (.seq (.ops [2, 3]) .leaf) .leaf)) (.ops [0, 4, 5])))) (.ops [0, 4, 5])))))) (.seq (.ops [2, 3]) .leaf))))) (Tryd.f39.body.getD .skip) [a0] w R by kernel_rfl) h)

/-! ### 41: handbill/num.Digits -/
def sh41 (a0 a1 : Value) (w : World) (R : Value → World → Prop) : Prop :=
 RunA Tryd.prog (bin .lss 3 (.tmp 7) (.const (.int .i64 0)) a0 (.int .i64 0)) fun t8_1 =>
 IfB t8_1 (
 R (.tuple #[(.string ⟨#[]⟩), (.bool false)]) w) (
 RunA Tryd.prog (bin .lss 3 (.tmp 10) (.const (.int .i64 1)) a1 (.int .i64 1)) fun t11_2 =>
 IfB t11_2 (
 R (.tuple #[(.string ⟨#[]⟩), (.bool false)]) w) (
 RunA Tryd.prog (bin .gtr 3 (.tmp 14) (.const (.int .i64 18)) a1 (.int .i64 18)) fun t15_3 =>
 IfB t15_3 (
 R (.tuple #[(.string ⟨#[]⟩), (.bool false)]) w) (
 CallF Tryd.prog 51 #[a0] w fun t18_4 w =>
 RunW Tryd.prog (Builtin.len_ #[9] 3 #[t18_4]) w fun t20_5 =>
 RunA Tryd.prog (bin .gtr 3 (.tmp 20) (.tmp 21) t20_5 a1) fun t22_6 =>
 IfB t22_6 (
 R (.tuple #[(.string ⟨#[]⟩), (.bool false)]) w) (
 RunW Tryd.prog (Builtin.len_ #[9] 3 #[t18_4]) w fun t25_7 =>
 RunA Tryd.prog (bin .sub 3 (.tmp 23) (.tmp 25) a1 t25_7) fun t26_8 =>
 CallF Tryd.prog 52 #[(.string ⟨#[48]⟩), t26_8] w fun t27_9 w =>
 RunA Tryd.prog (bin .add 9 (.tmp 27) (.tmp 28) t27_9 t18_4) fun t29_10 =>
 R (.tuple #[t29_10, (.bool true)]) w))))
theorem sh41_calls {a0 a1 : Value} {w : World} {R : Value → World → Prop} (h : sh41 a0 a1 w R) : CallF Tryd.prog 41 #[a0, a1] w R :=
  calls_of_denF (mk := false) (args := [a0, a1]) (an := (.seq (.ops [0, 1]) (.seq (.seq (.ops [0, 1, 16]) (.cond (.seq (.ops [4, 5]) .leaf) .leaf)) (.seq (.ops [1, 6]) (.seq (.seq (.ops [1, 6, 22]) (.cond (.seq (.ops [4, 5]) .leaf) .leaf)) (.seq (.ops [4, 5]) .leaf)))))) (c := Tryd.f41.body.getD .skip) hent Tryd.func41 rfl (Nat.le_of_ble_eq_true (by kernel_rfl))
    (Eq.mp (show sh41 a0 a1 w R = denF Tryd.prog ent false Tryd.f41 (.seq (.ops [0, 1]) (.seq (.seq (.ops [0, 1, 16]) (.cond (.seq (.ops [4, 5]) .leaf) .leaf)) (.seq (.ops [1, 6]) (.seq (.seq (.ops [1, 6, 22]) (.cond (.seq (.ops [4, 5]) .leaf) .leaf)) (.seq (.ops [4, 5]) .leaf))))) (Tryd.f41.body.getD .skip) [a0, a1] w R by kernel_rfl) h)

/-! ### 42: handbill/hblref1.Digit -/
def sh42 (a0 : Value) (w : World) (R : Value → World → Prop) : Prop :=
 jn 0 (fun w =>
 R (.int .i64 (-1)) w) fun j_1 =>
 RunA Tryd.prog (bin .geq 5 (.tmp 4) (.const (.int .u8 48)) a0 (.int .u8 48)) fun t5_2 =>
 IfB t5_2 (
 RunA Tryd.prog (bin .leq 5 (.tmp 7) (.const (.int .u8 57)) a0 (.int .u8 57)) fun t8_3 =>
 IfB t8_3 (
 RunA Tryd.prog (bin .sub 5 (.tmp 10) (.const (.int .u8 48)) a0 (.int .u8 48)) fun t11_4 =>
 RunV Tryd.prog (convert 5 3 t11_4) w fun t12_5 w =>
 R t12_5 w) (
 jn 0 (fun w =>
 j_1 w) fun j_6 =>
 RunA Tryd.prog (bin .geq 5 (.tmp 14) (.const (.int .u8 97)) a0 (.int .u8 97)) fun t15_7 =>
 IfB t15_7 (
 RunA Tryd.prog (bin .leq 5 (.tmp 17) (.const (.int .u8 102)) a0 (.int .u8 102)) fun t18_8 =>
 IfB t18_8 (
 RunA Tryd.prog (bin .sub 5 (.tmp 20) (.const (.int .u8 97)) a0 (.int .u8 97)) fun t21_9 =>
 RunV Tryd.prog (convert 5 3 t21_9) w fun t22_10 w =>
 RunA Tryd.prog (bin .add 3 (.tmp 22) (.const (.int .i64 10)) t22_10 (.int .i64 10)) fun t23_11 =>
 R t23_11 w) (
 jn 0 (fun w =>
 j_6 w) fun j_12 =>
 RunA Tryd.prog (bin .geq 5 (.tmp 25) (.const (.int .u8 65)) a0 (.int .u8 65)) fun t26_13 =>
 IfB t26_13 (
 RunA Tryd.prog (bin .leq 5 (.tmp 28) (.const (.int .u8 70)) a0 (.int .u8 70)) fun t29_14 =>
 IfB t29_14 (
 RunA Tryd.prog (bin .sub 5 (.tmp 31) (.const (.int .u8 65)) a0 (.int .u8 65)) fun t32_15 =>
 RunV Tryd.prog (convert 5 3 t32_15) w fun t33_16 w =>
 RunA Tryd.prog (bin .add 3 (.tmp 33) (.const (.int .i64 10)) t33_16 (.int .i64 10)) fun t34_17 =>
 R t34_17 w) (
 j_12 w)) (
 j_12 w))) (
 jn 0 (fun w =>
 j_6 w) fun j_18 =>
 RunA Tryd.prog (bin .geq 5 (.tmp 25) (.const (.int .u8 65)) a0 (.int .u8 65)) fun t26_19 =>
 IfB t26_19 (
 RunA Tryd.prog (bin .leq 5 (.tmp 28) (.const (.int .u8 70)) a0 (.int .u8 70)) fun t29_20 =>
 IfB t29_20 (
 RunA Tryd.prog (bin .sub 5 (.tmp 31) (.const (.int .u8 65)) a0 (.int .u8 65)) fun t32_21 =>
 RunV Tryd.prog (convert 5 3 t32_21) w fun t33_22 w =>
 RunA Tryd.prog (bin .add 3 (.tmp 33) (.const (.int .i64 10)) t33_22 (.int .i64 10)) fun t34_23 =>
 R t34_23 w) (
 j_18 w)) (
 j_18 w)))) (
 jn 0 (fun w =>
 j_1 w) fun j_24 =>
 RunA Tryd.prog (bin .geq 5 (.tmp 14) (.const (.int .u8 97)) a0 (.int .u8 97)) fun t15_25 =>
 IfB t15_25 (
 RunA Tryd.prog (bin .leq 5 (.tmp 17) (.const (.int .u8 102)) a0 (.int .u8 102)) fun t18_26 =>
 IfB t18_26 (
 RunA Tryd.prog (bin .sub 5 (.tmp 20) (.const (.int .u8 97)) a0 (.int .u8 97)) fun t21_27 =>
 RunV Tryd.prog (convert 5 3 t21_27) w fun t22_28 w =>
 RunA Tryd.prog (bin .add 3 (.tmp 22) (.const (.int .i64 10)) t22_28 (.int .i64 10)) fun t23_29 =>
 R t23_29 w) (
 jn 0 (fun w =>
 j_24 w) fun j_30 =>
 RunA Tryd.prog (bin .geq 5 (.tmp 25) (.const (.int .u8 65)) a0 (.int .u8 65)) fun t26_31 =>
 IfB t26_31 (
 RunA Tryd.prog (bin .leq 5 (.tmp 28) (.const (.int .u8 70)) a0 (.int .u8 70)) fun t29_32 =>
 IfB t29_32 (
 RunA Tryd.prog (bin .sub 5 (.tmp 31) (.const (.int .u8 65)) a0 (.int .u8 65)) fun t32_33 =>
 RunV Tryd.prog (convert 5 3 t32_33) w fun t33_34 w =>
 RunA Tryd.prog (bin .add 3 (.tmp 33) (.const (.int .i64 10)) t33_34 (.int .i64 10)) fun t34_35 =>
 R t34_35 w) (
 j_30 w)) (
 j_30 w))) (
 jn 0 (fun w =>
 j_24 w) fun j_36 =>
 RunA Tryd.prog (bin .geq 5 (.tmp 25) (.const (.int .u8 65)) a0 (.int .u8 65)) fun t26_37 =>
 IfB t26_37 (
 RunA Tryd.prog (bin .leq 5 (.tmp 28) (.const (.int .u8 70)) a0 (.int .u8 70)) fun t29_38 =>
 IfB t29_38 (
 RunA Tryd.prog (bin .sub 5 (.tmp 31) (.const (.int .u8 65)) a0 (.int .u8 65)) fun t32_39 =>
 RunV Tryd.prog (convert 5 3 t32_39) w fun t33_40 w =>
 RunA Tryd.prog (bin .add 3 (.tmp 33) (.const (.int .i64 10)) t33_40 (.int .i64 10)) fun t34_41 =>
 R t34_41 w) (
 j_36 w)) (
 j_36 w)))
theorem sh42_calls {a0 : Value} {w : World} {R : Value → World → Prop} (h : sh42 a0 w R) : CallF Tryd.prog 42 #[a0] w R :=
  calls_of_denF (mk := false) (args := [a0]) (an := (.seq (.ops [0]) (.seq (.blk (.join [] (.seq (.ops [0, 3]) (.cond (.seq (.ops [2]) .leaf) (.join [] (.seq (.ops [0, 13]) (.cond (.seq (.ops [2]) .leaf) (.join [] (.seq (.ops [0, 24]) (.cond (.seq (.ops [2]) .leaf) .leaf)))))))))) (.seq (.ops [2]) .leaf)))) (c := Tryd.f42.body.getD .skip) hent Tryd.func42 rfl (Nat.le_of_ble_eq_true (by kernel_rfl))
    (Eq.mp (show sh42 a0 w R = denF Tryd.prog ent false Tryd.f42 (.seq (.ops [0]) (.seq (.blk (.join [] (.seq (.ops [0, 3]) (.cond (.seq (.ops [2]) .leaf) (.join [] (.seq (.ops [0, 13]) (.cond (.seq (.ops [2]) .leaf) (.join [] (.seq (.ops [0, 24]) (.cond (.seq (.ops [2]) .leaf) .leaf)))))))))) (.seq (.ops [2]) .leaf))) (Tryd.f42.body.getD .skip) [a0] w R by kernel_rfl) h)

/-! ### 43: (*strings.Builder).WriteByte -/
def sh43 (a0 a1 : Value) (w : World) (R : Value → World → Prop) : Prop :=
 CallF Tryd.prog 53 #[a0] w fun t6_1 w =>
 RunA Tryd.prog (nilV a0) fun t9_2 =>
 RunA Tryd.prog (Instr.fieldAt 64 t9_2 1) fun t10_3 =>
 RunW Tryd.prog (Instr.loadAt 48 t10_3) w fun t11_4 =>
 RunV Tryd.prog (Instr.buildSlice 48 1 #[(0, a1)]) w fun t13_5 w =>
 RunV Tryd.prog (Builtin.append_ #[48, 48] 48 #[t11_4, t13_5]) w fun t14_6 w =>
 RunA Tryd.prog (nilV a0) fun t15_7 =>
 RunA Tryd.prog (Instr.fieldAt 64 t15_7 1) fun t16_8 =>
 RunU Tryd.prog (Instr.storeAt 48 t16_8 t14_6) w fun w =>
 R (.nilIface) w
theorem sh43_calls {a0 a1 : Value} {w : World} {R : Value → World → Prop} (h : sh43 a0 a1 w R) : CallF Tryd.prog 43 #[a0, a1] w R :=
  calls_of_denF (mk := false) (args := [a0, a1]) (an := (.seq (.ops [0, 1]) (.seq (.ops [0, 1]) (.seq (.ops []) (.seq (.ops [4]) .leaf))))) (c := Tryd.f43.body.getD .skip) hent Tryd.func43 rfl (Nat.le_of_ble_eq_true (by kernel_rfl))
    (Eq.mp (show sh43 a0 a1 w R = denF Tryd.prog ent false Tryd.f43 (.seq (.ops [0, 1]) (.seq (.ops [0, 1]) (.seq (.ops []) (.seq (.ops [4]) .leaf)))) (Tryd.f43.body.getD .skip) [a0, a1] w R by kernel_rfl) h)

/-! ### 44: (*strings.Builder).String -/
def sh44 (a0 : Value) (w : World) (R : Value → World → Prop) : Prop :=
 drw (fun S_1 w =>
 RunA Tryd.prog (nilV a0) fun t4_2 =>
 RunA Tryd.prog (Instr.fieldAt 64 t4_2 1) fun t5_3 =>
 RunS Tryd.prog S_1 (Instr.loadAt 48 t5_3) fun t6_4 =>
 RunA Tryd.prog (nilV a0) fun t9_5 =>
 RunA Tryd.prog (Instr.fieldAt 64 t9_5 1) fun t10_6 =>
 RunS Tryd.prog S_1 (Instr.loadAt 48 t10_6) fun t11_7 =>
 RunS Tryd.prog S_1 (Builtin.len_ #[48] 3 #[t11_7]) fun t12_8 =>
 RunV Tryd.prog (Builtin.unsafeSliceData_ #[48] 71 #[t6_4]) w fun t7_9 w =>
 S_1 w ∧ (
 RunV Tryd.prog (Builtin.unsafeString_ #[71, 3] 9 #[t7_9, t12_8]) w fun t13_10 w =>
 R t13_10 w)) w
theorem sh44_calls {a0 : Value} {w : World} {R : Value → World → Prop} (h : sh44 a0 w R) : CallF Tryd.prog 44 #[a0] w R :=
  calls_of_denF (mk := false) (args := [a0]) (an := (.seq (.ops [0]) (.seq (.draw (.q 0 (.q 1 (.q 2 (.q 3 (.q 5 (.q 6 (.q 7 (.q 8 (.q 9 (.one 4 (.one 10 (.q 11 .fin)))))))))))) [2]) .leaf))) (c := Tryd.f44.body.getD .skip) hent Tryd.func44 rfl (Nat.le_of_ble_eq_true (by kernel_rfl))
    (Eq.mp (show sh44 a0 w R = denF Tryd.prog ent false Tryd.f44 (.seq (.ops [0]) (.seq (.draw (.q 0 (.q 1 (.q 2 (.q 3 (.q 5 (.q 6 (.q 7 (.q 8 (.q 9 (.one 4 (.one 10 (.q 11 .fin)))))))))))) [2]) .leaf)) (Tryd.f44.body.getD .skip) [a0] w R by kernel_rfl) h)

/-! ### 48: strings.IndexByte -/
def sh48 (a0 a1 : Value) (w : World) (R : Value → World → Prop) : Prop :=
 CallF Tryd.prog 62 #[a0, a1] w fun t7_1 w =>
 R t7_1 w
theorem sh48_calls {a0 a1 : Value} {w : World} {R : Value → World → Prop} (h : sh48 a0 a1 w R) : CallF Tryd.prog 48 #[a0, a1] w R :=
  calls_of_denF (mk := false) (args := [a0, a1]) (an := (.seq (.ops [0, 1]) (.seq (.ops [4]) .leaf))) (c := Tryd.f48.body.getD .skip) hent Tryd.func48 rfl (Nat.le_of_ble_eq_true (by kernel_rfl))
    (Eq.mp (show sh48 a0 a1 w R = denF Tryd.prog ent false Tryd.f48 (.seq (.ops [0, 1]) (.seq (.ops [4]) .leaf)) (Tryd.f48.body.getD .skip) [a0, a1] w R by kernel_rfl) h)

/-! ### 53: (*strings.Builder).copyCheck -/
def sh53 (a0 : Value) (w : World) (R : Value → World → Prop) : Prop :=
 RunA Tryd.prog (nilV a0) fun t3_1 =>
 RunA Tryd.prog (Instr.fieldAt 64 t3_1 0) fun t4_2 =>
 RunW Tryd.prog (Instr.loadAt 62 t4_2) w fun t5_3 =>
 RunW Tryd.prog (bin .eql 62 (.tmp 5) (.const (.pointer none)) t5_3 (.pointer none)) w fun t6_4 =>
 IfB t6_4 (
 RunV Tryd.prog (convert 62 84 a0) w fun t9_5 w =>
 RunO Tryd.prog (callFunc 68 #[t9_5]) w fun t10_6 w =>
 RunV Tryd.prog (convert 84 62 t10_6) w fun t11_7 w =>
 RunA Tryd.prog (nilV a0) fun t12_8 =>
 RunA Tryd.prog (Instr.fieldAt 64 t12_8 0) fun t13_9 =>
 RunU Tryd.prog (Instr.storeAt 62 t13_9 t11_7) w fun w =>
 R (.tuple #[]) w) (
 RunA Tryd.prog (nilV a0) fun t15_10 =>
 RunA Tryd.prog (Instr.fieldAt 64 t15_10 0) fun t16_11 =>
 RunW Tryd.prog (Instr.loadAt 62 t16_11) w fun t17_12 =>
 RunW Tryd.prog (bin .neq 62 (.tmp 17) (.tmp 18) t17_12 a0) w fun t19_13 =>
 IfB t19_13 (
 False) (
 R (.tuple #[]) w))
theorem sh53_calls {a0 : Value} {w : World} {R : Value → World → Prop} (h : sh53 a0 w R) : CallF Tryd.prog 53 #[a0] w R :=
  calls_of_denF (mk := false) (args := [a0]) (an := (.seq (.ops [0, 6]) (.cond (.ops []) (.seq (.ops [19]) (.cond .leaf .leaf))))) (c := Tryd.f53.body.getD .skip) hent Tryd.func53 rfl (Nat.le_of_ble_eq_true (by kernel_rfl))
    (Eq.mp (show sh53 a0 w R = denF Tryd.prog ent false Tryd.f53 (.seq (.ops [0, 6]) (.cond (.ops []) (.seq (.ops [19]) (.cond .leaf .leaf)))) (Tryd.f53.body.getD .skip) [a0] w R by kernel_rfl) h)

/-! ### 62: internal/stringslite.IndexByte -/
def sh62 (a0 a1 : Value) (w : World) (R : Value → World → Prop) : Prop :=
 RunO Tryd.prog (callFunc 76 #[a0, a1]) w fun t7_1 w =>
 R t7_1 w
theorem sh62_calls {a0 a1 : Value} {w : World} {R : Value → World → Prop} (h : sh62 a0 a1 w R) : CallF Tryd.prog 62 #[a0, a1] w R :=
  calls_of_denF (mk := false) (args := [a0, a1]) (an := (.seq (.ops [0, 1]) (.seq (.ops [4]) .leaf))) (c := Tryd.f62.body.getD .skip) hent Tryd.func62 rfl (Nat.le_of_ble_eq_true (by kernel_rfl))
    (Eq.mp (show sh62 a0 a1 w R = denF Tryd.prog ent false Tryd.f62 (.seq (.ops [0, 1]) (.seq (.ops [4]) .leaf)) (Tryd.f62.body.getD .skip) [a0, a1] w R by kernel_rfl) h)

end Go.Proofs.YtgflkjhljggeiaaDoor
