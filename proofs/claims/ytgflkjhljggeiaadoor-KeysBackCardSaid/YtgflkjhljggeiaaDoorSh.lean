/-
  The shallow forms of the functions, printed by a program (ez.py) out of Lean's print of the loaded functions; each is proved to imply the function's contract: the equations are the kernel's.
-/
import Derived.Test.YtgflkjhljggeiaaDoorProg
import Derived.Test.YtgflkjhljggeiaaDoorEzSound
namespace Go.Proofs.YtgflkjhljggeiaaDoor
open Go Go.Ez
set_option linter.unusedVariables false
set_option maxRecDepth 100000
def ent : List Nat := [6, 7, 8, 9, 10, 14, 16, 18, 19, 20, 21, 22, 23, 24, 25, 26, 27, 28, 29, 30, 36, 37, 38, 39, 40, 41, 43, 44, 48, 51, 52, 53, 62]
theorem hent : ∀ g, memN g ent = true → Enters Tryd.prog g := enters_all (by kernel_rfl)

/-! ### 3: handbill/hbllaw14.KeysApart -/
def sh3 (a0 a1 : Value) (w : World) (R : Value → World → Prop) : Prop :=
 RunV Tryd.prog (Instr.box 23 a0) w fun t2_1 w =>
 RunV Tryd.prog (Instr.box 23 a1) w fun t3_2 w =>
 CallF Tryd.prog 6 #[] w fun t14_3 w =>
 RunA Tryd.prog (Op.unary .not t14_3) fun t15_4 =>
 IfB t15_4 (
 R (.bool false) w) (
 RunA Tryd.prog (Instr.fieldAt 23 t2_1 1) fun t16_5 =>
 RunW Tryd.prog (Instr.loadAt 9 t16_5) w fun t17_6 =>
 RunW Tryd.prog (Builtin.len_ #[9] 3 #[t17_6]) w fun t18_7 =>
 RunA Tryd.prog (Instr.fieldAt 23 t2_1 2) fun t19_8 =>
 RunW Tryd.prog (Instr.loadAt 9 t19_8) w fun t20_9 =>
 RunW Tryd.prog (Builtin.len_ #[9] 3 #[t20_9]) w fun t21_10 =>
 RunA Tryd.prog (bin .add 3 (.tmp 18) (.tmp 21) t18_7 t21_10) fun t22_11 =>
 RunA Tryd.prog (Instr.fieldAt 23 t2_1 3) fun t23_12 =>
 RunW Tryd.prog (Instr.loadAt 9 t23_12) w fun t24_13 =>
 RunW Tryd.prog (Builtin.len_ #[9] 3 #[t24_13]) w fun t25_14 =>
 RunA Tryd.prog (bin .add 3 (.tmp 22) (.tmp 25) t22_11 t25_14) fun t26_15 =>
 RunA Tryd.prog (Instr.fieldAt 23 t2_1 4) fun t27_16 =>
 RunW Tryd.prog (Instr.loadAt 9 t27_16) w fun t28_17 =>
 RunW Tryd.prog (Builtin.len_ #[9] 3 #[t28_17]) w fun t29_18 =>
 RunA Tryd.prog (bin .add 3 (.tmp 26) (.tmp 29) t26_15 t29_18) fun t30_19 =>
 RunA Tryd.prog (bin .gtr 3 (.tmp 30) (.const (.int .i64 3000)) t30_19 (.int .i64 3000)) fun t31_20 =>
 IfB t31_20 (
 CallF Tryd.prog 6 #[] w fun t50_21 w =>
 R t50_21 w) (
 RunA Tryd.prog (Instr.fieldAt 23 t3_2 1) fun t33_22 =>
 RunW Tryd.prog (Instr.loadAt 9 t33_22) w fun t34_23 =>
 RunW Tryd.prog (Builtin.len_ #[9] 3 #[t34_23]) w fun t35_24 =>
 RunA Tryd.prog (Instr.fieldAt 23 t3_2 2) fun t36_25 =>
 RunW Tryd.prog (Instr.loadAt 9 t36_25) w fun t37_26 =>
 RunW Tryd.prog (Builtin.len_ #[9] 3 #[t37_26]) w fun t38_27 =>
 RunA Tryd.prog (bin .add 3 (.tmp 35) (.tmp 38) t35_24 t38_27) fun t39_28 =>
 RunA Tryd.prog (Instr.fieldAt 23 t3_2 3) fun t40_29 =>
 RunW Tryd.prog (Instr.loadAt 9 t40_29) w fun t41_30 =>
 RunW Tryd.prog (Builtin.len_ #[9] 3 #[t41_30]) w fun t42_31 =>
 RunA Tryd.prog (bin .add 3 (.tmp 39) (.tmp 42) t39_28 t42_31) fun t43_32 =>
 RunA Tryd.prog (Instr.fieldAt 23 t3_2 4) fun t44_33 =>
 RunW Tryd.prog (Instr.loadAt 9 t44_33) w fun t45_34 =>
 RunW Tryd.prog (Builtin.len_ #[9] 3 #[t45_34]) w fun t46_35 =>
 RunA Tryd.prog (bin .add 3 (.tmp 43) (.tmp 46) t43_32 t46_35) fun t47_36 =>
 RunA Tryd.prog (bin .gtr 3 (.tmp 47) (.const (.int .i64 3000)) t47_36 (.int .i64 3000)) fun t48_37 =>
 IfB t48_37 (
 CallF Tryd.prog 6 #[] w fun t50_38 w =>
 R t50_38 w) (
 drw (fun S_39 w =>
 RunS Tryd.prog S_39 (Instr.loadAt 23 t2_1) fun t51_40 =>
 RunS Tryd.prog S_39 (Instr.loadAt 23 t3_2) fun t53_41 =>
 CallF Tryd.prog 7 #[t51_40] w fun t52_42 w =>
 S_39 w ∧ (
 CallF Tryd.prog 7 #[t53_41] w fun t54_43 w =>
 CallF Tryd.prog 8 #[t52_42] w fun t57_44 w =>
 RunA Tryd.prog (Instr.extract t57_44 0) fun t58_45 =>
 RunA Tryd.prog (Instr.extract t57_44 1) fun t59_46 =>
 RunV Tryd.prog (Instr.alloc 23 true (.tuple #[])) w fun t7_47 w =>
 RunU Tryd.prog (Instr.storeAt 23 t7_47 t58_45) w fun w =>
 CallF Tryd.prog 8 #[t54_43] w fun t62_48 w =>
 RunA Tryd.prog (Instr.extract t62_48 0) fun t63_49 =>
 RunA Tryd.prog (Instr.extract t62_48 1) fun t64_50 =>
 RunV Tryd.prog (Instr.alloc 23 true (.tuple #[])) w fun t9_51 w =>
 RunU Tryd.prog (Instr.storeAt 23 t9_51 t63_49) w fun w =>
 jn 2 (fun t2_52 t3_53 w =>
 drw (fun S_55 w =>
 RunA Tryd.prog (Instr.fieldAt 23 t2_52 2) fun t78_56 =>
 RunS Tryd.prog S_55 (Instr.loadAt 9 t78_56) fun t79_57 =>
 RunA Tryd.prog (Instr.fieldAt 23 t3_53 2) fun t81_58 =>
 RunS Tryd.prog S_55 (Instr.loadAt 9 t81_58) fun t82_59 =>
 CallF Tryd.prog 9 #[t79_57] w fun t80_60 w =>
 S_55 w ∧ (
 CallF Tryd.prog 9 #[t82_59] w fun t83_61 w =>
 RunA Tryd.prog (Instr.fieldAt 23 t3_53 2) fun t84_62 =>
 RunW Tryd.prog (Instr.loadAt 9 t84_62) w fun t85_63 =>
 RunA Tryd.prog (Instr.fieldAt 23 t3_53 5) fun t86_64 =>
 RunW Tryd.prog (Instr.loadAt 3 t86_64) w fun t87_65 =>
 CallF Tryd.prog 10 #[t85_63, t87_65] w fun t88_66 w =>
 CallF Tryd.prog 6 #[] w fun t89_67 w =>
 IfB t89_67 (
 RunW Tryd.prog (bin .eql 9 (.tmp 91) (.const (.string ⟨#[]⟩)) t80_60 (.string ⟨#[]⟩)) w fun t92_68 =>
 IfB t92_68 (
 RunW Tryd.prog (bin .eql 9 (.tmp 121) (.const (.string ⟨#[]⟩)) t80_60 (.string ⟨#[]⟩)) w fun t122_69 =>
 IfB t122_69 (
 R (.bool true) w) (
 RunW Tryd.prog (bin .eql 9 (.tmp 124) (.const (.string ⟨#[]⟩)) t83_61 (.string ⟨#[]⟩)) w fun t125_70 =>
 IfB t125_70 (
 R (.bool true) w) (
 RunW Tryd.prog (bin .eql 9 (.tmp 128) (.tmp 129) t80_60 t83_61) w fun t130_71 =>
 RunA Tryd.prog (Instr.fieldAt 23 t2_52 2) fun t131_72 =>
 RunW Tryd.prog (Instr.loadAt 9 t131_72) w fun t132_73 =>
 RunA Tryd.prog (Instr.fieldAt 23 t3_53 2) fun t133_74 =>
 RunW Tryd.prog (Instr.loadAt 9 t133_74) w fun t134_75 =>
 RunW Tryd.prog (bin .eql 9 (.tmp 132) (.tmp 134) t132_73 t134_75) w fun t135_76 =>
 RunW Tryd.prog (bin .eql 4 (.tmp 130) (.tmp 135) t130_71 t135_76) w fun t136_77 =>
 R t136_77 w))) (
 RunW Tryd.prog (bin .eql 9 (.tmp 94) (.const (.string ⟨#[]⟩)) t88_66 (.string ⟨#[]⟩)) w fun t95_78 =>
 IfB t95_78 (
 RunW Tryd.prog (bin .eql 9 (.tmp 121) (.const (.string ⟨#[]⟩)) t80_60 (.string ⟨#[]⟩)) w fun t122_79 =>
 IfB t122_79 (
 R (.bool true) w) (
 RunW Tryd.prog (bin .eql 9 (.tmp 124) (.const (.string ⟨#[]⟩)) t83_61 (.string ⟨#[]⟩)) w fun t125_80 =>
 IfB t125_80 (
 R (.bool true) w) (
 RunW Tryd.prog (bin .eql 9 (.tmp 128) (.tmp 129) t80_60 t83_61) w fun t130_81 =>
 RunA Tryd.prog (Instr.fieldAt 23 t2_52 2) fun t131_82 =>
 RunW Tryd.prog (Instr.loadAt 9 t131_82) w fun t132_83 =>
 RunA Tryd.prog (Instr.fieldAt 23 t3_53 2) fun t133_84 =>
 RunW Tryd.prog (Instr.loadAt 9 t133_84) w fun t134_85 =>
 RunW Tryd.prog (bin .eql 9 (.tmp 132) (.tmp 134) t132_83 t134_85) w fun t135_86 =>
 RunW Tryd.prog (bin .eql 4 (.tmp 130) (.tmp 135) t130_81 t135_86) w fun t136_87 =>
 R t136_87 w))) (
 RunA Tryd.prog (Instr.fieldAt 23 t2_52 2) fun t98_88 =>
 RunW Tryd.prog (Instr.loadAt 9 t98_88) w fun t99_89 =>
 RunA Tryd.prog (Instr.fieldAt 23 t3_53 2) fun t100_90 =>
 RunW Tryd.prog (Instr.loadAt 9 t100_90) w fun t101_91 =>
 RunW Tryd.prog (bin .eql 9 (.tmp 99) (.tmp 101) t99_89 t101_91) w fun t102_92 =>
 IfB t102_92 (
 RunW Tryd.prog (bin .eql 9 (.tmp 121) (.const (.string ⟨#[]⟩)) t80_60 (.string ⟨#[]⟩)) w fun t122_93 =>
 IfB t122_93 (
 R (.bool true) w) (
 RunW Tryd.prog (bin .eql 9 (.tmp 124) (.const (.string ⟨#[]⟩)) t83_61 (.string ⟨#[]⟩)) w fun t125_94 =>
 IfB t125_94 (
 R (.bool true) w) (
 RunW Tryd.prog (bin .eql 9 (.tmp 128) (.tmp 129) t80_60 t83_61) w fun t130_95 =>
 RunA Tryd.prog (Instr.fieldAt 23 t2_52 2) fun t131_96 =>
 RunW Tryd.prog (Instr.loadAt 9 t131_96) w fun t132_97 =>
 RunA Tryd.prog (Instr.fieldAt 23 t3_53 2) fun t133_98 =>
 RunW Tryd.prog (Instr.loadAt 9 t133_98) w fun t134_99 =>
 RunW Tryd.prog (bin .eql 9 (.tmp 132) (.tmp 134) t132_97 t134_99) w fun t135_100 =>
 RunW Tryd.prog (bin .eql 4 (.tmp 130) (.tmp 135) t130_95 t135_100) w fun t136_101 =>
 R t136_101 w))) (
 RunW Tryd.prog (Builtin.len_ #[9] 3 #[t88_66]) w fun t106_102 =>
 RunW Tryd.prog (Builtin.len_ #[9] 3 #[t80_60]) w fun t108_103 =>
 RunA Tryd.prog (bin .lss 3 (.tmp 106) (.tmp 108) t106_102 t108_103) fun t109_104 =>
 IfB t109_104 (
 RunW Tryd.prog (bin .eql 9 (.tmp 121) (.const (.string ⟨#[]⟩)) t80_60 (.string ⟨#[]⟩)) w fun t122_105 =>
 IfB t122_105 (
 R (.bool true) w) (
 RunW Tryd.prog (bin .eql 9 (.tmp 124) (.const (.string ⟨#[]⟩)) t83_61 (.string ⟨#[]⟩)) w fun t125_106 =>
 IfB t125_106 (
 R (.bool true) w) (
 RunW Tryd.prog (bin .eql 9 (.tmp 128) (.tmp 129) t80_60 t83_61) w fun t130_107 =>
 RunA Tryd.prog (Instr.fieldAt 23 t2_52 2) fun t131_108 =>
 RunW Tryd.prog (Instr.loadAt 9 t131_108) w fun t132_109 =>
 RunA Tryd.prog (Instr.fieldAt 23 t3_53 2) fun t133_110 =>
 RunW Tryd.prog (Instr.loadAt 9 t133_110) w fun t134_111 =>
 RunW Tryd.prog (bin .eql 9 (.tmp 132) (.tmp 134) t132_109 t134_111) w fun t135_112 =>
 RunW Tryd.prog (bin .eql 4 (.tmp 130) (.tmp 135) t130_107 t135_112) w fun t136_113 =>
 R t136_113 w))) (
 RunW Tryd.prog (Builtin.len_ #[9] 3 #[t80_60]) w fun t114_114 =>
 RunA Tryd.prog (Instr.sliceAt 9 t88_66 none (some t114_114) none) fun t115_115 =>
 RunW Tryd.prog (bin .neq 9 (.tmp 115) (.tmp 116) t115_115 t80_60) w fun t117_116 =>
 IfB t117_116 (
 RunW Tryd.prog (bin .eql 9 (.tmp 121) (.const (.string ⟨#[]⟩)) t80_60 (.string ⟨#[]⟩)) w fun t122_117 =>
 IfB t122_117 (
 R (.bool true) w) (
 RunW Tryd.prog (bin .eql 9 (.tmp 124) (.const (.string ⟨#[]⟩)) t83_61 (.string ⟨#[]⟩)) w fun t125_118 =>
 IfB t125_118 (
 R (.bool true) w) (
 RunW Tryd.prog (bin .eql 9 (.tmp 128) (.tmp 129) t80_60 t83_61) w fun t130_119 =>
 RunA Tryd.prog (Instr.fieldAt 23 t2_52 2) fun t131_120 =>
 RunW Tryd.prog (Instr.loadAt 9 t131_120) w fun t132_121 =>
 RunA Tryd.prog (Instr.fieldAt 23 t3_53 2) fun t133_122 =>
 RunW Tryd.prog (Instr.loadAt 9 t133_122) w fun t134_123 =>
 RunW Tryd.prog (bin .eql 9 (.tmp 132) (.tmp 134) t132_121 t134_123) w fun t135_124 =>
 RunW Tryd.prog (bin .eql 4 (.tmp 130) (.tmp 135) t130_119 t135_124) w fun t136_125 =>
 R t136_125 w))) (
 R (.bool false) w)))))) (
 R (.bool false) w))) w) fun j_54 =>
 IfB t59_46 (
 IfB t64_50 (
 RunW Tryd.prog (bin .eql 9 (.tmp 70) (.tmp 71) t52_42 t54_43) w fun t72_126 =>
 RunW Tryd.prog (Instr.loadAt 23 t7_47) w fun t73_127 =>
 RunW Tryd.prog (Instr.loadAt 23 t9_51) w fun t74_128 =>
 RunW Tryd.prog (bin .eql 23 (.tmp 73) (.tmp 74) t73_127 t74_128) w fun t75_129 =>
 RunW Tryd.prog (bin .neq 4 (.tmp 72) (.tmp 75) t72_126 t75_129) w fun t76_130 =>
 IfB t76_130 (
 R (.bool false) w) (
 j_54 t2_1 t3_2 w)) (
 j_54 t2_1 t3_2 w)) (
 j_54 t2_1 t3_2 w))) w)))
theorem sh3_calls {a0 a1 : Value} {w : World} {R : Value → World → Prop} (h : sh3 a0 a1 w R) : CallF Tryd.prog 3 #[a0, a1] w R :=
  calls_of_denF (mk := false) (args := [a0, a1]) (an := (.seq (.ops [2, 3]) (.seq (.seq (.ops [2, 3, 15]) (.cond (.seq (.ops [4]) .leaf) .leaf)) (.seq (.seq (.ops [2, 3, 49]) (.cond (.seq (.ops [4]) .leaf) .leaf)) (.seq (.draw (.q 0 (.q 2 (.one 1 (.one 3 (.q 4 (.q 5 .fin)))))) [2, 3, 5, 6]) (.seq (.ops [2, 3, 5, 6, 7, 8]) (.seq (.ops [2, 3, 5, 6, 7, 8, 9, 10]) (.seq (.join [2, 3] (.seq (.ops [2, 3, 77]) (.cond (.seq (.ops [4]) .leaf) .leaf))) (.seq (.draw (.q 0 (.q 1 (.q 3 (.q 4 (.one 2 (.one 5 (.q 6 (.q 7 .fin)))))))) [2, 3, 11, 12]) (.seq (.ops [2, 3, 11, 12, 13]) (.seq (.ops [4]) .leaf))))))))))) (c := Tryd.f3.body.getD .skip) hent Tryd.func3 rfl (Nat.le_of_ble_eq_true (by kernel_rfl))
    (Eq.mp (show sh3 a0 a1 w R = denF Tryd.prog ent false Tryd.f3 (.seq (.ops [2, 3]) (.seq (.seq (.ops [2, 3, 15]) (.cond (.seq (.ops [4]) .leaf) .leaf)) (.seq (.seq (.ops [2, 3, 49]) (.cond (.seq (.ops [4]) .leaf) .leaf)) (.seq (.draw (.q 0 (.q 2 (.one 1 (.one 3 (.q 4 (.q 5 .fin)))))) [2, 3, 5, 6]) (.seq (.ops [2, 3, 5, 6, 7, 8]) (.seq (.ops [2, 3, 5, 6, 7, 8, 9, 10]) (.seq (.join [2, 3] (.seq (.ops [2, 3, 77]) (.cond (.seq (.ops [4]) .leaf) .leaf))) (.seq (.draw (.q 0 (.q 1 (.q 3 (.q 4 (.one 2 (.one 5 (.q 6 (.q 7 .fin)))))))) [2, 3, 11, 12]) (.seq (.ops [2, 3, 11, 12, 13]) (.seq (.ops [4]) .leaf)))))))))) (Tryd.f3.body.getD .skip) [a0, a1] w R by kernel_rfl) h)

/-! ### 5: handbill/hbllaw14.KeysBack -/
def sh5 (a0 a1 a2 : Value) (w : World) (R : Value → World → Prop) : Prop :=
 RunV Tryd.prog (Instr.box 23 a0) w fun t3_1 w =>
 CallF Tryd.prog 6 #[] w fun t17_2 w =>
 RunA Tryd.prog (Op.unary .not t17_2) fun t18_3 =>
 IfB t18_3 (
 R (.bool false) w) (
 RunA Tryd.prog (Instr.fieldAt 23 t3_1 1) fun t19_4 =>
 RunW Tryd.prog (Instr.loadAt 9 t19_4) w fun t20_5 =>
 RunW Tryd.prog (Builtin.len_ #[9] 3 #[t20_5]) w fun t21_6 =>
 RunA Tryd.prog (bin .gtr 3 (.tmp 21) (.const (.int .i64 3000)) t21_6 (.int .i64 3000)) fun t22_7 =>
 IfB t22_7 (
 CallF Tryd.prog 6 #[] w fun t46_8 w =>
 R t46_8 w) (
 RunA Tryd.prog (Instr.fieldAt 23 t3_1 2) fun t24_9 =>
 RunW Tryd.prog (Instr.loadAt 9 t24_9) w fun t25_10 =>
 RunW Tryd.prog (Builtin.len_ #[9] 3 #[t25_10]) w fun t26_11 =>
 RunA Tryd.prog (bin .gtr 3 (.tmp 26) (.const (.int .i64 3000)) t26_11 (.int .i64 3000)) fun t27_12 =>
 IfB t27_12 (
 CallF Tryd.prog 6 #[] w fun t46_13 w =>
 R t46_13 w) (
 RunA Tryd.prog (Instr.fieldAt 23 t3_1 3) fun t30_14 =>
 RunW Tryd.prog (Instr.loadAt 9 t30_14) w fun t31_15 =>
 RunW Tryd.prog (Builtin.len_ #[9] 3 #[t31_15]) w fun t32_16 =>
 RunA Tryd.prog (bin .gtr 3 (.tmp 32) (.const (.int .i64 3000)) t32_16 (.int .i64 3000)) fun t33_17 =>
 IfB t33_17 (
 CallF Tryd.prog 6 #[] w fun t46_18 w =>
 R t46_18 w) (
 RunA Tryd.prog (Instr.fieldAt 23 t3_1 4) fun t36_19 =>
 RunW Tryd.prog (Instr.loadAt 9 t36_19) w fun t37_20 =>
 RunW Tryd.prog (Builtin.len_ #[9] 3 #[t37_20]) w fun t38_21 =>
 RunA Tryd.prog (bin .gtr 3 (.tmp 38) (.const (.int .i64 3000)) t38_21 (.int .i64 3000)) fun t39_22 =>
 IfB t39_22 (
 CallF Tryd.prog 6 #[] w fun t46_23 w =>
 R t46_23 w) (
 RunW Tryd.prog (Builtin.len_ #[9] 3 #[a1]) w fun t43_24 =>
 RunA Tryd.prog (bin .gtr 3 (.tmp 43) (.const (.int .i64 3000)) t43_24 (.int .i64 3000)) fun t44_25 =>
 IfB t44_25 (
 CallF Tryd.prog 6 #[] w fun t46_26 w =>
 R t46_26 w) (
 RunW Tryd.prog (Instr.loadAt 23 t3_1) w fun t47_27 =>
 CallF Tryd.prog 7 #[t47_27] w fun t48_28 w =>
 CallF Tryd.prog 8 #[t48_28] w fun t51_29 w =>
 RunA Tryd.prog (Instr.extract t51_29 0) fun t52_30 =>
 RunA Tryd.prog (Instr.extract t51_29 1) fun t53_31 =>
 RunV Tryd.prog (Instr.alloc 23 true (.tuple #[])) w fun t8_32 w =>
 RunU Tryd.prog (Instr.storeAt 23 t8_32 t52_30) w fun w =>
 jn 3 (fun t1_33 t2_34 t3_35 w =>
 CallF Tryd.prog 8 #[t1_33] w fun t76_37 w =>
 RunA Tryd.prog (Instr.extract t76_37 0) fun t77_38 =>
 RunA Tryd.prog (Instr.extract t76_37 1) fun t78_39 =>
 RunV Tryd.prog (Instr.alloc 23 true (.tuple #[])) w fun t10_40 w =>
 RunU Tryd.prog (Instr.storeAt 23 t10_40 t77_38) w fun w =>
 jn 2 (fun t2_41 t3_42 w =>
 drw (fun S_44 w =>
 RunA Tryd.prog (Instr.fieldAt 23 t3_42 2) fun t95_45 =>
 RunS Tryd.prog S_44 (Instr.loadAt 9 t95_45) fun t96_46 =>
 RunA Tryd.prog (Instr.fieldAt 23 t3_42 5) fun t97_47 =>
 RunS Tryd.prog S_44 (Instr.loadAt 3 t97_47) fun t98_48 =>
 RunA Tryd.prog (Instr.fieldAt 23 t3_42 2) fun t100_49 =>
 RunS Tryd.prog S_44 (Instr.loadAt 9 t100_49) fun t101_50 =>
 CallF Tryd.prog 10 #[t96_46, t98_48] w fun t99_51 w =>
 S_44 w ∧ (
 CallF Tryd.prog 10 #[t101_50, t2_41] w fun t103_52 w =>
 jn 1 (fun t3_53 w =>
 drw (fun S_55 w =>
 RunA Tryd.prog (Instr.fieldAt 23 t3_53 2) fun t127_56 =>
 RunS Tryd.prog S_55 (Instr.loadAt 9 t127_56) fun t128_57 =>
 RunA Tryd.prog (Instr.fieldAt 23 t3_53 5) fun t129_58 =>
 RunS Tryd.prog S_55 (Instr.loadAt 3 t129_58) fun t130_59 =>
 RunA Tryd.prog (Instr.fieldAt 23 t3_53 1) fun t132_60 =>
 RunS Tryd.prog S_55 (Instr.loadAt 9 t132_60) fun t133_61 =>
 RunA Tryd.prog (Instr.fieldAt 23 t3_53 2) fun t134_62 =>
 RunS Tryd.prog S_55 (Instr.loadAt 9 t134_62) fun t135_63 =>
 RunA Tryd.prog (Instr.fieldAt 23 t3_53 1) fun t137_64 =>
 RunS Tryd.prog S_55 (Instr.loadAt 9 t137_64) fun t138_65 =>
 RunA Tryd.prog (Instr.fieldAt 23 t3_53 2) fun t139_66 =>
 RunS Tryd.prog S_55 (Instr.loadAt 9 t139_66) fun t140_67 =>
 RunA Tryd.prog (Instr.fieldAt 23 t3_53 5) fun t141_68 =>
 RunS Tryd.prog S_55 (Instr.loadAt 3 t141_68) fun t142_69 =>
 RunA Tryd.prog (Instr.fieldAt 23 t3_53 1) fun t144_70 =>
 RunS Tryd.prog S_55 (Instr.loadAt 9 t144_70) fun t145_71 =>
 RunA Tryd.prog (Instr.fieldAt 23 t3_53 3) fun t146_72 =>
 RunS Tryd.prog S_55 (Instr.loadAt 9 t146_72) fun t147_73 =>
 CallF Tryd.prog 10 #[t128_57, t130_59] w fun t131_74 w =>
 S_55 w ∧ (
 CallF Tryd.prog 20 #[t133_61, t135_63] w fun t136_75 w =>
 S_55 w ∧ (
 CallF Tryd.prog 21 #[t138_65, t140_67, t142_69] w fun t143_76 w =>
 S_55 w ∧ (
 CallF Tryd.prog 22 #[t145_71, t147_73] w fun t148_77 w =>
 RunV Tryd.prog (Instr.buildSlice 41 4 #[(0, t131_74), (1, t136_75), (2, t143_76), (3, t148_77)]) w fun t149_78 w =>
 drw (fun S_79 w =>
 RunA Tryd.prog (Instr.fieldAt 23 t3_53 2) fun t150_80 =>
 RunS Tryd.prog S_79 (Instr.loadAt 9 t150_80) fun t151_81 =>
 RunA Tryd.prog (Instr.fieldAt 23 t3_53 1) fun t153_82 =>
 RunS Tryd.prog S_79 (Instr.loadAt 9 t153_82) fun t154_83 =>
 RunA Tryd.prog (Instr.fieldAt 23 t3_53 1) fun t156_84 =>
 RunS Tryd.prog S_79 (Instr.loadAt 9 t156_84) fun t157_85 =>
 RunA Tryd.prog (Instr.fieldAt 23 t3_53 2) fun t158_86 =>
 RunS Tryd.prog S_79 (Instr.loadAt 9 t158_86) fun t159_87 =>
 RunA Tryd.prog (Instr.fieldAt 23 t3_53 1) fun t161_88 =>
 RunS Tryd.prog S_79 (Instr.loadAt 9 t161_88) fun t162_89 =>
 CallF Tryd.prog 9 #[t151_81] w fun t152_90 w =>
 S_79 w ∧ (
 CallF Tryd.prog 16 #[t154_83] w fun t155_91 w =>
 S_79 w ∧ (
 CallF Tryd.prog 19 #[t157_85, t159_87] w fun t160_92 w =>
 S_79 w ∧ (
 CallF Tryd.prog 18 #[t162_89] w fun t163_93 w =>
 RunV Tryd.prog (Instr.buildSlice 41 4 #[(0, t152_90), (1, t155_91), (2, t160_92), (3, t163_93)]) w fun t164_94 w =>
 lp 1 (fun n_96 t16_95 w =>
 RunW Tryd.prog (Builtin.len_ #[41] 3 #[t149_78]) w fun t167_97 =>
 RunA Tryd.prog (bin .lss 3 (.tmp 165) (.tmp 167) t16_95 t167_97) fun t168_98 =>
 IfB t168_98 (
 jn 3 (fun t14_99 t15_100 t16_101 w =>
 RunA Tryd.prog (bin .add 3 (.tmp 169) (.const (.int .i64 1)) t16_101 (.int .i64 1)) fun t170_103 =>
 (t14_99 : Value) = t149_78 ∧ ((t15_100 : Value) = t164_94 ∧ (n_96 t170_103 w))) fun j_102 =>
 drw (fun S_104 w =>
 RunA Tryd.prog (Instr.indexAt 41 t149_78 t16_95) fun t173_105 =>
 RunS Tryd.prog S_104 (Instr.loadAt 9 t173_105) fun t174_106 =>
 RunS Tryd.prog S_104 (bin .neq 9 (.tmp 174) (.const (.string ⟨#[]⟩)) t174_106 (.string ⟨#[]⟩)) fun t175_107 =>
 IfB t175_107 (
 RunA Tryd.prog (Instr.indexAt 41 t164_94 t16_95) fun t179_108 =>
 RunS Tryd.prog S_104 (Instr.loadAt 9 t179_108) fun t180_109 =>
 RunS Tryd.prog S_104 (bin .eql 9 (.tmp 180) (.const (.string ⟨#[]⟩)) t180_109 (.string ⟨#[]⟩)) fun t181_110 =>
 IfB t181_110 (
 R (.bool false) w) (
 RunA Tryd.prog (Instr.indexAt 41 t149_78 t16_95) fun t185_111 =>
 RunS Tryd.prog S_104 (Instr.loadAt 9 t185_111) fun t186_112 =>
 RunS Tryd.prog S_104 (Builtin.len_ #[9] 3 #[t186_112]) fun t187_113 =>
 RunA Tryd.prog (Instr.indexAt 41 t164_94 t16_95) fun t190_114 =>
 RunS Tryd.prog S_104 (Instr.loadAt 9 t190_114) fun t191_115 =>
 RunS Tryd.prog S_104 (Builtin.len_ #[9] 3 #[t191_115]) fun t192_116 =>
 RunA Tryd.prog (bin .leq 3 (.tmp 187) (.tmp 192) t187_113 t192_116) fun t193_117 =>
 IfB t193_117 (
 R (.bool false) w) (
 RunA Tryd.prog (Instr.indexAt 41 t149_78 t16_95) fun t198_118 =>
 RunS Tryd.prog S_104 (Instr.loadAt 9 t198_118) fun t199_119 =>
 RunA Tryd.prog (Instr.indexAt 41 t164_94 t16_95) fun t202_120 =>
 RunS Tryd.prog S_104 (Instr.loadAt 9 t202_120) fun t203_121 =>
 RunS Tryd.prog S_104 (Builtin.len_ #[9] 3 #[t203_121]) fun t204_122 =>
 RunA Tryd.prog (Instr.sliceAt 9 t199_119 none (some t204_122) none) fun t205_123 =>
 RunA Tryd.prog (Instr.indexAt 41 t164_94 t16_95) fun t208_124 =>
 RunS Tryd.prog S_104 (Instr.loadAt 9 t208_124) fun t209_125 =>
 RunS Tryd.prog S_104 (bin .neq 9 (.tmp 205) (.tmp 209) t205_123 t209_125) fun t210_126 =>
 IfB t210_126 (
 R (.bool false) w) (
 j_102 t149_78 t164_94 t16_95 w)))) (
 j_102 t149_78 t164_94 t16_95 w)) w) (
 CallF Tryd.prog 6 #[] w fun t213_127 w =>
 R t213_127 w)) [(.int .i64 0)] w)))) w)))) w) fun j_54 =>
 RunW Tryd.prog (bin .neq 9 (.tmp 104) (.const (.string ⟨#[]⟩)) t99_51 (.string ⟨#[]⟩)) w fun t105_128 =>
 IfB t105_128 (
 RunW Tryd.prog (bin .neq 9 (.tmp 107) (.const (.string ⟨#[]⟩)) t103_52 (.string ⟨#[]⟩)) w fun t108_129 =>
 IfB t108_129 (
 RunA Tryd.prog (bin .lss 9 (.tmp 111) (.tmp 112) t99_51 t103_52) fun t113_130 =>
 RunA Tryd.prog (Instr.fieldAt 23 t3_42 5) fun t114_131 =>
 RunW Tryd.prog (Instr.loadAt 3 t114_131) w fun t115_132 =>
 RunA Tryd.prog (bin .lss 3 (.tmp 115) (.tmp 116) t115_132 t2_41) fun t117_133 =>
 RunW Tryd.prog (bin .neq 4 (.tmp 113) (.tmp 117) t113_130 t117_133) w fun t118_134 =>
 IfB t118_134 (
 R (.bool false) w) (
 RunW Tryd.prog (Builtin.len_ #[9] 3 #[t99_51]) w fun t121_135 =>
 RunW Tryd.prog (Builtin.len_ #[9] 3 #[t103_52]) w fun t123_136 =>
 RunW Tryd.prog (bin .neq 3 (.tmp 121) (.tmp 123) t121_135 t123_136) w fun t124_137 =>
 IfB t124_137 (
 R (.bool false) w) (
 j_54 t3_42 w))) (
 j_54 t3_42 w)) (
 j_54 t3_42 w))) w) fun j_43 =>
 IfB t78_39 (
 RunW Tryd.prog (Instr.loadAt 23 t10_40) w fun t81_138 =>
 CallF Tryd.prog 7 #[t81_138] w fun t82_139 w =>
 RunW Tryd.prog (bin .neq 9 (.tmp 82) (.tmp 83) t82_139 t1_33) w fun t84_140 =>
 IfB t84_140 (
 R (.bool false) w) (
 RunA Tryd.prog (Op.unary .not t78_39) fun t88_141 =>
 IfB t88_141 (
 RunW Tryd.prog (Instr.loadAt 23 t10_40) w fun t90_142 =>
 RunV Tryd.prog (Instr.build 23 #[]) w fun t91_143 w =>
 RunW Tryd.prog (bin .neq 23 (.tmp 90) (.tmp 91) t90_142 t91_143) w fun t92_144 =>
 IfB t92_144 (
 R (.bool false) w) (
 j_43 t2_34 t3_35 w)) (
 j_43 t2_34 t3_35 w))) (
 RunA Tryd.prog (Op.unary .not t78_39) fun t88_145 =>
 IfB t88_145 (
 RunW Tryd.prog (Instr.loadAt 23 t10_40) w fun t90_146 =>
 RunV Tryd.prog (Instr.build 23 #[]) w fun t91_147 w =>
 RunW Tryd.prog (bin .neq 23 (.tmp 90) (.tmp 91) t90_146 t91_147) w fun t92_148 =>
 IfB t92_148 (
 R (.bool false) w) (
 j_43 t2_34 t3_35 w)) (
 j_43 t2_34 t3_35 w))) fun j_36 =>
 RunW Tryd.prog (bin .neq 9 (.tmp 55) (.const (.string ⟨#[]⟩)) t48_28 (.string ⟨#[]⟩)) w fun t56_149 =>
 RunW Tryd.prog (bin .neq 4 (.tmp 54) (.tmp 56) t53_31 t56_149) w fun t57_150 =>
 IfB t57_150 (
 R (.bool false) w) (
 IfB t53_31 (
 RunW Tryd.prog (Instr.loadAt 23 t8_32) w fun t61_151 =>
 CallF Tryd.prog 7 #[t61_151] w fun t62_152 w =>
 RunW Tryd.prog (bin .neq 9 (.tmp 62) (.tmp 63) t62_152 t48_28) w fun t64_153 =>
 IfB t64_153 (
 R (.bool false) w) (
 RunA Tryd.prog (Instr.fieldAt 23 t8_32 0) fun t66_154 =>
 RunW Tryd.prog (Instr.loadAt 3 t66_154) w fun t67_155 =>
 RunA Tryd.prog (Instr.fieldAt 23 t3_1 0) fun t68_156 =>
 RunW Tryd.prog (Instr.loadAt 3 t68_156) w fun t69_157 =>
 RunW Tryd.prog (bin .neq 3 (.tmp 67) (.tmp 69) t67_155 t69_157) w fun t70_158 =>
 IfB t70_158 (
 R (.bool false) w) (
 j_36 a1 a2 t3_1 w))) (
 j_36 a1 a2 t3_1 w))))))))
theorem sh5_calls {a0 a1 a2 : Value} {w : World} {R : Value → World → Prop} (h : sh5 a0 a1 a2 w R) : CallF Tryd.prog 5 #[a0, a1, a2] w R :=
  calls_of_denF (mk := false) (args := [a0, a1, a2]) (an := (.seq (.ops [1, 2, 3]) (.seq (.seq (.ops [1, 2, 3, 18]) (.cond (.seq (.ops [6]) .leaf) .leaf)) (.seq (.seq (.ops [1, 2, 3, 45]) (.cond (.seq (.ops [6]) .leaf) .leaf)) (.seq (.ops [1, 2, 3, 7]) (.seq (.ops [1, 2, 3, 7, 8, 9]) (.seq (.join [1, 2, 3] (.seq (.ops [1, 2, 3, 73]) (.cond (.seq (.ops [6]) .leaf) .leaf))) (.seq (.ops [1, 2, 3, 10, 11]) (.seq (.join [2, 3] (.seq (.ops [2, 3, 94]) (.cond (.seq (.ops [6]) .leaf) .leaf))) (.seq (.draw (.q 0 (.q 1 (.q 2 (.q 3 (.q 5 (.q 6 (.q 7 (.one 4 (.one 8 (.q 9 (.q 10 .fin))))))))))) [2, 3, 12, 13]) (.seq (.join [3] (.seq (.ops [3, 126]) (.cond (.seq (.ops [6]) .leaf) .leaf))) (.seq (.draw (.q 0 (.q 1 (.q 2 (.q 3 (.q 5 (.q 6 (.q 7 (.q 8 (.q 10 (.q 11 (.q 12 (.q 13 (.q 14 (.q 15 (.q 17 (.q 18 (.q 19 (.q 20 (.one 4 (.one 9 (.one 16 (.one 21 (.one 22 (.q 23 .fin)))))))))))))))))))))))) [3, 14]) (.seq (.draw (.q 0 (.q 1 (.q 3 (.q 4 (.q 6 (.q 7 (.q 8 (.q 9 (.q 11 (.q 12 (.one 2 (.one 5 (.one 10 (.one 13 (.one 14 (.q 15 .fin)))))))))))))))) [14, 15]) (.seq (.seq (.ops [14, 15, 16]) (.blk (.loop [14, 15] [16] (.seq (.seq (.ops [14, 15, 16, 168]) (.cond .leaf .leaf)) (.seq (.blk (.join [14, 15, 16] (.seq (.draw (.q 0 (.q 1 (.q 2 (.q 3 (.q 4 (.q 5 (.sp 6 (.q 6 (.q 7 (.q 8 (.q 9 (.q 10 (.q 11 (.sp 12 (.q 12 (.q 13 (.q 14 (.q 15 (.q 16 (.q 17 (.q 18 (.q 19 (.q 20 (.q 21 (.q 22 (.q 23 (.q 24 (.q 25 (.q 26 (.q 27 (.q 28 (.q 29 (.q 30 (.q 31 (.q 32 (.q 33 (.q 34 (.q 35 (.q 36 (.q 37 (.q 38 (.q 39 (.q 40 (.q 41 .fin)))))))))))))))))))))))))))))) (.q 12 (.q 13 (.q 14 (.q 15 (.q 16 (.q 17 (.q 18 (.q 19 (.q 20 (.q 21 (.q 22 (.q 23 (.q 24 (.sp 25 (.q 25 (.q 26 (.q 27 (.q 28 (.q 29 (.q 30 (.q 31 (.q 32 (.q 33 (.q 34 (.q 35 (.q 36 (.q 37 (.q 38 (.q 39 (.q 40 (.q 41 .fin))))))))))))))))) (.q 25 (.q 26 (.q 27 (.q 28 (.q 29 (.q 30 (.q 31 (.q 32 (.q 33 (.q 34 (.q 35 (.q 36 (.q 37 (.q 38 (.q 39 (.q 40 (.q 41 .fin)))))))))))))))))))))))))))))))))))))) (.q 6 (.q 7 (.q 8 (.q 9 (.q 10 (.q 11 (.q 12 (.q 13 (.q 14 (.q 15 (.q 16 (.q 17 (.q 18 (.q 19 (.q 20 (.q 21 (.q 22 (.q 23 (.q 24 (.q 25 (.q 26 (.q 27 (.q 28 (.q 29 (.q 30 (.q 31 (.q 32 (.q 33 (.q 34 (.q 35 (.q 36 (.q 37 (.q 38 (.q 39 (.q 40 (.q 41 .fin))))))))))))))))))))))))))))))))))))))))))) [14, 15, 16, 212]) (.cond (.seq (.ops [6]) .leaf) .leaf)))) (.ops [14, 15, 16])))))) (.seq (.ops [6]) .leaf))))))))))))))) (c := Tryd.f5.body.getD .skip) hent Tryd.func5 rfl (Nat.le_of_ble_eq_true (by kernel_rfl))
    (Eq.mp (show sh5 a0 a1 a2 w R = denF Tryd.prog ent false Tryd.f5 (.seq (.ops [1, 2, 3]) (.seq (.seq (.ops [1, 2, 3, 18]) (.cond (.seq (.ops [6]) .leaf) .leaf)) (.seq (.seq (.ops [1, 2, 3, 45]) (.cond (.seq (.ops [6]) .leaf) .leaf)) (.seq (.ops [1, 2, 3, 7]) (.seq (.ops [1, 2, 3, 7, 8, 9]) (.seq (.join [1, 2, 3] (.seq (.ops [1, 2, 3, 73]) (.cond (.seq (.ops [6]) .leaf) .leaf))) (.seq (.ops [1, 2, 3, 10, 11]) (.seq (.join [2, 3] (.seq (.ops [2, 3, 94]) (.cond (.seq (.ops [6]) .leaf) .leaf))) (.seq (.draw (.q 0 (.q 1 (.q 2 (.q 3 (.q 5 (.q 6 (.q 7 (.one 4 (.one 8 (.q 9 (.q 10 .fin))))))))))) [2, 3, 12, 13]) (.seq (.join [3] (.seq (.ops [3, 126]) (.cond (.seq (.ops [6]) .leaf) .leaf))) (.seq (.draw (.q 0 (.q 1 (.q 2 (.q 3 (.q 5 (.q 6 (.q 7 (.q 8 (.q 10 (.q 11 (.q 12 (.q 13 (.q 14 (.q 15 (.q 17 (.q 18 (.q 19 (.q 20 (.one 4 (.one 9 (.one 16 (.one 21 (.one 22 (.q 23 .fin)))))))))))))))))))))))) [3, 14]) (.seq (.draw (.q 0 (.q 1 (.q 3 (.q 4 (.q 6 (.q 7 (.q 8 (.q 9 (.q 11 (.q 12 (.one 2 (.one 5 (.one 10 (.one 13 (.one 14 (.q 15 .fin)))))))))))))))) [14, 15]) (.seq (.seq (.ops [14, 15, 16]) (.blk (.loop [14, 15] [16] (.seq (.seq (.ops [14, 15, 16, 168]) (.cond .leaf .leaf)) (.seq (.blk (.join [14, 15, 16] (.seq (.draw (.q 0 (.q 1 (.q 2 (.q 3 (.q 4 (.q 5 (.sp 6 (.q 6 (.q 7 (.q 8 (.q 9 (.q 10 (.q 11 (.sp 12 (.q 12 (.q 13 (.q 14 (.q 15 (.q 16 (.q 17 (.q 18 (.q 19 (.q 20 (.q 21 (.q 22 (.q 23 (.q 24 (.q 25 (.q 26 (.q 27 (.q 28 (.q 29 (.q 30 (.q 31 (.q 32 (.q 33 (.q 34 (.q 35 (.q 36 (.q 37 (.q 38 (.q 39 (.q 40 (.q 41 .fin)))))))))))))))))))))))))))))) (.q 12 (.q 13 (.q 14 (.q 15 (.q 16 (.q 17 (.q 18 (.q 19 (.q 20 (.q 21 (.q 22 (.q 23 (.q 24 (.sp 25 (.q 25 (.q 26 (.q 27 (.q 28 (.q 29 (.q 30 (.q 31 (.q 32 (.q 33 (.q 34 (.q 35 (.q 36 (.q 37 (.q 38 (.q 39 (.q 40 (.q 41 .fin))))))))))))))))) (.q 25 (.q 26 (.q 27 (.q 28 (.q 29 (.q 30 (.q 31 (.q 32 (.q 33 (.q 34 (.q 35 (.q 36 (.q 37 (.q 38 (.q 39 (.q 40 (.q 41 .fin)))))))))))))))))))))))))))))))))))))) (.q 6 (.q 7 (.q 8 (.q 9 (.q 10 (.q 11 (.q 12 (.q 13 (.q 14 (.q 15 (.q 16 (.q 17 (.q 18 (.q 19 (.q 20 (.q 21 (.q 22 (.q 23 (.q 24 (.q 25 (.q 26 (.q 27 (.q 28 (.q 29 (.q 30 (.q 31 (.q 32 (.q 33 (.q 34 (.q 35 (.q 36 (.q 37 (.q 38 (.q 39 (.q 40 (.q 41 .fin))))))))))))))))))))))))))))))))))))))))))) [14, 15, 16, 212]) (.cond (.seq (.ops [6]) .leaf) .leaf)))) (.ops [14, 15, 16])))))) (.seq (.ops [6]) .leaf)))))))))))))) (Tryd.f5.body.getD .skip) [a0, a1, a2] w R by kernel_rfl) h)

/-! ### 6: handbill/hbllaw14.first -/
def sh6 (w : World) (R : Value → World → Prop) : Prop :=
 CallF Tryd.prog 8 #[(.string ⟨#[115, 47, 117, 47, 120]⟩)] w fun t4_1 w =>
 RunA Tryd.prog (Instr.extract t4_1 0) fun t5_2 =>
 RunA Tryd.prog (Instr.extract t4_1 1) fun t6_3 =>
 RunV Tryd.prog (Instr.alloc 23 true (.tuple #[])) w fun t1_4 w =>
 RunU Tryd.prog (Instr.storeAt 23 t1_4 t5_2) w fun w =>
 CallF Tryd.prog 10 #[(.string ⟨#[120]⟩), (.int .i64 7)] w fun t7_5 w =>
 RunW Tryd.prog (bin .eql 9 (.tmp 7) (.const (.string ⟨#[101, 47, 120, 47, 48, 48, 48, 48, 48, 55]⟩)) t7_5 (.string ⟨#[101, 47, 120, 47, 48, 48, 48, 48, 48, 55]⟩)) w fun t8_6 =>
 IfB t8_6 (
 IfB t6_3 (
 RunA Tryd.prog (Instr.fieldAt 23 t1_4 0) fun t13_7 =>
 RunW Tryd.prog (Instr.loadAt 3 t13_7) w fun t14_8 =>
 RunW Tryd.prog (bin .eql 3 (.tmp 14) (.const (.int .i64 4)) t14_8 (.int .i64 4)) w fun t15_9 =>
 IfB t15_9 (
 RunA Tryd.prog (Instr.fieldAt 23 t1_4 1) fun t18_10 =>
 RunW Tryd.prog (Instr.loadAt 9 t18_10) w fun t19_11 =>
 RunW Tryd.prog (bin .eql 9 (.tmp 19) (.const (.string ⟨#[117]⟩)) t19_11 (.string ⟨#[117]⟩)) w fun t20_12 =>
 IfB t20_12 (
 RunA Tryd.prog (Instr.fieldAt 23 t1_4 2) fun t23_13 =>
 RunW Tryd.prog (Instr.loadAt 9 t23_13) w fun t24_14 =>
 RunW Tryd.prog (bin .eql 9 (.tmp 24) (.const (.string ⟨#[120]⟩)) t24_14 (.string ⟨#[120]⟩)) w fun t25_15 =>
 R t25_15 w) (
 R (.bool false) w)) (
 R (.bool false) w)) (
 R (.bool false) w)) (
 R (.bool false) w)
theorem sh6_calls {w : World} {R : Value → World → Prop} (h : sh6  w R) : CallF Tryd.prog 6 #[] w R :=
  calls_of_denF (mk := false) (args := []) (an := (.seq (.ops []) (.seq (.ops [1, 2]) (.seq (.ops [0]) .leaf)))) (c := Tryd.f6.body.getD .skip) hent Tryd.func6 rfl (Nat.le_of_ble_eq_true (by kernel_rfl))
    (Eq.mp (show sh6  w R = denF Tryd.prog ent false Tryd.f6 (.seq (.ops []) (.seq (.ops [1, 2]) (.seq (.ops [0]) .leaf))) (Tryd.f6.body.getD .skip) [] w R by kernel_rfl) h)

/-! ### 7: handbill/hbllaw14.key -/
def sh7 (a0 : Value) (w : World) (R : Value → World → Prop) : Prop :=
 RunV Tryd.prog (Instr.box 23 a0) w fun t1_1 w =>
 RunA Tryd.prog (Instr.fieldAt 23 t1_1 0) fun t3_2 =>
 RunW Tryd.prog (Instr.loadAt 3 t3_2) w fun t4_3 =>
 RunW Tryd.prog (bin .eql 3 (.tmp 4) (.const (.int .i64 1)) t4_3 (.int .i64 1)) w fun t6_4 =>
 IfB t6_4 (
 RunA Tryd.prog (Instr.fieldAt 23 t1_1 2) fun t7_5 =>
 RunW Tryd.prog (Instr.loadAt 9 t7_5) w fun t8_6 =>
 CallF Tryd.prog 23 #[t8_6] w fun t9_7 w =>
 R t9_7 w) (
 RunW Tryd.prog (bin .eql 3 (.tmp 4) (.const (.int .i64 2)) t4_3 (.int .i64 2)) w fun t11_8 =>
 IfB t11_8 (
 RunA Tryd.prog (Instr.fieldAt 23 t1_1 2) fun t12_9 =>
 RunW Tryd.prog (Instr.loadAt 9 t12_9) w fun t13_10 =>
 RunA Tryd.prog (Instr.fieldAt 23 t1_1 5) fun t14_11 =>
 RunW Tryd.prog (Instr.loadAt 3 t14_11) w fun t15_12 =>
 CallF Tryd.prog 10 #[t13_10, t15_12] w fun t16_13 w =>
 R t16_13 w) (
 RunW Tryd.prog (bin .eql 3 (.tmp 4) (.const (.int .i64 3)) t4_3 (.int .i64 3)) w fun t18_14 =>
 IfB t18_14 (
 RunA Tryd.prog (Instr.fieldAt 23 t1_1 2) fun t19_15 =>
 RunW Tryd.prog (Instr.loadAt 9 t19_15) w fun t20_16 =>
 RunA Tryd.prog (Instr.fieldAt 23 t1_1 4) fun t21_17 =>
 RunW Tryd.prog (Instr.loadAt 9 t21_17) w fun t22_18 =>
 CallF Tryd.prog 24 #[t20_16, t22_18] w fun t23_19 w =>
 R t23_19 w) (
 RunW Tryd.prog (bin .eql 3 (.tmp 4) (.const (.int .i64 4)) t4_3 (.int .i64 4)) w fun t25_20 =>
 IfB t25_20 (
 RunA Tryd.prog (Instr.fieldAt 23 t1_1 1) fun t26_21 =>
 RunW Tryd.prog (Instr.loadAt 9 t26_21) w fun t27_22 =>
 RunA Tryd.prog (Instr.fieldAt 23 t1_1 2) fun t28_23 =>
 RunW Tryd.prog (Instr.loadAt 9 t28_23) w fun t29_24 =>
 CallF Tryd.prog 20 #[t27_22, t29_24] w fun t30_25 w =>
 R t30_25 w) (
 RunW Tryd.prog (bin .eql 3 (.tmp 4) (.const (.int .i64 5)) t4_3 (.int .i64 5)) w fun t32_26 =>
 IfB t32_26 (
 RunA Tryd.prog (Instr.fieldAt 23 t1_1 1) fun t33_27 =>
 RunW Tryd.prog (Instr.loadAt 9 t33_27) w fun t34_28 =>
 RunA Tryd.prog (Instr.fieldAt 23 t1_1 3) fun t35_29 =>
 RunW Tryd.prog (Instr.loadAt 9 t35_29) w fun t36_30 =>
 CallF Tryd.prog 22 #[t34_28, t36_30] w fun t37_31 w =>
 R t37_31 w) (
 RunW Tryd.prog (bin .eql 3 (.tmp 4) (.const (.int .i64 6)) t4_3 (.int .i64 6)) w fun t39_32 =>
 IfB t39_32 (
 RunA Tryd.prog (Instr.fieldAt 23 t1_1 1) fun t40_33 =>
 RunW Tryd.prog (Instr.loadAt 9 t40_33) w fun t41_34 =>
 RunA Tryd.prog (Instr.fieldAt 23 t1_1 2) fun t42_35 =>
 RunW Tryd.prog (Instr.loadAt 9 t42_35) w fun t43_36 =>
 RunA Tryd.prog (Instr.fieldAt 23 t1_1 5) fun t44_37 =>
 RunW Tryd.prog (Instr.loadAt 3 t44_37) w fun t45_38 =>
 CallF Tryd.prog 21 #[t41_34, t43_36, t45_38] w fun t46_39 w =>
 R t46_39 w) (
 RunW Tryd.prog (bin .eql 3 (.tmp 4) (.const (.int .i64 7)) t4_3 (.int .i64 7)) w fun t48_40 =>
 IfB t48_40 (
 RunA Tryd.prog (Instr.fieldAt 23 t1_1 1) fun t49_41 =>
 RunW Tryd.prog (Instr.loadAt 9 t49_41) w fun t50_42 =>
 RunA Tryd.prog (Instr.fieldAt 23 t1_1 2) fun t51_43 =>
 RunW Tryd.prog (Instr.loadAt 9 t51_43) w fun t52_44 =>
 CallF Tryd.prog 25 #[t50_42, t52_44] w fun t53_45 w =>
 R t53_45 w) (
 R (.string ⟨#[]⟩) w)))))))
theorem sh7_calls {a0 : Value} {w : World} {R : Value → World → Prop} (h : sh7 a0 w R) : CallF Tryd.prog 7 #[a0] w R :=
  calls_of_denF (mk := false) (args := [a0]) (an := (.seq (.ops [1]) (.seq (.seq (.ops [1, 4]) (.blk (.seq (.ops [1, 4, 5]) (.cond (.seq (.ops [2]) .leaf) (.seq (.ops [1, 4, 10]) (.cond (.seq (.ops [2]) .leaf) (.seq (.ops [1, 4, 17]) (.cond (.seq (.ops [2]) .leaf) (.seq (.ops [1, 4, 24]) (.cond (.seq (.ops [2]) .leaf) (.seq (.ops [1, 4, 31]) (.cond (.seq (.ops [2]) .leaf) (.seq (.ops [1, 4, 38]) (.cond (.seq (.ops [2]) .leaf) (.seq (.ops [1, 47]) (.cond (.seq (.ops [2]) .leaf) .leaf)))))))))))))))) (.seq (.ops [2]) .leaf)))) (c := Tryd.f7.body.getD .skip) hent Tryd.func7 rfl (Nat.le_of_ble_eq_true (by kernel_rfl))
    (Eq.mp (show sh7 a0 w R = denF Tryd.prog ent false Tryd.f7 (.seq (.ops [1]) (.seq (.seq (.ops [1, 4]) (.blk (.seq (.ops [1, 4, 5]) (.cond (.seq (.ops [2]) .leaf) (.seq (.ops [1, 4, 10]) (.cond (.seq (.ops [2]) .leaf) (.seq (.ops [1, 4, 17]) (.cond (.seq (.ops [2]) .leaf) (.seq (.ops [1, 4, 24]) (.cond (.seq (.ops [2]) .leaf) (.seq (.ops [1, 4, 31]) (.cond (.seq (.ops [2]) .leaf) (.seq (.ops [1, 4, 38]) (.cond (.seq (.ops [2]) .leaf) (.seq (.ops [1, 47]) (.cond (.seq (.ops [2]) .leaf) .leaf)))))))))))))))) (.seq (.ops [2]) .leaf))) (Tryd.f7.body.getD .skip) [a0] w R by kernel_rfl) h)

/-! ### 8: handbill/keys.Parse -/
def sh8 (a0 : Value) (w : World) (R : Value → World → Prop) : Prop :=
 RunV Tryd.prog (Instr.alloc 23 true (.tuple #[])) w fun t2_1 w =>
 CallF Tryd.prog 26 #[a0] w fun t6_2 w =>
 RunV Tryd.prog (Instr.alloc 23 true (.tuple #[])) w fun t4_3 w =>
 RunU Tryd.prog (Instr.storeAt 23 t4_3 t6_2) w fun w =>
 RunA Tryd.prog (Instr.fieldAt 23 t4_3 0) fun t7_4 =>
 RunW Tryd.prog (Instr.loadAt 3 t7_4) w fun t8_5 =>
 RunW Tryd.prog (bin .eql 3 (.tmp 8) (.const (.int .i64 0)) t8_5 (.int .i64 0)) w fun t9_6 =>
 IfB t9_6 (
 RunV Tryd.prog (Instr.build 23 #[]) w fun t16_7 w =>
 RunU Tryd.prog (Instr.storeAt 23 t2_1 t16_7) w fun w =>
 RunW Tryd.prog (Instr.loadAt 23 t2_1) w fun t2_8 =>
 R (.tuple #[t2_8, (.bool false)]) w) (
 RunW Tryd.prog (Instr.loadAt 23 t4_3) w fun t11_9 =>
 CallF Tryd.prog 27 #[t11_9] w fun t12_10 w =>
 RunW Tryd.prog (bin .neq 9 (.tmp 12) (.tmp 13) t12_10 a0) w fun t14_11 =>
 IfB t14_11 (
 RunV Tryd.prog (Instr.build 23 #[]) w fun t16_12 w =>
 RunU Tryd.prog (Instr.storeAt 23 t2_1 t16_12) w fun w =>
 RunW Tryd.prog (Instr.loadAt 23 t2_1) w fun t2_13 =>
 R (.tuple #[t2_13, (.bool false)]) w) (
 RunW Tryd.prog (Instr.loadAt 23 t4_3) w fun t17_14 =>
 RunU Tryd.prog (Instr.storeAt 23 t2_1 t17_14) w fun w =>
 RunW Tryd.prog (Instr.loadAt 23 t2_1) w fun t2_15 =>
 R (.tuple #[t2_15, (.bool true)]) w))
theorem sh8_calls {a0 : Value} {w : World} {R : Value → World → Prop} (h : sh8 a0 w R) : CallF Tryd.prog 8 #[a0] w R :=
  calls_of_denF (mk := false) (args := [a0]) (an := (.seq (.ops [0, 2]) (.seq (.ops [0, 2, 4]) (.seq (.seq (.ops [2, 4, 15]) (.cond (.seq (.ops [2, 3]) .leaf) .leaf)) (.seq (.ops [2, 3]) .leaf))))) (c := Tryd.f8.body.getD .skip) hent Tryd.func8 rfl (Nat.le_of_ble_eq_true (by kernel_rfl))
    (Eq.mp (show sh8 a0 w R = denF Tryd.prog ent false Tryd.f8 (.seq (.ops [0, 2]) (.seq (.ops [0, 2, 4]) (.seq (.seq (.ops [2, 4, 15]) (.cond (.seq (.ops [2, 3]) .leaf) .leaf)) (.seq (.ops [2, 3]) .leaf)))) (Tryd.f8.body.getD .skip) [a0] w R by kernel_rfl) h)

/-! ### 9: handbill/keys.Entries -/
def sh9 (a0 : Value) (w : World) (R : Value → World → Prop) : Prop :=
 RunV Tryd.prog (Instr.buildSlice 41 1 #[(0, a0)]) w fun t4_1 w =>
 CallF Tryd.prog 29 #[(.string ⟨#[101]⟩), t4_1] w fun t5_2 w =>
 CallF Tryd.prog 28 #[t5_2] w fun t6_3 w =>
 R t6_3 w
theorem sh9_calls {a0 : Value} {w : World} {R : Value → World → Prop} (h : sh9 a0 w R) : CallF Tryd.prog 9 #[a0] w R :=
  calls_of_denF (mk := false) (args := [a0]) (an := (.seq (.ops [0]) (.seq (.ops [2]) .leaf))) (c := Tryd.f9.body.getD .skip) hent Tryd.func9 rfl (Nat.le_of_ble_eq_true (by kernel_rfl))
    (Eq.mp (show sh9 a0 w R = denF Tryd.prog ent false Tryd.f9 (.seq (.ops [0]) (.seq (.ops [2]) .leaf)) (Tryd.f9.body.getD .skip) [a0] w R by kernel_rfl) h)

/-! ### 10: handbill/keys.Entry -/
def sh10 (a0 a1 : Value) (w : World) (R : Value → World → Prop) : Prop :=
 RunV Tryd.prog (Instr.buildSlice 41 1 #[(0, a0)]) w fun t6_1 w =>
 CallF Tryd.prog 29 #[(.string ⟨#[101]⟩), t6_1] w fun t7_2 w =>
 CallF Tryd.prog 30 #[t7_2, a1] w fun t9_3 w =>
 R t9_3 w
theorem sh10_calls {a0 a1 : Value} {w : World} {R : Value → World → Prop} (h : sh10 a0 a1 w R) : CallF Tryd.prog 10 #[a0, a1] w R :=
  calls_of_denF (mk := false) (args := [a0, a1]) (an := (.seq (.ops [0, 1]) (.seq (.ops [4]) .leaf))) (c := Tryd.f10.body.getD .skip) hent Tryd.func10 rfl (Nat.le_of_ble_eq_true (by kernel_rfl))
    (Eq.mp (show sh10 a0 a1 w R = denF Tryd.prog ent false Tryd.f10 (.seq (.ops [0, 1]) (.seq (.ops [4]) .leaf)) (Tryd.f10.body.getD .skip) [a0, a1] w R by kernel_rfl) h)

/-! ### 14: handbill/keys.Name -/
def sh14 (a0 : Value) (w : World) (R : Value → World → Prop) : Prop :=
 RunW Tryd.prog (Builtin.len_ #[9] 3 #[a0]) w fun t6_1 =>
 lp 1 (fun n_3 t7_2 w =>
 RunA Tryd.prog (bin .lss 3 (.tmp 7) (.tmp 6) t7_2 t6_1) fun t8_4 =>
 IfB t8_4 (
 RunA Tryd.prog (Instr.index 9 a0 t7_2) fun t12_5 =>
 jn 3 (fun t0_6 t6_7 t7_8 w =>
 RunA Tryd.prog (bin .add 3 (.tmp 7) (.const (.int .i64 1)) t7_8 (.int .i64 1)) fun t32_10 =>
 (t0_6 : Value) = a0 ∧ ((t6_7 : Value) = t6_1 ∧ (n_3 t32_10 w))) fun j_9 =>
 RunA Tryd.prog (bin .geq 5 (.tmp 13) (.const (.int .u8 97)) t12_5 (.int .u8 97)) fun t14_11 =>
 IfB t14_11 (
 RunA Tryd.prog (bin .leq 5 (.tmp 16) (.const (.int .u8 122)) t12_5 (.int .u8 122)) fun t17_12 =>
 IfB t17_12 (
 RunA Tryd.prog (Op.unary .not (.bool true)) fun t31_13 =>
 IfB t31_13 (
 R (.bool false) w) (
 j_9 a0 t6_1 t7_2 w)) (
 RunA Tryd.prog (bin .geq 5 (.tmp 20) (.const (.int .u8 48)) t12_5 (.int .u8 48)) fun t21_14 =>
 IfB t21_14 (
 RunA Tryd.prog (bin .leq 5 (.tmp 23) (.const (.int .u8 57)) t12_5 (.int .u8 57)) fun t24_15 =>
 IfB t24_15 (
 RunA Tryd.prog (Op.unary .not (.bool true)) fun t31_16 =>
 IfB t31_16 (
 R (.bool false) w) (
 j_9 a0 t6_1 t7_2 w)) (
 RunW Tryd.prog (bin .eql 5 (.tmp 28) (.const (.int .u8 45)) t12_5 (.int .u8 45)) w fun t29_17 =>
 RunA Tryd.prog (Op.unary .not t29_17) fun t31_18 =>
 IfB t31_18 (
 R (.bool false) w) (
 j_9 a0 t6_1 t7_2 w))) (
 RunW Tryd.prog (bin .eql 5 (.tmp 28) (.const (.int .u8 45)) t12_5 (.int .u8 45)) w fun t29_19 =>
 RunA Tryd.prog (Op.unary .not t29_19) fun t31_20 =>
 IfB t31_20 (
 R (.bool false) w) (
 j_9 a0 t6_1 t7_2 w)))) (
 RunA Tryd.prog (bin .geq 5 (.tmp 20) (.const (.int .u8 48)) t12_5 (.int .u8 48)) fun t21_21 =>
 IfB t21_21 (
 RunA Tryd.prog (bin .leq 5 (.tmp 23) (.const (.int .u8 57)) t12_5 (.int .u8 57)) fun t24_22 =>
 IfB t24_22 (
 RunA Tryd.prog (Op.unary .not (.bool true)) fun t31_23 =>
 IfB t31_23 (
 R (.bool false) w) (
 j_9 a0 t6_1 t7_2 w)) (
 RunW Tryd.prog (bin .eql 5 (.tmp 28) (.const (.int .u8 45)) t12_5 (.int .u8 45)) w fun t29_24 =>
 RunA Tryd.prog (Op.unary .not t29_24) fun t31_25 =>
 IfB t31_25 (
 R (.bool false) w) (
 j_9 a0 t6_1 t7_2 w))) (
 RunW Tryd.prog (bin .eql 5 (.tmp 28) (.const (.int .u8 45)) t12_5 (.int .u8 45)) w fun t29_26 =>
 RunA Tryd.prog (Op.unary .not t29_26) fun t31_27 =>
 IfB t31_27 (
 R (.bool false) w) (
 j_9 a0 t6_1 t7_2 w)))) (
 RunW Tryd.prog (bin .neq 9 (.tmp 33) (.const (.string ⟨#[]⟩)) a0 (.string ⟨#[]⟩)) w fun t34_28 =>
 IfB t34_28 (
 RunW Tryd.prog (Builtin.len_ #[9] 3 #[a0]) w fun t37_29 =>
 RunA Tryd.prog (bin .leq 3 (.tmp 37) (.const (.int .i64 20)) t37_29 (.int .i64 20)) fun t38_30 =>
 R t38_30 w) (
 R (.bool false) w))) [(.int .i64 0)] w
theorem sh14_calls {a0 : Value} {w : World} {R : Value → World → Prop} (h : sh14 a0 w R) : CallF Tryd.prog 14 #[a0] w R :=
  calls_of_denF (mk := false) (args := [a0]) (an := (.seq (.ops [0]) (.seq (.seq (.ops [0, 6, 7]) (.blk (.loop [0, 6] [7] (.seq (.ops [0, 6, 7, 8]) (.seq (.cond .leaf .leaf) (.seq (.blk (.seq (.ops [0, 3, 6, 7]) (.seq (.ops [0, 4, 6, 7]) (.join [0, 6, 7] (.seq (.ops [0, 6, 7, 31]) (.cond (.seq (.ops [2]) .leaf) .leaf)))))) (.ops [0, 6, 7]))))))) (.seq (.ops [2]) .leaf)))) (c := Tryd.f14.body.getD .skip) hent Tryd.func14 rfl (Nat.le_of_ble_eq_true (by kernel_rfl))
    (Eq.mp (show sh14 a0 w R = denF Tryd.prog ent false Tryd.f14 (.seq (.ops [0]) (.seq (.seq (.ops [0, 6, 7]) (.blk (.loop [0, 6] [7] (.seq (.ops [0, 6, 7, 8]) (.seq (.cond .leaf .leaf) (.seq (.blk (.seq (.ops [0, 3, 6, 7]) (.seq (.ops [0, 4, 6, 7]) (.join [0, 6, 7] (.seq (.ops [0, 6, 7, 31]) (.cond (.seq (.ops [2]) .leaf) .leaf)))))) (.ops [0, 6, 7]))))))) (.seq (.ops [2]) .leaf))) (Tryd.f14.body.getD .skip) [a0] w R by kernel_rfl) h)

/-! ### 16: handbill/keys.Subs -/
def sh16 (a0 : Value) (w : World) (R : Value → World → Prop) : Prop :=
 RunV Tryd.prog (Instr.buildSlice 41 1 #[(0, a0)]) w fun t4_1 w =>
 CallF Tryd.prog 29 #[(.string ⟨#[115]⟩), t4_1] w fun t5_2 w =>
 CallF Tryd.prog 28 #[t5_2] w fun t6_3 w =>
 R t6_3 w
theorem sh16_calls {a0 : Value} {w : World} {R : Value → World → Prop} (h : sh16 a0 w R) : CallF Tryd.prog 16 #[a0] w R :=
  calls_of_denF (mk := false) (args := [a0]) (an := (.seq (.ops [0]) (.seq (.ops [2]) .leaf))) (c := Tryd.f16.body.getD .skip) hent Tryd.func16 rfl (Nat.le_of_ble_eq_true (by kernel_rfl))
    (Eq.mp (show sh16 a0 w R = denF Tryd.prog ent false Tryd.f16 (.seq (.ops [0]) (.seq (.ops [2]) .leaf)) (Tryd.f16.body.getD .skip) [a0] w R by kernel_rfl) h)

/-! ### 18: handbill/keys.Folders -/
def sh18 (a0 : Value) (w : World) (R : Value → World → Prop) : Prop :=
 RunV Tryd.prog (Instr.buildSlice 41 1 #[(0, a0)]) w fun t4_1 w =>
 CallF Tryd.prog 29 #[(.string ⟨#[100]⟩), t4_1] w fun t5_2 w =>
 CallF Tryd.prog 28 #[t5_2] w fun t6_3 w =>
 R t6_3 w
theorem sh18_calls {a0 : Value} {w : World} {R : Value → World → Prop} (h : sh18 a0 w R) : CallF Tryd.prog 18 #[a0] w R :=
  calls_of_denF (mk := false) (args := [a0]) (an := (.seq (.ops [0]) (.seq (.ops [2]) .leaf))) (c := Tryd.f18.body.getD .skip) hent Tryd.func18 rfl (Nat.le_of_ble_eq_true (by kernel_rfl))
    (Eq.mp (show sh18 a0 w R = denF Tryd.prog ent false Tryd.f18 (.seq (.ops [0]) (.seq (.ops [2]) .leaf)) (Tryd.f18.body.getD .skip) [a0] w R by kernel_rfl) h)

/-! ### 19: handbill/keys.States -/
def sh19 (a0 a1 : Value) (w : World) (R : Value → World → Prop) : Prop :=
 RunV Tryd.prog (Instr.buildSlice 41 2 #[(0, a0), (1, a1)]) w fun t7_1 w =>
 CallF Tryd.prog 29 #[(.string ⟨#[114]⟩), t7_1] w fun t8_2 w =>
 CallF Tryd.prog 28 #[t8_2] w fun t9_3 w =>
 R t9_3 w
theorem sh19_calls {a0 a1 : Value} {w : World} {R : Value → World → Prop} (h : sh19 a0 a1 w R) : CallF Tryd.prog 19 #[a0, a1] w R :=
  calls_of_denF (mk := false) (args := [a0, a1]) (an := (.seq (.ops [0, 1]) (.seq (.ops [4]) .leaf))) (c := Tryd.f19.body.getD .skip) hent Tryd.func19 rfl (Nat.le_of_ble_eq_true (by kernel_rfl))
    (Eq.mp (show sh19 a0 a1 w R = denF Tryd.prog ent false Tryd.f19 (.seq (.ops [0, 1]) (.seq (.ops [4]) .leaf)) (Tryd.f19.body.getD .skip) [a0, a1] w R by kernel_rfl) h)

/-! ### 20: handbill/keys.Sub -/
def sh20 (a0 a1 : Value) (w : World) (R : Value → World → Prop) : Prop :=
 RunV Tryd.prog (Instr.buildSlice 41 2 #[(0, a0), (1, a1)]) w fun t7_1 w =>
 CallF Tryd.prog 29 #[(.string ⟨#[115]⟩), t7_1] w fun t8_2 w =>
 R t8_2 w
theorem sh20_calls {a0 a1 : Value} {w : World} {R : Value → World → Prop} (h : sh20 a0 a1 w R) : CallF Tryd.prog 20 #[a0, a1] w R :=
  calls_of_denF (mk := false) (args := [a0, a1]) (an := (.seq (.ops [0, 1]) (.seq (.ops [4]) .leaf))) (c := Tryd.f20.body.getD .skip) hent Tryd.func20 rfl (Nat.le_of_ble_eq_true (by kernel_rfl))
    (Eq.mp (show sh20 a0 a1 w R = denF Tryd.prog ent false Tryd.f20 (.seq (.ops [0, 1]) (.seq (.ops [4]) .leaf)) (Tryd.f20.body.getD .skip) [a0, a1] w R by kernel_rfl) h)

/-! ### 21: handbill/keys.State -/
def sh21 (a0 a1 a2 : Value) (w : World) (R : Value → World → Prop) : Prop :=
 RunV Tryd.prog (Instr.buildSlice 41 2 #[(0, a0), (1, a1)]) w fun t9_1 w =>
 CallF Tryd.prog 29 #[(.string ⟨#[114]⟩), t9_1] w fun t10_2 w =>
 CallF Tryd.prog 30 #[t10_2, a2] w fun t12_3 w =>
 R t12_3 w
theorem sh21_calls {a0 a1 a2 : Value} {w : World} {R : Value → World → Prop} (h : sh21 a0 a1 a2 w R) : CallF Tryd.prog 21 #[a0, a1, a2] w R :=
  calls_of_denF (mk := false) (args := [a0, a1, a2]) (an := (.seq (.ops [0, 1, 2]) (.seq (.ops [6]) .leaf))) (c := Tryd.f21.body.getD .skip) hent Tryd.func21 rfl (Nat.le_of_ble_eq_true (by kernel_rfl))
    (Eq.mp (show sh21 a0 a1 a2 w R = denF Tryd.prog ent false Tryd.f21 (.seq (.ops [0, 1, 2]) (.seq (.ops [6]) .leaf)) (Tryd.f21.body.getD .skip) [a0, a1, a2] w R by kernel_rfl) h)

/-! ### 22: handbill/keys.Folder -/
def sh22 (a0 a1 : Value) (w : World) (R : Value → World → Prop) : Prop :=
 RunV Tryd.prog (Instr.buildSlice 41 2 #[(0, a0), (1, a1)]) w fun t7_1 w =>
 CallF Tryd.prog 29 #[(.string ⟨#[100]⟩), t7_1] w fun t8_2 w =>
 R t8_2 w
theorem sh22_calls {a0 a1 : Value} {w : World} {R : Value → World → Prop} (h : sh22 a0 a1 w R) : CallF Tryd.prog 22 #[a0, a1] w R :=
  calls_of_denF (mk := false) (args := [a0, a1]) (an := (.seq (.ops [0, 1]) (.seq (.ops [4]) .leaf))) (c := Tryd.f22.body.getD .skip) hent Tryd.func22 rfl (Nat.le_of_ble_eq_true (by kernel_rfl))
    (Eq.mp (show sh22 a0 a1 w R = denF Tryd.prog ent false Tryd.f22 (.seq (.ops [0, 1]) (.seq (.ops [4]) .leaf)) (Tryd.f22.body.getD .skip) [a0, a1] w R by kernel_rfl) h)

/-! ### 23: handbill/keys.Feed -/
def sh23 (a0 : Value) (w : World) (R : Value → World → Prop) : Prop :=
 RunV Tryd.prog (Instr.buildSlice 41 1 #[(0, a0)]) w fun t4_1 w =>
 CallF Tryd.prog 29 #[(.string ⟨#[102]⟩), t4_1] w fun t5_2 w =>
 R t5_2 w
theorem sh23_calls {a0 : Value} {w : World} {R : Value → World → Prop} (h : sh23 a0 w R) : CallF Tryd.prog 23 #[a0] w R :=
  calls_of_denF (mk := false) (args := [a0]) (an := (.seq (.ops [0]) (.seq (.ops [2]) .leaf))) (c := Tryd.f23.body.getD .skip) hent Tryd.func23 rfl (Nat.le_of_ble_eq_true (by kernel_rfl))
    (Eq.mp (show sh23 a0 w R = denF Tryd.prog ent false Tryd.f23 (.seq (.ops [0]) (.seq (.ops [2]) .leaf)) (Tryd.f23.body.getD .skip) [a0] w R by kernel_rfl) h)

/-! ### 24: handbill/keys.Guid -/
def sh24 (a0 a1 : Value) (w : World) (R : Value → World → Prop) : Prop :=
 RunV Tryd.prog (Instr.buildSlice 41 1 #[(0, a0)]) w fun t7_1 w =>
 CallF Tryd.prog 29 #[(.string ⟨#[103]⟩), t7_1] w fun t8_2 w =>
 RunW Tryd.prog (bin .eql 9 (.tmp 9) (.const (.string ⟨#[]⟩)) t8_2 (.string ⟨#[]⟩)) w fun t10_3 =>
 IfB t10_3 (
 R (.string ⟨#[]⟩) w) (
 RunW Tryd.prog (bin .eql 9 (.tmp 12) (.const (.string ⟨#[]⟩)) a1 (.string ⟨#[]⟩)) w fun t13_4 =>
 IfB t13_4 (
 R (.string ⟨#[]⟩) w) (
 RunW Tryd.prog (Builtin.len_ #[9] 3 #[a1]) w fun t17_5 =>
 RunA Tryd.prog (bin .gtr 3 (.tmp 17) (.const (.int .i64 500)) t17_5 (.int .i64 500)) fun t18_6 =>
 IfB t18_6 (
 R (.string ⟨#[]⟩) w) (
 RunA Tryd.prog (bin .add 9 (.tmp 20) (.const (.string ⟨#[47]⟩)) t8_2 (.string ⟨#[47]⟩)) fun t21_7 =>
 RunV Tryd.prog (convert 9 48 a1) w fun t23_8 w =>
 CallF Tryd.prog 36 #[t23_8] w fun t24_9 w =>
 RunA Tryd.prog (bin .add 9 (.tmp 21) (.tmp 24) t21_7 t24_9) fun t25_10 =>
 R t25_10 w)))
theorem sh24_calls {a0 a1 : Value} {w : World} {R : Value → World → Prop} (h : sh24 a0 a1 w R) : CallF Tryd.prog 24 #[a0, a1] w R :=
  calls_of_denF (mk := false) (args := [a0, a1]) (an := (.seq (.ops [0, 1]) (.seq (.ops [1, 5]) (.seq (.seq (.ops [1, 5, 19]) (.cond (.seq (.ops [4]) .leaf) .leaf)) (.seq (.ops [4]) .leaf))))) (c := Tryd.f24.body.getD .skip) hent Tryd.func24 rfl (Nat.le_of_ble_eq_true (by kernel_rfl))
    (Eq.mp (show sh24 a0 a1 w R = denF Tryd.prog ent false Tryd.f24 (.seq (.ops [0, 1]) (.seq (.ops [1, 5]) (.seq (.seq (.ops [1, 5, 19]) (.cond (.seq (.ops [4]) .leaf) .leaf)) (.seq (.ops [4]) .leaf)))) (Tryd.f24.body.getD .skip) [a0, a1] w R by kernel_rfl) h)

/-! ### 25: handbill/keys.Marks -/
def sh25 (a0 a1 : Value) (w : World) (R : Value → World → Prop) : Prop :=
 RunV Tryd.prog (Instr.buildSlice 41 2 #[(0, a0), (1, a1)]) w fun t7_1 w =>
 CallF Tryd.prog 29 #[(.string ⟨#[109]⟩), t7_1] w fun t8_2 w =>
 R t8_2 w
theorem sh25_calls {a0 a1 : Value} {w : World} {R : Value → World → Prop} (h : sh25 a0 a1 w R) : CallF Tryd.prog 25 #[a0, a1] w R :=
  calls_of_denF (mk := false) (args := [a0, a1]) (an := (.seq (.ops [0, 1]) (.seq (.ops [4]) .leaf))) (c := Tryd.f25.body.getD .skip) hent Tryd.func25 rfl (Nat.le_of_ble_eq_true (by kernel_rfl))
    (Eq.mp (show sh25 a0 a1 w R = denF Tryd.prog ent false Tryd.f25 (.seq (.ops [0, 1]) (.seq (.ops [4]) .leaf)) (Tryd.f25.body.getD .skip) [a0, a1] w R by kernel_rfl) h)

/-! ### 26: handbill/keys.split -/
def sh26 (a0 : Value) (w : World) (R : Value → World → Prop) : Prop :=
 RunV Tryd.prog (Instr.alloc 23 true (.tuple #[])) w fun t2_1 w =>
 CallF Tryd.prog 37 #[a0, (.string ⟨#[47]⟩)] w fun t11_2 w =>
 RunV Tryd.prog (Instr.buildSlice 41 4 #[(0, (.string ⟨#[]⟩)), (1, (.string ⟨#[]⟩)), (2, (.string ⟨#[]⟩)), (3, (.string ⟨#[]⟩))]) w fun t12_3 w =>
 RunV Tryd.prog (Builtin.append_ #[41, 41] 41 #[t11_2, t12_3]) w fun t13_4 w =>
 RunA Tryd.prog (Instr.indexAt 41 t13_4 (.int .i64 2)) fun t16_5 =>
 RunW Tryd.prog (Instr.loadAt 9 t16_5) w fun t17_6 =>
 CallF Tryd.prog 38 #[t17_6] w fun t18_7 w =>
 RunA Tryd.prog (Instr.extract t18_7 0) fun t19_8 =>
 RunA Tryd.prog (Instr.extract t18_7 1) fun t20_9 =>
 RunA Tryd.prog (Instr.indexAt 41 t13_4 (.int .i64 3)) fun t23_10 =>
 RunW Tryd.prog (Instr.loadAt 9 t23_10) w fun t24_11 =>
 CallF Tryd.prog 38 #[t24_11] w fun t25_12 w =>
 RunA Tryd.prog (Instr.extract t25_12 0) fun t26_13 =>
 RunA Tryd.prog (Instr.extract t25_12 1) fun t27_14 =>
 RunA Tryd.prog (Instr.indexAt 41 t13_4 (.int .i64 2)) fun t30_15 =>
 RunW Tryd.prog (Instr.loadAt 9 t30_15) w fun t31_16 =>
 CallF Tryd.prog 39 #[t31_16] w fun t32_17 w =>
 RunA Tryd.prog (Instr.extract t32_17 0) fun t33_18 =>
 RunA Tryd.prog (Instr.extract t32_17 1) fun t34_19 =>
 RunA Tryd.prog (Instr.indexAt 41 t13_4 (.int .i64 0)) fun t36_20 =>
 RunW Tryd.prog (Instr.loadAt 9 t36_20) w fun t37_21 =>
 RunW Tryd.prog (bin .eql 9 (.tmp 37) (.const (.string ⟨#[102]⟩)) t37_21 (.string ⟨#[102]⟩)) w fun t39_22 =>
 IfB t39_22 (
 RunA Tryd.prog (Instr.indexAt 41 t13_4 (.int .i64 1)) fun t41_23 =>
 RunW Tryd.prog (Instr.loadAt 9 t41_23) w fun t42_24 =>
 RunV Tryd.prog (Instr.build 23 #[(0, (.int .i64 1)), (2, t42_24)]) w fun t43_25 w =>
 RunU Tryd.prog (Instr.storeAt 23 t2_1 t43_25) w fun w =>
 RunW Tryd.prog (Instr.loadAt 23 t2_1) w fun t2_26 =>
 R t2_26 w) (
 RunW Tryd.prog (bin .eql 9 (.tmp 37) (.const (.string ⟨#[101]⟩)) t37_21 (.string ⟨#[101]⟩)) w fun t45_27 =>
 IfB t45_27 (
 RunA Tryd.prog (Instr.indexAt 41 t13_4 (.int .i64 1)) fun t47_28 =>
 RunW Tryd.prog (Instr.loadAt 9 t47_28) w fun t48_29 =>
 RunV Tryd.prog (Instr.build 23 #[(0, (.int .i64 2)), (2, t48_29), (5, t19_8)]) w fun t50_30 w =>
 RunU Tryd.prog (Instr.storeAt 23 t2_1 t50_30) w fun w =>
 RunW Tryd.prog (Instr.loadAt 23 t2_1) w fun t2_31 =>
 R t2_31 w) (
 RunW Tryd.prog (bin .eql 9 (.tmp 37) (.const (.string ⟨#[103]⟩)) t37_21 (.string ⟨#[103]⟩)) w fun t52_32 =>
 IfB t52_32 (
 drw (fun S_33 w =>
 RunA Tryd.prog (Instr.indexAt 41 t13_4 (.int .i64 1)) fun t54_34 =>
 RunS Tryd.prog S_33 (Instr.loadAt 9 t54_34) fun t55_35 =>
 RunS Tryd.prog S_33 (convert 48 9 t33_18) fun t57_36 =>
 RunV Tryd.prog (Instr.build 23 #[(0, (.int .i64 3)), (2, t55_35), (4, t57_36)]) w fun t58_37 w =>
 RunU Tryd.prog (Instr.storeAt 23 t2_1 t58_37) w fun w =>
 RunW Tryd.prog (Instr.loadAt 23 t2_1) w fun t2_38 =>
 R t2_38 w) w) (
 RunW Tryd.prog (bin .eql 9 (.tmp 37) (.const (.string ⟨#[115]⟩)) t37_21 (.string ⟨#[115]⟩)) w fun t60_39 =>
 IfB t60_39 (
 drw (fun S_40 w =>
 RunA Tryd.prog (Instr.indexAt 41 t13_4 (.int .i64 1)) fun t62_41 =>
 RunS Tryd.prog S_40 (Instr.loadAt 9 t62_41) fun t63_42 =>
 RunA Tryd.prog (Instr.indexAt 41 t13_4 (.int .i64 2)) fun t65_43 =>
 RunS Tryd.prog S_40 (Instr.loadAt 9 t65_43) fun t66_44 =>
 RunV Tryd.prog (Instr.build 23 #[(0, (.int .i64 4)), (1, t63_42), (2, t66_44)]) w fun t67_45 w =>
 RunU Tryd.prog (Instr.storeAt 23 t2_1 t67_45) w fun w =>
 RunW Tryd.prog (Instr.loadAt 23 t2_1) w fun t2_46 =>
 R t2_46 w) w) (
 RunW Tryd.prog (bin .eql 9 (.tmp 37) (.const (.string ⟨#[100]⟩)) t37_21 (.string ⟨#[100]⟩)) w fun t69_47 =>
 IfB t69_47 (
 drw (fun S_48 w =>
 RunA Tryd.prog (Instr.indexAt 41 t13_4 (.int .i64 1)) fun t71_49 =>
 RunS Tryd.prog S_48 (Instr.loadAt 9 t71_49) fun t72_50 =>
 RunA Tryd.prog (Instr.indexAt 41 t13_4 (.int .i64 2)) fun t74_51 =>
 RunS Tryd.prog S_48 (Instr.loadAt 9 t74_51) fun t75_52 =>
 RunV Tryd.prog (Instr.build 23 #[(0, (.int .i64 5)), (1, t72_50), (3, t75_52)]) w fun t76_53 w =>
 RunU Tryd.prog (Instr.storeAt 23 t2_1 t76_53) w fun w =>
 RunW Tryd.prog (Instr.loadAt 23 t2_1) w fun t2_54 =>
 R t2_54 w) w) (
 RunW Tryd.prog (bin .eql 9 (.tmp 37) (.const (.string ⟨#[114]⟩)) t37_21 (.string ⟨#[114]⟩)) w fun t78_55 =>
 IfB t78_55 (
 drw (fun S_56 w =>
 RunA Tryd.prog (Instr.indexAt 41 t13_4 (.int .i64 1)) fun t80_57 =>
 RunS Tryd.prog S_56 (Instr.loadAt 9 t80_57) fun t81_58 =>
 RunA Tryd.prog (Instr.indexAt 41 t13_4 (.int .i64 2)) fun t83_59 =>
 RunS Tryd.prog S_56 (Instr.loadAt 9 t83_59) fun t84_60 =>
 RunV Tryd.prog (Instr.build 23 #[(0, (.int .i64 6)), (1, t81_58), (2, t84_60), (5, t26_13)]) w fun t86_61 w =>
 RunU Tryd.prog (Instr.storeAt 23 t2_1 t86_61) w fun w =>
 RunW Tryd.prog (Instr.loadAt 23 t2_1) w fun t2_62 =>
 R t2_62 w) w) (
 RunW Tryd.prog (bin .eql 9 (.tmp 37) (.const (.string ⟨#[109]⟩)) t37_21 (.string ⟨#[109]⟩)) w fun t88_63 =>
 IfB t88_63 (
 drw (fun S_64 w =>
 RunA Tryd.prog (Instr.indexAt 41 t13_4 (.int .i64 1)) fun t90_65 =>
 RunS Tryd.prog S_64 (Instr.loadAt 9 t90_65) fun t91_66 =>
 RunA Tryd.prog (Instr.indexAt 41 t13_4 (.int .i64 2)) fun t93_67 =>
 RunS Tryd.prog S_64 (Instr.loadAt 9 t93_67) fun t94_68 =>
 RunV Tryd.prog (Instr.build 23 #[(0, (.int .i64 7)), (1, t91_66), (2, t94_68)]) w fun t95_69 w =>
 RunU Tryd.prog (Instr.storeAt 23 t2_1 t95_69) w fun w =>
 RunW Tryd.prog (Instr.loadAt 23 t2_1) w fun t2_70 =>
 R t2_70 w) w) (
 RunV Tryd.prog (Instr.build 23 #[]) w fun t96_71 w =>
 RunU Tryd.prog (Instr.storeAt 23 t2_1 t96_71) w fun w =>
 RunW Tryd.prog (Instr.loadAt 23 t2_1) w fun t2_72 =>
 R t2_72 w)))))))
theorem sh26_calls {a0 : Value} {w : World} {R : Value → World → Prop} (h : sh26 a0 w R) : CallF Tryd.prog 26 #[a0] w R :=
  calls_of_denF (mk := false) (args := [a0]) (an := (.seq (.ops [0, 2]) (.seq (.ops [2, 3]) (.seq (.ops [2, 3, 4]) (.seq (.ops [2, 3, 4, 6]) (.seq (.ops [2, 3, 4, 6, 8]) (.seq (.seq (.ops [2, 3, 4, 6, 8, 37]) (.blk (.seq (.ops [2, 3, 4, 6, 8, 37, 38]) (.cond (.seq (.ops [2]) .leaf) (.seq (.ops [2, 3, 4, 6, 8, 37, 44]) (.cond (.seq (.ops [2]) .leaf) (.seq (.ops [2, 3, 6, 8, 37, 51]) (.cond (.seq (.draw (.q 0 (.q 1 (.q 2 (.q 3 (.q 4 (.one 5 (.one 6 .fin))))))) [2]) .leaf) (.seq (.ops [2, 3, 6, 37, 59]) (.cond (.seq (.draw (.q 0 (.q 1 (.q 2 (.q 3 (.q 4 (.q 5 (.one 6 (.one 7 .fin)))))))) [2]) .leaf) (.seq (.ops [2, 3, 6, 37, 68]) (.cond (.seq (.draw (.q 0 (.q 1 (.q 2 (.q 3 (.q 4 (.q 5 (.one 6 (.one 7 .fin)))))))) [2]) .leaf) (.seq (.ops [2, 3, 6, 37, 77]) (.cond (.seq (.draw (.q 0 (.q 1 (.q 2 (.q 3 (.q 4 (.q 5 (.q 6 (.one 7 (.one 8 .fin))))))))) [2]) .leaf) (.seq (.ops [2, 3, 87]) (.cond (.seq (.draw (.q 0 (.q 1 (.q 2 (.q 3 (.q 4 (.q 5 (.one 6 (.one 7 .fin)))))))) [2]) .leaf) .leaf)))))))))))))))) (.seq (.ops [2]) .leaf)))))))) (c := Tryd.f26.body.getD .skip) hent Tryd.func26 rfl (Nat.le_of_ble_eq_true (by kernel_rfl))
    (Eq.mp (show sh26 a0 w R = denF Tryd.prog ent false Tryd.f26 (.seq (.ops [0, 2]) (.seq (.ops [2, 3]) (.seq (.ops [2, 3, 4]) (.seq (.ops [2, 3, 4, 6]) (.seq (.ops [2, 3, 4, 6, 8]) (.seq (.seq (.ops [2, 3, 4, 6, 8, 37]) (.blk (.seq (.ops [2, 3, 4, 6, 8, 37, 38]) (.cond (.seq (.ops [2]) .leaf) (.seq (.ops [2, 3, 4, 6, 8, 37, 44]) (.cond (.seq (.ops [2]) .leaf) (.seq (.ops [2, 3, 6, 8, 37, 51]) (.cond (.seq (.draw (.q 0 (.q 1 (.q 2 (.q 3 (.q 4 (.one 5 (.one 6 .fin))))))) [2]) .leaf) (.seq (.ops [2, 3, 6, 37, 59]) (.cond (.seq (.draw (.q 0 (.q 1 (.q 2 (.q 3 (.q 4 (.q 5 (.one 6 (.one 7 .fin)))))))) [2]) .leaf) (.seq (.ops [2, 3, 6, 37, 68]) (.cond (.seq (.draw (.q 0 (.q 1 (.q 2 (.q 3 (.q 4 (.q 5 (.one 6 (.one 7 .fin)))))))) [2]) .leaf) (.seq (.ops [2, 3, 6, 37, 77]) (.cond (.seq (.draw (.q 0 (.q 1 (.q 2 (.q 3 (.q 4 (.q 5 (.q 6 (.one 7 (.one 8 .fin))))))))) [2]) .leaf) (.seq (.ops [2, 3, 87]) (.cond (.seq (.draw (.q 0 (.q 1 (.q 2 (.q 3 (.q 4 (.q 5 (.one 6 (.one 7 .fin)))))))) [2]) .leaf) .leaf)))))))))))))))) (.seq (.ops [2]) .leaf))))))) (Tryd.f26.body.getD .skip) [a0] w R by kernel_rfl) h)

/-! ### 27: (handbill/keys.Parts).key -/
def sh27 (a0 : Value) (w : World) (R : Value → World → Prop) : Prop :=
 RunV Tryd.prog (Instr.box 23 a0) w fun t1_1 w =>
 RunA Tryd.prog (Instr.fieldAt 23 t1_1 0) fun t3_2 =>
 RunW Tryd.prog (Instr.loadAt 3 t3_2) w fun t4_3 =>
 RunW Tryd.prog (bin .eql 3 (.tmp 4) (.const (.int .i64 1)) t4_3 (.int .i64 1)) w fun t6_4 =>
 IfB t6_4 (
 RunA Tryd.prog (Instr.fieldAt 23 t1_1 2) fun t7_5 =>
 RunW Tryd.prog (Instr.loadAt 9 t7_5) w fun t8_6 =>
 CallF Tryd.prog 23 #[t8_6] w fun t9_7 w =>
 R t9_7 w) (
 RunW Tryd.prog (bin .eql 3 (.tmp 4) (.const (.int .i64 2)) t4_3 (.int .i64 2)) w fun t11_8 =>
 IfB t11_8 (
 RunA Tryd.prog (Instr.fieldAt 23 t1_1 2) fun t12_9 =>
 RunW Tryd.prog (Instr.loadAt 9 t12_9) w fun t13_10 =>
 RunA Tryd.prog (Instr.fieldAt 23 t1_1 5) fun t14_11 =>
 RunW Tryd.prog (Instr.loadAt 3 t14_11) w fun t15_12 =>
 CallF Tryd.prog 10 #[t13_10, t15_12] w fun t16_13 w =>
 R t16_13 w) (
 RunW Tryd.prog (bin .eql 3 (.tmp 4) (.const (.int .i64 3)) t4_3 (.int .i64 3)) w fun t18_14 =>
 IfB t18_14 (
 RunA Tryd.prog (Instr.fieldAt 23 t1_1 2) fun t19_15 =>
 RunW Tryd.prog (Instr.loadAt 9 t19_15) w fun t20_16 =>
 RunA Tryd.prog (Instr.fieldAt 23 t1_1 4) fun t21_17 =>
 RunW Tryd.prog (Instr.loadAt 9 t21_17) w fun t22_18 =>
 CallF Tryd.prog 24 #[t20_16, t22_18] w fun t23_19 w =>
 R t23_19 w) (
 RunW Tryd.prog (bin .eql 3 (.tmp 4) (.const (.int .i64 4)) t4_3 (.int .i64 4)) w fun t25_20 =>
 IfB t25_20 (
 RunA Tryd.prog (Instr.fieldAt 23 t1_1 1) fun t26_21 =>
 RunW Tryd.prog (Instr.loadAt 9 t26_21) w fun t27_22 =>
 RunA Tryd.prog (Instr.fieldAt 23 t1_1 2) fun t28_23 =>
 RunW Tryd.prog (Instr.loadAt 9 t28_23) w fun t29_24 =>
 CallF Tryd.prog 20 #[t27_22, t29_24] w fun t30_25 w =>
 R t30_25 w) (
 RunW Tryd.prog (bin .eql 3 (.tmp 4) (.const (.int .i64 5)) t4_3 (.int .i64 5)) w fun t32_26 =>
 IfB t32_26 (
 RunA Tryd.prog (Instr.fieldAt 23 t1_1 1) fun t33_27 =>
 RunW Tryd.prog (Instr.loadAt 9 t33_27) w fun t34_28 =>
 RunA Tryd.prog (Instr.fieldAt 23 t1_1 3) fun t35_29 =>
 RunW Tryd.prog (Instr.loadAt 9 t35_29) w fun t36_30 =>
 CallF Tryd.prog 22 #[t34_28, t36_30] w fun t37_31 w =>
 R t37_31 w) (
 RunW Tryd.prog (bin .eql 3 (.tmp 4) (.const (.int .i64 6)) t4_3 (.int .i64 6)) w fun t39_32 =>
 IfB t39_32 (
 RunA Tryd.prog (Instr.fieldAt 23 t1_1 1) fun t40_33 =>
 RunW Tryd.prog (Instr.loadAt 9 t40_33) w fun t41_34 =>
 RunA Tryd.prog (Instr.fieldAt 23 t1_1 2) fun t42_35 =>
 RunW Tryd.prog (Instr.loadAt 9 t42_35) w fun t43_36 =>
 RunA Tryd.prog (Instr.fieldAt 23 t1_1 5) fun t44_37 =>
 RunW Tryd.prog (Instr.loadAt 3 t44_37) w fun t45_38 =>
 CallF Tryd.prog 21 #[t41_34, t43_36, t45_38] w fun t46_39 w =>
 R t46_39 w) (
 RunW Tryd.prog (bin .eql 3 (.tmp 4) (.const (.int .i64 7)) t4_3 (.int .i64 7)) w fun t48_40 =>
 IfB t48_40 (
 RunA Tryd.prog (Instr.fieldAt 23 t1_1 1) fun t49_41 =>
 RunW Tryd.prog (Instr.loadAt 9 t49_41) w fun t50_42 =>
 RunA Tryd.prog (Instr.fieldAt 23 t1_1 2) fun t51_43 =>
 RunW Tryd.prog (Instr.loadAt 9 t51_43) w fun t52_44 =>
 CallF Tryd.prog 25 #[t50_42, t52_44] w fun t53_45 w =>
 R t53_45 w) (
 R (.string ⟨#[]⟩) w)))))))
theorem sh27_calls {a0 : Value} {w : World} {R : Value → World → Prop} (h : sh27 a0 w R) : CallF Tryd.prog 27 #[a0] w R :=
  calls_of_denF (mk := false) (args := [a0]) (an := (.seq (.ops [1]) (.seq (.seq (.ops [1, 4]) (.blk (.seq (.ops [1, 4, 5]) (.cond (.seq (.ops [2]) .leaf) (.seq (.ops [1, 4, 10]) (.cond (.seq (.ops [2]) .leaf) (.seq (.ops [1, 4, 17]) (.cond (.seq (.ops [2]) .leaf) (.seq (.ops [1, 4, 24]) (.cond (.seq (.ops [2]) .leaf) (.seq (.ops [1, 4, 31]) (.cond (.seq (.ops [2]) .leaf) (.seq (.ops [1, 4, 38]) (.cond (.seq (.ops [2]) .leaf) (.seq (.ops [1, 47]) (.cond (.seq (.ops [2]) .leaf) .leaf)))))))))))))))) (.seq (.ops [2]) .leaf)))) (c := Tryd.f27.body.getD .skip) hent Tryd.func27 rfl (Nat.le_of_ble_eq_true (by kernel_rfl))
    (Eq.mp (show sh27 a0 w R = denF Tryd.prog ent false Tryd.f27 (.seq (.ops [1]) (.seq (.seq (.ops [1, 4]) (.blk (.seq (.ops [1, 4, 5]) (.cond (.seq (.ops [2]) .leaf) (.seq (.ops [1, 4, 10]) (.cond (.seq (.ops [2]) .leaf) (.seq (.ops [1, 4, 17]) (.cond (.seq (.ops [2]) .leaf) (.seq (.ops [1, 4, 24]) (.cond (.seq (.ops [2]) .leaf) (.seq (.ops [1, 4, 31]) (.cond (.seq (.ops [2]) .leaf) (.seq (.ops [1, 4, 38]) (.cond (.seq (.ops [2]) .leaf) (.seq (.ops [1, 47]) (.cond (.seq (.ops [2]) .leaf) .leaf)))))))))))))))) (.seq (.ops [2]) .leaf))) (Tryd.f27.body.getD .skip) [a0] w R by kernel_rfl) h)

/-! ### 28: handbill/keys.begun -/
def sh28 (a0 : Value) (w : World) (R : Value → World → Prop) : Prop :=
 RunW Tryd.prog (bin .eql 9 (.tmp 3) (.const (.string ⟨#[]⟩)) a0 (.string ⟨#[]⟩)) w fun t4_1 =>
 IfB t4_1 (
 R (.string ⟨#[]⟩) w) (
 RunA Tryd.prog (bin .add 9 (.tmp 5) (.const (.string ⟨#[47]⟩)) a0 (.string ⟨#[47]⟩)) fun t6_2 =>
 R t6_2 w)
theorem sh28_calls {a0 : Value} {w : World} {R : Value → World → Prop} (h : sh28 a0 w R) : CallF Tryd.prog 28 #[a0] w R :=
  calls_of_denF (mk := false) (args := [a0]) (an := (.seq (.ops [0]) (.seq (.seq (.ops [0, 4]) (.cond (.seq (.ops [2]) .leaf) .leaf)) (.seq (.ops [2]) .leaf)))) (c := Tryd.f28.body.getD .skip) hent Tryd.func28 rfl (Nat.le_of_ble_eq_true (by kernel_rfl))
    (Eq.mp (show sh28 a0 w R = denF Tryd.prog ent false Tryd.f28 (.seq (.ops [0]) (.seq (.seq (.ops [0, 4]) (.cond (.seq (.ops [2]) .leaf) .leaf)) (.seq (.ops [2]) .leaf))) (Tryd.f28.body.getD .skip) [a0] w R by kernel_rfl) h)

/-! ### 29: handbill/keys.joined -/
def sh29 (a0 a1 : Value) (w : World) (R : Value → World → Prop) : Prop :=
 RunW Tryd.prog (Builtin.len_ #[41] 3 #[a1]) w fun t8_1 =>
 lp 1 (fun n_3 t9_2 w =>
 RunA Tryd.prog (bin .lss 3 (.tmp 9) (.tmp 8) t9_2 t8_1) fun t10_4 =>
 IfB t10_4 (
 RunA Tryd.prog (Instr.indexAt 41 a1 t9_2) fun t11_5 =>
 RunW Tryd.prog (Instr.loadAt 9 t11_5) w fun t12_6 =>
 CallF Tryd.prog 14 #[t12_6] w fun t14_7 w =>
 RunA Tryd.prog (Op.unary .not t14_7) fun t15_8 =>
 IfB t15_8 (
 R (.string ⟨#[]⟩) w) (
 RunA Tryd.prog (bin .add 3 (.tmp 9) (.const (.int .i64 1)) t9_2 (.int .i64 1)) fun t16_9 =>
 (a0 : Value) = a0 ∧ ((a1 : Value) = a1 ∧ ((a1 : Value) = a1 ∧ ((t8_1 : Value) = t8_1 ∧ (n_3 t16_9 w)))))) (
 RunA Tryd.prog (bin .add 9 (.tmp 17) (.const (.string ⟨#[47]⟩)) a0 (.string ⟨#[47]⟩)) fun t18_10 =>
 CallF Tryd.prog 40 #[a1, (.string ⟨#[47]⟩)] w fun t20_11 w =>
 RunA Tryd.prog (bin .add 9 (.tmp 18) (.tmp 20) t18_10 t20_11) fun t21_12 =>
 R t21_12 w)) [(.int .i64 0)] w
theorem sh29_calls {a0 a1 : Value} {w : World} {R : Value → World → Prop} (h : sh29 a0 a1 w R) : CallF Tryd.prog 29 #[a0, a1] w R :=
  calls_of_denF (mk := false) (args := [a0, a1]) (an := (.seq (.ops [0, 1]) (.seq (.seq (.ops [0, 1, 7, 8, 9]) (.blk (.loop [0, 1, 7, 8] [9] (.seq (.ops [0, 1, 7, 8, 9, 10]) (.seq (.cond .leaf .leaf) (.seq (.blk (.seq (.ops [0, 1, 6, 7, 8, 9]) (.seq (.ops [0, 1, 7, 8, 9, 15]) (.cond (.seq (.ops [4]) .leaf) .leaf)))) (.ops [0, 1, 7, 8, 9]))))))) (.seq (.ops [4]) .leaf)))) (c := Tryd.f29.body.getD .skip) hent Tryd.func29 rfl (Nat.le_of_ble_eq_true (by kernel_rfl))
    (Eq.mp (show sh29 a0 a1 w R = denF Tryd.prog ent false Tryd.f29 (.seq (.ops [0, 1]) (.seq (.seq (.ops [0, 1, 7, 8, 9]) (.blk (.loop [0, 1, 7, 8] [9] (.seq (.ops [0, 1, 7, 8, 9, 10]) (.seq (.cond .leaf .leaf) (.seq (.blk (.seq (.ops [0, 1, 6, 7, 8, 9]) (.seq (.ops [0, 1, 7, 8, 9, 15]) (.cond (.seq (.ops [4]) .leaf) .leaf)))) (.ops [0, 1, 7, 8, 9]))))))) (.seq (.ops [4]) .leaf))) (Tryd.f29.body.getD .skip) [a0, a1] w R by kernel_rfl) h)

/-! ### 30: handbill/keys.numbered -/
def sh30 (a0 a1 : Value) (w : World) (R : Value → World → Prop) : Prop :=
 CallF Tryd.prog 41 #[a1, (.int .i64 6)] w fun t9_1 w =>
 RunA Tryd.prog (Instr.extract t9_1 0) fun t10_2 =>
 RunA Tryd.prog (Instr.extract t9_1 1) fun t11_3 =>
 RunW Tryd.prog (bin .eql 9 (.tmp 12) (.const (.string ⟨#[]⟩)) a0 (.string ⟨#[]⟩)) w fun t13_4 =>
 IfB t13_4 (
 R (.string ⟨#[]⟩) w) (
 RunA Tryd.prog (Op.unary .not t11_3) fun t16_5 =>
 IfB t16_5 (
 R (.string ⟨#[]⟩) w) (
 RunA Tryd.prog (bin .add 9 (.tmp 18) (.const (.string ⟨#[47]⟩)) a0 (.string ⟨#[47]⟩)) fun t19_6 =>
 RunA Tryd.prog (bin .add 9 (.tmp 19) (.tmp 20) t19_6 t10_2) fun t21_7 =>
 R t21_7 w))
theorem sh30_calls {a0 a1 : Value} {w : World} {R : Value → World → Prop} (h : sh30 a0 a1 w R) : CallF Tryd.prog 30 #[a0, a1] w R :=
  calls_of_denF (mk := false) (args := [a0, a1]) (an := (.seq (.ops [0, 1]) (.seq (.ops [0, 5, 6]) (.seq (.seq (.ops [0, 5, 17]) (.cond (.seq (.ops [4]) .leaf) .leaf)) (.seq (.ops [4]) .leaf))))) (c := Tryd.f30.body.getD .skip) hent Tryd.func30 rfl (Nat.le_of_ble_eq_true (by kernel_rfl))
    (Eq.mp (show sh30 a0 a1 w R = denF Tryd.prog ent false Tryd.f30 (.seq (.ops [0, 1]) (.seq (.ops [0, 5, 6]) (.seq (.seq (.ops [0, 5, 17]) (.cond (.seq (.ops [4]) .leaf) .leaf)) (.seq (.ops [4]) .leaf)))) (Tryd.f30.body.getD .skip) [a0, a1] w R by kernel_rfl) h)

/-! ### 36: handbill/num.Hex -/
def sh36 (a0 : Value) (w : World) (R : Value → World → Prop) : Prop :=
 RunV Tryd.prog (Instr.alloc 64 true (.tuple #[])) w fun t3_1 w =>
 RunW Tryd.prog (Builtin.len_ #[48] 3 #[a0]) w fun t7_2 =>
 lp 1 (fun n_4 t8_3 w =>
 RunA Tryd.prog (bin .lss 3 (.tmp 8) (.tmp 7) t8_3 t7_2) fun t9_5 =>
 IfB t9_5 (
 RunA Tryd.prog (Instr.indexAt 48 a0 t8_3) fun t10_6 =>
 RunW Tryd.prog (Instr.loadAt 5 t10_6) w fun t11_7 =>
 RunA Tryd.prog (bin .shr 5 (.tmp 12) (.const (.int .u64 4)) t11_7 (.int .u64 4)) fun t13_8 =>
 RunA Tryd.prog (Instr.index 9 (.string ⟨#[48, 49, 50, 51, 52, 53, 54, 55, 56, 57, 97, 98, 99, 100, 101, 102]⟩) t13_8) fun t14_9 =>
 CallF Tryd.prog 43 #[t3_1, t14_9] w fun t15_10 w =>
 RunA Tryd.prog (bin .and 5 (.tmp 16) (.const (.int .u8 15)) t11_7 (.int .u8 15)) fun t17_11 =>
 RunA Tryd.prog (Instr.index 9 (.string ⟨#[48, 49, 50, 51, 52, 53, 54, 55, 56, 57, 97, 98, 99, 100, 101, 102]⟩) t17_11) fun t18_12 =>
 CallF Tryd.prog 43 #[t3_1, t18_12] w fun t19_13 w =>
 RunA Tryd.prog (bin .add 3 (.tmp 8) (.const (.int .i64 1)) t8_3 (.int .i64 1)) fun t20_14 =>
 (t3_1 : Value) = t3_1 ∧ ((a0 : Value) = a0 ∧ ((t7_2 : Value) = t7_2 ∧ (n_4 t20_14 w)))) (
 CallF Tryd.prog 44 #[t3_1] w fun t21_15 w =>
 R t21_15 w)) [(.int .i64 0)] w
theorem sh36_calls {a0 : Value} {w : World} {R : Value → World → Prop} (h : sh36 a0 w R) : CallF Tryd.prog 36 #[a0] w R :=
  calls_of_denF (mk := false) (args := [a0]) (an := (.seq (.ops [0]) (.seq (.ops [0, 3]) (.seq (.seq (.ops [3, 6, 7, 8]) (.blk (.loop [3, 6, 7] [8] (.seq (.ops [3, 6, 7, 8, 9]) (.seq (.cond .leaf .leaf) (.seq (.blk (.seq (.ops [3, 5, 6, 7, 8]) (.seq (.ops [3, 5, 6, 7, 8]) (.ops [3, 6, 7, 8])))) (.ops [3, 6, 7, 8]))))))) (.seq (.ops [2]) .leaf))))) (c := Tryd.f36.body.getD .skip) hent Tryd.func36 rfl (Nat.le_of_ble_eq_true (by kernel_rfl))
    (Eq.mp (show sh36 a0 w R = denF Tryd.prog ent false Tryd.f36 (.seq (.ops [0]) (.seq (.ops [0, 3]) (.seq (.seq (.ops [3, 6, 7, 8]) (.blk (.loop [3, 6, 7] [8] (.seq (.ops [3, 6, 7, 8, 9]) (.seq (.cond .leaf .leaf) (.seq (.blk (.seq (.ops [3, 5, 6, 7, 8]) (.seq (.ops [3, 5, 6, 7, 8]) (.ops [3, 6, 7, 8])))) (.ops [3, 6, 7, 8]))))))) (.seq (.ops [2]) .leaf)))) (Tryd.f36.body.getD .skip) [a0] w R by kernel_rfl) h)

/-! ### 39: handbill/num.Unhex -/
def sh39 (a0 : Value) (w : World) (R : Value → World → Prop) : Prop :=
 RunW Tryd.prog (Builtin.len_ #[9] 3 #[a0]) w fun t9_1 =>
 RunA Tryd.prog (bin .rem 3 (.tmp 9) (.const (.int .i64 2)) t9_1 (.int .i64 2)) fun t10_2 =>
 RunW Tryd.prog (bin .neq 3 (.tmp 10) (.const (.int .i64 0)) t10_2 (.int .i64 0)) w fun t11_3 =>
 IfB t11_3 (
 R (.tuple #[(.slice none 0 0), (.bool false)]) w) (
 lp 2 (fun n_6 t4_4 t5_5 w =>
 RunW Tryd.prog (Builtin.len_ #[9] 3 #[a0]) w fun t14_7 =>
 RunA Tryd.prog (bin .lss 3 (.tmp 12) (.tmp 14) t5_5 t14_7) fun t15_8 =>
 IfB t15_8 (
 drw (fun S_9 w =>
 RunA Tryd.prog (Instr.index 9 a0 t5_5) fun t20_10 =>
 RunA Tryd.prog (bin .add 3 (.tmp 23) (.const (.int .i64 1)) t5_5 (.int .i64 1)) fun t24_11 =>
 RunA Tryd.prog (Instr.index 9 a0 t24_11) fun t25_12 =>
 CallF Tryd.prog 48 #[(.string ⟨#[48, 49, 50, 51, 52, 53, 54, 55, 56, 57, 97, 98, 99, 100, 101, 102]⟩), t20_10] w fun t21_13 w =>
 CallF Tryd.prog 48 #[(.string ⟨#[48, 49, 50, 51, 52, 53, 54, 55, 56, 57, 97, 98, 99, 100, 101, 102]⟩), t25_12] w fun t26_14 w =>
 RunA Tryd.prog (bin .lss 3 (.tmp 27) (.const (.int .i64 0)) t21_13 (.int .i64 0)) fun t28_15 =>
 IfB t28_15 (
 R (.tuple #[(.slice none 0 0), (.bool false)]) w) (
 RunA Tryd.prog (bin .lss 3 (.tmp 30) (.const (.int .i64 0)) t26_14 (.int .i64 0)) fun t31_16 =>
 IfB t31_16 (
 R (.tuple #[(.slice none 0 0), (.bool false)]) w) (
 RunA Tryd.prog (bin .shl 3 (.tmp 34) (.const (.int .u64 4)) t21_13 (.int .u64 4)) fun t35_17 =>
 RunA Tryd.prog (bin .or 3 (.tmp 35) (.tmp 36) t35_17 t26_14) fun t37_18 =>
 RunV Tryd.prog (convert 3 5 t37_18) w fun t38_19 w =>
 RunV Tryd.prog (Instr.buildSlice 48 1 #[(0, t38_19)]) w fun t39_20 w =>
 RunV Tryd.prog (Builtin.append_ #[48, 48] 48 #[t4_4, t39_20]) w fun t40_21 w =>
 RunA Tryd.prog (bin .add 3 (.tmp 16) (.const (.int .i64 2)) t5_5 (.int .i64 2)) fun t17_22 =>
 (a0 : Value) = a0 ∧ (n_6 t40_21 t17_22 w)))) w) (
 R (.tuple #[t4_4, (.bool true)]) w)) [(.slice none 0 0), (.int .i64 0)] w)
theorem sh39_calls {a0 : Value} {w : World} {R : Value → World → Prop} (h : sh39 a0 w R) : CallF Tryd.prog 39 #[a0] w R :=
  calls_of_denF (mk := false) (args := [a0]) (an := (.seq (.ops [0]) (.seq (.seq (.ops [0, 11]) (.cond (.seq (.ops [2, 3]) .leaf) .leaf)) (.seq (.ops [0, 4]) (.seq (.seq (.ops [0, 4, 5]) (.blk (.loop [0] [4, 5] (.seq (.seq (.ops [0, 4, 5, 15]) (.cond .leaf .leaf)) (.seq (.blk (.seq (.draw (.q 0 (.q 1 (.q 2 (.q 4 (.q 5 (.q 6 (.q 7 (.one 3 (.one 8 (.q 9 (.q 10 .fin))))))))))) [0, 4, 5, 6, 7]) (.seq (.seq (.ops [0, 4, 5, 6, 7, 32]) (.cond (.seq (.ops [2, 3]) .leaf) .leaf)) (.ops [0, 4, 5])))) (.ops [0, 4, 5])))))) (.seq (.ops [2, 3]) .leaf)))))) (c := Tryd.f39.body.getD .skip) hent Tryd.func39 rfl (Nat.le_of_ble_eq_true (by kernel_rfl))
    (Eq.mp (show sh39 a0 w R = denF Tryd.prog ent false Tryd.f39 (.seq (.ops [0]) (.seq (.seq (.ops [0, 11]) (.cond (.seq (.ops [2, 3]) .leaf) .leaf)) (.seq (.ops [0, 4]) (.seq (.seq (.ops [0, 4, 5]) (.blk (.loop [0] [4, 5] (.seq (.seq (.ops [0, 4, 5, 15]) (.cond .leaf .leaf)) (.seq (.blk (.seq (.draw (.q 0 (.q 1 (.q 2 (.q 4 (.q 5 (.q 6 (.q 7 (.one 3 (.one 8 (.q 9 (.q 10 .fin))))))))))) [0, 4, 5, 6, 7]) (.seq (.seq (.ops [0, 4, 5, 6, 7, 32]) (.cond (.seq (.ops [2, 3]) .leaf) .leaf)) (.ops [0, 4, 5])))) (.ops [0, 4, 5])))))) (.seq (.ops [2, 3]) .leaf))))) (Tryd.f39.body.getD .skip) [a0] w R by kernel_rfl) h)

/-! ### 41: handbill/num.Digits -/
def sh41 (a0 a1 : Value) (w : World) (R : Value → World → Prop) : Prop :=
 RunA Tryd.prog (bin .lss 3 (.tmp 7) (.const (.int .i64 0)) a0 (.int .i64 0)) fun t8_1 =>
 IfB t8_1 (
 R (.tuple #[(.string ⟨#[]⟩), (.bool false)]) w) (
 RunA Tryd.prog (bin .lss 3 (.tmp 10) (.const (.int .i64 1)) a1 (.int .i64 1)) fun t11_2 =>
 IfB t11_2 (
 R (.tuple #[(.string ⟨#[]⟩), (.bool false)]) w) (
 RunA Tryd.prog (bin .gtr 3 (.tmp 14) (.const (.int .i64 18)) a1 (.int .i64 18)) fun t15_3 =>
 IfB t15_3 (
 R (.tuple #[(.string ⟨#[]⟩), (.bool false)]) w) (
 CallF Tryd.prog 51 #[a0] w fun t18_4 w =>
 RunW Tryd.prog (Builtin.len_ #[9] 3 #[t18_4]) w fun t20_5 =>
 RunA Tryd.prog (bin .gtr 3 (.tmp 20) (.tmp 21) t20_5 a1) fun t22_6 =>
 IfB t22_6 (
 R (.tuple #[(.string ⟨#[]⟩), (.bool false)]) w) (
 RunW Tryd.prog (Builtin.len_ #[9] 3 #[t18_4]) w fun t25_7 =>
 RunA Tryd.prog (bin .sub 3 (.tmp 23) (.tmp 25) a1 t25_7) fun t26_8 =>
 CallF Tryd.prog 52 #[(.string ⟨#[48]⟩), t26_8] w fun t27_9 w =>
 RunA Tryd.prog (bin .add 9 (.tmp 27) (.tmp 28) t27_9 t18_4) fun t29_10 =>
 R (.tuple #[t29_10, (.bool true)]) w))))
theorem sh41_calls {a0 a1 : Value} {w : World} {R : Value → World → Prop} (h : sh41 a0 a1 w R) : CallF Tryd.prog 41 #[a0, a1] w R :=
  calls_of_denF (mk := false) (args := [a0, a1]) (an := (.seq (.ops [0, 1]) (.seq (.seq (.ops [0, 1, 16]) (.cond (.seq (.ops [4, 5]) .leaf) .leaf)) (.seq (.ops [1, 6]) (.seq (.seq (.ops [1, 6, 22]) (.cond (.seq (.ops [4, 5]) .leaf) .leaf)) (.seq (.ops [4, 5]) .leaf)))))) (c := Tryd.f41.body.getD .skip) hent Tryd.func41 rfl (Nat.le_of_ble_eq_true (by kernel_rfl))
    (Eq.mp (show sh41 a0 a1 w R = denF Tryd.prog ent false Tryd.f41 (.seq (.ops [0, 1]) (.seq (.seq (.ops [0, 1, 16]) (.cond (.seq (.ops [4, 5]) .leaf) .leaf)) (.seq (.ops [1, 6]) (.seq (.seq (.ops [1, 6, 22]) (.cond (.seq (.ops [4, 5]) .leaf) .leaf)) (.seq (.ops [4, 5]) .leaf))))) (Tryd.f41.body.getD .skip) [a0, a1] w R by kernel_rfl) h)

/-! ### 43: (*strings.Builder).WriteByte -/
def sh43 (a0 a1 : Value) (w : World) (R : Value → World → Prop) : Prop :=
 CallF Tryd.prog 53 #[a0] w fun t6_1 w =>
 RunA Tryd.prog (nilV a0) fun t9_2 =>
 RunA Tryd.prog (Instr.fieldAt 64 t9_2 1) fun t10_3 =>
 RunW Tryd.prog (Instr.loadAt 48 t10_3) w fun t11_4 =>
 RunV Tryd.prog (Instr.buildSlice 48 1 #[(0, a1)]) w fun t13_5 w =>
 RunV Tryd.prog (Builtin.append_ #[48, 48] 48 #[t11_4, t13_5]) w fun t14_6 w =>
 RunA Tryd.prog (nilV a0) fun t15_7 =>
 RunA Tryd.prog (Instr.fieldAt 64 t15_7 1) fun t16_8 =>
 RunU Tryd.prog (Instr.storeAt 48 t16_8 t14_6) w fun w =>
 R (.nilIface) w
theorem sh43_calls {a0 a1 : Value} {w : World} {R : Value → World → Prop} (h : sh43 a0 a1 w R) : CallF Tryd.prog 43 #[a0, a1] w R :=
  calls_of_denF (mk := false) (args := [a0, a1]) (an := (.seq (.ops [0, 1]) (.seq (.ops [0, 1]) (.seq (.ops []) (.seq (.ops [4]) .leaf))))) (c := Tryd.f43.body.getD .skip) hent Tryd.func43 rfl (Nat.le_of_ble_eq_true (by kernel_rfl))
    (Eq.mp (show sh43 a0 a1 w R = denF Tryd.prog ent false Tryd.f43 (.seq (.ops [0, 1]) (.seq (.ops [0, 1]) (.seq (.ops []) (.seq (.ops [4]) .leaf)))) (Tryd.f43.body.getD .skip) [a0, a1] w R by kernel_rfl) h)

/-! ### 44: (*strings.Builder).String -/
def sh44 (a0 : Value) (w : World) (R : Value → World → Prop) : Prop :=
 drw (fun S_1 w =>
 RunA Tryd.prog (nilV a0) fun t4_2 =>
 RunA Tryd.prog (Instr.fieldAt 64 t4_2 1) fun t5_3 =>
 RunS Tryd.prog S_1 (Instr.loadAt 48 t5_3) fun t6_4 =>
 RunA Tryd.prog (nilV a0) fun t9_5 =>
 RunA Tryd.prog (Instr.fieldAt 64 t9_5 1) fun t10_6 =>
 RunS Tryd.prog S_1 (Instr.loadAt 48 t10_6) fun t11_7 =>
 RunS Tryd.prog S_1 (Builtin.len_ #[48] 3 #[t11_7]) fun t12_8 =>
 RunV Tryd.prog (Builtin.unsafeSliceData_ #[48] 71 #[t6_4]) w fun t7_9 w =>
 S_1 w ∧ (
 RunV Tryd.prog (Builtin.unsafeString_ #[71, 3] 9 #[t7_9, t12_8]) w fun t13_10 w =>
 R t13_10 w)) w
theorem sh44_calls {a0 : Value} {w : World} {R : Value → World → Prop} (h : sh44 a0 w R) : CallF Tryd.prog 44 #[a0] w R :=
  calls_of_denF (mk := false) (args := [a0]) (an := (.seq (.ops [0]) (.seq (.draw (.q 0 (.q 1 (.q 2 (.q 3 (.q 5 (.q 6 (.q 7 (.q 8 (.q 9 (.one 4 (.one 10 (.q 11 .fin)))))))))))) [2]) .leaf))) (c := Tryd.f44.body.getD .skip) hent Tryd.func44 rfl (Nat.le_of_ble_eq_true (by kernel_rfl))
    (Eq.mp (show sh44 a0 w R = denF Tryd.prog ent false Tryd.f44 (.seq (.ops [0]) (.seq (.draw (.q 0 (.q 1 (.q 2 (.q 3 (.q 5 (.q 6 (.q 7 (.q 8 (.q 9 (.one 4 (.one 10 (.q 11 .fin)))))))))))) [2]) .leaf)) (Tryd.f44.body.getD .skip) [a0] w R by kernel_rfl) h)

/-! ### 48: strings.IndexByte -/
def sh48 (a0 a1 : Value) (w : World) (R : Value → World → Prop) : Prop :=
 CallF Tryd.prog 62 #[a0, a1] w fun t7_1 w =>
 R t7_1 w
theorem sh48_calls {a0 a1 : Value} {w : World} {R : Value → World → Prop} (h : sh48 a0 a1 w R) : CallF Tryd.prog 48 #[a0, a1] w R :=
  calls_of_denF (mk := false) (args := [a0, a1]) (an := (.seq (.ops [0, 1]) (.seq (.ops [4]) .leaf))) (c := Tryd.f48.body.getD .skip) hent Tryd.func48 rfl (Nat.le_of_ble_eq_true (by kernel_rfl))
    (Eq.mp (show sh48 a0 a1 w R = denF Tryd.prog ent false Tryd.f48 (.seq (.ops [0, 1]) (.seq (.ops [4]) .leaf)) (Tryd.f48.body.getD .skip) [a0, a1] w R by kernel_rfl) h)

/-! ### 53: (*strings.Builder).copyCheck -/
def sh53 (a0 : Value) (w : World) (R : Value → World → Prop) : Prop :=
 RunA Tryd.prog (nilV a0) fun t3_1 =>
 RunA Tryd.prog (Instr.fieldAt 64 t3_1 0) fun t4_2 =>
 RunW Tryd.prog (Instr.loadAt 62 t4_2) w fun t5_3 =>
 RunW Tryd.prog (bin .eql 62 (.tmp 5) (.const (.pointer none)) t5_3 (.pointer none)) w fun t6_4 =>
 IfB t6_4 (
 RunV Tryd.prog (convert 62 84 a0) w fun t9_5 w =>
 RunO Tryd.prog (callFunc 68 #[t9_5]) w fun t10_6 w =>
 RunV Tryd.prog (convert 84 62 t10_6) w fun t11_7 w =>
 RunA Tryd.prog (nilV a0) fun t12_8 =>
 RunA Tryd.prog (Instr.fieldAt 64 t12_8 0) fun t13_9 =>
 RunU Tryd.prog (Instr.storeAt 62 t13_9 t11_7) w fun w =>
 R (.tuple #[]) w) (
 RunA Tryd.prog (nilV a0) fun t15_10 =>
 RunA Tryd.prog (Instr.fieldAt 64 t15_10 0) fun t16_11 =>
 RunW Tryd.prog (Instr.loadAt 62 t16_11) w fun t17_12 =>
 RunW Tryd.prog (bin .neq 62 (.tmp 17) (.tmp 18) t17_12 a0) w fun t19_13 =>
 IfB t19_13 (
 False) (
 R (.tuple #[]) w))
theorem sh53_calls {a0 : Value} {w : World} {R : Value → World → Prop} (h : sh53 a0 w R) : CallF Tryd.prog 53 #[a0] w R :=
  calls_of_denF (mk := false) (args := [a0]) (an := (.seq (.ops [0, 6]) (.cond (.ops []) (.seq (.ops [19]) (.cond .leaf .leaf))))) (c := Tryd.f53.body.getD .skip) hent Tryd.func53 rfl (Nat.le_of_ble_eq_true (by kernel_rfl))
    (Eq.mp (show sh53 a0 w R = denF Tryd.prog ent false Tryd.f53 (.seq (.ops [0, 6]) (.cond (.ops []) (.seq (.ops [19]) (.cond .leaf .leaf)))) (Tryd.f53.body.getD .skip) [a0] w R by kernel_rfl) h)

/-! ### 62: internal/stringslite.IndexByte -/
def sh62 (a0 a1 : Value) (w : World) (R : Value → World → Prop) : Prop :=
 RunO Tryd.prog (callFunc 76 #[a0, a1]) w fun t7_1 w =>
 R t7_1 w
theorem sh62_calls {a0 a1 : Value} {w : World} {R : Value → World → Prop} (h : sh62 a0 a1 w R) : CallF Tryd.prog 62 #[a0, a1] w R :=
  calls_of_denF (mk := false) (args := [a0, a1]) (an := (.seq (.ops [0, 1]) (.seq (.ops [4]) .leaf))) (c := Tryd.f62.body.getD .skip) hent Tryd.func62 rfl (Nat.le_of_ble_eq_true (by kernel_rfl))
    (Eq.mp (show sh62 a0 a1 w R = denF Tryd.prog ent false Tryd.f62 (.seq (.ops [0, 1]) (.seq (.ops [4]) .leaf)) (Tryd.f62.body.getD .skip) [a0, a1] w R by kernel_rfl) h)

end Go.Proofs.YtgflkjhljggeiaaDoor
