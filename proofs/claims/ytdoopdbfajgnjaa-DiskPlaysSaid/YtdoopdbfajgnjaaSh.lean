/-
  The shallow forms of the functions, printed by a program (ez.py) out of Lean's print of the loaded functions; each is proved to imply the function's contract: the equations are the kernel's.
-/
import Derived.Test.YtdoopdbfajgnjaaProg
import Derived.Test.YtdoopdbfajgnjaaEzSound
namespace Go.Proofs.Ytdoopdbfajgnjaa
open Go Go.Ez
set_option linter.unusedVariables false
set_option maxRecDepth 100000
def ent : List Nat := [8, 9, 10, 11, 12, 13, 14, 15, 16, 17, 18, 19, 20, 21, 22, 23, 24, 25, 26, 27, 28, 29, 30, 31, 35, 36, 37, 38, 39, 40, 41, 42, 43, 44, 45, 46, 69, 70, 71, 72, 73, 81]
theorem hent : ∀ g, memN g ent = true → Enters Try.prog g := enters_all (by kernel_rfl)

/-! ### 3: handbill/hbllaw8.DiskRooms -/
def sh3 (a0 a1 : Value) (w : World) (R : Value → World → Prop) : Prop :=
 CallF Try.prog 8 #[] w fun t24_1 w =>
 RunA Try.prog (Op.unary .not t24_1) fun t25_2 =>
 IfB t25_2 (
 R (.bool false) w) (
 CallF Try.prog 9 #[a1] w fun t27_3 w =>
 RunA Try.prog (Op.unary .not t27_3) fun t28_4 =>
 IfB t28_4 (
 CallF Try.prog 8 #[] w fun t34_5 w =>
 R t34_5 w) (
 RunW Try.prog (Builtin.len_ #[22] 3 #[a1]) w fun t31_6 =>
 RunA Try.prog (bin .gtr 3 (.tmp 31) (.const (.int .i64 100)) t31_6 (.int .i64 100)) fun t32_7 =>
 IfB t32_7 (
 CallF Try.prog 8 #[] w fun t34_8 w =>
 R t34_8 w) (
 CallF Try.prog 10 #[a0] w fun t37_9 w =>
 RunA Try.prog (Instr.extract t37_9 0) fun t38_10 =>
 RunA Try.prog (Instr.extract t37_9 1) fun t39_11 =>
 RunW Try.prog (bin .eql 25 (.tmp 40) (.const (.pointer none)) t38_10 (.pointer none)) w fun t41_12 =>
 IfB t41_12 (
 CallF Try.prog 8 #[] w fun t46_13 w =>
 IfB t46_13 (
 RunW Try.prog (bin .eql 25 (.tmp 48) (.const (.pointer none)) t38_10 (.pointer none)) w fun t49_14 =>
 RunW Try.prog (bin .neq 26 (.tmp 50) (.const (.int .i64 0)) t39_11 (.int .i64 0)) w fun t51_15 =>
 RunW Try.prog (bin .eql 4 (.tmp 49) (.tmp 51) t49_14 t51_15) w fun t52_16 =>
 R t52_16 w) (
 R (.bool false) w)) (
 RunW Try.prog (bin .neq 26 (.tmp 43) (.const (.int .i64 0)) t39_11 (.int .i64 0)) w fun t44_17 =>
 IfB t44_17 (
 CallF Try.prog 8 #[] w fun t46_18 w =>
 IfB t46_18 (
 RunW Try.prog (bin .eql 25 (.tmp 48) (.const (.pointer none)) t38_10 (.pointer none)) w fun t49_19 =>
 RunW Try.prog (bin .neq 26 (.tmp 50) (.const (.int .i64 0)) t39_11 (.int .i64 0)) w fun t51_20 =>
 RunW Try.prog (bin .eql 4 (.tmp 49) (.tmp 51) t49_19 t51_20) w fun t52_21 =>
 R t52_21 w) (
 R (.bool false) w)) (
 lp 1 (fun n_23 t7_22 w =>
 RunW Try.prog (Builtin.len_ #[22] 3 #[a1]) w fun t56_24 =>
 RunA Try.prog (bin .lss 3 (.tmp 54) (.tmp 56) t7_22 t56_24) fun t57_25 =>
 IfB t57_25 (
 RunA Try.prog (Instr.indexAt 22 a1 t7_22) fun t62_26 =>
 RunW Try.prog (Instr.loadAt 32 t62_26) w fun t63_27 =>
 RunV Try.prog (Instr.alloc 32 true (.tuple #[])) w fun t8_28 w =>
 RunU Try.prog (Instr.storeAt 32 t8_28 t63_27) w fun w =>
 CallF Try.prog 11 #[t38_10] w fun t65_29 w =>
 CallF Try.prog 12 #[t38_10] w fun t67_30 w =>
 RunW Try.prog (bin .eql 25 (.tmp 68) (.const (.pointer none)) t65_29 (.pointer none)) w fun t69_31 =>
 IfB t69_31 (
 R (.bool false) w) (
 RunA Try.prog (Instr.fieldAt 32 t8_28 3) fun t72_32 =>
 RunW Try.prog (Instr.loadAt 9 t72_32) w fun t73_33 =>
 CallF Try.prog 13 #[t38_10, t73_33] w fun t74_34 w =>
 RunA Try.prog (Instr.extract t74_34 0) fun t75_35 =>
 RunA Try.prog (Instr.extract t74_34 1) fun t76_36 =>
 RunA Try.prog (Instr.fieldAt 32 t8_28 0) fun t77_37 =>
 RunW Try.prog (Instr.loadAt 3 t77_37) w fun t78_38 =>
 jn 4 (fun t0_39 t1_40 t5_41 t7_42 w =>
 CallF Try.prog 20 #[t5_41] w fun t195_44 w =>
 CallF Try.prog 19 #[t195_44] w fun t196_45 w =>
 lp 2 (fun n_48 t19_46 t21_47 w =>
 RunW Try.prog (Builtin.len_ #[42] 3 #[t196_45]) w fun t199_49 =>
 RunA Try.prog (bin .lss 3 (.tmp 197) (.tmp 199) t21_47 t199_49) fun t200_50 =>
 IfB t200_50 (
 RunA Try.prog (Instr.indexAt 42 t196_45 t21_47) fun t207_51 =>
 RunW Try.prog (Instr.loadAt 9 t207_51) w fun t208_52 =>
 CallF Try.prog 13 #[t5_41, t208_52] w fun t209_53 w =>
 RunA Try.prog (Instr.extract t209_53 0) fun t210_54 =>
 RunA Try.prog (Instr.extract t209_53 1) fun t211_55 =>
 RunW Try.prog (Builtin.len_ #[29] 3 #[t210_54]) w fun t214_56 =>
 RunA Try.prog (bin .add 3 (.tmp 212) (.tmp 214) t19_46 t214_56) fun t215_57 =>
 RunA Try.prog (bin .add 3 (.tmp 201) (.const (.int .i64 1)) t21_47 (.int .i64 1)) fun t202_58 =>
 (t0_39 : Value) = t0_39 ∧ ((t1_40 : Value) = t1_40 ∧ ((t5_41 : Value) = t5_41 ∧ ((t7_42 : Value) = t7_42 ∧ ((t196_45 : Value) = t196_45 ∧ (n_48 t215_57 t202_58 w)))))) (
 CallF Try.prog 12 #[t5_41] w fun t217_59 w =>
 RunW Try.prog (bin .neq 3 (.tmp 217) (.tmp 218) t217_59 t19_46) w fun t219_60 =>
 IfB t219_60 (
 R (.bool false) w) (
 RunA Try.prog (bin .gtr 3 (.tmp 221) (.tmp 222) t19_46 t0_39) fun t223_61 =>
 IfB t223_61 (
 R (.bool false) w) (
 RunA Try.prog (bin .add 3 (.tmp 58) (.const (.int .i64 1)) t7_42 (.int .i64 1)) fun t59_62 =>
 (t0_39 : Value) = a0 ∧ ((t1_40 : Value) = a1 ∧ ((t5_41 : Value) = t38_10 ∧ (n_23 t59_62 w))))))) [(.int .i64 0), (.int .i64 0)] w) fun j_43 =>
 RunW Try.prog (bin .eql 3 (.tmp 78) (.const (.int .i64 2)) t78_38 (.int .i64 2)) w fun t80_63 =>
 IfB t80_63 (
 RunA Try.prog (Instr.fieldAt 32 t8_28 3) fun t82_64 =>
 RunW Try.prog (Instr.loadAt 9 t82_64) w fun t83_65 =>
 RunA Try.prog (Instr.fieldAt 32 t8_28 5) fun t84_66 =>
 RunW Try.prog (Instr.loadAt 29 t84_66) w fun t85_67 =>
 CallF Try.prog 14 #[t38_10, t83_65, t85_67] w fun t86_68 w =>
 RunA Try.prog (Instr.fieldAt 32 t8_28 3) fun t89_69 =>
 RunW Try.prog (Instr.loadAt 9 t89_69) w fun t90_70 =>
 CallF Try.prog 13 #[t38_10, t90_70] w fun t91_71 w =>
 RunA Try.prog (Instr.extract t91_71 0) fun t92_72 =>
 RunA Try.prog (Instr.extract t91_71 1) fun t93_73 =>
 jn 4 (fun t0_74 t1_75 t5_76 t7_77 w =>
 j_43 t0_74 t1_75 t5_76 t7_77 w) fun j_78 =>
 drw (fun S_79 w =>
 RunS Try.prog S_79 (bin .eql 26 (.tmp 94) (.const (.int .i64 8)) t86_68 (.int .i64 8)) fun t95_80 =>
 RunA Try.prog (Instr.fieldAt 32 t8_28 5) fun t97_81 =>
 RunS Try.prog S_79 (Instr.loadAt 29 t97_81) fun t98_82 =>
 RunS Try.prog S_79 (Builtin.len_ #[29] 3 #[t98_82]) fun t99_83 =>
 RunA Try.prog (bin .add 3 (.tmp 96) (.tmp 99) t67_30 t99_83) fun t100_84 =>
 RunA Try.prog (bin .gtr 3 (.tmp 100) (.tmp 101) t100_84 a0) fun t102_85 =>
 IfB t102_85 (
 RunS Try.prog S_79 (bin .neq 26 (.tmp 104) (.const (.int .i64 11)) t86_68 (.int .i64 11)) fun t105_86 =>
 RunS Try.prog S_79 (bin .neq 4 (.tmp 95) (.tmp 106) t95_80 t105_86) fun t107_87 =>
 IfB t107_87 (
 R (.bool false) w) (
 RunS Try.prog S_79 (bin .eql 26 (.tmp 109) (.const (.int .i64 0)) t86_68 (.int .i64 0)) fun t110_88 =>
 IfB t110_88 (
 RunA Try.prog (Op.unary .not t93_73) fun t113_89 =>
 IfB t113_89 (
 R (.bool false) w) (
 RunA Try.prog (Instr.fieldAt 32 t8_28 5) fun t118_90 =>
 RunS Try.prog S_79 (Instr.loadAt 29 t118_90) fun t119_91 =>
 CallF Try.prog 16 #[t75_35] w fun t117_92 w =>
 S_79 w ∧ (
 RunV Try.prog (Builtin.append_ #[29, 29] 29 #[t117_92, t119_91]) w fun t120_93 w =>
 S_79 w ∧ (
 CallF Try.prog 15 #[t92_72, t120_93] w fun t121_94 w =>
 S_79 w ∧ (
 RunA Try.prog (Op.unary .not t121_94) fun t122_95 =>
 IfB t122_95 (
 R (.bool false) w) (
 RunA Try.prog (Instr.fieldAt 32 t8_28 5) fun t128_96 =>
 RunS Try.prog S_79 (Instr.loadAt 29 t128_96) fun t129_97 =>
 RunS Try.prog S_79 (Builtin.len_ #[29] 3 #[t129_97]) fun t130_98 =>
 RunA Try.prog (bin .add 3 (.tmp 127) (.tmp 130) t67_30 t130_98) fun t131_99 =>
 CallF Try.prog 12 #[t38_10] w fun t126_100 w =>
 S_79 w ∧ (
 RunS Try.prog S_79 (bin .neq 3 (.tmp 126) (.tmp 131) t126_100 t131_99) fun t132_101 =>
 IfB t132_101 (
 R (.bool false) w) (
 RunS Try.prog S_79 (bin .neq 26 (.tmp 137) (.const (.int .i64 0)) t86_68 (.int .i64 0)) fun t138_102 =>
 IfB t138_102 (
 CallF Try.prog 17 #[t38_10, t65_29] w fun t142_103 w =>
 S_79 w ∧ (
 RunA Try.prog (Op.unary .not t142_103) fun t143_104 =>
 IfB t143_104 (
 R (.bool false) w) (
 j_78 a0 a1 t38_10 t7_22 w))) (
 j_78 a0 a1 t38_10 t7_22 w))))))))) (
 RunS Try.prog S_79 (bin .neq 26 (.tmp 137) (.const (.int .i64 0)) t86_68 (.int .i64 0)) fun t138_105 =>
 IfB t138_105 (
 CallF Try.prog 17 #[t38_10, t65_29] w fun t142_106 w =>
 S_79 w ∧ (
 RunA Try.prog (Op.unary .not t142_106) fun t143_107 =>
 IfB t143_107 (
 R (.bool false) w) (
 j_78 a0 a1 t38_10 t7_22 w))) (
 j_78 a0 a1 t38_10 t7_22 w)))) (
 RunS Try.prog S_79 (bin .neq 4 (.tmp 95) (.tmp 106) t95_80 (.bool false)) fun t107_108 =>
 IfB t107_108 (
 R (.bool false) w) (
 RunS Try.prog S_79 (bin .eql 26 (.tmp 109) (.const (.int .i64 0)) t86_68 (.int .i64 0)) fun t110_109 =>
 IfB t110_109 (
 RunA Try.prog (Op.unary .not t93_73) fun t113_110 =>
 IfB t113_110 (
 R (.bool false) w) (
 RunA Try.prog (Instr.fieldAt 32 t8_28 5) fun t118_111 =>
 RunS Try.prog S_79 (Instr.loadAt 29 t118_111) fun t119_112 =>
 CallF Try.prog 16 #[t75_35] w fun t117_113 w =>
 S_79 w ∧ (
 RunV Try.prog (Builtin.append_ #[29, 29] 29 #[t117_113, t119_112]) w fun t120_114 w =>
 S_79 w ∧ (
 CallF Try.prog 15 #[t92_72, t120_114] w fun t121_115 w =>
 S_79 w ∧ (
 RunA Try.prog (Op.unary .not t121_115) fun t122_116 =>
 IfB t122_116 (
 R (.bool false) w) (
 RunA Try.prog (Instr.fieldAt 32 t8_28 5) fun t128_117 =>
 RunS Try.prog S_79 (Instr.loadAt 29 t128_117) fun t129_118 =>
 RunS Try.prog S_79 (Builtin.len_ #[29] 3 #[t129_118]) fun t130_119 =>
 RunA Try.prog (bin .add 3 (.tmp 127) (.tmp 130) t67_30 t130_119) fun t131_120 =>
 CallF Try.prog 12 #[t38_10] w fun t126_121 w =>
 S_79 w ∧ (
 RunS Try.prog S_79 (bin .neq 3 (.tmp 126) (.tmp 131) t126_121 t131_120) fun t132_122 =>
 IfB t132_122 (
 R (.bool false) w) (
 RunS Try.prog S_79 (bin .neq 26 (.tmp 137) (.const (.int .i64 0)) t86_68 (.int .i64 0)) fun t138_123 =>
 IfB t138_123 (
 CallF Try.prog 17 #[t38_10, t65_29] w fun t142_124 w =>
 S_79 w ∧ (
 RunA Try.prog (Op.unary .not t142_124) fun t143_125 =>
 IfB t143_125 (
 R (.bool false) w) (
 j_78 a0 a1 t38_10 t7_22 w))) (
 j_78 a0 a1 t38_10 t7_22 w))))))))) (
 RunS Try.prog S_79 (bin .neq 26 (.tmp 137) (.const (.int .i64 0)) t86_68 (.int .i64 0)) fun t138_126 =>
 IfB t138_126 (
 CallF Try.prog 17 #[t38_10, t65_29] w fun t142_127 w =>
 S_79 w ∧ (
 RunA Try.prog (Op.unary .not t142_127) fun t143_128 =>
 IfB t143_128 (
 R (.bool false) w) (
 j_78 a0 a1 t38_10 t7_22 w))) (
 j_78 a0 a1 t38_10 t7_22 w))))) w) (
 jn 4 (fun t0_129 t1_130 t5_131 t7_132 w =>
 j_43 t0_129 t1_130 t5_131 t7_132 w) fun j_133 =>
 RunW Try.prog (bin .eql 3 (.tmp 78) (.const (.int .i64 3)) t78_38 (.int .i64 3)) w fun t147_134 =>
 IfB t147_134 (
 RunA Try.prog (Instr.fieldAt 32 t8_28 3) fun t149_135 =>
 RunW Try.prog (Instr.loadAt 9 t149_135) w fun t150_136 =>
 RunA Try.prog (Instr.fieldAt 32 t8_28 1) fun t151_137 =>
 RunW Try.prog (Instr.loadAt 3 t151_137) w fun t152_138 =>
 CallF Try.prog 18 #[t38_10, t150_136, t152_138] w fun t153_139 w =>
 RunA Try.prog (Instr.fieldAt 32 t8_28 3) fun t156_140 =>
 RunW Try.prog (Instr.loadAt 9 t156_140) w fun t157_141 =>
 CallF Try.prog 13 #[t38_10, t157_141] w fun t158_142 w =>
 RunA Try.prog (Instr.extract t158_142 0) fun t159_143 =>
 RunA Try.prog (Instr.extract t158_142 1) fun t160_144 =>
 jn 4 (fun t0_145 t1_146 t5_147 t7_148 w =>
 j_133 t0_145 t1_146 t5_147 t7_148 w) fun j_149 =>
 RunW Try.prog (bin .eql 26 (.tmp 161) (.const (.int .i64 0)) t153_139 (.int .i64 0)) w fun t162_150 =>
 IfB t162_150 (
 RunA Try.prog (Instr.fieldAt 32 t8_28 1) fun t164_151 =>
 RunW Try.prog (Instr.loadAt 3 t164_151) w fun t165_152 =>
 RunA Try.prog (bin .lss 3 (.tmp 165) (.const (.int .i64 0)) t165_152 (.int .i64 0)) fun t166_153 =>
 IfB t166_153 (
 R (.bool false) w) (
 RunA Try.prog (Instr.fieldAt 32 t8_28 1) fun t168_154 =>
 RunW Try.prog (Instr.loadAt 3 t168_154) w fun t169_155 =>
 RunW Try.prog (Builtin.len_ #[29] 3 #[t75_35]) w fun t171_156 =>
 RunA Try.prog (bin .gtr 3 (.tmp 169) (.tmp 171) t169_155 t171_156) fun t172_157 =>
 IfB t172_157 (
 R (.bool false) w) (
 RunA Try.prog (Instr.fieldAt 32 t8_28 1) fun t177_158 =>
 RunW Try.prog (Instr.loadAt 3 t177_158) w fun t178_159 =>
 RunA Try.prog (Instr.sliceAt 29 t75_35 none (some t178_159) none) fun t179_160 =>
 CallF Try.prog 15 #[t159_143, t179_160] w fun t180_161 w =>
 RunA Try.prog (Op.unary .not t180_161) fun t181_162 =>
 IfB t181_162 (
 R (.bool false) w) (
 RunW Try.prog (bin .neq 26 (.tmp 185) (.const (.int .i64 0)) t153_139 (.int .i64 0)) w fun t186_163 =>
 IfB t186_163 (
 CallF Try.prog 17 #[t38_10, t65_29] w fun t190_164 w =>
 RunA Try.prog (Op.unary .not t190_164) fun t191_165 =>
 IfB t191_165 (
 R (.bool false) w) (
 j_149 a0 a1 t38_10 t7_22 w)) (
 j_149 a0 a1 t38_10 t7_22 w))))) (
 RunW Try.prog (bin .neq 26 (.tmp 185) (.const (.int .i64 0)) t153_139 (.int .i64 0)) w fun t186_166 =>
 IfB t186_166 (
 CallF Try.prog 17 #[t38_10, t65_29] w fun t190_167 w =>
 RunA Try.prog (Op.unary .not t190_167) fun t191_168 =>
 IfB t191_168 (
 R (.bool false) w) (
 j_149 a0 a1 t38_10 t7_22 w)) (
 j_149 a0 a1 t38_10 t7_22 w))) (
 j_133 a0 a1 t38_10 t7_22 w)))) (
 CallF Try.prog 8 #[] w fun t225_169 w =>
 R t225_169 w)) [(.int .i64 0)] w)))))
theorem sh3_calls {a0 a1 : Value} {w : World} {R : Value → World → Prop} (h : sh3 a0 a1 w R) : CallF Try.prog 3 #[a0, a1] w R :=
  calls_of_denF (mk := false) (args := [a0, a1]) (an := (.seq (.ops [0, 1]) (.seq (.seq (.ops [0, 1, 25]) (.cond (.seq (.ops [4]) .leaf) .leaf)) (.seq (.seq (.ops [0, 1, 33]) (.cond (.seq (.ops [4]) .leaf) .leaf)) (.seq (.ops [0, 1, 5, 6]) (.seq (.seq (.ops [0, 1, 5, 6, 45]) (.cond (.seq (.ops [4]) .leaf) .leaf)) (.seq (.seq (.ops [0, 1, 5, 7]) (.blk (.loop [0, 1, 5] [7] (.seq (.seq (.ops [0, 1, 5, 7, 57]) (.cond .leaf .leaf)) (.seq (.blk (.seq (.ops [0, 1, 5, 7, 8]) (.seq (.ops [0, 1, 5, 7, 8, 9, 10]) (.seq (.seq (.ops [0, 1, 5, 7, 8, 9, 10, 69]) (.cond (.seq (.ops [4]) .leaf) .leaf)) (.seq (.ops [0, 1, 5, 7, 8, 9, 10, 11]) (.seq (.seq (.ops [0, 1, 5, 7, 8, 9, 10, 11, 78]) (.blk (.join [0, 1, 5, 7] (.seq (.ops [0, 1, 5, 7, 8, 9, 10, 11, 78, 79]) (.cond (.seq (.ops [0, 1, 5, 7, 8, 9, 10, 11, 13]) (.seq (.ops [0, 1, 5, 7, 8, 9, 10, 11, 13, 14, 15]) (.join [0, 1, 5, 7] (.seq (.draw (.q 0 (.q 1 (.q 2 (.q 3 (.q 4 (.q 5 (.q 6 (.q 7 (.q 8 (.q 9 (.sp 10 (.q 10 (.q 11 (.q 12 (.q 13 (.q 14 (.sp 15 (.q 15 (.q 16 (.q 17 (.q 18 (.q 19 (.q 20 (.q 21 (.q 22 (.q 23 (.q 24 (.q 25 (.q 26 (.q 27 (.q 28 (.q 29 (.q 30 (.q 31 (.q 32 (.q 33 (.q 34 (.q 35 (.q 36 (.q 37 (.q 38 (.q 39 (.q 40 (.q 41 (.q 42 (.q 43 (.q 44 (.q 45 (.q 46 (.q 47 (.q 48 (.q 49 (.q 50 (.q 51 .fin))))))))))))))))))))))))))))))))))))) (.q 15 (.q 16 (.q 17 (.sp 18 (.q 18 (.q 19 (.q 20 (.sp 21 (.q 21 (.q 22 (.q 23 (.q 24 (.q 25 (.q 26 (.q 27 (.q 28 (.q 29 (.q 30 (.q 31 (.q 32 (.q 33 (.q 34 (.q 35 (.q 36 (.q 37 (.q 38 (.q 39 (.q 40 (.q 41 (.q 42 (.q 43 (.q 44 (.q 45 (.q 46 (.q 47 (.q 48 (.q 49 (.q 50 (.q 51 .fin))))))))))))))))))))))))))))))) (.q 21 (.q 22 (.q 24 (.q 25 (.one 23 (.one 26 (.one 27 (.q 28 (.q 29 (.q 30 (.sp 31 (.q 31 (.q 32 (.q 33 (.q 34 (.q 35 (.q 36 (.q 37 (.q 38 (.q 39 (.q 40 (.q 41 (.q 42 (.q 43 (.q 44 (.q 45 (.q 46 (.q 47 (.q 48 (.q 49 (.q 50 (.q 51 .fin))))))))))))))))))))) (.q 31 (.q 33 (.q 34 (.q 35 (.q 36 (.q 37 (.one 32 (.q 38 (.q 39 (.q 40 (.q 41 (.q 42 (.sp 43 (.q 43 (.q 44 (.q 45 (.q 46 (.q 47 (.q 48 (.q 49 (.q 50 (.q 51 .fin))))))))) (.q 43 (.q 44 (.q 45 (.sp 46 (.q 46 (.q 47 (.one 48 (.q 49 (.q 50 (.q 51 .fin)))))) (.q 46 (.q 47 (.q 48 (.q 49 (.q 50 (.q 51 .fin)))))))))))))))))))))))))))))))))))))) (.q 18 (.q 19 (.q 20 (.q 21 (.q 22 (.q 23 (.q 24 (.q 25 (.q 26 (.q 27 (.q 28 (.q 29 (.q 30 (.q 31 (.q 32 (.q 33 (.q 34 (.q 35 (.q 36 (.q 37 (.q 38 (.q 39 (.q 40 (.q 41 (.q 42 (.q 43 (.q 44 (.q 45 (.sp 46 (.q 46 (.q 47 (.one 48 (.q 49 (.q 50 (.q 51 .fin)))))) (.q 46 (.q 47 (.q 48 (.q 49 (.q 50 (.q 51 .fin))))))))))))))))))))))))))))))))))))))))))))) (.q 10 (.q 11 (.q 12 (.q 13 (.q 14 (.sp 15 (.q 15 (.q 16 (.q 17 (.q 18 (.q 19 (.q 20 (.q 21 (.q 22 (.q 23 (.q 24 (.q 25 (.q 26 (.q 27 (.q 28 (.q 29 (.q 30 (.q 31 (.q 32 (.q 33 (.q 34 (.q 35 (.q 36 (.q 37 (.q 38 (.q 39 (.q 40 (.q 41 (.q 42 (.q 43 (.q 44 (.q 45 (.q 46 (.q 47 (.q 48 (.q 49 (.q 50 (.q 51 .fin))))))))))))))))))))))))))))))))))))) (.q 15 (.q 16 (.q 17 (.sp 18 (.q 18 (.q 19 (.q 20 (.sp 21 (.q 21 (.q 22 (.q 23 (.q 24 (.q 25 (.q 26 (.q 27 (.q 28 (.q 29 (.q 30 (.q 31 (.q 32 (.q 33 (.q 34 (.q 35 (.q 36 (.q 37 (.q 38 (.q 39 (.q 40 (.q 41 (.q 42 (.q 43 (.q 44 (.q 45 (.q 46 (.q 47 (.q 48 (.q 49 (.q 50 (.q 51 .fin))))))))))))))))))))))))))))))) (.q 21 (.q 22 (.q 24 (.q 25 (.one 23 (.one 26 (.one 27 (.q 28 (.q 29 (.q 30 (.sp 31 (.q 31 (.q 32 (.q 33 (.q 34 (.q 35 (.q 36 (.q 37 (.q 38 (.q 39 (.q 40 (.q 41 (.q 42 (.q 43 (.q 44 (.q 45 (.q 46 (.q 47 (.q 48 (.q 49 (.q 50 (.q 51 .fin))))))))))))))))))))) (.q 31 (.q 33 (.q 34 (.q 35 (.q 36 (.q 37 (.one 32 (.q 38 (.q 39 (.q 40 (.q 41 (.q 42 (.sp 43 (.q 43 (.q 44 (.q 45 (.q 46 (.q 47 (.q 48 (.q 49 (.q 50 (.q 51 .fin))))))))) (.q 43 (.q 44 (.q 45 (.sp 46 (.q 46 (.q 47 (.one 48 (.q 49 (.q 50 (.q 51 .fin)))))) (.q 46 (.q 47 (.q 48 (.q 49 (.q 50 (.q 51 .fin)))))))))))))))))))))))))))))))))))))) (.q 18 (.q 19 (.q 20 (.q 21 (.q 22 (.q 23 (.q 24 (.q 25 (.q 26 (.q 27 (.q 28 (.q 29 (.q 30 (.q 31 (.q 32 (.q 33 (.q 34 (.q 35 (.q 36 (.q 37 (.q 38 (.q 39 (.q 40 (.q 41 (.q 42 (.q 43 (.q 44 (.q 45 (.sp 46 (.q 46 (.q 47 (.one 48 (.q 49 (.q 50 (.q 51 .fin)))))) (.q 46 (.q 47 (.q 48 (.q 49 (.q 50 (.q 51 .fin)))))))))))))))))))))))))))))))))))))))))))))))))))))))) [0, 1, 5, 7, 145]) (.cond (.seq (.ops [4]) .leaf) .leaf))))) (.join [0, 1, 5, 7] (.seq (.ops [0, 1, 5, 7, 8, 9, 11, 146]) (.cond (.seq (.ops [0, 1, 5, 7, 8, 9, 11, 16]) (.seq (.ops [0, 1, 5, 7, 8, 9, 11, 16, 17]) (.join [0, 1, 5, 7] (.seq (.ops [0, 1, 5, 7, 193]) (.cond (.seq (.ops [4]) .leaf) .leaf))))) .leaf)))))))) (.seq (.ops [0, 1, 5, 7, 19]) (.seq (.ops [0, 1, 5, 7, 19, 20]) (.seq (.seq (.ops [0, 1, 5, 7, 19, 20, 21]) (.blk (.loop [0, 1, 5, 7, 20] [19, 21] (.seq (.seq (.ops [0, 1, 5, 7, 19, 20, 21, 200]) (.cond .leaf .leaf)) (.seq (.blk (.seq (.ops [0, 1, 5, 7, 19, 20, 21, 22]) (.ops [0, 1, 5, 7, 19, 20, 21]))) (.ops [0, 1, 5, 7, 19, 20, 21])))))) (.seq (.ops [0, 1, 5, 7, 224]) (.cond (.seq (.ops [4]) .leaf) .leaf))))))))))) (.ops [0, 1, 5, 7])))))) (.seq (.ops [4]) .leaf)))))))) (c := Try.f3.body.getD .skip) hent Try.func3 rfl (Nat.le_of_ble_eq_true (by kernel_rfl))
    (Eq.mp (show sh3 a0 a1 w R = denF Try.prog ent false Try.f3 (.seq (.ops [0, 1]) (.seq (.seq (.ops [0, 1, 25]) (.cond (.seq (.ops [4]) .leaf) .leaf)) (.seq (.seq (.ops [0, 1, 33]) (.cond (.seq (.ops [4]) .leaf) .leaf)) (.seq (.ops [0, 1, 5, 6]) (.seq (.seq (.ops [0, 1, 5, 6, 45]) (.cond (.seq (.ops [4]) .leaf) .leaf)) (.seq (.seq (.ops [0, 1, 5, 7]) (.blk (.loop [0, 1, 5] [7] (.seq (.seq (.ops [0, 1, 5, 7, 57]) (.cond .leaf .leaf)) (.seq (.blk (.seq (.ops [0, 1, 5, 7, 8]) (.seq (.ops [0, 1, 5, 7, 8, 9, 10]) (.seq (.seq (.ops [0, 1, 5, 7, 8, 9, 10, 69]) (.cond (.seq (.ops [4]) .leaf) .leaf)) (.seq (.ops [0, 1, 5, 7, 8, 9, 10, 11]) (.seq (.seq (.ops [0, 1, 5, 7, 8, 9, 10, 11, 78]) (.blk (.join [0, 1, 5, 7] (.seq (.ops [0, 1, 5, 7, 8, 9, 10, 11, 78, 79]) (.cond (.seq (.ops [0, 1, 5, 7, 8, 9, 10, 11, 13]) (.seq (.ops [0, 1, 5, 7, 8, 9, 10, 11, 13, 14, 15]) (.join [0, 1, 5, 7] (.seq (.draw (.q 0 (.q 1 (.q 2 (.q 3 (.q 4 (.q 5 (.q 6 (.q 7 (.q 8 (.q 9 (.sp 10 (.q 10 (.q 11 (.q 12 (.q 13 (.q 14 (.sp 15 (.q 15 (.q 16 (.q 17 (.q 18 (.q 19 (.q 20 (.q 21 (.q 22 (.q 23 (.q 24 (.q 25 (.q 26 (.q 27 (.q 28 (.q 29 (.q 30 (.q 31 (.q 32 (.q 33 (.q 34 (.q 35 (.q 36 (.q 37 (.q 38 (.q 39 (.q 40 (.q 41 (.q 42 (.q 43 (.q 44 (.q 45 (.q 46 (.q 47 (.q 48 (.q 49 (.q 50 (.q 51 .fin))))))))))))))))))))))))))))))))))))) (.q 15 (.q 16 (.q 17 (.sp 18 (.q 18 (.q 19 (.q 20 (.sp 21 (.q 21 (.q 22 (.q 23 (.q 24 (.q 25 (.q 26 (.q 27 (.q 28 (.q 29 (.q 30 (.q 31 (.q 32 (.q 33 (.q 34 (.q 35 (.q 36 (.q 37 (.q 38 (.q 39 (.q 40 (.q 41 (.q 42 (.q 43 (.q 44 (.q 45 (.q 46 (.q 47 (.q 48 (.q 49 (.q 50 (.q 51 .fin))))))))))))))))))))))))))))))) (.q 21 (.q 22 (.q 24 (.q 25 (.one 23 (.one 26 (.one 27 (.q 28 (.q 29 (.q 30 (.sp 31 (.q 31 (.q 32 (.q 33 (.q 34 (.q 35 (.q 36 (.q 37 (.q 38 (.q 39 (.q 40 (.q 41 (.q 42 (.q 43 (.q 44 (.q 45 (.q 46 (.q 47 (.q 48 (.q 49 (.q 50 (.q 51 .fin))))))))))))))))))))) (.q 31 (.q 33 (.q 34 (.q 35 (.q 36 (.q 37 (.one 32 (.q 38 (.q 39 (.q 40 (.q 41 (.q 42 (.sp 43 (.q 43 (.q 44 (.q 45 (.q 46 (.q 47 (.q 48 (.q 49 (.q 50 (.q 51 .fin))))))))) (.q 43 (.q 44 (.q 45 (.sp 46 (.q 46 (.q 47 (.one 48 (.q 49 (.q 50 (.q 51 .fin)))))) (.q 46 (.q 47 (.q 48 (.q 49 (.q 50 (.q 51 .fin)))))))))))))))))))))))))))))))))))))) (.q 18 (.q 19 (.q 20 (.q 21 (.q 22 (.q 23 (.q 24 (.q 25 (.q 26 (.q 27 (.q 28 (.q 29 (.q 30 (.q 31 (.q 32 (.q 33 (.q 34 (.q 35 (.q 36 (.q 37 (.q 38 (.q 39 (.q 40 (.q 41 (.q 42 (.q 43 (.q 44 (.q 45 (.sp 46 (.q 46 (.q 47 (.one 48 (.q 49 (.q 50 (.q 51 .fin)))))) (.q 46 (.q 47 (.q 48 (.q 49 (.q 50 (.q 51 .fin))))))))))))))))))))))))))))))))))))))))))))) (.q 10 (.q 11 (.q 12 (.q 13 (.q 14 (.sp 15 (.q 15 (.q 16 (.q 17 (.q 18 (.q 19 (.q 20 (.q 21 (.q 22 (.q 23 (.q 24 (.q 25 (.q 26 (.q 27 (.q 28 (.q 29 (.q 30 (.q 31 (.q 32 (.q 33 (.q 34 (.q 35 (.q 36 (.q 37 (.q 38 (.q 39 (.q 40 (.q 41 (.q 42 (.q 43 (.q 44 (.q 45 (.q 46 (.q 47 (.q 48 (.q 49 (.q 50 (.q 51 .fin))))))))))))))))))))))))))))))))))))) (.q 15 (.q 16 (.q 17 (.sp 18 (.q 18 (.q 19 (.q 20 (.sp 21 (.q 21 (.q 22 (.q 23 (.q 24 (.q 25 (.q 26 (.q 27 (.q 28 (.q 29 (.q 30 (.q 31 (.q 32 (.q 33 (.q 34 (.q 35 (.q 36 (.q 37 (.q 38 (.q 39 (.q 40 (.q 41 (.q 42 (.q 43 (.q 44 (.q 45 (.q 46 (.q 47 (.q 48 (.q 49 (.q 50 (.q 51 .fin))))))))))))))))))))))))))))))) (.q 21 (.q 22 (.q 24 (.q 25 (.one 23 (.one 26 (.one 27 (.q 28 (.q 29 (.q 30 (.sp 31 (.q 31 (.q 32 (.q 33 (.q 34 (.q 35 (.q 36 (.q 37 (.q 38 (.q 39 (.q 40 (.q 41 (.q 42 (.q 43 (.q 44 (.q 45 (.q 46 (.q 47 (.q 48 (.q 49 (.q 50 (.q 51 .fin))))))))))))))))))))) (.q 31 (.q 33 (.q 34 (.q 35 (.q 36 (.q 37 (.one 32 (.q 38 (.q 39 (.q 40 (.q 41 (.q 42 (.sp 43 (.q 43 (.q 44 (.q 45 (.q 46 (.q 47 (.q 48 (.q 49 (.q 50 (.q 51 .fin))))))))) (.q 43 (.q 44 (.q 45 (.sp 46 (.q 46 (.q 47 (.one 48 (.q 49 (.q 50 (.q 51 .fin)))))) (.q 46 (.q 47 (.q 48 (.q 49 (.q 50 (.q 51 .fin)))))))))))))))))))))))))))))))))))))) (.q 18 (.q 19 (.q 20 (.q 21 (.q 22 (.q 23 (.q 24 (.q 25 (.q 26 (.q 27 (.q 28 (.q 29 (.q 30 (.q 31 (.q 32 (.q 33 (.q 34 (.q 35 (.q 36 (.q 37 (.q 38 (.q 39 (.q 40 (.q 41 (.q 42 (.q 43 (.q 44 (.q 45 (.sp 46 (.q 46 (.q 47 (.one 48 (.q 49 (.q 50 (.q 51 .fin)))))) (.q 46 (.q 47 (.q 48 (.q 49 (.q 50 (.q 51 .fin)))))))))))))))))))))))))))))))))))))))))))))))))))))))) [0, 1, 5, 7, 145]) (.cond (.seq (.ops [4]) .leaf) .leaf))))) (.join [0, 1, 5, 7] (.seq (.ops [0, 1, 5, 7, 8, 9, 11, 146]) (.cond (.seq (.ops [0, 1, 5, 7, 8, 9, 11, 16]) (.seq (.ops [0, 1, 5, 7, 8, 9, 11, 16, 17]) (.join [0, 1, 5, 7] (.seq (.ops [0, 1, 5, 7, 193]) (.cond (.seq (.ops [4]) .leaf) .leaf))))) .leaf)))))))) (.seq (.ops [0, 1, 5, 7, 19]) (.seq (.ops [0, 1, 5, 7, 19, 20]) (.seq (.seq (.ops [0, 1, 5, 7, 19, 20, 21]) (.blk (.loop [0, 1, 5, 7, 20] [19, 21] (.seq (.seq (.ops [0, 1, 5, 7, 19, 20, 21, 200]) (.cond .leaf .leaf)) (.seq (.blk (.seq (.ops [0, 1, 5, 7, 19, 20, 21, 22]) (.ops [0, 1, 5, 7, 19, 20, 21]))) (.ops [0, 1, 5, 7, 19, 20, 21])))))) (.seq (.ops [0, 1, 5, 7, 224]) (.cond (.seq (.ops [4]) .leaf) .leaf))))))))))) (.ops [0, 1, 5, 7])))))) (.seq (.ops [4]) .leaf))))))) (Try.f3.body.getD .skip) [a0, a1] w R by kernel_rfl) h)

/-! ### 4: handbill/hbllaw8.DiskMoves -/
def sh4 (a0 a1 a2 : Value) (w : World) (R : Value → World → Prop) : Prop :=
 CallF Try.prog 8 #[] w fun t22_1 w =>
 RunA Try.prog (Op.unary .not t22_1) fun t23_2 =>
 IfB t23_2 (
 R (.bool false) w) (
 CallF Try.prog 9 #[a0] w fun t25_3 w =>
 RunA Try.prog (Op.unary .not t25_3) fun t26_4 =>
 IfB t26_4 (
 CallF Try.prog 8 #[] w fun t42_5 w =>
 R t42_5 w) (
 RunW Try.prog (Builtin.len_ #[22] 3 #[a0]) w fun t29_6 =>
 RunA Try.prog (bin .gtr 3 (.tmp 29) (.const (.int .i64 100)) t29_6 (.int .i64 100)) fun t30_7 =>
 IfB t30_7 (
 CallF Try.prog 8 #[] w fun t42_8 w =>
 R t42_8 w) (
 RunW Try.prog (Builtin.len_ #[9] 3 #[a1]) w fun t34_9 =>
 RunA Try.prog (bin .gtr 3 (.tmp 34) (.const (.int .i64 300)) t34_9 (.int .i64 300)) fun t35_10 =>
 IfB t35_10 (
 CallF Try.prog 8 #[] w fun t42_11 w =>
 R t42_11 w) (
 RunW Try.prog (Builtin.len_ #[9] 3 #[a2]) w fun t39_12 =>
 RunA Try.prog (bin .gtr 3 (.tmp 39) (.const (.int .i64 300)) t39_12 (.int .i64 300)) fun t40_13 =>
 IfB t40_13 (
 CallF Try.prog 8 #[] w fun t42_14 w =>
 R t42_14 w) (
 CallF Try.prog 10 #[(.int .i64 1048576)] w fun t44_15 w =>
 RunA Try.prog (Instr.extract t44_15 0) fun t45_16 =>
 RunA Try.prog (Instr.extract t44_15 1) fun t46_17 =>
 RunW Try.prog (bin .eql 25 (.tmp 47) (.const (.pointer none)) t45_16 (.pointer none)) w fun t48_18 =>
 IfB t48_18 (
 R (.bool false) w) (
 RunW Try.prog (bin .neq 26 (.tmp 50) (.const (.int .i64 0)) t46_17 (.int .i64 0)) w fun t51_19 =>
 IfB t51_19 (
 R (.bool false) w) (
 CallF Try.prog 21 #[t45_16, a0] w fun t55_20 w =>
 CallF Try.prog 13 #[t45_16, a1] w fun t59_21 w =>
 RunA Try.prog (Instr.extract t59_21 0) fun t60_22 =>
 RunA Try.prog (Instr.extract t59_21 1) fun t61_23 =>
 CallF Try.prog 20 #[t45_16] w fun t63_24 w =>
 CallF Try.prog 19 #[t63_24] w fun t64_25 w =>
 CallF Try.prog 22 #[t45_16, a1, a2] w fun t68_26 w =>
 CallF Try.prog 20 #[t45_16] w fun t70_27 w =>
 CallF Try.prog 19 #[t70_27] w fun t71_28 w =>
 RunW Try.prog (bin .neq 26 (.tmp 72) (.const (.int .i64 0)) t68_26 (.int .i64 0)) w fun t73_29 =>
 IfB t73_29 (
 CallF Try.prog 8 #[] w fun t74_30 w =>
 IfB t74_30 (
 CallF Try.prog 23 #[t71_28, t64_25] w fun t78_31 w =>
 IfB t78_31 (
 RunW Try.prog (bin .eql 26 (.tmp 81) (.const (.int .i64 11)) t68_26 (.int .i64 11)) w fun t82_32 =>
 IfB t82_32 (
 R (.bool true) w) (
 RunW Try.prog (bin .eql 26 (.tmp 84) (.const (.int .i64 6)) t68_26 (.int .i64 6)) w fun t85_33 =>
 IfB t85_33 (
 RunA Try.prog (Op.unary .not t61_23) fun t88_34 =>
 R t88_34 w) (
 R (.bool false) w))) (
 R (.bool false) w)) (
 R (.bool false) w)) (
 CallF Try.prog 13 #[t45_16, a2] w fun t95_35 w =>
 RunA Try.prog (Instr.extract t95_35 0) fun t96_36 =>
 RunA Try.prog (Instr.extract t95_35 1) fun t97_37 =>
 CallF Try.prog 13 #[t45_16, a1] w fun t101_38 w =>
 RunA Try.prog (Instr.extract t101_38 0) fun t102_39 =>
 RunA Try.prog (Instr.extract t101_38 1) fun t103_40 =>
 RunA Try.prog (Op.unary .not t61_23) fun t105_41 =>
 IfB t105_41 (
 R (.bool false) w) (
 RunA Try.prog (Op.unary .not t97_37) fun t108_42 =>
 IfB t108_42 (
 R (.bool false) w) (
 CallF Try.prog 15 #[t96_36, t60_22] w fun t113_43 w =>
 RunA Try.prog (Op.unary .not t113_43) fun t114_44 =>
 IfB t114_44 (
 R (.bool false) w) (
 RunW Try.prog (bin .eql 9 (.tmp 118) (.tmp 119) a1 a2) w fun t120_45 =>
 RunW Try.prog (bin .neq 4 (.tmp 117) (.tmp 120) t103_40 t120_45) w fun t121_46 =>
 IfB t121_46 (
 R (.bool false) w) (
 lp 1 (fun n_48 t18_47 w =>
 RunW Try.prog (Builtin.len_ #[42] 3 #[t64_25]) w fun t125_49 =>
 RunA Try.prog (bin .lss 3 (.tmp 123) (.tmp 125) t18_47 t125_49) fun t126_50 =>
 IfB t126_50 (
 jn 6 (fun t1_51 t2_52 t7_53 t11_54 t13_55 t18_56 w =>
 RunA Try.prog (bin .add 3 (.tmp 127) (.const (.int .i64 1)) t18_56 (.int .i64 1)) fun t128_58 =>
 (t1_51 : Value) = a1 ∧ ((t2_52 : Value) = a2 ∧ ((t7_53 : Value) = t45_16 ∧ ((t11_54 : Value) = t64_25 ∧ ((t13_55 : Value) = t71_28 ∧ (n_48 t128_58 w)))))) fun j_57 =>
 RunA Try.prog (Instr.indexAt 42 t64_25 t18_47) fun t131_59 =>
 RunW Try.prog (Instr.loadAt 9 t131_59) w fun t132_60 =>
 RunW Try.prog (bin .neq 9 (.tmp 132) (.tmp 133) t132_60 a1) w fun t134_61 =>
 IfB t134_61 (
 RunA Try.prog (Instr.indexAt 42 t64_25 t18_47) fun t139_62 =>
 RunW Try.prog (Instr.loadAt 9 t139_62) w fun t140_63 =>
 CallF Try.prog 24 #[t71_28, t140_63] w fun t141_64 w =>
 RunA Try.prog (Op.unary .not t141_64) fun t142_65 =>
 IfB t142_65 (
 R (.bool false) w) (
 j_57 a1 a2 t45_16 t64_25 t71_28 t18_47 w)) (
 j_57 a1 a2 t45_16 t64_25 t71_28 t18_47 w)) (
 CallF Try.prog 25 #[t45_16, a2] w fun t146_66 w =>
 CallF Try.prog 13 #[t45_16, a2] w fun t150_67 w =>
 RunA Try.prog (Instr.extract t150_67 0) fun t151_68 =>
 RunA Try.prog (Instr.extract t150_67 1) fun t152_69 =>
 CallF Try.prog 8 #[] w fun t153_70 w =>
 IfB t153_70 (
 RunW Try.prog (bin .eql 26 (.tmp 155) (.const (.int .i64 0)) t146_66 (.int .i64 0)) w fun t156_71 =>
 IfB t156_71 (
 RunA Try.prog (Op.unary .not t152_69) fun t160_72 =>
 IfB t160_72 (
 CallF Try.prog 25 #[t45_16, a2] w fun t165_73 w =>
 RunW Try.prog (bin .eql 26 (.tmp 165) (.const (.int .i64 6)) t165_73 (.int .i64 6)) w fun t166_74 =>
 R t166_74 w) (
 R (.bool false) w)) (
 R (.bool false) w)) (
 R (.bool false) w))) [(.int .i64 0)] w))))))))))))
theorem sh4_calls {a0 a1 a2 : Value} {w : World} {R : Value → World → Prop} (h : sh4 a0 a1 a2 w R) : CallF Try.prog 4 #[a0, a1, a2] w R :=
  calls_of_denF (mk := false) (args := [a0, a1, a2]) (an := (.seq (.ops [0, 1, 2]) (.seq (.seq (.ops [0, 1, 2, 23]) (.cond (.seq (.ops [6]) .leaf) .leaf)) (.seq (.seq (.ops [0, 1, 2, 41]) (.cond (.seq (.ops [6]) .leaf) .leaf)) (.seq (.ops [0, 1, 2, 7, 8]) (.seq (.seq (.ops [0, 1, 2, 7, 52]) (.cond (.seq (.ops [6]) .leaf) .leaf)) (.seq (.ops [1, 2, 7]) (.seq (.ops [1, 2, 7, 9, 10]) (.seq (.ops [1, 2, 7, 9, 10, 11]) (.seq (.ops [1, 2, 7, 9, 10, 11, 12]) (.seq (.ops [1, 2, 7, 9, 10, 11, 12, 13]) (.seq (.seq (.ops [1, 2, 7, 9, 10, 11, 12, 13, 73]) (.cond (.seq (.ops [6]) .leaf) .leaf)) (.seq (.ops [1, 2, 7, 9, 10, 11, 13, 14, 15]) (.seq (.ops [1, 2, 7, 9, 10, 11, 13, 14, 15, 17]) (.seq (.seq (.ops [1, 2, 7, 11, 13, 122]) (.cond (.seq (.ops [6]) .leaf) .leaf)) (.seq (.seq (.ops [1, 2, 7, 11, 13, 18]) (.blk (.loop [1, 2, 7, 11, 13] [18] (.seq (.seq (.ops [1, 2, 7, 11, 13, 18, 126]) (.cond .leaf .leaf)) (.seq (.blk (.join [1, 2, 7, 11, 13, 18] (.seq (.ops [1, 2, 7, 11, 13, 18, 143]) (.cond (.seq (.ops [6]) .leaf) .leaf)))) (.ops [1, 2, 7, 11, 13, 18])))))) (.seq (.ops [2, 7, 19]) (.seq (.ops [2, 7, 19, 21]) (.seq (.ops [6]) .leaf))))))))))))))))))) (c := Try.f4.body.getD .skip) hent Try.func4 rfl (Nat.le_of_ble_eq_true (by kernel_rfl))
    (Eq.mp (show sh4 a0 a1 a2 w R = denF Try.prog ent false Try.f4 (.seq (.ops [0, 1, 2]) (.seq (.seq (.ops [0, 1, 2, 23]) (.cond (.seq (.ops [6]) .leaf) .leaf)) (.seq (.seq (.ops [0, 1, 2, 41]) (.cond (.seq (.ops [6]) .leaf) .leaf)) (.seq (.ops [0, 1, 2, 7, 8]) (.seq (.seq (.ops [0, 1, 2, 7, 52]) (.cond (.seq (.ops [6]) .leaf) .leaf)) (.seq (.ops [1, 2, 7]) (.seq (.ops [1, 2, 7, 9, 10]) (.seq (.ops [1, 2, 7, 9, 10, 11]) (.seq (.ops [1, 2, 7, 9, 10, 11, 12]) (.seq (.ops [1, 2, 7, 9, 10, 11, 12, 13]) (.seq (.seq (.ops [1, 2, 7, 9, 10, 11, 12, 13, 73]) (.cond (.seq (.ops [6]) .leaf) .leaf)) (.seq (.ops [1, 2, 7, 9, 10, 11, 13, 14, 15]) (.seq (.ops [1, 2, 7, 9, 10, 11, 13, 14, 15, 17]) (.seq (.seq (.ops [1, 2, 7, 11, 13, 122]) (.cond (.seq (.ops [6]) .leaf) .leaf)) (.seq (.seq (.ops [1, 2, 7, 11, 13, 18]) (.blk (.loop [1, 2, 7, 11, 13] [18] (.seq (.seq (.ops [1, 2, 7, 11, 13, 18, 126]) (.cond .leaf .leaf)) (.seq (.blk (.join [1, 2, 7, 11, 13, 18] (.seq (.ops [1, 2, 7, 11, 13, 18, 143]) (.cond (.seq (.ops [6]) .leaf) .leaf)))) (.ops [1, 2, 7, 11, 13, 18])))))) (.seq (.ops [2, 7, 19]) (.seq (.ops [2, 7, 19, 21]) (.seq (.ops [6]) .leaf)))))))))))))))))) (Try.f4.body.getD .skip) [a0, a1, a2] w R by kernel_rfl) h)

/-! ### 5: handbill/hbllaw8.DiskPrefix -/
def sh5 (a0 a1 a2 a3 : Value) (w : World) (R : Value → World → Prop) : Prop :=
 CallF Try.prog 8 #[] w fun t18_1 w =>
 RunA Try.prog (Op.unary .not t18_1) fun t19_2 =>
 IfB t19_2 (
 R (.bool false) w) (
 CallF Try.prog 9 #[a0] w fun t21_3 w =>
 RunA Try.prog (Op.unary .not t21_3) fun t22_4 =>
 IfB t22_4 (
 CallF Try.prog 8 #[] w fun t42_5 w =>
 R t42_5 w) (
 CallF Try.prog 9 #[a1] w fun t25_6 w =>
 RunA Try.prog (Op.unary .not t25_6) fun t26_7 =>
 IfB t26_7 (
 CallF Try.prog 8 #[] w fun t42_8 w =>
 R t42_8 w) (
 RunW Try.prog (Builtin.len_ #[22] 3 #[a0]) w fun t30_9 =>
 RunA Try.prog (bin .gtr 3 (.tmp 30) (.const (.int .i64 100)) t30_9 (.int .i64 100)) fun t31_10 =>
 IfB t31_10 (
 CallF Try.prog 8 #[] w fun t42_11 w =>
 R t42_11 w) (
 RunW Try.prog (Builtin.len_ #[22] 3 #[a1]) w fun t35_12 =>
 RunA Try.prog (bin .gtr 3 (.tmp 35) (.const (.int .i64 100)) t35_12 (.int .i64 100)) fun t36_13 =>
 IfB t36_13 (
 CallF Try.prog 8 #[] w fun t42_14 w =>
 R t42_14 w) (
 RunA Try.prog (bin .lss 3 (.tmp 39) (.const (.int .i64 0)) a2 (.int .i64 0)) fun t40_15 =>
 IfB t40_15 (
 CallF Try.prog 8 #[] w fun t42_16 w =>
 R t42_16 w) (
 CallF Try.prog 10 #[(.int .i64 1048576)] w fun t44_17 w =>
 RunA Try.prog (Instr.extract t44_17 0) fun t45_18 =>
 RunA Try.prog (Instr.extract t44_17 1) fun t46_19 =>
 RunW Try.prog (bin .eql 25 (.tmp 47) (.const (.pointer none)) t45_18 (.pointer none)) w fun t48_20 =>
 IfB t48_20 (
 R (.bool false) w) (
 RunW Try.prog (bin .neq 26 (.tmp 50) (.const (.int .i64 0)) t46_19 (.int .i64 0)) w fun t51_21 =>
 IfB t51_21 (
 R (.bool false) w) (
 CallF Try.prog 21 #[t45_18, a0] w fun t55_22 w =>
 CallF Try.prog 26 #[t45_18] w fun t57_23 w =>
 CallF Try.prog 11 #[t45_18] w fun t59_24 w =>
 CallF Try.prog 11 #[t45_18] w fun t61_25 w =>
 CallF Try.prog 11 #[t45_18] w fun t63_26 w =>
 RunW Try.prog (bin .eql 25 (.tmp 64) (.const (.pointer none)) t59_24 (.pointer none)) w fun t65_27 =>
 IfB t65_27 (
 R (.bool false) w) (
 RunW Try.prog (bin .eql 25 (.tmp 67) (.const (.pointer none)) t61_25 (.pointer none)) w fun t68_28 =>
 IfB t68_28 (
 R (.bool false) w) (
 RunW Try.prog (bin .eql 25 (.tmp 71) (.const (.pointer none)) t63_26 (.pointer none)) w fun t72_29 =>
 IfB t72_29 (
 R (.bool false) w) (
 CallF Try.prog 21 #[t59_24, a1] w fun t76_30 w =>
 CallF Try.prog 11 #[t59_24] w fun t78_31 w =>
 CallF Try.prog 21 #[t61_25, a1] w fun t81_32 w =>
 RunV Try.prog (Instr.build 32 #[(0, (.int .i64 (-1)))]) w fun t82_33 w =>
 RunV Try.prog (Instr.alloc 32 true (.tuple #[])) w fun t16_34 w =>
 RunU Try.prog (Instr.storeAt 32 t16_34 t82_33) w fun w =>
 jn 7 (fun t2_35 t3_36 t11_37 t12_38 t13_39 t14_40 t16_41 w =>
 CallF Try.prog 28 #[t11_37, (.int .i64 1048576), (.int .i64 (-1))] w fun t113_43 w =>
 CallF Try.prog 28 #[t12_38, t2_35, t3_36] w fun t117_44 w =>
 RunW Try.prog (bin .eql 25 (.tmp 118) (.const (.pointer none)) t14_40 (.pointer none)) w fun t119_45 =>
 IfB t119_45 (
 R (.bool false) w) (
 CallF Try.prog 17 #[t11_37, t14_40] w fun t123_46 w =>
 RunA Try.prog (Op.unary .not t123_46) fun t124_47 =>
 IfB t124_47 (
 R (.bool false) w) (
 RunA Try.prog (Instr.fieldAt 32 t16_41 0) fun t126_48 =>
 RunW Try.prog (Instr.loadAt 3 t126_48) w fun t127_49 =>
 RunW Try.prog (bin .neq 3 (.tmp 127) (.const (.int .i64 2)) t127_49 (.int .i64 2)) w fun t128_50 =>
 IfB t128_50 (
 CallF Try.prog 8 #[] w fun t140_51 w =>
 IfB t140_51 (
 CallF Try.prog 17 #[t12_38, t13_39] w fun t144_52 w =>
 R t144_52 w) (
 R (.bool false) w)) (
 RunA Try.prog (bin .lss 3 (.tmp 130) (.const (.int .i64 0)) t3_36 (.int .i64 0)) fun t131_53 =>
 IfB t131_53 (
 CallF Try.prog 8 #[] w fun t140_54 w =>
 IfB t140_54 (
 CallF Try.prog 17 #[t12_38, t13_39] w fun t144_55 w =>
 R t144_55 w) (
 R (.bool false) w)) (
 RunA Try.prog (Instr.fieldAt 32 t16_41 5) fun t135_56 =>
 RunW Try.prog (Instr.loadAt 29 t135_56) w fun t136_57 =>
 RunW Try.prog (Builtin.len_ #[29] 3 #[t136_57]) w fun t137_58 =>
 RunA Try.prog (bin .geq 3 (.tmp 134) (.tmp 137) t3_36 t137_58) fun t138_59 =>
 IfB t138_59 (
 CallF Try.prog 8 #[] w fun t140_60 w =>
 IfB t140_60 (
 CallF Try.prog 17 #[t12_38, t13_39] w fun t144_61 w =>
 R t144_61 w) (
 R (.bool false) w)) (
 drw (fun S_62 w =>
 RunA Try.prog (Instr.fieldAt 32 t16_41 3) fun t147_63 =>
 RunS Try.prog S_62 (Instr.loadAt 9 t147_63) fun t148_64 =>
 RunA Try.prog (Instr.fieldAt 32 t16_41 5) fun t149_65 =>
 RunS Try.prog S_62 (Instr.loadAt 29 t149_65) fun t150_66 =>
 RunA Try.prog (Instr.sliceAt 29 t150_66 none (some t3_36) none) fun t152_67 =>
 CallF Try.prog 14 #[t13_39, t148_64, t152_67] w fun t153_68 w =>
 CallF Try.prog 8 #[] w fun t154_69 w =>
 IfB t154_69 (
 CallF Try.prog 17 #[t12_38, t13_39] w fun t158_70 w =>
 R t158_70 w) (
 R (.bool false) w)) w)))))) fun j_42 =>
 lp 2 (fun n_73 t15_71 t17_72 w =>
 RunW Try.prog (Builtin.len_ #[22] 3 #[a1]) w fun t85_74 =>
 RunA Try.prog (bin .lss 3 (.tmp 83) (.tmp 85) t17_72 t85_74) fun t86_75 =>
 IfB t86_75 (
 jn 10 (fun t1_76 t2_77 t3_78 t11_79 t12_80 t13_81 t14_82 t15_83 t16_84 t17_85 w =>
 RunA Try.prog (bin .add 3 (.tmp 87) (.const (.int .i64 1)) t17_85 (.int .i64 1)) fun t88_87 =>
 (t1_76 : Value) = a1 ∧ ((t2_77 : Value) = a2 ∧ ((t3_78 : Value) = a3 ∧ ((t11_79 : Value) = t59_24 ∧ ((t12_80 : Value) = t61_25 ∧ ((t13_81 : Value) = t63_26 ∧ ((t14_82 : Value) = t78_31 ∧ ((t16_84 : Value) = t16_34 ∧ (n_73 t15_83 t88_87 w))))))))) fun j_86 =>
 RunA Try.prog (Instr.indexAt 22 a1 t17_72) fun t92_88 =>
 RunW Try.prog (Instr.loadAt 32 t92_88) w fun t93_89 =>
 CallF Try.prog 27 #[t63_26, t93_89] w fun t94_90 w =>
 RunA Try.prog (Op.unary .not t94_90) fun t95_91 =>
 IfB t95_91 (
 j_86 a1 a2 a3 t59_24 t61_25 t63_26 t78_31 t15_71 t16_34 t17_72 w) (
 RunW Try.prog (bin .eql 3 (.tmp 96) (.tmp 97) t15_71 a2) w fun t98_92 =>
 IfB t98_92 (
 RunA Try.prog (Instr.indexAt 22 a1 t17_72) fun t101_93 =>
 RunW Try.prog (Instr.loadAt 32 t101_93) w fun t102_94 =>
 RunU Try.prog (Instr.storeAt 32 t16_34 t102_94) w fun w =>
 j_42 a2 a3 t59_24 t61_25 t63_26 t78_31 t16_34 w) (
 RunA Try.prog (bin .add 3 (.tmp 106) (.const (.int .i64 1)) t17_72 (.int .i64 1)) fun t107_95 =>
 RunA Try.prog (Instr.sliceAt 22 a1 (some t17_72) (some t107_95) none) fun t108_96 =>
 CallF Try.prog 21 #[t63_26, t108_96] w fun t109_97 w =>
 RunA Try.prog (bin .add 3 (.tmp 110) (.const (.int .i64 1)) t15_71 (.int .i64 1)) fun t111_98 =>
 j_86 a1 a2 a3 t59_24 t61_25 t63_26 t78_31 t111_98 t16_34 t17_72 w))) (
 j_42 a2 a3 t59_24 t61_25 t63_26 t78_31 t16_34 w)) [(.int .i64 0), (.int .i64 0)] w)))))))))))
theorem sh5_calls {a0 a1 a2 a3 : Value} {w : World} {R : Value → World → Prop} (h : sh5 a0 a1 a2 a3 w R) : CallF Try.prog 5 #[a0, a1, a2, a3] w R :=
  calls_of_denF (mk := false) (args := [a0, a1, a2, a3]) (an := (.seq (.ops [0, 1, 2, 3]) (.seq (.seq (.ops [0, 1, 2, 3, 19]) (.cond (.seq (.ops [8]) .leaf) .leaf)) (.seq (.seq (.ops [0, 1, 2, 3, 41]) (.cond (.seq (.ops [8]) .leaf) .leaf)) (.seq (.ops [0, 1, 2, 3, 9, 10]) (.seq (.seq (.ops [0, 1, 2, 3, 9, 52]) (.cond (.seq (.ops [8]) .leaf) .leaf)) (.seq (.ops [1, 2, 3, 9]) (.seq (.ops [1, 2, 3, 9]) (.seq (.ops [1, 2, 3, 11, 12, 13]) (.seq (.seq (.ops [1, 2, 3, 11, 12, 13, 73]) (.cond (.seq (.ops [8]) .leaf) .leaf)) (.seq (.ops [1, 2, 3, 11, 12, 13]) (.seq (.ops [1, 2, 3, 11, 12, 13, 14]) (.seq (.ops [1, 2, 3, 11, 12, 13, 14]) (.seq (.ops [1, 2, 3, 11, 12, 13, 14, 15]) (.seq (.ops [1, 2, 3, 11, 12, 13, 14, 15, 16]) (.seq (.seq (.ops [1, 2, 3, 11, 12, 13, 14, 15, 16, 17]) (.join [2, 3, 11, 12, 13, 14, 16] (.blk (.loop [1, 2, 3, 11, 12, 13, 14, 16] [15, 17] (.seq (.seq (.ops [1, 2, 3, 11, 12, 13, 14, 15, 16, 17, 86]) (.cond .leaf .leaf)) (.seq (.join [1, 2, 3, 11, 12, 13, 14, 15, 16, 17] (.blk (.seq (.seq (.ops [1, 2, 3, 11, 12, 13, 14, 15, 16, 17, 95]) (.cond .leaf .leaf)) (.seq (.seq (.ops [1, 2, 3, 11, 12, 13, 14, 15, 16, 17, 98]) (.cond (.seq (.ops [2, 3, 11, 12, 13, 14, 16]) .leaf) .leaf)) (.seq (.ops [1, 2, 3, 11, 12, 13, 14, 15, 16, 17]) (.ops [1, 2, 3, 11, 12, 13, 14, 15, 16, 17])))))) (.ops [1, 2, 3, 11, 12, 13, 14, 15, 16, 17]))))))) (.seq (.ops [2, 3, 11, 12, 13, 14, 16]) (.seq (.ops [3, 11, 12, 13, 14, 16]) (.seq (.seq (.ops [3, 12, 13, 16, 125]) (.cond (.seq (.ops [8]) .leaf) .leaf)) (.seq (.seq (.ops [3, 12, 13, 16, 139]) (.cond (.seq (.ops [8]) .leaf) .leaf)) (.seq (.draw (.q 0 (.q 1 (.q 2 (.q 3 (.q 4 (.q 5 (.q 6 (.one 7 .fin)))))))) [12, 13]) (.seq (.ops [8]) .leaf)))))))))))))))))))))) (c := Try.f5.body.getD .skip) hent Try.func5 rfl (Nat.le_of_ble_eq_true (by kernel_rfl))
    (Eq.mp (show sh5 a0 a1 a2 a3 w R = denF Try.prog ent false Try.f5 (.seq (.ops [0, 1, 2, 3]) (.seq (.seq (.ops [0, 1, 2, 3, 19]) (.cond (.seq (.ops [8]) .leaf) .leaf)) (.seq (.seq (.ops [0, 1, 2, 3, 41]) (.cond (.seq (.ops [8]) .leaf) .leaf)) (.seq (.ops [0, 1, 2, 3, 9, 10]) (.seq (.seq (.ops [0, 1, 2, 3, 9, 52]) (.cond (.seq (.ops [8]) .leaf) .leaf)) (.seq (.ops [1, 2, 3, 9]) (.seq (.ops [1, 2, 3, 9]) (.seq (.ops [1, 2, 3, 11, 12, 13]) (.seq (.seq (.ops [1, 2, 3, 11, 12, 13, 73]) (.cond (.seq (.ops [8]) .leaf) .leaf)) (.seq (.ops [1, 2, 3, 11, 12, 13]) (.seq (.ops [1, 2, 3, 11, 12, 13, 14]) (.seq (.ops [1, 2, 3, 11, 12, 13, 14]) (.seq (.ops [1, 2, 3, 11, 12, 13, 14, 15]) (.seq (.ops [1, 2, 3, 11, 12, 13, 14, 15, 16]) (.seq (.seq (.ops [1, 2, 3, 11, 12, 13, 14, 15, 16, 17]) (.join [2, 3, 11, 12, 13, 14, 16] (.blk (.loop [1, 2, 3, 11, 12, 13, 14, 16] [15, 17] (.seq (.seq (.ops [1, 2, 3, 11, 12, 13, 14, 15, 16, 17, 86]) (.cond .leaf .leaf)) (.seq (.join [1, 2, 3, 11, 12, 13, 14, 15, 16, 17] (.blk (.seq (.seq (.ops [1, 2, 3, 11, 12, 13, 14, 15, 16, 17, 95]) (.cond .leaf .leaf)) (.seq (.seq (.ops [1, 2, 3, 11, 12, 13, 14, 15, 16, 17, 98]) (.cond (.seq (.ops [2, 3, 11, 12, 13, 14, 16]) .leaf) .leaf)) (.seq (.ops [1, 2, 3, 11, 12, 13, 14, 15, 16, 17]) (.ops [1, 2, 3, 11, 12, 13, 14, 15, 16, 17])))))) (.ops [1, 2, 3, 11, 12, 13, 14, 15, 16, 17]))))))) (.seq (.ops [2, 3, 11, 12, 13, 14, 16]) (.seq (.ops [3, 11, 12, 13, 14, 16]) (.seq (.seq (.ops [3, 12, 13, 16, 125]) (.cond (.seq (.ops [8]) .leaf) .leaf)) (.seq (.seq (.ops [3, 12, 13, 16, 139]) (.cond (.seq (.ops [8]) .leaf) .leaf)) (.seq (.draw (.q 0 (.q 1 (.q 2 (.q 3 (.q 4 (.q 5 (.q 6 (.one 7 .fin)))))))) [12, 13]) (.seq (.ops [8]) .leaf))))))))))))))))))))) (Try.f5.body.getD .skip) [a0, a1, a2, a3] w R by kernel_rfl) h)

/-! ### 6: handbill/hbllaw8.DiskTwins -/
def sh6 (a0 a1 a2 : Value) (w : World) (R : Value → World → Prop) : Prop :=
 CallF Try.prog 8 #[] w fun t12_1 w =>
 RunA Try.prog (Op.unary .not t12_1) fun t13_2 =>
 IfB t13_2 (
 R (.bool false) w) (
 CallF Try.prog 9 #[a1] w fun t15_3 w =>
 RunA Try.prog (Op.unary .not t15_3) fun t16_4 =>
 IfB t16_4 (
 CallF Try.prog 8 #[] w fun t32_5 w =>
 R t32_5 w) (
 CallF Try.prog 9 #[a2] w fun t19_6 w =>
 RunA Try.prog (Op.unary .not t19_6) fun t20_7 =>
 IfB t20_7 (
 CallF Try.prog 8 #[] w fun t32_8 w =>
 R t32_8 w) (
 RunW Try.prog (Builtin.len_ #[22] 3 #[a1]) w fun t24_9 =>
 RunA Try.prog (bin .gtr 3 (.tmp 24) (.const (.int .i64 100)) t24_9 (.int .i64 100)) fun t25_10 =>
 IfB t25_10 (
 CallF Try.prog 8 #[] w fun t32_11 w =>
 R t32_11 w) (
 RunW Try.prog (Builtin.len_ #[22] 3 #[a2]) w fun t29_12 =>
 RunA Try.prog (bin .gtr 3 (.tmp 29) (.const (.int .i64 100)) t29_12 (.int .i64 100)) fun t30_13 =>
 IfB t30_13 (
 CallF Try.prog 8 #[] w fun t32_14 w =>
 R t32_14 w) (
 CallF Try.prog 10 #[a0] w fun t35_15 w =>
 RunA Try.prog (Instr.extract t35_15 0) fun t36_16 =>
 RunA Try.prog (Instr.extract t35_15 1) fun t37_17 =>
 RunW Try.prog (bin .eql 25 (.tmp 38) (.const (.pointer none)) t36_16 (.pointer none)) w fun t39_18 =>
 IfB t39_18 (
 CallF Try.prog 8 #[] w fun t44_19 w =>
 IfB t44_19 (
 RunW Try.prog (bin .eql 25 (.tmp 46) (.const (.pointer none)) t36_16 (.pointer none)) w fun t47_20 =>
 R t47_20 w) (
 R (.bool false) w)) (
 RunW Try.prog (bin .neq 26 (.tmp 41) (.const (.int .i64 0)) t37_17 (.int .i64 0)) w fun t42_21 =>
 IfB t42_21 (
 CallF Try.prog 8 #[] w fun t44_22 w =>
 IfB t44_22 (
 RunW Try.prog (bin .eql 25 (.tmp 46) (.const (.pointer none)) t36_16 (.pointer none)) w fun t47_23 =>
 R t47_23 w) (
 R (.bool false) w)) (
 CallF Try.prog 21 #[t36_16, a1] w fun t51_24 w =>
 CallF Try.prog 11 #[t36_16] w fun t53_25 w =>
 RunW Try.prog (bin .eql 25 (.tmp 54) (.const (.pointer none)) t53_25 (.pointer none)) w fun t55_26 =>
 IfB t55_26 (
 R (.bool false) w) (
 CallF Try.prog 17 #[t53_25, t36_16] w fun t59_27 w =>
 RunA Try.prog (Op.unary .not t59_27) fun t60_28 =>
 IfB t60_28 (
 R (.bool false) w) (
 CallF Try.prog 21 #[t53_25, a2] w fun t64_29 w =>
 CallF Try.prog 11 #[t36_16] w fun t66_30 w =>
 RunW Try.prog (bin .eql 25 (.tmp 67) (.const (.pointer none)) t66_30 (.pointer none)) w fun t68_31 =>
 IfB t68_31 (
 R (.bool false) w) (
 CallF Try.prog 17 #[t66_30, t36_16] w fun t72_32 w =>
 RunA Try.prog (Op.unary .not t72_32) fun t73_33 =>
 IfB t73_33 (
 R (.bool false) w) (
 CallF Try.prog 21 #[t36_16, a2] w fun t77_34 w =>
 CallF Try.prog 17 #[t53_25, t36_16] w fun t80_35 w =>
 RunA Try.prog (Op.unary .not t80_35) fun t81_36 =>
 IfB t81_36 (
 R (.bool false) w) (
 CallF Try.prog 12 #[t53_25] w fun t84_37 w =>
 CallF Try.prog 12 #[t36_16] w fun t86_38 w =>
 RunW Try.prog (bin .neq 3 (.tmp 84) (.tmp 86) t84_37 t86_38) w fun t87_39 =>
 IfB t87_39 (
 R (.bool false) w) (
 CallF Try.prog 29 #[t53_25] w fun t91_40 w =>
 CallF Try.prog 29 #[t36_16] w fun t93_41 w =>
 RunW Try.prog (bin .neq 3 (.tmp 91) (.tmp 93) t91_40 t93_41) w fun t94_42 =>
 IfB t94_42 (
 R (.bool false) w) (
 CallF Try.prog 28 #[t36_16, (.int .i64 1048576), (.int .i64 (-1))] w fun t97_43 w =>
 CallF Try.prog 26 #[t36_16] w fun t99_44 w =>
 CallF Try.prog 30 #[t36_16] w fun t101_45 w =>
 CallF Try.prog 8 #[] w fun t102_46 w =>
 IfB t102_46 (
 RunW Try.prog (bin .eql 26 (.tmp 104) (.const (.int .i64 9)) t99_44 (.int .i64 9)) w fun t105_47 =>
 IfB t105_47 (
 CallF Try.prog 17 #[t53_25, t36_16] w fun t110_48 w =>
 IfB t110_48 (
 CallF Try.prog 31 #[t36_16] w fun t114_49 w =>
 R t114_49 w) (
 R (.bool false) w)) (
 R (.bool false) w)) (
 R (.bool false) w)))))))))))))))
theorem sh6_calls {a0 a1 a2 : Value} {w : World} {R : Value → World → Prop} (h : sh6 a0 a1 a2 w R) : CallF Try.prog 6 #[a0, a1, a2] w R :=
  calls_of_denF (mk := false) (args := [a0, a1, a2]) (an := (.seq (.ops [0, 1, 2]) (.seq (.seq (.ops [0, 1, 2, 13]) (.cond (.seq (.ops [6]) .leaf) .leaf)) (.seq (.seq (.ops [0, 1, 2, 31]) (.cond (.seq (.ops [6]) .leaf) .leaf)) (.seq (.ops [1, 2, 7, 8]) (.seq (.seq (.ops [1, 2, 7, 43]) (.cond (.seq (.ops [6]) .leaf) .leaf)) (.seq (.ops [2, 7]) (.seq (.ops [2, 7, 9]) (.seq (.seq (.ops [2, 7, 9, 61]) (.cond (.seq (.ops [6]) .leaf) .leaf)) (.seq (.ops [2, 7, 9]) (.seq (.ops [2, 7, 9, 10]) (.seq (.seq (.ops [2, 7, 9, 74]) (.cond (.seq (.ops [6]) .leaf) .leaf)) (.seq (.ops [7, 9]) (.seq (.seq (.ops [7, 9, 95]) (.cond (.seq (.ops [6]) .leaf) .leaf)) (.seq (.ops [7, 9]) (.seq (.ops [7, 9, 11]) (.seq (.ops [7, 9, 11]) (.seq (.ops [6]) .leaf)))))))))))))))))) (c := Try.f6.body.getD .skip) hent Try.func6 rfl (Nat.le_of_ble_eq_true (by kernel_rfl))
    (Eq.mp (show sh6 a0 a1 a2 w R = denF Try.prog ent false Try.f6 (.seq (.ops [0, 1, 2]) (.seq (.seq (.ops [0, 1, 2, 13]) (.cond (.seq (.ops [6]) .leaf) .leaf)) (.seq (.seq (.ops [0, 1, 2, 31]) (.cond (.seq (.ops [6]) .leaf) .leaf)) (.seq (.ops [1, 2, 7, 8]) (.seq (.seq (.ops [1, 2, 7, 43]) (.cond (.seq (.ops [6]) .leaf) .leaf)) (.seq (.ops [2, 7]) (.seq (.ops [2, 7, 9]) (.seq (.seq (.ops [2, 7, 9, 61]) (.cond (.seq (.ops [6]) .leaf) .leaf)) (.seq (.ops [2, 7, 9]) (.seq (.ops [2, 7, 9, 10]) (.seq (.seq (.ops [2, 7, 9, 74]) (.cond (.seq (.ops [6]) .leaf) .leaf)) (.seq (.ops [7, 9]) (.seq (.seq (.ops [7, 9, 95]) (.cond (.seq (.ops [6]) .leaf) .leaf)) (.seq (.ops [7, 9]) (.seq (.ops [7, 9, 11]) (.seq (.ops [7, 9, 11]) (.seq (.ops [6]) .leaf))))))))))))))))) (Try.f6.body.getD .skip) [a0, a1, a2] w R by kernel_rfl) h)

/-! ### 8: handbill/hbllaw8.first -/
def sh8 (w : World) (R : Value → World → Prop) : Prop :=
 CallF Try.prog 10 #[(.int .i64 100)] w fun t6_1 w =>
 RunA Try.prog (Instr.extract t6_1 0) fun t7_2 =>
 RunA Try.prog (Instr.extract t6_1 1) fun t8_3 =>
 RunW Try.prog (bin .eql 25 (.tmp 9) (.const (.pointer none)) t7_2 (.pointer none)) w fun t10_4 =>
 IfB t10_4 (
 R (.bool false) w) (
 RunW Try.prog (bin .neq 26 (.tmp 12) (.const (.int .i64 0)) t8_3 (.int .i64 0)) w fun t13_5 =>
 IfB t13_5 (
 R (.bool false) w) (
 RunV Try.prog (Instr.buildSlice 29 1 #[(0, (.int .u8 120))]) w fun t16_6 w =>
 RunV Try.prog (convert 29 29 t16_6) w fun t17_7 w =>
 CallF Try.prog 14 #[t7_2, (.string ⟨#[97]⟩), t17_7] w fun t18_8 w =>
 CallF Try.prog 26 #[t7_2] w fun t20_9 w =>
 RunV Try.prog (Instr.buildSlice 29 2 #[(0, (.int .u8 121)), (1, (.int .u8 122))]) w fun t22_10 w =>
 RunV Try.prog (convert 29 29 t22_10) w fun t23_11 w =>
 CallF Try.prog 14 #[t7_2, (.string ⟨#[97]⟩), t23_11] w fun t24_12 w =>
 CallF Try.prog 28 #[t7_2, (.int .i64 0), (.int .i64 1)] w fun t26_13 w =>
 CallF Try.prog 13 #[t7_2, (.string ⟨#[97]⟩)] w fun t29_14 w =>
 RunA Try.prog (Instr.extract t29_14 0) fun t30_15 =>
 RunA Try.prog (Instr.extract t29_14 1) fun t31_16 =>
 IfB t31_16 (
 RunV Try.prog (convert 29 9 t30_15) w fun t35_17 w =>
 RunW Try.prog (bin .eql 9 (.tmp 35) (.const (.string ⟨#[120, 121]⟩)) t35_17 (.string ⟨#[120, 121]⟩)) w fun t36_18 =>
 R t36_18 w) (
 R (.bool false) w)))
theorem sh8_calls {w : World} {R : Value → World → Prop} (h : sh8  w R) : CallF Try.prog 8 #[] w R :=
  calls_of_denF (mk := false) (args := []) (an := (.seq (.ops []) (.seq (.ops [1, 2]) (.seq (.seq (.ops [1, 14]) (.cond (.seq (.ops [0]) .leaf) .leaf)) (.seq (.ops [1]) (.seq (.ops [1]) (.seq (.ops [1]) (.seq (.ops [1]) (.seq (.ops [3, 4]) (.seq (.ops [0]) .leaf)))))))))) (c := Try.f8.body.getD .skip) hent Try.func8 rfl (Nat.le_of_ble_eq_true (by kernel_rfl))
    (Eq.mp (show sh8  w R = denF Try.prog ent false Try.f8 (.seq (.ops []) (.seq (.ops [1, 2]) (.seq (.seq (.ops [1, 14]) (.cond (.seq (.ops [0]) .leaf) .leaf)) (.seq (.ops [1]) (.seq (.ops [1]) (.seq (.ops [1]) (.seq (.ops [1]) (.seq (.ops [3, 4]) (.seq (.ops [0]) .leaf))))))))) (Try.f8.body.getD .skip) [] w R by kernel_rfl) h)

/-! ### 9: handbill/hbllaw8.Few -/
def sh9 (a0 : Value) (w : World) (R : Value → World → Prop) : Prop :=
 jn 1 (fun t0_1 w =>
 RunW Try.prog (Builtin.len_ #[22] 3 #[t0_1]) w fun t54_3 =>
 RunA Try.prog (bin .leq 3 (.tmp 54) (.const (.int .i64 200)) t54_3 (.int .i64 200)) fun t55_4 =>
 R t55_4 w) fun j_2 =>
 lp 2 (fun n_7 t3_5 t4_6 w =>
 RunW Try.prog (Builtin.len_ #[22] 3 #[a0]) w fun t7_8 =>
 RunA Try.prog (bin .lss 3 (.tmp 5) (.tmp 7) t4_6 t7_8) fun t8_9 =>
 IfB t8_9 (
 RunA Try.prog (bin .lss 3 (.tmp 10) (.const (.int .i64 200)) t4_6 (.int .i64 200)) fun t11_10 =>
 IfB t11_10 (
 RunA Try.prog (Instr.indexAt 22 a0 t4_6) fun t18_11 =>
 RunA Try.prog (Instr.fieldAt 32 t18_11 5) fun t19_12 =>
 RunW Try.prog (Instr.loadAt 29 t19_12) w fun t20_13 =>
 RunW Try.prog (Builtin.len_ #[29] 3 #[t20_13]) w fun t21_14 =>
 RunW Try.prog (Builtin.min_ #[3, 3] 3 #[t21_14, (.int .i64 20001)]) w fun t22_15 =>
 RunA Try.prog (bin .add 3 (.tmp 15) (.tmp 22) t3_5 t22_15) fun t23_16 =>
 RunA Try.prog (Instr.indexAt 22 a0 t4_6) fun t26_17 =>
 RunA Try.prog (Instr.fieldAt 32 t26_17 3) fun t27_18 =>
 RunW Try.prog (Instr.loadAt 9 t27_18) w fun t28_19 =>
 RunW Try.prog (Builtin.len_ #[9] 3 #[t28_19]) w fun t29_20 =>
 RunA Try.prog (bin .gtr 3 (.tmp 29) (.const (.int .i64 300)) t29_20 (.int .i64 300)) fun t30_21 =>
 IfB t30_21 (
 R (.bool false) w) (
 RunA Try.prog (Instr.indexAt 22 a0 t4_6) fun t34_22 =>
 RunA Try.prog (Instr.fieldAt 32 t34_22 4) fun t35_23 =>
 RunW Try.prog (Instr.loadAt 9 t35_23) w fun t36_24 =>
 RunW Try.prog (Builtin.len_ #[9] 3 #[t36_24]) w fun t37_25 =>
 RunA Try.prog (bin .gtr 3 (.tmp 37) (.const (.int .i64 300)) t37_25 (.int .i64 300)) fun t38_26 =>
 IfB t38_26 (
 R (.bool false) w) (
 RunA Try.prog (Instr.indexAt 22 a0 t4_6) fun t43_27 =>
 RunA Try.prog (Instr.fieldAt 32 t43_27 6) fun t44_28 =>
 RunW Try.prog (Instr.loadAt 30 t44_28) w fun t45_29 =>
 RunW Try.prog (Builtin.len_ #[30] 3 #[t45_29]) w fun t46_30 =>
 RunA Try.prog (bin .gtr 3 (.tmp 46) (.const (.int .i64 40)) t46_30 (.int .i64 40)) fun t47_31 =>
 IfB t47_31 (
 R (.bool false) w) (
 RunA Try.prog (bin .gtr 3 (.tmp 50) (.const (.int .i64 20000)) t23_16 (.int .i64 20000)) fun t51_32 =>
 IfB t51_32 (
 R (.bool false) w) (
 RunA Try.prog (bin .add 3 (.tmp 13) (.const (.int .i64 1)) t4_6 (.int .i64 1)) fun t14_33 =>
 (a0 : Value) = a0 ∧ (n_7 t23_16 t14_33 w)))))) (
 j_2 a0 w)) (
 j_2 a0 w)) [(.int .i64 0), (.int .i64 0)] w
theorem sh9_calls {a0 : Value} {w : World} {R : Value → World → Prop} (h : sh9 a0 w R) : CallF Try.prog 9 #[a0] w R :=
  calls_of_denF (mk := false) (args := [a0]) (an := (.seq (.ops [0]) (.seq (.ops [0, 3]) (.seq (.seq (.ops [0, 3, 4]) (.join [0] (.blk (.loop [0] [3, 4] (.seq (.seq (.ops [0, 3, 4, 12]) (.cond .leaf .leaf)) (.seq (.blk (.seq (.ops [0, 3, 4]) (.seq (.ops [0, 3, 4, 52]) (.cond (.seq (.ops [2]) .leaf) .leaf)))) (.ops [0, 3, 4]))))))) (.seq (.ops [2]) .leaf))))) (c := Try.f9.body.getD .skip) hent Try.func9 rfl (Nat.le_of_ble_eq_true (by kernel_rfl))
    (Eq.mp (show sh9 a0 w R = denF Try.prog ent false Try.f9 (.seq (.ops [0]) (.seq (.ops [0, 3]) (.seq (.seq (.ops [0, 3, 4]) (.join [0] (.blk (.loop [0] [3, 4] (.seq (.seq (.ops [0, 3, 4, 12]) (.cond .leaf .leaf)) (.seq (.blk (.seq (.ops [0, 3, 4]) (.seq (.ops [0, 3, 4, 52]) (.cond (.seq (.ops [2]) .leaf) .leaf)))) (.ops [0, 3, 4]))))))) (.seq (.ops [2]) .leaf)))) (Try.f9.body.getD .skip) [a0] w R by kernel_rfl) h)

/-! ### 10: handbill/disk.New -/
def sh10 (a0 : Value) (w : World) (R : Value → World → Prop) : Prop :=
 CallF Try.prog 35 #[a0] w fun t5_1 w =>
 RunA Try.prog (Op.unary .not t5_1) fun t6_2 =>
 IfB t6_2 (
 R (.tuple #[(.pointer none), (.int .i64 1)]) w) (
 RunV Try.prog (Instr.makeMap 66 none) w fun t8_3 w =>
 RunV Try.prog (Instr.makeMap 66 none) w fun t9_4 w =>
 RunV Try.prog (Instr.build 69 #[(0, a0), (1, t8_3), (2, t9_4)]) w fun t10_5 w =>
 RunV Try.prog (Instr.box 69 t10_5) w fun t11_6 w =>
 R (.tuple #[t11_6, (.int .i64 0)]) w)
theorem sh10_calls {a0 : Value} {w : World} {R : Value → World → Prop} (h : sh10 a0 w R) : CallF Try.prog 10 #[a0] w R :=
  calls_of_denF (mk := false) (args := [a0]) (an := (.seq (.ops [0]) (.seq (.seq (.ops [0, 6]) (.cond (.seq (.ops [2, 3]) .leaf) .leaf)) (.seq (.ops [2, 3]) .leaf)))) (c := Try.f10.body.getD .skip) hent Try.func10 rfl (Nat.le_of_ble_eq_true (by kernel_rfl))
    (Eq.mp (show sh10 a0 w R = denF Try.prog ent false Try.f10 (.seq (.ops [0]) (.seq (.seq (.ops [0, 6]) (.cond (.seq (.ops [2, 3]) .leaf) .leaf)) (.seq (.ops [2, 3]) .leaf))) (Try.f10.body.getD .skip) [a0] w R by kernel_rfl) h)

/-! ### 11: (*handbill/disk.Disk).Copy -/
def sh11 (a0 : Value) (w : World) (R : Value → World → Prop) : Prop :=
 RunA Try.prog (nilV a0) fun t5_1 =>
 RunW Try.prog (Instr.loadAt 69 t5_1) w fun t6_2 =>
 RunV Try.prog (Instr.alloc 69 true (.tuple #[])) w fun t3_3 w =>
 RunU Try.prog (Instr.storeAt 69 t3_3 t6_2) w fun w =>
 drw (fun S_4 w =>
 RunA Try.prog (nilV a0) fun t8_5 =>
 RunA Try.prog (Instr.fieldAt 69 t8_5 1) fun t9_6 =>
 RunS Try.prog S_4 (Instr.loadAt 66 t9_6) fun t10_7 =>
 RunA Try.prog (nilV a0) fun t13_8 =>
 RunA Try.prog (Instr.fieldAt 69 t13_8 2) fun t14_9 =>
 RunS Try.prog S_4 (Instr.loadAt 66 t14_9) fun t15_10 =>
 CallF Try.prog 36 #[t10_7] w fun t11_11 w =>
 S_4 w ∧ (
 CallF Try.prog 36 #[t15_10] w fun t16_12 w =>
 RunA Try.prog (Instr.fieldAt 69 t3_3 1) fun t17_13 =>
 RunU Try.prog (Instr.storeAt 66 t17_13 t11_11) w fun w =>
 RunA Try.prog (Instr.fieldAt 69 t3_3 2) fun t18_14 =>
 RunU Try.prog (Instr.storeAt 66 t18_14 t16_12) w fun w =>
 drw (fun S_15 w =>
 RunA Try.prog (nilV a0) fun t20_16 =>
 RunA Try.prog (Instr.fieldAt 69 t20_16 3) fun t21_17 =>
 RunS Try.prog S_15 (Instr.loadAt 67 t21_17) fun t22_18 =>
 RunA Try.prog (nilV a0) fun t25_19 =>
 RunA Try.prog (Instr.fieldAt 69 t25_19 4) fun t26_20 =>
 RunS Try.prog S_15 (Instr.loadAt 30 t26_20) fun t27_21 =>
 CallF Try.prog 37 #[t22_18] w fun t23_22 w =>
 S_15 w ∧ (
 CallF Try.prog 38 #[t27_21] w fun t28_23 w =>
 RunA Try.prog (Instr.fieldAt 69 t3_3 3) fun t29_24 =>
 RunU Try.prog (Instr.storeAt 67 t29_24 t23_22) w fun w =>
 RunA Try.prog (Instr.fieldAt 69 t3_3 4) fun t30_25 =>
 RunU Try.prog (Instr.storeAt 30 t30_25 t28_23) w fun w =>
 R t3_3 w)) w)) w
theorem sh11_calls {a0 : Value} {w : World} {R : Value → World → Prop} (h : sh11 a0 w R) : CallF Try.prog 11 #[a0] w R :=
  calls_of_denF (mk := false) (args := [a0]) (an := (.seq (.ops [0]) (.seq (.ops [0, 3]) (.seq (.draw (.q 0 (.q 1 (.q 2 (.q 3 (.q 5 (.q 6 (.q 7 (.q 8 (.one 4 (.one 9 (.q 10 (.one 11 (.q 12 (.one 13 .fin)))))))))))))) [0, 3]) (.seq (.draw (.q 0 (.q 1 (.q 2 (.q 3 (.q 5 (.q 6 (.q 7 (.q 8 (.one 4 (.one 9 (.q 10 (.one 11 (.q 12 (.one 13 .fin)))))))))))))) [3]) (.seq (.ops [2]) .leaf)))))) (c := Try.f11.body.getD .skip) hent Try.func11 rfl (Nat.le_of_ble_eq_true (by kernel_rfl))
    (Eq.mp (show sh11 a0 w R = denF Try.prog ent false Try.f11 (.seq (.ops [0]) (.seq (.ops [0, 3]) (.seq (.draw (.q 0 (.q 1 (.q 2 (.q 3 (.q 5 (.q 6 (.q 7 (.q 8 (.one 4 (.one 9 (.q 10 (.one 11 (.q 12 (.one 13 .fin)))))))))))))) [0, 3]) (.seq (.draw (.q 0 (.q 1 (.q 2 (.q 3 (.q 5 (.q 6 (.q 7 (.q 8 (.one 4 (.one 9 (.q 10 (.one 11 (.q 12 (.one 13 .fin)))))))))))))) [3]) (.seq (.ops [2]) .leaf))))) (Try.f11.body.getD .skip) [a0] w R by kernel_rfl) h)

/-! ### 12: (*handbill/disk.Disk).Used -/
def sh12 (a0 : Value) (w : World) (R : Value → World → Prop) : Prop :=
 RunA Try.prog (nilV a0) fun t7_1 =>
 RunA Try.prog (Instr.fieldAt 69 t7_1 1) fun t8_2 =>
 RunW Try.prog (Instr.loadAt 66 t8_2) w fun t9_3 =>
 RunV Try.prog (Instr.range 66 t9_3) w fun t10_4 w =>
 lp 1 (fun n_6 t3_5 w =>
 RunV Try.prog (Instr.next t10_4 false 0) w fun t11_7 w =>
 RunA Try.prog (Instr.extract t11_7 0) fun t12_8 =>
 IfB t12_8 (
 RunV Try.prog (Instr.entry t10_4) w fun t13_9 w =>
 RunA Try.prog (Instr.extract t13_9 1) fun t14_10 =>
 RunW Try.prog (Builtin.len_ #[29] 3 #[t14_10]) w fun t17_11 =>
 RunA Try.prog (bin .add 3 (.tmp 15) (.tmp 17) t3_5 t17_11) fun t18_12 =>
 (t10_4 : Value) = t10_4 ∧ (n_6 t18_12 w)) (
 R t3_5 w)) [(.int .i64 0)] w
theorem sh12_calls {a0 : Value} {w : World} {R : Value → World → Prop} (h : sh12 a0 w R) : CallF Try.prog 12 #[a0] w R :=
  calls_of_denF (mk := false) (args := [a0]) (an := (.seq (.ops [0]) (.seq (.ops [0, 3]) (.seq (.seq (.ops [3, 10]) (.blk (.loop [10] [3] (.seq (.ops [3, 10, 12]) (.seq (.cond .leaf .leaf) (.blk (.seq (.ops [3, 5, 10]) (.ops [3, 10])))))))) (.seq (.ops [2]) .leaf))))) (c := Try.f12.body.getD .skip) hent Try.func12 rfl (Nat.le_of_ble_eq_true (by kernel_rfl))
    (Eq.mp (show sh12 a0 w R = denF Try.prog ent false Try.f12 (.seq (.ops [0]) (.seq (.ops [0, 3]) (.seq (.seq (.ops [3, 10]) (.blk (.loop [10] [3] (.seq (.ops [3, 10, 12]) (.seq (.cond .leaf .leaf) (.blk (.seq (.ops [3, 5, 10]) (.ops [3, 10])))))))) (.seq (.ops [2]) .leaf)))) (Try.f12.body.getD .skip) [a0] w R by kernel_rfl) h)

/-! ### 13: (*handbill/disk.Disk).Peek -/
def sh13 (a0 a1 : Value) (w : World) (R : Value → World → Prop) : Prop :=
 RunA Try.prog (nilV a0) fun t10_1 =>
 RunA Try.prog (Instr.fieldAt 69 t10_1 1) fun t11_2 =>
 RunW Try.prog (Instr.loadAt 66 t11_2) w fun t12_3 =>
 RunV Try.prog (Instr.lookup 66 t12_3 a1 true) w fun t14_4 w =>
 RunA Try.prog (Instr.extract t14_4 0) fun t15_5 =>
 RunA Try.prog (Instr.extract t14_4 1) fun t16_6 =>
 CallF Try.prog 39 #[t15_5] w fun t18_7 w =>
 R (.tuple #[t18_7, t16_6]) w
theorem sh13_calls {a0 a1 : Value} {w : World} {R : Value → World → Prop} (h : sh13 a0 a1 w R) : CallF Try.prog 13 #[a0, a1] w R :=
  calls_of_denF (mk := false) (args := [a0, a1]) (an := (.seq (.ops [0, 1]) (.seq (.ops [6, 7]) (.seq (.ops [4, 5]) .leaf)))) (c := Try.f13.body.getD .skip) hent Try.func13 rfl (Nat.le_of_ble_eq_true (by kernel_rfl))
    (Eq.mp (show sh13 a0 a1 w R = denF Try.prog ent false Try.f13 (.seq (.ops [0, 1]) (.seq (.ops [6, 7]) (.seq (.ops [4, 5]) .leaf))) (Try.f13.body.getD .skip) [a0, a1] w R by kernel_rfl) h)

/-! ### 14: (*handbill/disk.Disk).Append -/
def sh14 (a0 a1 a2 : Value) (w : World) (R : Value → World → Prop) : Prop :=
 RunV Try.prog (Instr.buildSlice 42 1 #[(0, a1)]) w fun t12_1 w =>
 CallF Try.prog 40 #[a0, t12_1] w fun t13_2 w =>
 RunA Try.prog (Instr.extract t13_2 0) fun t14_3 =>
 RunA Try.prog (Instr.extract t13_2 1) fun t15_4 =>
 RunW Try.prog (bin .neq 26 (.tmp 17) (.const (.int .i64 0)) t15_4 (.int .i64 0)) w fun t18_5 =>
 IfB t18_5 (
 R t15_4 w) (
 drw (fun S_6 w =>
 IfB t14_3 (
 R (.int .i64 8) w) (
 RunS Try.prog S_6 (Builtin.len_ #[29] 3 #[a2]) fun t24_7 =>
 RunA Try.prog (nilV a0) fun t26_8 =>
 RunA Try.prog (Instr.fieldAt 69 t26_8 0) fun t27_9 =>
 RunS Try.prog S_6 (Instr.loadAt 3 t27_9) fun t28_10 =>
 CallF Try.prog 12 #[a0] w fun t30_11 w =>
 S_6 w ∧ (
 RunA Try.prog (bin .sub 3 (.tmp 28) (.tmp 30) t28_10 t30_11) fun t31_12 =>
 RunA Try.prog (bin .gtr 3 (.tmp 24) (.tmp 31) t24_7 t31_12) fun t32_13 =>
 IfB t32_13 (
 R (.int .i64 8) w) (
 jn 3 (fun t0_14 t1_15 t2_16 w =>
 CallF Try.prog 39 #[t2_16] w fun t46_18 w =>
 RunV Try.prog (Instr.build 73 #[(0, (.int .i64 0)), (1, t1_15), (3, t46_18)]) w fun t47_19 w =>
 CallF Try.prog 42 #[t0_14, t47_19] w fun t48_20 w =>
 R t48_20 w) fun j_17 =>
 RunW Try.prog (Builtin.len_ #[29] 3 #[a2]) w fun t36_21 =>
 RunW Try.prog (bin .eql 3 (.tmp 36) (.const (.int .i64 0)) t36_21 (.int .i64 0)) w fun t37_22 =>
 IfB t37_22 (
 CallF Try.prog 41 #[a0, a1] w fun t41_23 w =>
 IfB t41_23 (
 R (.int .i64 0) w) (
 j_17 a0 a1 a2 w)) (
 j_17 a0 a1 a2 w))))) w)
theorem sh14_calls {a0 a1 a2 : Value} {w : World} {R : Value → World → Prop} (h : sh14 a0 a1 a2 w R) : CallF Try.prog 14 #[a0, a1, a2] w R :=
  calls_of_denF (mk := false) (args := [a0, a1, a2]) (an := (.seq (.ops [0, 1, 2]) (.seq (.ops [0, 1, 2, 7, 8]) (.seq (.blk (.seq (.ops [0, 1, 2, 7, 8, 16]) (.cond (.seq (.ops [6]) .leaf) (.seq (.draw (.q 0 (.q 1 (.sp 2 (.q 2 (.q 3 (.q 4 (.q 5 (.q 6 (.q 7 (.q 8 (.q 9 (.q 10 (.q 11 (.q 12 (.q 13 .fin)))))))))))) (.q 2 (.q 3 (.q 4 (.q 5 (.q 6 (.q 7 (.q 8 (.one 9 (.q 10 (.q 11 (.q 12 (.q 13 .fin))))))))))))))) [0, 1, 2, 20]) (.cond (.seq (.ops [6]) .leaf) (.join [0, 1, 2] (.seq (.ops [0, 1, 2, 34]) (.cond (.seq (.ops [6]) .leaf) .leaf)))))))) (.seq (.ops [6]) .leaf))))) (c := Try.f14.body.getD .skip) hent Try.func14 rfl (Nat.le_of_ble_eq_true (by kernel_rfl))
    (Eq.mp (show sh14 a0 a1 a2 w R = denF Try.prog ent false Try.f14 (.seq (.ops [0, 1, 2]) (.seq (.ops [0, 1, 2, 7, 8]) (.seq (.blk (.seq (.ops [0, 1, 2, 7, 8, 16]) (.cond (.seq (.ops [6]) .leaf) (.seq (.draw (.q 0 (.q 1 (.sp 2 (.q 2 (.q 3 (.q 4 (.q 5 (.q 6 (.q 7 (.q 8 (.q 9 (.q 10 (.q 11 (.q 12 (.q 13 .fin)))))))))))) (.q 2 (.q 3 (.q 4 (.q 5 (.q 6 (.q 7 (.q 8 (.one 9 (.q 10 (.q 11 (.q 12 (.q 13 .fin))))))))))))))) [0, 1, 2, 20]) (.cond (.seq (.ops [6]) .leaf) (.join [0, 1, 2] (.seq (.ops [0, 1, 2, 34]) (.cond (.seq (.ops [6]) .leaf) .leaf)))))))) (.seq (.ops [6]) .leaf)))) (Try.f14.body.getD .skip) [a0, a1, a2] w R by kernel_rfl) h)

/-! ### 15: handbill/hblref.Bytes -/
def sh15 (a0 a1 : Value) (w : World) (R : Value → World → Prop) : Prop :=
 RunV Try.prog (convert 29 9 a0) w fun t6_1 w =>
 RunV Try.prog (convert 29 9 a1) w fun t8_2 w =>
 RunW Try.prog (bin .eql 9 (.tmp 6) (.tmp 8) t6_1 t8_2) w fun t9_3 =>
 R t9_3 w
theorem sh15_calls {a0 a1 : Value} {w : World} {R : Value → World → Prop} (h : sh15 a0 a1 w R) : CallF Try.prog 15 #[a0, a1] w R :=
  calls_of_denF (mk := false) (args := [a0, a1]) (an := (.seq (.ops [0, 1]) (.seq (.ops [4]) .leaf))) (c := Try.f15.body.getD .skip) hent Try.func15 rfl (Nat.le_of_ble_eq_true (by kernel_rfl))
    (Eq.mp (show sh15 a0 a1 w R = denF Try.prog ent false Try.f15 (.seq (.ops [0, 1]) (.seq (.ops [4]) .leaf)) (Try.f15.body.getD .skip) [a0, a1] w R by kernel_rfl) h)

/-! ### 16: handbill/hblref.CopyBytes -/
def sh16 (a0 : Value) (w : World) (R : Value → World → Prop) : Prop :=
 RunV Try.prog (Instr.buildSlice 29 0 #[]) w fun t3_1 w =>
 RunV Try.prog (Builtin.append_ #[29, 29] 29 #[t3_1, a0]) w fun t5_2 w =>
 R t5_2 w
theorem sh16_calls {a0 : Value} {w : World} {R : Value → World → Prop} (h : sh16 a0 w R) : CallF Try.prog 16 #[a0] w R :=
  calls_of_denF (mk := false) (args := [a0]) (an := (.seq (.ops [0]) (.seq (.ops [2]) .leaf))) (c := Try.f16.body.getD .skip) hent Try.func16 rfl (Nat.le_of_ble_eq_true (by kernel_rfl))
    (Eq.mp (show sh16 a0 w R = denF Try.prog ent false Try.f16 (.seq (.ops [0]) (.seq (.ops [2]) .leaf)) (Try.f16.body.getD .skip) [a0] w R by kernel_rfl) h)

/-! ### 17: handbill/hbllaw8.alike -/
def sh17 (a0 a1 : Value) (w : World) (R : Value → World → Prop) : Prop :=
 CallF Try.prog 20 #[a0] w fun t13_1 w =>
 CallF Try.prog 19 #[t13_1] w fun t14_2 w =>
 CallF Try.prog 20 #[a1] w fun t16_3 w =>
 CallF Try.prog 19 #[t16_3] w fun t17_4 w =>
 CallF Try.prog 23 #[t14_2, t17_4] w fun t20_5 w =>
 RunA Try.prog (Op.unary .not t20_5) fun t21_6 =>
 IfB t21_6 (
 R (.bool false) w) (
 lp 1 (fun n_8 t7_7 w =>
 RunW Try.prog (Builtin.len_ #[42] 3 #[t14_2]) w fun t24_9 =>
 RunA Try.prog (bin .lss 3 (.tmp 22) (.tmp 24) t7_7 t24_9) fun t25_10 =>
 IfB t25_10 (
 RunA Try.prog (Instr.indexAt 42 t14_2 t7_7) fun t32_11 =>
 RunW Try.prog (Instr.loadAt 9 t32_11) w fun t33_12 =>
 CallF Try.prog 13 #[a0, t33_12] w fun t34_13 w =>
 RunA Try.prog (Instr.extract t34_13 0) fun t35_14 =>
 RunA Try.prog (Instr.extract t34_13 1) fun t36_15 =>
 RunA Try.prog (Instr.indexAt 42 t14_2 t7_7) fun t41_16 =>
 RunW Try.prog (Instr.loadAt 9 t41_16) w fun t42_17 =>
 CallF Try.prog 13 #[a1, t42_17] w fun t43_18 w =>
 RunA Try.prog (Instr.extract t43_18 0) fun t44_19 =>
 RunA Try.prog (Instr.extract t43_18 1) fun t45_20 =>
 CallF Try.prog 15 #[t35_14, t44_19] w fun t48_21 w =>
 RunA Try.prog (Op.unary .not t48_21) fun t49_22 =>
 IfB t49_22 (
 R (.bool false) w) (
 RunA Try.prog (bin .add 3 (.tmp 26) (.const (.int .i64 1)) t7_7 (.int .i64 1)) fun t27_23 =>
 (a0 : Value) = a0 ∧ ((a1 : Value) = a1 ∧ ((t14_2 : Value) = t14_2 ∧ (n_8 t27_23 w))))) (
 R (.bool true) w)) [(.int .i64 0)] w)
theorem sh17_calls {a0 a1 : Value} {w : World} {R : Value → World → Prop} (h : sh17 a0 a1 w R) : CallF Try.prog 17 #[a0, a1] w R :=
  calls_of_denF (mk := false) (args := [a0, a1]) (an := (.seq (.ops [0, 1]) (.seq (.ops [0, 1, 5, 6]) (.seq (.seq (.ops [0, 1, 5, 21]) (.cond (.seq (.ops [4]) .leaf) .leaf)) (.seq (.seq (.ops [0, 1, 5, 7]) (.blk (.loop [0, 1, 5] [7] (.seq (.seq (.ops [0, 1, 5, 7, 25]) (.cond .leaf .leaf)) (.seq (.blk (.seq (.ops [0, 1, 5, 7, 8]) (.seq (.ops [0, 1, 5, 7, 8, 10]) (.seq (.ops [0, 1, 5, 7, 49]) (.cond (.seq (.ops [4]) .leaf) .leaf))))) (.ops [0, 1, 5, 7])))))) (.seq (.ops [4]) .leaf)))))) (c := Try.f17.body.getD .skip) hent Try.func17 rfl (Nat.le_of_ble_eq_true (by kernel_rfl))
    (Eq.mp (show sh17 a0 a1 w R = denF Try.prog ent false Try.f17 (.seq (.ops [0, 1]) (.seq (.ops [0, 1, 5, 6]) (.seq (.seq (.ops [0, 1, 5, 21]) (.cond (.seq (.ops [4]) .leaf) .leaf)) (.seq (.seq (.ops [0, 1, 5, 7]) (.blk (.loop [0, 1, 5] [7] (.seq (.seq (.ops [0, 1, 5, 7, 25]) (.cond .leaf .leaf)) (.seq (.blk (.seq (.ops [0, 1, 5, 7, 8]) (.seq (.ops [0, 1, 5, 7, 8, 10]) (.seq (.ops [0, 1, 5, 7, 49]) (.cond (.seq (.ops [4]) .leaf) .leaf))))) (.ops [0, 1, 5, 7])))))) (.seq (.ops [4]) .leaf))))) (Try.f17.body.getD .skip) [a0, a1] w R by kernel_rfl) h)

/-! ### 18: (*handbill/disk.Disk).Cut -/
def sh18 (a0 a1 a2 : Value) (w : World) (R : Value → World → Prop) : Prop :=
 RunV Try.prog (Instr.buildSlice 42 1 #[(0, a1)]) w fun t13_1 w =>
 CallF Try.prog 40 #[a0, t13_1] w fun t14_2 w =>
 RunA Try.prog (Instr.extract t14_2 0) fun t15_3 =>
 RunA Try.prog (Instr.extract t14_2 1) fun t16_4 =>
 RunW Try.prog (bin .neq 26 (.tmp 17) (.const (.int .i64 0)) t16_4 (.int .i64 0)) w fun t18_5 =>
 IfB t18_5 (
 R t16_4 w) (
 RunA Try.prog (nilV a0) fun t21_6 =>
 RunA Try.prog (Instr.fieldAt 69 t21_6 1) fun t22_7 =>
 RunW Try.prog (Instr.loadAt 66 t22_7) w fun t23_8 =>
 RunV Try.prog (Instr.lookup 66 t23_8 a1 false) w fun t25_9 w =>
 RunW Try.prog (Builtin.len_ #[29] 3 #[t25_9]) w fun t26_10 =>
 CallF Try.prog 41 #[a0, a1] w fun t30_11 w =>
 RunA Try.prog (Op.unary .not t30_11) fun t31_12 =>
 IfB t31_12 (
 R (.int .i64 6) w) (
 RunA Try.prog (bin .lss 3 (.tmp 33) (.const (.int .i64 0)) a2 (.int .i64 0)) fun t34_13 =>
 IfB t34_13 (
 R (.int .i64 1) w) (
 RunA Try.prog (bin .gtr 3 (.tmp 36) (.tmp 37) a2 t26_10) fun t38_14 =>
 IfB t38_14 (
 R (.int .i64 1) w) (
 RunW Try.prog (bin .eql 3 (.tmp 41) (.tmp 42) a2 t26_10) w fun t43_15 =>
 IfB t43_15 (
 R (.int .i64 0) w) (
 RunV Try.prog (Instr.build 73 #[(0, (.int .i64 1)), (1, a1), (4, a2)]) w fun t47_16 w =>
 CallF Try.prog 42 #[a0, t47_16] w fun t48_17 w =>
 R t48_17 w)))))
theorem sh18_calls {a0 a1 a2 : Value} {w : World} {R : Value → World → Prop} (h : sh18 a0 a1 a2 w R) : CallF Try.prog 18 #[a0, a1, a2] w R :=
  calls_of_denF (mk := false) (args := [a0, a1, a2]) (an := (.seq (.ops [0, 1, 2]) (.seq (.seq (.ops [0, 1, 2, 8]) (.seq (.ops [0, 1, 2, 8, 18]) (.cond (.seq (.ops [6]) .leaf) .leaf))) (.seq (.ops [0, 1, 2, 9]) (.seq (.blk (.seq (.ops [0, 1, 2, 9, 27]) (.cond (.seq (.ops [6]) .leaf) (.seq (.ops [0, 1, 2, 9, 32]) (.cond (.seq (.ops [6]) .leaf) (.seq (.ops [0, 1, 2, 40]) (.cond (.seq (.ops [6]) .leaf) .leaf))))))) (.seq (.ops [6]) .leaf)))))) (c := Try.f18.body.getD .skip) hent Try.func18 rfl (Nat.le_of_ble_eq_true (by kernel_rfl))
    (Eq.mp (show sh18 a0 a1 a2 w R = denF Try.prog ent false Try.f18 (.seq (.ops [0, 1, 2]) (.seq (.seq (.ops [0, 1, 2, 8]) (.seq (.ops [0, 1, 2, 8, 18]) (.cond (.seq (.ops [6]) .leaf) .leaf))) (.seq (.ops [0, 1, 2, 9]) (.seq (.blk (.seq (.ops [0, 1, 2, 9, 27]) (.cond (.seq (.ops [6]) .leaf) (.seq (.ops [0, 1, 2, 9, 32]) (.cond (.seq (.ops [6]) .leaf) (.seq (.ops [0, 1, 2, 40]) (.cond (.seq (.ops [6]) .leaf) .leaf))))))) (.seq (.ops [6]) .leaf))))) (Try.f18.body.getD .skip) [a0, a1, a2] w R by kernel_rfl) h)

/-! ### 19: handbill/hbllaw8.Names -/
def sh19 (a0 : Value) (w : World) (R : Value → World → Prop) : Prop :=
 RunV Try.prog (Instr.alloc 42 true (.tuple #[])) w fun t3_1 w =>
 RunW Try.prog (bin .eql 45 (.tmp 5) (.const (.nilFunc)) a0 (.nilFunc)) w fun t6_2 =>
 IfB t6_2 (
 R (.slice none 0 0) w) (
 rngP Try.prog none 1 2 (fun l_3 K_4 t8_10 w =>
 K_4 t3_1 t8_10 w) (fun l_3 kn_5 ks_6 t3_11 t4_12 w =>
 RunW Try.prog (Instr.loadAt 42 t3_11) w fun t9_13 =>
 RunV Try.prog (Instr.buildSlice 42 1 #[(0, t4_12)]) w fun t11_14 w =>
 RunV Try.prog (Builtin.append_ #[42, 42] 42 #[t9_13, t11_14]) w fun t12_15 w =>
 RunU Try.prog (Instr.storeAt 42 t3_11 t12_15) w fun w =>
 kn_5 w) a0 w (fun D_7 w =>
 RunW Try.prog (Instr.loadAt 42 t3_1) w fun t13_16 =>
 (w).heap[D_7]? = some (.deferred (some [])) ∧ (
 R t13_16 (w.putObj D_7 (.deferred none)))) (fun D_7 c_8 w => jumpK (fun i_9 w =>
 bif Nat.beq i_9 0 then (
 RunW Try.prog (Instr.loadAt 42 t3_1) w fun t13_17 =>
 (w).heap[D_7]? = some (.deferred (some [])) ∧ (
 R t13_17 (w.putObj D_7 (.deferred none)))) else (
 False)) (fun w =>
 (w).heap[D_7]? = some (.deferred (some [])) ∧ (
 False)) c_8 w))
theorem sh19_calls {a0 : Value} {w : World} {R : Value → World → Prop} (h : sh19 a0 w R) : CallF Try.prog 19 #[a0] w R :=
  calls_of_denF (mk := true) (args := [a0]) (an := (.seq (.ops [0]) (.seq (.ops [0, 3]) (.seq (.seq (.ops [0, 3, 6]) (.cond (.seq (.ops [2]) .leaf) .leaf)) (.seq (.seq (.ops [3, 7]) (.blk (.rng [3, 4] (.ops [3, 4]) (.blk (.ops []))))) (.seq (.ops [2]) .leaf)))))) (c := Try.f19.body.getD .skip) hent Try.func19 rfl (Nat.le_of_ble_eq_true (by kernel_rfl))
    (Eq.mp (show sh19 a0 w R = denF Try.prog ent true Try.f19 (.seq (.ops [0]) (.seq (.ops [0, 3]) (.seq (.seq (.ops [0, 3, 6]) (.cond (.seq (.ops [2]) .leaf) .leaf)) (.seq (.seq (.ops [3, 7]) (.blk (.rng [3, 4] (.ops [3, 4]) (.blk (.ops []))))) (.seq (.ops [2]) .leaf))))) (Try.f19.body.getD .skip) [a0] w R by kernel_rfl) h)

/-! ### 20: (*handbill/disk.Disk).Names -/
def sh20 (a0 : Value) (w : World) (R : Value → World → Prop) : Prop :=
 RunA Try.prog (nilV a0) fun t4_1 =>
 RunA Try.prog (Instr.fieldAt 69 t4_1 1) fun t5_2 =>
 RunW Try.prog (Instr.loadAt 66 t5_2) w fun t6_3 =>
 CallF Try.prog 45 #[t6_3] w fun t7_4 w =>
 CallF Try.prog 44 #[t7_4] w fun t8_5 w =>
 CallF Try.prog 43 #[t8_5] w fun t9_6 w =>
 R t9_6 w
theorem sh20_calls {a0 : Value} {w : World} {R : Value → World → Prop} (h : sh20 a0 w R) : CallF Try.prog 20 #[a0] w R :=
  calls_of_denF (mk := false) (args := [a0]) (an := (.seq (.ops [0]) (.seq (.ops [2]) .leaf))) (c := Try.f20.body.getD .skip) hent Try.func20 rfl (Nat.le_of_ble_eq_true (by kernel_rfl))
    (Eq.mp (show sh20 a0 w R = denF Try.prog ent false Try.f20 (.seq (.ops [0]) (.seq (.ops [2]) .leaf)) (Try.f20.body.getD .skip) [a0] w R by kernel_rfl) h)

/-! ### 21: handbill/hbllaw8.does -/
def sh21 (a0 a1 : Value) (w : World) (R : Value → World → Prop) : Prop :=
 lp 1 (fun n_2 t4_1 w =>
 RunW Try.prog (Builtin.len_ #[22] 3 #[a1]) w fun t7_3 =>
 RunA Try.prog (bin .lss 3 (.tmp 5) (.tmp 7) t4_1 t7_3) fun t8_4 =>
 IfB t8_4 (
 RunA Try.prog (Instr.indexAt 22 a1 t4_1) fun t13_5 =>
 RunA Try.prog (Instr.fieldAt 32 t13_5 0) fun t14_6 =>
 RunW Try.prog (Instr.loadAt 3 t14_6) w fun t15_7 =>
 jn 3 (fun t0_8 t1_9 t4_10 w =>
 RunA Try.prog (bin .add 3 (.tmp 9) (.const (.int .i64 1)) t4_10 (.int .i64 1)) fun t10_12 =>
 (t0_8 : Value) = a0 ∧ ((t1_9 : Value) = a1 ∧ (n_2 t10_12 w))) fun j_11 =>
 RunW Try.prog (bin .eql 3 (.tmp 15) (.const (.int .i64 2)) t15_7 (.int .i64 2)) w fun t17_13 =>
 IfB t17_13 (
 drw (fun S_14 w =>
 RunA Try.prog (Instr.indexAt 22 a1 t4_1) fun t21_15 =>
 RunA Try.prog (Instr.fieldAt 32 t21_15 3) fun t22_16 =>
 RunS Try.prog S_14 (Instr.loadAt 9 t22_16) fun t23_17 =>
 RunA Try.prog (Instr.indexAt 22 a1 t4_1) fun t26_18 =>
 RunA Try.prog (Instr.fieldAt 32 t26_18 5) fun t27_19 =>
 RunS Try.prog S_14 (Instr.loadAt 29 t27_19) fun t28_20 =>
 CallF Try.prog 14 #[a0, t23_17, t28_20] w fun t29_21 w =>
 j_11 a0 a1 t4_1 w) w) (
 jn 3 (fun t0_22 t1_23 t4_24 w =>
 j_11 t0_22 t1_23 t4_24 w) fun j_25 =>
 RunW Try.prog (bin .eql 3 (.tmp 15) (.const (.int .i64 3)) t15_7 (.int .i64 3)) w fun t31_26 =>
 IfB t31_26 (
 drw (fun S_27 w =>
 RunA Try.prog (Instr.indexAt 22 a1 t4_1) fun t35_28 =>
 RunA Try.prog (Instr.fieldAt 32 t35_28 3) fun t36_29 =>
 RunS Try.prog S_27 (Instr.loadAt 9 t36_29) fun t37_30 =>
 RunA Try.prog (Instr.indexAt 22 a1 t4_1) fun t40_31 =>
 RunA Try.prog (Instr.fieldAt 32 t40_31 1) fun t41_32 =>
 RunS Try.prog S_27 (Instr.loadAt 3 t41_32) fun t42_33 =>
 CallF Try.prog 18 #[a0, t37_30, t42_33] w fun t43_34 w =>
 j_25 a0 a1 t4_1 w) w) (
 jn 3 (fun t0_35 t1_36 t4_37 w =>
 j_25 t0_35 t1_36 t4_37 w) fun j_38 =>
 RunW Try.prog (bin .eql 3 (.tmp 15) (.const (.int .i64 4)) t15_7 (.int .i64 4)) w fun t45_39 =>
 IfB t45_39 (
 drw (fun S_40 w =>
 RunA Try.prog (Instr.indexAt 22 a1 t4_1) fun t49_41 =>
 RunA Try.prog (Instr.fieldAt 32 t49_41 3) fun t50_42 =>
 RunS Try.prog S_40 (Instr.loadAt 9 t50_42) fun t51_43 =>
 RunA Try.prog (Instr.indexAt 22 a1 t4_1) fun t54_44 =>
 RunA Try.prog (Instr.fieldAt 32 t54_44 4) fun t55_45 =>
 RunS Try.prog S_40 (Instr.loadAt 9 t55_45) fun t56_46 =>
 CallF Try.prog 22 #[a0, t51_43, t56_46] w fun t57_47 w =>
 j_38 a0 a1 t4_1 w) w) (
 jn 3 (fun t0_48 t1_49 t4_50 w =>
 j_38 t0_48 t1_49 t4_50 w) fun j_51 =>
 RunW Try.prog (bin .eql 3 (.tmp 15) (.const (.int .i64 5)) t15_7 (.int .i64 5)) w fun t59_52 =>
 IfB t59_52 (
 RunA Try.prog (Instr.indexAt 22 a1 t4_1) fun t63_53 =>
 RunA Try.prog (Instr.fieldAt 32 t63_53 3) fun t64_54 =>
 RunW Try.prog (Instr.loadAt 9 t64_54) w fun t65_55 =>
 CallF Try.prog 25 #[a0, t65_55] w fun t66_56 w =>
 j_51 a0 a1 t4_1 w) (
 j_51 a0 a1 t4_1 w))))) (
 R (.tuple #[]) w)) [(.int .i64 0)] w
theorem sh21_calls {a0 a1 : Value} {w : World} {R : Value → World → Prop} (h : sh21 a0 a1 w R) : CallF Try.prog 21 #[a0, a1] w R :=
  calls_of_denF (mk := false) (args := [a0, a1]) (an := (.seq (.ops [0, 1, 4]) (.blk (.loop [0, 1] [4] (.seq (.seq (.ops [0, 1, 4, 8]) (.cond .leaf .leaf)) (.seq (.blk (.seq (.ops [0, 1, 4, 15]) (.blk (.join [0, 1, 4] (.seq (.ops [0, 1, 4, 15, 16]) (.cond (.draw (.q 0 (.q 1 (.q 2 (.q 3 (.q 4 (.q 5 (.q 6 (.q 7 (.q 8 (.q 9 (.q 10 (.one 11 .fin)))))))))))) [0, 1, 4]) (.join [0, 1, 4] (.seq (.ops [0, 1, 4, 15, 30]) (.cond (.draw (.q 0 (.q 1 (.q 2 (.q 3 (.q 4 (.q 5 (.q 6 (.q 7 (.q 8 (.q 9 (.q 10 (.one 11 .fin)))))))))))) [0, 1, 4]) (.join [0, 1, 4] (.seq (.ops [0, 1, 4, 15, 44]) (.cond (.draw (.q 0 (.q 1 (.q 2 (.q 3 (.q 4 (.q 5 (.q 6 (.q 7 (.q 8 (.q 9 (.q 10 (.one 11 .fin)))))))))))) [0, 1, 4]) (.join [0, 1, 4] (.seq (.ops [0, 1, 4, 58]) (.cond (.ops [0, 1, 4]) .leaf))))))))))))))) (.ops [0, 1, 4]))))))) (c := Try.f21.body.getD .skip) hent Try.func21 rfl (Nat.le_of_ble_eq_true (by kernel_rfl))
    (Eq.mp (show sh21 a0 a1 w R = denF Try.prog ent false Try.f21 (.seq (.ops [0, 1, 4]) (.blk (.loop [0, 1] [4] (.seq (.seq (.ops [0, 1, 4, 8]) (.cond .leaf .leaf)) (.seq (.blk (.seq (.ops [0, 1, 4, 15]) (.blk (.join [0, 1, 4] (.seq (.ops [0, 1, 4, 15, 16]) (.cond (.draw (.q 0 (.q 1 (.q 2 (.q 3 (.q 4 (.q 5 (.q 6 (.q 7 (.q 8 (.q 9 (.q 10 (.one 11 .fin)))))))))))) [0, 1, 4]) (.join [0, 1, 4] (.seq (.ops [0, 1, 4, 15, 30]) (.cond (.draw (.q 0 (.q 1 (.q 2 (.q 3 (.q 4 (.q 5 (.q 6 (.q 7 (.q 8 (.q 9 (.q 10 (.one 11 .fin)))))))))))) [0, 1, 4]) (.join [0, 1, 4] (.seq (.ops [0, 1, 4, 15, 44]) (.cond (.draw (.q 0 (.q 1 (.q 2 (.q 3 (.q 4 (.q 5 (.q 6 (.q 7 (.q 8 (.q 9 (.q 10 (.one 11 .fin)))))))))))) [0, 1, 4]) (.join [0, 1, 4] (.seq (.ops [0, 1, 4, 58]) (.cond (.ops [0, 1, 4]) .leaf))))))))))))))) (.ops [0, 1, 4])))))) (Try.f21.body.getD .skip) [a0, a1] w R by kernel_rfl) h)

/-! ### 22: (*handbill/disk.Disk).Rename -/
def sh22 (a0 a1 a2 : Value) (w : World) (R : Value → World → Prop) : Prop :=
 RunV Try.prog (Instr.buildSlice 42 2 #[(0, a1), (1, a2)]) w fun t13_1 w =>
 CallF Try.prog 40 #[a0, t13_1] w fun t14_2 w =>
 RunA Try.prog (Instr.extract t14_2 0) fun t15_3 =>
 RunA Try.prog (Instr.extract t14_2 1) fun t16_4 =>
 RunW Try.prog (bin .neq 26 (.tmp 17) (.const (.int .i64 0)) t16_4 (.int .i64 0)) w fun t18_5 =>
 IfB t18_5 (
 R t16_4 w) (
 CallF Try.prog 41 #[a0, a1] w fun t23_6 w =>
 RunA Try.prog (Op.unary .not t23_6) fun t24_7 =>
 IfB t24_7 (
 R (.int .i64 6) w) (
 RunW Try.prog (bin .eql 9 (.tmp 26) (.tmp 27) a1 a2) w fun t28_8 =>
 IfB t28_8 (
 R (.int .i64 0) w) (
 RunV Try.prog (Instr.build 73 #[(0, (.int .i64 2)), (1, a1), (2, a2)]) w fun t32_9 w =>
 CallF Try.prog 42 #[a0, t32_9] w fun t33_10 w =>
 R t33_10 w)))
theorem sh22_calls {a0 a1 a2 : Value} {w : World} {R : Value → World → Prop} (h : sh22 a0 a1 a2 w R) : CallF Try.prog 22 #[a0, a1, a2] w R :=
  calls_of_denF (mk := false) (args := [a0, a1, a2]) (an := (.seq (.ops [0, 1, 2]) (.seq (.seq (.ops [0, 1, 2, 8]) (.seq (.ops [0, 1, 2, 8, 18]) (.cond (.seq (.ops [6]) .leaf) .leaf))) (.seq (.blk (.seq (.ops [0, 1, 2, 20]) (.cond (.seq (.ops [6]) .leaf) (.seq (.ops [0, 1, 2, 25]) (.cond (.seq (.ops [6]) .leaf) .leaf))))) (.seq (.ops [6]) .leaf))))) (c := Try.f22.body.getD .skip) hent Try.func22 rfl (Nat.le_of_ble_eq_true (by kernel_rfl))
    (Eq.mp (show sh22 a0 a1 a2 w R = denF Try.prog ent false Try.f22 (.seq (.ops [0, 1, 2]) (.seq (.seq (.ops [0, 1, 2, 8]) (.seq (.ops [0, 1, 2, 8, 18]) (.cond (.seq (.ops [6]) .leaf) .leaf))) (.seq (.blk (.seq (.ops [0, 1, 2, 20]) (.cond (.seq (.ops [6]) .leaf) (.seq (.ops [0, 1, 2, 25]) (.cond (.seq (.ops [6]) .leaf) .leaf))))) (.seq (.ops [6]) .leaf)))) (Try.f22.body.getD .skip) [a0, a1, a2] w R by kernel_rfl) h)

/-! ### 23: handbill/hblref.Texts -/
def sh23 (a0 a1 : Value) (w : World) (R : Value → World → Prop) : Prop :=
 RunW Try.prog (Builtin.len_ #[42] 3 #[a0]) w fun t7_1 =>
 RunW Try.prog (Builtin.len_ #[42] 3 #[a1]) w fun t9_2 =>
 RunW Try.prog (bin .neq 3 (.tmp 7) (.tmp 9) t7_1 t9_2) w fun t10_3 =>
 IfB t10_3 (
 R (.bool false) w) (
 lp 1 (fun n_5 t5_4 w =>
 RunW Try.prog (Builtin.len_ #[42] 3 #[a0]) w fun t13_6 =>
 RunA Try.prog (bin .lss 3 (.tmp 11) (.tmp 13) t5_4 t13_6) fun t14_7 =>
 IfB t14_7 (
 drw (fun S_8 w =>
 RunA Try.prog (Instr.indexAt 42 a0 t5_4) fun t19_9 =>
 RunS Try.prog S_8 (Instr.loadAt 9 t19_9) fun t20_10 =>
 RunA Try.prog (Instr.indexAt 42 a1 t5_4) fun t23_11 =>
 RunS Try.prog S_8 (Instr.loadAt 9 t23_11) fun t24_12 =>
 RunS Try.prog S_8 (bin .neq 9 (.tmp 20) (.tmp 24) t20_10 t24_12) fun t25_13 =>
 IfB t25_13 (
 R (.bool false) w) (
 RunA Try.prog (bin .add 3 (.tmp 15) (.const (.int .i64 1)) t5_4 (.int .i64 1)) fun t16_14 =>
 (a0 : Value) = a0 ∧ ((a1 : Value) = a1 ∧ (n_5 t16_14 w)))) w) (
 R (.bool true) w)) [(.int .i64 0)] w)
theorem sh23_calls {a0 a1 : Value} {w : World} {R : Value → World → Prop} (h : sh23 a0 a1 w R) : CallF Try.prog 23 #[a0, a1] w R :=
  calls_of_denF (mk := false) (args := [a0, a1]) (an := (.seq (.ops [0, 1]) (.seq (.seq (.ops [0, 1, 10]) (.cond (.seq (.ops [4]) .leaf) .leaf)) (.seq (.seq (.ops [0, 1, 5]) (.blk (.loop [0, 1] [5] (.seq (.seq (.ops [0, 1, 5, 14]) (.cond .leaf .leaf)) (.seq (.blk (.seq (.draw (.q 0 (.q 1 (.q 2 (.q 3 (.q 4 (.q 5 (.q 6 (.q 7 (.q 8 .fin))))))))) [0, 1, 5, 25]) (.cond (.seq (.ops [4]) .leaf) .leaf))) (.ops [0, 1, 5])))))) (.seq (.ops [4]) .leaf))))) (c := Try.f23.body.getD .skip) hent Try.func23 rfl (Nat.le_of_ble_eq_true (by kernel_rfl))
    (Eq.mp (show sh23 a0 a1 w R = denF Try.prog ent false Try.f23 (.seq (.ops [0, 1]) (.seq (.seq (.ops [0, 1, 10]) (.cond (.seq (.ops [4]) .leaf) .leaf)) (.seq (.seq (.ops [0, 1, 5]) (.blk (.loop [0, 1] [5] (.seq (.seq (.ops [0, 1, 5, 14]) (.cond .leaf .leaf)) (.seq (.blk (.seq (.draw (.q 0 (.q 1 (.q 2 (.q 3 (.q 4 (.q 5 (.q 6 (.q 7 (.q 8 .fin))))))))) [0, 1, 5, 25]) (.cond (.seq (.ops [4]) .leaf) .leaf))) (.ops [0, 1, 5])))))) (.seq (.ops [4]) .leaf)))) (Try.f23.body.getD .skip) [a0, a1] w R by kernel_rfl) h)

/-! ### 24: handbill/hblref.Has -/
def sh24 (a0 a1 : Value) (w : World) (R : Value → World → Prop) : Prop :=
 lp 1 (fun n_2 t5_1 w =>
 RunW Try.prog (Builtin.len_ #[42] 3 #[a0]) w fun t8_3 =>
 RunA Try.prog (bin .lss 3 (.tmp 6) (.tmp 8) t5_1 t8_3) fun t9_4 =>
 IfB t9_4 (
 RunA Try.prog (Instr.indexAt 42 a0 t5_1) fun t14_5 =>
 RunW Try.prog (Instr.loadAt 9 t14_5) w fun t15_6 =>
 RunW Try.prog (bin .eql 9 (.tmp 15) (.tmp 16) t15_6 a1) w fun t17_7 =>
 IfB t17_7 (
 R (.bool true) w) (
 RunA Try.prog (bin .add 3 (.tmp 10) (.const (.int .i64 1)) t5_1 (.int .i64 1)) fun t11_8 =>
 (a0 : Value) = a0 ∧ ((a1 : Value) = a1 ∧ (n_2 t11_8 w)))) (
 R (.bool false) w)) [(.int .i64 0)] w
theorem sh24_calls {a0 a1 : Value} {w : World} {R : Value → World → Prop} (h : sh24 a0 a1 w R) : CallF Try.prog 24 #[a0, a1] w R :=
  calls_of_denF (mk := false) (args := [a0, a1]) (an := (.seq (.ops [0, 1]) (.seq (.seq (.ops [0, 1, 5]) (.blk (.loop [0, 1] [5] (.seq (.seq (.ops [0, 1, 5, 9]) (.cond .leaf .leaf)) (.seq (.blk (.seq (.ops [0, 1, 5, 17]) (.cond (.seq (.ops [4]) .leaf) .leaf))) (.ops [0, 1, 5])))))) (.seq (.ops [4]) .leaf)))) (c := Try.f24.body.getD .skip) hent Try.func24 rfl (Nat.le_of_ble_eq_true (by kernel_rfl))
    (Eq.mp (show sh24 a0 a1 w R = denF Try.prog ent false Try.f24 (.seq (.ops [0, 1]) (.seq (.seq (.ops [0, 1, 5]) (.blk (.loop [0, 1] [5] (.seq (.seq (.ops [0, 1, 5, 9]) (.cond .leaf .leaf)) (.seq (.blk (.seq (.ops [0, 1, 5, 17]) (.cond (.seq (.ops [4]) .leaf) .leaf))) (.ops [0, 1, 5])))))) (.seq (.ops [4]) .leaf))) (Try.f24.body.getD .skip) [a0, a1] w R by kernel_rfl) h)

/-! ### 25: (*handbill/disk.Disk).Delete -/
def sh25 (a0 a1 : Value) (w : World) (R : Value → World → Prop) : Prop :=
 RunV Try.prog (Instr.buildSlice 42 1 #[(0, a1)]) w fun t10_1 w =>
 CallF Try.prog 40 #[a0, t10_1] w fun t11_2 w =>
 RunA Try.prog (Instr.extract t11_2 0) fun t12_3 =>
 RunA Try.prog (Instr.extract t11_2 1) fun t13_4 =>
 RunW Try.prog (bin .neq 26 (.tmp 14) (.const (.int .i64 0)) t13_4 (.int .i64 0)) w fun t15_5 =>
 IfB t15_5 (
 R t13_4 w) (
 CallF Try.prog 41 #[a0, a1] w fun t19_6 w =>
 RunA Try.prog (Op.unary .not t19_6) fun t20_7 =>
 IfB t20_7 (
 R (.int .i64 6) w) (
 RunV Try.prog (Instr.build 73 #[(0, (.int .i64 3)), (1, a1)]) w fun t23_8 w =>
 CallF Try.prog 42 #[a0, t23_8] w fun t24_9 w =>
 R t24_9 w))
theorem sh25_calls {a0 a1 : Value} {w : World} {R : Value → World → Prop} (h : sh25 a0 a1 w R) : CallF Try.prog 25 #[a0, a1] w R :=
  calls_of_denF (mk := false) (args := [a0, a1]) (an := (.seq (.ops [0, 1]) (.seq (.seq (.ops [0, 1, 6]) (.seq (.ops [0, 1, 6, 15]) (.cond (.seq (.ops [4]) .leaf) .leaf))) (.seq (.seq (.ops [0, 1, 20]) (.cond (.seq (.ops [4]) .leaf) .leaf)) (.seq (.ops [4]) .leaf))))) (c := Try.f25.body.getD .skip) hent Try.func25 rfl (Nat.le_of_ble_eq_true (by kernel_rfl))
    (Eq.mp (show sh25 a0 a1 w R = denF Try.prog ent false Try.f25 (.seq (.ops [0, 1]) (.seq (.seq (.ops [0, 1, 6]) (.seq (.ops [0, 1, 6, 15]) (.cond (.seq (.ops [4]) .leaf) .leaf))) (.seq (.seq (.ops [0, 1, 20]) (.cond (.seq (.ops [4]) .leaf) .leaf)) (.seq (.ops [4]) .leaf)))) (Try.f25.body.getD .skip) [a0, a1] w R by kernel_rfl) h)

/-! ### 26: (*handbill/disk.Disk).Sync -/
def sh26 (a0 : Value) (w : World) (R : Value → World → Prop) : Prop :=
 CallF Try.prog 40 #[a0, (.slice none 0 0)] w fun t7_1 w =>
 RunA Try.prog (Instr.extract t7_1 0) fun t8_2 =>
 RunA Try.prog (Instr.extract t7_1 1) fun t9_3 =>
 RunW Try.prog (bin .neq 26 (.tmp 10) (.const (.int .i64 0)) t9_3 (.int .i64 0)) w fun t11_4 =>
 IfB t11_4 (
 R t9_3 w) (
 RunA Try.prog (nilV a0) fun t15_5 =>
 RunA Try.prog (Instr.fieldAt 69 t15_5 1) fun t16_6 =>
 RunW Try.prog (Instr.loadAt 66 t16_6) w fun t17_7 =>
 CallF Try.prog 36 #[t17_7] w fun t18_8 w =>
 RunA Try.prog (nilV a0) fun t19_9 =>
 RunA Try.prog (Instr.fieldAt 69 t19_9 2) fun t20_10 =>
 RunU Try.prog (Instr.storeAt 66 t20_10 t18_8) w fun w =>
 RunA Try.prog (nilV a0) fun t22_11 =>
 RunA Try.prog (Instr.fieldAt 69 t22_11 3) fun t23_12 =>
 RunU Try.prog (Instr.storeAt 67 t23_12 (.slice none 0 0)) w fun w =>
 R (.int .i64 0) w)
theorem sh26_calls {a0 : Value} {w : World} {R : Value → World → Prop} (h : sh26 a0 w R) : CallF Try.prog 26 #[a0] w R :=
  calls_of_denF (mk := false) (args := [a0]) (an := (.seq (.ops [0]) (.seq (.seq (.ops [0, 4]) (.seq (.ops [0, 4, 11]) (.cond (.seq (.ops [2]) .leaf) .leaf))) (.seq (.ops [0]) (.seq (.ops []) (.seq (.ops [2]) .leaf)))))) (c := Try.f26.body.getD .skip) hent Try.func26 rfl (Nat.le_of_ble_eq_true (by kernel_rfl))
    (Eq.mp (show sh26 a0 w R = denF Try.prog ent false Try.f26 (.seq (.ops [0]) (.seq (.seq (.ops [0, 4]) (.seq (.ops [0, 4, 11]) (.cond (.seq (.ops [2]) .leaf) .leaf))) (.seq (.ops [0]) (.seq (.ops []) (.seq (.ops [2]) .leaf))))) (Try.f26.body.getD .skip) [a0] w R by kernel_rfl) h)

/-! ### 27: handbill/hbllaw8.pends -/
def sh27 (a0 a1 : Value) (w : World) (R : Value → World → Prop) : Prop :=
 RunV Try.prog (Instr.box 32 a1) w fun t3_1 w =>
 CallF Try.prog 11 #[a0] w fun t9_2 w =>
 RunW Try.prog (bin .eql 25 (.tmp 10) (.const (.pointer none)) t9_2 (.pointer none)) w fun t11_3 =>
 IfB t11_3 (
 R (.bool false) w) (
 RunA Try.prog (Instr.fieldAt 32 t3_1 3) fun t14_4 =>
 RunW Try.prog (Instr.loadAt 9 t14_4) w fun t15_5 =>
 CallF Try.prog 13 #[t9_2, t15_5] w fun t16_6 w =>
 RunA Try.prog (Instr.extract t16_6 0) fun t17_7 =>
 RunA Try.prog (Instr.extract t16_6 1) fun t18_8 =>
 RunA Try.prog (Instr.fieldAt 32 t3_1 0) fun t19_9 =>
 RunW Try.prog (Instr.loadAt 3 t19_9) w fun t20_10 =>
 RunW Try.prog (bin .eql 3 (.tmp 20) (.const (.int .i64 2)) t20_10 (.int .i64 2)) w fun t22_11 =>
 IfB t22_11 (
 RunA Try.prog (Instr.fieldAt 32 t3_1 3) fun t24_12 =>
 RunW Try.prog (Instr.loadAt 9 t24_12) w fun t25_13 =>
 RunA Try.prog (Instr.fieldAt 32 t3_1 5) fun t26_14 =>
 RunW Try.prog (Instr.loadAt 29 t26_14) w fun t27_15 =>
 CallF Try.prog 14 #[t9_2, t25_13, t27_15] w fun t28_16 w =>
 RunW Try.prog (bin .eql 26 (.tmp 28) (.const (.int .i64 0)) t28_16 (.int .i64 0)) w fun t29_17 =>
 IfB t29_17 (
 RunA Try.prog (Instr.fieldAt 32 t3_1 5) fun t31_18 =>
 RunW Try.prog (Instr.loadAt 29 t31_18) w fun t32_19 =>
 RunW Try.prog (Builtin.len_ #[29] 3 #[t32_19]) w fun t33_20 =>
 RunA Try.prog (bin .gtr 3 (.tmp 33) (.const (.int .i64 0)) t33_20 (.int .i64 0)) fun t34_21 =>
 IfB t34_21 (
 R (.bool true) w) (
 RunA Try.prog (Op.unary .not t18_8) fun t37_22 =>
 R t37_22 w)) (
 R (.bool false) w)) (
 RunW Try.prog (bin .eql 3 (.tmp 20) (.const (.int .i64 3)) t20_10 (.int .i64 3)) w fun t41_23 =>
 IfB t41_23 (
 RunA Try.prog (Instr.fieldAt 32 t3_1 3) fun t43_24 =>
 RunW Try.prog (Instr.loadAt 9 t43_24) w fun t44_25 =>
 RunA Try.prog (Instr.fieldAt 32 t3_1 1) fun t45_26 =>
 RunW Try.prog (Instr.loadAt 3 t45_26) w fun t46_27 =>
 CallF Try.prog 18 #[t9_2, t44_25, t46_27] w fun t47_28 w =>
 RunW Try.prog (bin .eql 26 (.tmp 47) (.const (.int .i64 0)) t47_28 (.int .i64 0)) w fun t48_29 =>
 IfB t48_29 (
 RunA Try.prog (Instr.fieldAt 32 t3_1 1) fun t50_30 =>
 RunW Try.prog (Instr.loadAt 3 t50_30) w fun t51_31 =>
 RunW Try.prog (Builtin.len_ #[29] 3 #[t17_7]) w fun t53_32 =>
 RunA Try.prog (bin .lss 3 (.tmp 51) (.tmp 53) t51_31 t53_32) fun t54_33 =>
 R t54_33 w) (
 R (.bool false) w)) (
 RunW Try.prog (bin .eql 3 (.tmp 20) (.const (.int .i64 4)) t20_10 (.int .i64 4)) w fun t57_34 =>
 IfB t57_34 (
 RunA Try.prog (Instr.fieldAt 32 t3_1 3) fun t59_35 =>
 RunW Try.prog (Instr.loadAt 9 t59_35) w fun t60_36 =>
 RunA Try.prog (Instr.fieldAt 32 t3_1 4) fun t61_37 =>
 RunW Try.prog (Instr.loadAt 9 t61_37) w fun t62_38 =>
 CallF Try.prog 22 #[t9_2, t60_36, t62_38] w fun t63_39 w =>
 RunW Try.prog (bin .eql 26 (.tmp 63) (.const (.int .i64 0)) t63_39 (.int .i64 0)) w fun t64_40 =>
 IfB t64_40 (
 RunA Try.prog (Instr.fieldAt 32 t3_1 3) fun t66_41 =>
 RunW Try.prog (Instr.loadAt 9 t66_41) w fun t67_42 =>
 RunA Try.prog (Instr.fieldAt 32 t3_1 4) fun t68_43 =>
 RunW Try.prog (Instr.loadAt 9 t68_43) w fun t69_44 =>
 RunW Try.prog (bin .neq 9 (.tmp 67) (.tmp 69) t67_42 t69_44) w fun t70_45 =>
 R t70_45 w) (
 R (.bool false) w)) (
 RunW Try.prog (bin .eql 3 (.tmp 20) (.const (.int .i64 5)) t20_10 (.int .i64 5)) w fun t73_46 =>
 IfB t73_46 (
 RunA Try.prog (Instr.fieldAt 32 t3_1 3) fun t75_47 =>
 RunW Try.prog (Instr.loadAt 9 t75_47) w fun t76_48 =>
 CallF Try.prog 25 #[t9_2, t76_48] w fun t77_49 w =>
 RunW Try.prog (bin .eql 26 (.tmp 77) (.const (.int .i64 0)) t77_49 (.int .i64 0)) w fun t78_50 =>
 R t78_50 w) (
 R (.bool false) w)))))
theorem sh27_calls {a0 a1 : Value} {w : World} {R : Value → World → Prop} (h : sh27 a0 a1 w R) : CallF Try.prog 27 #[a0, a1] w R :=
  calls_of_denF (mk := false) (args := [a0, a1]) (an := (.seq (.ops [0, 3]) (.seq (.ops [3, 5]) (.seq (.seq (.ops [3, 5, 11]) (.cond (.seq (.ops [4]) .leaf) .leaf)) (.seq (.ops [3, 5, 6, 7]) (.seq (.seq (.ops [3, 5, 6, 7, 20]) (.blk (.seq (.ops [3, 5, 6, 7, 20, 21]) (.cond (.seq (.ops [4]) .leaf) (.seq (.ops [3, 5, 6, 20, 40]) (.cond (.seq (.ops [4]) .leaf) (.seq (.ops [3, 5, 20, 56]) (.cond (.seq (.ops [4]) .leaf) (.seq (.ops [3, 5, 72]) (.cond (.seq (.ops [4]) .leaf) .leaf)))))))))) (.seq (.ops [4]) .leaf))))))) (c := Try.f27.body.getD .skip) hent Try.func27 rfl (Nat.le_of_ble_eq_true (by kernel_rfl))
    (Eq.mp (show sh27 a0 a1 w R = denF Try.prog ent false Try.f27 (.seq (.ops [0, 3]) (.seq (.ops [3, 5]) (.seq (.seq (.ops [3, 5, 11]) (.cond (.seq (.ops [4]) .leaf) .leaf)) (.seq (.ops [3, 5, 6, 7]) (.seq (.seq (.ops [3, 5, 6, 7, 20]) (.blk (.seq (.ops [3, 5, 6, 7, 20, 21]) (.cond (.seq (.ops [4]) .leaf) (.seq (.ops [3, 5, 6, 20, 40]) (.cond (.seq (.ops [4]) .leaf) (.seq (.ops [3, 5, 20, 56]) (.cond (.seq (.ops [4]) .leaf) (.seq (.ops [3, 5, 72]) (.cond (.seq (.ops [4]) .leaf) .leaf)))))))))) (.seq (.ops [4]) .leaf)))))) (Try.f27.body.getD .skip) [a0, a1] w R by kernel_rfl) h)

/-! ### 28: (*handbill/disk.Disk).Crash -/
def sh28 (a0 a1 a2 : Value) (w : World) (R : Value → World → Prop) : Prop :=
 RunA Try.prog (nilV a0) fun t10_1 =>
 RunA Try.prog (Instr.fieldAt 69 t10_1 6) fun t11_2 =>
 RunW Try.prog (Instr.loadAt 4 t11_2) w fun t12_3 =>
 IfB t12_3 (
 R (.tuple #[]) w) (
 RunW Try.prog (Builtin.max_ #[3, 3] 3 #[a1, (.int .i64 0)]) w fun t14_4 =>
 RunA Try.prog (nilV a0) fun t16_5 =>
 RunA Try.prog (Instr.fieldAt 69 t16_5 3) fun t17_6 =>
 RunW Try.prog (Instr.loadAt 67 t17_6) w fun t18_7 =>
 RunW Try.prog (Builtin.len_ #[67] 3 #[t18_7]) w fun t19_8 =>
 RunW Try.prog (Builtin.min_ #[3, 3] 3 #[t14_4, t19_8]) w fun t20_9 =>
 RunA Try.prog (nilV a0) fun t22_10 =>
 RunA Try.prog (Instr.fieldAt 69 t22_10 3) fun t23_11 =>
 RunW Try.prog (Instr.loadAt 67 t23_11) w fun t24_12 =>
 RunA Try.prog (Instr.sliceAt 67 t24_12 none (some t20_9) none) fun t26_13 =>
 RunW Try.prog (Builtin.len_ #[67] 3 #[t26_13]) w fun t27_14 =>
 lp 1 (fun n_16 t28_15 w =>
 RunA Try.prog (bin .lss 3 (.tmp 28) (.tmp 27) t28_15 t27_14) fun t29_17 =>
 IfB t29_17 (
 RunA Try.prog (Instr.indexAt 67 t26_13 t28_15) fun t30_18 =>
 RunW Try.prog (Instr.loadAt 73 t30_18) w fun t31_19 =>
 RunV Try.prog (Instr.alloc 73 true (.tuple #[])) w fun t7_20 w =>
 RunU Try.prog (Instr.storeAt 73 t7_20 t31_19) w fun w =>
 drw (fun S_21 w =>
 RunA Try.prog (nilV a0) fun t33_22 =>
 RunA Try.prog (Instr.fieldAt 69 t33_22 2) fun t34_23 =>
 RunS Try.prog S_21 (Instr.loadAt 66 t34_23) fun t35_24 =>
 RunS Try.prog S_21 (Instr.loadAt 73 t7_20) fun t36_25 =>
 CallF Try.prog 46 #[t35_24, t36_25] w fun t37_26 w =>
 RunA Try.prog (bin .add 3 (.tmp 28) (.const (.int .i64 1)) t28_15 (.int .i64 1)) fun t38_27 =>
 (a0 : Value) = a0 ∧ ((t20_9 : Value) = t20_9 ∧ ((a2 : Value) = a2 ∧ ((t26_13 : Value) = t26_13 ∧ ((t27_14 : Value) = t27_14 ∧ (n_16 t38_27 w)))))) w) (
 jn 1 (fun t0_28 w =>
 RunA Try.prog (nilV t0_28) fun t80_30 =>
 RunA Try.prog (Instr.fieldAt 69 t80_30 2) fun t81_31 =>
 RunW Try.prog (Instr.loadAt 66 t81_31) w fun t82_32 =>
 CallF Try.prog 36 #[t82_32] w fun t83_33 w =>
 RunA Try.prog (nilV t0_28) fun t84_34 =>
 RunA Try.prog (Instr.fieldAt 69 t84_34 1) fun t85_35 =>
 RunU Try.prog (Instr.storeAt 66 t85_35 t83_33) w fun w =>
 RunA Try.prog (nilV t0_28) fun t87_36 =>
 RunA Try.prog (Instr.fieldAt 69 t87_36 3) fun t88_37 =>
 RunU Try.prog (Instr.storeAt 67 t88_37 (.slice none 0 0)) w fun w =>
 RunA Try.prog (nilV t0_28) fun t90_38 =>
 RunA Try.prog (Instr.fieldAt 69 t90_38 6) fun t91_39 =>
 RunU Try.prog (Instr.storeAt 4 t91_39 (.bool true)) w fun w =>
 R (.tuple #[]) w) fun j_29 =>
 RunA Try.prog (nilV a0) fun t41_40 =>
 RunA Try.prog (Instr.fieldAt 69 t41_40 3) fun t42_41 =>
 RunW Try.prog (Instr.loadAt 67 t42_41) w fun t43_42 =>
 RunW Try.prog (Builtin.len_ #[67] 3 #[t43_42]) w fun t44_43 =>
 RunA Try.prog (bin .lss 3 (.tmp 39) (.tmp 44) t20_9 t44_43) fun t45_44 =>
 IfB t45_44 (
 RunA Try.prog (nilV a0) fun t47_45 =>
 RunA Try.prog (Instr.fieldAt 69 t47_45 3) fun t48_46 =>
 RunW Try.prog (Instr.loadAt 67 t48_46) w fun t49_47 =>
 RunA Try.prog (Instr.indexAt 67 t49_47 t20_9) fun t51_48 =>
 RunW Try.prog (Instr.loadAt 73 t51_48) w fun t52_49 =>
 RunV Try.prog (Instr.alloc 73 true (.tuple #[])) w fun t8_50 w =>
 RunU Try.prog (Instr.storeAt 73 t8_50 t52_49) w fun w =>
 jn 1 (fun t0_51 w =>
 j_29 t0_51 w) fun j_52 =>
 RunA Try.prog (Instr.fieldAt 73 t8_50 0) fun t53_53 =>
 RunW Try.prog (Instr.loadAt 3 t53_53) w fun t54_54 =>
 RunW Try.prog (bin .eql 3 (.tmp 54) (.const (.int .i64 0)) t54_54 (.int .i64 0)) w fun t55_55 =>
 IfB t55_55 (
 RunA Try.prog (bin .geq 3 (.tmp 57) (.const (.int .i64 0)) a2 (.int .i64 0)) fun t58_56 =>
 IfB t58_56 (
 RunA Try.prog (Instr.fieldAt 73 t8_50 3) fun t62_57 =>
 RunW Try.prog (Instr.loadAt 29 t62_57) w fun t63_58 =>
 RunW Try.prog (Builtin.len_ #[29] 3 #[t63_58]) w fun t64_59 =>
 RunA Try.prog (bin .lss 3 (.tmp 61) (.tmp 64) a2 t64_59) fun t65_60 =>
 IfB t65_60 (
 RunA Try.prog (Instr.fieldAt 73 t8_50 3) fun t67_61 =>
 RunW Try.prog (Instr.loadAt 29 t67_61) w fun t68_62 =>
 RunA Try.prog (Instr.sliceAt 29 t68_62 none (some a2) none) fun t70_63 =>
 RunA Try.prog (Instr.fieldAt 73 t8_50 3) fun t71_64 =>
 RunU Try.prog (Instr.storeAt 29 t71_64 t70_63) w fun w =>
 drw (fun S_65 w =>
 RunA Try.prog (nilV a0) fun t73_66 =>
 RunA Try.prog (Instr.fieldAt 69 t73_66 2) fun t74_67 =>
 RunS Try.prog S_65 (Instr.loadAt 66 t74_67) fun t75_68 =>
 RunS Try.prog S_65 (Instr.loadAt 73 t8_50) fun t76_69 =>
 CallF Try.prog 46 #[t75_68, t76_69] w fun t77_70 w =>
 j_52 a0 w) w) (
 j_52 a0 w)) (
 j_52 a0 w)) (
 j_52 a0 w)) (
 j_29 a0 w))) [(.int .i64 0)] w)
theorem sh28_calls {a0 a1 a2 : Value} {w : World} {R : Value → World → Prop} (h : sh28 a0 a1 a2 w R) : CallF Try.prog 28 #[a0, a1, a2] w R :=
  calls_of_denF (mk := false) (args := [a0, a1, a2]) (an := (.seq (.seq (.ops [0, 1, 2, 12]) (.cond .leaf .leaf)) (.seq (.ops [0, 1, 2]) (.seq (.seq (.ops [0, 1, 2, 26, 27, 28]) (.blk (.loop [0, 1, 2, 26, 27] [28] (.seq (.ops [0, 1, 2, 26, 27, 28, 29]) (.seq (.cond .leaf .leaf) (.seq (.blk (.seq (.ops [0, 1, 2, 7, 26, 27, 28]) (.draw (.q 0 (.q 1 (.q 2 (.q 3 (.q 4 (.one 5 .fin)))))) [0, 1, 2, 26, 27, 28]))) (.ops [0, 1, 2, 26, 27, 28]))))))) (.seq (.join [0] (.seq (.ops [0, 1, 2, 45]) (.cond (.seq (.ops [0, 2, 8]) (.join [0] (.seq (.ops [0, 2, 8, 66]) (.cond (.seq (.ops [0, 8]) (.draw (.q 0 (.q 1 (.q 2 (.q 3 (.q 4 (.one 5 .fin)))))) [0])) .leaf)))) .leaf))) (.seq (.ops [0]) (.seq (.ops [0]) (.ops [])))))))) (c := Try.f28.body.getD .skip) hent Try.func28 rfl (Nat.le_of_ble_eq_true (by kernel_rfl))
    (Eq.mp (show sh28 a0 a1 a2 w R = denF Try.prog ent false Try.f28 (.seq (.seq (.ops [0, 1, 2, 12]) (.cond .leaf .leaf)) (.seq (.ops [0, 1, 2]) (.seq (.seq (.ops [0, 1, 2, 26, 27, 28]) (.blk (.loop [0, 1, 2, 26, 27] [28] (.seq (.ops [0, 1, 2, 26, 27, 28, 29]) (.seq (.cond .leaf .leaf) (.seq (.blk (.seq (.ops [0, 1, 2, 7, 26, 27, 28]) (.draw (.q 0 (.q 1 (.q 2 (.q 3 (.q 4 (.one 5 .fin)))))) [0, 1, 2, 26, 27, 28]))) (.ops [0, 1, 2, 26, 27, 28]))))))) (.seq (.join [0] (.seq (.ops [0, 1, 2, 45]) (.cond (.seq (.ops [0, 2, 8]) (.join [0] (.seq (.ops [0, 2, 8, 66]) (.cond (.seq (.ops [0, 8]) (.draw (.q 0 (.q 1 (.q 2 (.q 3 (.q 4 (.one 5 .fin)))))) [0])) .leaf)))) .leaf))) (.seq (.ops [0]) (.seq (.ops [0]) (.ops []))))))) (Try.f28.body.getD .skip) [a0, a1, a2] w R by kernel_rfl) h)

/-! ### 29: (*handbill/disk.Disk).Calls -/
def sh29 (a0 : Value) (w : World) (R : Value → World → Prop) : Prop :=
 RunA Try.prog (nilV a0) fun t4_1 =>
 RunA Try.prog (Instr.fieldAt 69 t4_1 5) fun t5_2 =>
 RunW Try.prog (Instr.loadAt 3 t5_2) w fun t6_3 =>
 R t6_3 w
theorem sh29_calls {a0 : Value} {w : World} {R : Value → World → Prop} (h : sh29 a0 w R) : CallF Try.prog 29 #[a0] w R :=
  calls_of_denF (mk := false) (args := [a0]) (an := (.seq (.ops [0]) (.seq (.ops [2]) .leaf))) (c := Try.f29.body.getD .skip) hent Try.func29 rfl (Nat.le_of_ble_eq_true (by kernel_rfl))
    (Eq.mp (show sh29 a0 w R = denF Try.prog ent false Try.f29 (.seq (.ops [0]) (.seq (.ops [2]) .leaf)) (Try.f29.body.getD .skip) [a0] w R by kernel_rfl) h)

/-! ### 30: (*handbill/disk.Disk).Reboot -/
def sh30 (a0 : Value) (w : World) (R : Value → World → Prop) : Prop :=
 RunA Try.prog (nilV a0) fun t3_1 =>
 RunA Try.prog (Instr.fieldAt 69 t3_1 6) fun t4_2 =>
 RunU Try.prog (Instr.storeAt 4 t4_2 (.bool false)) w fun w =>
 R (.tuple #[]) w
theorem sh30_calls {a0 : Value} {w : World} {R : Value → World → Prop} (h : sh30 a0 w R) : CallF Try.prog 30 #[a0] w R :=
  calls_of_denF (mk := false) (args := [a0]) (an := (.ops [])) (c := Try.f30.body.getD .skip) hent Try.func30 rfl (Nat.le_of_ble_eq_true (by kernel_rfl))
    (Eq.mp (show sh30 a0 w R = denF Try.prog ent false Try.f30 (.ops []) (Try.f30.body.getD .skip) [a0] w R by kernel_rfl) h)

/-! ### 31: (*handbill/disk.Disk).Up -/
def sh31 (a0 : Value) (w : World) (R : Value → World → Prop) : Prop :=
 RunA Try.prog (nilV a0) fun t4_1 =>
 RunA Try.prog (Instr.fieldAt 69 t4_1 6) fun t5_2 =>
 RunW Try.prog (Instr.loadAt 4 t5_2) w fun t6_3 =>
 RunA Try.prog (Op.unary .not t6_3) fun t7_4 =>
 R t7_4 w
theorem sh31_calls {a0 : Value} {w : World} {R : Value → World → Prop} (h : sh31 a0 w R) : CallF Try.prog 31 #[a0] w R :=
  calls_of_denF (mk := false) (args := [a0]) (an := (.seq (.ops [0]) (.seq (.ops [2]) .leaf))) (c := Try.f31.body.getD .skip) hent Try.func31 rfl (Nat.le_of_ble_eq_true (by kernel_rfl))
    (Eq.mp (show sh31 a0 w R = denF Try.prog ent false Try.f31 (.seq (.ops [0]) (.seq (.ops [2]) .leaf)) (Try.f31.body.getD .skip) [a0] w R by kernel_rfl) h)

/-! ### 35: handbill/disk.fits -/
def sh35 (a0 : Value) (w : World) (R : Value → World → Prop) : Prop :=
 RunA Try.prog (bin .geq 3 (.tmp 3) (.const (.int .i64 0)) a0 (.int .i64 0)) fun t4_1 =>
 IfB t4_1 (
 RunA Try.prog (bin .leq 3 (.tmp 6) (.const (.int .i64 1073741824)) a0 (.int .i64 1073741824)) fun t7_2 =>
 R t7_2 w) (
 R (.bool false) w)
theorem sh35_calls {a0 : Value} {w : World} {R : Value → World → Prop} (h : sh35 a0 w R) : CallF Try.prog 35 #[a0] w R :=
  calls_of_denF (mk := false) (args := [a0]) (an := (.seq (.ops [0]) (.seq (.ops [2]) .leaf))) (c := Try.f35.body.getD .skip) hent Try.func35 rfl (Nat.le_of_ble_eq_true (by kernel_rfl))
    (Eq.mp (show sh35 a0 w R = denF Try.prog ent false Try.f35 (.seq (.ops [0]) (.seq (.ops [2]) .leaf)) (Try.f35.body.getD .skip) [a0] w R by kernel_rfl) h)

/-! ### 36: maps.Clone[handbill/disk.files,string,[]byte] -/
def sh36 (a0 : Value) (w : World) (R : Value → World → Prop) : Prop :=
 RunW Try.prog (bin .eql 66 (.tmp 3) (.const (.map none)) a0 (.map none)) w fun t4_1 =>
 IfB t4_1 (
 R (.map none) w) (
 RunV Try.prog (Instr.makeInterface 66 a0) w fun t6_2 w =>
 RunO Try.prog (callFunc 68 #[t6_2]) w fun t7_3 w =>
 RunV Try.prog (Instr.typeAssert t7_3 20 66 false) w fun t8_4 w =>
 R t8_4 w)
theorem sh36_calls {a0 : Value} {w : World} {R : Value → World → Prop} (h : sh36 a0 w R) : CallF Try.prog 36 #[a0] w R :=
  calls_of_denF (mk := false) (args := [a0]) (an := (.seq (.ops [0]) (.seq (.seq (.ops [0, 4]) (.cond (.seq (.ops [2]) .leaf) .leaf)) (.seq (.ops [2]) .leaf)))) (c := Try.f36.body.getD .skip) hent Try.func36 rfl (Nat.le_of_ble_eq_true (by kernel_rfl))
    (Eq.mp (show sh36 a0 w R = denF Try.prog ent false Try.f36 (.seq (.ops [0]) (.seq (.seq (.ops [0, 4]) (.cond (.seq (.ops [2]) .leaf) .leaf)) (.seq (.ops [2]) .leaf))) (Try.f36.body.getD .skip) [a0] w R by kernel_rfl) h)

/-! ### 37: slices.Clone[[]handbill/disk.change,handbill/disk.change] -/
def sh37 (a0 : Value) (w : World) (R : Value → World → Prop) : Prop :=
 RunW Try.prog (bin .eql 67 (.tmp 3) (.const (.slice none 0 0)) a0 (.slice none 0 0)) w fun t4_1 =>
 IfB t4_1 (
 R (.slice none 0 0) w) (
 RunV Try.prog (Instr.buildSlice 67 0 #[]) w fun t5_2 w =>
 RunV Try.prog (Builtin.append_ #[67, 67] 67 #[t5_2, a0]) w fun t7_3 w =>
 R t7_3 w)
theorem sh37_calls {a0 : Value} {w : World} {R : Value → World → Prop} (h : sh37 a0 w R) : CallF Try.prog 37 #[a0] w R :=
  calls_of_denF (mk := false) (args := [a0]) (an := (.seq (.ops [0]) (.seq (.seq (.ops [0, 4]) (.cond (.seq (.ops [2]) .leaf) .leaf)) (.seq (.ops [2]) .leaf)))) (c := Try.f37.body.getD .skip) hent Try.func37 rfl (Nat.le_of_ble_eq_true (by kernel_rfl))
    (Eq.mp (show sh37 a0 w R = denF Try.prog ent false Try.f37 (.seq (.ops [0]) (.seq (.seq (.ops [0, 4]) (.cond (.seq (.ops [2]) .leaf) .leaf)) (.seq (.ops [2]) .leaf))) (Try.f37.body.getD .skip) [a0] w R by kernel_rfl) h)

/-! ### 38: slices.Clone[[]handbill/disk.Event,handbill/disk.Event] -/
def sh38 (a0 : Value) (w : World) (R : Value → World → Prop) : Prop :=
 RunW Try.prog (bin .eql 30 (.tmp 3) (.const (.slice none 0 0)) a0 (.slice none 0 0)) w fun t4_1 =>
 IfB t4_1 (
 R (.slice none 0 0) w) (
 RunV Try.prog (Instr.buildSlice 30 0 #[]) w fun t5_2 w =>
 RunV Try.prog (Builtin.append_ #[30, 30] 30 #[t5_2, a0]) w fun t7_3 w =>
 R t7_3 w)
theorem sh38_calls {a0 : Value} {w : World} {R : Value → World → Prop} (h : sh38 a0 w R) : CallF Try.prog 38 #[a0] w R :=
  calls_of_denF (mk := false) (args := [a0]) (an := (.seq (.ops [0]) (.seq (.seq (.ops [0, 4]) (.cond (.seq (.ops [2]) .leaf) .leaf)) (.seq (.ops [2]) .leaf)))) (c := Try.f38.body.getD .skip) hent Try.func38 rfl (Nat.le_of_ble_eq_true (by kernel_rfl))
    (Eq.mp (show sh38 a0 w R = denF Try.prog ent false Try.f38 (.seq (.ops [0]) (.seq (.seq (.ops [0, 4]) (.cond (.seq (.ops [2]) .leaf) .leaf)) (.seq (.ops [2]) .leaf))) (Try.f38.body.getD .skip) [a0] w R by kernel_rfl) h)

/-! ### 39: bytes.Clone -/
def sh39 (a0 : Value) (w : World) (R : Value → World → Prop) : Prop :=
 RunW Try.prog (bin .eql 29 (.tmp 3) (.const (.slice none 0 0)) a0 (.slice none 0 0)) w fun t4_1 =>
 IfB t4_1 (
 R (.slice none 0 0) w) (
 RunV Try.prog (Instr.buildSlice 29 0 #[]) w fun t5_2 w =>
 RunV Try.prog (Builtin.append_ #[29, 29] 29 #[t5_2, a0]) w fun t7_3 w =>
 R t7_3 w)
theorem sh39_calls {a0 : Value} {w : World} {R : Value → World → Prop} (h : sh39 a0 w R) : CallF Try.prog 39 #[a0] w R :=
  calls_of_denF (mk := false) (args := [a0]) (an := (.seq (.ops [0]) (.seq (.seq (.ops [0, 4]) (.cond (.seq (.ops [2]) .leaf) .leaf)) (.seq (.ops [2]) .leaf)))) (c := Try.f39.body.getD .skip) hent Try.func39 rfl (Nat.le_of_ble_eq_true (by kernel_rfl))
    (Eq.mp (show sh39 a0 w R = denF Try.prog ent false Try.f39 (.seq (.ops [0]) (.seq (.seq (.ops [0, 4]) (.cond (.seq (.ops [2]) .leaf) .leaf)) (.seq (.ops [2]) .leaf))) (Try.f39.body.getD .skip) [a0] w R by kernel_rfl) h)

/-! ### 40: (*handbill/disk.Disk).call -/
def sh40 (a0 a1 : Value) (w : World) (R : Value → World → Prop) : Prop :=
 RunA Try.prog (nilV a0) fun t12_1 =>
 RunA Try.prog (Instr.fieldAt 69 t12_1 5) fun t13_2 =>
 RunW Try.prog (Instr.loadAt 3 t13_2) w fun t14_3 =>
 RunA Try.prog (bin .add 3 (.tmp 14) (.const (.int .i64 1)) t14_3 (.int .i64 1)) fun t15_4 =>
 RunA Try.prog (nilV a0) fun t16_5 =>
 RunA Try.prog (Instr.fieldAt 69 t16_5 5) fun t17_6 =>
 RunU Try.prog (Instr.storeAt 3 t17_6 t15_4) w fun w =>
 RunA Try.prog (nilV a0) fun t19_7 =>
 RunA Try.prog (Instr.fieldAt 69 t19_7 4) fun t20_8 =>
 RunW Try.prog (Instr.loadAt 30 t20_8) w fun t21_9 =>
 RunW Try.prog (Builtin.len_ #[30] 3 #[t21_9]) w fun t22_10 =>
 lp 2 (fun n_13 t6_11 t23_12 w =>
 RunA Try.prog (bin .lss 3 (.tmp 23) (.tmp 22) t23_12 t22_10) fun t24_14 =>
 IfB t24_14 (
 jn 6 (fun t0_15 t1_16 t6_17 t21_18 t22_19 t23_20 w =>
 RunA Try.prog (bin .add 3 (.tmp 23) (.const (.int .i64 1)) t23_20 (.int .i64 1)) fun t46_22 =>
 (t0_15 : Value) = a0 ∧ ((t1_16 : Value) = a1 ∧ ((t21_18 : Value) = t21_9 ∧ ((t22_19 : Value) = t22_10 ∧ (n_13 t6_17 t46_22 w))))) fun j_21 =>
 RunA Try.prog (Instr.indexAt 30 t21_9 t23_12) fun t25_23 =>
 RunW Try.prog (Instr.loadAt 76 t25_23) w fun t26_24 =>
 RunV Try.prog (Instr.alloc 76 true (.tuple #[])) w fun t8_25 w =>
 RunU Try.prog (Instr.storeAt 76 t8_25 t26_24) w fun w =>
 drw (fun S_26 w =>
 RunA Try.prog (Instr.fieldAt 76 t8_25 0) fun t27_27 =>
 RunS Try.prog S_26 (Instr.loadAt 3 t27_27) fun t28_28 =>
 RunA Try.prog (nilV a0) fun t30_29 =>
 RunA Try.prog (Instr.fieldAt 69 t30_29 5) fun t31_30 =>
 RunS Try.prog S_26 (Instr.loadAt 3 t31_30) fun t32_31 =>
 RunS Try.prog S_26 (bin .neq 3 (.tmp 28) (.tmp 32) t28_28 t32_31) fun t33_32 =>
 IfB t33_32 (
 j_21 a0 a1 t6_11 t21_9 t22_10 t23_12 w) (
 RunA Try.prog (Instr.fieldAt 76 t8_25 1) fun t34_33 =>
 RunW Try.prog (Instr.loadAt 3 t34_33) w fun t35_34 =>
 jn 6 (fun t0_35 t1_36 t6_37 t21_38 t22_39 t23_40 w =>
 j_21 t0_35 t1_36 t6_37 t21_38 t22_39 t23_40 w) fun j_41 =>
 RunW Try.prog (bin .eql 3 (.tmp 35) (.const (.int .i64 1)) t35_34 (.int .i64 1)) w fun t37_42 =>
 IfB t37_42 (
 RunA Try.prog (Instr.fieldAt 76 t8_25 2) fun t39_43 =>
 RunW Try.prog (Instr.loadAt 3 t39_43) w fun t40_44 =>
 RunA Try.prog (Instr.fieldAt 76 t8_25 3) fun t41_45 =>
 RunW Try.prog (Instr.loadAt 3 t41_45) w fun t42_46 =>
 CallF Try.prog 28 #[a0, t40_44, t42_46] w fun t43_47 w =>
 j_41 a0 a1 t6_11 t21_9 t22_10 t23_12 w) (
 jn 6 (fun t0_48 t1_49 t6_50 t21_51 t22_52 t23_53 w =>
 j_41 t0_48 t1_49 t6_50 t21_51 t22_52 t23_53 w) fun j_54 =>
 RunW Try.prog (bin .eql 3 (.tmp 35) (.const (.int .i64 2)) t35_34 (.int .i64 2)) w fun t45_55 =>
 IfB t45_55 (
 j_54 a0 a1 (.bool true) t21_9 t22_10 t23_12 w) (
 j_54 a0 a1 t6_11 t21_9 t22_10 t23_12 w)))) w) (
 RunA Try.prog (nilV a0) fun t48_56 =>
 RunA Try.prog (Instr.fieldAt 69 t48_56 6) fun t49_57 =>
 RunW Try.prog (Instr.loadAt 4 t49_57) w fun t50_58 =>
 IfB t50_58 (
 R (.tuple #[t6_11, (.int .i64 9)]) w) (
 RunW Try.prog (Builtin.len_ #[42] 3 #[a1]) w fun t53_59 =>
 lp 1 (fun n_61 t54_60 w =>
 RunA Try.prog (bin .lss 3 (.tmp 54) (.tmp 53) t54_60 t53_59) fun t55_62 =>
 IfB t55_62 (
 RunA Try.prog (Instr.indexAt 42 a1 t54_60) fun t56_63 =>
 RunW Try.prog (Instr.loadAt 9 t56_63) w fun t57_64 =>
 CallF Try.prog 69 #[t57_64] w fun t59_65 w =>
 RunA Try.prog (Op.unary .not t59_65) fun t60_66 =>
 IfB t60_66 (
 R (.tuple #[t6_11, (.int .i64 11)]) w) (
 RunA Try.prog (bin .add 3 (.tmp 54) (.const (.int .i64 1)) t54_60 (.int .i64 1)) fun t62_67 =>
 (t6_11 : Value) = t6_11 ∧ ((a1 : Value) = a1 ∧ ((t53_59 : Value) = t53_59 ∧ (n_61 t62_67 w))))) (
 R (.tuple #[t6_11, (.int .i64 0)]) w)) [(.int .i64 0)] w))) [(.bool false), (.int .i64 0)] w
theorem sh40_calls {a0 a1 : Value} {w : World} {R : Value → World → Prop} (h : sh40 a0 a1 w R) : CallF Try.prog 40 #[a0, a1] w R :=
  calls_of_denF (mk := false) (args := [a0, a1]) (an := (.seq (.ops [0, 1]) (.seq (.ops [0, 1]) (.seq (.ops [0, 1, 6]) (.seq (.seq (.ops [0, 1, 6, 21, 22, 23]) (.blk (.loop [0, 1, 21, 22] [6, 23] (.seq (.ops [0, 1, 6, 21, 22, 23, 24]) (.seq (.cond .leaf .leaf) (.seq (.join [0, 1, 6, 21, 22, 23] (.blk (.seq (.ops [0, 1, 6, 8, 21, 22, 23]) (.seq (.seq (.draw (.q 0 (.q 1 (.q 2 (.q 3 (.q 4 (.q 5 (.q 6 .fin))))))) [0, 1, 6, 8, 21, 22, 23, 33]) (.cond .leaf .leaf)) (.seq (.ops [0, 1, 6, 8, 21, 22, 23, 35]) (.blk (.join [0, 1, 6, 21, 22, 23] (.seq (.ops [0, 1, 6, 8, 21, 22, 23, 35, 36]) (.cond (.ops [0, 1, 6, 21, 22, 23]) (.join [0, 1, 6, 21, 22, 23] (.seq (.ops [0, 1, 6, 21, 22, 23, 44]) (.cond (.ops [0, 1, 6, 21, 22, 23]) .leaf)))))))))))) (.ops [0, 1, 6, 21, 22, 23]))))))) (.seq (.seq (.ops [1, 6, 50]) (.cond (.seq (.ops [4, 5]) .leaf) .leaf)) (.seq (.seq (.ops [6, 52, 53, 54]) (.blk (.loop [6, 52, 53] [54] (.seq (.ops [6, 52, 53, 54, 55]) (.seq (.cond .leaf .leaf) (.seq (.blk (.seq (.ops [6, 10, 52, 53, 54]) (.seq (.ops [6, 52, 53, 54, 60]) (.cond (.seq (.ops [4, 5]) .leaf) .leaf)))) (.ops [6, 52, 53, 54]))))))) (.seq (.ops [4, 5]) .leaf)))))))) (c := Try.f40.body.getD .skip) hent Try.func40 rfl (Nat.le_of_ble_eq_true (by kernel_rfl))
    (Eq.mp (show sh40 a0 a1 w R = denF Try.prog ent false Try.f40 (.seq (.ops [0, 1]) (.seq (.ops [0, 1]) (.seq (.ops [0, 1, 6]) (.seq (.seq (.ops [0, 1, 6, 21, 22, 23]) (.blk (.loop [0, 1, 21, 22] [6, 23] (.seq (.ops [0, 1, 6, 21, 22, 23, 24]) (.seq (.cond .leaf .leaf) (.seq (.join [0, 1, 6, 21, 22, 23] (.blk (.seq (.ops [0, 1, 6, 8, 21, 22, 23]) (.seq (.seq (.draw (.q 0 (.q 1 (.q 2 (.q 3 (.q 4 (.q 5 (.q 6 .fin))))))) [0, 1, 6, 8, 21, 22, 23, 33]) (.cond .leaf .leaf)) (.seq (.ops [0, 1, 6, 8, 21, 22, 23, 35]) (.blk (.join [0, 1, 6, 21, 22, 23] (.seq (.ops [0, 1, 6, 8, 21, 22, 23, 35, 36]) (.cond (.ops [0, 1, 6, 21, 22, 23]) (.join [0, 1, 6, 21, 22, 23] (.seq (.ops [0, 1, 6, 21, 22, 23, 44]) (.cond (.ops [0, 1, 6, 21, 22, 23]) .leaf)))))))))))) (.ops [0, 1, 6, 21, 22, 23]))))))) (.seq (.seq (.ops [1, 6, 50]) (.cond (.seq (.ops [4, 5]) .leaf) .leaf)) (.seq (.seq (.ops [6, 52, 53, 54]) (.blk (.loop [6, 52, 53] [54] (.seq (.ops [6, 52, 53, 54, 55]) (.seq (.cond .leaf .leaf) (.seq (.blk (.seq (.ops [6, 10, 52, 53, 54]) (.seq (.ops [6, 52, 53, 54, 60]) (.cond (.seq (.ops [4, 5]) .leaf) .leaf)))) (.ops [6, 52, 53, 54]))))))) (.seq (.ops [4, 5]) .leaf))))))) (Try.f40.body.getD .skip) [a0, a1] w R by kernel_rfl) h)

/-! ### 41: (*handbill/disk.Disk).there -/
def sh41 (a0 a1 : Value) (w : World) (R : Value → World → Prop) : Prop :=
 RunA Try.prog (nilV a0) fun t9_1 =>
 RunA Try.prog (Instr.fieldAt 69 t9_1 1) fun t10_2 =>
 RunW Try.prog (Instr.loadAt 66 t10_2) w fun t11_3 =>
 RunV Try.prog (Instr.lookup 66 t11_3 a1 true) w fun t13_4 w =>
 RunA Try.prog (Instr.extract t13_4 0) fun t14_5 =>
 RunA Try.prog (Instr.extract t13_4 1) fun t15_6 =>
 R t15_6 w
theorem sh41_calls {a0 a1 : Value} {w : World} {R : Value → World → Prop} (h : sh41 a0 a1 w R) : CallF Try.prog 41 #[a0, a1] w R :=
  calls_of_denF (mk := false) (args := [a0, a1]) (an := (.seq (.ops [0, 1]) (.seq (.ops [6]) (.seq (.ops [4]) .leaf)))) (c := Try.f41.body.getD .skip) hent Try.func41 rfl (Nat.le_of_ble_eq_true (by kernel_rfl))
    (Eq.mp (show sh41 a0 a1 w R = denF Try.prog ent false Try.f41 (.seq (.ops [0, 1]) (.seq (.ops [6]) (.seq (.ops [4]) .leaf))) (Try.f41.body.getD .skip) [a0, a1] w R by kernel_rfl) h)

/-! ### 42: (*handbill/disk.Disk).does -/
def sh42 (a0 a1 : Value) (w : World) (R : Value → World → Prop) : Prop :=
 RunV Try.prog (Instr.box 73 a1) w fun t3_1 w =>
 drw (fun S_2 w =>
 RunA Try.prog (nilV a0) fun t6_3 =>
 RunA Try.prog (Instr.fieldAt 69 t6_3 1) fun t7_4 =>
 RunS Try.prog S_2 (Instr.loadAt 66 t7_4) fun t8_5 =>
 RunS Try.prog S_2 (Instr.loadAt 73 t3_1) fun t9_6 =>
 CallF Try.prog 46 #[t8_5, t9_6] w fun t10_7 w =>
 drw (fun S_8 w =>
 RunA Try.prog (nilV a0) fun t13_9 =>
 RunA Try.prog (Instr.fieldAt 69 t13_9 3) fun t14_10 =>
 RunS Try.prog S_8 (Instr.loadAt 67 t14_10) fun t15_11 =>
 RunS Try.prog S_8 (Instr.loadAt 73 t3_1) fun t16_12 =>
 RunV Try.prog (Instr.buildSlice 67 1 #[(0, t16_12)]) w fun t17_13 w =>
 S_8 w ∧ (
 RunV Try.prog (Builtin.append_ #[67, 67] 67 #[t15_11, t17_13]) w fun t18_14 w =>
 RunA Try.prog (nilV a0) fun t19_15 =>
 RunA Try.prog (Instr.fieldAt 69 t19_15 3) fun t20_16 =>
 RunU Try.prog (Instr.storeAt 67 t20_16 t18_14) w fun w =>
 R (.int .i64 0) w)) w) w
theorem sh42_calls {a0 a1 : Value} {w : World} {R : Value → World → Prop} (h : sh42 a0 a1 w R) : CallF Try.prog 42 #[a0, a1] w R :=
  calls_of_denF (mk := false) (args := [a0, a1]) (an := (.seq (.ops [0, 3]) (.seq (.draw (.q 0 (.q 1 (.q 2 (.q 3 (.q 4 (.one 5 .fin)))))) [0, 3]) (.seq (.draw (.q 0 (.q 1 (.q 2 (.q 3 (.q 4 (.q 5 (.one 6 (.one 7 (.q 8 (.q 9 (.one 10 .fin))))))))))) []) (.seq (.ops [4]) .leaf))))) (c := Try.f42.body.getD .skip) hent Try.func42 rfl (Nat.le_of_ble_eq_true (by kernel_rfl))
    (Eq.mp (show sh42 a0 a1 w R = denF Try.prog ent false Try.f42 (.seq (.ops [0, 3]) (.seq (.draw (.q 0 (.q 1 (.q 2 (.q 3 (.q 4 (.one 5 .fin)))))) [0, 3]) (.seq (.draw (.q 0 (.q 1 (.q 2 (.q 3 (.q 4 (.q 5 (.one 6 (.one 7 (.q 8 (.q 9 (.one 10 .fin))))))))))) []) (.seq (.ops [4]) .leaf)))) (Try.f42.body.getD .skip) [a0, a1] w R by kernel_rfl) h)

/-! ### 43: slices.Values[[]string,string] -/
def sh43 (a0 : Value) (w : World) (R : Value → World → Prop) : Prop :=
 RunV Try.prog (Instr.box 42 a0) w fun t1_1 w =>
 RunV Try.prog (Instr.makeFunc (Go.Fn.func 70) #[] #[t1_1]) w fun t3_2 w =>
 R t3_2 w
theorem sh43_calls {a0 : Value} {w : World} {R : Value → World → Prop} (h : sh43 a0 w R) : CallF Try.prog 43 #[a0] w R :=
  calls_of_denF (mk := false) (args := [a0]) (an := (.seq (.ops [1]) (.seq (.ops [2]) .leaf))) (c := Try.f43.body.getD .skip) hent Try.func43 rfl (Nat.le_of_ble_eq_true (by kernel_rfl))
    (Eq.mp (show sh43 a0 w R = denF Try.prog ent false Try.f43 (.seq (.ops [1]) (.seq (.ops [2]) .leaf)) (Try.f43.body.getD .skip) [a0] w R by kernel_rfl) h)

/-! ### 44: slices.Sorted[string] -/
def sh44 (a0 : Value) (w : World) (R : Value → World → Prop) : Prop :=
 CallF Try.prog 71 #[a0] w fun t5_1 w =>
 CallF Try.prog 72 #[t5_1] w fun t7_2 w =>
 R t5_1 w
theorem sh44_calls {a0 : Value} {w : World} {R : Value → World → Prop} (h : sh44 a0 w R) : CallF Try.prog 44 #[a0] w R :=
  calls_of_denF (mk := false) (args := [a0]) (an := (.seq (.ops [0]) (.seq (.ops [3]) (.seq (.ops [3]) (.seq (.ops [2]) .leaf))))) (c := Try.f44.body.getD .skip) hent Try.func44 rfl (Nat.le_of_ble_eq_true (by kernel_rfl))
    (Eq.mp (show sh44 a0 w R = denF Try.prog ent false Try.f44 (.seq (.ops [0]) (.seq (.ops [3]) (.seq (.ops [3]) (.seq (.ops [2]) .leaf)))) (Try.f44.body.getD .skip) [a0] w R by kernel_rfl) h)

/-! ### 45: maps.Keys[handbill/disk.files,string,[]byte] -/
def sh45 (a0 : Value) (w : World) (R : Value → World → Prop) : Prop :=
 RunV Try.prog (Instr.box 66 a0) w fun t1_1 w =>
 RunV Try.prog (Instr.makeFunc (Go.Fn.func 73) #[] #[t1_1]) w fun t3_2 w =>
 R t3_2 w
theorem sh45_calls {a0 : Value} {w : World} {R : Value → World → Prop} (h : sh45 a0 w R) : CallF Try.prog 45 #[a0] w R :=
  calls_of_denF (mk := false) (args := [a0]) (an := (.seq (.ops [1]) (.seq (.ops [2]) .leaf))) (c := Try.f45.body.getD .skip) hent Try.func45 rfl (Nat.le_of_ble_eq_true (by kernel_rfl))
    (Eq.mp (show sh45 a0 w R = denF Try.prog ent false Try.f45 (.seq (.ops [1]) (.seq (.ops [2]) .leaf)) (Try.f45.body.getD .skip) [a0] w R by kernel_rfl) h)

/-! ### 46: (handbill/disk.files).make -/
def sh46 (a0 a1 : Value) (w : World) (R : Value → World → Prop) : Prop :=
 RunV Try.prog (Instr.box 73 a1) w fun t3_1 w =>
 RunA Try.prog (Instr.fieldAt 73 t3_1 1) fun t6_2 =>
 RunW Try.prog (Instr.loadAt 9 t6_2) w fun t7_3 =>
 RunV Try.prog (Instr.lookup 66 a0 t7_3 false) w fun t8_4 w =>
 RunA Try.prog (Instr.fieldAt 73 t3_1 0) fun t9_5 =>
 RunW Try.prog (Instr.loadAt 3 t9_5) w fun t10_6 =>
 RunW Try.prog (bin .eql 3 (.tmp 10) (.const (.int .i64 0)) t10_6 (.int .i64 0)) w fun t12_7 =>
 IfB t12_7 (
 drw (fun S_8 w =>
 RunA Try.prog (Instr.fieldAt 73 t3_1 1) fun t14_9 =>
 RunS Try.prog S_8 (Instr.loadAt 9 t14_9) fun t15_10 =>
 RunA Try.prog (Instr.fieldAt 73 t3_1 3) fun t18_11 =>
 RunS Try.prog S_8 (Instr.loadAt 29 t18_11) fun t19_12 =>
 CallF Try.prog 39 #[t8_4] w fun t17_13 w =>
 S_8 w ∧ (
 RunV Try.prog (Builtin.append_ #[29, 29] 29 #[t17_13, t19_12]) w fun t20_14 w =>
 S_8 w ∧ (
 RunU Try.prog (Instr.mapUpdate 66 a0 t15_10 t20_14) w fun w =>
 R (.tuple #[]) w))) w) (
 RunW Try.prog (bin .eql 3 (.tmp 10) (.const (.int .i64 1)) t10_6 (.int .i64 1)) w fun t22_15 =>
 IfB t22_15 (
 drw (fun S_16 w =>
 RunA Try.prog (Instr.fieldAt 73 t3_1 1) fun t24_17 =>
 RunS Try.prog S_16 (Instr.loadAt 9 t24_17) fun t25_18 =>
 RunA Try.prog (Instr.fieldAt 73 t3_1 4) fun t27_19 =>
 RunS Try.prog S_16 (Instr.loadAt 3 t27_19) fun t28_20 =>
 RunA Try.prog (Instr.sliceAt 29 t8_4 none (some t28_20) none) fun t29_21 =>
 CallF Try.prog 39 #[t29_21] w fun t30_22 w =>
 S_16 w ∧ (
 RunU Try.prog (Instr.mapUpdate 66 a0 t25_18 t30_22) w fun w =>
 R (.tuple #[]) w)) w) (
 RunW Try.prog (bin .eql 3 (.tmp 10) (.const (.int .i64 2)) t10_6 (.int .i64 2)) w fun t32_23 =>
 IfB t32_23 (
 RunA Try.prog (Instr.fieldAt 73 t3_1 1) fun t34_24 =>
 RunW Try.prog (Instr.loadAt 9 t34_24) w fun t35_25 =>
 RunV Try.prog (Builtin.delete_ #[66, 9] 0 #[a0, t35_25]) w fun t_26 w =>
 RunA Try.prog (Instr.fieldAt 73 t3_1 2) fun t37_27 =>
 RunW Try.prog (Instr.loadAt 9 t37_27) w fun t38_28 =>
 RunU Try.prog (Instr.mapUpdate 66 a0 t38_28 t8_4) w fun w =>
 R (.tuple #[]) w) (
 RunW Try.prog (bin .eql 3 (.tmp 10) (.const (.int .i64 3)) t10_6 (.int .i64 3)) w fun t41_29 =>
 IfB t41_29 (
 RunA Try.prog (Instr.fieldAt 73 t3_1 1) fun t43_30 =>
 RunW Try.prog (Instr.loadAt 9 t43_30) w fun t44_31 =>
 RunV Try.prog (Builtin.delete_ #[66, 9] 0 #[a0, t44_31]) w fun t_32 w =>
 R (.tuple #[]) w) (
 R (.tuple #[]) w))))
theorem sh46_calls {a0 a1 : Value} {w : World} {R : Value → World → Prop} (h : sh46 a0 a1 w R) : CallF Try.prog 46 #[a0, a1] w R :=
  calls_of_denF (mk := false) (args := [a0, a1]) (an := (.seq (.ops [0, 3]) (.seq (.ops [0, 3, 4]) (.seq (.ops [0, 3, 4, 10]) (.blk (.seq (.ops [0, 3, 4, 10, 11]) (.cond (.draw (.q 0 (.q 1 (.q 2 (.q 3 (.q 5 (.q 6 (.one 4 (.one 7 (.one 8 .fin))))))))) []) (.seq (.ops [0, 3, 4, 10, 21]) (.cond (.draw (.q 0 (.q 1 (.q 2 (.q 3 (.q 4 (.q 5 (.q 6 (.one 7 (.one 8 .fin))))))))) []) (.seq (.ops [0, 3, 4, 10, 31]) (.cond (.seq (.ops [0, 3, 4]) (.ops [])) (.seq (.ops [0, 3, 40]) (.cond (.ops []) .leaf))))))))))))) (c := Try.f46.body.getD .skip) hent Try.func46 rfl (Nat.le_of_ble_eq_true (by kernel_rfl))
    (Eq.mp (show sh46 a0 a1 w R = denF Try.prog ent false Try.f46 (.seq (.ops [0, 3]) (.seq (.ops [0, 3, 4]) (.seq (.ops [0, 3, 4, 10]) (.blk (.seq (.ops [0, 3, 4, 10, 11]) (.cond (.draw (.q 0 (.q 1 (.q 2 (.q 3 (.q 5 (.q 6 (.one 4 (.one 7 (.one 8 .fin))))))))) []) (.seq (.ops [0, 3, 4, 10, 21]) (.cond (.draw (.q 0 (.q 1 (.q 2 (.q 3 (.q 4 (.q 5 (.q 6 (.one 7 (.one 8 .fin))))))))) []) (.seq (.ops [0, 3, 4, 10, 31]) (.cond (.seq (.ops [0, 3, 4]) (.ops [])) (.seq (.ops [0, 3, 40]) (.cond (.ops []) .leaf)))))))))))) (Try.f46.body.getD .skip) [a0, a1] w R by kernel_rfl) h)

/-! ### 58: (*handbill/disk.Disk).Plan -/
def sh58 (a0 a1 : Value) (w : World) (R : Value → World → Prop) : Prop :=
 CallF Try.prog 38 #[a1] w fun t6_1 w =>
 RunA Try.prog (nilV a0) fun t7_2 =>
 RunA Try.prog (Instr.fieldAt 69 t7_2 4) fun t8_3 =>
 RunU Try.prog (Instr.storeAt 30 t8_3 t6_1) w fun w =>
 R (.tuple #[]) w
theorem sh58_calls {a0 a1 : Value} {w : World} {R : Value → World → Prop} (h : sh58 a0 a1 w R) : CallF Try.prog 58 #[a0, a1] w R :=
  calls_of_denF (mk := false) (args := [a0, a1]) (an := (.ops [])) (c := Try.f58.body.getD .skip) hent Try.func58 rfl (Nat.le_of_ble_eq_true (by kernel_rfl))
    (Eq.mp (show sh58 a0 a1 w R = denF Try.prog ent false Try.f58 (.ops []) (Try.f58.body.getD .skip) [a0, a1] w R by kernel_rfl) h)

/-! ### 61: (*handbill/disk.Disk).Resize -/
def sh61 (a0 a1 : Value) (w : World) (R : Value → World → Prop) : Prop :=
 CallF Try.prog 35 #[a1] w fun t6_1 w =>
 RunA Try.prog (Op.unary .not t6_1) fun t7_2 =>
 IfB t7_2 (
 R (.bool false) w) (
 RunA Try.prog (nilV a0) fun t10_3 =>
 RunA Try.prog (Instr.fieldAt 69 t10_3 0) fun t11_4 =>
 RunU Try.prog (Instr.storeAt 3 t11_4 a1) w fun w =>
 R (.bool true) w)
theorem sh61_calls {a0 a1 : Value} {w : World} {R : Value → World → Prop} (h : sh61 a0 a1 w R) : CallF Try.prog 61 #[a0, a1] w R :=
  calls_of_denF (mk := false) (args := [a0, a1]) (an := (.seq (.ops [0, 1]) (.seq (.seq (.ops [0, 1, 7]) (.cond (.seq (.ops [4]) .leaf) .leaf)) (.seq (.ops []) (.seq (.ops [4]) .leaf))))) (c := Try.f61.body.getD .skip) hent Try.func61 rfl (Nat.le_of_ble_eq_true (by kernel_rfl))
    (Eq.mp (show sh61 a0 a1 w R = denF Try.prog ent false Try.f61 (.seq (.ops [0, 1]) (.seq (.seq (.ops [0, 1, 7]) (.cond (.seq (.ops [4]) .leaf) .leaf)) (.seq (.ops []) (.seq (.ops [4]) .leaf)))) (Try.f61.body.getD .skip) [a0, a1] w R by kernel_rfl) h)

/-! ### 69: handbill/disk.name -/
def sh69 (a0 : Value) (w : World) (R : Value → World → Prop) : Prop :=
 RunW Try.prog (Builtin.len_ #[9] 3 #[a0]) w fun t6_1 =>
 lp 1 (fun n_3 t7_2 w =>
 RunA Try.prog (bin .lss 3 (.tmp 7) (.tmp 6) t7_2 t6_1) fun t8_4 =>
 IfB t8_4 (
 RunA Try.prog (Instr.index 9 a0 t7_2) fun t12_5 =>
 jn 3 (fun t0_6 t6_7 t7_8 w =>
 RunA Try.prog (bin .add 3 (.tmp 7) (.const (.int .i64 1)) t7_8 (.int .i64 1)) fun t36_10 =>
 (t0_6 : Value) = a0 ∧ ((t6_7 : Value) = t6_1 ∧ (n_3 t36_10 w))) fun j_9 =>
 RunA Try.prog (bin .geq 5 (.tmp 13) (.const (.int .u8 97)) t12_5 (.int .u8 97)) fun t14_11 =>
 IfB t14_11 (
 RunA Try.prog (bin .leq 5 (.tmp 16) (.const (.int .u8 122)) t12_5 (.int .u8 122)) fun t17_12 =>
 IfB t17_12 (
 RunA Try.prog (Op.unary .not (.bool true)) fun t35_13 =>
 IfB t35_13 (
 R (.bool false) w) (
 j_9 a0 t6_1 t7_2 w)) (
 RunA Try.prog (bin .geq 5 (.tmp 20) (.const (.int .u8 48)) t12_5 (.int .u8 48)) fun t21_14 =>
 IfB t21_14 (
 RunA Try.prog (bin .leq 5 (.tmp 23) (.const (.int .u8 57)) t12_5 (.int .u8 57)) fun t24_15 =>
 IfB t24_15 (
 RunA Try.prog (Op.unary .not (.bool true)) fun t35_16 =>
 IfB t35_16 (
 R (.bool false) w) (
 j_9 a0 t6_1 t7_2 w)) (
 RunW Try.prog (bin .eql 5 (.tmp 28) (.const (.int .u8 46)) t12_5 (.int .u8 46)) w fun t29_17 =>
 IfB t29_17 (
 RunA Try.prog (Op.unary .not (.bool true)) fun t35_18 =>
 IfB t35_18 (
 R (.bool false) w) (
 j_9 a0 t6_1 t7_2 w)) (
 RunW Try.prog (bin .eql 5 (.tmp 32) (.const (.int .u8 45)) t12_5 (.int .u8 45)) w fun t33_19 =>
 RunA Try.prog (Op.unary .not t33_19) fun t35_20 =>
 IfB t35_20 (
 R (.bool false) w) (
 j_9 a0 t6_1 t7_2 w)))) (
 RunW Try.prog (bin .eql 5 (.tmp 28) (.const (.int .u8 46)) t12_5 (.int .u8 46)) w fun t29_21 =>
 IfB t29_21 (
 RunA Try.prog (Op.unary .not (.bool true)) fun t35_22 =>
 IfB t35_22 (
 R (.bool false) w) (
 j_9 a0 t6_1 t7_2 w)) (
 RunW Try.prog (bin .eql 5 (.tmp 32) (.const (.int .u8 45)) t12_5 (.int .u8 45)) w fun t33_23 =>
 RunA Try.prog (Op.unary .not t33_23) fun t35_24 =>
 IfB t35_24 (
 R (.bool false) w) (
 j_9 a0 t6_1 t7_2 w))))) (
 RunA Try.prog (bin .geq 5 (.tmp 20) (.const (.int .u8 48)) t12_5 (.int .u8 48)) fun t21_25 =>
 IfB t21_25 (
 RunA Try.prog (bin .leq 5 (.tmp 23) (.const (.int .u8 57)) t12_5 (.int .u8 57)) fun t24_26 =>
 IfB t24_26 (
 RunA Try.prog (Op.unary .not (.bool true)) fun t35_27 =>
 IfB t35_27 (
 R (.bool false) w) (
 j_9 a0 t6_1 t7_2 w)) (
 RunW Try.prog (bin .eql 5 (.tmp 28) (.const (.int .u8 46)) t12_5 (.int .u8 46)) w fun t29_28 =>
 IfB t29_28 (
 RunA Try.prog (Op.unary .not (.bool true)) fun t35_29 =>
 IfB t35_29 (
 R (.bool false) w) (
 j_9 a0 t6_1 t7_2 w)) (
 RunW Try.prog (bin .eql 5 (.tmp 32) (.const (.int .u8 45)) t12_5 (.int .u8 45)) w fun t33_30 =>
 RunA Try.prog (Op.unary .not t33_30) fun t35_31 =>
 IfB t35_31 (
 R (.bool false) w) (
 j_9 a0 t6_1 t7_2 w)))) (
 RunW Try.prog (bin .eql 5 (.tmp 28) (.const (.int .u8 46)) t12_5 (.int .u8 46)) w fun t29_32 =>
 IfB t29_32 (
 RunA Try.prog (Op.unary .not (.bool true)) fun t35_33 =>
 IfB t35_33 (
 R (.bool false) w) (
 j_9 a0 t6_1 t7_2 w)) (
 RunW Try.prog (bin .eql 5 (.tmp 32) (.const (.int .u8 45)) t12_5 (.int .u8 45)) w fun t33_34 =>
 RunA Try.prog (Op.unary .not t33_34) fun t35_35 =>
 IfB t35_35 (
 R (.bool false) w) (
 j_9 a0 t6_1 t7_2 w))))) (
 RunW Try.prog (bin .neq 9 (.tmp 37) (.const (.string ⟨#[]⟩)) a0 (.string ⟨#[]⟩)) w fun t38_36 =>
 IfB t38_36 (
 RunW Try.prog (Builtin.len_ #[9] 3 #[a0]) w fun t41_37 =>
 RunA Try.prog (bin .leq 3 (.tmp 41) (.const (.int .i64 40)) t41_37 (.int .i64 40)) fun t42_38 =>
 R t42_38 w) (
 R (.bool false) w))) [(.int .i64 0)] w
theorem sh69_calls {a0 : Value} {w : World} {R : Value → World → Prop} (h : sh69 a0 w R) : CallF Try.prog 69 #[a0] w R :=
  calls_of_denF (mk := false) (args := [a0]) (an := (.seq (.ops [0]) (.seq (.seq (.ops [0, 6, 7]) (.blk (.loop [0, 6] [7] (.seq (.ops [0, 6, 7, 8]) (.seq (.cond .leaf .leaf) (.seq (.blk (.seq (.ops [0, 3, 6, 7]) (.seq (.ops [0, 4, 6, 7]) (.join [0, 6, 7] (.seq (.ops [0, 6, 7, 35]) (.cond (.seq (.ops [2]) .leaf) .leaf)))))) (.ops [0, 6, 7]))))))) (.seq (.ops [2]) .leaf)))) (c := Try.f69.body.getD .skip) hent Try.func69 rfl (Nat.le_of_ble_eq_true (by kernel_rfl))
    (Eq.mp (show sh69 a0 w R = denF Try.prog ent false Try.f69 (.seq (.ops [0]) (.seq (.seq (.ops [0, 6, 7]) (.blk (.loop [0, 6] [7] (.seq (.ops [0, 6, 7, 8]) (.seq (.cond .leaf .leaf) (.seq (.blk (.seq (.ops [0, 3, 6, 7]) (.seq (.ops [0, 4, 6, 7]) (.join [0, 6, 7] (.seq (.ops [0, 6, 7, 35]) (.cond (.seq (.ops [2]) .leaf) .leaf)))))) (.ops [0, 6, 7]))))))) (.seq (.ops [2]) .leaf))) (Try.f69.body.getD .skip) [a0] w R by kernel_rfl) h)

/-! ### 70: slices.Values[[]string,string]$1 -/
def sh70 (a0 a1 : Value) (w : World) (R : Value → World → Prop) : Prop :=
 RunW Try.prog (Instr.loadAt 42 a1) w fun t5_1 =>
 RunW Try.prog (Builtin.len_ #[42] 3 #[t5_1]) w fun t6_2 =>
 lp 1 (fun n_4 t7_3 w =>
 RunA Try.prog (bin .lss 3 (.tmp 7) (.tmp 6) t7_3 t6_2) fun t8_5 =>
 IfB t8_5 (
 RunA Try.prog (Instr.indexAt 42 t5_1 t7_3) fun t9_6 =>
 RunW Try.prog (Instr.loadAt 9 t9_6) w fun t10_7 =>
 CallV Try.prog a0 #[t10_7] w fun t13_8 w =>
 RunA Try.prog (Op.unary .not t13_8) fun t14_9 =>
 IfB t14_9 (
 R (.tuple #[]) w) (
 RunA Try.prog (bin .add 3 (.tmp 7) (.const (.int .i64 1)) t7_3 (.int .i64 1)) fun t15_10 =>
 (a0 : Value) = a0 ∧ ((t5_1 : Value) = t5_1 ∧ ((t6_2 : Value) = t6_2 ∧ (n_4 t15_10 w))))) (
 R (.tuple #[]) w)) [(.int .i64 0)] w
theorem sh70_calls {a0 a1 : Value} {w : World} {R : Value → World → Prop} (h : sh70 a0 a1 w R) : CallF Try.prog 70 #[a0, a1] w R :=
  calls_of_denF (mk := false) (args := [a0, a1]) (an := (.seq (.ops [0, 5, 6, 7]) (.blk (.loop [0, 5, 6] [7] (.seq (.ops [0, 5, 6, 7, 8]) (.seq (.cond .leaf .leaf) (.seq (.blk (.seq (.ops [0, 4, 5, 6, 7]) (.seq (.ops [0, 5, 6, 7, 14]) (.cond .leaf .leaf)))) (.ops [0, 5, 6, 7])))))))) (c := Try.f70.body.getD .skip) hent Try.func70 rfl (Nat.le_of_ble_eq_true (by kernel_rfl))
    (Eq.mp (show sh70 a0 a1 w R = denF Try.prog ent false Try.f70 (.seq (.ops [0, 5, 6, 7]) (.blk (.loop [0, 5, 6] [7] (.seq (.ops [0, 5, 6, 7, 8]) (.seq (.cond .leaf .leaf) (.seq (.blk (.seq (.ops [0, 4, 5, 6, 7]) (.seq (.ops [0, 5, 6, 7, 14]) (.cond .leaf .leaf)))) (.ops [0, 5, 6, 7]))))))) (Try.f70.body.getD .skip) [a0, a1] w R by kernel_rfl) h)

/-! ### 71: slices.Collect[string] -/
def sh71 (a0 : Value) (w : World) (R : Value → World → Prop) : Prop :=
 CallF Try.prog 81 #[(.slice none 0 0), a0] w fun t4_1 w =>
 R t4_1 w
theorem sh71_calls {a0 : Value} {w : World} {R : Value → World → Prop} (h : sh71 a0 w R) : CallF Try.prog 71 #[a0] w R :=
  calls_of_denF (mk := false) (args := [a0]) (an := (.seq (.ops [0]) (.seq (.ops [2]) .leaf))) (c := Try.f71.body.getD .skip) hent Try.func71 rfl (Nat.le_of_ble_eq_true (by kernel_rfl))
    (Eq.mp (show sh71 a0 w R = denF Try.prog ent false Try.f71 (.seq (.ops [0]) (.seq (.ops [2]) .leaf)) (Try.f71.body.getD .skip) [a0] w R by kernel_rfl) h)

/-! ### 73: maps.Keys[handbill/disk.files,string,[]byte]$1 -/
def sh73 (a0 a1 : Value) (w : World) (R : Value → World → Prop) : Prop :=
 RunW Try.prog (Instr.loadAt 66 a1) w fun t4_1 =>
 RunV Try.prog (Instr.range 66 t4_1) w fun t5_2 w =>
 lp 0 (fun n_3 w =>
 RunV Try.prog (Instr.next t5_2 false 0) w fun t6_4 w =>
 RunA Try.prog (Instr.extract t6_4 0) fun t7_5 =>
 IfB t7_5 (
 RunV Try.prog (Instr.entry t5_2) w fun t8_6 w =>
 RunA Try.prog (Instr.extract t8_6 0) fun t9_7 =>
 CallV Try.prog a0 #[t9_7] w fun t12_8 w =>
 RunA Try.prog (Op.unary .not t12_8) fun t13_9 =>
 IfB t13_9 (
 R (.tuple #[]) w) (
 (a0 : Value) = a0 ∧ ((t5_2 : Value) = t5_2 ∧ (n_3 w)))) (
 R (.tuple #[]) w)) [] w
theorem sh73_calls {a0 a1 : Value} {w : World} {R : Value → World → Prop} (h : sh73 a0 a1 w R) : CallF Try.prog 73 #[a0, a1] w R :=
  calls_of_denF (mk := false) (args := [a0, a1]) (an := (.seq (.ops [0, 5]) (.blk (.loop [0, 5] [] (.seq (.ops [0, 5, 7]) (.seq (.cond .leaf .leaf) (.blk (.seq (.ops [0, 3, 5]) (.seq (.ops [0, 5, 13]) (.cond .leaf .leaf)))))))))) (c := Try.f73.body.getD .skip) hent Try.func73 rfl (Nat.le_of_ble_eq_true (by kernel_rfl))
    (Eq.mp (show sh73 a0 a1 w R = denF Try.prog ent false Try.f73 (.seq (.ops [0, 5]) (.blk (.loop [0, 5] [] (.seq (.ops [0, 5, 7]) (.seq (.cond .leaf .leaf) (.blk (.seq (.ops [0, 3, 5]) (.seq (.ops [0, 5, 13]) (.cond .leaf .leaf))))))))) (Try.f73.body.getD .skip) [a0, a1] w R by kernel_rfl) h)

/-! ### 81: slices.AppendSeq[[]string,string] -/
def sh81 (a0 a1 : Value) (w : World) (R : Value → World → Prop) : Prop :=
 RunV Try.prog (Instr.box 42 a0) w fun t2_1 w =>
 rngP Try.prog none 1 2 (fun l_2 K_3 t7_9 w =>
 K_3 t2_1 t7_9 w) (fun l_2 kn_4 ks_5 t2_10 t5_11 w =>
 RunW Try.prog (Instr.loadAt 42 t2_10) w fun t8_12 =>
 RunV Try.prog (Instr.buildSlice 42 1 #[(0, t5_11)]) w fun t10_13 w =>
 RunV Try.prog (Builtin.append_ #[42, 42] 42 #[t8_12, t10_13]) w fun t11_14 w =>
 RunU Try.prog (Instr.storeAt 42 t2_10 t11_14) w fun w =>
 kn_4 w) a1 w (fun D_6 w =>
 RunW Try.prog (Instr.loadAt 42 t2_1) w fun t12_15 =>
 (w).heap[D_6]? = some (.deferred (some [])) ∧ (
 R t12_15 (w.putObj D_6 (.deferred none)))) (fun D_6 c_7 w => jumpK (fun i_8 w =>
 bif Nat.beq i_8 0 then (
 RunW Try.prog (Instr.loadAt 42 t2_1) w fun t12_16 =>
 (w).heap[D_6]? = some (.deferred (some [])) ∧ (
 R t12_16 (w.putObj D_6 (.deferred none)))) else (
 False)) (fun w =>
 (w).heap[D_6]? = some (.deferred (some [])) ∧ (
 False)) c_7 w)
theorem sh81_calls {a0 a1 : Value} {w : World} {R : Value → World → Prop} (h : sh81 a0 a1 w R) : CallF Try.prog 81 #[a0, a1] w R :=
  calls_of_denF (mk := true) (args := [a0, a1]) (an := (.seq (.ops [1, 2]) (.seq (.seq (.ops [2, 6]) (.blk (.rng [2, 5] (.ops [2, 5]) (.blk (.ops []))))) (.seq (.ops [4]) .leaf)))) (c := Try.f81.body.getD .skip) hent Try.func81 rfl (Nat.le_of_ble_eq_true (by kernel_rfl))
    (Eq.mp (show sh81 a0 a1 w R = denF Try.prog ent true Try.f81 (.seq (.ops [1, 2]) (.seq (.seq (.ops [2, 6]) (.blk (.rng [2, 5] (.ops [2, 5]) (.blk (.ops []))))) (.seq (.ops [4]) .leaf))) (Try.f81.body.getD .skip) [a0, a1] w R by kernel_rfl) h)

end Go.Proofs.Ytdoopdbfajgnjaa
