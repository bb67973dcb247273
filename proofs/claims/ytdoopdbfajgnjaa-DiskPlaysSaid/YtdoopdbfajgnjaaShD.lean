/-
  The shallow forms of the functions, printed by a program (ez.py) out of Lean's print of the loaded functions; each is proved to imply the function's contract: the equations are the kernel's.
-/
import Derived.Test.YtdoopdbfajgnjaaProg
import Derived.Test.YtdoopdbfajgnjaaEzSound
namespace Go.Proofs.Ytdoopdbfajgnjaa
open Go Go.Ez
set_option linter.unusedVariables false
set_option maxRecDepth 100000
def entD : List Nat := [8, 9, 10, 11, 12, 13, 14, 15, 16, 18, 19, 20, 22, 23, 25, 26, 28, 29, 30, 31, 32, 33, 34, 39, 40, 41, 44, 45, 47, 48, 49, 50, 51, 52, 53, 54, 55, 56, 57, 58, 59, 60, 61, 62, 63, 64, 65, 66, 67, 74, 75, 76, 77, 78, 79, 80, 84, 85]
theorem hentD : ∀ g, memN g entD = true → Enters Try.prog g := enters_all (by kernel_rfl)

/-! ### 7: handbill/hbllaw8.DiskPlays -/
def sh7 (a0 a1 : Value) (w : World) (R : Value → World → Prop) : Prop :=
 CallF Try.prog 8 #[] w fun t11_1 w =>
 RunA Try.prog (Op.unary .not t11_1) fun t12_2 =>
 IfB t12_2 (
 R (.bool false) w) (
 CallF Try.prog 9 #[a1] w fun t14_3 w =>
 RunA Try.prog (Op.unary .not t14_3) fun t15_4 =>
 IfB t15_4 (
 CallF Try.prog 8 #[] w fun t16_5 w =>
 R t16_5 w) (
 CallF Try.prog 10 #[a0] w fun t19_6 w =>
 RunA Try.prog (Instr.extract t19_6 0) fun t20_7 =>
 RunA Try.prog (Instr.extract t19_6 1) fun t21_8 =>
 CallF Try.prog 32 #[a0] w fun t24_9 w =>
 RunA Try.prog (Instr.extract t24_9 0) fun t25_10 =>
 RunA Try.prog (Instr.extract t24_9 1) fun t26_11 =>
 RunW Try.prog (bin .neq 26 (.tmp 27) (.tmp 28) t21_8 t26_11) w fun t29_12 =>
 IfB t29_12 (
 R (.bool false) w) (
 RunW Try.prog (bin .eql 25 (.tmp 31) (.const (.pointer none)) t20_7 (.pointer none)) w fun t32_13 =>
 RunW Try.prog (bin .eql 59 (.tmp 33) (.const (.pointer none)) t25_10 (.pointer none)) w fun t34_14 =>
 RunW Try.prog (bin .neq 4 (.tmp 32) (.tmp 34) t32_13 t34_14) w fun t35_15 =>
 IfB t35_15 (
 R (.bool false) w) (
 jn 0 (fun w =>
 CallF Try.prog 8 #[] w fun t88_17 w =>
 R t88_17 w) fun j_16 =>
 lp 2 (fun n_20 t5_18 t9_19 w =>
 RunW Try.prog (bin .neq 59 (.tmp 37) (.const (.pointer none)) t25_10 (.pointer none)) w fun t38_21 =>
 IfB t38_21 (
 RunW Try.prog (Builtin.len_ #[22] 3 #[a1]) w fun t42_22 =>
 RunA Try.prog (bin .lss 3 (.tmp 40) (.tmp 42) t9_19 t42_22) fun t43_23 =>
 IfB t43_23 (
 jn 4 (fun t1_24 t5_25 t7_26 t9_27 w =>
 RunW Try.prog (bin .eql 25 (.tmp 70) (.const (.pointer none)) t5_25 (.pointer none)) w fun t71_29 =>
 IfB t71_29 (
 R (.bool false) w) (
 RunA Try.prog (Instr.indexAt 22 t1_24 t9_27) fun t77_30 =>
 RunW Try.prog (Instr.loadAt 32 t77_30) w fun t78_31 =>
 CallF Try.prog 33 #[t5_25, t7_26, t78_31] w fun t79_32 w =>
 RunA Try.prog (Op.unary .not t79_32) fun t80_33 =>
 IfB t80_33 (
 R (.bool false) w) (
 CallF Try.prog 34 #[t5_25, t7_26] w fun t85_34 w =>
 RunA Try.prog (Op.unary .not t85_34) fun t86_35 =>
 IfB t86_35 (
 R (.bool false) w) (
 RunA Try.prog (bin .add 3 (.tmp 45) (.const (.int .i64 1)) t9_27 (.int .i64 1)) fun t46_36 =>
 (t1_24 : Value) = a1 ∧ ((t7_26 : Value) = t25_10 ∧ (n_20 t5_25 t46_36 w)))))) fun j_28 =>
 RunA Try.prog (Instr.indexAt 22 a1 t9_19) fun t49_37 =>
 RunA Try.prog (Instr.fieldAt 32 t49_37 0) fun t50_38 =>
 RunW Try.prog (Instr.loadAt 3 t50_38) w fun t51_39 =>
 RunA Try.prog (bin .lss 3 (.tmp 51) (.const (.int .i64 0)) t51_39 (.int .i64 0)) fun t52_40 =>
 IfB t52_40 (
 CallF Try.prog 11 #[t5_18] w fun t62_41 w =>
 RunV Try.prog (Instr.buildSlice 29 6 #[(0, (.int .u8 115)), (1, (.int .u8 112)), (2, (.int .u8 111)), (3, (.int .u8 105)), (4, (.int .u8 108)), (5, (.int .u8 116))]) w fun t64_42 w =>
 RunV Try.prog (convert 29 29 t64_42) w fun t65_43 w =>
 CallF Try.prog 14 #[t5_18, (.string ⟨#[113]⟩), t65_43] w fun t66_44 w =>
 CallF Try.prog 28 #[t5_18, (.int .i64 0), (.int .i64 0)] w fun t68_45 w =>
 j_28 a1 t62_41 t25_10 t9_19 w) (
 RunA Try.prog (Instr.indexAt 22 a1 t9_19) fun t56_46 =>
 RunA Try.prog (Instr.fieldAt 32 t56_46 0) fun t57_47 =>
 RunW Try.prog (Instr.loadAt 3 t57_47) w fun t58_48 =>
 RunA Try.prog (bin .gtr 3 (.tmp 58) (.const (.int .i64 10)) t58_48 (.int .i64 10)) fun t59_49 =>
 IfB t59_49 (
 CallF Try.prog 11 #[t5_18] w fun t62_50 w =>
 RunV Try.prog (Instr.buildSlice 29 6 #[(0, (.int .u8 115)), (1, (.int .u8 112)), (2, (.int .u8 111)), (3, (.int .u8 105)), (4, (.int .u8 108)), (5, (.int .u8 116))]) w fun t64_51 w =>
 RunV Try.prog (convert 29 29 t64_51) w fun t65_52 w =>
 CallF Try.prog 14 #[t5_18, (.string ⟨#[113]⟩), t65_52] w fun t66_53 w =>
 CallF Try.prog 28 #[t5_18, (.int .i64 0), (.int .i64 0)] w fun t68_54 w =>
 j_28 a1 t62_50 t25_10 t9_19 w) (
 j_28 a1 t5_18 t25_10 t9_19 w))) (
 j_16 w)) (
 j_16 w)) [t20_7, (.int .i64 0)] w))))
theorem sh7_calls {a0 a1 : Value} {w : World} {R : Value → World → Prop} (h : sh7 a0 a1 w R) : CallF Try.prog 7 #[a0, a1] w R :=
  calls_of_denF (mk := false) (args := [a0, a1]) (an := (.seq (.ops [0, 1]) (.seq (.seq (.ops [0, 1, 12]) (.cond (.seq (.ops [4]) .leaf) .leaf)) (.seq (.seq (.ops [0, 1, 15]) (.cond (.seq (.ops [4]) .leaf) .leaf)) (.seq (.ops [0, 1, 5, 6]) (.seq (.ops [1, 5, 6, 7, 8]) (.seq (.seq (.ops [1, 5, 7, 36]) (.cond (.seq (.ops [4]) .leaf) .leaf)) (.seq (.seq (.ops [1, 5, 7, 9]) (.join [] (.blk (.loop [1, 7] [5, 9] (.seq (.seq (.ops [1, 5, 7, 9, 44]) (.cond .leaf .leaf)) (.seq (.blk (.seq (.join [1, 5, 7, 9] (.seq (.ops [1, 5, 7, 9, 60]) (.cond (.seq (.ops [1, 5, 7, 9, 10]) (.seq (.ops [1, 5, 7, 9, 10]) (.seq (.ops [1, 7, 9, 10]) (.ops [1, 5, 7, 9])))) .leaf))) (.seq (.ops [1, 5, 7, 9, 87]) (.cond (.seq (.ops [4]) .leaf) .leaf)))) (.ops [1, 5, 7, 9]))))))) (.seq (.ops [4]) .leaf))))))))) (c := Try.f7.body.getD .skip) hentD Try.func7 rfl (Nat.le_of_ble_eq_true (by kernel_rfl))
    (Eq.mp (show sh7 a0 a1 w R = denF Try.prog entD false Try.f7 (.seq (.ops [0, 1]) (.seq (.seq (.ops [0, 1, 12]) (.cond (.seq (.ops [4]) .leaf) .leaf)) (.seq (.seq (.ops [0, 1, 15]) (.cond (.seq (.ops [4]) .leaf) .leaf)) (.seq (.ops [0, 1, 5, 6]) (.seq (.ops [1, 5, 6, 7, 8]) (.seq (.seq (.ops [1, 5, 7, 36]) (.cond (.seq (.ops [4]) .leaf) .leaf)) (.seq (.seq (.ops [1, 5, 7, 9]) (.join [] (.blk (.loop [1, 7] [5, 9] (.seq (.seq (.ops [1, 5, 7, 9, 44]) (.cond .leaf .leaf)) (.seq (.blk (.seq (.join [1, 5, 7, 9] (.seq (.ops [1, 5, 7, 9, 60]) (.cond (.seq (.ops [1, 5, 7, 9, 10]) (.seq (.ops [1, 5, 7, 9, 10]) (.seq (.ops [1, 7, 9, 10]) (.ops [1, 5, 7, 9])))) .leaf))) (.seq (.ops [1, 5, 7, 9, 87]) (.cond (.seq (.ops [4]) .leaf) .leaf)))) (.ops [1, 5, 7, 9]))))))) (.seq (.ops [4]) .leaf)))))))) (Try.f7.body.getD .skip) [a0, a1] w R by kernel_rfl) h)

/-! ### 32: handbill/hblref8.New -/
def sh32 (a0 : Value) (w : World) (R : Value → World → Prop) : Prop :=
 RunA Try.prog (bin .lss 3 (.tmp 4) (.const (.int .i64 0)) a0 (.int .i64 0)) fun t5_1 =>
 IfB t5_1 (
 R (.tuple #[(.pointer none), (.int .i64 1)]) w) (
 RunA Try.prog (bin .gtr 3 (.tmp 7) (.const (.int .i64 1073741824)) a0 (.int .i64 1073741824)) fun t8_2 =>
 IfB t8_2 (
 R (.tuple #[(.pointer none), (.int .i64 1)]) w) (
 RunV Try.prog (Instr.build 88 #[(0, a0)]) w fun t11_3 w =>
 RunV Try.prog (Instr.box 88 t11_3) w fun t12_4 w =>
 R (.tuple #[t12_4, (.int .i64 0)]) w))
theorem sh32_calls {a0 : Value} {w : World} {R : Value → World → Prop} (h : sh32 a0 w R) : CallF Try.prog 32 #[a0] w R :=
  calls_of_denF (mk := false) (args := [a0]) (an := (.seq (.ops [0]) (.seq (.seq (.ops [0, 9]) (.cond (.seq (.ops [2, 3]) .leaf) .leaf)) (.seq (.ops [2, 3]) .leaf)))) (c := Try.f32.body.getD .skip) hentD Try.func32 rfl (Nat.le_of_ble_eq_true (by kernel_rfl))
    (Eq.mp (show sh32 a0 w R = denF Try.prog entD false Try.f32 (.seq (.ops [0]) (.seq (.seq (.ops [0, 9]) (.cond (.seq (.ops [2, 3]) .leaf) .leaf)) (.seq (.ops [2, 3]) .leaf))) (Try.f32.body.getD .skip) [a0] w R by kernel_rfl) h)

/-! ### 33: handbill/hbllaw8.Does -/
def sh33 (a0 a1 a2 : Value) (w : World) (R : Value → World → Prop) : Prop :=
 RunV Try.prog (Instr.box 32 a2) w fun t5_1 w =>
 RunA Try.prog (Instr.fieldAt 32 t5_1 0) fun t21_2 =>
 RunW Try.prog (Instr.loadAt 3 t21_2) w fun t22_3 =>
 jn 1 (fun t7_4 w =>
 R t7_4 w) fun j_5 =>
 RunW Try.prog (bin .eql 3 (.tmp 22) (.const (.int .i64 0)) t22_3 (.int .i64 0)) w fun t24_6 =>
 IfB t24_6 (
 RunA Try.prog (Instr.fieldAt 32 t5_1 3) fun t27_7 =>
 RunW Try.prog (Instr.loadAt 9 t27_7) w fun t28_8 =>
 CallF Try.prog 47 #[a0, t28_8] w fun t29_9 w =>
 RunA Try.prog (Instr.extract t29_9 0) fun t30_10 =>
 RunA Try.prog (Instr.extract t29_9 1) fun t31_11 =>
 RunA Try.prog (Instr.fieldAt 32 t5_1 3) fun t34_12 =>
 RunW Try.prog (Instr.loadAt 9 t34_12) w fun t35_13 =>
 CallF Try.prog 48 #[a1, t35_13] w fun t36_14 w =>
 RunA Try.prog (Instr.extract t36_14 0) fun t37_15 =>
 RunA Try.prog (Instr.extract t36_14 1) fun t38_16 =>
 jn 2 (fun t7_17 t8_18 w =>
 lp 1 (fun n_21 t12_20 w =>
 RunW Try.prog (Builtin.len_ #[29] 3 #[t8_18]) w fun t49_22 =>
 RunA Try.prog (bin .lss 3 (.tmp 47) (.tmp 49) t12_20 t49_22) fun t50_23 =>
 IfB t50_23 (
 RunA Try.prog (Instr.indexAt 29 t8_18 t12_20) fun t55_24 =>
 RunW Try.prog (Instr.loadAt 5 t55_24) w fun t56_25 =>
 RunA Try.prog (bin .add 5 (.tmp 56) (.const (.int .u8 1)) t56_25 (.int .u8 1)) fun t57_26 =>
 RunA Try.prog (Instr.indexAt 29 t8_18 t12_20) fun t58_27 =>
 RunU Try.prog (Instr.storeAt 5 t58_27 t57_26) w fun w =>
 RunA Try.prog (bin .add 3 (.tmp 51) (.const (.int .i64 1)) t12_20 (.int .i64 1)) fun t52_28 =>
 (t7_17 : Value) = t7_17 ∧ ((t8_18 : Value) = t8_18 ∧ (n_21 t52_28 w))) (
 j_5 t7_17 w)) [(.int .i64 0)] w) fun j_19 =>
 CallF Try.prog 15 #[t30_10, t37_15] w fun t41_29 w =>
 IfB t41_29 (
 RunW Try.prog (bin .eql 26 (.tmp 43) (.tmp 44) t31_11 t38_16) w fun t45_30 =>
 j_19 t45_30 t30_10 w) (
 j_19 (.bool false) t30_10 w)) (
 jn 1 (fun t7_31 w =>
 j_5 t7_31 w) fun j_32 =>
 RunW Try.prog (bin .eql 3 (.tmp 22) (.const (.int .i64 1)) t22_3 (.int .i64 1)) w fun t60_33 =>
 IfB t60_33 (
 CallF Try.prog 49 #[a0] w fun t63_34 w =>
 RunA Try.prog (Instr.extract t63_34 0) fun t64_35 =>
 RunA Try.prog (Instr.extract t63_34 1) fun t65_36 =>
 CallF Try.prog 50 #[a1] w fun t68_37 w =>
 RunA Try.prog (Instr.extract t68_37 0) fun t69_38 =>
 RunA Try.prog (Instr.extract t68_37 1) fun t70_39 =>
 jn 1 (fun t7_40 w =>
 j_32 t7_40 w) fun j_41 =>
 CallF Try.prog 23 #[t64_35, t69_38] w fun t73_42 w =>
 IfB t73_42 (
 RunW Try.prog (bin .eql 26 (.tmp 75) (.tmp 76) t65_36 t70_39) w fun t77_43 =>
 j_41 t77_43 w) (
 j_41 (.bool false) w)) (
 jn 1 (fun t7_44 w =>
 j_32 t7_44 w) fun j_45 =>
 RunW Try.prog (bin .eql 3 (.tmp 22) (.const (.int .i64 2)) t22_3 (.int .i64 2)) w fun t80_46 =>
 IfB t80_46 (
 RunA Try.prog (Instr.fieldAt 32 t5_1 5) fun t81_47 =>
 RunW Try.prog (Instr.loadAt 29 t81_47) w fun t82_48 =>
 CallF Try.prog 16 #[t82_48] w fun t83_49 w =>
 drw (fun S_50 w =>
 RunA Try.prog (Instr.fieldAt 32 t5_1 3) fun t85_51 =>
 RunS Try.prog S_50 (Instr.loadAt 9 t85_51) fun t86_52 =>
 RunA Try.prog (Instr.fieldAt 32 t5_1 3) fun t90_53 =>
 RunS Try.prog S_50 (Instr.loadAt 9 t90_53) fun t91_54 =>
 RunA Try.prog (Instr.fieldAt 32 t5_1 5) fun t92_55 =>
 RunS Try.prog S_50 (Instr.loadAt 29 t92_55) fun t93_56 =>
 CallF Try.prog 14 #[a0, t86_52, t83_49] w fun t88_57 w =>
 S_50 w ∧ (
 CallF Try.prog 51 #[a1, t91_54, t93_56] w fun t94_58 w =>
 S_50 w ∧ (
 RunS Try.prog S_50 (bin .eql 26 (.tmp 88) (.tmp 94) t88_57 t94_58) fun t95_59 =>
 lp 1 (fun n_61 t18_60 w =>
 RunW Try.prog (Builtin.len_ #[29] 3 #[t83_49]) w fun t98_62 =>
 RunA Try.prog (bin .lss 3 (.tmp 96) (.tmp 98) t18_60 t98_62) fun t99_63 =>
 IfB t99_63 (
 RunA Try.prog (Instr.indexAt 29 t83_49 t18_60) fun t104_64 =>
 RunW Try.prog (Instr.loadAt 5 t104_64) w fun t105_65 =>
 RunA Try.prog (bin .add 5 (.tmp 105) (.const (.int .u8 1)) t105_65 (.int .u8 1)) fun t106_66 =>
 RunA Try.prog (Instr.indexAt 29 t83_49 t18_60) fun t107_67 =>
 RunU Try.prog (Instr.storeAt 5 t107_67 t106_66) w fun w =>
 RunA Try.prog (bin .add 3 (.tmp 100) (.const (.int .i64 1)) t18_60 (.int .i64 1)) fun t101_68 =>
 (t95_59 : Value) = t95_59 ∧ ((t83_49 : Value) = t83_49 ∧ (n_61 t101_68 w))) (
 j_45 t95_59 w)) [(.int .i64 0)] w))) w) (
 jn 1 (fun t7_69 w =>
 j_45 t7_69 w) fun j_70 =>
 RunW Try.prog (bin .eql 3 (.tmp 22) (.const (.int .i64 3)) t22_3 (.int .i64 3)) w fun t109_71 =>
 IfB t109_71 (
 drw (fun S_72 w =>
 RunA Try.prog (Instr.fieldAt 32 t5_1 3) fun t111_73 =>
 RunS Try.prog S_72 (Instr.loadAt 9 t111_73) fun t112_74 =>
 RunA Try.prog (Instr.fieldAt 32 t5_1 1) fun t113_75 =>
 RunS Try.prog S_72 (Instr.loadAt 3 t113_75) fun t114_76 =>
 RunA Try.prog (Instr.fieldAt 32 t5_1 3) fun t117_77 =>
 RunS Try.prog S_72 (Instr.loadAt 9 t117_77) fun t118_78 =>
 RunA Try.prog (Instr.fieldAt 32 t5_1 1) fun t119_79 =>
 RunS Try.prog S_72 (Instr.loadAt 3 t119_79) fun t120_80 =>
 CallF Try.prog 18 #[a0, t112_74, t114_76] w fun t115_81 w =>
 S_72 w ∧ (
 CallF Try.prog 52 #[a1, t118_78, t120_80] w fun t121_82 w =>
 S_72 w ∧ (
 RunS Try.prog S_72 (bin .eql 26 (.tmp 115) (.tmp 121) t115_81 t121_82) fun t122_83 =>
 j_70 t122_83 w))) w) (
 jn 1 (fun t7_84 w =>
 j_70 t7_84 w) fun j_85 =>
 RunW Try.prog (bin .eql 3 (.tmp 22) (.const (.int .i64 4)) t22_3 (.int .i64 4)) w fun t124_86 =>
 IfB t124_86 (
 drw (fun S_87 w =>
 RunA Try.prog (Instr.fieldAt 32 t5_1 3) fun t126_88 =>
 RunS Try.prog S_87 (Instr.loadAt 9 t126_88) fun t127_89 =>
 RunA Try.prog (Instr.fieldAt 32 t5_1 4) fun t128_90 =>
 RunS Try.prog S_87 (Instr.loadAt 9 t128_90) fun t129_91 =>
 RunA Try.prog (Instr.fieldAt 32 t5_1 3) fun t132_92 =>
 RunS Try.prog S_87 (Instr.loadAt 9 t132_92) fun t133_93 =>
 RunA Try.prog (Instr.fieldAt 32 t5_1 4) fun t134_94 =>
 RunS Try.prog S_87 (Instr.loadAt 9 t134_94) fun t135_95 =>
 CallF Try.prog 22 #[a0, t127_89, t129_91] w fun t130_96 w =>
 S_87 w ∧ (
 CallF Try.prog 53 #[a1, t133_93, t135_95] w fun t136_97 w =>
 S_87 w ∧ (
 RunS Try.prog S_87 (bin .eql 26 (.tmp 130) (.tmp 136) t130_96 t136_97) fun t137_98 =>
 j_85 t137_98 w))) w) (
 jn 1 (fun t7_99 w =>
 j_85 t7_99 w) fun j_100 =>
 RunW Try.prog (bin .eql 3 (.tmp 22) (.const (.int .i64 5)) t22_3 (.int .i64 5)) w fun t139_101 =>
 IfB t139_101 (
 drw (fun S_102 w =>
 RunA Try.prog (Instr.fieldAt 32 t5_1 3) fun t141_103 =>
 RunS Try.prog S_102 (Instr.loadAt 9 t141_103) fun t142_104 =>
 RunA Try.prog (Instr.fieldAt 32 t5_1 3) fun t145_105 =>
 RunS Try.prog S_102 (Instr.loadAt 9 t145_105) fun t146_106 =>
 CallF Try.prog 25 #[a0, t142_104] w fun t143_107 w =>
 S_102 w ∧ (
 CallF Try.prog 54 #[a1, t146_106] w fun t147_108 w =>
 S_102 w ∧ (
 RunS Try.prog S_102 (bin .eql 26 (.tmp 143) (.tmp 147) t143_107 t147_108) fun t148_109 =>
 j_100 t148_109 w))) w) (
 jn 1 (fun t7_110 w =>
 j_100 t7_110 w) fun j_111 =>
 RunW Try.prog (bin .eql 3 (.tmp 22) (.const (.int .i64 6)) t22_3 (.int .i64 6)) w fun t150_112 =>
 IfB t150_112 (
 CallF Try.prog 26 #[a0] w fun t152_113 w =>
 CallF Try.prog 55 #[a1] w fun t154_114 w =>
 RunW Try.prog (bin .eql 26 (.tmp 152) (.tmp 154) t152_113 t154_114) w fun t155_115 =>
 j_111 t155_115 w) (
 jn 1 (fun t7_116 w =>
 j_111 t7_116 w) fun j_117 =>
 RunW Try.prog (bin .eql 3 (.tmp 22) (.const (.int .i64 7)) t22_3 (.int .i64 7)) w fun t157_118 =>
 IfB t157_118 (
 RunA Try.prog (Instr.fieldAt 32 t5_1 1) fun t159_119 =>
 RunW Try.prog (Instr.loadAt 3 t159_119) w fun t160_120 =>
 RunA Try.prog (Instr.fieldAt 32 t5_1 2) fun t161_121 =>
 RunW Try.prog (Instr.loadAt 3 t161_121) w fun t162_122 =>
 CallF Try.prog 28 #[a0, t160_120, t162_122] w fun t163_123 w =>
 RunA Try.prog (Instr.fieldAt 32 t5_1 1) fun t165_124 =>
 RunW Try.prog (Instr.loadAt 3 t165_124) w fun t166_125 =>
 RunA Try.prog (Instr.fieldAt 32 t5_1 2) fun t167_126 =>
 RunW Try.prog (Instr.loadAt 3 t167_126) w fun t168_127 =>
 CallF Try.prog 56 #[a1, t166_125, t168_127] w fun t169_128 w =>
 j_117 (.bool true) w) (
 jn 1 (fun t7_129 w =>
 j_117 t7_129 w) fun j_130 =>
 RunW Try.prog (bin .eql 3 (.tmp 22) (.const (.int .i64 8)) t22_3 (.int .i64 8)) w fun t171_131 =>
 IfB t171_131 (
 CallF Try.prog 30 #[a0] w fun t173_132 w =>
 CallF Try.prog 57 #[a1] w fun t175_133 w =>
 j_130 (.bool true) w) (
 jn 1 (fun t7_134 w =>
 j_130 t7_134 w) fun j_135 =>
 RunW Try.prog (bin .eql 3 (.tmp 22) (.const (.int .i64 9)) t22_3 (.int .i64 9)) w fun t177_136 =>
 IfB t177_136 (
 RunV Try.prog (Instr.buildSlice 30 0 #[]) w fun t178_137 w =>
 RunA Try.prog (Instr.fieldAt 32 t5_1 6) fun t179_138 =>
 RunW Try.prog (Instr.loadAt 30 t179_138) w fun t180_139 =>
 RunV Try.prog (Builtin.append_ #[30, 30] 30 #[t178_137, t180_139]) w fun t181_140 w =>
 CallF Try.prog 58 #[a0, t181_140] w fun t184_141 w =>
 RunA Try.prog (Instr.fieldAt 32 t5_1 6) fun t186_142 =>
 RunW Try.prog (Instr.loadAt 30 t186_142) w fun t187_143 =>
 CallF Try.prog 60 #[t187_143] w fun t188_144 w =>
 CallF Try.prog 59 #[a1, t188_144] w fun t189_145 w =>
 lp 1 (fun n_147 t20_146 w =>
 RunW Try.prog (Builtin.len_ #[30] 3 #[t181_140]) w fun t192_148 =>
 RunA Try.prog (bin .lss 3 (.tmp 190) (.tmp 192) t20_146 t192_148) fun t193_149 =>
 IfB t193_149 (
 CallF Try.prog 29 #[a0] w fun t199_150 w =>
 RunA Try.prog (bin .add 3 (.tmp 199) (.const (.int .i64 1)) t199_150 (.int .i64 1)) fun t200_151 =>
 RunA Try.prog (Instr.indexAt 30 t181_140 t20_146) fun t201_152 =>
 RunA Try.prog (Instr.fieldAt 76 t201_152 0) fun t202_153 =>
 RunU Try.prog (Instr.storeAt 3 t202_153 t200_151) w fun w =>
 RunA Try.prog (bin .add 3 (.tmp 194) (.const (.int .i64 1)) t20_146 (.int .i64 1)) fun t195_154 =>
 (a0 : Value) = a0 ∧ (((.bool true) : Value) = (.bool true) ∧ ((t181_140 : Value) = t181_140 ∧ (n_147 t195_154 w)))) (
 j_135 (.bool true) w)) [(.int .i64 0)] w) (
 jn 1 (fun t7_155 w =>
 j_135 t7_155 w) fun j_156 =>
 RunW Try.prog (bin .eql 3 (.tmp 22) (.const (.int .i64 10)) t22_3 (.int .i64 10)) w fun t204_157 =>
 IfB t204_157 (
 drw (fun S_158 w =>
 RunA Try.prog (Instr.fieldAt 32 t5_1 1) fun t206_159 =>
 RunS Try.prog S_158 (Instr.loadAt 3 t206_159) fun t207_160 =>
 RunA Try.prog (Instr.fieldAt 32 t5_1 1) fun t210_161 =>
 RunS Try.prog S_158 (Instr.loadAt 3 t210_161) fun t211_162 =>
 CallF Try.prog 61 #[a0, t207_160] w fun t208_163 w =>
 S_158 w ∧ (
 CallF Try.prog 62 #[a1, t211_162] w fun t212_164 w =>
 S_158 w ∧ (
 RunS Try.prog S_158 (bin .eql 4 (.tmp 208) (.tmp 212) t208_163 t212_164) fun t213_165 =>
 j_156 t213_165 w))) w) (
 j_156 (.bool true) w)))))))))))
theorem sh33_calls {a0 a1 a2 : Value} {w : World} {R : Value → World → Prop} (h : sh33 a0 a1 a2 w R) : CallF Try.prog 33 #[a0, a1, a2] w R :=
  calls_of_denF (mk := false) (args := [a0, a1, a2]) (an := (.seq (.ops [0, 1, 5]) (.seq (.ops [0, 1, 5, 7]) (.seq (.seq (.ops [0, 1, 5, 7, 22]) (.blk (.join [7] (.seq (.ops [0, 1, 5, 7, 22, 23]) (.cond (.seq (.ops [1, 5, 8, 9]) (.seq (.ops [8, 9, 10, 11]) (.seq (.join [7, 8] (.ops [7, 8])) (.seq (.ops [7, 8, 12]) (.blk (.loop [7, 8] [12] (.seq (.seq (.ops [7, 8, 12, 50]) (.cond .leaf .leaf)) (.seq (.blk (.ops [7, 8, 12])) (.ops [7, 8, 12]))))))))) (.join [7] (.seq (.ops [0, 1, 5, 7, 22, 59]) (.cond (.seq (.ops [1, 13, 14]) (.seq (.ops [13, 14, 15, 16]) (.join [7] (.ops [7])))) (.join [7] (.seq (.ops [0, 1, 5, 7, 22, 79]) (.cond (.seq (.ops [0, 1, 5, 17]) (.seq (.draw (.q 0 (.q 1 (.q 2 (.q 3 (.q 5 (.q 6 (.q 7 (.q 8 (.q 9 (.one 4 (.one 10 (.q 11 (.q 12 .fin))))))))))))) [7, 17]) (.seq (.ops [7, 17, 18]) (.blk (.loop [7, 17] [18] (.seq (.seq (.ops [7, 17, 18, 99]) (.cond .leaf .leaf)) (.seq (.blk (.ops [7, 17, 18])) (.ops [7, 17, 18])))))))) (.join [7] (.seq (.ops [0, 1, 5, 7, 22, 108]) (.cond (.draw (.q 0 (.q 1 (.q 2 (.q 3 (.q 4 (.q 6 (.q 7 (.q 8 (.q 9 (.q 10 (.one 5 (.one 11 (.q 12 (.q 13 .fin)))))))))))))) [7]) (.join [7] (.seq (.ops [0, 1, 5, 7, 22, 123]) (.cond (.draw (.q 0 (.q 1 (.q 2 (.q 3 (.q 4 (.q 6 (.q 7 (.q 8 (.q 9 (.q 10 (.one 5 (.one 11 (.q 12 (.q 13 .fin)))))))))))))) [7]) (.join [7] (.seq (.ops [0, 1, 5, 7, 22, 138]) (.cond (.draw (.q 0 (.q 1 (.q 2 (.q 4 (.q 5 (.q 6 (.one 3 (.one 7 (.q 8 (.q 9 .fin)))))))))) [7]) (.join [7] (.seq (.ops [0, 1, 5, 7, 22, 149]) (.cond (.ops [7]) (.join [7] (.seq (.ops [0, 1, 5, 7, 22, 156]) (.cond (.seq (.ops [1, 5, 7]) (.ops [7])) (.join [7] (.seq (.ops [0, 1, 5, 7, 22, 170]) (.cond (.seq (.ops [1, 7]) (.ops [7])) (.join [7] (.seq (.ops [0, 1, 5, 7, 22, 176]) (.cond (.seq (.ops [0, 1, 5, 7, 19]) (.seq (.ops [0, 1, 5, 7, 19]) (.seq (.ops [0, 7, 19]) (.seq (.ops [0, 7, 19, 20]) (.blk (.loop [0, 7, 19] [20] (.seq (.seq (.ops [0, 7, 19, 20, 193]) (.cond .leaf .leaf)) (.seq (.blk (.ops [0, 7, 19, 20])) (.ops [0, 7, 19, 20]))))))))) (.join [7] (.seq (.ops [0, 1, 5, 7, 203]) (.cond (.draw (.q 0 (.q 1 (.q 2 (.q 4 (.q 5 (.q 6 (.one 3 (.one 7 (.q 8 (.q 9 .fin)))))))))) [7]) .leaf))))))))))))))))))))))))))))))))))) (.seq (.ops [6]) .leaf))))) (c := Try.f33.body.getD .skip) hentD Try.func33 rfl (Nat.le_of_ble_eq_true (by kernel_rfl))
    (Eq.mp (show sh33 a0 a1 a2 w R = denF Try.prog entD false Try.f33 (.seq (.ops [0, 1, 5]) (.seq (.ops [0, 1, 5, 7]) (.seq (.seq (.ops [0, 1, 5, 7, 22]) (.blk (.join [7] (.seq (.ops [0, 1, 5, 7, 22, 23]) (.cond (.seq (.ops [1, 5, 8, 9]) (.seq (.ops [8, 9, 10, 11]) (.seq (.join [7, 8] (.ops [7, 8])) (.seq (.ops [7, 8, 12]) (.blk (.loop [7, 8] [12] (.seq (.seq (.ops [7, 8, 12, 50]) (.cond .leaf .leaf)) (.seq (.blk (.ops [7, 8, 12])) (.ops [7, 8, 12]))))))))) (.join [7] (.seq (.ops [0, 1, 5, 7, 22, 59]) (.cond (.seq (.ops [1, 13, 14]) (.seq (.ops [13, 14, 15, 16]) (.join [7] (.ops [7])))) (.join [7] (.seq (.ops [0, 1, 5, 7, 22, 79]) (.cond (.seq (.ops [0, 1, 5, 17]) (.seq (.draw (.q 0 (.q 1 (.q 2 (.q 3 (.q 5 (.q 6 (.q 7 (.q 8 (.q 9 (.one 4 (.one 10 (.q 11 (.q 12 .fin))))))))))))) [7, 17]) (.seq (.ops [7, 17, 18]) (.blk (.loop [7, 17] [18] (.seq (.seq (.ops [7, 17, 18, 99]) (.cond .leaf .leaf)) (.seq (.blk (.ops [7, 17, 18])) (.ops [7, 17, 18])))))))) (.join [7] (.seq (.ops [0, 1, 5, 7, 22, 108]) (.cond (.draw (.q 0 (.q 1 (.q 2 (.q 3 (.q 4 (.q 6 (.q 7 (.q 8 (.q 9 (.q 10 (.one 5 (.one 11 (.q 12 (.q 13 .fin)))))))))))))) [7]) (.join [7] (.seq (.ops [0, 1, 5, 7, 22, 123]) (.cond (.draw (.q 0 (.q 1 (.q 2 (.q 3 (.q 4 (.q 6 (.q 7 (.q 8 (.q 9 (.q 10 (.one 5 (.one 11 (.q 12 (.q 13 .fin)))))))))))))) [7]) (.join [7] (.seq (.ops [0, 1, 5, 7, 22, 138]) (.cond (.draw (.q 0 (.q 1 (.q 2 (.q 4 (.q 5 (.q 6 (.one 3 (.one 7 (.q 8 (.q 9 .fin)))))))))) [7]) (.join [7] (.seq (.ops [0, 1, 5, 7, 22, 149]) (.cond (.ops [7]) (.join [7] (.seq (.ops [0, 1, 5, 7, 22, 156]) (.cond (.seq (.ops [1, 5, 7]) (.ops [7])) (.join [7] (.seq (.ops [0, 1, 5, 7, 22, 170]) (.cond (.seq (.ops [1, 7]) (.ops [7])) (.join [7] (.seq (.ops [0, 1, 5, 7, 22, 176]) (.cond (.seq (.ops [0, 1, 5, 7, 19]) (.seq (.ops [0, 1, 5, 7, 19]) (.seq (.ops [0, 7, 19]) (.seq (.ops [0, 7, 19, 20]) (.blk (.loop [0, 7, 19] [20] (.seq (.seq (.ops [0, 7, 19, 20, 193]) (.cond .leaf .leaf)) (.seq (.blk (.ops [0, 7, 19, 20])) (.ops [0, 7, 19, 20]))))))))) (.join [7] (.seq (.ops [0, 1, 5, 7, 203]) (.cond (.draw (.q 0 (.q 1 (.q 2 (.q 4 (.q 5 (.q 6 (.one 3 (.one 7 (.q 8 (.q 9 .fin)))))))))) [7]) .leaf))))))))))))))))))))))))))))))))))) (.seq (.ops [6]) .leaf)))) (Try.f33.body.getD .skip) [a0, a1, a2] w R by kernel_rfl) h)

/-! ### 34: handbill/hbllaw8.Same -/
def sh34 (a0 a1 : Value) (w : World) (R : Value → World → Prop) : Prop :=
 RunW Try.prog (bin .eql 25 (.tmp 11) (.const (.pointer none)) a0 (.pointer none)) w fun t12_1 =>
 IfB t12_1 (
 R (.bool false) w) (
 CallF Try.prog 31 #[a0] w fun t15_2 w =>
 CallF Try.prog 63 #[a1] w fun t17_3 w =>
 RunW Try.prog (bin .neq 4 (.tmp 15) (.tmp 17) t15_2 t17_3) w fun t18_4 =>
 IfB t18_4 (
 R (.bool false) w) (
 CallF Try.prog 29 #[a0] w fun t22_5 w =>
 CallF Try.prog 64 #[a1] w fun t24_6 w =>
 RunW Try.prog (bin .neq 3 (.tmp 22) (.tmp 24) t22_5 t24_6) w fun t25_7 =>
 IfB t25_7 (
 R (.bool false) w) (
 CallF Try.prog 12 #[a0] w fun t29_8 w =>
 CallF Try.prog 65 #[a1] w fun t31_9 w =>
 RunW Try.prog (bin .neq 3 (.tmp 29) (.tmp 31) t29_8 t31_9) w fun t32_10 =>
 IfB t32_10 (
 R (.bool false) w) (
 CallF Try.prog 20 #[a0] w fun t35_11 w =>
 CallF Try.prog 19 #[t35_11] w fun t36_12 w =>
 CallF Try.prog 66 #[a1] w fun t39_13 w =>
 CallF Try.prog 23 #[t36_12, t39_13] w fun t40_14 w =>
 RunA Try.prog (Op.unary .not t40_14) fun t41_15 =>
 IfB t41_15 (
 R (.bool false) w) (
 lp 1 (fun n_17 t6_16 w =>
 RunW Try.prog (Builtin.len_ #[42] 3 #[t36_12]) w fun t44_18 =>
 RunA Try.prog (bin .lss 3 (.tmp 42) (.tmp 44) t6_16 t44_18) fun t45_19 =>
 IfB t45_19 (
 RunA Try.prog (Instr.indexAt 42 t36_12 t6_16) fun t52_20 =>
 RunW Try.prog (Instr.loadAt 9 t52_20) w fun t53_21 =>
 CallF Try.prog 13 #[a0, t53_21] w fun t54_22 w =>
 RunA Try.prog (Instr.extract t54_22 0) fun t55_23 =>
 RunA Try.prog (Instr.extract t54_22 1) fun t56_24 =>
 RunA Try.prog (Instr.indexAt 42 t36_12 t6_16) fun t61_25 =>
 RunW Try.prog (Instr.loadAt 9 t61_25) w fun t62_26 =>
 CallF Try.prog 67 #[a1, t62_26] w fun t63_27 w =>
 RunA Try.prog (Instr.extract t63_27 0) fun t64_28 =>
 RunA Try.prog (Instr.extract t63_27 1) fun t65_29 =>
 CallF Try.prog 15 #[t55_23, t64_28] w fun t68_30 w =>
 RunA Try.prog (Op.unary .not t68_30) fun t69_31 =>
 IfB t69_31 (
 R (.bool false) w) (
 RunW Try.prog (bin .neq 4 (.tmp 71) (.tmp 72) t56_24 t65_29) w fun t73_32 =>
 IfB t73_32 (
 R (.bool false) w) (
 RunA Try.prog (bin .add 3 (.tmp 46) (.const (.int .i64 1)) t6_16 (.int .i64 1)) fun t47_33 =>
 (a0 : Value) = a0 ∧ ((a1 : Value) = a1 ∧ ((t36_12 : Value) = t36_12 ∧ (n_17 t47_33 w)))))) (
 R (.bool true) w)) [(.int .i64 0)] w)))))
theorem sh34_calls {a0 a1 : Value} {w : World} {R : Value → World → Prop} (h : sh34 a0 a1 w R) : CallF Try.prog 34 #[a0, a1] w R :=
  calls_of_denF (mk := false) (args := [a0, a1]) (an := (.seq (.ops [0, 1]) (.seq (.seq (.ops [0, 1, 33]) (.cond (.seq (.ops [4]) .leaf) .leaf)) (.seq (.ops [0, 1, 5]) (.seq (.seq (.ops [0, 1, 5, 41]) (.cond (.seq (.ops [4]) .leaf) .leaf)) (.seq (.seq (.ops [0, 1, 5, 6]) (.blk (.loop [0, 1, 5] [6] (.seq (.seq (.ops [0, 1, 5, 6, 45]) (.cond .leaf .leaf)) (.seq (.blk (.seq (.ops [0, 1, 5, 6, 7, 8]) (.seq (.ops [0, 1, 5, 6, 7, 8, 9, 10]) (.seq (.ops [0, 1, 5, 6, 74]) (.cond (.seq (.ops [4]) .leaf) .leaf))))) (.ops [0, 1, 5, 6])))))) (.seq (.ops [4]) .leaf))))))) (c := Try.f34.body.getD .skip) hentD Try.func34 rfl (Nat.le_of_ble_eq_true (by kernel_rfl))
    (Eq.mp (show sh34 a0 a1 w R = denF Try.prog entD false Try.f34 (.seq (.ops [0, 1]) (.seq (.seq (.ops [0, 1, 33]) (.cond (.seq (.ops [4]) .leaf) .leaf)) (.seq (.ops [0, 1, 5]) (.seq (.seq (.ops [0, 1, 5, 41]) (.cond (.seq (.ops [4]) .leaf) .leaf)) (.seq (.seq (.ops [0, 1, 5, 6]) (.blk (.loop [0, 1, 5] [6] (.seq (.seq (.ops [0, 1, 5, 6, 45]) (.cond .leaf .leaf)) (.seq (.blk (.seq (.ops [0, 1, 5, 6, 7, 8]) (.seq (.ops [0, 1, 5, 6, 7, 8, 9, 10]) (.seq (.ops [0, 1, 5, 6, 74]) (.cond (.seq (.ops [4]) .leaf) .leaf))))) (.ops [0, 1, 5, 6])))))) (.seq (.ops [4]) .leaf)))))) (Try.f34.body.getD .skip) [a0, a1] w R by kernel_rfl) h)

/-! ### 47: (*handbill/disk.Disk).Read -/
def sh47 (a0 a1 : Value) (w : World) (R : Value → World → Prop) : Prop :=
 RunV Try.prog (Instr.buildSlice 42 1 #[(0, a1)]) w fun t11_1 w =>
 CallF Try.prog 40 #[a0, t11_1] w fun t12_2 w =>
 RunA Try.prog (Instr.extract t12_2 0) fun t13_3 =>
 RunA Try.prog (Instr.extract t12_2 1) fun t14_4 =>
 RunW Try.prog (bin .neq 26 (.tmp 15) (.const (.int .i64 0)) t14_4 (.int .i64 0)) w fun t16_5 =>
 IfB t16_5 (
 R (.tuple #[(.slice none 0 0), t14_4]) w) (
 CallF Try.prog 41 #[a0, a1] w fun t20_6 w =>
 RunA Try.prog (Op.unary .not t20_6) fun t21_7 =>
 IfB t21_7 (
 R (.tuple #[(.slice none 0 0), (.int .i64 6)]) w) (
 RunA Try.prog (nilV a0) fun t23_8 =>
 RunA Try.prog (Instr.fieldAt 69 t23_8 1) fun t24_9 =>
 RunW Try.prog (Instr.loadAt 66 t24_9) w fun t25_10 =>
 RunV Try.prog (Instr.lookup 66 t25_10 a1 false) w fun t27_11 w =>
 CallF Try.prog 39 #[t27_11] w fun t28_12 w =>
 R (.tuple #[t28_12, (.int .i64 0)]) w))
theorem sh47_calls {a0 a1 : Value} {w : World} {R : Value → World → Prop} (h : sh47 a0 a1 w R) : CallF Try.prog 47 #[a0, a1] w R :=
  calls_of_denF (mk := false) (args := [a0, a1]) (an := (.seq (.ops [0, 1]) (.seq (.seq (.ops [0, 1, 7]) (.seq (.ops [0, 1, 7, 16]) (.cond (.seq (.ops [4, 5]) .leaf) .leaf))) (.seq (.seq (.ops [0, 1, 21]) (.cond (.seq (.ops [4, 5]) .leaf) .leaf)) (.seq (.ops [4, 5]) .leaf))))) (c := Try.f47.body.getD .skip) hentD Try.func47 rfl (Nat.le_of_ble_eq_true (by kernel_rfl))
    (Eq.mp (show sh47 a0 a1 w R = denF Try.prog entD false Try.f47 (.seq (.ops [0, 1]) (.seq (.seq (.ops [0, 1, 7]) (.seq (.ops [0, 1, 7, 16]) (.cond (.seq (.ops [4, 5]) .leaf) .leaf))) (.seq (.seq (.ops [0, 1, 21]) (.cond (.seq (.ops [4, 5]) .leaf) .leaf)) (.seq (.ops [4, 5]) .leaf)))) (Try.f47.body.getD .skip) [a0, a1] w R by kernel_rfl) h)

/-! ### 48: (*handbill/hblref8.Disk).Read -/
def sh48 (a0 a1 : Value) (w : World) (R : Value → World → Prop) : Prop :=
 CallF Try.prog 74 #[a0, a1, (.bool true)] w fun t11_1 w =>
 RunA Try.prog (Instr.extract t11_1 0) fun t12_2 =>
 RunA Try.prog (Instr.extract t11_1 1) fun t13_3 =>
 RunW Try.prog (bin .neq 26 (.tmp 14) (.const (.int .i64 0)) t13_3 (.int .i64 0)) w fun t15_4 =>
 IfB t15_4 (
 R (.tuple #[(.slice none 0 0), t13_3]) w) (
 RunA Try.prog (nilV a0) fun t18_5 =>
 RunA Try.prog (Instr.fieldAt 88 t18_5 1) fun t19_6 =>
 RunW Try.prog (Instr.loadAt 84 t19_6) w fun t20_7 =>
 CallF Try.prog 75 #[t20_7, a1] w fun t22_8 w =>
 RunA Try.prog (bin .lss 3 (.tmp 22) (.const (.int .i64 0)) t22_8 (.int .i64 0)) fun t23_9 =>
 IfB t23_9 (
 R (.tuple #[(.slice none 0 0), (.int .i64 6)]) w) (
 RunA Try.prog (nilV a0) fun t25_10 =>
 RunA Try.prog (Instr.fieldAt 88 t25_10 1) fun t26_11 =>
 RunW Try.prog (Instr.loadAt 84 t26_11) w fun t27_12 =>
 CallF Try.prog 76 #[t27_12, a1] w fun t29_13 w =>
 CallF Try.prog 16 #[t29_13] w fun t30_14 w =>
 R (.tuple #[t30_14, t13_3]) w))
theorem sh48_calls {a0 a1 : Value} {w : World} {R : Value → World → Prop} (h : sh48 a0 a1 w R) : CallF Try.prog 48 #[a0, a1] w R :=
  calls_of_denF (mk := false) (args := [a0, a1]) (an := (.seq (.ops [0, 1]) (.seq (.ops [0, 1, 7]) (.seq (.seq (.ops [0, 1, 7, 15]) (.cond (.seq (.ops [4, 5]) .leaf) .leaf)) (.seq (.seq (.ops [0, 1, 7, 23]) (.cond (.seq (.ops [4, 5]) .leaf) .leaf)) (.seq (.ops [4, 5]) .leaf)))))) (c := Try.f48.body.getD .skip) hentD Try.func48 rfl (Nat.le_of_ble_eq_true (by kernel_rfl))
    (Eq.mp (show sh48 a0 a1 w R = denF Try.prog entD false Try.f48 (.seq (.ops [0, 1]) (.seq (.ops [0, 1, 7]) (.seq (.seq (.ops [0, 1, 7, 15]) (.cond (.seq (.ops [4, 5]) .leaf) .leaf)) (.seq (.seq (.ops [0, 1, 7, 23]) (.cond (.seq (.ops [4, 5]) .leaf) .leaf)) (.seq (.ops [4, 5]) .leaf))))) (Try.f48.body.getD .skip) [a0, a1] w R by kernel_rfl) h)

/-! ### 49: (*handbill/disk.Disk).List -/
def sh49 (a0 : Value) (w : World) (R : Value → World → Prop) : Prop :=
 CallF Try.prog 40 #[a0, (.slice none 0 0)] w fun t8_1 w =>
 RunA Try.prog (Instr.extract t8_1 0) fun t9_2 =>
 RunA Try.prog (Instr.extract t8_1 1) fun t10_3 =>
 RunW Try.prog (bin .neq 26 (.tmp 11) (.const (.int .i64 0)) t10_3 (.int .i64 0)) w fun t12_4 =>
 IfB t12_4 (
 R (.tuple #[(.slice none 0 0), t10_3]) w) (
 RunA Try.prog (nilV a0) fun t15_5 =>
 RunA Try.prog (Instr.fieldAt 69 t15_5 1) fun t16_6 =>
 RunW Try.prog (Instr.loadAt 66 t16_6) w fun t17_7 =>
 CallF Try.prog 45 #[t17_7] w fun t18_8 w =>
 CallF Try.prog 44 #[t18_8] w fun t19_9 w =>
 R (.tuple #[t19_9, (.int .i64 0)]) w)
theorem sh49_calls {a0 : Value} {w : World} {R : Value → World → Prop} (h : sh49 a0 w R) : CallF Try.prog 49 #[a0] w R :=
  calls_of_denF (mk := false) (args := [a0]) (an := (.seq (.ops [0]) (.seq (.seq (.ops [0, 5]) (.seq (.ops [0, 5, 12]) (.cond (.seq (.ops [2, 3]) .leaf) .leaf))) (.seq (.ops [2, 3]) .leaf)))) (c := Try.f49.body.getD .skip) hentD Try.func49 rfl (Nat.le_of_ble_eq_true (by kernel_rfl))
    (Eq.mp (show sh49 a0 w R = denF Try.prog entD false Try.f49 (.seq (.ops [0]) (.seq (.seq (.ops [0, 5]) (.seq (.ops [0, 5, 12]) (.cond (.seq (.ops [2, 3]) .leaf) .leaf))) (.seq (.ops [2, 3]) .leaf))) (Try.f49.body.getD .skip) [a0] w R by kernel_rfl) h)

/-! ### 50: (*handbill/hblref8.Disk).List -/
def sh50 (a0 : Value) (w : World) (R : Value → World → Prop) : Prop :=
 CallF Try.prog 74 #[a0, (.string ⟨#[]⟩), (.bool false)] w fun t8_1 w =>
 RunA Try.prog (Instr.extract t8_1 0) fun t9_2 =>
 RunA Try.prog (Instr.extract t8_1 1) fun t10_3 =>
 RunW Try.prog (bin .neq 26 (.tmp 11) (.const (.int .i64 0)) t10_3 (.int .i64 0)) w fun t12_4 =>
 IfB t12_4 (
 R (.tuple #[(.slice none 0 0), t10_3]) w) (
 CallF Try.prog 66 #[a0] w fun t15_5 w =>
 R (.tuple #[t15_5, t10_3]) w)
theorem sh50_calls {a0 : Value} {w : World} {R : Value → World → Prop} (h : sh50 a0 w R) : CallF Try.prog 50 #[a0] w R :=
  calls_of_denF (mk := false) (args := [a0]) (an := (.seq (.ops [0]) (.seq (.ops [0, 5]) (.seq (.seq (.ops [0, 5, 12]) (.cond (.seq (.ops [2, 3]) .leaf) .leaf)) (.seq (.ops [2, 3]) .leaf))))) (c := Try.f50.body.getD .skip) hentD Try.func50 rfl (Nat.le_of_ble_eq_true (by kernel_rfl))
    (Eq.mp (show sh50 a0 w R = denF Try.prog entD false Try.f50 (.seq (.ops [0]) (.seq (.ops [0, 5]) (.seq (.seq (.ops [0, 5, 12]) (.cond (.seq (.ops [2, 3]) .leaf) .leaf)) (.seq (.ops [2, 3]) .leaf)))) (Try.f50.body.getD .skip) [a0] w R by kernel_rfl) h)

/-! ### 51: (*handbill/hblref8.Disk).Append -/
def sh51 (a0 a1 a2 : Value) (w : World) (R : Value → World → Prop) : Prop :=
 CallF Try.prog 74 #[a0, a1, (.bool true)] w fun t12_1 w =>
 RunA Try.prog (Instr.extract t12_1 0) fun t13_2 =>
 RunA Try.prog (Instr.extract t12_1 1) fun t14_3 =>
 RunW Try.prog (bin .neq 26 (.tmp 16) (.const (.int .i64 0)) t14_3 (.int .i64 0)) w fun t17_4 =>
 IfB t17_4 (
 R t14_3 w) (
 drw (fun S_5 w =>
 IfB t13_2 (
 R (.int .i64 8) w) (
 RunA Try.prog (nilV a0) fun t23_6 =>
 RunA Try.prog (Instr.fieldAt 88 t23_6 1) fun t24_7 =>
 RunS Try.prog S_5 (Instr.loadAt 84 t24_7) fun t25_8 =>
 RunS Try.prog S_5 (Builtin.len_ #[29] 3 #[a2]) fun t28_9 =>
 RunA Try.prog (nilV a0) fun t31_10 =>
 RunA Try.prog (Instr.fieldAt 88 t31_10 0) fun t32_11 =>
 RunS Try.prog S_5 (Instr.loadAt 3 t32_11) fun t33_12 =>
 CallF Try.prog 77 #[t25_8] w fun t26_13 w =>
 S_5 w ∧ (
 RunA Try.prog (bin .add 3 (.tmp 26) (.tmp 28) t26_13 t28_9) fun t29_14 =>
 RunA Try.prog (bin .gtr 3 (.tmp 29) (.tmp 33) t29_14 t33_12) fun t34_15 =>
 IfB t34_15 (
 R (.int .i64 8) w) (
 jn 0 (fun w =>
 R (.int .i64 0) w) fun j_16 =>
 RunW Try.prog (Builtin.len_ #[29] 3 #[a2]) w fun t38_17 =>
 RunA Try.prog (bin .gtr 3 (.tmp 38) (.const (.int .i64 0)) t38_17 (.int .i64 0)) fun t39_18 =>
 IfB t39_18 (
 CallF Try.prog 16 #[a2] w fun t52_19 w =>
 RunV Try.prog (Instr.build 105 #[(0, (.int .i64 1)), (2, a1), (4, t52_19)]) w fun t53_20 w =>
 CallF Try.prog 78 #[a0, t53_20] w fun t54_21 w =>
 j_16 w) (
 RunA Try.prog (nilV a0) fun t42_22 =>
 RunA Try.prog (Instr.fieldAt 88 t42_22 1) fun t43_23 =>
 RunW Try.prog (Instr.loadAt 84 t43_23) w fun t44_24 =>
 CallF Try.prog 75 #[t44_24, a1] w fun t46_25 w =>
 RunA Try.prog (bin .lss 3 (.tmp 46) (.const (.int .i64 0)) t46_25 (.int .i64 0)) fun t47_26 =>
 IfB t47_26 (
 CallF Try.prog 16 #[a2] w fun t52_27 w =>
 RunV Try.prog (Instr.build 105 #[(0, (.int .i64 1)), (2, a1), (4, t52_27)]) w fun t53_28 w =>
 CallF Try.prog 78 #[a0, t53_28] w fun t54_29 w =>
 j_16 w) (
 j_16 w)))))) w)
theorem sh51_calls {a0 a1 a2 : Value} {w : World} {R : Value → World → Prop} (h : sh51 a0 a1 a2 w R) : CallF Try.prog 51 #[a0, a1, a2] w R :=
  calls_of_denF (mk := false) (args := [a0, a1, a2]) (an := (.seq (.ops [0, 1, 2]) (.seq (.ops [0, 1, 2, 7, 8]) (.seq (.blk (.seq (.ops [0, 1, 2, 7, 8, 15]) (.cond (.seq (.ops [6]) .leaf) (.seq (.draw (.q 0 (.q 1 (.sp 2 (.q 2 (.q 3 (.q 4 (.q 5 (.q 6 (.q 7 (.q 8 (.q 9 (.q 10 (.q 11 (.q 12 (.q 13 (.q 14 (.q 15 (.q 16 .fin))))))))))))))) (.q 2 (.q 3 (.q 4 (.q 5 (.q 7 (.q 8 (.q 10 (.q 11 (.q 12 (.q 13 (.one 6 (.q 9 (.q 14 (.q 15 (.q 16 .fin)))))))))))))))))) [0, 1, 2, 19]) (.cond (.seq (.ops [6]) .leaf) (.join [] (.seq (.ops [0, 1, 2, 36]) (.cond (.ops []) .leaf)))))))) (.seq (.ops [6]) .leaf))))) (c := Try.f51.body.getD .skip) hentD Try.func51 rfl (Nat.le_of_ble_eq_true (by kernel_rfl))
    (Eq.mp (show sh51 a0 a1 a2 w R = denF Try.prog entD false Try.f51 (.seq (.ops [0, 1, 2]) (.seq (.ops [0, 1, 2, 7, 8]) (.seq (.blk (.seq (.ops [0, 1, 2, 7, 8, 15]) (.cond (.seq (.ops [6]) .leaf) (.seq (.draw (.q 0 (.q 1 (.sp 2 (.q 2 (.q 3 (.q 4 (.q 5 (.q 6 (.q 7 (.q 8 (.q 9 (.q 10 (.q 11 (.q 12 (.q 13 (.q 14 (.q 15 (.q 16 .fin))))))))))))))) (.q 2 (.q 3 (.q 4 (.q 5 (.q 7 (.q 8 (.q 10 (.q 11 (.q 12 (.q 13 (.one 6 (.q 9 (.q 14 (.q 15 (.q 16 .fin)))))))))))))))))) [0, 1, 2, 19]) (.cond (.seq (.ops [6]) .leaf) (.join [] (.seq (.ops [0, 1, 2, 36]) (.cond (.ops []) .leaf)))))))) (.seq (.ops [6]) .leaf)))) (Try.f51.body.getD .skip) [a0, a1, a2] w R by kernel_rfl) h)

/-! ### 52: (*handbill/hblref8.Disk).Cut -/
def sh52 (a0 a1 a2 : Value) (w : World) (R : Value → World → Prop) : Prop :=
 CallF Try.prog 74 #[a0, a1, (.bool true)] w fun t12_1 w =>
 RunA Try.prog (Instr.extract t12_1 0) fun t13_2 =>
 RunA Try.prog (Instr.extract t12_1 1) fun t14_3 =>
 RunW Try.prog (bin .neq 26 (.tmp 16) (.const (.int .i64 0)) t14_3 (.int .i64 0)) w fun t17_4 =>
 IfB t17_4 (
 R t14_3 w) (
 RunA Try.prog (nilV a0) fun t21_5 =>
 RunA Try.prog (Instr.fieldAt 88 t21_5 1) fun t22_6 =>
 RunW Try.prog (Instr.loadAt 84 t22_6) w fun t23_7 =>
 CallF Try.prog 75 #[t23_7, a1] w fun t25_8 w =>
 RunA Try.prog (bin .lss 3 (.tmp 25) (.const (.int .i64 0)) t25_8 (.int .i64 0)) fun t26_9 =>
 IfB t26_9 (
 R (.int .i64 6) w) (
 RunA Try.prog (bin .lss 3 (.tmp 28) (.const (.int .i64 0)) a2 (.int .i64 0)) fun t29_10 =>
 IfB t29_10 (
 R (.int .i64 1) w) (
 RunA Try.prog (nilV a0) fun t33_11 =>
 RunA Try.prog (Instr.fieldAt 88 t33_11 1) fun t34_12 =>
 RunW Try.prog (Instr.loadAt 84 t34_12) w fun t35_13 =>
 CallF Try.prog 76 #[t35_13, a1] w fun t37_14 w =>
 RunW Try.prog (Builtin.len_ #[29] 3 #[t37_14]) w fun t38_15 =>
 RunA Try.prog (bin .gtr 3 (.tmp 31) (.tmp 38) a2 t38_15) fun t39_16 =>
 IfB t39_16 (
 R (.int .i64 1) w) (
 jn 0 (fun w =>
 R (.int .i64 0) w) fun j_17 =>
 RunA Try.prog (nilV a0) fun t44_18 =>
 RunA Try.prog (Instr.fieldAt 88 t44_18 1) fun t45_19 =>
 RunW Try.prog (Instr.loadAt 84 t45_19) w fun t46_20 =>
 CallF Try.prog 76 #[t46_20, a1] w fun t48_21 w =>
 RunW Try.prog (Builtin.len_ #[29] 3 #[t48_21]) w fun t49_22 =>
 RunA Try.prog (bin .lss 3 (.tmp 42) (.tmp 49) a2 t49_22) fun t50_23 =>
 IfB t50_23 (
 RunV Try.prog (Instr.build 105 #[(0, (.int .i64 2)), (2, a1), (1, a2)]) w fun t54_24 w =>
 CallF Try.prog 78 #[a0, t54_24] w fun t55_25 w =>
 j_17 w) (
 j_17 w)))))
theorem sh52_calls {a0 a1 a2 : Value} {w : World} {R : Value → World → Prop} (h : sh52 a0 a1 a2 w R) : CallF Try.prog 52 #[a0, a1, a2] w R :=
  calls_of_denF (mk := false) (args := [a0, a1, a2]) (an := (.seq (.ops [0, 1, 2]) (.seq (.ops [0, 1, 2, 8]) (.seq (.blk (.seq (.ops [0, 1, 2, 8, 15]) (.cond (.seq (.ops [6]) .leaf) (.seq (.ops [0, 1, 2, 19]) (.cond (.seq (.ops [6]) .leaf) (.seq (.ops [0, 1, 2, 27]) (.cond (.seq (.ops [6]) .leaf) (.join [] (.seq (.ops [0, 1, 2, 41]) (.cond (.ops []) .leaf)))))))))) (.seq (.ops [6]) .leaf))))) (c := Try.f52.body.getD .skip) hentD Try.func52 rfl (Nat.le_of_ble_eq_true (by kernel_rfl))
    (Eq.mp (show sh52 a0 a1 a2 w R = denF Try.prog entD false Try.f52 (.seq (.ops [0, 1, 2]) (.seq (.ops [0, 1, 2, 8]) (.seq (.blk (.seq (.ops [0, 1, 2, 8, 15]) (.cond (.seq (.ops [6]) .leaf) (.seq (.ops [0, 1, 2, 19]) (.cond (.seq (.ops [6]) .leaf) (.seq (.ops [0, 1, 2, 27]) (.cond (.seq (.ops [6]) .leaf) (.join [] (.seq (.ops [0, 1, 2, 41]) (.cond (.ops []) .leaf)))))))))) (.seq (.ops [6]) .leaf)))) (Try.f52.body.getD .skip) [a0, a1, a2] w R by kernel_rfl) h)

/-! ### 53: (*handbill/hblref8.Disk).Rename -/
def sh53 (a0 a1 a2 : Value) (w : World) (R : Value → World → Prop) : Prop :=
 CallF Try.prog 74 #[a0, a1, (.bool true)] w fun t12_1 w =>
 RunA Try.prog (Instr.extract t12_1 0) fun t13_2 =>
 RunA Try.prog (Instr.extract t12_1 1) fun t14_3 =>
 RunW Try.prog (bin .neq 26 (.tmp 16) (.const (.int .i64 0)) t14_3 (.int .i64 0)) w fun t17_4 =>
 IfB t17_4 (
 R t14_3 w) (
 CallF Try.prog 79 #[a2] w fun t21_5 w =>
 RunA Try.prog (Op.unary .not t21_5) fun t22_6 =>
 IfB t22_6 (
 R (.int .i64 11) w) (
 RunA Try.prog (nilV a0) fun t25_7 =>
 RunA Try.prog (Instr.fieldAt 88 t25_7 1) fun t26_8 =>
 RunW Try.prog (Instr.loadAt 84 t26_8) w fun t27_9 =>
 CallF Try.prog 75 #[t27_9, a1] w fun t29_10 w =>
 RunA Try.prog (bin .lss 3 (.tmp 29) (.const (.int .i64 0)) t29_10 (.int .i64 0)) fun t30_11 =>
 IfB t30_11 (
 R (.int .i64 6) w) (
 jn 0 (fun w =>
 R (.int .i64 0) w) fun j_12 =>
 RunW Try.prog (bin .neq 9 (.tmp 32) (.tmp 33) a1 a2) w fun t34_13 =>
 IfB t34_13 (
 RunV Try.prog (Instr.build 105 #[(0, (.int .i64 3)), (2, a2), (3, a1)]) w fun t38_14 w =>
 CallF Try.prog 78 #[a0, t38_14] w fun t39_15 w =>
 j_12 w) (
 j_12 w))))
theorem sh53_calls {a0 a1 a2 : Value} {w : World} {R : Value → World → Prop} (h : sh53 a0 a1 a2 w R) : CallF Try.prog 53 #[a0, a1, a2] w R :=
  calls_of_denF (mk := false) (args := [a0, a1, a2]) (an := (.seq (.ops [0, 1, 2]) (.seq (.ops [0, 1, 2, 8]) (.seq (.blk (.seq (.ops [0, 1, 2, 8, 15]) (.cond (.seq (.ops [6]) .leaf) (.seq (.ops [0, 1, 2, 19]) (.cond (.seq (.ops [6]) .leaf) (.seq (.ops [0, 1, 2, 23]) (.cond (.seq (.ops [6]) .leaf) (.join [] (.seq (.ops [0, 1, 2, 31]) (.cond (.ops []) .leaf)))))))))) (.seq (.ops [6]) .leaf))))) (c := Try.f53.body.getD .skip) hentD Try.func53 rfl (Nat.le_of_ble_eq_true (by kernel_rfl))
    (Eq.mp (show sh53 a0 a1 a2 w R = denF Try.prog entD false Try.f53 (.seq (.ops [0, 1, 2]) (.seq (.ops [0, 1, 2, 8]) (.seq (.blk (.seq (.ops [0, 1, 2, 8, 15]) (.cond (.seq (.ops [6]) .leaf) (.seq (.ops [0, 1, 2, 19]) (.cond (.seq (.ops [6]) .leaf) (.seq (.ops [0, 1, 2, 23]) (.cond (.seq (.ops [6]) .leaf) (.join [] (.seq (.ops [0, 1, 2, 31]) (.cond (.ops []) .leaf)))))))))) (.seq (.ops [6]) .leaf)))) (Try.f53.body.getD .skip) [a0, a1, a2] w R by kernel_rfl) h)

/-! ### 54: (*handbill/hblref8.Disk).Delete -/
def sh54 (a0 a1 : Value) (w : World) (R : Value → World → Prop) : Prop :=
 CallF Try.prog 74 #[a0, a1, (.bool true)] w fun t10_1 w =>
 RunA Try.prog (Instr.extract t10_1 0) fun t11_2 =>
 RunA Try.prog (Instr.extract t10_1 1) fun t12_3 =>
 RunW Try.prog (bin .neq 26 (.tmp 13) (.const (.int .i64 0)) t12_3 (.int .i64 0)) w fun t14_4 =>
 IfB t14_4 (
 R t12_3 w) (
 RunA Try.prog (nilV a0) fun t17_5 =>
 RunA Try.prog (Instr.fieldAt 88 t17_5 1) fun t18_6 =>
 RunW Try.prog (Instr.loadAt 84 t18_6) w fun t19_7 =>
 CallF Try.prog 75 #[t19_7, a1] w fun t21_8 w =>
 RunA Try.prog (bin .lss 3 (.tmp 21) (.const (.int .i64 0)) t21_8 (.int .i64 0)) fun t22_9 =>
 IfB t22_9 (
 R (.int .i64 6) w) (
 RunV Try.prog (Instr.build 105 #[(0, (.int .i64 4)), (2, a1)]) w fun t25_10 w =>
 CallF Try.prog 78 #[a0, t25_10] w fun t26_11 w =>
 R t12_3 w))
theorem sh54_calls {a0 a1 : Value} {w : World} {R : Value → World → Prop} (h : sh54 a0 a1 w R) : CallF Try.prog 54 #[a0, a1] w R :=
  calls_of_denF (mk := false) (args := [a0, a1]) (an := (.seq (.ops [0, 1]) (.seq (.ops [0, 1, 6]) (.seq (.seq (.ops [0, 1, 6, 14]) (.cond (.seq (.ops [4]) .leaf) .leaf)) (.seq (.seq (.ops [0, 1, 6, 22]) (.cond (.seq (.ops [4]) .leaf) .leaf)) (.seq (.ops [6]) (.seq (.ops [4]) .leaf))))))) (c := Try.f54.body.getD .skip) hentD Try.func54 rfl (Nat.le_of_ble_eq_true (by kernel_rfl))
    (Eq.mp (show sh54 a0 a1 w R = denF Try.prog entD false Try.f54 (.seq (.ops [0, 1]) (.seq (.ops [0, 1, 6]) (.seq (.seq (.ops [0, 1, 6, 14]) (.cond (.seq (.ops [4]) .leaf) .leaf)) (.seq (.seq (.ops [0, 1, 6, 22]) (.cond (.seq (.ops [4]) .leaf) .leaf)) (.seq (.ops [6]) (.seq (.ops [4]) .leaf)))))) (Try.f54.body.getD .skip) [a0, a1] w R by kernel_rfl) h)

/-! ### 55: (*handbill/hblref8.Disk).Sync -/
def sh55 (a0 : Value) (w : World) (R : Value → World → Prop) : Prop :=
 CallF Try.prog 74 #[a0, (.string ⟨#[]⟩), (.bool false)] w fun t7_1 w =>
 RunA Try.prog (Instr.extract t7_1 0) fun t8_2 =>
 RunA Try.prog (Instr.extract t7_1 1) fun t9_3 =>
 jn 1 (fun t4_4 w =>
 R t4_4 w) fun j_5 =>
 RunW Try.prog (bin .eql 26 (.tmp 10) (.const (.int .i64 0)) t9_3 (.int .i64 0)) w fun t11_6 =>
 IfB t11_6 (
 RunV Try.prog (Instr.buildSlice 84 0 #[]) w fun t14_7 w =>
 RunA Try.prog (nilV a0) fun t16_8 =>
 RunA Try.prog (Instr.fieldAt 88 t16_8 1) fun t17_9 =>
 RunW Try.prog (Instr.loadAt 84 t17_9) w fun t18_10 =>
 RunV Try.prog (Builtin.append_ #[84, 84] 84 #[t14_7, t18_10]) w fun t19_11 w =>
 RunA Try.prog (nilV a0) fun t20_12 =>
 RunA Try.prog (Instr.fieldAt 88 t20_12 2) fun t21_13 =>
 RunU Try.prog (Instr.storeAt 84 t21_13 t19_11) w fun w =>
 RunA Try.prog (nilV a0) fun t22_14 =>
 RunA Try.prog (Instr.fieldAt 88 t22_14 3) fun t23_15 =>
 RunU Try.prog (Instr.storeAt 85 t23_15 (.slice none 0 0)) w fun w =>
 j_5 t9_3 w) (
 j_5 t9_3 w)
theorem sh55_calls {a0 : Value} {w : World} {R : Value → World → Prop} (h : sh55 a0 w R) : CallF Try.prog 55 #[a0] w R :=
  calls_of_denF (mk := false) (args := [a0]) (an := (.seq (.ops [0]) (.seq (.ops [0, 4]) (.seq (.join [4] (.seq (.ops [0, 4, 11]) (.cond (.ops [4]) .leaf))) (.seq (.ops [2]) .leaf))))) (c := Try.f55.body.getD .skip) hentD Try.func55 rfl (Nat.le_of_ble_eq_true (by kernel_rfl))
    (Eq.mp (show sh55 a0 w R = denF Try.prog entD false Try.f55 (.seq (.ops [0]) (.seq (.ops [0, 4]) (.seq (.join [4] (.seq (.ops [0, 4, 11]) (.cond (.ops [4]) .leaf))) (.seq (.ops [2]) .leaf)))) (Try.f55.body.getD .skip) [a0] w R by kernel_rfl) h)

/-! ### 56: (*handbill/hblref8.Disk).Crash -/
def sh56 (a0 a1 a2 : Value) (w : World) (R : Value → World → Prop) : Prop :=
 RunA Try.prog (nilV a0) fun t11_1 =>
 RunA Try.prog (Instr.fieldAt 88 t11_1 6) fun t12_2 =>
 RunW Try.prog (Instr.loadAt 4 t12_2) w fun t13_3 =>
 IfB t13_3 (
 R (.tuple #[]) w) (
 RunA Try.prog (nilV a0) fun t15_4 =>
 RunA Try.prog (Instr.fieldAt 88 t15_4 2) fun t16_5 =>
 RunW Try.prog (Instr.loadAt 84 t16_5) w fun t17_6 =>
 RunW Try.prog (Builtin.max_ #[3, 3] 3 #[a1, (.int .i64 0)]) w fun t19_7 =>
 RunA Try.prog (nilV a0) fun t21_8 =>
 RunA Try.prog (Instr.fieldAt 88 t21_8 3) fun t22_9 =>
 RunW Try.prog (Instr.loadAt 85 t22_9) w fun t23_10 =>
 RunW Try.prog (Builtin.len_ #[85] 3 #[t23_10]) w fun t24_11 =>
 RunW Try.prog (Builtin.min_ #[3, 3] 3 #[t19_7, t24_11]) w fun t25_12 =>
 lp 2 (fun n_15 t6_13 t8_14 w =>
 RunA Try.prog (bin .lss 3 (.tmp 26) (.tmp 27) t8_14 t25_12) fun t28_16 =>
 IfB t28_16 (
 RunA Try.prog (nilV a0) fun t33_17 =>
 RunA Try.prog (Instr.fieldAt 88 t33_17 3) fun t34_18 =>
 RunW Try.prog (Instr.loadAt 85 t34_18) w fun t35_19 =>
 RunA Try.prog (Instr.indexAt 85 t35_19 t8_14) fun t37_20 =>
 RunW Try.prog (Instr.loadAt 105 t37_20) w fun t38_21 =>
 CallF Try.prog 80 #[t6_13, t38_21] w fun t39_22 w =>
 RunA Try.prog (bin .add 3 (.tmp 29) (.const (.int .i64 1)) t8_14 (.int .i64 1)) fun t30_23 =>
 (a0 : Value) = a0 ∧ ((a2 : Value) = a2 ∧ ((t25_12 : Value) = t25_12 ∧ (n_15 t39_22 t30_23 w)))) (
 jn 2 (fun t0_24 t6_25 w =>
 RunV Try.prog (Instr.buildSlice 84 0 #[]) w fun t96_27 w =>
 RunV Try.prog (Builtin.append_ #[84, 84] 84 #[t96_27, t6_25]) w fun t98_28 w =>
 RunA Try.prog (nilV t0_24) fun t99_29 =>
 RunA Try.prog (Instr.fieldAt 88 t99_29 1) fun t100_30 =>
 RunU Try.prog (Instr.storeAt 84 t100_30 t6_25) w fun w =>
 RunA Try.prog (nilV t0_24) fun t101_31 =>
 RunA Try.prog (Instr.fieldAt 88 t101_31 2) fun t102_32 =>
 RunU Try.prog (Instr.storeAt 84 t102_32 t98_28) w fun w =>
 RunA Try.prog (nilV t0_24) fun t103_33 =>
 RunA Try.prog (Instr.fieldAt 88 t103_33 3) fun t104_34 =>
 RunU Try.prog (Instr.storeAt 85 t104_34 (.slice none 0 0)) w fun w =>
 RunA Try.prog (nilV t0_24) fun t105_35 =>
 RunA Try.prog (Instr.fieldAt 88 t105_35 6) fun t106_36 =>
 RunU Try.prog (Instr.storeAt 4 t106_36 (.bool true)) w fun w =>
 R (.tuple #[]) w) fun j_26 =>
 RunA Try.prog (nilV a0) fun t42_37 =>
 RunA Try.prog (Instr.fieldAt 88 t42_37 3) fun t43_38 =>
 RunW Try.prog (Instr.loadAt 85 t43_38) w fun t44_39 =>
 RunW Try.prog (Builtin.len_ #[85] 3 #[t44_39]) w fun t45_40 =>
 RunA Try.prog (bin .lss 3 (.tmp 40) (.tmp 45) t25_12 t45_40) fun t46_41 =>
 IfB t46_41 (
 RunA Try.prog (nilV a0) fun t49_42 =>
 RunA Try.prog (Instr.fieldAt 88 t49_42 3) fun t50_43 =>
 RunW Try.prog (Instr.loadAt 85 t50_43) w fun t51_44 =>
 RunA Try.prog (Instr.indexAt 85 t51_44 t25_12) fun t53_45 =>
 RunA Try.prog (Instr.fieldAt 105 t53_45 0) fun t54_46 =>
 RunW Try.prog (Instr.loadAt 3 t54_46) w fun t55_47 =>
 RunW Try.prog (bin .eql 3 (.tmp 55) (.const (.int .i64 1)) t55_47 (.int .i64 1)) w fun t56_48 =>
 IfB t56_48 (
 RunA Try.prog (bin .geq 3 (.tmp 59) (.const (.int .i64 0)) a2 (.int .i64 0)) fun t60_49 =>
 IfB t60_49 (
 RunA Try.prog (nilV a0) fun t65_50 =>
 RunA Try.prog (Instr.fieldAt 88 t65_50 3) fun t66_51 =>
 RunW Try.prog (Instr.loadAt 85 t66_51) w fun t67_52 =>
 RunA Try.prog (Instr.indexAt 85 t67_52 t25_12) fun t69_53 =>
 RunA Try.prog (Instr.fieldAt 105 t69_53 4) fun t70_54 =>
 RunW Try.prog (Instr.loadAt 29 t70_54) w fun t71_55 =>
 RunW Try.prog (Builtin.len_ #[29] 3 #[t71_55]) w fun t72_56 =>
 RunA Try.prog (bin .lss 3 (.tmp 63) (.tmp 72) a2 t72_56) fun t73_57 =>
 IfB t73_57 (
 RunA Try.prog (nilV a0) fun t76_58 =>
 RunA Try.prog (Instr.fieldAt 88 t76_58 3) fun t77_59 =>
 RunW Try.prog (Instr.loadAt 85 t77_59) w fun t78_60 =>
 RunA Try.prog (Instr.indexAt 85 t78_60 t25_12) fun t80_61 =>
 RunW Try.prog (Instr.loadAt 105 t80_61) w fun t81_62 =>
 RunV Try.prog (Instr.alloc 105 true (.tuple #[])) w fun t9_63 w =>
 RunU Try.prog (Instr.storeAt 105 t9_63 t81_62) w fun w =>
 RunA Try.prog (Instr.fieldAt 105 t9_63 4) fun t82_64 =>
 RunW Try.prog (Instr.loadAt 29 t82_64) w fun t83_65 =>
 RunA Try.prog (Instr.sliceAt 29 t83_65 none (some a2) none) fun t85_66 =>
 CallF Try.prog 16 #[t85_66] w fun t86_67 w =>
 RunA Try.prog (Instr.fieldAt 105 t9_63 4) fun t87_68 =>
 RunU Try.prog (Instr.storeAt 29 t87_68 t86_67) w fun w =>
 RunW Try.prog (Instr.loadAt 105 t9_63) w fun t89_69 =>
 CallF Try.prog 80 #[t6_13, t89_69] w fun t90_70 w =>
 j_26 a0 t90_70 w) (
 j_26 a0 t6_13 w)) (
 j_26 a0 t6_13 w)) (
 j_26 a0 t6_13 w)) (
 j_26 a0 t6_13 w))) [t17_6, (.int .i64 0)] w)
theorem sh56_calls {a0 a1 a2 : Value} {w : World} {R : Value → World → Prop} (h : sh56 a0 a1 a2 w R) : CallF Try.prog 56 #[a0, a1, a2] w R :=
  calls_of_denF (mk := false) (args := [a0, a1, a2]) (an := (.seq (.seq (.ops [0, 1, 2, 13]) (.cond .leaf .leaf)) (.seq (.ops [0, 1, 2, 6]) (.seq (.ops [0, 2, 6, 7]) (.seq (.seq (.ops [0, 2, 6, 7, 8]) (.blk (.loop [0, 2, 7] [6, 8] (.seq (.seq (.ops [0, 2, 6, 7, 8, 28]) (.cond .leaf .leaf)) (.seq (.blk (.ops [0, 2, 6, 7, 8])) (.ops [0, 2, 6, 7, 8])))))) (.seq (.join [0, 6] (.seq (.ops [0, 2, 6, 7, 74]) (.cond (.seq (.ops [0, 2, 6, 9]) (.seq (.ops [0, 6, 9]) (.ops [0, 6]))) .leaf))) (.ops []))))))) (c := Try.f56.body.getD .skip) hentD Try.func56 rfl (Nat.le_of_ble_eq_true (by kernel_rfl))
    (Eq.mp (show sh56 a0 a1 a2 w R = denF Try.prog entD false Try.f56 (.seq (.seq (.ops [0, 1, 2, 13]) (.cond .leaf .leaf)) (.seq (.ops [0, 1, 2, 6]) (.seq (.ops [0, 2, 6, 7]) (.seq (.seq (.ops [0, 2, 6, 7, 8]) (.blk (.loop [0, 2, 7] [6, 8] (.seq (.seq (.ops [0, 2, 6, 7, 8, 28]) (.cond .leaf .leaf)) (.seq (.blk (.ops [0, 2, 6, 7, 8])) (.ops [0, 2, 6, 7, 8])))))) (.seq (.join [0, 6] (.seq (.ops [0, 2, 6, 7, 74]) (.cond (.seq (.ops [0, 2, 6, 9]) (.seq (.ops [0, 6, 9]) (.ops [0, 6]))) .leaf))) (.ops [])))))) (Try.f56.body.getD .skip) [a0, a1, a2] w R by kernel_rfl) h)

/-! ### 57: (*handbill/hblref8.Disk).Reboot -/
def sh57 (a0 : Value) (w : World) (R : Value → World → Prop) : Prop :=
 RunA Try.prog (nilV a0) fun t3_1 =>
 RunA Try.prog (Instr.fieldAt 88 t3_1 6) fun t4_2 =>
 RunU Try.prog (Instr.storeAt 4 t4_2 (.bool false)) w fun w =>
 R (.tuple #[]) w
theorem sh57_calls {a0 : Value} {w : World} {R : Value → World → Prop} (h : sh57 a0 w R) : CallF Try.prog 57 #[a0] w R :=
  calls_of_denF (mk := false) (args := [a0]) (an := (.ops [])) (c := Try.f57.body.getD .skip) hentD Try.func57 rfl (Nat.le_of_ble_eq_true (by kernel_rfl))
    (Eq.mp (show sh57 a0 w R = denF Try.prog entD false Try.f57 (.ops []) (Try.f57.body.getD .skip) [a0] w R by kernel_rfl) h)

/-! ### 59: (*handbill/hblref8.Disk).Plan -/
def sh59 (a0 a1 : Value) (w : World) (R : Value → World → Prop) : Prop :=
 RunA Try.prog (nilV a0) fun t6_1 =>
 RunA Try.prog (Instr.fieldAt 88 t6_1 4) fun t7_2 =>
 RunU Try.prog (Instr.storeAt 86 t7_2 (.slice none 0 0)) w fun w =>
 lp 1 (fun n_4 t4_3 w =>
 RunW Try.prog (Builtin.len_ #[86] 3 #[a1]) w fun t10_5 =>
 RunA Try.prog (bin .lss 3 (.tmp 8) (.tmp 10) t4_3 t10_5) fun t11_6 =>
 IfB t11_6 (
 jn 3 (fun t0_7 t1_8 t4_9 w =>
 RunA Try.prog (bin .add 3 (.tmp 12) (.const (.int .i64 1)) t4_9 (.int .i64 1)) fun t13_11 =>
 (t0_7 : Value) = a0 ∧ ((t1_8 : Value) = a1 ∧ (n_4 t13_11 w))) fun j_10 =>
 drw (fun S_12 w =>
 RunA Try.prog (Instr.indexAt 86 a1 t4_3) fun t16_13 =>
 RunA Try.prog (Instr.fieldAt 107 t16_13 0) fun t17_14 =>
 RunS Try.prog S_12 (Instr.loadAt 3 t17_14) fun t18_15 =>
 RunA Try.prog (nilV a0) fun t20_16 =>
 RunA Try.prog (Instr.fieldAt 88 t20_16 5) fun t21_17 =>
 RunS Try.prog S_12 (Instr.loadAt 3 t21_17) fun t22_18 =>
 RunA Try.prog (bin .gtr 3 (.tmp 18) (.tmp 22) t18_15 t22_18) fun t23_19 =>
 IfB t23_19 (
 drw (fun S_20 w =>
 RunA Try.prog (nilV a0) fun t26_21 =>
 RunA Try.prog (Instr.fieldAt 88 t26_21 4) fun t27_22 =>
 RunS Try.prog S_20 (Instr.loadAt 86 t27_22) fun t28_23 =>
 RunA Try.prog (Instr.indexAt 86 a1 t4_3) fun t31_24 =>
 RunS Try.prog S_20 (Instr.loadAt 107 t31_24) fun t32_25 =>
 RunV Try.prog (Instr.buildSlice 86 1 #[(0, t32_25)]) w fun t33_26 w =>
 S_20 w ∧ (
 RunV Try.prog (Builtin.append_ #[86, 86] 86 #[t28_23, t33_26]) w fun t34_27 w =>
 RunA Try.prog (nilV a0) fun t35_28 =>
 RunA Try.prog (Instr.fieldAt 88 t35_28 4) fun t36_29 =>
 RunU Try.prog (Instr.storeAt 86 t36_29 t34_27) w fun w =>
 j_10 a0 a1 t4_3 w)) w) (
 j_10 a0 a1 t4_3 w)) w) (
 R (.tuple #[]) w)) [(.int .i64 0)] w
theorem sh59_calls {a0 a1 : Value} {w : World} {R : Value → World → Prop} (h : sh59 a0 a1 w R) : CallF Try.prog 59 #[a0, a1] w R :=
  calls_of_denF (mk := false) (args := [a0, a1]) (an := (.seq (.ops [0, 1]) (.seq (.ops [0, 1, 4]) (.blk (.loop [0, 1] [4] (.seq (.seq (.ops [0, 1, 4, 11]) (.cond .leaf .leaf)) (.seq (.blk (.join [0, 1, 4] (.seq (.draw (.q 0 (.q 1 (.q 2 (.q 3 (.q 4 (.q 5 (.q 6 (.q 7 (.q 8 (.q 9 .fin)))))))))) [0, 1, 4, 23]) (.cond (.draw (.q 0 (.q 1 (.q 2 (.q 3 (.q 4 (.q 5 (.q 6 (.q 7 (.q 8 (.one 9 (.one 10 (.q 11 (.q 12 (.one 13 .fin)))))))))))))) [0, 1, 4]) .leaf)))) (.ops [0, 1, 4])))))))) (c := Try.f59.body.getD .skip) hentD Try.func59 rfl (Nat.le_of_ble_eq_true (by kernel_rfl))
    (Eq.mp (show sh59 a0 a1 w R = denF Try.prog entD false Try.f59 (.seq (.ops [0, 1]) (.seq (.ops [0, 1, 4]) (.blk (.loop [0, 1] [4] (.seq (.seq (.ops [0, 1, 4, 11]) (.cond .leaf .leaf)) (.seq (.blk (.join [0, 1, 4] (.seq (.draw (.q 0 (.q 1 (.q 2 (.q 3 (.q 4 (.q 5 (.q 6 (.q 7 (.q 8 (.q 9 .fin)))))))))) [0, 1, 4, 23]) (.cond (.draw (.q 0 (.q 1 (.q 2 (.q 3 (.q 4 (.q 5 (.q 6 (.q 7 (.q 8 (.one 9 (.one 10 (.q 11 (.q 12 (.one 13 .fin)))))))))))))) [0, 1, 4]) .leaf)))) (.ops [0, 1, 4]))))))) (Try.f59.body.getD .skip) [a0, a1] w R by kernel_rfl) h)

/-! ### 60: handbill/hbllaw8.Plain -/
def sh60 (a0 : Value) (w : World) (R : Value → World → Prop) : Prop :=
 lp 2 (fun n_3 t3_1 t4_2 w =>
 RunW Try.prog (Builtin.len_ #[30] 3 #[a0]) w fun t7_4 =>
 RunA Try.prog (bin .lss 3 (.tmp 5) (.tmp 7) t4_2 t7_4) fun t8_5 =>
 IfB t8_5 (
 drw (fun S_6 w =>
 RunA Try.prog (Instr.indexAt 30 a0 t4_2) fun t14_7 =>
 RunA Try.prog (Instr.fieldAt 76 t14_7 0) fun t15_8 =>
 RunS Try.prog S_6 (Instr.loadAt 3 t15_8) fun t16_9 =>
 RunA Try.prog (Instr.indexAt 30 a0 t4_2) fun t19_10 =>
 RunA Try.prog (Instr.fieldAt 76 t19_10 1) fun t20_11 =>
 RunS Try.prog S_6 (Instr.loadAt 3 t20_11) fun t21_12 =>
 RunA Try.prog (Instr.indexAt 30 a0 t4_2) fun t24_13 =>
 RunA Try.prog (Instr.fieldAt 76 t24_13 2) fun t25_14 =>
 RunS Try.prog S_6 (Instr.loadAt 3 t25_14) fun t26_15 =>
 RunA Try.prog (Instr.indexAt 30 a0 t4_2) fun t29_16 =>
 RunA Try.prog (Instr.fieldAt 76 t29_16 3) fun t30_17 =>
 RunS Try.prog S_6 (Instr.loadAt 3 t30_17) fun t31_18 =>
 RunV Try.prog (Instr.build 107 #[(0, t16_9), (1, t21_12), (2, t26_15), (3, t31_18)]) w fun t32_19 w =>
 RunV Try.prog (Instr.buildSlice 86 1 #[(0, t32_19)]) w fun t33_20 w =>
 RunV Try.prog (Builtin.append_ #[86, 86] 86 #[t3_1, t33_20]) w fun t34_21 w =>
 RunA Try.prog (bin .add 3 (.tmp 9) (.const (.int .i64 1)) t4_2 (.int .i64 1)) fun t10_22 =>
 (a0 : Value) = a0 ∧ (n_3 t34_21 t10_22 w)) w) (
 R t3_1 w)) [(.slice none 0 0), (.int .i64 0)] w
theorem sh60_calls {a0 : Value} {w : World} {R : Value → World → Prop} (h : sh60 a0 w R) : CallF Try.prog 60 #[a0] w R :=
  calls_of_denF (mk := false) (args := [a0]) (an := (.seq (.ops [0]) (.seq (.ops [0, 3]) (.seq (.seq (.ops [0, 3, 4]) (.blk (.loop [0] [3, 4] (.seq (.seq (.ops [0, 3, 4, 8]) (.cond .leaf .leaf)) (.seq (.blk (.draw (.q 0 (.q 1 (.q 2 (.q 3 (.q 4 (.q 5 (.q 6 (.q 7 (.q 8 (.q 9 (.q 10 (.q 11 (.q 12 (.q 13 (.q 14 (.q 15 (.q 16 (.q 17 (.q 18 (.q 19 (.q 20 (.one 21 (.one 22 (.one 23 (.q 24 .fin))))))))))))))))))))))))) [0, 3, 4])) (.ops [0, 3, 4])))))) (.seq (.ops [2]) .leaf))))) (c := Try.f60.body.getD .skip) hentD Try.func60 rfl (Nat.le_of_ble_eq_true (by kernel_rfl))
    (Eq.mp (show sh60 a0 w R = denF Try.prog entD false Try.f60 (.seq (.ops [0]) (.seq (.ops [0, 3]) (.seq (.seq (.ops [0, 3, 4]) (.blk (.loop [0] [3, 4] (.seq (.seq (.ops [0, 3, 4, 8]) (.cond .leaf .leaf)) (.seq (.blk (.draw (.q 0 (.q 1 (.q 2 (.q 3 (.q 4 (.q 5 (.q 6 (.q 7 (.q 8 (.q 9 (.q 10 (.q 11 (.q 12 (.q 13 (.q 14 (.q 15 (.q 16 (.q 17 (.q 18 (.q 19 (.q 20 (.one 21 (.one 22 (.one 23 (.q 24 .fin))))))))))))))))))))))))) [0, 3, 4])) (.ops [0, 3, 4])))))) (.seq (.ops [2]) .leaf)))) (Try.f60.body.getD .skip) [a0] w R by kernel_rfl) h)

/-! ### 62: (*handbill/hblref8.Disk).Resize -/
def sh62 (a0 a1 : Value) (w : World) (R : Value → World → Prop) : Prop :=
 RunA Try.prog (bin .lss 3 (.tmp 5) (.const (.int .i64 0)) a1 (.int .i64 0)) fun t6_1 =>
 IfB t6_1 (
 R (.bool false) w) (
 RunA Try.prog (bin .gtr 3 (.tmp 8) (.const (.int .i64 1073741824)) a1 (.int .i64 1073741824)) fun t9_2 =>
 IfB t9_2 (
 R (.bool false) w) (
 RunA Try.prog (nilV a0) fun t13_3 =>
 RunA Try.prog (Instr.fieldAt 88 t13_3 0) fun t14_4 =>
 RunU Try.prog (Instr.storeAt 3 t14_4 a1) w fun w =>
 R (.bool true) w))
theorem sh62_calls {a0 a1 : Value} {w : World} {R : Value → World → Prop} (h : sh62 a0 a1 w R) : CallF Try.prog 62 #[a0, a1] w R :=
  calls_of_denF (mk := false) (args := [a0, a1]) (an := (.seq (.ops [0, 1]) (.seq (.seq (.ops [0, 1, 10]) (.cond (.seq (.ops [4]) .leaf) .leaf)) (.seq (.ops []) (.seq (.ops [4]) .leaf))))) (c := Try.f62.body.getD .skip) hentD Try.func62 rfl (Nat.le_of_ble_eq_true (by kernel_rfl))
    (Eq.mp (show sh62 a0 a1 w R = denF Try.prog entD false Try.f62 (.seq (.ops [0, 1]) (.seq (.seq (.ops [0, 1, 10]) (.cond (.seq (.ops [4]) .leaf) .leaf)) (.seq (.ops []) (.seq (.ops [4]) .leaf)))) (Try.f62.body.getD .skip) [a0, a1] w R by kernel_rfl) h)

/-! ### 63: (*handbill/hblref8.Disk).Up -/
def sh63 (a0 : Value) (w : World) (R : Value → World → Prop) : Prop :=
 RunA Try.prog (nilV a0) fun t4_1 =>
 RunA Try.prog (Instr.fieldAt 88 t4_1 6) fun t5_2 =>
 RunW Try.prog (Instr.loadAt 4 t5_2) w fun t6_3 =>
 RunA Try.prog (Op.unary .not t6_3) fun t7_4 =>
 R t7_4 w
theorem sh63_calls {a0 : Value} {w : World} {R : Value → World → Prop} (h : sh63 a0 w R) : CallF Try.prog 63 #[a0] w R :=
  calls_of_denF (mk := false) (args := [a0]) (an := (.seq (.ops [0]) (.seq (.ops [2]) .leaf))) (c := Try.f63.body.getD .skip) hentD Try.func63 rfl (Nat.le_of_ble_eq_true (by kernel_rfl))
    (Eq.mp (show sh63 a0 w R = denF Try.prog entD false Try.f63 (.seq (.ops [0]) (.seq (.ops [2]) .leaf)) (Try.f63.body.getD .skip) [a0] w R by kernel_rfl) h)

/-! ### 64: (*handbill/hblref8.Disk).Calls -/
def sh64 (a0 : Value) (w : World) (R : Value → World → Prop) : Prop :=
 RunA Try.prog (nilV a0) fun t4_1 =>
 RunA Try.prog (Instr.fieldAt 88 t4_1 5) fun t5_2 =>
 RunW Try.prog (Instr.loadAt 3 t5_2) w fun t6_3 =>
 R t6_3 w
theorem sh64_calls {a0 : Value} {w : World} {R : Value → World → Prop} (h : sh64 a0 w R) : CallF Try.prog 64 #[a0] w R :=
  calls_of_denF (mk := false) (args := [a0]) (an := (.seq (.ops [0]) (.seq (.ops [2]) .leaf))) (c := Try.f64.body.getD .skip) hentD Try.func64 rfl (Nat.le_of_ble_eq_true (by kernel_rfl))
    (Eq.mp (show sh64 a0 w R = denF Try.prog entD false Try.f64 (.seq (.ops [0]) (.seq (.ops [2]) .leaf)) (Try.f64.body.getD .skip) [a0] w R by kernel_rfl) h)

/-! ### 65: (*handbill/hblref8.Disk).Used -/
def sh65 (a0 : Value) (w : World) (R : Value → World → Prop) : Prop :=
 RunA Try.prog (nilV a0) fun t4_1 =>
 RunA Try.prog (Instr.fieldAt 88 t4_1 1) fun t5_2 =>
 RunW Try.prog (Instr.loadAt 84 t5_2) w fun t6_3 =>
 CallF Try.prog 77 #[t6_3] w fun t7_4 w =>
 R t7_4 w
theorem sh65_calls {a0 : Value} {w : World} {R : Value → World → Prop} (h : sh65 a0 w R) : CallF Try.prog 65 #[a0] w R :=
  calls_of_denF (mk := false) (args := [a0]) (an := (.seq (.ops [0]) (.seq (.ops [2]) .leaf))) (c := Try.f65.body.getD .skip) hentD Try.func65 rfl (Nat.le_of_ble_eq_true (by kernel_rfl))
    (Eq.mp (show sh65 a0 w R = denF Try.prog entD false Try.f65 (.seq (.ops [0]) (.seq (.ops [2]) .leaf)) (Try.f65.body.getD .skip) [a0] w R by kernel_rfl) h)

/-! ### 66: (*handbill/hblref8.Disk).Names -/
def sh66 (a0 : Value) (w : World) (R : Value → World → Prop) : Prop :=
 lp 2 (fun n_3 t3_1 t4_2 w =>
 RunA Try.prog (nilV a0) fun t7_4 =>
 RunA Try.prog (Instr.fieldAt 88 t7_4 1) fun t8_5 =>
 RunW Try.prog (Instr.loadAt 84 t8_5) w fun t9_6 =>
 RunW Try.prog (Builtin.len_ #[84] 3 #[t9_6]) w fun t10_7 =>
 RunA Try.prog (bin .lss 3 (.tmp 5) (.tmp 10) t4_2 t10_7) fun t11_8 =>
 IfB t11_8 (
 RunA Try.prog (nilV a0) fun t16_9 =>
 RunA Try.prog (Instr.fieldAt 88 t16_9 1) fun t17_10 =>
 RunW Try.prog (Instr.loadAt 84 t17_10) w fun t18_11 =>
 RunA Try.prog (Instr.indexAt 84 t18_11 t4_2) fun t20_12 =>
 RunA Try.prog (Instr.fieldAt 109 t20_12 0) fun t21_13 =>
 RunW Try.prog (Instr.loadAt 9 t21_13) w fun t22_14 =>
 RunV Try.prog (Instr.buildSlice 42 1 #[(0, t22_14)]) w fun t23_15 w =>
 RunV Try.prog (Builtin.append_ #[42, 42] 42 #[t3_1, t23_15]) w fun t24_16 w =>
 RunA Try.prog (bin .add 3 (.tmp 12) (.const (.int .i64 1)) t4_2 (.int .i64 1)) fun t13_17 =>
 (a0 : Value) = a0 ∧ (n_3 t24_16 t13_17 w)) (
 R t3_1 w)) [(.slice none 0 0), (.int .i64 0)] w
theorem sh66_calls {a0 : Value} {w : World} {R : Value → World → Prop} (h : sh66 a0 w R) : CallF Try.prog 66 #[a0] w R :=
  calls_of_denF (mk := false) (args := [a0]) (an := (.seq (.ops [0]) (.seq (.ops [0, 3]) (.seq (.seq (.ops [0, 3, 4]) (.blk (.loop [0] [3, 4] (.seq (.seq (.ops [0, 3, 4, 11]) (.cond .leaf .leaf)) (.seq (.blk (.ops [0, 3, 4])) (.ops [0, 3, 4])))))) (.seq (.ops [2]) .leaf))))) (c := Try.f66.body.getD .skip) hentD Try.func66 rfl (Nat.le_of_ble_eq_true (by kernel_rfl))
    (Eq.mp (show sh66 a0 w R = denF Try.prog entD false Try.f66 (.seq (.ops [0]) (.seq (.ops [0, 3]) (.seq (.seq (.ops [0, 3, 4]) (.blk (.loop [0] [3, 4] (.seq (.seq (.ops [0, 3, 4, 11]) (.cond .leaf .leaf)) (.seq (.blk (.ops [0, 3, 4])) (.ops [0, 3, 4])))))) (.seq (.ops [2]) .leaf)))) (Try.f66.body.getD .skip) [a0] w R by kernel_rfl) h)

/-! ### 67: (*handbill/hblref8.Disk).Peek -/
def sh67 (a0 a1 : Value) (w : World) (R : Value → World → Prop) : Prop :=
 drw (fun S_1 w =>
 RunA Try.prog (nilV a0) fun t7_2 =>
 RunA Try.prog (Instr.fieldAt 88 t7_2 1) fun t8_3 =>
 RunS Try.prog S_1 (Instr.loadAt 84 t8_3) fun t9_4 =>
 RunA Try.prog (nilV a0) fun t14_5 =>
 RunA Try.prog (Instr.fieldAt 88 t14_5 1) fun t15_6 =>
 RunS Try.prog S_1 (Instr.loadAt 84 t15_6) fun t16_7 =>
 CallF Try.prog 76 #[t9_4, a1] w fun t11_8 w =>
 S_1 w ∧ (
 CallF Try.prog 16 #[t11_8] w fun t12_9 w =>
 S_1 w ∧ (
 CallF Try.prog 75 #[t16_7, a1] w fun t18_10 w =>
 RunA Try.prog (bin .geq 3 (.tmp 18) (.const (.int .i64 0)) t18_10 (.int .i64 0)) fun t19_11 =>
 R (.tuple #[t12_9, t19_11]) w))) w
theorem sh67_calls {a0 a1 : Value} {w : World} {R : Value → World → Prop} (h : sh67 a0 a1 w R) : CallF Try.prog 67 #[a0, a1] w R :=
  calls_of_denF (mk := false) (args := [a0, a1]) (an := (.seq (.ops [0, 1]) (.seq (.draw (.q 0 (.q 1 (.q 2 (.q 3 (.q 4 (.q 7 (.q 8 (.q 9 (.q 10 (.q 11 (.one 5 (.one 6 (.one 12 (.q 13 (.q 14 (.q 15 .fin)))))))))))))))) [4, 5]) .leaf))) (c := Try.f67.body.getD .skip) hentD Try.func67 rfl (Nat.le_of_ble_eq_true (by kernel_rfl))
    (Eq.mp (show sh67 a0 a1 w R = denF Try.prog entD false Try.f67 (.seq (.ops [0, 1]) (.seq (.draw (.q 0 (.q 1 (.q 2 (.q 3 (.q 4 (.q 7 (.q 8 (.q 9 (.q 10 (.q 11 (.one 5 (.one 6 (.one 12 (.q 13 (.q 14 (.q 15 .fin)))))))))))))))) [4, 5]) .leaf)) (Try.f67.body.getD .skip) [a0, a1] w R by kernel_rfl) h)

/-! ### 74: (*handbill/hblref8.Disk).begin -/
def sh74 (a0 a1 a2 : Value) (w : World) (R : Value → World → Prop) : Prop :=
 RunA Try.prog (nilV a0) fun t12_1 =>
 RunA Try.prog (Instr.fieldAt 88 t12_1 5) fun t13_2 =>
 RunW Try.prog (Instr.loadAt 3 t13_2) w fun t14_3 =>
 RunA Try.prog (bin .add 3 (.tmp 14) (.const (.int .i64 1)) t14_3 (.int .i64 1)) fun t15_4 =>
 RunA Try.prog (nilV a0) fun t16_5 =>
 RunA Try.prog (Instr.fieldAt 88 t16_5 5) fun t17_6 =>
 RunU Try.prog (Instr.storeAt 3 t17_6 t15_4) w fun w =>
 lp 2 (fun n_9 t8_7 t9_8 w =>
 RunA Try.prog (nilV a0) fun t20_10 =>
 RunA Try.prog (Instr.fieldAt 88 t20_10 4) fun t21_11 =>
 RunW Try.prog (Instr.loadAt 86 t21_11) w fun t22_12 =>
 RunW Try.prog (Builtin.len_ #[86] 3 #[t22_12]) w fun t23_13 =>
 RunA Try.prog (bin .lss 3 (.tmp 18) (.tmp 23) t9_8 t23_13) fun t24_14 =>
 IfB t24_14 (
 jn 5 (fun t0_15 t1_16 t2_17 t8_18 t9_19 w =>
 RunA Try.prog (bin .add 3 (.tmp 25) (.const (.int .i64 1)) t9_19 (.int .i64 1)) fun t26_21 =>
 (t0_15 : Value) = a0 ∧ ((t1_16 : Value) = a1 ∧ ((t2_17 : Value) = a2 ∧ (n_9 t8_18 t26_21 w)))) fun j_20 =>
 RunA Try.prog (nilV a0) fun t28_22 =>
 RunA Try.prog (Instr.fieldAt 88 t28_22 4) fun t29_23 =>
 RunW Try.prog (Instr.loadAt 86 t29_23) w fun t30_24 =>
 RunA Try.prog (Instr.indexAt 86 t30_24 t9_8) fun t32_25 =>
 RunW Try.prog (Instr.loadAt 107 t32_25) w fun t33_26 =>
 RunV Try.prog (Instr.alloc 107 true (.tuple #[])) w fun t10_27 w =>
 RunU Try.prog (Instr.storeAt 107 t10_27 t33_26) w fun w =>
 drw (fun S_28 w =>
 RunA Try.prog (Instr.fieldAt 107 t10_27 0) fun t34_29 =>
 RunS Try.prog S_28 (Instr.loadAt 3 t34_29) fun t35_30 =>
 RunA Try.prog (nilV a0) fun t37_31 =>
 RunA Try.prog (Instr.fieldAt 88 t37_31 5) fun t38_32 =>
 RunS Try.prog S_28 (Instr.loadAt 3 t38_32) fun t39_33 =>
 RunS Try.prog S_28 (bin .neq 3 (.tmp 35) (.tmp 39) t35_30 t39_33) fun t40_34 =>
 IfB t40_34 (
 j_20 a0 a1 a2 t8_7 t9_8 w) (
 RunA Try.prog (Instr.fieldAt 107 t10_27 1) fun t41_35 =>
 RunW Try.prog (Instr.loadAt 3 t41_35) w fun t42_36 =>
 jn 5 (fun t0_37 t1_38 t2_39 t8_40 t9_41 w =>
 j_20 t0_37 t1_38 t2_39 t8_40 t9_41 w) fun j_42 =>
 RunW Try.prog (bin .eql 3 (.tmp 42) (.const (.int .i64 1)) t42_36 (.int .i64 1)) w fun t44_43 =>
 IfB t44_43 (
 RunA Try.prog (Instr.fieldAt 107 t10_27 2) fun t46_44 =>
 RunW Try.prog (Instr.loadAt 3 t46_44) w fun t47_45 =>
 RunA Try.prog (Instr.fieldAt 107 t10_27 3) fun t48_46 =>
 RunW Try.prog (Instr.loadAt 3 t48_46) w fun t49_47 =>
 CallF Try.prog 56 #[a0, t47_45, t49_47] w fun t50_48 w =>
 j_42 a0 a1 a2 t8_7 t9_8 w) (
 jn 5 (fun t0_49 t1_50 t2_51 t8_52 t9_53 w =>
 j_42 t0_49 t1_50 t2_51 t8_52 t9_53 w) fun j_54 =>
 RunW Try.prog (bin .eql 3 (.tmp 42) (.const (.int .i64 2)) t42_36 (.int .i64 2)) w fun t52_55 =>
 IfB t52_55 (
 j_54 a0 a1 a2 (.bool true) t9_8 w) (
 j_54 a0 a1 a2 t8_7 t9_8 w)))) w) (
 RunA Try.prog (nilV a0) fun t55_56 =>
 RunA Try.prog (Instr.fieldAt 88 t55_56 6) fun t56_57 =>
 RunW Try.prog (Instr.loadAt 4 t56_57) w fun t57_58 =>
 IfB t57_58 (
 R (.tuple #[t8_7, (.int .i64 9)]) w) (
 jn 1 (fun t8_59 w =>
 R (.tuple #[t8_59, (.int .i64 0)]) w) fun j_60 =>
 IfB a2 (
 CallF Try.prog 79 #[a1] w fun t63_61 w =>
 RunA Try.prog (Op.unary .not t63_61) fun t64_62 =>
 IfB t64_62 (
 R (.tuple #[t8_7, (.int .i64 11)]) w) (
 j_60 t8_7 w)) (
 j_60 t8_7 w)))) [(.bool false), (.int .i64 0)] w
theorem sh74_calls {a0 a1 a2 : Value} {w : World} {R : Value → World → Prop} (h : sh74 a0 a1 a2 w R) : CallF Try.prog 74 #[a0, a1, a2] w R :=
  calls_of_denF (mk := false) (args := [a0, a1, a2]) (an := (.seq (.ops [0, 1, 2]) (.seq (.ops [0, 1, 2]) (.seq (.ops [0, 1, 2, 8]) (.seq (.seq (.ops [0, 1, 2, 8, 9]) (.blk (.loop [0, 1, 2] [8, 9] (.seq (.seq (.ops [0, 1, 2, 8, 9, 24]) (.cond .leaf .leaf)) (.seq (.join [0, 1, 2, 8, 9] (.blk (.seq (.ops [0, 1, 2, 8, 9, 10]) (.seq (.seq (.draw (.q 0 (.q 1 (.q 2 (.q 3 (.q 4 (.q 5 (.q 6 .fin))))))) [0, 1, 2, 8, 9, 10, 40]) (.cond .leaf .leaf)) (.seq (.ops [0, 1, 2, 8, 9, 10, 42]) (.blk (.join [0, 1, 2, 8, 9] (.seq (.ops [0, 1, 2, 8, 9, 10, 42, 43]) (.cond (.ops [0, 1, 2, 8, 9]) (.join [0, 1, 2, 8, 9] (.seq (.ops [0, 1, 2, 8, 9, 51]) (.cond (.ops [0, 1, 2, 8, 9]) .leaf)))))))))))) (.ops [0, 1, 2, 8, 9])))))) (.seq (.blk (.seq (.ops [1, 2, 8, 53]) (.cond (.seq (.ops [6, 7]) .leaf) (.join [8] (.seq (.ops [8, 59]) (.cond (.seq (.ops [6, 7]) .leaf) .leaf)))))) (.seq (.ops [6, 7]) .leaf))))))) (c := Try.f74.body.getD .skip) hentD Try.func74 rfl (Nat.le_of_ble_eq_true (by kernel_rfl))
    (Eq.mp (show sh74 a0 a1 a2 w R = denF Try.prog entD false Try.f74 (.seq (.ops [0, 1, 2]) (.seq (.ops [0, 1, 2]) (.seq (.ops [0, 1, 2, 8]) (.seq (.seq (.ops [0, 1, 2, 8, 9]) (.blk (.loop [0, 1, 2] [8, 9] (.seq (.seq (.ops [0, 1, 2, 8, 9, 24]) (.cond .leaf .leaf)) (.seq (.join [0, 1, 2, 8, 9] (.blk (.seq (.ops [0, 1, 2, 8, 9, 10]) (.seq (.seq (.draw (.q 0 (.q 1 (.q 2 (.q 3 (.q 4 (.q 5 (.q 6 .fin))))))) [0, 1, 2, 8, 9, 10, 40]) (.cond .leaf .leaf)) (.seq (.ops [0, 1, 2, 8, 9, 10, 42]) (.blk (.join [0, 1, 2, 8, 9] (.seq (.ops [0, 1, 2, 8, 9, 10, 42, 43]) (.cond (.ops [0, 1, 2, 8, 9]) (.join [0, 1, 2, 8, 9] (.seq (.ops [0, 1, 2, 8, 9, 51]) (.cond (.ops [0, 1, 2, 8, 9]) .leaf)))))))))))) (.ops [0, 1, 2, 8, 9])))))) (.seq (.blk (.seq (.ops [1, 2, 8, 53]) (.cond (.seq (.ops [6, 7]) .leaf) (.join [8] (.seq (.ops [8, 59]) (.cond (.seq (.ops [6, 7]) .leaf) .leaf)))))) (.seq (.ops [6, 7]) .leaf)))))) (Try.f74.body.getD .skip) [a0, a1, a2] w R by kernel_rfl) h)

/-! ### 75: handbill/hblref8.find -/
def sh75 (a0 a1 : Value) (w : World) (R : Value → World → Prop) : Prop :=
 lp 1 (fun n_2 t5_1 w =>
 RunW Try.prog (Builtin.len_ #[84] 3 #[a0]) w fun t8_3 =>
 RunA Try.prog (bin .lss 3 (.tmp 6) (.tmp 8) t5_1 t8_3) fun t9_4 =>
 IfB t9_4 (
 RunA Try.prog (Instr.indexAt 84 a0 t5_1) fun t14_5 =>
 RunA Try.prog (Instr.fieldAt 109 t14_5 0) fun t15_6 =>
 RunW Try.prog (Instr.loadAt 9 t15_6) w fun t16_7 =>
 RunW Try.prog (bin .eql 9 (.tmp 16) (.tmp 17) t16_7 a1) w fun t18_8 =>
 IfB t18_8 (
 R t5_1 w) (
 RunA Try.prog (bin .add 3 (.tmp 10) (.const (.int .i64 1)) t5_1 (.int .i64 1)) fun t11_9 =>
 (a0 : Value) = a0 ∧ ((a1 : Value) = a1 ∧ (n_2 t11_9 w)))) (
 R (.int .i64 (-1)) w)) [(.int .i64 0)] w
theorem sh75_calls {a0 a1 : Value} {w : World} {R : Value → World → Prop} (h : sh75 a0 a1 w R) : CallF Try.prog 75 #[a0, a1] w R :=
  calls_of_denF (mk := false) (args := [a0, a1]) (an := (.seq (.ops [0, 1]) (.seq (.seq (.ops [0, 1, 5]) (.blk (.loop [0, 1] [5] (.seq (.seq (.ops [0, 1, 5, 9]) (.cond .leaf .leaf)) (.seq (.blk (.seq (.ops [0, 1, 5, 18]) (.cond (.seq (.ops [4]) .leaf) .leaf))) (.ops [0, 1, 5])))))) (.seq (.ops [4]) .leaf)))) (c := Try.f75.body.getD .skip) hentD Try.func75 rfl (Nat.le_of_ble_eq_true (by kernel_rfl))
    (Eq.mp (show sh75 a0 a1 w R = denF Try.prog entD false Try.f75 (.seq (.ops [0, 1]) (.seq (.seq (.ops [0, 1, 5]) (.blk (.loop [0, 1] [5] (.seq (.seq (.ops [0, 1, 5, 9]) (.cond .leaf .leaf)) (.seq (.blk (.seq (.ops [0, 1, 5, 18]) (.cond (.seq (.ops [4]) .leaf) .leaf))) (.ops [0, 1, 5])))))) (.seq (.ops [4]) .leaf))) (Try.f75.body.getD .skip) [a0, a1] w R by kernel_rfl) h)

/-! ### 76: handbill/hblref8.data -/
def sh76 (a0 a1 : Value) (w : World) (R : Value → World → Prop) : Prop :=
 CallF Try.prog 75 #[a0, a1] w fun t8_1 w =>
 RunA Try.prog (bin .lss 3 (.tmp 9) (.const (.int .i64 0)) t8_1 (.int .i64 0)) fun t10_2 =>
 IfB t10_2 (
 R (.slice none 0 0) w) (
 RunA Try.prog (Instr.indexAt 84 a0 t8_1) fun t13_3 =>
 RunA Try.prog (Instr.fieldAt 109 t13_3 1) fun t14_4 =>
 RunW Try.prog (Instr.loadAt 29 t14_4) w fun t15_5 =>
 R t15_5 w)
theorem sh76_calls {a0 a1 : Value} {w : World} {R : Value → World → Prop} (h : sh76 a0 a1 w R) : CallF Try.prog 76 #[a0, a1] w R :=
  calls_of_denF (mk := false) (args := [a0, a1]) (an := (.seq (.ops [0, 1]) (.seq (.ops [0, 5]) (.seq (.seq (.ops [0, 5, 10]) (.cond (.seq (.ops [4]) .leaf) .leaf)) (.seq (.ops [4]) .leaf))))) (c := Try.f76.body.getD .skip) hentD Try.func76 rfl (Nat.le_of_ble_eq_true (by kernel_rfl))
    (Eq.mp (show sh76 a0 a1 w R = denF Try.prog entD false Try.f76 (.seq (.ops [0, 1]) (.seq (.ops [0, 5]) (.seq (.seq (.ops [0, 5, 10]) (.cond (.seq (.ops [4]) .leaf) .leaf)) (.seq (.ops [4]) .leaf)))) (Try.f76.body.getD .skip) [a0, a1] w R by kernel_rfl) h)

/-! ### 77: handbill/hblref8.used -/
def sh77 (a0 : Value) (w : World) (R : Value → World → Prop) : Prop :=
 lp 2 (fun n_3 t3_1 t4_2 w =>
 RunW Try.prog (Builtin.len_ #[84] 3 #[a0]) w fun t7_4 =>
 RunA Try.prog (bin .lss 3 (.tmp 5) (.tmp 7) t4_2 t7_4) fun t8_5 =>
 IfB t8_5 (
 RunA Try.prog (Instr.indexAt 84 a0 t4_2) fun t14_6 =>
 RunA Try.prog (Instr.fieldAt 109 t14_6 1) fun t15_7 =>
 RunW Try.prog (Instr.loadAt 29 t15_7) w fun t16_8 =>
 RunW Try.prog (Builtin.len_ #[29] 3 #[t16_8]) w fun t17_9 =>
 RunA Try.prog (bin .add 3 (.tmp 11) (.tmp 17) t3_1 t17_9) fun t18_10 =>
 RunA Try.prog (bin .add 3 (.tmp 9) (.const (.int .i64 1)) t4_2 (.int .i64 1)) fun t10_11 =>
 (a0 : Value) = a0 ∧ (n_3 t18_10 t10_11 w)) (
 R t3_1 w)) [(.int .i64 0), (.int .i64 0)] w
theorem sh77_calls {a0 : Value} {w : World} {R : Value → World → Prop} (h : sh77 a0 w R) : CallF Try.prog 77 #[a0] w R :=
  calls_of_denF (mk := false) (args := [a0]) (an := (.seq (.ops [0]) (.seq (.ops [0, 3]) (.seq (.seq (.ops [0, 3, 4]) (.blk (.loop [0] [3, 4] (.seq (.seq (.ops [0, 3, 4, 8]) (.cond .leaf .leaf)) (.seq (.blk (.ops [0, 3, 4])) (.ops [0, 3, 4])))))) (.seq (.ops [2]) .leaf))))) (c := Try.f77.body.getD .skip) hentD Try.func77 rfl (Nat.le_of_ble_eq_true (by kernel_rfl))
    (Eq.mp (show sh77 a0 w R = denF Try.prog entD false Try.f77 (.seq (.ops [0]) (.seq (.ops [0, 3]) (.seq (.seq (.ops [0, 3, 4]) (.blk (.loop [0] [3, 4] (.seq (.seq (.ops [0, 3, 4, 8]) (.cond .leaf .leaf)) (.seq (.blk (.ops [0, 3, 4])) (.ops [0, 3, 4])))))) (.seq (.ops [2]) .leaf)))) (Try.f77.body.getD .skip) [a0] w R by kernel_rfl) h)

/-! ### 78: (*handbill/hblref8.Disk).change -/
def sh78 (a0 a1 : Value) (w : World) (R : Value → World → Prop) : Prop :=
 RunV Try.prog (Instr.box 105 a1) w fun t3_1 w =>
 drw (fun S_2 w =>
 RunA Try.prog (nilV a0) fun t6_3 =>
 RunA Try.prog (Instr.fieldAt 88 t6_3 1) fun t7_4 =>
 RunS Try.prog S_2 (Instr.loadAt 84 t7_4) fun t8_5 =>
 RunS Try.prog S_2 (Instr.loadAt 105 t3_1) fun t9_6 =>
 CallF Try.prog 80 #[t8_5, t9_6] w fun t10_7 w =>
 RunA Try.prog (nilV a0) fun t11_8 =>
 RunA Try.prog (Instr.fieldAt 88 t11_8 1) fun t12_9 =>
 RunU Try.prog (Instr.storeAt 84 t12_9 t10_7) w fun w =>
 drw (fun S_10 w =>
 RunA Try.prog (nilV a0) fun t15_11 =>
 RunA Try.prog (Instr.fieldAt 88 t15_11 3) fun t16_12 =>
 RunS Try.prog S_10 (Instr.loadAt 85 t16_12) fun t17_13 =>
 RunS Try.prog S_10 (Instr.loadAt 105 t3_1) fun t18_14 =>
 RunV Try.prog (Instr.buildSlice 85 1 #[(0, t18_14)]) w fun t19_15 w =>
 S_10 w ∧ (
 RunV Try.prog (Builtin.append_ #[85, 85] 85 #[t17_13, t19_15]) w fun t20_16 w =>
 RunA Try.prog (nilV a0) fun t21_17 =>
 RunA Try.prog (Instr.fieldAt 88 t21_17 3) fun t22_18 =>
 RunU Try.prog (Instr.storeAt 85 t22_18 t20_16) w fun w =>
 R (.tuple #[]) w)) w) w
theorem sh78_calls {a0 a1 : Value} {w : World} {R : Value → World → Prop} (h : sh78 a0 a1 w R) : CallF Try.prog 78 #[a0, a1] w R :=
  calls_of_denF (mk := false) (args := [a0, a1]) (an := (.seq (.ops [0, 3]) (.seq (.draw (.q 0 (.q 1 (.q 2 (.q 3 (.q 4 (.q 5 (.one 6 (.q 7 (.q 8 (.one 9 .fin)))))))))) [0, 3]) (.draw (.q 0 (.q 1 (.q 2 (.q 3 (.q 4 (.q 5 (.one 6 (.one 7 (.q 8 (.q 9 (.one 10 .fin))))))))))) [])))) (c := Try.f78.body.getD .skip) hentD Try.func78 rfl (Nat.le_of_ble_eq_true (by kernel_rfl))
    (Eq.mp (show sh78 a0 a1 w R = denF Try.prog entD false Try.f78 (.seq (.ops [0, 3]) (.seq (.draw (.q 0 (.q 1 (.q 2 (.q 3 (.q 4 (.q 5 (.one 6 (.q 7 (.q 8 (.one 9 .fin)))))))))) [0, 3]) (.draw (.q 0 (.q 1 (.q 2 (.q 3 (.q 4 (.q 5 (.one 6 (.one 7 (.q 8 (.q 9 (.one 10 .fin))))))))))) []))) (Try.f78.body.getD .skip) [a0, a1] w R by kernel_rfl) h)

/-! ### 79: handbill/hblref8.name -/
def sh79 (a0 : Value) (w : World) (R : Value → World → Prop) : Prop :=
 lp 1 (fun n_2 t3_1 w =>
 RunW Try.prog (Builtin.len_ #[9] 3 #[a0]) w fun t7_3 =>
 RunA Try.prog (bin .lss 3 (.tmp 5) (.tmp 7) t3_1 t7_3) fun t8_4 =>
 IfB t8_4 (
 RunA Try.prog (Instr.index 9 a0 t3_1) fun t13_5 =>
 jn 2 (fun t0_6 t3_7 w =>
 RunA Try.prog (bin .add 3 (.tmp 9) (.const (.int .i64 1)) t3_7 (.int .i64 1)) fun t10_9 =>
 (t0_6 : Value) = a0 ∧ (n_2 t10_9 w)) fun j_8 =>
 RunA Try.prog (bin .lss 5 (.tmp 14) (.const (.int .u8 48)) t13_5 (.int .u8 48)) fun t15_10 =>
 IfB t15_10 (
 RunA Try.prog (bin .lss 5 (.tmp 21) (.const (.int .u8 97)) t13_5 (.int .u8 97)) fun t22_11 =>
 IfB t22_11 (
 RunW Try.prog (bin .neq 5 (.tmp 29) (.const (.int .u8 46)) t13_5 (.int .u8 46)) w fun t30_12 =>
 IfB t30_12 (
 RunW Try.prog (bin .neq 5 (.tmp 33) (.const (.int .u8 45)) t13_5 (.int .u8 45)) w fun t34_13 =>
 IfB t34_13 (
 R (.bool false) w) (
 j_8 a0 t3_1 w)) (
 j_8 a0 t3_1 w)) (
 RunA Try.prog (bin .gtr 5 (.tmp 24) (.const (.int .u8 122)) t13_5 (.int .u8 122)) fun t25_14 =>
 IfB t25_14 (
 RunW Try.prog (bin .neq 5 (.tmp 29) (.const (.int .u8 46)) t13_5 (.int .u8 46)) w fun t30_15 =>
 IfB t30_15 (
 RunW Try.prog (bin .neq 5 (.tmp 33) (.const (.int .u8 45)) t13_5 (.int .u8 45)) w fun t34_16 =>
 IfB t34_16 (
 R (.bool false) w) (
 j_8 a0 t3_1 w)) (
 j_8 a0 t3_1 w)) (
 j_8 a0 t3_1 w))) (
 RunA Try.prog (bin .gtr 5 (.tmp 17) (.const (.int .u8 57)) t13_5 (.int .u8 57)) fun t18_17 =>
 IfB t18_17 (
 RunA Try.prog (bin .lss 5 (.tmp 21) (.const (.int .u8 97)) t13_5 (.int .u8 97)) fun t22_18 =>
 IfB t22_18 (
 RunW Try.prog (bin .neq 5 (.tmp 29) (.const (.int .u8 46)) t13_5 (.int .u8 46)) w fun t30_19 =>
 IfB t30_19 (
 RunW Try.prog (bin .neq 5 (.tmp 33) (.const (.int .u8 45)) t13_5 (.int .u8 45)) w fun t34_20 =>
 IfB t34_20 (
 R (.bool false) w) (
 j_8 a0 t3_1 w)) (
 j_8 a0 t3_1 w)) (
 RunA Try.prog (bin .gtr 5 (.tmp 24) (.const (.int .u8 122)) t13_5 (.int .u8 122)) fun t25_21 =>
 IfB t25_21 (
 RunW Try.prog (bin .neq 5 (.tmp 29) (.const (.int .u8 46)) t13_5 (.int .u8 46)) w fun t30_22 =>
 IfB t30_22 (
 RunW Try.prog (bin .neq 5 (.tmp 33) (.const (.int .u8 45)) t13_5 (.int .u8 45)) w fun t34_23 =>
 IfB t34_23 (
 R (.bool false) w) (
 j_8 a0 t3_1 w)) (
 j_8 a0 t3_1 w)) (
 j_8 a0 t3_1 w))) (
 j_8 a0 t3_1 w))) (
 RunW Try.prog (Builtin.len_ #[9] 3 #[a0]) w fun t37_24 =>
 RunA Try.prog (bin .geq 3 (.tmp 37) (.const (.int .i64 1)) t37_24 (.int .i64 1)) fun t38_25 =>
 IfB t38_25 (
 RunW Try.prog (Builtin.len_ #[9] 3 #[a0]) w fun t41_26 =>
 RunA Try.prog (bin .leq 3 (.tmp 41) (.const (.int .i64 40)) t41_26 (.int .i64 40)) fun t42_27 =>
 R t42_27 w) (
 R (.bool false) w))) [(.int .i64 0)] w
theorem sh79_calls {a0 : Value} {w : World} {R : Value → World → Prop} (h : sh79 a0 w R) : CallF Try.prog 79 #[a0] w R :=
  calls_of_denF (mk := false) (args := [a0]) (an := (.seq (.ops [0]) (.seq (.seq (.ops [0, 3]) (.blk (.loop [0] [3] (.seq (.seq (.ops [0, 3, 8]) (.cond .leaf .leaf)) (.seq (.blk (.seq (.ops [0, 3, 4]) (.join [0, 3] (.seq (.ops [0, 3, 35]) (.cond (.seq (.ops [2]) .leaf) .leaf))))) (.ops [0, 3])))))) (.seq (.ops [2]) .leaf)))) (c := Try.f79.body.getD .skip) hentD Try.func79 rfl (Nat.le_of_ble_eq_true (by kernel_rfl))
    (Eq.mp (show sh79 a0 w R = denF Try.prog entD false Try.f79 (.seq (.ops [0]) (.seq (.seq (.ops [0, 3]) (.blk (.loop [0] [3] (.seq (.seq (.ops [0, 3, 8]) (.cond .leaf .leaf)) (.seq (.blk (.seq (.ops [0, 3, 4]) (.join [0, 3] (.seq (.ops [0, 3, 35]) (.cond (.seq (.ops [2]) .leaf) .leaf))))) (.ops [0, 3])))))) (.seq (.ops [2]) .leaf))) (Try.f79.body.getD .skip) [a0] w R by kernel_rfl) h)

/-! ### 80: handbill/hblref8.apply -/
def sh80 (a0 a1 : Value) (w : World) (R : Value → World → Prop) : Prop :=
 RunV Try.prog (Instr.box 105 a1) w fun t3_1 w =>
 RunA Try.prog (Instr.fieldAt 105 t3_1 0) fun t6_2 =>
 RunW Try.prog (Instr.loadAt 3 t6_2) w fun t7_3 =>
 RunW Try.prog (bin .eql 3 (.tmp 7) (.const (.int .i64 1)) t7_3 (.int .i64 1)) w fun t9_4 =>
 IfB t9_4 (
 drw (fun S_5 w =>
 RunA Try.prog (Instr.fieldAt 105 t3_1 2) fun t11_6 =>
 RunS Try.prog S_5 (Instr.loadAt 9 t11_6) fun t12_7 =>
 RunA Try.prog (Instr.fieldAt 105 t3_1 2) fun t14_8 =>
 RunS Try.prog S_5 (Instr.loadAt 9 t14_8) fun t15_9 =>
 RunA Try.prog (Instr.fieldAt 105 t3_1 4) fun t18_10 =>
 RunS Try.prog S_5 (Instr.loadAt 29 t18_10) fun t19_11 =>
 CallF Try.prog 76 #[a0, t15_9] w fun t16_12 w =>
 S_5 w ∧ (
 CallF Try.prog 16 #[t16_12] w fun t17_13 w =>
 S_5 w ∧ (
 RunV Try.prog (Builtin.append_ #[29, 29] 29 #[t17_13, t19_11]) w fun t20_14 w =>
 S_5 w ∧ (
 CallF Try.prog 84 #[a0, t12_7, t20_14] w fun t21_15 w =>
 R t21_15 w)))) w) (
 RunW Try.prog (bin .eql 3 (.tmp 7) (.const (.int .i64 2)) t7_3 (.int .i64 2)) w fun t23_16 =>
 IfB t23_16 (
 drw (fun S_17 w =>
 RunA Try.prog (Instr.fieldAt 105 t3_1 2) fun t25_18 =>
 RunS Try.prog S_17 (Instr.loadAt 9 t25_18) fun t26_19 =>
 RunA Try.prog (Instr.fieldAt 105 t3_1 2) fun t28_20 =>
 RunS Try.prog S_17 (Instr.loadAt 9 t28_20) fun t29_21 =>
 RunA Try.prog (Instr.fieldAt 105 t3_1 1) fun t31_22 =>
 RunS Try.prog S_17 (Instr.loadAt 3 t31_22) fun t32_23 =>
 CallF Try.prog 76 #[a0, t29_21] w fun t30_24 w =>
 S_17 w ∧ (
 RunA Try.prog (Instr.sliceAt 29 t30_24 none (some t32_23) none) fun t33_25 =>
 CallF Try.prog 16 #[t33_25] w fun t34_26 w =>
 S_17 w ∧ (
 CallF Try.prog 84 #[a0, t26_19, t34_26] w fun t35_27 w =>
 R t35_27 w))) w) (
 RunW Try.prog (bin .eql 3 (.tmp 7) (.const (.int .i64 3)) t7_3 (.int .i64 3)) w fun t37_28 =>
 IfB t37_28 (
 RunA Try.prog (Instr.fieldAt 105 t3_1 3) fun t39_29 =>
 RunW Try.prog (Instr.loadAt 9 t39_29) w fun t40_30 =>
 CallF Try.prog 76 #[a0, t40_30] w fun t41_31 w =>
 drw (fun S_32 w =>
 RunA Try.prog (Instr.fieldAt 105 t3_1 3) fun t43_33 =>
 RunS Try.prog S_32 (Instr.loadAt 9 t43_33) fun t44_34 =>
 RunA Try.prog (Instr.fieldAt 105 t3_1 2) fun t46_35 =>
 RunS Try.prog S_32 (Instr.loadAt 9 t46_35) fun t47_36 =>
 CallF Try.prog 85 #[a0, t44_34] w fun t45_37 w =>
 S_32 w ∧ (
 CallF Try.prog 84 #[t45_37, t47_36, t41_31] w fun t49_38 w =>
 R t49_38 w)) w) (
 RunA Try.prog (Instr.fieldAt 105 t3_1 2) fun t51_39 =>
 RunW Try.prog (Instr.loadAt 9 t51_39) w fun t52_40 =>
 CallF Try.prog 85 #[a0, t52_40] w fun t53_41 w =>
 R t53_41 w)))
theorem sh80_calls {a0 a1 : Value} {w : World} {R : Value → World → Prop} (h : sh80 a0 a1 w R) : CallF Try.prog 80 #[a0, a1] w R :=
  calls_of_denF (mk := false) (args := [a0, a1]) (an := (.seq (.ops [0, 3]) (.seq (.seq (.ops [0, 3, 7]) (.blk (.seq (.ops [0, 3, 7, 8]) (.cond (.seq (.draw (.q 0 (.q 1 (.q 2 (.q 3 (.q 4 (.q 5 (.q 8 (.q 9 (.one 6 (.one 7 (.one 10 (.one 11 (.q 12 .fin))))))))))))) [4]) .leaf) (.seq (.ops [0, 3, 7, 22]) (.cond (.seq (.draw (.q 0 (.q 1 (.q 2 (.q 3 (.q 4 (.q 5 (.q 7 (.q 8 (.one 6 (.q 9 (.one 10 (.one 11 (.q 12 .fin))))))))))))) [4]) .leaf) (.seq (.ops [0, 3, 36]) (.cond (.seq (.ops [0, 3, 5]) (.seq (.draw (.q 0 (.q 1 (.q 2 (.q 4 (.q 5 (.q 6 (.one 3 (.one 7 (.q 8 .fin))))))))) [4]) .leaf)) .leaf)))))))) (.seq (.ops [4]) .leaf)))) (c := Try.f80.body.getD .skip) hentD Try.func80 rfl (Nat.le_of_ble_eq_true (by kernel_rfl))
    (Eq.mp (show sh80 a0 a1 w R = denF Try.prog entD false Try.f80 (.seq (.ops [0, 3]) (.seq (.seq (.ops [0, 3, 7]) (.blk (.seq (.ops [0, 3, 7, 8]) (.cond (.seq (.draw (.q 0 (.q 1 (.q 2 (.q 3 (.q 4 (.q 5 (.q 8 (.q 9 (.one 6 (.one 7 (.one 10 (.one 11 (.q 12 .fin))))))))))))) [4]) .leaf) (.seq (.ops [0, 3, 7, 22]) (.cond (.seq (.draw (.q 0 (.q 1 (.q 2 (.q 3 (.q 4 (.q 5 (.q 7 (.q 8 (.one 6 (.q 9 (.one 10 (.one 11 (.q 12 .fin))))))))))))) [4]) .leaf) (.seq (.ops [0, 3, 36]) (.cond (.seq (.ops [0, 3, 5]) (.seq (.draw (.q 0 (.q 1 (.q 2 (.q 4 (.q 5 (.q 6 (.one 3 (.one 7 (.q 8 .fin))))))))) [4]) .leaf)) .leaf)))))))) (.seq (.ops [4]) .leaf))) (Try.f80.body.getD .skip) [a0, a1] w R by kernel_rfl) h)

/-! ### 84: handbill/hblref8.with -/
def sh84 (a0 a1 a2 : Value) (w : World) (R : Value → World → Prop) : Prop :=
 CallF Try.prog 85 #[a0, a1] w fun t10_1 w =>
 jn 4 (fun t0_2 t1_3 t2_4 t7_5 w =>
 drw (fun S_7 w =>
 RunA Try.prog (Instr.sliceAt 84 t0_2 none (some t7_5) none) fun t29_8 =>
 RunA Try.prog (Instr.sliceAt 84 t0_2 (some t7_5) none none) fun t38_9 =>
 (RunV Try.prog (Instr.buildSlice 84 0 #[]) w fun t26_10 w =>
 (RunV Try.prog (Builtin.append_ #[84, 84] 84 #[t26_10, t29_8]) w fun t30_11 w =>
 RunV Try.prog (Instr.build 109 #[(0, t1_3), (1, t2_4)]) w fun t33_12 w =>
 RunV Try.prog (Instr.buildSlice 84 1 #[(0, t33_12)]) w fun t34_13 w =>
 RunV Try.prog (Builtin.append_ #[84, 84] 84 #[t30_11, t34_13]) w fun t35_14 w =>
 RunV Try.prog (Builtin.append_ #[84, 84] 84 #[t35_14, t38_9]) w fun t39_15 w =>
 R t39_15 w) ∧ (
 (RunV Try.prog (Instr.build 109 #[(0, t1_3), (1, t2_4)]) w fun t33_16 w =>
 (RunV Try.prog (Builtin.append_ #[84, 84] 84 #[t26_10, t29_8]) w fun t30_17 w =>
 RunV Try.prog (Instr.buildSlice 84 1 #[(0, t33_16)]) w fun t34_18 w =>
 RunV Try.prog (Builtin.append_ #[84, 84] 84 #[t30_17, t34_18]) w fun t35_19 w =>
 RunV Try.prog (Builtin.append_ #[84, 84] 84 #[t35_19, t38_9]) w fun t39_20 w =>
 R t39_20 w) ∧ (
 (RunV Try.prog (Instr.buildSlice 84 1 #[(0, t33_16)]) w fun t34_21 w =>
 RunV Try.prog (Builtin.append_ #[84, 84] 84 #[t26_10, t29_8]) w fun t30_22 w =>
 RunV Try.prog (Builtin.append_ #[84, 84] 84 #[t30_22, t34_21]) w fun t35_23 w =>
 RunV Try.prog (Builtin.append_ #[84, 84] 84 #[t35_23, t38_9]) w fun t39_24 w =>
 R t39_24 w) ∧ (
 True))) ∧ (
 True))) ∧ (
 (RunV Try.prog (Instr.build 109 #[(0, t1_3), (1, t2_4)]) w fun t33_25 w =>
 (RunV Try.prog (Instr.buildSlice 84 0 #[]) w fun t26_26 w =>
 (RunV Try.prog (Builtin.append_ #[84, 84] 84 #[t26_26, t29_8]) w fun t30_27 w =>
 RunV Try.prog (Instr.buildSlice 84 1 #[(0, t33_25)]) w fun t34_28 w =>
 RunV Try.prog (Builtin.append_ #[84, 84] 84 #[t30_27, t34_28]) w fun t35_29 w =>
 RunV Try.prog (Builtin.append_ #[84, 84] 84 #[t35_29, t38_9]) w fun t39_30 w =>
 R t39_30 w) ∧ (
 (RunV Try.prog (Instr.buildSlice 84 1 #[(0, t33_25)]) w fun t34_31 w =>
 RunV Try.prog (Builtin.append_ #[84, 84] 84 #[t26_26, t29_8]) w fun t30_32 w =>
 RunV Try.prog (Builtin.append_ #[84, 84] 84 #[t30_32, t34_31]) w fun t35_33 w =>
 RunV Try.prog (Builtin.append_ #[84, 84] 84 #[t35_33, t38_9]) w fun t39_34 w =>
 R t39_34 w) ∧ (
 True))) ∧ (
 (RunV Try.prog (Instr.buildSlice 84 1 #[(0, t33_25)]) w fun t34_35 w =>
 RunV Try.prog (Instr.buildSlice 84 0 #[]) w fun t26_36 w =>
 RunV Try.prog (Builtin.append_ #[84, 84] 84 #[t26_36, t29_8]) w fun t30_37 w =>
 RunV Try.prog (Builtin.append_ #[84, 84] 84 #[t30_37, t34_35]) w fun t35_38 w =>
 RunV Try.prog (Builtin.append_ #[84, 84] 84 #[t35_38, t38_9]) w fun t39_39 w =>
 R t39_39 w) ∧ (
 True))) ∧ (
 True))) w) fun j_6 =>
 lp 1 (fun n_41 t7_40 w =>
 RunW Try.prog (Builtin.len_ #[84] 3 #[t10_1]) w fun t13_42 =>
 RunA Try.prog (bin .lss 3 (.tmp 11) (.tmp 13) t7_40 t13_42) fun t14_43 =>
 IfB t14_43 (
 RunA Try.prog (Instr.indexAt 84 t10_1 t7_40) fun t18_44 =>
 RunA Try.prog (Instr.fieldAt 109 t18_44 0) fun t19_45 =>
 RunW Try.prog (Instr.loadAt 9 t19_45) w fun t20_46 =>
 RunA Try.prog (bin .lss 9 (.tmp 20) (.tmp 21) t20_46 a1) fun t22_47 =>
 IfB t22_47 (
 RunA Try.prog (bin .add 3 (.tmp 24) (.const (.int .i64 1)) t7_40 (.int .i64 1)) fun t25_48 =>
 (t10_1 : Value) = t10_1 ∧ ((a1 : Value) = a1 ∧ ((a2 : Value) = a2 ∧ (n_41 t25_48 w)))) (
 j_6 t10_1 a1 a2 t7_40 w)) (
 j_6 t10_1 a1 a2 t7_40 w)) [(.int .i64 0)] w
theorem sh84_calls {a0 a1 a2 : Value} {w : World} {R : Value → World → Prop} (h : sh84 a0 a1 a2 w R) : CallF Try.prog 84 #[a0, a1, a2] w R :=
  calls_of_denF (mk := false) (args := [a0, a1, a2]) (an := (.seq (.ops [0, 1, 2]) (.seq (.ops [0, 1, 2]) (.seq (.ops [0, 1, 2, 7]) (.seq (.join [0, 1, 2, 7] (.blk (.loop [0, 1, 2] [7] (.seq (.seq (.ops [0, 1, 2, 7, 23]) (.cond .leaf .leaf)) (.blk (.ops [0, 1, 2, 7])))))) (.seq (.draw (.q 1 (.q 2 (.q 3 (.q 5 (.q 6 (.q 10 (.q 11 (.q 12 (.alt 0 (.alt 4 (.one 7 (.one 8 (.one 9 (.one 13 (.q 14 .fin))))) (.alt 7 (.alt 4 (.one 8 (.one 9 (.one 13 (.q 14 .fin)))) (.alt 8 (.one 4 (.one 9 (.one 13 (.q 14 .fin)))) .fin)) .fin)) (.alt 7 (.alt 0 (.alt 4 (.one 8 (.one 9 (.one 13 (.q 14 .fin)))) (.alt 8 (.one 4 (.one 9 (.one 13 (.q 14 .fin)))) .fin)) (.alt 8 (.one 0 (.one 4 (.one 9 (.one 13 (.q 14 .fin))))) .fin)) .fin)))))))))) [6]) .leaf)))))) (c := Try.f84.body.getD .skip) hentD Try.func84 rfl (Nat.le_of_ble_eq_true (by kernel_rfl))
    (Eq.mp (show sh84 a0 a1 a2 w R = denF Try.prog entD false Try.f84 (.seq (.ops [0, 1, 2]) (.seq (.ops [0, 1, 2]) (.seq (.ops [0, 1, 2, 7]) (.seq (.join [0, 1, 2, 7] (.blk (.loop [0, 1, 2] [7] (.seq (.seq (.ops [0, 1, 2, 7, 23]) (.cond .leaf .leaf)) (.blk (.ops [0, 1, 2, 7])))))) (.seq (.draw (.q 1 (.q 2 (.q 3 (.q 5 (.q 6 (.q 10 (.q 11 (.q 12 (.alt 0 (.alt 4 (.one 7 (.one 8 (.one 9 (.one 13 (.q 14 .fin))))) (.alt 7 (.alt 4 (.one 8 (.one 9 (.one 13 (.q 14 .fin)))) (.alt 8 (.one 4 (.one 9 (.one 13 (.q 14 .fin)))) .fin)) .fin)) (.alt 7 (.alt 0 (.alt 4 (.one 8 (.one 9 (.one 13 (.q 14 .fin)))) (.alt 8 (.one 4 (.one 9 (.one 13 (.q 14 .fin)))) .fin)) (.alt 8 (.one 0 (.one 4 (.one 9 (.one 13 (.q 14 .fin))))) .fin)) .fin)))))))))) [6]) .leaf))))) (Try.f84.body.getD .skip) [a0, a1, a2] w R by kernel_rfl) h)

/-! ### 85: handbill/hblref8.without -/
def sh85 (a0 a1 : Value) (w : World) (R : Value → World → Prop) : Prop :=
 lp 2 (fun n_3 t5_1 t6_2 w =>
 RunW Try.prog (Builtin.len_ #[84] 3 #[a0]) w fun t9_4 =>
 RunA Try.prog (bin .lss 3 (.tmp 7) (.tmp 9) t6_2 t9_4) fun t10_5 =>
 IfB t10_5 (
 jn 4 (fun t0_6 t1_7 t5_8 t6_9 w =>
 RunA Try.prog (bin .add 3 (.tmp 11) (.const (.int .i64 1)) t6_9 (.int .i64 1)) fun t12_11 =>
 (t0_6 : Value) = a0 ∧ ((t1_7 : Value) = a1 ∧ (n_3 t5_8 t12_11 w))) fun j_10 =>
 RunA Try.prog (Instr.indexAt 84 a0 t6_2) fun t15_12 =>
 RunA Try.prog (Instr.fieldAt 109 t15_12 0) fun t16_13 =>
 RunW Try.prog (Instr.loadAt 9 t16_13) w fun t17_14 =>
 RunW Try.prog (bin .neq 9 (.tmp 17) (.tmp 18) t17_14 a1) w fun t19_15 =>
 IfB t19_15 (
 RunA Try.prog (Instr.indexAt 84 a0 t6_2) fun t23_16 =>
 RunW Try.prog (Instr.loadAt 109 t23_16) w fun t24_17 =>
 RunV Try.prog (Instr.buildSlice 84 1 #[(0, t24_17)]) w fun t25_18 w =>
 RunV Try.prog (Builtin.append_ #[84, 84] 84 #[t5_1, t25_18]) w fun t26_19 w =>
 j_10 a0 a1 t26_19 t6_2 w) (
 j_10 a0 a1 t5_1 t6_2 w)) (
 R t5_1 w)) [(.slice none 0 0), (.int .i64 0)] w
theorem sh85_calls {a0 a1 : Value} {w : World} {R : Value → World → Prop} (h : sh85 a0 a1 w R) : CallF Try.prog 85 #[a0, a1] w R :=
  calls_of_denF (mk := false) (args := [a0, a1]) (an := (.seq (.ops [0, 1]) (.seq (.ops [0, 1, 5]) (.seq (.seq (.ops [0, 1, 5, 6]) (.blk (.loop [0, 1] [5, 6] (.seq (.seq (.ops [0, 1, 5, 6, 10]) (.cond .leaf .leaf)) (.seq (.blk (.join [0, 1, 5, 6] (.seq (.ops [0, 1, 5, 6, 19]) (.cond (.ops [0, 1, 5, 6]) .leaf)))) (.ops [0, 1, 5, 6])))))) (.seq (.ops [4]) .leaf))))) (c := Try.f85.body.getD .skip) hentD Try.func85 rfl (Nat.le_of_ble_eq_true (by kernel_rfl))
    (Eq.mp (show sh85 a0 a1 w R = denF Try.prog entD false Try.f85 (.seq (.ops [0, 1]) (.seq (.ops [0, 1, 5]) (.seq (.seq (.ops [0, 1, 5, 6]) (.blk (.loop [0, 1] [5, 6] (.seq (.seq (.ops [0, 1, 5, 6, 10]) (.cond .leaf .leaf)) (.seq (.blk (.join [0, 1, 5, 6] (.seq (.ops [0, 1, 5, 6, 19]) (.cond (.ops [0, 1, 5, 6]) .leaf)))) (.ops [0, 1, 5, 6])))))) (.seq (.ops [4]) .leaf)))) (Try.f85.body.getD .skip) [a0, a1] w R by kernel_rfl) h)

end Go.Proofs.Ytdoopdbfajgnjaa
