/-
  The shallow forms of the functions, printed by a program (ez.py) out of Lean's print of the loaded functions; each is proved to imply the function's contract: the equations are the kernel's.
-/
import Derived.Test.YtlflpbflpcmckaaDoorProg
import Derived.Test.YtlflpbflpcmckaaDoorEzSound
namespace Go.Proofs.YtlflpbflpcmckaaDoor
open Go Go.Ez
set_option linter.unusedVariables false
set_option maxRecDepth 100000
def entD : List Nat := [9, 10, 11, 12, 13, 14, 15, 16, 17, 18, 19, 20, 21, 22, 23, 31, 32, 33, 34, 35, 36, 37, 50, 61]
theorem hentD : ∀ g, memN g entD = true → Enters Tryd.prog g := enters_all (by kernel_rfl)

/-! ### 3: handbill/hbllaw6.XmlPairs -/
def sh3 (a0 : Value) (w : World) (R : Value → World → Prop) : Prop :=
 CallF Tryd.prog 9 #[] w fun t7_1 w =>
 RunA Tryd.prog (Op.unary .not t7_1) fun t8_2 =>
 IfB t8_2 (
 R (.bool false) w) (
 RunW Tryd.prog (Builtin.len_ #[22] 3 #[a0]) w fun t10_3 =>
 RunA Tryd.prog (bin .gtr 3 (.tmp 10) (.const (.int .i64 21000)) t10_3 (.int .i64 21000)) fun t11_4 =>
 IfB t11_4 (
 CallF Tryd.prog 9 #[] w fun t12_5 w =>
 R t12_5 w) (
 CallF Tryd.prog 10 #[a0] w fun t15_6 w =>
 RunA Tryd.prog (Instr.extract t15_6 0) fun t16_7 =>
 RunA Tryd.prog (Instr.extract t15_6 1) fun t17_8 =>
 RunW Tryd.prog (bin .neq 25 (.tmp 18) (.const (.int .i64 0)) t17_8 (.int .i64 0)) w fun t19_9 =>
 IfB t19_9 (
 CallF Tryd.prog 9 #[] w fun t20_10 w =>
 IfB t20_10 (
 RunW Tryd.prog (Builtin.len_ #[24] 3 #[t16_7]) w fun t23_11 =>
 RunW Tryd.prog (bin .eql 3 (.tmp 23) (.const (.int .i64 0)) t23_11 (.int .i64 0)) w fun t24_12 =>
 R t24_12 w) (
 R (.bool false) w)) (
 lp 2 (fun n_15 t5_13 t6_14 w =>
 RunW Tryd.prog (Builtin.len_ #[24] 3 #[t16_7]) w fun t28_16 =>
 RunA Tryd.prog (bin .lss 3 (.tmp 26) (.tmp 28) t6_14 t28_16) fun t29_17 =>
 IfB t29_17 (
 RunA Tryd.prog (Instr.indexAt 24 t16_7 t6_14) fun t34_18 =>
 RunA Tryd.prog (Instr.fieldAt 30 t34_18 0) fun t35_19 =>
 RunW Tryd.prog (Instr.loadAt 3 t35_19) w fun t36_20 =>
 jn 3 (fun t3_21 t5_22 t6_23 w =>
 RunW Tryd.prog (Builtin.len_ #[24] 3 #[t5_22]) w fun t133_25 =>
 RunA Tryd.prog (bin .gtr 3 (.tmp 133) (.const (.int .i64 64)) t133_25 (.int .i64 64)) fun t134_26 =>
 IfB t134_26 (
 R (.bool false) w) (
 RunA Tryd.prog (bin .add 3 (.tmp 30) (.const (.int .i64 1)) t6_23 (.int .i64 1)) fun t31_27 =>
 (t3_21 : Value) = t16_7 ∧ (n_15 t5_22 t31_27 w))) fun j_24 =>
 RunW Tryd.prog (bin .eql 3 (.tmp 36) (.const (.int .i64 1)) t36_20 (.int .i64 1)) w fun t38_28 =>
 IfB t38_28 (
 jn 3 (fun t3_29 t5_30 t6_31 w =>
 RunA Tryd.prog (Instr.indexAt 24 t3_29 t6_31) fun t57_33 =>
 RunW Tryd.prog (Instr.loadAt 30 t57_33) w fun t58_34 =>
 RunV Tryd.prog (Instr.buildSlice 24 1 #[(0, t58_34)]) w fun t59_35 w =>
 RunV Tryd.prog (Builtin.append_ #[24, 24] 24 #[t5_30, t59_35]) w fun t60_36 w =>
 j_24 t3_29 t60_36 t6_31 w) fun j_32 =>
 RunW Tryd.prog (Builtin.len_ #[24] 3 #[t5_13]) w fun t40_37 =>
 RunW Tryd.prog (bin .eql 3 (.tmp 40) (.const (.int .i64 0)) t40_37 (.int .i64 0)) w fun t41_38 =>
 IfB t41_38 (
 RunA Tryd.prog (bin .gtr 3 (.tmp 43) (.const (.int .i64 0)) t6_14 (.int .i64 0)) fun t44_39 =>
 IfB t44_39 (
 R (.bool false) w) (
 RunA Tryd.prog (Instr.indexAt 24 t16_7 t6_14) fun t49_40 =>
 RunA Tryd.prog (Instr.fieldAt 30 t49_40 2) fun t50_41 =>
 RunW Tryd.prog (Instr.loadAt 9 t50_41) w fun t51_42 =>
 RunW Tryd.prog (bin .eql 9 (.tmp 51) (.const (.string ⟨#[]⟩)) t51_42 (.string ⟨#[]⟩)) w fun t52_43 =>
 IfB t52_43 (
 R (.bool false) w) (
 j_32 t16_7 t5_13 t6_14 w))) (
 RunA Tryd.prog (Instr.indexAt 24 t16_7 t6_14) fun t49_44 =>
 RunA Tryd.prog (Instr.fieldAt 30 t49_44 2) fun t50_45 =>
 RunW Tryd.prog (Instr.loadAt 9 t50_45) w fun t51_46 =>
 RunW Tryd.prog (bin .eql 9 (.tmp 51) (.const (.string ⟨#[]⟩)) t51_46 (.string ⟨#[]⟩)) w fun t52_47 =>
 IfB t52_47 (
 R (.bool false) w) (
 j_32 t16_7 t5_13 t6_14 w))) (
 jn 3 (fun t3_48 t5_49 t6_50 w =>
 j_24 t3_48 t5_49 t6_50 w) fun j_51 =>
 RunW Tryd.prog (bin .eql 3 (.tmp 36) (.const (.int .i64 2)) t36_20 (.int .i64 2)) w fun t62_52 =>
 IfB t62_52 (
 drw (fun S_53 w =>
 RunS Tryd.prog S_53 (Builtin.len_ #[24] 3 #[t5_13]) fun t64_54 =>
 RunS Tryd.prog S_53 (bin .eql 3 (.tmp 64) (.const (.int .i64 0)) t64_54 (.int .i64 0)) fun t65_55 =>
 IfB t65_55 (
 R (.bool false) w) (
 RunS Tryd.prog S_53 (Builtin.len_ #[24] 3 #[t5_13]) fun t69_56 =>
 RunA Tryd.prog (bin .sub 3 (.tmp 69) (.const (.int .i64 1)) t69_56 (.int .i64 1)) fun t70_57 =>
 RunA Tryd.prog (Instr.indexAt 24 t5_13 t70_57) fun t71_58 =>
 RunA Tryd.prog (Instr.fieldAt 30 t71_58 2) fun t72_59 =>
 RunS Tryd.prog S_53 (Instr.loadAt 9 t72_59) fun t73_60 =>
 RunA Tryd.prog (Instr.indexAt 24 t16_7 t6_14) fun t76_61 =>
 RunA Tryd.prog (Instr.fieldAt 30 t76_61 2) fun t77_62 =>
 RunS Tryd.prog S_53 (Instr.loadAt 9 t77_62) fun t78_63 =>
 RunS Tryd.prog S_53 (bin .neq 9 (.tmp 73) (.tmp 78) t73_60 t78_63) fun t79_64 =>
 IfB t79_64 (
 R (.bool false) w) (
 RunS Tryd.prog S_53 (Builtin.len_ #[24] 3 #[t5_13]) fun t84_65 =>
 RunA Tryd.prog (bin .sub 3 (.tmp 84) (.const (.int .i64 1)) t84_65 (.int .i64 1)) fun t85_66 =>
 RunA Tryd.prog (Instr.indexAt 24 t5_13 t85_66) fun t86_67 =>
 RunA Tryd.prog (Instr.fieldAt 30 t86_67 1) fun t87_68 =>
 RunS Tryd.prog S_53 (Instr.loadAt 9 t87_68) fun t88_69 =>
 RunA Tryd.prog (Instr.indexAt 24 t16_7 t6_14) fun t91_70 =>
 RunA Tryd.prog (Instr.fieldAt 30 t91_70 1) fun t92_71 =>
 RunS Tryd.prog S_53 (Instr.loadAt 9 t92_71) fun t93_72 =>
 RunS Tryd.prog S_53 (bin .neq 9 (.tmp 88) (.tmp 93) t88_69 t93_72) fun t94_73 =>
 IfB t94_73 (
 R (.bool false) w) (
 RunW Tryd.prog (Builtin.len_ #[24] 3 #[t5_13]) w fun t98_74 =>
 RunA Tryd.prog (bin .sub 3 (.tmp 98) (.const (.int .i64 1)) t98_74 (.int .i64 1)) fun t99_75 =>
 RunA Tryd.prog (Instr.sliceAt 24 t5_13 none (some t99_75) none) fun t100_76 =>
 j_51 t16_7 t100_76 t6_14 w)))) w) (
 RunW Tryd.prog (bin .eql 3 (.tmp 36) (.const (.int .i64 3)) t36_20 (.int .i64 3)) w fun t102_77 =>
 IfB t102_77 (
 RunW Tryd.prog (Builtin.len_ #[24] 3 #[t5_13]) w fun t104_78 =>
 RunW Tryd.prog (bin .eql 3 (.tmp 104) (.const (.int .i64 0)) t104_78 (.int .i64 0)) w fun t105_79 =>
 IfB t105_79 (
 R (.bool false) w) (
 RunA Tryd.prog (Instr.indexAt 24 t16_7 t6_14) fun t109_80 =>
 RunA Tryd.prog (Instr.fieldAt 30 t109_80 3) fun t110_81 =>
 RunW Tryd.prog (Instr.loadAt 9 t110_81) w fun t111_82 =>
 RunW Tryd.prog (bin .eql 9 (.tmp 111) (.const (.string ⟨#[]⟩)) t111_82 (.string ⟨#[]⟩)) w fun t112_83 =>
 IfB t112_83 (
 R (.bool false) w) (
 RunA Tryd.prog (Instr.indexAt 24 t16_7 t6_14) fun t117_84 =>
 RunA Tryd.prog (Instr.fieldAt 30 t117_84 3) fun t118_85 =>
 RunW Tryd.prog (Instr.loadAt 9 t118_85) w fun t119_86 =>
 RunW Tryd.prog (Builtin.len_ #[9] 3 #[t119_86]) w fun t120_87 =>
 RunA Tryd.prog (bin .gtr 3 (.tmp 120) (.const (.int .i64 8000)) t120_87 (.int .i64 8000)) fun t121_88 =>
 IfB t121_88 (
 R (.bool false) w) (
 RunA Tryd.prog (bin .sub 3 (.tmp 125) (.const (.int .i64 1)) t6_14 (.int .i64 1)) fun t126_89 =>
 RunA Tryd.prog (Instr.indexAt 24 t16_7 t126_89) fun t127_90 =>
 RunA Tryd.prog (Instr.fieldAt 30 t127_90 0) fun t128_91 =>
 RunW Tryd.prog (Instr.loadAt 3 t128_91) w fun t129_92 =>
 RunW Tryd.prog (bin .eql 3 (.tmp 129) (.const (.int .i64 3)) t129_92 (.int .i64 3)) w fun t130_93 =>
 IfB t130_93 (
 R (.bool false) w) (
 j_51 t16_7 t5_13 t6_14 w))))) (
 R (.bool false) w)))) (
 CallF Tryd.prog 9 #[] w fun t135_94 w =>
 IfB t135_94 (
 RunW Tryd.prog (Builtin.len_ #[24] 3 #[t5_13]) w fun t138_95 =>
 RunW Tryd.prog (bin .eql 3 (.tmp 138) (.const (.int .i64 0)) t138_95 (.int .i64 0)) w fun t139_96 =>
 IfB t139_96 (
 RunW Tryd.prog (Builtin.len_ #[24] 3 #[t16_7]) w fun t143_97 =>
 RunA Tryd.prog (bin .geq 3 (.tmp 143) (.const (.int .i64 2)) t143_97 (.int .i64 2)) fun t144_98 =>
 R t144_98 w) (
 R (.bool false) w)) (
 R (.bool false) w))) [(.slice none 0 0), (.int .i64 0)] w)))
theorem sh3_calls {a0 : Value} {w : World} {R : Value → World → Prop} (h : sh3 a0 w R) : CallF Tryd.prog 3 #[a0] w R :=
  calls_of_denF (mk := false) (args := [a0]) (an := (.seq (.ops [0]) (.seq (.seq (.ops [0, 8]) (.cond (.seq (.ops [2]) .leaf) .leaf)) (.seq (.seq (.ops [0, 11]) (.cond (.seq (.ops [2]) .leaf) .leaf)) (.seq (.ops [3, 4]) (.seq (.seq (.ops [3, 19]) (.cond (.seq (.ops [2]) .leaf) .leaf)) (.seq (.ops [3, 5]) (.seq (.seq (.ops [3, 5, 6]) (.blk (.loop [3] [5, 6] (.seq (.seq (.ops [3, 5, 6, 29]) (.cond .leaf .leaf)) (.seq (.blk (.seq (.seq (.ops [3, 5, 6, 36]) (.blk (.join [3, 5, 6] (.seq (.ops [3, 5, 6, 36, 37]) (.cond (.seq (.join [3, 5, 6] (.seq (.ops [3, 5, 6, 53]) (.cond (.seq (.ops [2]) .leaf) .leaf))) (.ops [3, 5, 6])) (.join [3, 5, 6] (.seq (.ops [3, 5, 6, 36, 61]) (.cond (.seq (.seq (.draw (.q 0 (.q 1 (.q 2 (.q 3 (.sp 4 (.q 4 (.q 5 (.q 6 (.q 7 (.q 8 (.q 9 (.q 10 (.q 11 (.q 12 (.q 13 (.q 14 (.q 15 (.q 16 (.q 17 (.q 18 (.q 19 (.q 20 (.q 21 (.q 22 (.q 23 (.q 24 (.q 25 (.q 26 (.q 27 (.q 28 (.q 29 (.q 30 (.q 31 (.q 32 .fin))))))))))))))))))))))))))))) (.q 4 (.q 5 (.q 6 (.q 7 (.q 8 (.q 9 (.q 10 (.q 11 (.q 12 (.q 13 (.q 14 (.q 15 (.q 16 (.q 17 (.q 18 (.sp 19 (.q 19 (.q 20 (.q 21 (.q 22 (.q 23 (.q 24 (.q 25 (.q 26 (.q 27 (.q 28 (.q 29 (.q 30 (.q 31 (.q 32 .fin)))))))))))))) (.q 19 (.q 20 (.q 21 (.q 22 (.q 23 (.q 24 (.q 25 (.q 26 (.q 27 (.q 28 (.q 29 (.q 30 (.q 31 (.q 32 .fin))))))))))))))))))))))))))))))))))) [3, 5, 6, 95]) (.cond (.seq (.ops [2]) .leaf) .leaf)) (.ops [3, 5, 6])) (.seq (.ops [3, 5, 6, 101]) (.cond (.seq (.ops [3, 5, 6, 131]) (.cond (.seq (.ops [2]) .leaf) .leaf)) (.seq (.ops [2]) .leaf))))))))))) (.seq (.ops [3, 5, 6, 134]) (.cond (.seq (.ops [2]) .leaf) .leaf)))) (.ops [3, 5, 6])))))) (.seq (.ops [2]) .leaf))))))))) (c := Tryd.f3.body.getD .skip) hentD Tryd.func3 rfl (Nat.le_of_ble_eq_true (by kernel_rfl))
    (Eq.mp (show sh3 a0 w R = denF Tryd.prog entD false Tryd.f3 (.seq (.ops [0]) (.seq (.seq (.ops [0, 8]) (.cond (.seq (.ops [2]) .leaf) .leaf)) (.seq (.seq (.ops [0, 11]) (.cond (.seq (.ops [2]) .leaf) .leaf)) (.seq (.ops [3, 4]) (.seq (.seq (.ops [3, 19]) (.cond (.seq (.ops [2]) .leaf) .leaf)) (.seq (.ops [3, 5]) (.seq (.seq (.ops [3, 5, 6]) (.blk (.loop [3] [5, 6] (.seq (.seq (.ops [3, 5, 6, 29]) (.cond .leaf .leaf)) (.seq (.blk (.seq (.seq (.ops [3, 5, 6, 36]) (.blk (.join [3, 5, 6] (.seq (.ops [3, 5, 6, 36, 37]) (.cond (.seq (.join [3, 5, 6] (.seq (.ops [3, 5, 6, 53]) (.cond (.seq (.ops [2]) .leaf) .leaf))) (.ops [3, 5, 6])) (.join [3, 5, 6] (.seq (.ops [3, 5, 6, 36, 61]) (.cond (.seq (.seq (.draw (.q 0 (.q 1 (.q 2 (.q 3 (.sp 4 (.q 4 (.q 5 (.q 6 (.q 7 (.q 8 (.q 9 (.q 10 (.q 11 (.q 12 (.q 13 (.q 14 (.q 15 (.q 16 (.q 17 (.q 18 (.q 19 (.q 20 (.q 21 (.q 22 (.q 23 (.q 24 (.q 25 (.q 26 (.q 27 (.q 28 (.q 29 (.q 30 (.q 31 (.q 32 .fin))))))))))))))))))))))))))))) (.q 4 (.q 5 (.q 6 (.q 7 (.q 8 (.q 9 (.q 10 (.q 11 (.q 12 (.q 13 (.q 14 (.q 15 (.q 16 (.q 17 (.q 18 (.sp 19 (.q 19 (.q 20 (.q 21 (.q 22 (.q 23 (.q 24 (.q 25 (.q 26 (.q 27 (.q 28 (.q 29 (.q 30 (.q 31 (.q 32 .fin)))))))))))))) (.q 19 (.q 20 (.q 21 (.q 22 (.q 23 (.q 24 (.q 25 (.q 26 (.q 27 (.q 28 (.q 29 (.q 30 (.q 31 (.q 32 .fin))))))))))))))))))))))))))))))))))) [3, 5, 6, 95]) (.cond (.seq (.ops [2]) .leaf) .leaf)) (.ops [3, 5, 6])) (.seq (.ops [3, 5, 6, 101]) (.cond (.seq (.ops [3, 5, 6, 131]) (.cond (.seq (.ops [2]) .leaf) .leaf)) (.seq (.ops [2]) .leaf))))))))))) (.seq (.ops [3, 5, 6, 134]) (.cond (.seq (.ops [2]) .leaf) .leaf)))) (.ops [3, 5, 6])))))) (.seq (.ops [2]) .leaf)))))))) (Tryd.f3.body.getD .skip) [a0] w R by kernel_rfl) h)

/-! ### 4: handbill/hbllaw6.XmlSpaces -/
def sh4 (a0 a1 : Value) (w : World) (R : Value → World → Prop) : Prop :=
 CallF Tryd.prog 9 #[] w fun t9_1 w =>
 RunA Tryd.prog (Op.unary .not t9_1) fun t10_2 =>
 IfB t10_2 (
 R (.bool false) w) (
 RunW Tryd.prog (Builtin.len_ #[9] 3 #[a0]) w fun t12_3 =>
 RunA Tryd.prog (bin .gtr 3 (.tmp 12) (.const (.int .i64 200)) t12_3 (.int .i64 200)) fun t13_4 =>
 IfB t13_4 (
 CallF Tryd.prog 9 #[] w fun t29_5 w =>
 R t29_5 w) (
 RunW Tryd.prog (Builtin.len_ #[9] 3 #[a1]) w fun t16_6 =>
 RunA Tryd.prog (bin .gtr 3 (.tmp 16) (.const (.int .i64 200)) t16_6 (.int .i64 200)) fun t17_7 =>
 IfB t17_7 (
 CallF Tryd.prog 9 #[] w fun t29_8 w =>
 R t29_8 w) (
 CallF Tryd.prog 11 #[a0] w fun t21_9 w =>
 RunA Tryd.prog (Op.unary .not t21_9) fun t22_10 =>
 IfB t22_10 (
 CallF Tryd.prog 9 #[] w fun t29_11 w =>
 R t29_11 w) (
 CallF Tryd.prog 11 #[a1] w fun t26_12 w =>
 RunA Tryd.prog (Op.unary .not t26_12) fun t27_13 =>
 IfB t27_13 (
 CallF Tryd.prog 9 #[] w fun t29_14 w =>
 R t29_14 w) (
 CallF Tryd.prog 12 #[a0] w fun t31_15 w =>
 CallF Tryd.prog 12 #[a1] w fun t33_16 w =>
 RunA Tryd.prog (bin .add 9 (.const (.string ⟨#[60, 114, 32, 120, 109, 108, 110, 115, 61, 34]⟩)) (.tmp 35) (.string ⟨#[60, 114, 32, 120, 109, 108, 110, 115, 61, 34]⟩) t31_15) fun t36_17 =>
 RunA Tryd.prog (bin .add 9 (.tmp 36) (.const (.string ⟨#[34, 32, 120, 109, 108, 110, 115, 58, 107, 61, 34]⟩)) t36_17 (.string ⟨#[34, 32, 120, 109, 108, 110, 115, 58, 107, 61, 34]⟩)) fun t37_18 =>
 RunA Tryd.prog (bin .add 9 (.tmp 37) (.tmp 38) t37_18 t33_16) fun t39_19 =>
 RunA Tryd.prog (bin .add 9 (.tmp 39) (.const (.string ⟨#[34, 32, 107, 58, 122, 61, 34, 49, 34, 32, 121, 61, 34, 50, 34, 62, 60, 107, 58, 115, 32, 120, 109, 108, 110, 115, 58, 107, 61, 34]⟩)) t39_19 (.string ⟨#[34, 32, 107, 58, 122, 61, 34, 49, 34, 32, 121, 61, 34, 50, 34, 62, 60, 107, 58, 115, 32, 120, 109, 108, 110, 115, 58, 107, 61, 34]⟩)) fun t40_20 =>
 RunA Tryd.prog (bin .add 9 (.tmp 40) (.tmp 41) t40_20 t31_15) fun t42_21 =>
 RunA Tryd.prog (bin .add 9 (.tmp 42) (.const (.string ⟨#[34, 47, 62, 60, 116, 32, 120, 109, 108, 110, 115, 61, 34]⟩)) t42_21 (.string ⟨#[34, 47, 62, 60, 116, 32, 120, 109, 108, 110, 115, 61, 34]⟩)) fun t43_22 =>
 RunA Tryd.prog (bin .add 9 (.tmp 43) (.tmp 44) t43_22 t33_16) fun t45_23 =>
 RunA Tryd.prog (bin .add 9 (.tmp 45) (.const (.string ⟨#[34, 47, 62, 60, 107, 58, 117, 47, 62, 60, 120, 109, 108, 58, 118, 47, 62, 60, 47, 114, 62]⟩)) t45_23 (.string ⟨#[34, 47, 62, 60, 107, 58, 117, 47, 62, 60, 120, 109, 108, 58, 118, 47, 62, 60, 47, 114, 62]⟩)) fun t46_24 =>
 RunV Tryd.prog (convert 9 22 t46_24) w fun t47_25 w =>
 CallF Tryd.prog 10 #[t47_25] w fun t48_26 w =>
 RunA Tryd.prog (Instr.extract t48_26 0) fun t49_27 =>
 RunA Tryd.prog (Instr.extract t48_26 1) fun t50_28 =>
 RunW Tryd.prog (bin .neq 25 (.tmp 51) (.const (.int .i64 0)) t50_28 (.int .i64 0)) w fun t52_29 =>
 IfB t52_29 (
 R (.bool false) w) (
 RunW Tryd.prog (Builtin.len_ #[24] 3 #[t49_27]) w fun t55_30 =>
 RunW Tryd.prog (bin .neq 3 (.tmp 55) (.const (.int .i64 10)) t55_30 (.int .i64 10)) w fun t56_31 =>
 IfB t56_31 (
 R (.bool false) w) (
 RunA Tryd.prog (Instr.indexAt 24 t49_27 (.int .i64 0)) fun t60_32 =>
 RunA Tryd.prog (Instr.fieldAt 30 t60_32 4) fun t61_33 =>
 RunW Tryd.prog (Instr.loadAt 28 t61_33) w fun t62_34 =>
 RunW Tryd.prog (Builtin.len_ #[28] 3 #[t62_34]) w fun t63_35 =>
 RunW Tryd.prog (bin .neq 3 (.tmp 63) (.const (.int .i64 2)) t63_35 (.int .i64 2)) w fun t64_36 =>
 IfB t64_36 (
 R (.bool false) w) (
 CallF Tryd.prog 9 #[] w fun t66_37 w =>
 IfB t66_37 (
 RunA Tryd.prog (Instr.indexAt 24 t49_27 (.int .i64 0)) fun t69_38 =>
 RunA Tryd.prog (Instr.fieldAt 30 t69_38 1) fun t70_39 =>
 RunW Tryd.prog (Instr.loadAt 9 t70_39) w fun t71_40 =>
 RunW Tryd.prog (bin .eql 9 (.tmp 71) (.tmp 72) t71_40 a0) w fun t73_41 =>
 IfB t73_41 (
 RunA Tryd.prog (Instr.indexAt 24 t49_27 (.int .i64 0)) fun t77_42 =>
 RunA Tryd.prog (Instr.fieldAt 30 t77_42 4) fun t78_43 =>
 RunW Tryd.prog (Instr.loadAt 28 t78_43) w fun t79_44 =>
 RunA Tryd.prog (Instr.indexAt 28 t79_44 (.int .i64 0)) fun t80_45 =>
 RunA Tryd.prog (Instr.fieldAt 35 t80_45 0) fun t81_46 =>
 RunW Tryd.prog (Instr.loadAt 9 t81_46) w fun t82_47 =>
 RunW Tryd.prog (bin .eql 9 (.tmp 82) (.tmp 83) t82_47 a1) w fun t84_48 =>
 IfB t84_48 (
 RunA Tryd.prog (Instr.indexAt 24 t49_27 (.int .i64 0)) fun t88_49 =>
 RunA Tryd.prog (Instr.fieldAt 30 t88_49 4) fun t89_50 =>
 RunW Tryd.prog (Instr.loadAt 28 t89_50) w fun t90_51 =>
 RunA Tryd.prog (Instr.indexAt 28 t90_51 (.int .i64 0)) fun t91_52 =>
 RunA Tryd.prog (Instr.fieldAt 35 t91_52 1) fun t92_53 =>
 RunW Tryd.prog (Instr.loadAt 9 t92_53) w fun t93_54 =>
 RunW Tryd.prog (bin .eql 9 (.tmp 93) (.const (.string ⟨#[122]⟩)) t93_54 (.string ⟨#[122]⟩)) w fun t94_55 =>
 IfB t94_55 (
 RunA Tryd.prog (Instr.indexAt 24 t49_27 (.int .i64 0)) fun t98_56 =>
 RunA Tryd.prog (Instr.fieldAt 30 t98_56 4) fun t99_57 =>
 RunW Tryd.prog (Instr.loadAt 28 t99_57) w fun t100_58 =>
 RunA Tryd.prog (Instr.indexAt 28 t100_58 (.int .i64 1)) fun t101_59 =>
 RunA Tryd.prog (Instr.fieldAt 35 t101_59 0) fun t102_60 =>
 RunW Tryd.prog (Instr.loadAt 9 t102_60) w fun t103_61 =>
 RunW Tryd.prog (bin .eql 9 (.tmp 103) (.const (.string ⟨#[]⟩)) t103_61 (.string ⟨#[]⟩)) w fun t104_62 =>
 IfB t104_62 (
 RunA Tryd.prog (Instr.indexAt 24 t49_27 (.int .i64 1)) fun t108_63 =>
 RunA Tryd.prog (Instr.fieldAt 30 t108_63 1) fun t109_64 =>
 RunW Tryd.prog (Instr.loadAt 9 t109_64) w fun t110_65 =>
 RunW Tryd.prog (bin .eql 9 (.tmp 110) (.tmp 111) t110_65 a0) w fun t112_66 =>
 IfB t112_66 (
 RunA Tryd.prog (Instr.indexAt 24 t49_27 (.int .i64 1)) fun t116_67 =>
 RunA Tryd.prog (Instr.fieldAt 30 t116_67 2) fun t117_68 =>
 RunW Tryd.prog (Instr.loadAt 9 t117_68) w fun t118_69 =>
 RunW Tryd.prog (bin .eql 9 (.tmp 118) (.const (.string ⟨#[115]⟩)) t118_69 (.string ⟨#[115]⟩)) w fun t119_70 =>
 IfB t119_70 (
 RunA Tryd.prog (Instr.indexAt 24 t49_27 (.int .i64 3)) fun t123_71 =>
 RunA Tryd.prog (Instr.fieldAt 30 t123_71 1) fun t124_72 =>
 RunW Tryd.prog (Instr.loadAt 9 t124_72) w fun t125_73 =>
 RunW Tryd.prog (bin .eql 9 (.tmp 125) (.tmp 126) t125_73 a1) w fun t127_74 =>
 IfB t127_74 (
 RunA Tryd.prog (Instr.indexAt 24 t49_27 (.int .i64 5)) fun t131_75 =>
 RunA Tryd.prog (Instr.fieldAt 30 t131_75 1) fun t132_76 =>
 RunW Tryd.prog (Instr.loadAt 9 t132_76) w fun t133_77 =>
 RunW Tryd.prog (bin .eql 9 (.tmp 133) (.tmp 134) t133_77 a1) w fun t135_78 =>
 IfB t135_78 (
 RunA Tryd.prog (Instr.indexAt 24 t49_27 (.int .i64 7)) fun t139_79 =>
 RunA Tryd.prog (Instr.fieldAt 30 t139_79 1) fun t140_80 =>
 RunW Tryd.prog (Instr.loadAt 9 t140_80) w fun t141_81 =>
 RunW Tryd.prog (bin .eql 9 (.tmp 141) (.const (.string ⟨#[120, 109, 108]⟩)) t141_81 (.string ⟨#[120, 109, 108]⟩)) w fun t142_82 =>
 IfB t142_82 (
 RunA Tryd.prog (Instr.indexAt 24 t49_27 (.int .i64 9)) fun t146_83 =>
 RunA Tryd.prog (Instr.fieldAt 30 t146_83 1) fun t147_84 =>
 RunW Tryd.prog (Instr.loadAt 9 t147_84) w fun t148_85 =>
 RunW Tryd.prog (bin .eql 9 (.tmp 148) (.tmp 149) t148_85 a0) w fun t150_86 =>
 R t150_86 w) (
 R (.bool false) w)) (
 R (.bool false) w)) (
 R (.bool false) w)) (
 R (.bool false) w)) (
 R (.bool false) w)) (
 R (.bool false) w)) (
 R (.bool false) w)) (
 R (.bool false) w)) (
 R (.bool false) w)) (
 R (.bool false) w)))))))))
theorem sh4_calls {a0 a1 : Value} {w : World} {R : Value → World → Prop} (h : sh4 a0 a1 w R) : CallF Tryd.prog 4 #[a0, a1] w R :=
  calls_of_denF (mk := false) (args := [a0, a1]) (an := (.seq (.ops [0, 1]) (.seq (.seq (.ops [0, 1, 10]) (.cond (.seq (.ops [4]) .leaf) .leaf)) (.seq (.seq (.ops [0, 1, 28]) (.cond (.seq (.ops [4]) .leaf) .leaf)) (.seq (.ops [0, 1, 5, 6]) (.seq (.ops [0, 1, 7, 8]) (.seq (.seq (.ops [0, 1, 7, 65]) (.cond (.seq (.ops [4]) .leaf) .leaf)) (.seq (.ops [4]) .leaf)))))))) (c := Tryd.f4.body.getD .skip) hentD Tryd.func4 rfl (Nat.le_of_ble_eq_true (by kernel_rfl))
    (Eq.mp (show sh4 a0 a1 w R = denF Tryd.prog entD false Tryd.f4 (.seq (.ops [0, 1]) (.seq (.seq (.ops [0, 1, 10]) (.cond (.seq (.ops [4]) .leaf) .leaf)) (.seq (.seq (.ops [0, 1, 28]) (.cond (.seq (.ops [4]) .leaf) .leaf)) (.seq (.ops [0, 1, 5, 6]) (.seq (.ops [0, 1, 7, 8]) (.seq (.seq (.ops [0, 1, 7, 65]) (.cond (.seq (.ops [4]) .leaf) .leaf)) (.seq (.ops [4]) .leaf))))))) (Tryd.f4.body.getD .skip) [a0, a1] w R by kernel_rfl) h)

/-! ### 5: handbill/hbllaw6.XmlCuts -/
def sh5 (a0 a1 : Value) (w : World) (R : Value → World → Prop) : Prop :=
 CallF Tryd.prog 9 #[] w fun t14_1 w =>
 RunA Tryd.prog (Op.unary .not t14_1) fun t15_2 =>
 IfB t15_2 (
 R (.bool false) w) (
 RunW Tryd.prog (Builtin.len_ #[22] 3 #[a0]) w fun t17_3 =>
 RunA Tryd.prog (bin .gtr 3 (.tmp 17) (.const (.int .i64 9000)) t17_3 (.int .i64 9000)) fun t18_4 =>
 IfB t18_4 (
 CallF Tryd.prog 9 #[] w fun t23_5 w =>
 R t23_5 w) (
 RunA Tryd.prog (bin .lss 3 (.tmp 20) (.const (.int .i64 0)) a1 (.int .i64 0)) fun t21_6 =>
 IfB t21_6 (
 CallF Tryd.prog 9 #[] w fun t23_7 w =>
 R t23_7 w) (
 CallF Tryd.prog 10 #[a0] w fun t26_8 w =>
 RunA Tryd.prog (Instr.extract t26_8 0) fun t27_9 =>
 RunA Tryd.prog (Instr.extract t26_8 1) fun t28_10 =>
 jn 3 (fun t0_11 t1_12 t5_13 w =>
 RunV Tryd.prog (convert 22 9 t0_11) w fun t71_15 w =>
 RunA Tryd.prog (bin .add 9 (.const (.string ⟨#[32, 60, 33, 45, 45, 32, 120, 32, 45, 45, 62]⟩)) (.tmp 71) (.string ⟨#[32, 60, 33, 45, 45, 32, 120, 32, 45, 45, 62]⟩) t71_15) fun t72_16 =>
 RunA Tryd.prog (bin .add 9 (.tmp 72) (.const (.string ⟨#[10, 60, 33, 45, 45, 45, 45, 62]⟩)) t72_16 (.string ⟨#[10, 60, 33, 45, 45, 45, 45, 62]⟩)) fun t73_17 =>
 RunV Tryd.prog (convert 9 22 t73_17) w fun t74_18 w =>
 CallF Tryd.prog 10 #[t74_18] w fun t75_19 w =>
 RunA Tryd.prog (Instr.extract t75_19 0) fun t76_20 =>
 RunA Tryd.prog (Instr.extract t75_19 1) fun t77_21 =>
 RunV Tryd.prog (convert 22 9 t0_11) w fun t80_22 w =>
 RunA Tryd.prog (bin .add 9 (.tmp 80) (.const (.string ⟨#[60, 122, 47, 62]⟩)) t80_22 (.string ⟨#[60, 122, 47, 62]⟩)) fun t81_23 =>
 RunV Tryd.prog (convert 9 22 t81_23) w fun t82_24 w =>
 CallF Tryd.prog 10 #[t82_24] w fun t83_25 w =>
 RunA Tryd.prog (Instr.extract t83_25 0) fun t84_26 =>
 RunA Tryd.prog (Instr.extract t83_25 1) fun t85_27 =>
 RunW Tryd.prog (Builtin.len_ #[22] 3 #[t0_11]) w fun t89_28 =>
 RunA Tryd.prog (bin .rem 3 (.tmp 87) (.tmp 89) t1_12 t89_28) fun t90_29 =>
 RunA Tryd.prog (Instr.sliceAt 22 t0_11 none (some t90_29) none) fun t91_30 =>
 CallF Tryd.prog 10 #[t91_30] w fun t94_31 w =>
 RunA Tryd.prog (Instr.extract t94_31 0) fun t95_32 =>
 RunA Tryd.prog (Instr.extract t94_31 1) fun t96_33 =>
 jn 4 (fun t5_34 t7_35 t8_36 t10_37 w =>
 CallF Tryd.prog 9 #[] w fun t112_39 w =>
 IfB t112_39 (
 RunW Tryd.prog (bin .eql 25 (.tmp 114) (.const (.int .i64 0)) t8_36 (.int .i64 0)) w fun t115_40 =>
 IfB t115_40 (
 CallF Tryd.prog 14 #[t7_35] w fun t119_41 w =>
 CallF Tryd.prog 14 #[t5_34] w fun t121_42 w =>
 CallF Tryd.prog 13 #[t119_41, t121_42] w fun t122_43 w =>
 IfB t122_43 (
 RunW Tryd.prog (bin .neq 25 (.tmp 125) (.const (.int .i64 0)) t10_37 (.int .i64 0)) w fun t126_44 =>
 R t126_44 w) (
 R (.bool false) w)) (
 R (.bool false) w)) (
 R (.bool false) w)) fun j_38 =>
 RunW Tryd.prog (bin .eql 25 (.tmp 97) (.const (.int .i64 0)) t96_33 (.int .i64 0)) w fun t98_45 =>
 IfB t98_45 (
 CallF Tryd.prog 14 #[t95_32] w fun t101_46 w =>
 CallF Tryd.prog 14 #[t5_13] w fun t103_47 w =>
 CallF Tryd.prog 13 #[t101_46, t103_47] w fun t104_48 w =>
 RunA Tryd.prog (Op.unary .not t104_48) fun t105_49 =>
 IfB t105_49 (
 R (.bool false) w) (
 RunW Tryd.prog (Builtin.len_ #[22] 3 #[t91_30]) w fun t108_50 =>
 RunW Tryd.prog (bin .eql 3 (.tmp 108) (.const (.int .i64 0)) t108_50 (.int .i64 0)) w fun t109_51 =>
 IfB t109_51 (
 R (.bool false) w) (
 j_38 t5_13 t76_20 t77_21 t85_27 w))) (
 j_38 t5_13 t76_20 t77_21 t85_27 w)) fun j_14 =>
 RunW Tryd.prog (bin .neq 25 (.tmp 29) (.const (.int .i64 0)) t28_10 (.int .i64 0)) w fun t30_52 =>
 IfB t30_52 (
 CallF Tryd.prog 9 #[] w fun t68_53 w =>
 R t68_53 w) (
 RunW Tryd.prog (Builtin.len_ #[22] 3 #[a0]) w fun t33_54 =>
 RunW Tryd.prog (bin .eql 3 (.tmp 33) (.const (.int .i64 0)) t33_54 (.int .i64 0)) w fun t34_55 =>
 IfB t34_55 (
 CallF Tryd.prog 9 #[] w fun t68_56 w =>
 R t68_56 w) (
 RunW Tryd.prog (Builtin.len_ #[22] 3 #[a0]) w fun t39_57 =>
 RunA Tryd.prog (bin .sub 3 (.tmp 39) (.const (.int .i64 1)) t39_57 (.int .i64 1)) fun t40_58 =>
 RunA Tryd.prog (Instr.indexAt 22 a0 t40_58) fun t41_59 =>
 RunW Tryd.prog (Instr.loadAt 5 t41_59) w fun t42_60 =>
 RunW Tryd.prog (bin .neq 5 (.tmp 42) (.const (.int .u8 62)) t42_60 (.int .u8 62)) w fun t43_61 =>
 IfB t43_61 (
 CallF Tryd.prog 9 #[] w fun t68_62 w =>
 R t68_62 w) (
 RunA Tryd.prog (Instr.indexAt 22 a0 (.int .i64 0)) fun t47_63 =>
 RunW Tryd.prog (Instr.loadAt 5 t47_63) w fun t48_64 =>
 RunW Tryd.prog (bin .neq 5 (.tmp 48) (.const (.int .u8 60)) t48_64 (.int .u8 60)) w fun t49_65 =>
 IfB t49_65 (
 CallF Tryd.prog 9 #[] w fun t68_66 w =>
 R t68_66 w) (
 RunW Tryd.prog (Builtin.len_ #[22] 3 #[a0]) w fun t53_67 =>
 RunA Tryd.prog (bin .gtr 3 (.tmp 53) (.const (.int .i64 1)) t53_67 (.int .i64 1)) fun t54_68 =>
 IfB t54_68 (
 RunA Tryd.prog (Instr.indexAt 22 a0 (.int .i64 1)) fun t57_69 =>
 RunW Tryd.prog (Instr.loadAt 5 t57_69) w fun t58_70 =>
 RunW Tryd.prog (bin .eql 5 (.tmp 58) (.const (.int .u8 63)) t58_70 (.int .u8 63)) w fun t59_71 =>
 IfB t59_71 (
 CallF Tryd.prog 9 #[] w fun t68_72 w =>
 R t68_72 w) (
 RunA Tryd.prog (Instr.indexAt 22 a0 (.int .i64 1)) fun t62_73 =>
 RunW Tryd.prog (Instr.loadAt 5 t62_73) w fun t63_74 =>
 RunW Tryd.prog (bin .eql 5 (.tmp 63) (.const (.int .u8 33)) t63_74 (.int .u8 33)) w fun t64_75 =>
 IfB t64_75 (
 CallF Tryd.prog 9 #[] w fun t68_76 w =>
 R t68_76 w) (
 j_14 a0 a1 t27_9 w))) (
 j_14 a0 a1 t27_9 w))))))))
theorem sh5_calls {a0 a1 : Value} {w : World} {R : Value → World → Prop} (h : sh5 a0 a1 w R) : CallF Tryd.prog 5 #[a0, a1] w R :=
  calls_of_denF (mk := false) (args := [a0, a1]) (an := (.seq (.ops [0, 1]) (.seq (.seq (.ops [0, 1, 15]) (.cond (.seq (.ops [4]) .leaf) .leaf)) (.seq (.seq (.ops [0, 1, 22]) (.cond (.seq (.ops [4]) .leaf) .leaf)) (.seq (.ops [0, 1, 5, 6]) (.seq (.join [0, 1, 5] (.seq (.ops [0, 1, 5, 67]) (.cond (.seq (.ops [4]) .leaf) .leaf))) (.seq (.ops [0, 1, 5, 7, 8]) (.seq (.ops [0, 1, 5, 7, 8, 10]) (.seq (.ops [5, 7, 8, 10, 11]) (.seq (.ops [5, 7, 8, 10, 11, 12, 13]) (.seq (.join [5, 7, 8, 10] (.seq (.ops [5, 7, 8, 10, 111]) (.cond (.seq (.ops [4]) .leaf) .leaf))) (.seq (.ops [4]) .leaf)))))))))))) (c := Tryd.f5.body.getD .skip) hentD Tryd.func5 rfl (Nat.le_of_ble_eq_true (by kernel_rfl))
    (Eq.mp (show sh5 a0 a1 w R = denF Tryd.prog entD false Tryd.f5 (.seq (.ops [0, 1]) (.seq (.seq (.ops [0, 1, 15]) (.cond (.seq (.ops [4]) .leaf) .leaf)) (.seq (.seq (.ops [0, 1, 22]) (.cond (.seq (.ops [4]) .leaf) .leaf)) (.seq (.ops [0, 1, 5, 6]) (.seq (.join [0, 1, 5] (.seq (.ops [0, 1, 5, 67]) (.cond (.seq (.ops [4]) .leaf) .leaf))) (.seq (.ops [0, 1, 5, 7, 8]) (.seq (.ops [0, 1, 5, 7, 8, 10]) (.seq (.ops [5, 7, 8, 10, 11]) (.seq (.ops [5, 7, 8, 10, 11, 12, 13]) (.seq (.join [5, 7, 8, 10] (.seq (.ops [5, 7, 8, 10, 111]) (.cond (.seq (.ops [4]) .leaf) .leaf))) (.seq (.ops [4]) .leaf))))))))))) (Tryd.f5.body.getD .skip) [a0, a1] w R by kernel_rfl) h)

/-! ### 6: handbill/hbllaw6.XmlNames -/
def sh6 (a0 a1 : Value) (w : World) (R : Value → World → Prop) : Prop :=
 CallF Tryd.prog 9 #[] w fun t11_1 w =>
 RunA Tryd.prog (Op.unary .not t11_1) fun t12_2 =>
 IfB t12_2 (
 R (.bool false) w) (
 RunW Tryd.prog (Builtin.len_ #[41] 3 #[a0]) w fun t14_3 =>
 RunA Tryd.prog (bin .gtr 3 (.tmp 14) (.const (.int .i64 20)) t14_3 (.int .i64 20)) fun t15_4 =>
 IfB t15_4 (
 CallF Tryd.prog 9 #[] w fun t23_5 w =>
 R t23_5 w) (
 RunW Tryd.prog (Builtin.len_ #[41] 3 #[a1]) w fun t18_6 =>
 RunW Tryd.prog (Builtin.len_ #[41] 3 #[a0]) w fun t20_7 =>
 RunW Tryd.prog (bin .neq 3 (.tmp 18) (.tmp 20) t18_6 t20_7) w fun t21_8 =>
 IfB t21_8 (
 CallF Tryd.prog 9 #[] w fun t23_9 w =>
 R t23_9 w) (
 lp 2 (fun n_12 t5_10 t6_11 w =>
 RunW Tryd.prog (Builtin.len_ #[41] 3 #[a0]) w fun t26_13 =>
 RunA Tryd.prog (bin .lss 3 (.tmp 24) (.tmp 26) t6_11 t26_13) fun t27_14 =>
 IfB t27_14 (
 RunA Tryd.prog (Instr.indexAt 41 a0 t6_11) fun t32_15 =>
 RunW Tryd.prog (Instr.loadAt 9 t32_15) w fun t33_16 =>
 CallF Tryd.prog 15 #[t33_16] w fun t34_17 w =>
 RunA Tryd.prog (Op.unary .not t34_17) fun t35_18 =>
 IfB t35_18 (
 CallF Tryd.prog 9 #[] w fun t59_19 w =>
 R t59_19 w) (
 RunA Tryd.prog (Instr.indexAt 41 a0 t6_11) fun t39_20 =>
 RunW Tryd.prog (Instr.loadAt 9 t39_20) w fun t40_21 =>
 RunW Tryd.prog (bin .eql 9 (.tmp 40) (.const (.string ⟨#[120, 109, 108, 110, 115]⟩)) t40_21 (.string ⟨#[120, 109, 108, 110, 115]⟩)) w fun t41_22 =>
 IfB t41_22 (
 CallF Tryd.prog 9 #[] w fun t59_23 w =>
 R t59_23 w) (
 RunA Tryd.prog (Instr.indexAt 41 a1 t6_11) fun t46_24 =>
 RunW Tryd.prog (Instr.loadAt 9 t46_24) w fun t47_25 =>
 RunW Tryd.prog (Builtin.len_ #[9] 3 #[t47_25]) w fun t48_26 =>
 RunA Tryd.prog (bin .gtr 3 (.tmp 48) (.const (.int .i64 100)) t48_26 (.int .i64 100)) fun t49_27 =>
 IfB t49_27 (
 CallF Tryd.prog 9 #[] w fun t59_28 w =>
 R t59_28 w) (
 RunA Tryd.prog (Instr.indexAt 41 a1 t6_11) fun t54_29 =>
 RunW Tryd.prog (Instr.loadAt 9 t54_29) w fun t55_30 =>
 CallF Tryd.prog 11 #[t55_30] w fun t56_31 w =>
 RunA Tryd.prog (Op.unary .not t56_31) fun t57_32 =>
 IfB t57_32 (
 CallF Tryd.prog 9 #[] w fun t59_33 w =>
 R t59_33 w) (
 drw (fun S_34 w =>
 RunA Tryd.prog (Instr.indexAt 41 a0 t6_11) fun t63_35 =>
 RunS Tryd.prog S_34 (Instr.loadAt 9 t63_35) fun t64_36 =>
 RunA Tryd.prog (bin .add 9 (.const (.string ⟨#[32]⟩)) (.tmp 64) (.string ⟨#[32]⟩) t64_36) fun t65_37 =>
 RunA Tryd.prog (bin .add 9 (.tmp 65) (.const (.string ⟨#[61, 34]⟩)) t65_37 (.string ⟨#[61, 34]⟩)) fun t66_38 =>
 RunA Tryd.prog (Instr.indexAt 41 a1 t6_11) fun t69_39 =>
 RunS Tryd.prog S_34 (Instr.loadAt 9 t69_39) fun t70_40 =>
 CallF Tryd.prog 12 #[t70_40] w fun t71_41 w =>
 S_34 w ∧ (
 RunA Tryd.prog (bin .add 9 (.tmp 66) (.tmp 71) t66_38 t71_41) fun t72_42 =>
 RunA Tryd.prog (bin .add 9 (.tmp 72) (.const (.string ⟨#[34]⟩)) t72_42 (.string ⟨#[34]⟩)) fun t73_43 =>
 RunA Tryd.prog (bin .add 9 (.tmp 60) (.tmp 73) t5_10 t73_43) fun t74_44 =>
 RunA Tryd.prog (bin .add 3 (.tmp 28) (.const (.int .i64 1)) t6_11 (.int .i64 1)) fun t29_45 =>
 (a0 : Value) = a0 ∧ ((a1 : Value) = a1 ∧ (n_12 t74_44 t29_45 w)))) w))))) (
 RunA Tryd.prog (bin .add 9 (.tmp 76) (.const (.string ⟨#[47, 62]⟩)) t5_10 (.string ⟨#[47, 62]⟩)) fun t77_46 =>
 RunV Tryd.prog (convert 9 22 t77_46) w fun t78_47 w =>
 CallF Tryd.prog 10 #[t78_47] w fun t79_48 w =>
 RunA Tryd.prog (Instr.extract t79_48 0) fun t80_49 =>
 RunA Tryd.prog (Instr.extract t79_48 1) fun t81_50 =>
 CallF Tryd.prog 16 #[a0] w fun t83_51 w =>
 RunW Tryd.prog (Builtin.len_ #[41] 3 #[t83_51]) w fun t84_52 =>
 RunW Tryd.prog (Builtin.len_ #[41] 3 #[a0]) w fun t86_53 =>
 RunA Tryd.prog (bin .lss 3 (.tmp 84) (.tmp 86) t84_52 t86_53) fun t87_54 =>
 IfB t87_54 (
 CallF Tryd.prog 9 #[] w fun t88_55 w =>
 IfB t88_55 (
 RunW Tryd.prog (bin .eql 25 (.tmp 90) (.const (.int .i64 4)) t81_50 (.int .i64 4)) w fun t91_56 =>
 R t91_56 w) (
 R (.bool false) w)) (
 RunW Tryd.prog (bin .neq 25 (.tmp 93) (.const (.int .i64 0)) t81_50 (.int .i64 0)) w fun t94_57 =>
 IfB t94_57 (
 R (.bool false) w) (
 RunW Tryd.prog (Builtin.len_ #[24] 3 #[t80_49]) w fun t97_58 =>
 RunW Tryd.prog (bin .neq 3 (.tmp 97) (.const (.int .i64 2)) t97_58 (.int .i64 2)) w fun t98_59 =>
 IfB t98_59 (
 R (.bool false) w) (
 RunA Tryd.prog (Instr.indexAt 24 t80_49 (.int .i64 0)) fun t102_60 =>
 RunA Tryd.prog (Instr.fieldAt 30 t102_60 4) fun t103_61 =>
 RunW Tryd.prog (Instr.loadAt 28 t103_61) w fun t104_62 =>
 RunW Tryd.prog (Builtin.len_ #[28] 3 #[t104_62]) w fun t105_63 =>
 RunW Tryd.prog (Builtin.len_ #[41] 3 #[a0]) w fun t107_64 =>
 RunW Tryd.prog (bin .neq 3 (.tmp 105) (.tmp 107) t105_63 t107_64) w fun t108_65 =>
 IfB t108_65 (
 R (.bool false) w) (
 lp 1 (fun n_67 t9_66 w =>
 RunW Tryd.prog (Builtin.len_ #[41] 3 #[a0]) w fun t112_68 =>
 RunA Tryd.prog (bin .lss 3 (.tmp 110) (.tmp 112) t9_66 t112_68) fun t113_69 =>
 IfB t113_69 (
 RunA Tryd.prog (Instr.indexAt 24 t80_49 (.int .i64 0)) fun t117_70 =>
 RunA Tryd.prog (Instr.fieldAt 30 t117_70 4) fun t118_71 =>
 RunW Tryd.prog (Instr.loadAt 28 t118_71) w fun t119_72 =>
 RunA Tryd.prog (Instr.indexAt 28 t119_72 t9_66) fun t121_73 =>
 RunW Tryd.prog (Instr.loadAt 35 t121_73) w fun t122_74 =>
 RunV Tryd.prog (Instr.alloc 35 true (.tuple #[])) w fun t10_75 w =>
 RunU Tryd.prog (Instr.storeAt 35 t10_75 t122_74) w fun w =>
 drw (fun S_76 w =>
 RunA Tryd.prog (Instr.fieldAt 35 t10_75 1) fun t123_77 =>
 RunS Tryd.prog S_76 (Instr.loadAt 9 t123_77) fun t124_78 =>
 RunA Tryd.prog (Instr.indexAt 41 a0 t9_66) fun t127_79 =>
 RunS Tryd.prog S_76 (Instr.loadAt 9 t127_79) fun t128_80 =>
 RunS Tryd.prog S_76 (bin .neq 9 (.tmp 124) (.tmp 128) t124_78 t128_80) fun t129_81 =>
 IfB t129_81 (
 R (.bool false) w) (
 RunA Tryd.prog (Instr.fieldAt 35 t10_75 2) fun t131_82 =>
 RunS Tryd.prog S_76 (Instr.loadAt 9 t131_82) fun t132_83 =>
 RunA Tryd.prog (Instr.indexAt 41 a1 t9_66) fun t135_84 =>
 RunS Tryd.prog S_76 (Instr.loadAt 9 t135_84) fun t136_85 =>
 RunS Tryd.prog S_76 (bin .neq 9 (.tmp 132) (.tmp 136) t132_83 t136_85) fun t137_86 =>
 IfB t137_86 (
 R (.bool false) w) (
 RunA Tryd.prog (Instr.fieldAt 35 t10_75 0) fun t140_87 =>
 RunS Tryd.prog S_76 (Instr.loadAt 9 t140_87) fun t141_88 =>
 RunS Tryd.prog S_76 (bin .neq 9 (.tmp 141) (.const (.string ⟨#[]⟩)) t141_88 (.string ⟨#[]⟩)) fun t142_89 =>
 IfB t142_89 (
 R (.bool false) w) (
 RunA Tryd.prog (bin .add 3 (.tmp 114) (.const (.int .i64 1)) t9_66 (.int .i64 1)) fun t115_90 =>
 (a0 : Value) = a0 ∧ ((a1 : Value) = a1 ∧ ((t80_49 : Value) = t80_49 ∧ (n_67 t115_90 w))))))) w) (
 CallF Tryd.prog 9 #[] w fun t144_91 w =>
 R t144_91 w)) [(.int .i64 0)] w)))))) [(.string ⟨#[60, 101]⟩), (.int .i64 0)] w)))
theorem sh6_calls {a0 a1 : Value} {w : World} {R : Value → World → Prop} (h : sh6 a0 a1 w R) : CallF Tryd.prog 6 #[a0, a1] w R :=
  calls_of_denF (mk := false) (args := [a0, a1]) (an := (.seq (.ops [0, 1]) (.seq (.seq (.ops [0, 1, 12]) (.cond (.seq (.ops [4]) .leaf) .leaf)) (.seq (.seq (.ops [0, 1, 22]) (.cond (.seq (.ops [4]) .leaf) .leaf)) (.seq (.ops [0, 1, 5]) (.seq (.seq (.ops [0, 1, 5, 6]) (.blk (.loop [0, 1] [5, 6] (.seq (.seq (.ops [0, 1, 5, 6, 27]) (.cond .leaf .leaf)) (.seq (.blk (.seq (.seq (.ops [0, 1, 5, 6, 58]) (.cond (.seq (.ops [4]) .leaf) .leaf)) (.draw (.q 0 (.q 1 (.q 2 (.q 3 (.q 4 (.q 5 (.q 6 (.q 7 (.q 8 (.q 9 (.q 10 (.one 11 (.q 12 (.q 13 (.q 14 (.q 15 .fin)))))))))))))))) [0, 1, 5, 6]))) (.ops [0, 1, 5, 6])))))) (.seq (.ops [0, 1, 7, 8]) (.seq (.seq (.ops [0, 1, 7, 8, 87]) (.cond (.seq (.ops [4]) .leaf) .leaf)) (.seq (.seq (.ops [0, 1, 7, 109]) (.cond (.seq (.ops [4]) .leaf) .leaf)) (.seq (.seq (.ops [0, 1, 7, 9]) (.blk (.loop [0, 1, 7] [9] (.seq (.seq (.ops [0, 1, 7, 9, 113]) (.cond .leaf .leaf)) (.seq (.blk (.seq (.ops [0, 1, 7, 9, 10]) (.seq (.draw (.q 0 (.q 1 (.q 2 (.q 3 (.q 4 (.q 5 (.q 6 (.q 7 (.sp 8 (.q 8 (.q 9 (.q 10 (.q 11 (.q 12 (.q 13 (.q 14 (.q 15 (.q 16 (.q 17 (.q 18 (.q 19 (.q 20 .fin))))))))))))) (.q 8 (.q 9 (.q 10 (.q 11 (.q 12 (.q 13 (.q 14 (.q 15 (.q 16 (.sp 17 (.q 17 (.q 18 (.q 19 (.q 20 .fin)))) (.q 17 (.q 18 (.q 19 (.q 20 .fin))))))))))))))))))))))) [0, 1, 7, 9, 143]) (.cond (.seq (.ops [4]) .leaf) .leaf)))) (.ops [0, 1, 7, 9])))))) (.seq (.ops [4]) .leaf))))))))))) (c := Tryd.f6.body.getD .skip) hentD Tryd.func6 rfl (Nat.le_of_ble_eq_true (by kernel_rfl))
    (Eq.mp (show sh6 a0 a1 w R = denF Tryd.prog entD false Tryd.f6 (.seq (.ops [0, 1]) (.seq (.seq (.ops [0, 1, 12]) (.cond (.seq (.ops [4]) .leaf) .leaf)) (.seq (.seq (.ops [0, 1, 22]) (.cond (.seq (.ops [4]) .leaf) .leaf)) (.seq (.ops [0, 1, 5]) (.seq (.seq (.ops [0, 1, 5, 6]) (.blk (.loop [0, 1] [5, 6] (.seq (.seq (.ops [0, 1, 5, 6, 27]) (.cond .leaf .leaf)) (.seq (.blk (.seq (.seq (.ops [0, 1, 5, 6, 58]) (.cond (.seq (.ops [4]) .leaf) .leaf)) (.draw (.q 0 (.q 1 (.q 2 (.q 3 (.q 4 (.q 5 (.q 6 (.q 7 (.q 8 (.q 9 (.q 10 (.one 11 (.q 12 (.q 13 (.q 14 (.q 15 .fin)))))))))))))))) [0, 1, 5, 6]))) (.ops [0, 1, 5, 6])))))) (.seq (.ops [0, 1, 7, 8]) (.seq (.seq (.ops [0, 1, 7, 8, 87]) (.cond (.seq (.ops [4]) .leaf) .leaf)) (.seq (.seq (.ops [0, 1, 7, 109]) (.cond (.seq (.ops [4]) .leaf) .leaf)) (.seq (.seq (.ops [0, 1, 7, 9]) (.blk (.loop [0, 1, 7] [9] (.seq (.seq (.ops [0, 1, 7, 9, 113]) (.cond .leaf .leaf)) (.seq (.blk (.seq (.ops [0, 1, 7, 9, 10]) (.seq (.draw (.q 0 (.q 1 (.q 2 (.q 3 (.q 4 (.q 5 (.q 6 (.q 7 (.sp 8 (.q 8 (.q 9 (.q 10 (.q 11 (.q 12 (.q 13 (.q 14 (.q 15 (.q 16 (.q 17 (.q 18 (.q 19 (.q 20 .fin))))))))))))) (.q 8 (.q 9 (.q 10 (.q 11 (.q 12 (.q 13 (.q 14 (.q 15 (.q 16 (.sp 17 (.q 17 (.q 18 (.q 19 (.q 20 .fin)))) (.q 17 (.q 18 (.q 19 (.q 20 .fin))))))))))))))))))))))) [0, 1, 7, 9, 143]) (.cond (.seq (.ops [4]) .leaf) .leaf)))) (.ops [0, 1, 7, 9])))))) (.seq (.ops [4]) .leaf)))))))))) (Tryd.f6.body.getD .skip) [a0, a1] w R by kernel_rfl) h)

/-! ### 7: handbill/hbllaw6.XmlTexts -/
def sh7 (a0 a1 : Value) (w : World) (R : Value → World → Prop) : Prop :=
 CallF Tryd.prog 9 #[] w fun t18_1 w =>
 RunA Tryd.prog (Op.unary .not t18_1) fun t19_2 =>
 IfB t19_2 (
 R (.bool false) w) (
 RunW Tryd.prog (Builtin.len_ #[9] 3 #[a0]) w fun t21_3 =>
 RunA Tryd.prog (bin .lss 3 (.tmp 21) (.const (.int .i64 1)) t21_3 (.int .i64 1)) fun t22_4 =>
 IfB t22_4 (
 CallF Tryd.prog 9 #[] w fun t41_5 w =>
 R t41_5 w) (
 RunW Tryd.prog (Builtin.len_ #[9] 3 #[a0]) w fun t25_6 =>
 RunA Tryd.prog (bin .gtr 3 (.tmp 25) (.const (.int .i64 2000)) t25_6 (.int .i64 2000)) fun t26_7 =>
 IfB t26_7 (
 CallF Tryd.prog 9 #[] w fun t41_8 w =>
 R t41_8 w) (
 RunA Tryd.prog (bin .lss 3 (.tmp 29) (.const (.int .i64 1)) a1 (.int .i64 1)) fun t30_9 =>
 IfB t30_9 (
 CallF Tryd.prog 9 #[] w fun t41_10 w =>
 R t41_10 w) (
 RunA Tryd.prog (bin .gtr 3 (.tmp 33) (.const (.int .i64 70)) a1 (.int .i64 70)) fun t34_11 =>
 IfB t34_11 (
 CallF Tryd.prog 9 #[] w fun t41_12 w =>
 R t41_12 w) (
 CallF Tryd.prog 11 #[a0] w fun t38_13 w =>
 RunA Tryd.prog (Op.unary .not t38_13) fun t39_14 =>
 IfB t39_14 (
 CallF Tryd.prog 9 #[] w fun t41_15 w =>
 R t41_15 w) (
 lp 1 (fun n_17 t6_16 w =>
 RunA Tryd.prog (bin .add 3 (.tmp 42) (.const (.int .i64 2)) t6_16 (.int .i64 2)) fun t43_18 =>
 RunW Tryd.prog (Builtin.len_ #[9] 3 #[a0]) w fun t45_19 =>
 RunA Tryd.prog (bin .lss 3 (.tmp 43) (.tmp 45) t43_18 t45_19) fun t46_20 =>
 IfB t46_20 (
 RunA Tryd.prog (bin .add 3 (.tmp 51) (.const (.int .i64 3)) t6_16 (.int .i64 3)) fun t52_21 =>
 RunA Tryd.prog (Instr.sliceAt 9 a0 (some t6_16) (some t52_21) none) fun t53_22 =>
 RunW Tryd.prog (bin .eql 9 (.tmp 53) (.const (.string ⟨#[93, 93, 62]⟩)) t53_22 (.string ⟨#[93, 93, 62]⟩)) w fun t54_23 =>
 IfB t54_23 (
 CallF Tryd.prog 9 #[] w fun t55_24 w =>
 R t55_24 w) (
 RunA Tryd.prog (bin .add 3 (.tmp 47) (.const (.int .i64 1)) t6_16 (.int .i64 1)) fun t48_25 =>
 (a0 : Value) = a0 ∧ ((a1 : Value) = a1 ∧ (((.string ⟨#[60, 33, 91, 67, 68, 65, 84, 65, 91]⟩) : Value) = (.string ⟨#[60, 33, 91, 67, 68, 65, 84, 65, 91]⟩) ∧ (n_17 t48_25 w))))) (
 lp 3 (fun n_29 t7_26 t8_27 t9_28 w =>
 RunA Tryd.prog (bin .lss 3 (.tmp 56) (.tmp 57) t9_28 a1) fun t58_30 =>
 IfB t58_30 (
 RunA Tryd.prog (bin .add 9 (.tmp 61) (.const (.string ⟨#[60, 120, 62]⟩)) t7_26 (.string ⟨#[60, 120, 62]⟩)) fun t62_31 =>
 RunA Tryd.prog (bin .add 9 (.tmp 63) (.const (.string ⟨#[60, 47, 120, 62]⟩)) t8_27 (.string ⟨#[60, 47, 120, 62]⟩)) fun t64_32 =>
 RunA Tryd.prog (bin .add 3 (.tmp 59) (.const (.int .i64 1)) t9_28 (.int .i64 1)) fun t60_33 =>
 (a0 : Value) = a0 ∧ ((a1 : Value) = a1 ∧ (((.string ⟨#[60, 33, 91, 67, 68, 65, 84, 65, 91]⟩) : Value) = (.string ⟨#[60, 33, 91, 67, 68, 65, 84, 65, 91]⟩) ∧ (n_29 t62_31 t64_32 t60_33 w)))) (
 CallF Tryd.prog 12 #[a0] w fun t66_34 w =>
 RunA Tryd.prog (bin .add 9 (.const (.string ⟨#[60, 63, 120, 109, 108, 32, 118, 101, 114, 115, 105, 111, 110, 61, 34, 49, 46, 48, 34, 63, 62, 60, 33, 45, 45, 32, 99, 32, 45, 45, 62, 60, 97, 32, 118, 61, 34]⟩)) (.tmp 66) (.string ⟨#[60, 63, 120, 109, 108, 32, 118, 101, 114, 115, 105, 111, 110, 61, 34, 49, 46, 48, 34, 63, 62, 60, 33, 45, 45, 32, 99, 32, 45, 45, 62, 60, 97, 32, 118, 61, 34]⟩) t66_34) fun t67_35 =>
 RunA Tryd.prog (bin .add 9 (.tmp 67) (.const (.string ⟨#[34, 62]⟩)) t67_35 (.string ⟨#[34, 62]⟩)) fun t68_36 =>
 CallF Tryd.prog 12 #[a0] w fun t70_37 w =>
 RunA Tryd.prog (bin .add 9 (.tmp 68) (.tmp 70) t68_36 t70_37) fun t71_38 =>
 RunA Tryd.prog (bin .add 9 (.tmp 71) (.tmp 72) t71_38 (.string ⟨#[60, 33, 91, 67, 68, 65, 84, 65, 91]⟩)) fun t73_39 =>
 RunA Tryd.prog (bin .add 9 (.tmp 73) (.tmp 74) t73_39 a0) fun t75_40 =>
 RunA Tryd.prog (bin .add 9 (.tmp 75) (.const (.string ⟨#[93, 93, 62, 60, 47, 97, 62]⟩)) t75_40 (.string ⟨#[93, 93, 62, 60, 47, 97, 62]⟩)) fun t76_41 =>
 CallF Tryd.prog 12 #[a0] w fun t79_42 w =>
 RunA Tryd.prog (bin .add 9 (.tmp 77) (.tmp 79) t7_26 t79_42) fun t80_43 =>
 RunA Tryd.prog (bin .add 9 (.tmp 80) (.tmp 81) t80_43 t8_27) fun t82_44 =>
 RunW Tryd.prog (Builtin.len_ #[9] 3 #[t76_41]) w fun t84_45 =>
 RunA Tryd.prog (bin .gtr 3 (.tmp 84) (.const (.int .i64 20000)) t84_45 (.int .i64 20000)) fun t85_46 =>
 IfB t85_46 (
 CallF Tryd.prog 9 #[] w fun t91_47 w =>
 R t91_47 w) (
 RunW Tryd.prog (Builtin.len_ #[9] 3 #[t82_44]) w fun t88_48 =>
 RunA Tryd.prog (bin .gtr 3 (.tmp 88) (.const (.int .i64 20000)) t88_48 (.int .i64 20000)) fun t89_49 =>
 IfB t89_49 (
 CallF Tryd.prog 9 #[] w fun t91_50 w =>
 R t91_50 w) (
 RunV Tryd.prog (convert 9 22 t76_41) w fun t94_51 w =>
 CallF Tryd.prog 10 #[t94_51] w fun t95_52 w =>
 RunA Tryd.prog (Instr.extract t95_52 0) fun t96_53 =>
 RunA Tryd.prog (Instr.extract t95_52 1) fun t97_54 =>
 RunV Tryd.prog (convert 9 22 t82_44) w fun t100_55 w =>
 CallF Tryd.prog 10 #[t100_55] w fun t101_56 w =>
 RunA Tryd.prog (Instr.extract t101_56 0) fun t102_57 =>
 RunA Tryd.prog (Instr.extract t101_56 1) fun t103_58 =>
 RunA Tryd.prog (bin .gtr 3 (.tmp 104) (.const (.int .i64 64)) a1 (.int .i64 64)) fun t105_59 =>
 IfB t105_59 (
 CallF Tryd.prog 9 #[] w fun t106_60 w =>
 IfB t106_60 (
 RunW Tryd.prog (bin .eql 25 (.tmp 108) (.const (.int .i64 10)) t103_58 (.int .i64 10)) w fun t109_61 =>
 R t109_61 w) (
 R (.bool false) w)) (
 CallF Tryd.prog 17 #[t102_57, (.int .i64 0)] w fun t113_62 w =>
 RunA Tryd.prog (Instr.extract t113_62 0) fun t114_63 =>
 RunA Tryd.prog (Instr.extract t113_62 1) fun t115_64 =>
 CallF Tryd.prog 9 #[] w fun t116_65 w =>
 IfB t116_65 (
 RunW Tryd.prog (bin .eql 25 (.tmp 118) (.const (.int .i64 0)) t97_54 (.int .i64 0)) w fun t119_66 =>
 IfB t119_66 (
 RunW Tryd.prog (Builtin.len_ #[24] 3 #[t96_53]) w fun t123_67 =>
 RunW Tryd.prog (bin .eql 3 (.tmp 123) (.const (.int .i64 3)) t123_67 (.int .i64 3)) w fun t124_68 =>
 IfB t124_68 (
 RunA Tryd.prog (Instr.indexAt 24 t96_53 (.int .i64 0)) fun t128_69 =>
 RunA Tryd.prog (Instr.fieldAt 30 t128_69 4) fun t129_70 =>
 RunW Tryd.prog (Instr.loadAt 28 t129_70) w fun t130_71 =>
 RunW Tryd.prog (Builtin.len_ #[28] 3 #[t130_71]) w fun t131_72 =>
 RunW Tryd.prog (bin .eql 3 (.tmp 131) (.const (.int .i64 1)) t131_72 (.int .i64 1)) w fun t132_73 =>
 IfB t132_73 (
 RunA Tryd.prog (Instr.indexAt 24 t96_53 (.int .i64 0)) fun t136_74 =>
 RunA Tryd.prog (Instr.fieldAt 30 t136_74 4) fun t137_75 =>
 RunW Tryd.prog (Instr.loadAt 28 t137_75) w fun t138_76 =>
 RunA Tryd.prog (Instr.indexAt 28 t138_76 (.int .i64 0)) fun t139_77 =>
 RunA Tryd.prog (Instr.fieldAt 35 t139_77 2) fun t140_78 =>
 RunW Tryd.prog (Instr.loadAt 9 t140_78) w fun t141_79 =>
 RunW Tryd.prog (bin .eql 9 (.tmp 141) (.tmp 142) t141_79 a0) w fun t143_80 =>
 IfB t143_80 (
 RunA Tryd.prog (Instr.indexAt 24 t96_53 (.int .i64 1)) fun t147_81 =>
 RunA Tryd.prog (Instr.fieldAt 30 t147_81 3) fun t148_82 =>
 RunW Tryd.prog (Instr.loadAt 9 t148_82) w fun t149_83 =>
 RunA Tryd.prog (bin .add 9 (.tmp 150) (.tmp 151) a0 a0) fun t152_84 =>
 RunW Tryd.prog (bin .eql 9 (.tmp 149) (.tmp 152) t149_83 t152_84) w fun t153_85 =>
 IfB t153_85 (
 RunW Tryd.prog (bin .eql 25 (.tmp 156) (.const (.int .i64 0)) t103_58 (.int .i64 0)) w fun t157_86 =>
 IfB t157_86 (
 RunW Tryd.prog (Builtin.len_ #[24] 3 #[t102_57]) w fun t161_87 =>
 RunA Tryd.prog (bin .mul 3 (.const (.int .i64 2)) (.tmp 162) (.int .i64 2) a1) fun t163_88 =>
 RunA Tryd.prog (bin .add 3 (.tmp 163) (.const (.int .i64 1)) t163_88 (.int .i64 1)) fun t164_89 =>
 RunW Tryd.prog (bin .eql 3 (.tmp 161) (.tmp 164) t161_87 t164_89) w fun t165_90 =>
 IfB t165_90 (
 RunW Tryd.prog (bin .eql 9 (.tmp 168) (.tmp 169) t114_63 a0) w fun t170_91 =>
 IfB t170_91 (
 RunW Tryd.prog (Builtin.len_ #[24] 3 #[t102_57]) w fun t175_92 =>
 RunW Tryd.prog (bin .eql 3 (.tmp 173) (.tmp 175) t115_64 t175_92) w fun t176_93 =>
 R t176_93 w) (
 R (.bool false) w)) (
 R (.bool false) w)) (
 R (.bool false) w)) (
 R (.bool false) w)) (
 R (.bool false) w)) (
 R (.bool false) w)) (
 R (.bool false) w)) (
 R (.bool false) w)) (
 R (.bool false) w)))))) [(.string ⟨#[]⟩), (.string ⟨#[]⟩), (.int .i64 0)] w)) [(.int .i64 0)] w))))))
theorem sh7_calls {a0 a1 : Value} {w : World} {R : Value → World → Prop} (h : sh7 a0 a1 w R) : CallF Tryd.prog 7 #[a0, a1] w R :=
  calls_of_denF (mk := false) (args := [a0, a1]) (an := (.seq (.ops [0, 1]) (.seq (.seq (.ops [0, 1, 19]) (.cond (.seq (.ops [4]) .leaf) .leaf)) (.seq (.seq (.ops [0, 1, 40]) (.cond (.seq (.ops [4]) .leaf) .leaf)) (.seq (.ops [0, 1, 5]) (.seq (.seq (.ops [0, 1, 5, 6]) (.blk (.loop [0, 1, 5] [6] (.seq (.seq (.ops [0, 1, 5, 6, 46]) (.cond .leaf .leaf)) (.seq (.blk (.seq (.ops [0, 1, 5, 6, 54]) (.cond (.seq (.ops [4]) .leaf) .leaf))) (.ops [0, 1, 5, 6])))))) (.seq (.ops [0, 1, 5, 7, 8]) (.seq (.seq (.ops [0, 1, 5, 7, 8, 9]) (.blk (.loop [0, 1, 5] [7, 8, 9] (.seq (.seq (.ops [0, 1, 5, 7, 8, 9, 58]) (.cond .leaf .leaf)) (.seq (.blk (.ops [0, 1, 5, 7, 8, 9])) (.ops [0, 1, 5, 7, 8, 9])))))) (.seq (.ops [0, 1, 10, 11]) (.seq (.seq (.ops [0, 1, 10, 11, 90]) (.cond (.seq (.ops [4]) .leaf) .leaf)) (.seq (.ops [0, 1, 11, 12, 13]) (.seq (.ops [0, 1, 12, 13, 14, 15]) (.seq (.seq (.ops [0, 1, 12, 13, 14, 15, 105]) (.cond (.seq (.ops [4]) .leaf) .leaf)) (.seq (.ops [0, 1, 12, 13, 14, 15, 16, 17]) (.seq (.ops [4]) .leaf))))))))))))))) (c := Tryd.f7.body.getD .skip) hentD Tryd.func7 rfl (Nat.le_of_ble_eq_true (by kernel_rfl))
    (Eq.mp (show sh7 a0 a1 w R = denF Tryd.prog entD false Tryd.f7 (.seq (.ops [0, 1]) (.seq (.seq (.ops [0, 1, 19]) (.cond (.seq (.ops [4]) .leaf) .leaf)) (.seq (.seq (.ops [0, 1, 40]) (.cond (.seq (.ops [4]) .leaf) .leaf)) (.seq (.ops [0, 1, 5]) (.seq (.seq (.ops [0, 1, 5, 6]) (.blk (.loop [0, 1, 5] [6] (.seq (.seq (.ops [0, 1, 5, 6, 46]) (.cond .leaf .leaf)) (.seq (.blk (.seq (.ops [0, 1, 5, 6, 54]) (.cond (.seq (.ops [4]) .leaf) .leaf))) (.ops [0, 1, 5, 6])))))) (.seq (.ops [0, 1, 5, 7, 8]) (.seq (.seq (.ops [0, 1, 5, 7, 8, 9]) (.blk (.loop [0, 1, 5] [7, 8, 9] (.seq (.seq (.ops [0, 1, 5, 7, 8, 9, 58]) (.cond .leaf .leaf)) (.seq (.blk (.ops [0, 1, 5, 7, 8, 9])) (.ops [0, 1, 5, 7, 8, 9])))))) (.seq (.ops [0, 1, 10, 11]) (.seq (.seq (.ops [0, 1, 10, 11, 90]) (.cond (.seq (.ops [4]) .leaf) .leaf)) (.seq (.ops [0, 1, 11, 12, 13]) (.seq (.ops [0, 1, 12, 13, 14, 15]) (.seq (.seq (.ops [0, 1, 12, 13, 14, 15, 105]) (.cond (.seq (.ops [4]) .leaf) .leaf)) (.seq (.ops [0, 1, 12, 13, 14, 15, 16, 17]) (.seq (.ops [4]) .leaf)))))))))))))) (Tryd.f7.body.getD .skip) [a0, a1] w R by kernel_rfl) h)

/-! ### 8: handbill/hbllaw6.XmlInner -/
def sh8 (a0 a1 a2 : Value) (w : World) (R : Value → World → Prop) : Prop :=
 CallF Tryd.prog 9 #[] w fun t17_1 w =>
 RunA Tryd.prog (Op.unary .not t17_1) fun t18_2 =>
 IfB t18_2 (
 R (.bool false) w) (
 CallF Tryd.prog 18 #[a0] w fun t20_3 w =>
 RunA Tryd.prog (Op.unary .not t20_3) fun t21_4 =>
 IfB t21_4 (
 CallF Tryd.prog 9 #[] w fun t22_5 w =>
 R t22_5 w) (
 CallF Tryd.prog 14 #[a0] w fun t24_6 w =>
 CallF Tryd.prog 17 #[a0, a1] w fun t28_7 w =>
 RunA Tryd.prog (Instr.extract t28_7 0) fun t29_8 =>
 RunA Tryd.prog (Instr.extract t28_7 1) fun t30_9 =>
 CallF Tryd.prog 19 #[t24_6, a1] w fun t34_10 w =>
 RunA Tryd.prog (Instr.extract t34_10 0) fun t35_11 =>
 RunA Tryd.prog (Instr.extract t34_10 1) fun t36_12 =>
 CallF Tryd.prog 21 #[a0] w fun t39_13 w =>
 CallF Tryd.prog 20 #[t39_13, a2] w fun t41_14 w =>
 RunA Tryd.prog (Instr.extract t41_14 0) fun t42_15 =>
 RunA Tryd.prog (Instr.extract t41_14 1) fun t43_16 =>
 RunW Tryd.prog (Builtin.max_ #[3, 3] 3 #[a2, (.int .i64 0)]) w fun t45_17 =>
 RunW Tryd.prog (Builtin.len_ #[24] 3 #[a0]) w fun t47_18 =>
 RunW Tryd.prog (Builtin.min_ #[3, 3] 3 #[t45_17, t47_18]) w fun t48_19 =>
 RunW Tryd.prog (Builtin.len_ #[49] 3 #[t42_15]) w fun t50_20 =>
 RunW Tryd.prog (bin .neq 3 (.tmp 50) (.tmp 51) t50_20 t48_19) w fun t52_21 =>
 IfB t52_21 (
 R (.bool false) w) (
 RunA Tryd.prog (Instr.sliceAt 38 t24_6 none (some t48_19) none) fun t57_22 =>
 CallF Tryd.prog 13 #[t43_16, t57_22] w fun t58_23 w =>
 RunA Tryd.prog (Op.unary .not t58_23) fun t59_24 =>
 IfB t59_24 (
 R (.bool false) w) (
 lp 1 (fun n_26 t15_25 w =>
 RunW Tryd.prog (Builtin.len_ #[49] 3 #[t42_15]) w fun t63_27 =>
 RunA Tryd.prog (bin .lss 3 (.tmp 61) (.tmp 63) t15_25 t63_27) fun t64_28 =>
 IfB t64_28 (
 RunA Tryd.prog (Instr.indexAt 49 t42_15 t15_25) fun t69_29 =>
 RunW Tryd.prog (Instr.loadAt 3 t69_29) w fun t70_30 =>
 RunW Tryd.prog (bin .neq 3 (.tmp 70) (.tmp 71) t70_30 t15_25) w fun t72_31 =>
 IfB t72_31 (
 R (.bool false) w) (
 RunA Tryd.prog (bin .add 3 (.tmp 65) (.const (.int .i64 1)) t15_25 (.int .i64 1)) fun t66_32 =>
 (a0 : Value) = a0 ∧ ((t24_6 : Value) = t24_6 ∧ ((t29_8 : Value) = t29_8 ∧ ((t30_9 : Value) = t30_9 ∧ ((t35_11 : Value) = t35_11 ∧ ((t36_12 : Value) = t36_12 ∧ ((t42_15 : Value) = t42_15 ∧ (n_26 t66_32 w))))))))) (
 lp 1 (fun n_34 t16_33 w =>
 RunW Tryd.prog (Builtin.len_ #[24] 3 #[a0]) w fun t75_35 =>
 RunA Tryd.prog (bin .lss 3 (.tmp 73) (.tmp 75) t16_33 t75_35) fun t76_36 =>
 IfB t76_36 (
 drw (fun S_37 w =>
 RunA Tryd.prog (bin .sub 3 (.tmp 80) (.const (.int .i64 1)) t16_33 (.int .i64 1)) fun t81_38 =>
 RunA Tryd.prog (Instr.indexAt 24 a0 t81_38) fun t82_39 =>
 RunS Tryd.prog S_37 (Instr.loadAt 30 t82_39) fun t83_40 =>
 RunA Tryd.prog (Instr.indexAt 24 a0 t16_33) fun t86_41 =>
 RunS Tryd.prog S_37 (Instr.loadAt 30 t86_41) fun t87_42 =>
 RunA Tryd.prog (bin .sub 3 (.tmp 90) (.const (.int .i64 1)) t16_33 (.int .i64 1)) fun t91_43 =>
 RunA Tryd.prog (Instr.indexAt 38 t24_6 t91_43) fun t92_44 =>
 RunS Tryd.prog S_37 (Instr.loadAt 59 t92_44) fun t93_45 =>
 RunA Tryd.prog (Instr.indexAt 38 t24_6 t16_33) fun t96_46 =>
 RunS Tryd.prog S_37 (Instr.loadAt 59 t96_46) fun t97_47 =>
 CallF Tryd.prog 22 #[t83_40, t87_42] w fun t88_48 w =>
 S_37 w ∧ (
 CallF Tryd.prog 23 #[t93_45, t97_47] w fun t98_49 w =>
 S_37 w ∧ (
 RunS Tryd.prog S_37 (bin .neq 4 (.tmp 88) (.tmp 98) t88_48 t98_49) fun t99_50 =>
 IfB t99_50 (
 R (.bool false) w) (
 RunA Tryd.prog (bin .add 3 (.tmp 77) (.const (.int .i64 1)) t16_33 (.int .i64 1)) fun t78_51 =>
 (a0 : Value) = a0 ∧ ((t24_6 : Value) = t24_6 ∧ ((t29_8 : Value) = t29_8 ∧ ((t30_9 : Value) = t30_9 ∧ ((t35_11 : Value) = t35_11 ∧ ((t36_12 : Value) = t36_12 ∧ (n_34 t78_51 w)))))))))) w) (
 CallF Tryd.prog 9 #[] w fun t100_52 w =>
 IfB t100_52 (
 RunW Tryd.prog (bin .eql 9 (.tmp 102) (.tmp 103) t29_8 t35_11) w fun t104_53 =>
 IfB t104_53 (
 RunW Tryd.prog (bin .eql 3 (.tmp 107) (.tmp 108) t30_9 t36_12) w fun t109_54 =>
 R t109_54 w) (
 R (.bool false) w)) (
 R (.bool false) w))) [(.int .i64 1)] w)) [(.int .i64 0)] w))))
theorem sh8_calls {a0 a1 a2 : Value} {w : World} {R : Value → World → Prop} (h : sh8 a0 a1 a2 w R) : CallF Tryd.prog 8 #[a0, a1, a2] w R :=
  calls_of_denF (mk := false) (args := [a0, a1, a2]) (an := (.seq (.ops [0, 1, 2]) (.seq (.seq (.ops [0, 1, 2, 18]) (.cond (.seq (.ops [6]) .leaf) .leaf)) (.seq (.seq (.ops [0, 1, 2, 21]) (.cond (.seq (.ops [6]) .leaf) .leaf)) (.seq (.ops [0, 1, 2, 7]) (.seq (.ops [0, 1, 2, 7, 8, 9]) (.seq (.ops [0, 2, 7, 8, 9, 10, 11]) (.seq (.ops [0, 2, 7, 8, 9, 10, 11, 12, 13]) (.seq (.ops [0, 7, 8, 9, 10, 11, 12, 13, 14]) (.seq (.seq (.ops [0, 7, 8, 9, 10, 11, 12, 60]) (.cond (.seq (.ops [6]) .leaf) .leaf)) (.seq (.seq (.ops [0, 7, 8, 9, 10, 11, 12, 15]) (.blk (.loop [0, 7, 8, 9, 10, 11, 12] [15] (.seq (.seq (.ops [0, 7, 8, 9, 10, 11, 12, 15, 64]) (.cond .leaf .leaf)) (.seq (.blk (.seq (.ops [0, 7, 8, 9, 10, 11, 12, 15, 72]) (.cond (.seq (.ops [6]) .leaf) .leaf))) (.ops [0, 7, 8, 9, 10, 11, 12, 15])))))) (.seq (.seq (.ops [0, 7, 8, 9, 10, 11, 16]) (.blk (.loop [0, 7, 8, 9, 10, 11] [16] (.seq (.seq (.ops [0, 7, 8, 9, 10, 11, 16, 76]) (.cond .leaf .leaf)) (.seq (.blk (.seq (.draw (.q 0 (.q 1 (.q 2 (.q 3 (.q 4 (.q 5 (.q 6 (.q 7 (.q 8 (.q 10 (.q 11 (.q 12 (.q 13 (.q 14 (.q 15 (.q 16 (.q 17 (.q 18 (.one 9 (.one 19 (.q 20 .fin))))))))))))))))))))) [0, 7, 8, 9, 10, 11, 16, 99]) (.cond (.seq (.ops [6]) .leaf) .leaf))) (.ops [0, 7, 8, 9, 10, 11, 16])))))) (.seq (.ops [6]) .leaf))))))))))))) (c := Tryd.f8.body.getD .skip) hentD Tryd.func8 rfl (Nat.le_of_ble_eq_true (by kernel_rfl))
    (Eq.mp (show sh8 a0 a1 a2 w R = denF Tryd.prog entD false Tryd.f8 (.seq (.ops [0, 1, 2]) (.seq (.seq (.ops [0, 1, 2, 18]) (.cond (.seq (.ops [6]) .leaf) .leaf)) (.seq (.seq (.ops [0, 1, 2, 21]) (.cond (.seq (.ops [6]) .leaf) .leaf)) (.seq (.ops [0, 1, 2, 7]) (.seq (.ops [0, 1, 2, 7, 8, 9]) (.seq (.ops [0, 2, 7, 8, 9, 10, 11]) (.seq (.ops [0, 2, 7, 8, 9, 10, 11, 12, 13]) (.seq (.ops [0, 7, 8, 9, 10, 11, 12, 13, 14]) (.seq (.seq (.ops [0, 7, 8, 9, 10, 11, 12, 60]) (.cond (.seq (.ops [6]) .leaf) .leaf)) (.seq (.seq (.ops [0, 7, 8, 9, 10, 11, 12, 15]) (.blk (.loop [0, 7, 8, 9, 10, 11, 12] [15] (.seq (.seq (.ops [0, 7, 8, 9, 10, 11, 12, 15, 64]) (.cond .leaf .leaf)) (.seq (.blk (.seq (.ops [0, 7, 8, 9, 10, 11, 12, 15, 72]) (.cond (.seq (.ops [6]) .leaf) .leaf))) (.ops [0, 7, 8, 9, 10, 11, 12, 15])))))) (.seq (.seq (.ops [0, 7, 8, 9, 10, 11, 16]) (.blk (.loop [0, 7, 8, 9, 10, 11] [16] (.seq (.seq (.ops [0, 7, 8, 9, 10, 11, 16, 76]) (.cond .leaf .leaf)) (.seq (.blk (.seq (.draw (.q 0 (.q 1 (.q 2 (.q 3 (.q 4 (.q 5 (.q 6 (.q 7 (.q 8 (.q 10 (.q 11 (.q 12 (.q 13 (.q 14 (.q 15 (.q 16 (.q 17 (.q 18 (.one 9 (.one 19 (.q 20 .fin))))))))))))))))))))) [0, 7, 8, 9, 10, 11, 16, 99]) (.cond (.seq (.ops [6]) .leaf) .leaf))) (.ops [0, 7, 8, 9, 10, 11, 16])))))) (.seq (.ops [6]) .leaf)))))))))))) (Tryd.f8.body.getD .skip) [a0, a1, a2] w R by kernel_rfl) h)

/-! ### 11: handbill/hblref6.Clean -/
def sh11 (a0 : Value) (w : World) (R : Value → World → Prop) : Prop :=
 lp 1 (fun n_2 t3_1 w =>
 RunW Tryd.prog (Builtin.len_ #[9] 3 #[a0]) w fun t6_3 =>
 RunA Tryd.prog (bin .lss 3 (.tmp 4) (.tmp 6) t3_1 t6_3) fun t7_4 =>
 IfB t7_4 (
 jn 2 (fun t0_5 t3_6 w =>
 RunA Tryd.prog (bin .add 3 (.tmp 8) (.const (.int .i64 1)) t3_6 (.int .i64 1)) fun t9_8 =>
 (t0_5 : Value) = a0 ∧ (n_2 t9_8 w)) fun j_7 =>
 RunA Tryd.prog (Instr.index 9 a0 t3_1) fun t12_9 =>
 RunA Tryd.prog (bin .lss 5 (.tmp 12) (.const (.int .u8 32)) t12_9 (.int .u8 32)) fun t13_10 =>
 IfB t13_10 (
 RunA Tryd.prog (Instr.index 9 a0 t3_1) fun t17_11 =>
 CallF Tryd.prog 31 #[t17_11] w fun t18_12 w =>
 RunA Tryd.prog (Op.unary .not t18_12) fun t19_13 =>
 IfB t19_13 (
 R (.bool false) w) (
 j_7 a0 t3_1 w)) (
 j_7 a0 t3_1 w)) (
 CallF Tryd.prog 32 #[a0] w fun t22_14 w =>
 R t22_14 w)) [(.int .i64 0)] w
theorem sh11_calls {a0 : Value} {w : World} {R : Value → World → Prop} (h : sh11 a0 w R) : CallF Tryd.prog 11 #[a0] w R :=
  calls_of_denF (mk := false) (args := [a0]) (an := (.seq (.ops [0]) (.seq (.seq (.ops [0, 3]) (.blk (.loop [0] [3] (.seq (.seq (.ops [0, 3, 7]) (.cond .leaf .leaf)) (.seq (.blk (.join [0, 3] (.seq (.ops [0, 3, 20]) (.cond (.seq (.ops [2]) .leaf) .leaf)))) (.ops [0, 3])))))) (.seq (.ops [2]) .leaf)))) (c := Tryd.f11.body.getD .skip) hentD Tryd.func11 rfl (Nat.le_of_ble_eq_true (by kernel_rfl))
    (Eq.mp (show sh11 a0 w R = denF Tryd.prog entD false Tryd.f11 (.seq (.ops [0]) (.seq (.seq (.ops [0, 3]) (.blk (.loop [0] [3] (.seq (.seq (.ops [0, 3, 7]) (.cond .leaf .leaf)) (.seq (.blk (.join [0, 3] (.seq (.ops [0, 3, 20]) (.cond (.seq (.ops [2]) .leaf) .leaf)))) (.ops [0, 3])))))) (.seq (.ops [2]) .leaf))) (Tryd.f11.body.getD .skip) [a0] w R by kernel_rfl) h)

/-! ### 12: handbill/hbllaw6.escaped -/
def sh12 (a0 : Value) (w : World) (R : Value → World → Prop) : Prop :=
 lp 2 (fun n_3 t3_1 t4_2 w =>
 RunW Tryd.prog (Builtin.len_ #[9] 3 #[a0]) w fun t7_4 =>
 RunA Tryd.prog (bin .lss 3 (.tmp 5) (.tmp 7) t4_2 t7_4) fun t8_5 =>
 IfB t8_5 (
 RunA Tryd.prog (Instr.index 9 a0 t4_2) fun t13_6 =>
 jn 3 (fun t0_7 t3_8 t4_9 w =>
 RunA Tryd.prog (bin .add 3 (.tmp 9) (.const (.int .i64 1)) t4_9 (.int .i64 1)) fun t10_11 =>
 (t0_7 : Value) = a0 ∧ (n_3 t3_8 t10_11 w)) fun j_10 =>
 RunW Tryd.prog (bin .eql 5 (.tmp 13) (.const (.int .u8 60)) t13_6 (.int .u8 60)) w fun t22_12 =>
 IfB t22_12 (
 RunA Tryd.prog (bin .add 9 (.tmp 23) (.const (.string ⟨#[38, 108, 116, 59]⟩)) t3_1 (.string ⟨#[38, 108, 116, 59]⟩)) fun t24_13 =>
 j_10 a0 t24_13 t4_2 w) (
 jn 3 (fun t0_14 t3_15 t4_16 w =>
 j_10 t0_14 t3_15 t4_16 w) fun j_17 =>
 RunW Tryd.prog (bin .eql 5 (.tmp 13) (.const (.int .u8 62)) t13_6 (.int .u8 62)) w fun t26_18 =>
 IfB t26_18 (
 RunA Tryd.prog (bin .add 9 (.tmp 27) (.const (.string ⟨#[38, 103, 116, 59]⟩)) t3_1 (.string ⟨#[38, 103, 116, 59]⟩)) fun t28_19 =>
 j_17 a0 t28_19 t4_2 w) (
 jn 3 (fun t0_20 t3_21 t4_22 w =>
 j_17 t0_20 t3_21 t4_22 w) fun j_23 =>
 RunW Tryd.prog (bin .eql 5 (.tmp 13) (.const (.int .u8 38)) t13_6 (.int .u8 38)) w fun t30_24 =>
 IfB t30_24 (
 RunA Tryd.prog (bin .add 9 (.tmp 31) (.const (.string ⟨#[38, 97, 109, 112, 59]⟩)) t3_1 (.string ⟨#[38, 97, 109, 112, 59]⟩)) fun t32_25 =>
 j_23 a0 t32_25 t4_2 w) (
 jn 3 (fun t0_26 t3_27 t4_28 w =>
 j_23 t0_26 t3_27 t4_28 w) fun j_29 =>
 RunW Tryd.prog (bin .eql 5 (.tmp 13) (.const (.int .u8 34)) t13_6 (.int .u8 34)) w fun t34_30 =>
 IfB t34_30 (
 RunA Tryd.prog (bin .add 9 (.tmp 35) (.const (.string ⟨#[38, 113, 117, 111, 116, 59]⟩)) t3_1 (.string ⟨#[38, 113, 117, 111, 116, 59]⟩)) fun t36_31 =>
 j_29 a0 t36_31 t4_2 w) (
 RunA Tryd.prog (bin .add 3 (.tmp 17) (.const (.int .i64 1)) t4_2 (.int .i64 1)) fun t18_32 =>
 RunA Tryd.prog (Instr.sliceAt 9 a0 (some t4_2) (some t18_32) none) fun t19_33 =>
 RunA Tryd.prog (bin .add 9 (.tmp 14) (.tmp 19) t3_1 t19_33) fun t20_34 =>
 j_29 a0 t20_34 t4_2 w))))) (
 R t3_1 w)) [(.string ⟨#[]⟩), (.int .i64 0)] w
theorem sh12_calls {a0 : Value} {w : World} {R : Value → World → Prop} (h : sh12 a0 w R) : CallF Tryd.prog 12 #[a0] w R :=
  calls_of_denF (mk := false) (args := [a0]) (an := (.seq (.ops [0]) (.seq (.ops [0, 3]) (.seq (.seq (.ops [0, 3, 4]) (.blk (.loop [0] [3, 4] (.seq (.seq (.ops [0, 3, 4, 8]) (.cond .leaf .leaf)) (.seq (.blk (.seq (.ops [0, 3, 4, 13]) (.blk (.join [0, 3, 4] (.seq (.ops [0, 3, 4, 13, 21]) (.cond (.ops [0, 3, 4]) (.join [0, 3, 4] (.seq (.ops [0, 3, 4, 13, 25]) (.cond (.ops [0, 3, 4]) (.join [0, 3, 4] (.seq (.ops [0, 3, 4, 13, 29]) (.cond (.ops [0, 3, 4]) (.join [0, 3, 4] (.seq (.ops [0, 3, 4, 33]) (.cond (.ops [0, 3, 4]) (.ops [0, 3, 4])))))))))))))))) (.ops [0, 3, 4])))))) (.seq (.ops [2]) .leaf))))) (c := Tryd.f12.body.getD .skip) hentD Tryd.func12 rfl (Nat.le_of_ble_eq_true (by kernel_rfl))
    (Eq.mp (show sh12 a0 w R = denF Tryd.prog entD false Tryd.f12 (.seq (.ops [0]) (.seq (.ops [0, 3]) (.seq (.seq (.ops [0, 3, 4]) (.blk (.loop [0] [3, 4] (.seq (.seq (.ops [0, 3, 4, 8]) (.cond .leaf .leaf)) (.seq (.blk (.seq (.ops [0, 3, 4, 13]) (.blk (.join [0, 3, 4] (.seq (.ops [0, 3, 4, 13, 21]) (.cond (.ops [0, 3, 4]) (.join [0, 3, 4] (.seq (.ops [0, 3, 4, 13, 25]) (.cond (.ops [0, 3, 4]) (.join [0, 3, 4] (.seq (.ops [0, 3, 4, 13, 29]) (.cond (.ops [0, 3, 4]) (.join [0, 3, 4] (.seq (.ops [0, 3, 4, 33]) (.cond (.ops [0, 3, 4]) (.ops [0, 3, 4])))))))))))))))) (.ops [0, 3, 4])))))) (.seq (.ops [2]) .leaf)))) (Tryd.f12.body.getD .skip) [a0] w R by kernel_rfl) h)

/-! ### 13: handbill/hbllaw6.same -/
def sh13 (a0 a1 : Value) (w : World) (R : Value → World → Prop) : Prop :=
 RunW Tryd.prog (Builtin.len_ #[38] 3 #[a0]) w fun t7_1 =>
 RunW Tryd.prog (Builtin.len_ #[38] 3 #[a1]) w fun t9_2 =>
 RunW Tryd.prog (bin .neq 3 (.tmp 7) (.tmp 9) t7_1 t9_2) w fun t10_3 =>
 IfB t10_3 (
 R (.bool false) w) (
 lp 1 (fun n_5 t5_4 w =>
 RunW Tryd.prog (Builtin.len_ #[38] 3 #[a0]) w fun t13_6 =>
 RunA Tryd.prog (bin .lss 3 (.tmp 11) (.tmp 13) t5_4 t13_6) fun t14_7 =>
 IfB t14_7 (
 drw (fun S_8 w =>
 RunA Tryd.prog (Instr.indexAt 38 a0 t5_4) fun t19_9 =>
 RunS Tryd.prog S_8 (Instr.loadAt 59 t19_9) fun t20_10 =>
 RunA Tryd.prog (Instr.indexAt 38 a1 t5_4) fun t23_11 =>
 RunS Tryd.prog S_8 (Instr.loadAt 59 t23_11) fun t24_12 =>
 CallF Tryd.prog 23 #[t20_10, t24_12] w fun t25_13 w =>
 RunA Tryd.prog (Op.unary .not t25_13) fun t26_14 =>
 IfB t26_14 (
 R (.bool false) w) (
 RunA Tryd.prog (bin .add 3 (.tmp 15) (.const (.int .i64 1)) t5_4 (.int .i64 1)) fun t16_15 =>
 (a0 : Value) = a0 ∧ ((a1 : Value) = a1 ∧ (n_5 t16_15 w)))) w) (
 R (.bool true) w)) [(.int .i64 0)] w)
theorem sh13_calls {a0 a1 : Value} {w : World} {R : Value → World → Prop} (h : sh13 a0 a1 w R) : CallF Tryd.prog 13 #[a0, a1] w R :=
  calls_of_denF (mk := false) (args := [a0, a1]) (an := (.seq (.ops [0, 1]) (.seq (.seq (.ops [0, 1, 10]) (.cond (.seq (.ops [4]) .leaf) .leaf)) (.seq (.seq (.ops [0, 1, 5]) (.blk (.loop [0, 1] [5] (.seq (.seq (.ops [0, 1, 5, 14]) (.cond .leaf .leaf)) (.seq (.blk (.seq (.draw (.q 0 (.q 1 (.q 2 (.q 3 (.q 4 (.q 5 (.q 6 (.q 7 (.one 8 (.q 9 .fin)))))))))) [0, 1, 5, 26]) (.cond (.seq (.ops [4]) .leaf) .leaf))) (.ops [0, 1, 5])))))) (.seq (.ops [4]) .leaf))))) (c := Tryd.f13.body.getD .skip) hentD Tryd.func13 rfl (Nat.le_of_ble_eq_true (by kernel_rfl))
    (Eq.mp (show sh13 a0 a1 w R = denF Tryd.prog entD false Tryd.f13 (.seq (.ops [0, 1]) (.seq (.seq (.ops [0, 1, 10]) (.cond (.seq (.ops [4]) .leaf) .leaf)) (.seq (.seq (.ops [0, 1, 5]) (.blk (.loop [0, 1] [5] (.seq (.seq (.ops [0, 1, 5, 14]) (.cond .leaf .leaf)) (.seq (.blk (.seq (.draw (.q 0 (.q 1 (.q 2 (.q 3 (.q 4 (.q 5 (.q 6 (.q 7 (.one 8 (.q 9 .fin)))))))))) [0, 1, 5, 26]) (.cond (.seq (.ops [4]) .leaf) .leaf))) (.ops [0, 1, 5])))))) (.seq (.ops [4]) .leaf)))) (Tryd.f13.body.getD .skip) [a0, a1] w R by kernel_rfl) h)

/-! ### 14: handbill/hbllaw6.Plain -/
def sh14 (a0 : Value) (w : World) (R : Value → World → Prop) : Prop :=
 lp 2 (fun n_3 t3_1 t4_2 w =>
 RunW Tryd.prog (Builtin.len_ #[24] 3 #[a0]) w fun t10_4 =>
 RunA Tryd.prog (bin .lss 3 (.tmp 8) (.tmp 10) t4_2 t10_4) fun t11_5 =>
 IfB t11_5 (
 jn 4 (fun t0_6 t3_7 t4_8 t5_9 w =>
 lp 1 (fun n_12 t6_11 w =>
 RunA Tryd.prog (Instr.indexAt 24 t0_6 t4_8) fun t38_13 =>
 RunA Tryd.prog (Instr.fieldAt 30 t38_13 4) fun t39_14 =>
 RunW Tryd.prog (Instr.loadAt 28 t39_14) w fun t40_15 =>
 RunW Tryd.prog (Builtin.len_ #[28] 3 #[t40_15]) w fun t41_16 =>
 RunA Tryd.prog (bin .lss 3 (.tmp 35) (.tmp 41) t6_11 t41_16) fun t42_17 =>
 IfB t42_17 (
 RunA Tryd.prog (Instr.indexAt 24 t0_6 t4_8) fun t47_18 =>
 RunA Tryd.prog (Instr.fieldAt 30 t47_18 4) fun t48_19 =>
 RunW Tryd.prog (Instr.loadAt 28 t48_19) w fun t49_20 =>
 RunA Tryd.prog (Instr.indexAt 28 t49_20 t6_11) fun t51_21 =>
 RunW Tryd.prog (Instr.loadAt 35 t51_21) w fun t52_22 =>
 RunV Tryd.prog (Instr.alloc 35 true (.tuple #[])) w fun t7_23 w =>
 RunU Tryd.prog (Instr.storeAt 35 t7_23 t52_22) w fun w =>
 RunA Tryd.prog (Instr.fieldAt 59 t5_9 4) fun t53_24 =>
 RunW Tryd.prog (Instr.loadAt 57 t53_24) w fun t54_25 =>
 RunA Tryd.prog (Instr.fieldAt 35 t7_23 0) fun t55_26 =>
 RunW Tryd.prog (Instr.loadAt 9 t55_26) w fun t56_27 =>
 RunA Tryd.prog (Instr.fieldAt 35 t7_23 1) fun t57_28 =>
 RunW Tryd.prog (Instr.loadAt 9 t57_28) w fun t58_29 =>
 RunA Tryd.prog (Instr.fieldAt 35 t7_23 2) fun t59_30 =>
 RunW Tryd.prog (Instr.loadAt 9 t59_30) w fun t60_31 =>
 RunV Tryd.prog (Instr.build 71 #[(0, t56_27), (1, t58_29), (2, t60_31)]) w fun t61_32 w =>
 RunV Tryd.prog (Instr.buildSlice 57 1 #[(0, t61_32)]) w fun t62_33 w =>
 RunV Tryd.prog (Builtin.append_ #[57, 57] 57 #[t54_25, t62_33]) w fun t63_34 w =>
 RunA Tryd.prog (Instr.fieldAt 59 t5_9 4) fun t64_35 =>
 RunU Tryd.prog (Instr.storeAt 57 t64_35 t63_34) w fun w =>
 RunA Tryd.prog (bin .add 3 (.tmp 43) (.const (.int .i64 1)) t6_11 (.int .i64 1)) fun t44_36 =>
 (t0_6 : Value) = t0_6 ∧ ((t3_7 : Value) = t3_7 ∧ ((t4_8 : Value) = t4_8 ∧ ((t5_9 : Value) = t5_9 ∧ (n_12 t44_36 w))))) (
 RunW Tryd.prog (Instr.loadAt 59 t5_9) w fun t66_37 =>
 RunV Tryd.prog (Instr.buildSlice 38 1 #[(0, t66_37)]) w fun t67_38 w =>
 RunV Tryd.prog (Builtin.append_ #[38, 38] 38 #[t3_7, t67_38]) w fun t68_39 w =>
 RunA Tryd.prog (bin .add 3 (.tmp 12) (.const (.int .i64 1)) t4_8 (.int .i64 1)) fun t13_40 =>
 (t0_6 : Value) = a0 ∧ (n_3 t68_39 t13_40 w))) [(.int .i64 0)] w) fun j_10 =>
 drw (fun S_41 w =>
 RunA Tryd.prog (Instr.indexAt 24 a0 t4_2) fun t16_42 =>
 RunA Tryd.prog (Instr.fieldAt 30 t16_42 0) fun t17_43 =>
 RunS Tryd.prog S_41 (Instr.loadAt 3 t17_43) fun t18_44 =>
 RunA Tryd.prog (Instr.indexAt 24 a0 t4_2) fun t21_45 =>
 RunA Tryd.prog (Instr.fieldAt 30 t21_45 1) fun t22_46 =>
 RunS Tryd.prog S_41 (Instr.loadAt 9 t22_46) fun t23_47 =>
 RunA Tryd.prog (Instr.indexAt 24 a0 t4_2) fun t26_48 =>
 RunA Tryd.prog (Instr.fieldAt 30 t26_48 2) fun t27_49 =>
 RunS Tryd.prog S_41 (Instr.loadAt 9 t27_49) fun t28_50 =>
 RunA Tryd.prog (Instr.indexAt 24 a0 t4_2) fun t31_51 =>
 RunA Tryd.prog (Instr.fieldAt 30 t31_51 3) fun t32_52 =>
 RunS Tryd.prog S_41 (Instr.loadAt 9 t32_52) fun t33_53 =>
 (RunV Tryd.prog (Instr.build 59 #[(0, t18_44), (1, t23_47), (2, t28_50), (3, t33_53)]) w fun t34_54 w =>
 RunV Tryd.prog (Instr.alloc 59 true (.tuple #[])) w fun t5_55 w =>
 RunU Tryd.prog (Instr.storeAt 59 t5_55 t34_54) w fun w =>
 j_10 a0 t3_1 t4_2 t5_55 w) ∧ (
 (RunV Tryd.prog (Instr.alloc 59 true (.tuple #[])) w fun t5_56 w =>
 S_41 w ∧ (
 RunV Tryd.prog (Instr.build 59 #[(0, t18_44), (1, t23_47), (2, t28_50), (3, t33_53)]) w fun t34_57 w =>
 RunU Tryd.prog (Instr.storeAt 59 t5_56 t34_57) w fun w =>
 j_10 a0 t3_1 t4_2 t5_56 w)) ∧ (
 True))) w) (
 R t3_1 w)) [(.slice none 0 0), (.int .i64 0)] w
theorem sh14_calls {a0 : Value} {w : World} {R : Value → World → Prop} (h : sh14 a0 w R) : CallF Tryd.prog 14 #[a0] w R :=
  calls_of_denF (mk := false) (args := [a0]) (an := (.seq (.ops [0]) (.seq (.ops [0, 3]) (.seq (.seq (.ops [0, 3, 4]) (.blk (.loop [0] [3, 4] (.seq (.seq (.ops [0, 3, 4, 11]) (.cond .leaf .leaf)) (.seq (.blk (.seq (.join [0, 3, 4, 5] (.draw (.q 0 (.q 1 (.q 2 (.q 3 (.q 4 (.q 5 (.q 6 (.q 7 (.q 8 (.q 9 (.q 10 (.q 11 (.q 12 (.q 13 (.q 14 (.q 15 (.q 16 (.q 17 (.q 18 (.q 19 (.alt 20 (.one 21 (.one 22 .fin)) (.alt 21 (.one 20 (.one 22 .fin)) .fin)))))))))))))))))))))) [0, 3, 4, 5])) (.seq (.seq (.ops [0, 3, 4, 5, 6]) (.blk (.loop [0, 3, 4, 5] [6] (.seq (.seq (.ops [0, 3, 4, 5, 6, 42]) (.cond .leaf .leaf)) (.seq (.blk (.seq (.ops [0, 3, 4, 5, 6, 7]) (.ops [0, 3, 4, 5, 6]))) (.ops [0, 3, 4, 5, 6])))))) (.ops [0, 3, 4])))) (.ops [0, 3, 4])))))) (.seq (.ops [2]) .leaf))))) (c := Tryd.f14.body.getD .skip) hentD Tryd.func14 rfl (Nat.le_of_ble_eq_true (by kernel_rfl))
    (Eq.mp (show sh14 a0 w R = denF Tryd.prog entD false Tryd.f14 (.seq (.ops [0]) (.seq (.ops [0, 3]) (.seq (.seq (.ops [0, 3, 4]) (.blk (.loop [0] [3, 4] (.seq (.seq (.ops [0, 3, 4, 11]) (.cond .leaf .leaf)) (.seq (.blk (.seq (.join [0, 3, 4, 5] (.draw (.q 0 (.q 1 (.q 2 (.q 3 (.q 4 (.q 5 (.q 6 (.q 7 (.q 8 (.q 9 (.q 10 (.q 11 (.q 12 (.q 13 (.q 14 (.q 15 (.q 16 (.q 17 (.q 18 (.q 19 (.alt 20 (.one 21 (.one 22 .fin)) (.alt 21 (.one 20 (.one 22 .fin)) .fin)))))))))))))))))))))) [0, 3, 4, 5])) (.seq (.seq (.ops [0, 3, 4, 5, 6]) (.blk (.loop [0, 3, 4, 5] [6] (.seq (.seq (.ops [0, 3, 4, 5, 6, 42]) (.cond .leaf .leaf)) (.seq (.blk (.seq (.ops [0, 3, 4, 5, 6, 7]) (.ops [0, 3, 4, 5, 6]))) (.ops [0, 3, 4, 5, 6])))))) (.ops [0, 3, 4])))) (.ops [0, 3, 4])))))) (.seq (.ops [2]) .leaf)))) (Tryd.f14.body.getD .skip) [a0] w R by kernel_rfl) h)

/-! ### 15: handbill/hbllaw6.letters -/
def sh15 (a0 : Value) (w : World) (R : Value → World → Prop) : Prop :=
 lp 1 (fun n_2 t3_1 w =>
 RunW Tryd.prog (Builtin.len_ #[9] 3 #[a0]) w fun t6_3 =>
 RunA Tryd.prog (bin .lss 3 (.tmp 4) (.tmp 6) t3_1 t6_3) fun t7_4 =>
 IfB t7_4 (
 RunA Tryd.prog (Instr.index 9 a0 t3_1) fun t12_5 =>
 RunA Tryd.prog (bin .lss 5 (.tmp 12) (.const (.int .u8 97)) t12_5 (.int .u8 97)) fun t13_6 =>
 IfB t13_6 (
 R (.bool false) w) (
 RunA Tryd.prog (Instr.index 9 a0 t3_1) fun t17_7 =>
 RunA Tryd.prog (bin .gtr 5 (.tmp 17) (.const (.int .u8 122)) t17_7 (.int .u8 122)) fun t18_8 =>
 IfB t18_8 (
 R (.bool false) w) (
 RunA Tryd.prog (bin .add 3 (.tmp 8) (.const (.int .i64 1)) t3_1 (.int .i64 1)) fun t9_9 =>
 (a0 : Value) = a0 ∧ (n_2 t9_9 w)))) (
 RunW Tryd.prog (Builtin.len_ #[9] 3 #[a0]) w fun t21_10 =>
 RunA Tryd.prog (bin .geq 3 (.tmp 21) (.const (.int .i64 1)) t21_10 (.int .i64 1)) fun t22_11 =>
 IfB t22_11 (
 RunW Tryd.prog (Builtin.len_ #[9] 3 #[a0]) w fun t25_12 =>
 RunA Tryd.prog (bin .leq 3 (.tmp 25) (.const (.int .i64 100)) t25_12 (.int .i64 100)) fun t26_13 =>
 R t26_13 w) (
 R (.bool false) w))) [(.int .i64 0)] w
theorem sh15_calls {a0 : Value} {w : World} {R : Value → World → Prop} (h : sh15 a0 w R) : CallF Tryd.prog 15 #[a0] w R :=
  calls_of_denF (mk := false) (args := [a0]) (an := (.seq (.ops [0]) (.seq (.seq (.ops [0, 3]) (.blk (.loop [0] [3] (.seq (.seq (.ops [0, 3, 7]) (.cond .leaf .leaf)) (.seq (.blk (.seq (.ops [0, 3, 19]) (.cond (.seq (.ops [2]) .leaf) .leaf))) (.ops [0, 3])))))) (.seq (.ops [2]) .leaf)))) (c := Tryd.f15.body.getD .skip) hentD Tryd.func15 rfl (Nat.le_of_ble_eq_true (by kernel_rfl))
    (Eq.mp (show sh15 a0 w R = denF Tryd.prog entD false Tryd.f15 (.seq (.ops [0]) (.seq (.seq (.ops [0, 3]) (.blk (.loop [0] [3] (.seq (.seq (.ops [0, 3, 7]) (.cond .leaf .leaf)) (.seq (.blk (.seq (.ops [0, 3, 19]) (.cond (.seq (.ops [2]) .leaf) .leaf))) (.ops [0, 3])))))) (.seq (.ops [2]) .leaf))) (Tryd.f15.body.getD .skip) [a0] w R by kernel_rfl) h)

/-! ### 16: handbill/hblref.Unique -/
def sh16 (a0 : Value) (w : World) (R : Value → World → Prop) : Prop :=
 lp 2 (fun n_3 t3_1 t4_2 w =>
 RunW Tryd.prog (Builtin.len_ #[41] 3 #[a0]) w fun t8_4 =>
 RunA Tryd.prog (bin .lss 3 (.tmp 6) (.tmp 8) t4_2 t8_4) fun t9_5 =>
 IfB t9_5 (
 jn 3 (fun t0_6 t3_7 t4_8 w =>
 RunA Tryd.prog (bin .add 3 (.tmp 10) (.const (.int .i64 1)) t4_8 (.int .i64 1)) fun t11_10 =>
 (t0_6 : Value) = a0 ∧ (n_3 t3_7 t11_10 w)) fun j_9 =>
 RunW Tryd.prog (Builtin.len_ #[41] 3 #[t3_1]) w fun t13_11 =>
 jn 4 (fun t0_12 t3_13 t4_14 t5_15 w =>
 jn 4 (fun t0_17 t3_18 t4_19 t5_20 w =>
 drw (fun S_22 w =>
 RunA Tryd.prog (Instr.sliceAt 41 t3_18 none (some t5_20) none) fun t47_23 =>
 RunA Tryd.prog (Instr.indexAt 41 t0_17 t4_19) fun t50_24 =>
 RunS Tryd.prog S_22 (Instr.loadAt 9 t50_24) fun t51_25 =>
 RunA Tryd.prog (Instr.sliceAt 41 t3_18 (some t5_20) none none) fun t55_26 =>
 RunV Tryd.prog (Instr.buildSlice 41 1 #[(0, t51_25)]) w fun t52_27 w =>
 RunV Tryd.prog (Builtin.append_ #[41, 41] 41 #[t52_27, t55_26]) w fun t56_28 w =>
 RunV Tryd.prog (Builtin.append_ #[41, 41] 41 #[t47_23, t56_28]) w fun t57_29 w =>
 j_9 t0_17 t57_29 t4_19 w) w) fun j_21 =>
 drw (fun S_30 w =>
 RunS Tryd.prog S_30 (Builtin.len_ #[41] 3 #[t3_13]) fun t32_31 =>
 RunA Tryd.prog (bin .lss 3 (.tmp 30) (.tmp 32) t5_15 t32_31) fun t33_32 =>
 IfB t33_32 (
 RunA Tryd.prog (Instr.indexAt 41 t3_13 t5_15) fun t37_33 =>
 RunS Tryd.prog S_30 (Instr.loadAt 9 t37_33) fun t38_34 =>
 RunA Tryd.prog (Instr.indexAt 41 t0_12 t4_14) fun t41_35 =>
 RunS Tryd.prog S_30 (Instr.loadAt 9 t41_35) fun t42_36 =>
 RunS Tryd.prog S_30 (bin .eql 9 (.tmp 38) (.tmp 42) t38_34 t42_36) fun t43_37 =>
 IfB t43_37 (
 j_9 t0_12 t3_13 t4_14 w) (
 j_21 t0_12 t3_13 t4_14 t5_15 w)) (
 j_21 t0_12 t3_13 t4_14 t5_15 w)) w) fun j_16 =>
 lp 1 (fun n_39 t5_38 w =>
 drw (fun S_40 w =>
 RunA Tryd.prog (bin .gtr 3 (.tmp 14) (.const (.int .i64 0)) t5_38 (.int .i64 0)) fun t15_41 =>
 IfB t15_41 (
 RunA Tryd.prog (bin .sub 3 (.tmp 18) (.const (.int .i64 1)) t5_38 (.int .i64 1)) fun t19_42 =>
 RunA Tryd.prog (Instr.indexAt 41 t3_1 t19_42) fun t20_43 =>
 RunS Tryd.prog S_40 (Instr.loadAt 9 t20_43) fun t21_44 =>
 RunA Tryd.prog (Instr.indexAt 41 a0 t4_2) fun t24_45 =>
 RunS Tryd.prog S_40 (Instr.loadAt 9 t24_45) fun t25_46 =>
 RunA Tryd.prog (bin .geq 9 (.tmp 21) (.tmp 25) t21_44 t25_46) fun t26_47 =>
 IfB t26_47 (
 RunA Tryd.prog (bin .sub 3 (.tmp 28) (.const (.int .i64 1)) t5_38 (.int .i64 1)) fun t29_48 =>
 (a0 : Value) = a0 ∧ ((t3_1 : Value) = t3_1 ∧ ((t4_2 : Value) = t4_2 ∧ (n_39 t29_48 w)))) (
 j_16 a0 t3_1 t4_2 t5_38 w)) (
 j_16 a0 t3_1 t4_2 t5_38 w)) w) [t13_11] w) (
 R t3_1 w)) [(.slice none 0 0), (.int .i64 0)] w
theorem sh16_calls {a0 : Value} {w : World} {R : Value → World → Prop} (h : sh16 a0 w R) : CallF Tryd.prog 16 #[a0] w R :=
  calls_of_denF (mk := false) (args := [a0]) (an := (.seq (.ops [0]) (.seq (.ops [0, 3]) (.seq (.seq (.ops [0, 3, 4]) (.blk (.loop [0] [3, 4] (.seq (.seq (.ops [0, 3, 4, 9]) (.cond .leaf .leaf)) (.seq (.join [0, 3, 4] (.blk (.seq (.ops [0, 3, 4, 5]) (.seq (.join [0, 3, 4, 5] (.blk (.loop [0, 3, 4] [5] (.seq (.seq (.draw (.q 0 (.q 1 (.q 2 (.sp 3 (.q 3 (.q 4 (.q 5 (.q 6 (.q 7 (.q 8 (.q 9 (.q 10 (.q 11 (.q 12 (.q 13 .fin))))))))))) (.q 3 (.q 4 (.q 5 (.q 6 (.q 7 (.q 8 (.q 9 (.q 10 (.q 11 (.q 12 (.q 13 .fin))))))))))))))) [0, 3, 4, 5, 27]) (.cond .leaf .leaf)) (.blk (.ops [0, 3, 4, 5])))))) (.seq (.join [0, 3, 4, 5] (.seq (.draw (.q 0 (.q 1 (.q 2 (.q 3 (.q 4 (.sp 5 (.q 5 (.q 6 (.q 7 (.q 8 (.q 9 (.q 10 (.q 11 (.q 12 (.q 13 (.q 14 .fin)))))))))) (.q 5 (.q 6 (.q 7 (.q 8 (.q 9 (.q 10 (.q 11 (.q 12 (.q 13 (.q 14 .fin)))))))))))))))) [0, 3, 4, 5, 44]) (.cond .leaf .leaf))) (.draw (.q 0 (.q 1 (.q 2 (.q 3 (.q 4 (.q 5 (.q 6 (.q 8 (.q 9 (.q 10 (.one 7 (.one 11 (.one 12 (.q 13 .fin)))))))))))))) [0, 3, 4])))))) (.ops [0, 3, 4])))))) (.seq (.ops [2]) .leaf))))) (c := Tryd.f16.body.getD .skip) hentD Tryd.func16 rfl (Nat.le_of_ble_eq_true (by kernel_rfl))
    (Eq.mp (show sh16 a0 w R = denF Tryd.prog entD false Tryd.f16 (.seq (.ops [0]) (.seq (.ops [0, 3]) (.seq (.seq (.ops [0, 3, 4]) (.blk (.loop [0] [3, 4] (.seq (.seq (.ops [0, 3, 4, 9]) (.cond .leaf .leaf)) (.seq (.join [0, 3, 4] (.blk (.seq (.ops [0, 3, 4, 5]) (.seq (.join [0, 3, 4, 5] (.blk (.loop [0, 3, 4] [5] (.seq (.seq (.draw (.q 0 (.q 1 (.q 2 (.sp 3 (.q 3 (.q 4 (.q 5 (.q 6 (.q 7 (.q 8 (.q 9 (.q 10 (.q 11 (.q 12 (.q 13 .fin))))))))))) (.q 3 (.q 4 (.q 5 (.q 6 (.q 7 (.q 8 (.q 9 (.q 10 (.q 11 (.q 12 (.q 13 .fin))))))))))))))) [0, 3, 4, 5, 27]) (.cond .leaf .leaf)) (.blk (.ops [0, 3, 4, 5])))))) (.seq (.join [0, 3, 4, 5] (.seq (.draw (.q 0 (.q 1 (.q 2 (.q 3 (.q 4 (.sp 5 (.q 5 (.q 6 (.q 7 (.q 8 (.q 9 (.q 10 (.q 11 (.q 12 (.q 13 (.q 14 .fin)))))))))) (.q 5 (.q 6 (.q 7 (.q 8 (.q 9 (.q 10 (.q 11 (.q 12 (.q 13 (.q 14 .fin)))))))))))))))) [0, 3, 4, 5, 44]) (.cond .leaf .leaf))) (.draw (.q 0 (.q 1 (.q 2 (.q 3 (.q 4 (.q 5 (.q 6 (.q 8 (.q 9 (.q 10 (.one 7 (.one 11 (.one 12 (.q 13 .fin)))))))))))))) [0, 3, 4])))))) (.ops [0, 3, 4])))))) (.seq (.ops [2]) .leaf)))) (Tryd.f16.body.getD .skip) [a0] w R by kernel_rfl) h)

/-! ### 17: handbill/xml.Inner -/
def sh17 (a0 a1 : Value) (w : World) (R : Value → World → Prop) : Prop :=
 RunV Tryd.prog (Instr.box 3 a1) w fun t3_1 w =>
 RunV Tryd.prog (Instr.alloc 9 true (.tuple #[])) w fun t4_2 w =>
 RunV Tryd.prog (Instr.alloc 3 true (.tuple #[])) w fun t5_3 w =>
 RunW Tryd.prog (Instr.loadAt 3 t3_1) w fun t10_4 =>
 RunA Tryd.prog (bin .lss 3 (.tmp 10) (.const (.int .i64 0)) t10_4 (.int .i64 0)) fun t11_5 =>
 IfB t11_5 (
 drw (fun S_6 w =>
 RunS Tryd.prog S_6 (Instr.loadAt 3 t3_1) fun t26_7 =>
 RunU Tryd.prog (Instr.storeAt 9 t4_2 (.string ⟨#[]⟩)) w fun w =>
 S_6 w ∧ (
 RunU Tryd.prog (Instr.storeAt 3 t5_3 t26_7) w fun w =>
 RunW Tryd.prog (Instr.loadAt 9 t4_2) w fun t4_8 =>
 RunW Tryd.prog (Instr.loadAt 3 t5_3) w fun t5_9 =>
 R (.tuple #[t4_8, t5_9]) w)) w) (
 RunW Tryd.prog (Instr.loadAt 3 t3_1) w fun t13_10 =>
 RunW Tryd.prog (Builtin.len_ #[24] 3 #[a0]) w fun t15_11 =>
 RunA Tryd.prog (bin .geq 3 (.tmp 13) (.tmp 15) t13_10 t15_11) fun t16_12 =>
 IfB t16_12 (
 drw (fun S_13 w =>
 RunS Tryd.prog S_13 (Instr.loadAt 3 t3_1) fun t26_14 =>
 RunU Tryd.prog (Instr.storeAt 9 t4_2 (.string ⟨#[]⟩)) w fun w =>
 S_13 w ∧ (
 RunU Tryd.prog (Instr.storeAt 3 t5_3 t26_14) w fun w =>
 RunW Tryd.prog (Instr.loadAt 9 t4_2) w fun t4_15 =>
 RunW Tryd.prog (Instr.loadAt 3 t5_3) w fun t5_16 =>
 R (.tuple #[t4_15, t5_16]) w)) w) (
 RunW Tryd.prog (Instr.loadAt 3 t3_1) w fun t20_17 =>
 RunA Tryd.prog (Instr.indexAt 24 a0 t20_17) fun t21_18 =>
 RunA Tryd.prog (Instr.fieldAt 30 t21_18 0) fun t22_19 =>
 RunW Tryd.prog (Instr.loadAt 3 t22_19) w fun t23_20 =>
 RunW Tryd.prog (bin .neq 3 (.tmp 23) (.const (.int .i64 1)) t23_20 (.int .i64 1)) w fun t24_21 =>
 IfB t24_21 (
 drw (fun S_22 w =>
 RunS Tryd.prog S_22 (Instr.loadAt 3 t3_1) fun t26_23 =>
 RunU Tryd.prog (Instr.storeAt 9 t4_2 (.string ⟨#[]⟩)) w fun w =>
 S_22 w ∧ (
 RunU Tryd.prog (Instr.storeAt 3 t5_3 t26_23) w fun w =>
 RunW Tryd.prog (Instr.loadAt 9 t4_2) w fun t4_24 =>
 RunW Tryd.prog (Instr.loadAt 3 t5_3) w fun t5_25 =>
 R (.tuple #[t4_24, t5_25]) w)) w) (
 RunV Tryd.prog (Instr.alloc 65 true (.tuple #[])) w fun t6_26 w =>
 RunV Tryd.prog (Instr.alloc 3 true (.tuple #[])) w fun t7_27 w =>
 RunU Tryd.prog (Instr.storeAt 3 t7_27 (.int .i64 0)) w fun w =>
 RunW Tryd.prog (Instr.loadAt 3 t3_1) w fun t28_28 =>
 RunA Tryd.prog (Instr.sliceAt 24 a0 (some t28_28) none none) fun t29_29 =>
 CallF Tryd.prog 21 #[t29_29] w fun t30_30 w =>
 rngP Tryd.prog none 2 7 (fun l_31 K_32 t31_38 t32_39 w =>
 RunV Tryd.prog (Instr.alloc 30 true (.tuple #[])) w fun t9_47 w =>
 RunU Tryd.prog (Instr.storeAt 30 t9_47 t32_39) w fun w =>
 K_32 t3_1 t4_2 t5_3 t6_26 t7_27 t31_38 t9_47 w) (fun l_31 kn_33 ks_34 t3_40 t4_41 t5_42 t6_43 t7_44 t8_45 t9_46 w =>
 RunA Tryd.prog (Instr.fieldAt 30 t9_46 0) fun t33_48 =>
 RunW Tryd.prog (Instr.loadAt 3 t33_48) w fun t34_49 =>
 jn 6 (fun t3_50 t4_51 t5_52 t6_53 t7_54 t8_55 w =>
 RunW Tryd.prog (Instr.loadAt 3 t7_54) w fun t48_57 =>
 RunW Tryd.prog (bin .eql 3 (.tmp 48) (.const (.int .i64 0)) t48_57 (.int .i64 0)) w fun t49_58 =>
 IfB t49_58 (
 drw (fun S_59 w =>
 RunS Tryd.prog S_59 (Instr.loadAt 3 t3_50) fun t51_60 =>
 RunA Tryd.prog (bin .add 3 (.tmp 51) (.tmp 52) t51_60 t8_55) fun t53_61 =>
 RunA Tryd.prog (bin .add 3 (.tmp 53) (.const (.int .i64 1)) t53_61 (.int .i64 1)) fun t54_62 =>
 CallF Tryd.prog 34 #[t6_53] w fun t50_63 w =>
 S_59 w ∧ (
 RunU Tryd.prog (Instr.storeAt 9 t4_51 t50_63) w fun w =>
 S_59 w ∧ (
 RunU Tryd.prog (Instr.storeAt 3 t5_52 t54_62) w fun w =>
 ks_34 .ret w))) w) (
 kn_33 w)) fun j_56 =>
 RunW Tryd.prog (bin .eql 3 (.tmp 34) (.const (.int .i64 1)) t34_49 (.int .i64 1)) w fun t36_64 =>
 IfB t36_64 (
 RunW Tryd.prog (Instr.loadAt 3 t7_44) w fun t37_65 =>
 RunA Tryd.prog (bin .add 3 (.tmp 37) (.const (.int .i64 1)) t37_65 (.int .i64 1)) fun t38_66 =>
 RunU Tryd.prog (Instr.storeAt 3 t7_44 t38_66) w fun w =>
 j_56 t3_40 t4_41 t5_42 t6_43 t7_44 t8_45 w) (
 jn 6 (fun t3_67 t4_68 t5_69 t6_70 t7_71 t8_72 w =>
 j_56 t3_67 t4_68 t5_69 t6_70 t7_71 t8_72 w) fun j_73 =>
 RunW Tryd.prog (bin .eql 3 (.tmp 34) (.const (.int .i64 2)) t34_49 (.int .i64 2)) w fun t40_74 =>
 IfB t40_74 (
 RunW Tryd.prog (Instr.loadAt 3 t7_44) w fun t41_75 =>
 RunA Tryd.prog (bin .sub 3 (.tmp 41) (.const (.int .i64 1)) t41_75 (.int .i64 1)) fun t42_76 =>
 RunU Tryd.prog (Instr.storeAt 3 t7_44 t42_76) w fun w =>
 j_73 t3_40 t4_41 t5_42 t6_43 t7_44 t8_45 w) (
 jn 6 (fun t3_77 t4_78 t5_79 t6_80 t7_81 t8_82 w =>
 j_73 t3_77 t4_78 t5_79 t6_80 t7_81 t8_82 w) fun j_83 =>
 RunW Tryd.prog (bin .eql 3 (.tmp 34) (.const (.int .i64 3)) t34_49 (.int .i64 3)) w fun t44_84 =>
 IfB t44_84 (
 RunA Tryd.prog (Instr.fieldAt 30 t9_46 3) fun t45_85 =>
 RunW Tryd.prog (Instr.loadAt 9 t45_85) w fun t46_86 =>
 CallF Tryd.prog 33 #[t6_43, t46_86] w fun t47_87 w =>
 j_83 t3_40 t4_41 t5_42 t6_43 t7_44 t8_45 w) (
 j_83 t3_40 t4_41 t5_42 t6_43 t7_44 t8_45 w)))) t30_30 w (fun D_35 w =>
 CallF Tryd.prog 34 #[t6_26] w fun t55_88 w =>
 RunW Tryd.prog (Builtin.len_ #[24] 3 #[a0]) w fun t57_89 =>
 RunU Tryd.prog (Instr.storeAt 9 t4_2 t55_88) w fun w =>
 RunU Tryd.prog (Instr.storeAt 3 t5_3 t57_89) w fun w =>
 (w).heap[D_35]? = some (.deferred (some [])) ∧ (
 RunW Tryd.prog (Instr.loadAt 9 t4_2) (w.putObj D_35 (.deferred none)) fun t4_90 =>
 RunW Tryd.prog (Instr.loadAt 3 t5_3) (w.putObj D_35 (.deferred none)) fun t5_91 =>
 R (.tuple #[t4_90, t5_91]) (w.putObj D_35 (.deferred none)))) (fun D_35 c_36 w => jumpK (fun i_37 w =>
 bif Nat.beq i_37 0 then (
 CallF Tryd.prog 34 #[t6_26] w fun t55_92 w =>
 RunW Tryd.prog (Builtin.len_ #[24] 3 #[a0]) w fun t57_93 =>
 RunU Tryd.prog (Instr.storeAt 9 t4_2 t55_92) w fun w =>
 RunU Tryd.prog (Instr.storeAt 3 t5_3 t57_93) w fun w =>
 (w).heap[D_35]? = some (.deferred (some [])) ∧ (
 RunW Tryd.prog (Instr.loadAt 9 t4_2) (w.putObj D_35 (.deferred none)) fun t4_94 =>
 RunW Tryd.prog (Instr.loadAt 3 t5_3) (w.putObj D_35 (.deferred none)) fun t5_95 =>
 R (.tuple #[t4_94, t5_95]) (w.putObj D_35 (.deferred none)))) else (
 False)) (fun w =>
 (w).heap[D_35]? = some (.deferred (some [])) ∧ (
 RunW Tryd.prog (Instr.loadAt 9 t4_2) (w.putObj D_35 (.deferred none)) fun t4_96 =>
 RunW Tryd.prog (Instr.loadAt 3 t5_3) (w.putObj D_35 (.deferred none)) fun t5_97 =>
 R (.tuple #[t4_96, t5_97]) (w.putObj D_35 (.deferred none)))) c_36 w))))
theorem sh17_calls {a0 a1 : Value} {w : World} {R : Value → World → Prop} (h : sh17 a0 a1 w R) : CallF Tryd.prog 17 #[a0, a1] w R :=
  calls_of_denF (mk := true) (args := [a0, a1]) (an := (.seq (.ops [0, 3, 4, 5]) (.seq (.seq (.ops [0, 3, 4, 5, 25]) (.cond (.seq (.draw (.q 0 (.one 1 (.one 2 .fin))) [4, 5]) .leaf) .leaf)) (.seq (.ops [0, 3, 4, 5, 6]) (.seq (.ops [0, 3, 4, 5, 6, 7]) (.seq (.seq (.ops [0, 3, 4, 5, 6, 7, 30]) (.blk (.rng [3, 4, 5, 6, 7, 8, 9] (.seq (.ops [3, 4, 5, 6, 7, 8, 32]) (.ops [3, 4, 5, 6, 7, 8, 9])) (.blk (.seq (.seq (.ops [3, 4, 5, 6, 7, 8, 9, 34]) (.blk (.join [3, 4, 5, 6, 7, 8] (.seq (.ops [3, 4, 5, 6, 7, 8, 9, 34, 35]) (.cond (.ops [3, 4, 5, 6, 7, 8]) (.join [3, 4, 5, 6, 7, 8] (.seq (.ops [3, 4, 5, 6, 7, 8, 9, 34, 39]) (.cond (.ops [3, 4, 5, 6, 7, 8]) (.join [3, 4, 5, 6, 7, 8] (.seq (.ops [3, 4, 5, 6, 7, 8, 9, 43]) (.cond (.ops [3, 4, 5, 6, 7, 8]) .leaf))))))))))) (.seq (.ops [3, 4, 5, 6, 8, 49]) (.cond (.seq (.draw (.q 1 (.q 2 (.q 3 (.q 4 (.one 0 (.one 5 (.one 6 .fin))))))) []) .leaf) .leaf))))))) (.seq (.ops [4, 5]) .leaf))))))) (c := Tryd.f17.body.getD .skip) hentD Tryd.func17 rfl (Nat.le_of_ble_eq_true (by kernel_rfl))
    (Eq.mp (show sh17 a0 a1 w R = denF Tryd.prog entD true Tryd.f17 (.seq (.ops [0, 3, 4, 5]) (.seq (.seq (.ops [0, 3, 4, 5, 25]) (.cond (.seq (.draw (.q 0 (.one 1 (.one 2 .fin))) [4, 5]) .leaf) .leaf)) (.seq (.ops [0, 3, 4, 5, 6]) (.seq (.ops [0, 3, 4, 5, 6, 7]) (.seq (.seq (.ops [0, 3, 4, 5, 6, 7, 30]) (.blk (.rng [3, 4, 5, 6, 7, 8, 9] (.seq (.ops [3, 4, 5, 6, 7, 8, 32]) (.ops [3, 4, 5, 6, 7, 8, 9])) (.blk (.seq (.seq (.ops [3, 4, 5, 6, 7, 8, 9, 34]) (.blk (.join [3, 4, 5, 6, 7, 8] (.seq (.ops [3, 4, 5, 6, 7, 8, 9, 34, 35]) (.cond (.ops [3, 4, 5, 6, 7, 8]) (.join [3, 4, 5, 6, 7, 8] (.seq (.ops [3, 4, 5, 6, 7, 8, 9, 34, 39]) (.cond (.ops [3, 4, 5, 6, 7, 8]) (.join [3, 4, 5, 6, 7, 8] (.seq (.ops [3, 4, 5, 6, 7, 8, 9, 43]) (.cond (.ops [3, 4, 5, 6, 7, 8]) .leaf))))))))))) (.seq (.ops [3, 4, 5, 6, 8, 49]) (.cond (.seq (.draw (.q 1 (.q 2 (.q 3 (.q 4 (.one 0 (.one 5 (.one 6 .fin))))))) []) .leaf) .leaf))))))) (.seq (.ops [4, 5]) .leaf)))))) (Tryd.f17.body.getD .skip) [a0, a1] w R by kernel_rfl) h)

/-! ### 18: handbill/hbllaw6.few -/
def sh18 (a0 : Value) (w : World) (R : Value → World → Prop) : Prop :=
 jn 1 (fun t0_1 w =>
 RunW Tryd.prog (Builtin.len_ #[24] 3 #[t0_1]) w fun t35_3 =>
 RunA Tryd.prog (bin .leq 3 (.tmp 35) (.const (.int .i64 400)) t35_3 (.int .i64 400)) fun t36_4 =>
 R t36_4 w) fun j_2 =>
 lp 2 (fun n_7 t3_5 t4_6 w =>
 RunW Tryd.prog (Builtin.len_ #[24] 3 #[a0]) w fun t7_8 =>
 RunA Tryd.prog (bin .lss 3 (.tmp 5) (.tmp 7) t4_6 t7_8) fun t8_9 =>
 IfB t8_9 (
 RunA Tryd.prog (bin .lss 3 (.tmp 10) (.const (.int .i64 400)) t4_6 (.int .i64 400)) fun t11_10 =>
 IfB t11_10 (
 drw (fun S_11 w =>
 RunA Tryd.prog (Instr.indexAt 24 a0 t4_6) fun t18_12 =>
 RunA Tryd.prog (Instr.fieldAt 30 t18_12 3) fun t19_13 =>
 RunS Tryd.prog S_11 (Instr.loadAt 9 t19_13) fun t20_14 =>
 RunS Tryd.prog S_11 (Builtin.len_ #[9] 3 #[t20_14]) fun t21_15 =>
 RunS Tryd.prog S_11 (Builtin.min_ #[3, 3] 3 #[t21_15, (.int .i64 20001)]) fun t22_16 =>
 RunA Tryd.prog (bin .add 3 (.tmp 15) (.tmp 22) t3_5 t22_16) fun t23_17 =>
 RunA Tryd.prog (Instr.indexAt 24 a0 t4_6) fun t26_18 =>
 RunA Tryd.prog (Instr.fieldAt 30 t26_18 4) fun t27_19 =>
 RunS Tryd.prog S_11 (Instr.loadAt 28 t27_19) fun t28_20 =>
 RunS Tryd.prog S_11 (Builtin.len_ #[28] 3 #[t28_20]) fun t29_21 =>
 RunS Tryd.prog S_11 (Builtin.min_ #[3, 3] 3 #[t29_21, (.int .i64 20001)]) fun t30_22 =>
 RunA Tryd.prog (bin .add 3 (.tmp 23) (.tmp 30) t23_17 t30_22) fun t31_23 =>
 RunA Tryd.prog (bin .gtr 3 (.tmp 32) (.const (.int .i64 20000)) t31_23 (.int .i64 20000)) fun t33_24 =>
 IfB t33_24 (
 R (.bool false) w) (
 RunA Tryd.prog (bin .add 3 (.tmp 13) (.const (.int .i64 1)) t4_6 (.int .i64 1)) fun t14_25 =>
 (a0 : Value) = a0 ∧ (n_7 t31_23 t14_25 w))) w) (
 j_2 a0 w)) (
 j_2 a0 w)) [(.int .i64 0), (.int .i64 0)] w
theorem sh18_calls {a0 : Value} {w : World} {R : Value → World → Prop} (h : sh18 a0 w R) : CallF Tryd.prog 18 #[a0] w R :=
  calls_of_denF (mk := false) (args := [a0]) (an := (.seq (.ops [0]) (.seq (.ops [0, 3]) (.seq (.seq (.ops [0, 3, 4]) (.join [0] (.blk (.loop [0] [3, 4] (.seq (.seq (.ops [0, 3, 4, 12]) (.cond .leaf .leaf)) (.seq (.blk (.seq (.draw (.q 0 (.q 1 (.q 2 (.q 3 (.q 4 (.q 5 (.q 6 (.q 7 (.q 8 (.q 9 (.q 10 (.q 11 (.q 12 (.q 13 (.q 14 (.q 15 (.q 16 (.q 17 .fin)))))))))))))))))) [0, 3, 4]) (.seq (.ops [0, 3, 4, 33]) (.cond (.seq (.ops [2]) .leaf) .leaf)))) (.ops [0, 3, 4]))))))) (.seq (.ops [2]) .leaf))))) (c := Tryd.f18.body.getD .skip) hentD Tryd.func18 rfl (Nat.le_of_ble_eq_true (by kernel_rfl))
    (Eq.mp (show sh18 a0 w R = denF Tryd.prog entD false Tryd.f18 (.seq (.ops [0]) (.seq (.ops [0, 3]) (.seq (.seq (.ops [0, 3, 4]) (.join [0] (.blk (.loop [0] [3, 4] (.seq (.seq (.ops [0, 3, 4, 12]) (.cond .leaf .leaf)) (.seq (.blk (.seq (.draw (.q 0 (.q 1 (.q 2 (.q 3 (.q 4 (.q 5 (.q 6 (.q 7 (.q 8 (.q 9 (.q 10 (.q 11 (.q 12 (.q 13 (.q 14 (.q 15 (.q 16 (.q 17 .fin)))))))))))))))))) [0, 3, 4]) (.seq (.ops [0, 3, 4, 33]) (.cond (.seq (.ops [2]) .leaf) .leaf)))) (.ops [0, 3, 4]))))))) (.seq (.ops [2]) .leaf)))) (Tryd.f18.body.getD .skip) [a0] w R by kernel_rfl) h)

/-! ### 19: handbill/hblref6.Inner -/
def sh19 (a0 a1 : Value) (w : World) (R : Value → World → Prop) : Prop :=
 RunA Tryd.prog (bin .lss 3 (.tmp 9) (.const (.int .i64 0)) a1 (.int .i64 0)) fun t10_1 =>
 IfB t10_1 (
 R (.tuple #[(.string ⟨#[]⟩), a1]) w) (
 RunW Tryd.prog (Builtin.len_ #[38] 3 #[a0]) w fun t14_2 =>
 RunA Tryd.prog (bin .geq 3 (.tmp 12) (.tmp 14) a1 t14_2) fun t15_3 =>
 IfB t15_3 (
 R (.tuple #[(.string ⟨#[]⟩), a1]) w) (
 RunA Tryd.prog (Instr.indexAt 38 a0 a1) fun t20_4 =>
 RunA Tryd.prog (Instr.fieldAt 59 t20_4 0) fun t21_5 =>
 RunW Tryd.prog (Instr.loadAt 3 t21_5) w fun t22_6 =>
 RunW Tryd.prog (bin .neq 3 (.tmp 22) (.const (.int .i64 1)) t22_6 (.int .i64 1)) w fun t23_7 =>
 IfB t23_7 (
 R (.tuple #[(.string ⟨#[]⟩), a1]) w) (
 lp 3 (fun n_11 t6_8 t7_9 t8_10 w =>
 RunW Tryd.prog (Builtin.len_ #[38] 3 #[a0]) w fun t29_12 =>
 RunA Tryd.prog (bin .lss 3 (.tmp 27) (.tmp 29) t8_10 t29_12) fun t30_13 =>
 IfB t30_13 (
 RunA Tryd.prog (Instr.indexAt 38 a0 t8_10) fun t35_14 =>
 RunA Tryd.prog (Instr.fieldAt 59 t35_14 0) fun t36_15 =>
 RunW Tryd.prog (Instr.loadAt 3 t36_15) w fun t37_16 =>
 jn 4 (fun t0_17 t6_18 t7_19 t8_20 w =>
 RunW Tryd.prog (bin .eql 3 (.tmp 55) (.const (.int .i64 0)) t7_19 (.int .i64 0)) w fun t56_22 =>
 IfB t56_22 (
 RunA Tryd.prog (bin .add 3 (.tmp 58) (.const (.int .i64 1)) t8_20 (.int .i64 1)) fun t59_23 =>
 R (.tuple #[t6_18, t59_23]) w) (
 RunA Tryd.prog (bin .add 3 (.tmp 31) (.const (.int .i64 1)) t8_20 (.int .i64 1)) fun t32_24 =>
 (t0_17 : Value) = a0 ∧ (n_11 t6_18 t7_19 t32_24 w))) fun j_21 =>
 RunW Tryd.prog (bin .eql 3 (.tmp 37) (.const (.int .i64 1)) t37_16 (.int .i64 1)) w fun t39_25 =>
 IfB t39_25 (
 RunA Tryd.prog (bin .add 3 (.tmp 40) (.const (.int .i64 1)) t7_9 (.int .i64 1)) fun t41_26 =>
 j_21 a0 t6_8 t41_26 t8_10 w) (
 jn 4 (fun t0_27 t6_28 t7_29 t8_30 w =>
 j_21 t0_27 t6_28 t7_29 t8_30 w) fun j_31 =>
 RunW Tryd.prog (bin .eql 3 (.tmp 37) (.const (.int .i64 2)) t37_16 (.int .i64 2)) w fun t43_32 =>
 IfB t43_32 (
 RunA Tryd.prog (bin .sub 3 (.tmp 44) (.const (.int .i64 1)) t7_9 (.int .i64 1)) fun t45_33 =>
 j_31 a0 t6_8 t45_33 t8_10 w) (
 jn 4 (fun t0_34 t6_35 t7_36 t8_37 w =>
 j_31 t0_34 t6_35 t7_36 t8_37 w) fun j_38 =>
 RunW Tryd.prog (bin .eql 3 (.tmp 37) (.const (.int .i64 3)) t37_16 (.int .i64 3)) w fun t47_39 =>
 IfB t47_39 (
 RunA Tryd.prog (Instr.indexAt 38 a0 t8_10) fun t51_40 =>
 RunA Tryd.prog (Instr.fieldAt 59 t51_40 3) fun t52_41 =>
 RunW Tryd.prog (Instr.loadAt 9 t52_41) w fun t53_42 =>
 RunA Tryd.prog (bin .add 9 (.tmp 48) (.tmp 53) t6_8 t53_42) fun t54_43 =>
 j_38 a0 t54_43 t7_9 t8_10 w) (
 j_38 a0 t6_8 t7_9 t8_10 w)))) (
 RunW Tryd.prog (Builtin.len_ #[38] 3 #[a0]) w fun t62_44 =>
 R (.tuple #[t6_8, t62_44]) w)) [(.string ⟨#[]⟩), (.int .i64 0), a1] w)))
theorem sh19_calls {a0 a1 : Value} {w : World} {R : Value → World → Prop} (h : sh19 a0 a1 w R) : CallF Tryd.prog 19 #[a0, a1] w R :=
  calls_of_denF (mk := false) (args := [a0, a1]) (an := (.seq (.ops [0, 1]) (.seq (.seq (.ops [0, 1, 24]) (.cond (.seq (.ops [4, 5]) .leaf) .leaf)) (.seq (.ops [0, 1, 6, 7]) (.seq (.seq (.ops [0, 6, 7, 8]) (.blk (.loop [0] [6, 7, 8] (.seq (.seq (.ops [0, 6, 7, 8, 30]) (.cond .leaf .leaf)) (.seq (.blk (.seq (.seq (.ops [0, 6, 7, 8, 37]) (.blk (.join [0, 6, 7, 8] (.seq (.ops [0, 6, 7, 8, 37, 38]) (.cond (.ops [0, 6, 7, 8]) (.join [0, 6, 7, 8] (.seq (.ops [0, 6, 7, 8, 37, 42]) (.cond (.ops [0, 6, 7, 8]) (.join [0, 6, 7, 8] (.seq (.ops [0, 6, 7, 8, 46]) (.cond (.ops [0, 6, 7, 8]) .leaf))))))))))) (.seq (.ops [0, 6, 7, 8, 56]) (.cond (.seq (.ops [4, 5]) .leaf) .leaf)))) (.ops [0, 6, 7, 8])))))) (.seq (.ops [4, 5]) .leaf)))))) (c := Tryd.f19.body.getD .skip) hentD Tryd.func19 rfl (Nat.le_of_ble_eq_true (by kernel_rfl))
    (Eq.mp (show sh19 a0 a1 w R = denF Tryd.prog entD false Tryd.f19 (.seq (.ops [0, 1]) (.seq (.seq (.ops [0, 1, 24]) (.cond (.seq (.ops [4, 5]) .leaf) .leaf)) (.seq (.ops [0, 1, 6, 7]) (.seq (.seq (.ops [0, 6, 7, 8]) (.blk (.loop [0] [6, 7, 8] (.seq (.seq (.ops [0, 6, 7, 8, 30]) (.cond .leaf .leaf)) (.seq (.blk (.seq (.seq (.ops [0, 6, 7, 8, 37]) (.blk (.join [0, 6, 7, 8] (.seq (.ops [0, 6, 7, 8, 37, 38]) (.cond (.ops [0, 6, 7, 8]) (.join [0, 6, 7, 8] (.seq (.ops [0, 6, 7, 8, 37, 42]) (.cond (.ops [0, 6, 7, 8]) (.join [0, 6, 7, 8] (.seq (.ops [0, 6, 7, 8, 46]) (.cond (.ops [0, 6, 7, 8]) .leaf))))))))))) (.seq (.ops [0, 6, 7, 8, 56]) (.cond (.seq (.ops [4, 5]) .leaf) .leaf)))) (.ops [0, 6, 7, 8])))))) (.seq (.ops [4, 5]) .leaf))))) (Tryd.f19.body.getD .skip) [a0, a1] w R by kernel_rfl) h)

/-! ### 20: handbill/hbllaw6.each -/
def sh20 (a0 a1 : Value) (w : World) (R : Value → World → Prop) : Prop :=
 RunV Tryd.prog (Instr.box 3 a1) w fun t3_1 w =>
 RunV Tryd.prog (Instr.alloc 49 true (.tuple #[])) w fun t6_2 w =>
 RunV Tryd.prog (Instr.alloc 24 true (.tuple #[])) w fun t7_3 w =>
 RunW Tryd.prog (bin .eql 53 (.tmp 10) (.const (.nilFunc)) a0 (.nilFunc)) w fun t11_4 =>
 IfB t11_4 (
 R (.tuple #[(.slice none 0 0), (.slice none 0 0)]) w) (
 RunW Tryd.prog (Instr.loadAt 3 t3_1) w fun t13_5 =>
 RunA Tryd.prog (bin .lss 3 (.tmp 13) (.const (.int .i64 1)) t13_5 (.int .i64 1)) fun t14_6 =>
 IfB t14_6 (
 R (.tuple #[(.slice none 0 0), (.slice none 0 0)]) w) (
 rngP Tryd.prog none 2 5 (fun l_7 K_8 t17_14 t18_15 w =>
 RunV Tryd.prog (Instr.alloc 30 true (.tuple #[])) w fun t9_21 w =>
 RunU Tryd.prog (Instr.storeAt 30 t9_21 t18_15) w fun w =>
 K_8 t3_1 t6_2 t7_3 t17_14 t9_21 w) (fun l_7 kn_9 ks_10 t3_16 t6_17 t7_18 t8_19 t9_20 w =>
 jn 2 (fun t3_22 t6_23 w =>
 RunW Tryd.prog (Instr.loadAt 49 t6_23) w fun t27_25 =>
 RunW Tryd.prog (Builtin.len_ #[49] 3 #[t27_25]) w fun t28_26 =>
 RunW Tryd.prog (Instr.loadAt 3 t3_22) w fun t29_27 =>
 RunW Tryd.prog (bin .eql 3 (.tmp 28) (.tmp 29) t28_26 t29_27) w fun t30_28 =>
 IfB t30_28 (
 ks_10 (.exit 0) w) (
 kn_9 w)) fun j_24 =>
 drw (fun S_29 w =>
 RunS Tryd.prog S_29 (Instr.loadAt 49 t6_17) fun t19_30 =>
 RunS Tryd.prog S_29 (Instr.loadAt 24 t7_18) fun t23_31 =>
 RunS Tryd.prog S_29 (Instr.loadAt 30 t9_20) fun t24_32 =>
 (RunV Tryd.prog (Instr.buildSlice 49 1 #[(0, t8_19)]) w fun t21_33 w =>
 S_29 w ∧ (
 (RunV Tryd.prog (Builtin.append_ #[49, 49] 49 #[t19_30, t21_33]) w fun t22_34 w =>
 S_29 w ∧ (
 RunV Tryd.prog (Instr.buildSlice 24 1 #[(0, t24_32)]) w fun t25_35 w =>
 S_29 w ∧ (
 RunV Tryd.prog (Builtin.append_ #[24, 24] 24 #[t23_31, t25_35]) w fun t26_36 w =>
 RunU Tryd.prog (Instr.storeAt 49 t6_17 t22_34) w fun w =>
 RunU Tryd.prog (Instr.storeAt 24 t7_18 t26_36) w fun w =>
 j_24 t3_16 t6_17 w))) ∧ (
 (RunV Tryd.prog (Instr.buildSlice 24 1 #[(0, t24_32)]) w fun t25_37 w =>
 S_29 w ∧ (
 RunV Tryd.prog (Builtin.append_ #[49, 49] 49 #[t19_30, t21_33]) w fun t22_38 w =>
 S_29 w ∧ (
 RunV Tryd.prog (Builtin.append_ #[24, 24] 24 #[t23_31, t25_37]) w fun t26_39 w =>
 RunU Tryd.prog (Instr.storeAt 49 t6_17 t22_38) w fun w =>
 RunU Tryd.prog (Instr.storeAt 24 t7_18 t26_39) w fun w =>
 j_24 t3_16 t6_17 w))) ∧ (
 True)))) ∧ (
 (RunV Tryd.prog (Instr.buildSlice 24 1 #[(0, t24_32)]) w fun t25_40 w =>
 S_29 w ∧ (
 RunV Tryd.prog (Instr.buildSlice 49 1 #[(0, t8_19)]) w fun t21_41 w =>
 S_29 w ∧ (
 RunV Tryd.prog (Builtin.append_ #[49, 49] 49 #[t19_30, t21_41]) w fun t22_42 w =>
 S_29 w ∧ (
 RunV Tryd.prog (Builtin.append_ #[24, 24] 24 #[t23_31, t25_40]) w fun t26_43 w =>
 RunU Tryd.prog (Instr.storeAt 49 t6_17 t22_42) w fun w =>
 RunU Tryd.prog (Instr.storeAt 24 t7_18 t26_43) w fun w =>
 j_24 t3_16 t6_17 w)))) ∧ (
 True))) w) a0 w (fun D_11 w =>
 drw (fun S_44 w =>
 RunS Tryd.prog S_44 (Instr.loadAt 49 t6_2) fun t31_45 =>
 RunS Tryd.prog S_44 (Instr.loadAt 24 t7_3) fun t32_46 =>
 CallF Tryd.prog 14 #[t32_46] w fun t33_47 w =>
 S_44 w ∧ (
 (w).heap[D_11]? = some (.deferred (some [])) ∧ (
 R (.tuple #[t31_45, t33_47]) (w.putObj D_11 (.deferred none))))) w) (fun D_11 c_12 w => jumpK (fun i_13 w =>
 bif Nat.beq i_13 0 then (
 drw (fun S_48 w =>
 RunS Tryd.prog S_48 (Instr.loadAt 49 t6_2) fun t31_49 =>
 RunS Tryd.prog S_48 (Instr.loadAt 24 t7_3) fun t32_50 =>
 CallF Tryd.prog 14 #[t32_50] w fun t33_51 w =>
 S_48 w ∧ (
 (w).heap[D_11]? = some (.deferred (some [])) ∧ (
 R (.tuple #[t31_49, t33_51]) (w.putObj D_11 (.deferred none))))) w) else (
 False)) (fun w =>
 (w).heap[D_11]? = some (.deferred (some [])) ∧ (
 False)) c_12 w)))
theorem sh20_calls {a0 a1 : Value} {w : World} {R : Value → World → Prop} (h : sh20 a0 a1 w R) : CallF Tryd.prog 20 #[a0, a1] w R :=
  calls_of_denF (mk := true) (args := [a0, a1]) (an := (.seq (.ops [0, 3]) (.seq (.ops [0, 3, 6]) (.seq (.ops [0, 3, 6, 7]) (.seq (.seq (.ops [0, 3, 6, 7, 15]) (.cond (.seq (.ops [4, 5]) .leaf) .leaf)) (.seq (.seq (.ops [3, 6, 7, 16]) (.blk (.rng [3, 6, 7, 8, 9] (.seq (.ops [3, 6, 7, 8, 18]) (.ops [3, 6, 7, 8, 9])) (.blk (.seq (.join [3, 6] (.draw (.q 0 (.q 1 (.q 4 (.q 5 (.alt 2 (.alt 3 (.one 6 (.one 7 (.one 8 (.one 9 .fin)))) (.alt 6 (.one 3 (.one 7 (.one 8 (.one 9 .fin)))) .fin)) (.alt 6 (.one 2 (.one 3 (.one 7 (.one 8 (.one 9 .fin))))) .fin)))))) [3, 6])) (.seq (.ops [30]) (.cond .leaf .leaf))))))) (.seq (.draw (.q 0 (.q 1 (.one 2 (.q 3 (.q 4 .fin))))) [4, 5]) .leaf))))))) (c := Tryd.f20.body.getD .skip) hentD Tryd.func20 rfl (Nat.le_of_ble_eq_true (by kernel_rfl))
    (Eq.mp (show sh20 a0 a1 w R = denF Tryd.prog entD true Tryd.f20 (.seq (.ops [0, 3]) (.seq (.ops [0, 3, 6]) (.seq (.ops [0, 3, 6, 7]) (.seq (.seq (.ops [0, 3, 6, 7, 15]) (.cond (.seq (.ops [4, 5]) .leaf) .leaf)) (.seq (.seq (.ops [3, 6, 7, 16]) (.blk (.rng [3, 6, 7, 8, 9] (.seq (.ops [3, 6, 7, 8, 18]) (.ops [3, 6, 7, 8, 9])) (.blk (.seq (.join [3, 6] (.draw (.q 0 (.q 1 (.q 4 (.q 5 (.alt 2 (.alt 3 (.one 6 (.one 7 (.one 8 (.one 9 .fin)))) (.alt 6 (.one 3 (.one 7 (.one 8 (.one 9 .fin)))) .fin)) (.alt 6 (.one 2 (.one 3 (.one 7 (.one 8 (.one 9 .fin))))) .fin)))))) [3, 6])) (.seq (.ops [30]) (.cond .leaf .leaf))))))) (.seq (.draw (.q 0 (.q 1 (.one 2 (.q 3 (.q 4 .fin))))) [4, 5]) .leaf)))))) (Tryd.f20.body.getD .skip) [a0, a1] w R by kernel_rfl) h)

/-! ### 21: handbill/xml.Each -/
def sh21 (a0 : Value) (w : World) (R : Value → World → Prop) : Prop :=
 RunV Tryd.prog (Instr.box 24 a0) w fun t1_1 w =>
 RunV Tryd.prog (Instr.makeFunc (Go.Fn.func 35) #[] #[t1_1]) w fun t3_2 w =>
 R t3_2 w
theorem sh21_calls {a0 : Value} {w : World} {R : Value → World → Prop} (h : sh21 a0 w R) : CallF Tryd.prog 21 #[a0] w R :=
  calls_of_denF (mk := false) (args := [a0]) (an := (.seq (.ops [1]) (.seq (.ops [2]) .leaf))) (c := Tryd.f21.body.getD .skip) hentD Tryd.func21 rfl (Nat.le_of_ble_eq_true (by kernel_rfl))
    (Eq.mp (show sh21 a0 w R = denF Tryd.prog entD false Tryd.f21 (.seq (.ops [1]) (.seq (.ops [2]) .leaf)) (Tryd.f21.body.getD .skip) [a0] w R by kernel_rfl) h)

/-! ### 22: handbill/xml.Same -/
def sh22 (a0 a1 : Value) (w : World) (R : Value → World → Prop) : Prop :=
 RunV Tryd.prog (Instr.box 30 a0) w fun t2_1 w =>
 RunV Tryd.prog (Instr.box 30 a1) w fun t3_2 w =>
 RunA Tryd.prog (Instr.fieldAt 30 t2_1 0) fun t5_3 =>
 RunW Tryd.prog (Instr.loadAt 3 t5_3) w fun t6_4 =>
 RunA Tryd.prog (Instr.fieldAt 30 t3_2 0) fun t7_5 =>
 RunW Tryd.prog (Instr.loadAt 3 t7_5) w fun t8_6 =>
 RunW Tryd.prog (bin .eql 3 (.tmp 6) (.tmp 8) t6_4 t8_6) w fun t9_7 =>
 IfB t9_7 (
 RunA Tryd.prog (Instr.fieldAt 30 t2_1 1) fun t11_8 =>
 RunW Tryd.prog (Instr.loadAt 9 t11_8) w fun t12_9 =>
 RunA Tryd.prog (Instr.fieldAt 30 t3_2 1) fun t13_10 =>
 RunW Tryd.prog (Instr.loadAt 9 t13_10) w fun t14_11 =>
 RunW Tryd.prog (bin .eql 9 (.tmp 12) (.tmp 14) t12_9 t14_11) w fun t15_12 =>
 IfB t15_12 (
 RunA Tryd.prog (Instr.fieldAt 30 t2_1 2) fun t18_13 =>
 RunW Tryd.prog (Instr.loadAt 9 t18_13) w fun t19_14 =>
 RunA Tryd.prog (Instr.fieldAt 30 t3_2 2) fun t20_15 =>
 RunW Tryd.prog (Instr.loadAt 9 t20_15) w fun t21_16 =>
 RunW Tryd.prog (bin .eql 9 (.tmp 19) (.tmp 21) t19_14 t21_16) w fun t22_17 =>
 IfB t22_17 (
 RunA Tryd.prog (Instr.fieldAt 30 t2_1 3) fun t25_18 =>
 RunW Tryd.prog (Instr.loadAt 9 t25_18) w fun t26_19 =>
 RunA Tryd.prog (Instr.fieldAt 30 t3_2 3) fun t27_20 =>
 RunW Tryd.prog (Instr.loadAt 9 t27_20) w fun t28_21 =>
 RunW Tryd.prog (bin .eql 9 (.tmp 26) (.tmp 28) t26_19 t28_21) w fun t29_22 =>
 IfB t29_22 (
 RunA Tryd.prog (Instr.fieldAt 30 t2_1 4) fun t32_23 =>
 RunW Tryd.prog (Instr.loadAt 28 t32_23) w fun t33_24 =>
 RunA Tryd.prog (Instr.fieldAt 30 t3_2 4) fun t34_25 =>
 RunW Tryd.prog (Instr.loadAt 28 t34_25) w fun t35_26 =>
 CallF Tryd.prog 37 #[t33_24, t35_26] w fun t36_27 w =>
 R t36_27 w) (
 R (.bool false) w)) (
 R (.bool false) w)) (
 R (.bool false) w)) (
 R (.bool false) w)
theorem sh22_calls {a0 a1 : Value} {w : World} {R : Value → World → Prop} (h : sh22 a0 a1 w R) : CallF Tryd.prog 22 #[a0, a1] w R :=
  calls_of_denF (mk := false) (args := [a0, a1]) (an := (.seq (.ops [2, 3]) (.seq (.ops [4]) .leaf))) (c := Tryd.f22.body.getD .skip) hentD Tryd.func22 rfl (Nat.le_of_ble_eq_true (by kernel_rfl))
    (Eq.mp (show sh22 a0 a1 w R = denF Tryd.prog entD false Tryd.f22 (.seq (.ops [2, 3]) (.seq (.ops [4]) .leaf)) (Tryd.f22.body.getD .skip) [a0, a1] w R by kernel_rfl) h)

/-! ### 23: handbill/hblref6.Same -/
def sh23 (a0 a1 : Value) (w : World) (R : Value → World → Prop) : Prop :=
 RunV Tryd.prog (Instr.box 59 a0) w fun t2_1 w =>
 RunV Tryd.prog (Instr.box 59 a1) w fun t3_2 w =>
 RunA Tryd.prog (Instr.fieldAt 59 t2_1 0) fun t6_3 =>
 RunW Tryd.prog (Instr.loadAt 3 t6_3) w fun t7_4 =>
 RunA Tryd.prog (Instr.fieldAt 59 t3_2 0) fun t8_5 =>
 RunW Tryd.prog (Instr.loadAt 3 t8_5) w fun t9_6 =>
 RunW Tryd.prog (bin .neq 3 (.tmp 7) (.tmp 9) t7_4 t9_6) w fun t10_7 =>
 IfB t10_7 (
 R (.bool false) w) (
 RunA Tryd.prog (Instr.fieldAt 59 t2_1 1) fun t12_8 =>
 RunW Tryd.prog (Instr.loadAt 9 t12_8) w fun t13_9 =>
 RunA Tryd.prog (Instr.fieldAt 59 t3_2 1) fun t14_10 =>
 RunW Tryd.prog (Instr.loadAt 9 t14_10) w fun t15_11 =>
 RunW Tryd.prog (bin .neq 9 (.tmp 13) (.tmp 15) t13_9 t15_11) w fun t16_12 =>
 IfB t16_12 (
 R (.bool false) w) (
 RunA Tryd.prog (Instr.fieldAt 59 t2_1 2) fun t19_13 =>
 RunW Tryd.prog (Instr.loadAt 9 t19_13) w fun t20_14 =>
 RunA Tryd.prog (Instr.fieldAt 59 t3_2 2) fun t21_15 =>
 RunW Tryd.prog (Instr.loadAt 9 t21_15) w fun t22_16 =>
 RunW Tryd.prog (bin .neq 9 (.tmp 20) (.tmp 22) t20_14 t22_16) w fun t23_17 =>
 IfB t23_17 (
 R (.bool false) w) (
 RunA Tryd.prog (Instr.fieldAt 59 t2_1 3) fun t26_18 =>
 RunW Tryd.prog (Instr.loadAt 9 t26_18) w fun t27_19 =>
 RunA Tryd.prog (Instr.fieldAt 59 t3_2 3) fun t28_20 =>
 RunW Tryd.prog (Instr.loadAt 9 t28_20) w fun t29_21 =>
 RunW Tryd.prog (bin .neq 9 (.tmp 27) (.tmp 29) t27_19 t29_21) w fun t30_22 =>
 IfB t30_22 (
 R (.bool false) w) (
 RunA Tryd.prog (Instr.fieldAt 59 t2_1 4) fun t33_23 =>
 RunW Tryd.prog (Instr.loadAt 57 t33_23) w fun t34_24 =>
 RunW Tryd.prog (Builtin.len_ #[57] 3 #[t34_24]) w fun t35_25 =>
 RunA Tryd.prog (Instr.fieldAt 59 t3_2 4) fun t36_26 =>
 RunW Tryd.prog (Instr.loadAt 57 t36_26) w fun t37_27 =>
 RunW Tryd.prog (Builtin.len_ #[57] 3 #[t37_27]) w fun t38_28 =>
 RunW Tryd.prog (bin .neq 3 (.tmp 35) (.tmp 38) t35_25 t38_28) w fun t39_29 =>
 IfB t39_29 (
 R (.bool false) w) (
 lp 1 (fun n_31 t5_30 w =>
 RunA Tryd.prog (Instr.fieldAt 59 t2_1 4) fun t42_32 =>
 RunW Tryd.prog (Instr.loadAt 57 t42_32) w fun t43_33 =>
 RunW Tryd.prog (Builtin.len_ #[57] 3 #[t43_33]) w fun t44_34 =>
 RunA Tryd.prog (bin .lss 3 (.tmp 41) (.tmp 44) t5_30 t44_34) fun t45_35 =>
 IfB t45_35 (
 drw (fun S_36 w =>
 RunA Tryd.prog (Instr.fieldAt 59 t2_1 4) fun t48_37 =>
 RunS Tryd.prog S_36 (Instr.loadAt 57 t48_37) fun t49_38 =>
 RunA Tryd.prog (Instr.indexAt 57 t49_38 t5_30) fun t51_39 =>
 RunS Tryd.prog S_36 (Instr.loadAt 71 t51_39) fun t52_40 =>
 RunA Tryd.prog (Instr.fieldAt 59 t3_2 4) fun t53_41 =>
 RunS Tryd.prog S_36 (Instr.loadAt 57 t53_41) fun t54_42 =>
 RunA Tryd.prog (Instr.indexAt 57 t54_42 t5_30) fun t56_43 =>
 RunS Tryd.prog S_36 (Instr.loadAt 71 t56_43) fun t57_44 =>
 RunS Tryd.prog S_36 (bin .neq 71 (.tmp 52) (.tmp 57) t52_40 t57_44) fun t58_45 =>
 IfB t58_45 (
 R (.bool false) w) (
 RunA Tryd.prog (bin .add 3 (.tmp 46) (.const (.int .i64 1)) t5_30 (.int .i64 1)) fun t47_46 =>
 (t2_1 : Value) = t2_1 ∧ ((t3_2 : Value) = t3_2 ∧ (n_31 t47_46 w)))) w) (
 R (.bool true) w)) [(.int .i64 0)] w)))))
theorem sh23_calls {a0 a1 : Value} {w : World} {R : Value → World → Prop} (h : sh23 a0 a1 w R) : CallF Tryd.prog 23 #[a0, a1] w R :=
  calls_of_denF (mk := false) (args := [a0, a1]) (an := (.seq (.ops [2, 3]) (.seq (.seq (.ops [2, 3, 40]) (.cond (.seq (.ops [4]) .leaf) .leaf)) (.seq (.seq (.ops [2, 3, 5]) (.blk (.loop [2, 3] [5] (.seq (.seq (.ops [2, 3, 5, 45]) (.cond .leaf .leaf)) (.seq (.blk (.seq (.draw (.q 0 (.q 1 (.q 2 (.q 3 (.q 4 (.q 5 (.q 6 (.q 7 (.q 8 (.q 9 (.q 10 .fin))))))))))) [2, 3, 5, 58]) (.cond (.seq (.ops [4]) .leaf) .leaf))) (.ops [2, 3, 5])))))) (.seq (.ops [4]) .leaf))))) (c := Tryd.f23.body.getD .skip) hentD Tryd.func23 rfl (Nat.le_of_ble_eq_true (by kernel_rfl))
    (Eq.mp (show sh23 a0 a1 w R = denF Tryd.prog entD false Tryd.f23 (.seq (.ops [2, 3]) (.seq (.seq (.ops [2, 3, 40]) (.cond (.seq (.ops [4]) .leaf) .leaf)) (.seq (.seq (.ops [2, 3, 5]) (.blk (.loop [2, 3] [5] (.seq (.seq (.ops [2, 3, 5, 45]) (.cond .leaf .leaf)) (.seq (.blk (.seq (.draw (.q 0 (.q 1 (.q 2 (.q 3 (.q 4 (.q 5 (.q 6 (.q 7 (.q 8 (.q 9 (.q 10 .fin))))))))))) [2, 3, 5, 58]) (.cond (.seq (.ops [4]) .leaf) .leaf))) (.ops [2, 3, 5])))))) (.seq (.ops [4]) .leaf)))) (Tryd.f23.body.getD .skip) [a0, a1] w R by kernel_rfl) h)

/-! ### 31: handbill/hblref6.blank -/
def sh31 (a0 : Value) (w : World) (R : Value → World → Prop) : Prop :=
 RunW Tryd.prog (bin .eql 5 (.tmp 3) (.const (.int .u8 32)) a0 (.int .u8 32)) w fun t4_1 =>
 IfB t4_1 (
 R (.bool true) w) (
 RunW Tryd.prog (bin .eql 5 (.tmp 6) (.const (.int .u8 9)) a0 (.int .u8 9)) w fun t7_2 =>
 IfB t7_2 (
 R (.bool true) w) (
 RunW Tryd.prog (bin .eql 5 (.tmp 10) (.const (.int .u8 10)) a0 (.int .u8 10)) w fun t11_3 =>
 IfB t11_3 (
 R (.bool true) w) (
 RunW Tryd.prog (bin .eql 5 (.tmp 14) (.const (.int .u8 13)) a0 (.int .u8 13)) w fun t15_4 =>
 R t15_4 w)))
theorem sh31_calls {a0 : Value} {w : World} {R : Value → World → Prop} (h : sh31 a0 w R) : CallF Tryd.prog 31 #[a0] w R :=
  calls_of_denF (mk := false) (args := [a0]) (an := (.seq (.ops [0]) (.seq (.ops [2]) .leaf))) (c := Tryd.f31.body.getD .skip) hentD Tryd.func31 rfl (Nat.le_of_ble_eq_true (by kernel_rfl))
    (Eq.mp (show sh31 a0 w R = denF Tryd.prog entD false Tryd.f31 (.seq (.ops [0]) (.seq (.ops [2]) .leaf)) (Tryd.f31.body.getD .skip) [a0] w R by kernel_rfl) h)

/-! ### 32: handbill/hblref1.Valid -/
def sh32 (a0 : Value) (w : World) (R : Value → World → Prop) : Prop :=
 CallF Tryd.prog 50 #[a0] w fun t4_1 w =>
 RunA Tryd.prog (bin .geq 3 (.tmp 4) (.const (.int .i64 0)) t4_1 (.int .i64 0)) fun t5_2 =>
 R t5_2 w
theorem sh32_calls {a0 : Value} {w : World} {R : Value → World → Prop} (h : sh32 a0 w R) : CallF Tryd.prog 32 #[a0] w R :=
  calls_of_denF (mk := false) (args := [a0]) (an := (.seq (.ops [0]) (.seq (.ops [2]) .leaf))) (c := Tryd.f32.body.getD .skip) hentD Tryd.func32 rfl (Nat.le_of_ble_eq_true (by kernel_rfl))
    (Eq.mp (show sh32 a0 w R = denF Tryd.prog entD false Tryd.f32 (.seq (.ops [0]) (.seq (.ops [2]) .leaf)) (Tryd.f32.body.getD .skip) [a0] w R by kernel_rfl) h)

/-! ### 35: handbill/xml.Each$1 -/
def sh35 (a0 a1 : Value) (w : World) (R : Value → World → Prop) : Prop :=
 RunW Tryd.prog (Instr.loadAt 24 a1) w fun t5_1 =>
 RunW Tryd.prog (Builtin.len_ #[24] 3 #[t5_1]) w fun t6_2 =>
 lp 1 (fun n_4 t7_3 w =>
 RunA Tryd.prog (bin .lss 3 (.tmp 7) (.tmp 6) t7_3 t6_2) fun t8_5 =>
 IfB t8_5 (
 RunA Tryd.prog (Instr.indexAt 24 t5_1 t7_3) fun t10_6 =>
 RunW Tryd.prog (Instr.loadAt 30 t10_6) w fun t11_7 =>
 RunV Tryd.prog (Instr.alloc 30 true (.tuple #[])) w fun t4_8 w =>
 RunU Tryd.prog (Instr.storeAt 30 t4_8 t11_7) w fun w =>
 RunA Tryd.prog (Instr.fieldAt 30 t4_8 4) fun t12_9 =>
 RunW Tryd.prog (Instr.loadAt 28 t12_9) w fun t13_10 =>
 CallF Tryd.prog 36 #[t13_10] w fun t14_11 w =>
 RunA Tryd.prog (Instr.fieldAt 30 t4_8 4) fun t15_12 =>
 RunU Tryd.prog (Instr.storeAt 28 t15_12 t14_11) w fun w =>
 RunW Tryd.prog (Instr.loadAt 30 t4_8) w fun t18_13 =>
 CallV Tryd.prog a0 #[t7_3, t18_13] w fun t19_14 w =>
 RunA Tryd.prog (Op.unary .not t19_14) fun t20_15 =>
 IfB t20_15 (
 R (.tuple #[]) w) (
 RunA Tryd.prog (bin .add 3 (.tmp 7) (.const (.int .i64 1)) t7_3 (.int .i64 1)) fun t21_16 =>
 (a0 : Value) = a0 ∧ ((t5_1 : Value) = t5_1 ∧ ((t6_2 : Value) = t6_2 ∧ (n_4 t21_16 w))))) (
 R (.tuple #[]) w)) [(.int .i64 0)] w
theorem sh35_calls {a0 a1 : Value} {w : World} {R : Value → World → Prop} (h : sh35 a0 a1 w R) : CallF Tryd.prog 35 #[a0, a1] w R :=
  calls_of_denF (mk := false) (args := [a0, a1]) (an := (.seq (.ops [0, 5, 6, 7]) (.blk (.loop [0, 5, 6] [7] (.seq (.ops [0, 5, 6, 7, 8]) (.seq (.cond .leaf .leaf) (.seq (.blk (.seq (.ops [0, 3, 4, 5, 6, 7]) (.seq (.ops [0, 3, 4, 5, 6, 7]) (.seq (.ops [0, 5, 6, 7, 20]) (.cond .leaf .leaf))))) (.ops [0, 5, 6, 7])))))))) (c := Tryd.f35.body.getD .skip) hentD Tryd.func35 rfl (Nat.le_of_ble_eq_true (by kernel_rfl))
    (Eq.mp (show sh35 a0 a1 w R = denF Tryd.prog entD false Tryd.f35 (.seq (.ops [0, 5, 6, 7]) (.blk (.loop [0, 5, 6] [7] (.seq (.ops [0, 5, 6, 7, 8]) (.seq (.cond .leaf .leaf) (.seq (.blk (.seq (.ops [0, 3, 4, 5, 6, 7]) (.seq (.ops [0, 3, 4, 5, 6, 7]) (.seq (.ops [0, 5, 6, 7, 20]) (.cond .leaf .leaf))))) (.ops [0, 5, 6, 7]))))))) (Tryd.f35.body.getD .skip) [a0, a1] w R by kernel_rfl) h)

/-! ### 36: slices.Clone[[]handbill/xml.Attr,handbill/xml.Attr] -/
def sh36 (a0 : Value) (w : World) (R : Value → World → Prop) : Prop :=
 RunW Tryd.prog (bin .eql 28 (.tmp 3) (.const (.slice none 0 0)) a0 (.slice none 0 0)) w fun t4_1 =>
 IfB t4_1 (
 R (.slice none 0 0) w) (
 RunV Tryd.prog (Instr.buildSlice 28 0 #[]) w fun t5_2 w =>
 RunV Tryd.prog (Builtin.append_ #[28, 28] 28 #[t5_2, a0]) w fun t7_3 w =>
 R t7_3 w)
theorem sh36_calls {a0 : Value} {w : World} {R : Value → World → Prop} (h : sh36 a0 w R) : CallF Tryd.prog 36 #[a0] w R :=
  calls_of_denF (mk := false) (args := [a0]) (an := (.seq (.ops [0]) (.seq (.seq (.ops [0, 4]) (.cond (.seq (.ops [2]) .leaf) .leaf)) (.seq (.ops [2]) .leaf)))) (c := Tryd.f36.body.getD .skip) hentD Tryd.func36 rfl (Nat.le_of_ble_eq_true (by kernel_rfl))
    (Eq.mp (show sh36 a0 w R = denF Tryd.prog entD false Tryd.f36 (.seq (.ops [0]) (.seq (.seq (.ops [0, 4]) (.cond (.seq (.ops [2]) .leaf) .leaf)) (.seq (.ops [2]) .leaf))) (Tryd.f36.body.getD .skip) [a0] w R by kernel_rfl) h)

/-! ### 37: slices.Equal[[]handbill/xml.Attr,handbill/xml.Attr] -/
def sh37 (a0 a1 : Value) (w : World) (R : Value → World → Prop) : Prop :=
 RunW Tryd.prog (Builtin.len_ #[28] 3 #[a0]) w fun t7_1 =>
 RunW Tryd.prog (Builtin.len_ #[28] 3 #[a1]) w fun t9_2 =>
 RunW Tryd.prog (bin .neq 3 (.tmp 7) (.tmp 9) t7_1 t9_2) w fun t10_3 =>
 IfB t10_3 (
 R (.bool false) w) (
 RunW Tryd.prog (Builtin.len_ #[28] 3 #[a0]) w fun t12_4 =>
 lp 1 (fun n_6 t13_5 w =>
 RunA Tryd.prog (bin .lss 3 (.tmp 13) (.tmp 12) t13_5 t12_4) fun t14_7 =>
 IfB t14_7 (
 drw (fun S_8 w =>
 RunA Tryd.prog (Instr.indexAt 28 a0 t13_5) fun t18_9 =>
 RunS Tryd.prog S_8 (Instr.loadAt 35 t18_9) fun t19_10 =>
 RunA Tryd.prog (Instr.indexAt 28 a1 t13_5) fun t22_11 =>
 RunS Tryd.prog S_8 (Instr.loadAt 35 t22_11) fun t23_12 =>
 RunS Tryd.prog S_8 (bin .neq 35 (.tmp 19) (.tmp 23) t19_10 t23_12) fun t24_13 =>
 IfB t24_13 (
 R (.bool false) w) (
 RunA Tryd.prog (bin .add 3 (.tmp 13) (.const (.int .i64 1)) t13_5 (.int .i64 1)) fun t25_14 =>
 (a0 : Value) = a0 ∧ ((a1 : Value) = a1 ∧ ((t12_4 : Value) = t12_4 ∧ (n_6 t25_14 w))))) w) (
 R (.bool true) w)) [(.int .i64 0)] w)
theorem sh37_calls {a0 a1 : Value} {w : World} {R : Value → World → Prop} (h : sh37 a0 a1 w R) : CallF Tryd.prog 37 #[a0, a1] w R :=
  calls_of_denF (mk := false) (args := [a0, a1]) (an := (.seq (.ops [0, 1]) (.seq (.seq (.ops [0, 1, 10]) (.cond (.seq (.ops [4]) .leaf) .leaf)) (.seq (.seq (.ops [0, 1, 12, 13]) (.blk (.loop [0, 1, 12] [13] (.seq (.ops [0, 1, 12, 13, 14]) (.seq (.cond .leaf .leaf) (.seq (.blk (.seq (.ops [0, 1, 5, 12, 13]) (.seq (.draw (.q 0 (.q 1 (.q 2 (.q 3 (.q 4 (.q 5 (.q 6 (.q 7 (.q 8 .fin))))))))) [0, 1, 12, 13, 24]) (.cond (.seq (.ops [4]) .leaf) .leaf)))) (.ops [0, 1, 12, 13]))))))) (.seq (.ops [4]) .leaf))))) (c := Tryd.f37.body.getD .skip) hentD Tryd.func37 rfl (Nat.le_of_ble_eq_true (by kernel_rfl))
    (Eq.mp (show sh37 a0 a1 w R = denF Tryd.prog entD false Tryd.f37 (.seq (.ops [0, 1]) (.seq (.seq (.ops [0, 1, 10]) (.cond (.seq (.ops [4]) .leaf) .leaf)) (.seq (.seq (.ops [0, 1, 12, 13]) (.blk (.loop [0, 1, 12] [13] (.seq (.ops [0, 1, 12, 13, 14]) (.seq (.cond .leaf .leaf) (.seq (.blk (.seq (.ops [0, 1, 5, 12, 13]) (.seq (.draw (.q 0 (.q 1 (.q 2 (.q 3 (.q 4 (.q 5 (.q 6 (.q 7 (.q 8 .fin))))))))) [0, 1, 12, 13, 24]) (.cond (.seq (.ops [4]) .leaf) .leaf)))) (.ops [0, 1, 12, 13]))))))) (.seq (.ops [4]) .leaf)))) (Tryd.f37.body.getD .skip) [a0, a1] w R by kernel_rfl) h)

/-! ### 50: handbill/hblref1.Count -/
def sh50 (a0 : Value) (w : World) (R : Value → World → Prop) : Prop :=
 lp 2 (fun n_3 t3_1 t4_2 w =>
 RunW Tryd.prog (Builtin.len_ #[9] 3 #[a0]) w fun t10_4 =>
 RunA Tryd.prog (bin .lss 3 (.tmp 8) (.tmp 10) t4_2 t10_4) fun t11_5 =>
 IfB t11_5 (
 CallF Tryd.prog 61 #[a0, t4_2] w fun t17_6 w =>
 RunA Tryd.prog (Instr.extract t17_6 0) fun t18_7 =>
 RunA Tryd.prog (Instr.extract t17_6 1) fun t19_8 =>
 RunA Tryd.prog (Instr.extract t17_6 2) fun t20_9 =>
 RunA Tryd.prog (Op.unary .not t20_9) fun t22_10 =>
 IfB t22_10 (
 R (.int .i64 (-1)) w) (
 RunA Tryd.prog (bin .add 3 (.tmp 23) (.tmp 24) t4_2 t19_8) fun t25_11 =>
 RunA Tryd.prog (bin .add 3 (.tmp 12) (.const (.int .i64 1)) t3_1 (.int .i64 1)) fun t13_12 =>
 (a0 : Value) = a0 ∧ (n_3 t13_12 t25_11 w))) (
 R t3_1 w)) [(.int .i64 0), (.int .i64 0)] w
theorem sh50_calls {a0 : Value} {w : World} {R : Value → World → Prop} (h : sh50 a0 w R) : CallF Tryd.prog 50 #[a0] w R :=
  calls_of_denF (mk := false) (args := [a0]) (an := (.seq (.ops [0]) (.seq (.ops [0, 3]) (.seq (.seq (.ops [0, 3, 4]) (.blk (.loop [0] [3, 4] (.seq (.seq (.ops [0, 3, 4, 11]) (.cond .leaf .leaf)) (.seq (.blk (.seq (.ops [0, 3, 4, 6, 7]) (.seq (.seq (.ops [0, 3, 4, 6, 22]) (.cond (.seq (.ops [2]) .leaf) .leaf)) (.ops [0, 3, 4])))) (.ops [0, 3, 4])))))) (.seq (.ops [2]) .leaf))))) (c := Tryd.f50.body.getD .skip) hentD Tryd.func50 rfl (Nat.le_of_ble_eq_true (by kernel_rfl))
    (Eq.mp (show sh50 a0 w R = denF Tryd.prog entD false Tryd.f50 (.seq (.ops [0]) (.seq (.ops [0, 3]) (.seq (.seq (.ops [0, 3, 4]) (.blk (.loop [0] [3, 4] (.seq (.seq (.ops [0, 3, 4, 11]) (.cond .leaf .leaf)) (.seq (.blk (.seq (.ops [0, 3, 4, 6, 7]) (.seq (.seq (.ops [0, 3, 4, 6, 22]) (.cond (.seq (.ops [2]) .leaf) .leaf)) (.ops [0, 3, 4])))) (.ops [0, 3, 4])))))) (.seq (.ops [2]) .leaf)))) (Tryd.f50.body.getD .skip) [a0] w R by kernel_rfl) h)

/-! ### 61: handbill/hblref1.Sign -/
def sh61 (a0 a1 : Value) (w : World) (R : Value → World → Prop) : Prop :=
 RunA Tryd.prog (Instr.index 9 a0 a1) fun t14_1 =>
 RunV Tryd.prog (convert 5 3 t14_1) w fun t15_2 w =>
 RunA Tryd.prog (bin .lss 3 (.tmp 17) (.const (.int .i64 128)) t15_2 (.int .i64 128)) fun t18_3 =>
 IfB t18_3 (
 R (.tuple #[t15_2, (.int .i64 1), (.bool true)]) w) (
 jn 5 (fun t0_4 t1_5 t8_6 t9_7 t10_8 w =>
 lp 2 (fun n_12 t9_10 t11_11 w =>
 RunA Tryd.prog (bin .leq 3 (.tmp 47) (.tmp 48) t11_11 t8_6) fun t49_13 =>
 IfB t49_13 (
 RunA Tryd.prog (bin .add 3 (.tmp 52) (.tmp 53) t1_5 t11_11) fun t54_14 =>
 RunW Tryd.prog (Builtin.len_ #[9] 3 #[t0_4]) w fun t56_15 =>
 RunA Tryd.prog (bin .geq 3 (.tmp 54) (.tmp 56) t54_14 t56_15) fun t57_16 =>
 IfB t57_16 (
 R (.tuple #[(.int .i64 0), (.int .i64 0), (.bool false)]) w) (
 RunA Tryd.prog (bin .add 3 (.tmp 60) (.tmp 61) t1_5 t11_11) fun t62_17 =>
 RunA Tryd.prog (Instr.index 9 t0_4 t62_17) fun t63_18 =>
 RunA Tryd.prog (bin .shr 5 (.tmp 63) (.const (.int .u64 6)) t63_18 (.int .u64 6)) fun t64_19 =>
 RunW Tryd.prog (bin .neq 5 (.tmp 64) (.const (.int .u8 2)) t64_19 (.int .u8 2)) w fun t65_20 =>
 IfB t65_20 (
 R (.tuple #[(.int .i64 0), (.int .i64 0), (.bool false)]) w) (
 RunA Tryd.prog (bin .shl 3 (.tmp 67) (.const (.int .u64 6)) t9_10 (.int .u64 6)) fun t68_21 =>
 RunA Tryd.prog (bin .add 3 (.tmp 70) (.tmp 71) t1_5 t11_11) fun t72_22 =>
 RunA Tryd.prog (Instr.index 9 t0_4 t72_22) fun t73_23 =>
 RunA Tryd.prog (bin .and 5 (.tmp 73) (.const (.int .u8 63)) t73_23 (.int .u8 63)) fun t74_24 =>
 RunV Tryd.prog (convert 5 3 t74_24) w fun t75_25 w =>
 RunA Tryd.prog (bin .or 3 (.tmp 68) (.tmp 75) t68_21 t75_25) fun t76_26 =>
 RunA Tryd.prog (bin .add 3 (.tmp 50) (.const (.int .i64 1)) t11_11 (.int .i64 1)) fun t51_27 =>
 (t0_4 : Value) = t0_4 ∧ ((t1_5 : Value) = t1_5 ∧ ((t8_6 : Value) = t8_6 ∧ ((t10_8 : Value) = t10_8 ∧ (n_12 t76_26 t51_27 w))))))) (
 jn 2 (fun t8_28 t9_29 w =>
 RunA Tryd.prog (bin .add 3 (.tmp 93) (.const (.int .i64 1)) t8_28 (.int .i64 1)) fun t94_31 =>
 R (.tuple #[t9_29, t94_31, (.bool true)]) w) fun j_30 =>
 RunA Tryd.prog (bin .lss 3 (.tmp 77) (.tmp 78) t9_10 t10_8) fun t79_32 =>
 IfB t79_32 (
 R (.tuple #[(.int .i64 0), (.int .i64 0), (.bool false)]) w) (
 RunA Tryd.prog (bin .gtr 3 (.tmp 81) (.const (.int .i64 1114111)) t9_10 (.int .i64 1114111)) fun t82_33 =>
 IfB t82_33 (
 R (.tuple #[(.int .i64 0), (.int .i64 0), (.bool false)]) w) (
 RunA Tryd.prog (bin .geq 3 (.tmp 85) (.const (.int .i64 55296)) t9_10 (.int .i64 55296)) fun t86_34 =>
 IfB t86_34 (
 RunA Tryd.prog (bin .leq 3 (.tmp 88) (.const (.int .i64 57343)) t9_10 (.int .i64 57343)) fun t89_35 =>
 IfB t89_35 (
 R (.tuple #[(.int .i64 0), (.int .i64 0), (.bool false)]) w) (
 j_30 t8_6 t9_10 w)) (
 j_30 t8_6 t9_10 w))))) [t9_7, (.int .i64 1)] w) fun j_9 =>
 RunA Tryd.prog (bin .geq 3 (.tmp 21) (.const (.int .i64 192)) t15_2 (.int .i64 192)) fun t22_36 =>
 IfB t22_36 (
 RunA Tryd.prog (bin .leq 3 (.tmp 24) (.const (.int .i64 223)) t15_2 (.int .i64 223)) fun t25_37 =>
 IfB t25_37 (
 RunA Tryd.prog (bin .and 3 (.tmp 27) (.const (.int .i64 31)) t15_2 (.int .i64 31)) fun t28_38 =>
 j_9 a0 a1 (.int .i64 1) t28_38 (.int .i64 128) w) (
 jn 5 (fun t0_39 t1_40 t8_41 t9_42 t10_43 w =>
 j_9 t0_39 t1_40 t8_41 t9_42 t10_43 w) fun j_44 =>
 RunA Tryd.prog (bin .geq 3 (.tmp 30) (.const (.int .i64 224)) t15_2 (.int .i64 224)) fun t31_45 =>
 IfB t31_45 (
 RunA Tryd.prog (bin .leq 3 (.tmp 33) (.const (.int .i64 239)) t15_2 (.int .i64 239)) fun t34_46 =>
 IfB t34_46 (
 RunA Tryd.prog (bin .and 3 (.tmp 36) (.const (.int .i64 15)) t15_2 (.int .i64 15)) fun t37_47 =>
 j_44 a0 a1 (.int .i64 2) t37_47 (.int .i64 2048) w) (
 RunA Tryd.prog (bin .geq 3 (.tmp 39) (.const (.int .i64 240)) t15_2 (.int .i64 240)) fun t40_48 =>
 IfB t40_48 (
 RunA Tryd.prog (bin .leq 3 (.tmp 42) (.const (.int .i64 247)) t15_2 (.int .i64 247)) fun t43_49 =>
 IfB t43_49 (
 RunA Tryd.prog (bin .and 3 (.tmp 45) (.const (.int .i64 7)) t15_2 (.int .i64 7)) fun t46_50 =>
 j_44 a0 a1 (.int .i64 3) t46_50 (.int .i64 65536) w) (
 R (.tuple #[(.int .i64 0), (.int .i64 0), (.bool false)]) w)) (
 R (.tuple #[(.int .i64 0), (.int .i64 0), (.bool false)]) w))) (
 RunA Tryd.prog (bin .geq 3 (.tmp 39) (.const (.int .i64 240)) t15_2 (.int .i64 240)) fun t40_51 =>
 IfB t40_51 (
 RunA Tryd.prog (bin .leq 3 (.tmp 42) (.const (.int .i64 247)) t15_2 (.int .i64 247)) fun t43_52 =>
 IfB t43_52 (
 RunA Tryd.prog (bin .and 3 (.tmp 45) (.const (.int .i64 7)) t15_2 (.int .i64 7)) fun t46_53 =>
 j_44 a0 a1 (.int .i64 3) t46_53 (.int .i64 65536) w) (
 R (.tuple #[(.int .i64 0), (.int .i64 0), (.bool false)]) w)) (
 R (.tuple #[(.int .i64 0), (.int .i64 0), (.bool false)]) w)))) (
 jn 5 (fun t0_54 t1_55 t8_56 t9_57 t10_58 w =>
 j_9 t0_54 t1_55 t8_56 t9_57 t10_58 w) fun j_59 =>
 RunA Tryd.prog (bin .geq 3 (.tmp 30) (.const (.int .i64 224)) t15_2 (.int .i64 224)) fun t31_60 =>
 IfB t31_60 (
 RunA Tryd.prog (bin .leq 3 (.tmp 33) (.const (.int .i64 239)) t15_2 (.int .i64 239)) fun t34_61 =>
 IfB t34_61 (
 RunA Tryd.prog (bin .and 3 (.tmp 36) (.const (.int .i64 15)) t15_2 (.int .i64 15)) fun t37_62 =>
 j_59 a0 a1 (.int .i64 2) t37_62 (.int .i64 2048) w) (
 RunA Tryd.prog (bin .geq 3 (.tmp 39) (.const (.int .i64 240)) t15_2 (.int .i64 240)) fun t40_63 =>
 IfB t40_63 (
 RunA Tryd.prog (bin .leq 3 (.tmp 42) (.const (.int .i64 247)) t15_2 (.int .i64 247)) fun t43_64 =>
 IfB t43_64 (
 RunA Tryd.prog (bin .and 3 (.tmp 45) (.const (.int .i64 7)) t15_2 (.int .i64 7)) fun t46_65 =>
 j_59 a0 a1 (.int .i64 3) t46_65 (.int .i64 65536) w) (
 R (.tuple #[(.int .i64 0), (.int .i64 0), (.bool false)]) w)) (
 R (.tuple #[(.int .i64 0), (.int .i64 0), (.bool false)]) w))) (
 RunA Tryd.prog (bin .geq 3 (.tmp 39) (.const (.int .i64 240)) t15_2 (.int .i64 240)) fun t40_66 =>
 IfB t40_66 (
 RunA Tryd.prog (bin .leq 3 (.tmp 42) (.const (.int .i64 247)) t15_2 (.int .i64 247)) fun t43_67 =>
 IfB t43_67 (
 RunA Tryd.prog (bin .and 3 (.tmp 45) (.const (.int .i64 7)) t15_2 (.int .i64 7)) fun t46_68 =>
 j_59 a0 a1 (.int .i64 3) t46_68 (.int .i64 65536) w) (
 R (.tuple #[(.int .i64 0), (.int .i64 0), (.bool false)]) w)) (
 R (.tuple #[(.int .i64 0), (.int .i64 0), (.bool false)]) w))))
theorem sh61_calls {a0 a1 : Value} {w : World} {R : Value → World → Prop} (h : sh61 a0 a1 w R) : CallF Tryd.prog 61 #[a0, a1] w R :=
  calls_of_denF (mk := false) (args := [a0, a1]) (an := (.seq (.ops [0, 1]) (.seq (.ops [0, 1, 7]) (.seq (.ops [0, 1, 7]) (.seq (.blk (.seq (.ops [0, 1, 7, 16]) (.cond (.seq (.ops [4, 5, 6]) .leaf) (.join [0, 1, 8, 9, 10] (.seq (.ops [0, 1, 7, 20]) (.cond (.ops [0, 1, 8, 9, 10]) (.join [0, 1, 8, 9, 10] (.seq (.ops [0, 1, 7, 29]) (.cond (.ops [0, 1, 8, 9, 10]) (.seq (.ops [0, 1, 7, 38]) (.cond (.ops [0, 1, 8, 9, 10]) (.seq (.ops [4, 5, 6]) .leaf)))))))))))) (.seq (.seq (.ops [0, 1, 8, 9, 10, 11]) (.blk (.loop [0, 1, 8, 10] [9, 11] (.seq (.seq (.ops [0, 1, 8, 9, 10, 11, 49]) (.cond .leaf .leaf)) (.seq (.blk (.seq (.seq (.ops [0, 1, 8, 9, 10, 11, 66]) (.cond (.seq (.ops [4, 5, 6]) .leaf) .leaf)) (.ops [0, 1, 8, 9, 10, 11]))) (.ops [0, 1, 8, 9, 10, 11])))))) (.seq (.join [8, 9] (.seq (.ops [8, 9, 91]) (.cond (.seq (.ops [4, 5, 6]) .leaf) .leaf))) (.seq (.ops [4, 5, 6]) .leaf)))))))) (c := Tryd.f61.body.getD .skip) hentD Tryd.func61 rfl (Nat.le_of_ble_eq_true (by kernel_rfl))
    (Eq.mp (show sh61 a0 a1 w R = denF Tryd.prog entD false Tryd.f61 (.seq (.ops [0, 1]) (.seq (.ops [0, 1, 7]) (.seq (.ops [0, 1, 7]) (.seq (.blk (.seq (.ops [0, 1, 7, 16]) (.cond (.seq (.ops [4, 5, 6]) .leaf) (.join [0, 1, 8, 9, 10] (.seq (.ops [0, 1, 7, 20]) (.cond (.ops [0, 1, 8, 9, 10]) (.join [0, 1, 8, 9, 10] (.seq (.ops [0, 1, 7, 29]) (.cond (.ops [0, 1, 8, 9, 10]) (.seq (.ops [0, 1, 7, 38]) (.cond (.ops [0, 1, 8, 9, 10]) (.seq (.ops [4, 5, 6]) .leaf)))))))))))) (.seq (.seq (.ops [0, 1, 8, 9, 10, 11]) (.blk (.loop [0, 1, 8, 10] [9, 11] (.seq (.seq (.ops [0, 1, 8, 9, 10, 11, 49]) (.cond .leaf .leaf)) (.seq (.blk (.seq (.seq (.ops [0, 1, 8, 9, 10, 11, 66]) (.cond (.seq (.ops [4, 5, 6]) .leaf) .leaf)) (.ops [0, 1, 8, 9, 10, 11]))) (.ops [0, 1, 8, 9, 10, 11])))))) (.seq (.join [8, 9] (.seq (.ops [8, 9, 91]) (.cond (.seq (.ops [4, 5, 6]) .leaf) .leaf))) (.seq (.ops [4, 5, 6]) .leaf))))))) (Tryd.f61.body.getD .skip) [a0, a1] w R by kernel_rfl) h)

end Go.Proofs.YtlflpbflpcmckaaDoor
