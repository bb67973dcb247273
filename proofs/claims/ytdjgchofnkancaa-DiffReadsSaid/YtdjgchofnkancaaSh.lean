/-
  The shallow forms of the functions, printed by a program (ez.py) out of Lean's print of the loaded functions; each is proved to imply the function's contract: the equations are the kernel's.
-/
import Derived.Test.YtdjgchofnkancaaProg
import Derived.Test.YtdjgchofnkancaaEzSound
namespace Go.Proofs.Ytdjgchofnkancaa
open Go Go.Ez
set_option linter.unusedVariables false
set_option maxRecDepth 100000
def ent : List Nat := [14, 15, 16, 17, 18, 19, 20, 21, 22, 23, 24, 25, 26, 27, 28, 29, 30, 31, 32, 33, 34, 35, 36, 37, 38, 39, 40, 41, 45, 46, 47, 48, 49, 50, 51, 67, 68, 69, 70, 71, 72, 73, 74, 75, 76, 77, 78, 79, 80, 81, 82, 83, 85, 86, 97, 98, 99, 101, 102, 103, 104, 106, 107, 108, 110, 115, 116, 126, 128, 134]
theorem hent : ∀ g, memN g ent = true → Enters Try.prog g := enters_all (by kernel_rfl)

/-! ### 3: handbill/hbllaw2.OmapTexts -/
def sh3 (a0 : Value) (w : World) (R : Value → World → Prop) : Prop :=
 CallF Try.prog 14 #[] w fun t9_1 w =>
 RunA Try.prog (Op.unary .not t9_1) fun t10_2 =>
 IfB t10_2 (
 R (.bool false) w) (
 CallF Try.prog 15 #[] w fun t11_3 w =>
 RunW Try.prog (bin .eql 24 (.tmp 12) (.const (.pointer none)) t11_3 (.pointer none)) w fun t13_4 =>
 IfB t13_4 (
 RunW Try.prog (bin .neq 24 (.tmp 19) (.const (.pointer none)) t11_3 (.pointer none)) w fun t20_5 =>
 IfB t20_5 (
 CallF Try.prog 14 #[] w fun t22_6 w =>
 R t22_6 w) (
 R (.bool false) w)) (
 RunW Try.prog (Builtin.len_ #[22] 3 #[a0]) w fun t16_7 =>
 RunA Try.prog (bin .gtr 3 (.tmp 16) (.const (.int .i64 200)) t16_7 (.int .i64 200)) fun t17_8 =>
 IfB t17_8 (
 RunW Try.prog (bin .neq 24 (.tmp 19) (.const (.pointer none)) t11_3 (.pointer none)) w fun t20_9 =>
 IfB t20_9 (
 CallF Try.prog 14 #[] w fun t22_10 w =>
 R t22_10 w) (
 R (.bool false) w)) (
 lp 1 (fun n_12 t4_11 w =>
 RunW Try.prog (Builtin.len_ #[22] 3 #[a0]) w fun t26_13 =>
 RunA Try.prog (bin .lss 3 (.tmp 24) (.tmp 26) t4_11 t26_13) fun t27_14 =>
 IfB t27_14 (
 RunA Try.prog (Instr.indexAt 22 a0 t4_11) fun t32_15 =>
 RunW Try.prog (Instr.loadAt 9 t32_15) w fun t33_16 =>
 RunW Try.prog (Builtin.len_ #[9] 3 #[t33_16]) w fun t34_17 =>
 RunA Try.prog (bin .gtr 3 (.tmp 34) (.const (.int .i64 100)) t34_17 (.int .i64 100)) fun t35_18 =>
 IfB t35_18 (
 CallF Try.prog 14 #[] w fun t36_19 w =>
 R t36_19 w) (
 RunA Try.prog (Instr.indexAt 22 a0 t4_11) fun t40_20 =>
 RunW Try.prog (Instr.loadAt 9 t40_20) w fun t41_21 =>
 CallF Try.prog 16 #[t11_3, t41_21, t4_11] w fun t43_22 w =>
 RunA Try.prog (bin .add 3 (.tmp 28) (.const (.int .i64 1)) t4_11 (.int .i64 1)) fun t29_23 =>
 (a0 : Value) = a0 ∧ ((t11_3 : Value) = t11_3 ∧ (n_12 t29_23 w)))) (
 CallF Try.prog 19 #[t11_3] w fun t45_24 w =>
 CallF Try.prog 18 #[t45_24] w fun t46_25 w =>
 RunW Try.prog (Builtin.len_ #[22] 3 #[a0]) w fun t48_26 =>
 RunA Try.prog (bin .add 3 (.tmp 48) (.const (.int .i64 1)) t48_26 (.int .i64 1)) fun t49_27 =>
 CallF Try.prog 17 #[t46_25, t49_27] w fun t50_28 w =>
 CallF Try.prog 21 #[a0] w fun t53_29 w =>
 CallF Try.prog 20 #[t50_28, t53_29] w fun t54_30 w =>
 RunA Try.prog (Op.unary .not t54_30) fun t55_31 =>
 IfB t55_31 (
 R (.bool false) w) (
 CallF Try.prog 22 #[t11_3] w fun t58_32 w =>
 RunW Try.prog (Builtin.len_ #[22] 3 #[t50_28]) w fun t60_33 =>
 RunW Try.prog (bin .neq 3 (.tmp 58) (.tmp 60) t58_32 t60_33) w fun t61_34 =>
 IfB t61_34 (
 R (.bool false) w) (
 lp 1 (fun n_36 t6_35 w =>
 RunW Try.prog (Builtin.len_ #[22] 3 #[a0]) w fun t65_37 =>
 RunA Try.prog (bin .lss 3 (.tmp 63) (.tmp 65) t6_35 t65_37) fun t66_38 =>
 IfB t66_38 (
 RunA Try.prog (Instr.indexAt 22 a0 t6_35) fun t73_39 =>
 RunW Try.prog (Instr.loadAt 9 t73_39) w fun t74_40 =>
 CallF Try.prog 23 #[t11_3, t74_40] w fun t75_41 w =>
 RunA Try.prog (Instr.extract t75_41 0) fun t76_42 =>
 RunA Try.prog (Instr.extract t75_41 1) fun t77_43 =>
 drw (fun S_44 w =>
 RunA Try.prog (Op.unary .not t77_43) fun t79_45 =>
 IfB t79_45 (
 R (.bool false) w) (
 RunA Try.prog (bin .lss 3 (.tmp 81) (.tmp 82) t76_42 t6_35) fun t83_46 =>
 IfB t83_46 (
 R (.bool false) w) (
 RunS Try.prog S_44 (Builtin.len_ #[22] 3 #[a0]) fun t88_47 =>
 RunA Try.prog (bin .geq 3 (.tmp 86) (.tmp 88) t76_42 t88_47) fun t89_48 =>
 IfB t89_48 (
 R (.bool false) w) (
 RunA Try.prog (Instr.indexAt 22 a0 t76_42) fun t94_49 =>
 RunS Try.prog S_44 (Instr.loadAt 9 t94_49) fun t95_50 =>
 RunA Try.prog (Instr.indexAt 22 a0 t6_35) fun t98_51 =>
 RunS Try.prog S_44 (Instr.loadAt 9 t98_51) fun t99_52 =>
 RunS Try.prog S_44 (bin .neq 9 (.tmp 95) (.tmp 99) t95_50 t99_52) fun t100_53 =>
 IfB t100_53 (
 R (.bool false) w) (
 RunA Try.prog (bin .add 3 (.tmp 67) (.const (.int .i64 1)) t6_35 (.int .i64 1)) fun t68_54 =>
 (a0 : Value) = a0 ∧ ((t11_3 : Value) = t11_3 ∧ (n_36 t68_54 w))))))) w) (
 CallF Try.prog 14 #[] w fun t102_55 w =>
 R t102_55 w)) [(.int .i64 0)] w)))) [(.int .i64 0)] w)))
theorem sh3_calls {a0 : Value} {w : World} {R : Value → World → Prop} (h : sh3 a0 w R) : CallF Try.prog 3 #[a0] w R :=
  calls_of_denF (mk := false) (args := [a0]) (an := (.seq (.ops [0]) (.seq (.seq (.ops [0, 10]) (.cond (.seq (.ops [2]) .leaf) .leaf)) (.seq (.ops [0, 3]) (.seq (.seq (.ops [0, 3, 18]) (.cond (.seq (.ops [2]) .leaf) .leaf)) (.seq (.seq (.ops [0, 3, 4]) (.blk (.loop [0, 3] [4] (.seq (.seq (.ops [0, 3, 4, 27]) (.cond .leaf .leaf)) (.seq (.blk (.seq (.seq (.ops [0, 3, 4, 35]) (.cond (.seq (.ops [2]) .leaf) .leaf)) (.ops [0, 3, 4]))) (.ops [0, 3, 4])))))) (.seq (.ops [0, 3, 5]) (.seq (.seq (.ops [0, 3, 62]) (.cond (.seq (.ops [2]) .leaf) .leaf)) (.seq (.seq (.ops [0, 3, 6]) (.blk (.loop [0, 3] [6] (.seq (.seq (.ops [0, 3, 6, 66]) (.cond .leaf .leaf)) (.seq (.blk (.seq (.ops [0, 3, 6, 7, 8]) (.seq (.draw (.q 0 (.q 1 (.q 2 (.sp 3 (.q 3 (.q 4 (.q 5 (.q 6 (.q 7 (.q 8 (.q 9 (.q 10 (.q 11 (.q 12 (.q 13 (.q 14 (.q 15 (.q 16 (.q 17 (.q 18 (.q 19 (.q 20 (.q 21 (.q 22 (.q 23 .fin))))))))))))))))))))) (.q 3 (.q 4 (.q 5 (.q 6 (.q 7 (.sp 8 (.q 8 (.q 9 (.q 10 (.q 11 (.q 12 (.q 13 (.q 14 (.q 15 (.q 16 (.q 17 (.q 18 (.q 19 (.q 20 (.q 21 (.q 22 (.q 23 .fin)))))))))))))))) (.q 8 (.q 9 (.q 10 (.q 11 (.q 12 (.q 13 (.sp 14 (.q 14 (.q 15 (.q 16 (.q 17 (.q 18 (.q 19 (.q 20 (.q 21 (.q 22 (.q 23 .fin)))))))))) (.q 14 (.q 15 (.q 16 (.q 17 (.q 18 (.q 19 (.q 20 (.q 21 (.q 22 (.q 23 .fin))))))))))))))))))))))))))) [0, 3, 6, 101]) (.cond (.seq (.ops [2]) .leaf) .leaf)))) (.ops [0, 3, 6])))))) (.seq (.ops [2]) .leaf)))))))))) (c := Try.f3.body.getD .skip) hent Try.func3 rfl (Nat.le_of_ble_eq_true (by kernel_rfl))
    (Eq.mp (show sh3 a0 w R = denF Try.prog ent false Try.f3 (.seq (.ops [0]) (.seq (.seq (.ops [0, 10]) (.cond (.seq (.ops [2]) .leaf) .leaf)) (.seq (.ops [0, 3]) (.seq (.seq (.ops [0, 3, 18]) (.cond (.seq (.ops [2]) .leaf) .leaf)) (.seq (.seq (.ops [0, 3, 4]) (.blk (.loop [0, 3] [4] (.seq (.seq (.ops [0, 3, 4, 27]) (.cond .leaf .leaf)) (.seq (.blk (.seq (.seq (.ops [0, 3, 4, 35]) (.cond (.seq (.ops [2]) .leaf) .leaf)) (.ops [0, 3, 4]))) (.ops [0, 3, 4])))))) (.seq (.ops [0, 3, 5]) (.seq (.seq (.ops [0, 3, 62]) (.cond (.seq (.ops [2]) .leaf) .leaf)) (.seq (.seq (.ops [0, 3, 6]) (.blk (.loop [0, 3] [6] (.seq (.seq (.ops [0, 3, 6, 66]) (.cond .leaf .leaf)) (.seq (.blk (.seq (.ops [0, 3, 6, 7, 8]) (.seq (.draw (.q 0 (.q 1 (.q 2 (.sp 3 (.q 3 (.q 4 (.q 5 (.q 6 (.q 7 (.q 8 (.q 9 (.q 10 (.q 11 (.q 12 (.q 13 (.q 14 (.q 15 (.q 16 (.q 17 (.q 18 (.q 19 (.q 20 (.q 21 (.q 22 (.q 23 .fin))))))))))))))))))))) (.q 3 (.q 4 (.q 5 (.q 6 (.q 7 (.sp 8 (.q 8 (.q 9 (.q 10 (.q 11 (.q 12 (.q 13 (.q 14 (.q 15 (.q 16 (.q 17 (.q 18 (.q 19 (.q 20 (.q 21 (.q 22 (.q 23 .fin)))))))))))))))) (.q 8 (.q 9 (.q 10 (.q 11 (.q 12 (.q 13 (.sp 14 (.q 14 (.q 15 (.q 16 (.q 17 (.q 18 (.q 19 (.q 20 (.q 21 (.q 22 (.q 23 .fin)))))))))) (.q 14 (.q 15 (.q 16 (.q 17 (.q 18 (.q 19 (.q 20 (.q 21 (.q 22 (.q 23 .fin))))))))))))))))))))))))))) [0, 3, 6, 101]) (.cond (.seq (.ops [2]) .leaf) .leaf)))) (.ops [0, 3, 6])))))) (.seq (.ops [2]) .leaf))))))))) (Try.f3.body.getD .skip) [a0] w R by kernel_rfl) h)

/-! ### 4: handbill/hbllaw2.OmapTakes -/
def sh4 (a0 a1 a2 a3 : Value) (w : World) (R : Value → World → Prop) : Prop :=
 CallF Try.prog 14 #[] w fun t16_1 w =>
 RunA Try.prog (Op.unary .not t16_1) fun t17_2 =>
 IfB t17_2 (
 R (.bool false) w) (
 CallF Try.prog 24 #[] w fun t18_3 w =>
 RunW Try.prog (bin .eql 41 (.tmp 19) (.const (.pointer none)) t18_3 (.pointer none)) w fun t20_4 =>
 IfB t20_4 (
 RunW Try.prog (bin .neq 41 (.tmp 34) (.const (.pointer none)) t18_3 (.pointer none)) w fun t35_5 =>
 IfB t35_5 (
 CallF Try.prog 14 #[] w fun t37_6 w =>
 R t37_6 w) (
 R (.bool false) w)) (
 RunW Try.prog (Builtin.len_ #[40] 3 #[a0]) w fun t23_7 =>
 RunA Try.prog (bin .gtr 3 (.tmp 23) (.const (.int .i64 300)) t23_7 (.int .i64 300)) fun t24_8 =>
 IfB t24_8 (
 RunW Try.prog (bin .neq 41 (.tmp 34) (.const (.pointer none)) t18_3 (.pointer none)) w fun t35_9 =>
 IfB t35_9 (
 CallF Try.prog 14 #[] w fun t37_10 w =>
 R t37_10 w) (
 R (.bool false) w)) (
 RunA Try.prog (bin .lss 3 (.tmp 27) (.const (.int .i64 1)) a1 (.int .i64 1)) fun t28_11 =>
 IfB t28_11 (
 RunW Try.prog (bin .neq 41 (.tmp 34) (.const (.pointer none)) t18_3 (.pointer none)) w fun t35_12 =>
 IfB t35_12 (
 CallF Try.prog 14 #[] w fun t37_13 w =>
 R t37_13 w) (
 R (.bool false) w)) (
 RunA Try.prog (bin .gtr 3 (.tmp 31) (.const (.int .i64 400)) a1 (.int .i64 400)) fun t32_14 =>
 IfB t32_14 (
 RunW Try.prog (bin .neq 41 (.tmp 34) (.const (.pointer none)) t18_3 (.pointer none)) w fun t35_15 =>
 IfB t35_15 (
 CallF Try.prog 14 #[] w fun t37_16 w =>
 R t37_16 w) (
 R (.bool false) w)) (
 lp 1 (fun n_18 t10_17 w =>
 RunW Try.prog (Builtin.len_ #[40] 3 #[a0]) w fun t41_19 =>
 RunA Try.prog (bin .lss 3 (.tmp 39) (.tmp 41) t10_17 t41_19) fun t42_20 =>
 IfB t42_20 (
 drw (fun S_21 w =>
 RunA Try.prog (Instr.indexAt 40 a0 t10_17) fun t48_22 =>
 RunA Try.prog (Instr.fieldAt 45 t48_22 1) fun t49_23 =>
 RunS Try.prog S_21 (Instr.loadAt 3 t49_23) fun t50_24 =>
 RunA Try.prog (Instr.indexAt 40 a0 t10_17) fun t53_25 =>
 RunA Try.prog (Instr.fieldAt 45 t53_25 3) fun t54_26 =>
 RunS Try.prog S_21 (Instr.loadAt 9 t54_26) fun t55_27 =>
 CallF Try.prog 25 #[t18_3, t50_24, t55_27] w fun t56_28 w =>
 RunA Try.prog (bin .add 3 (.tmp 43) (.const (.int .i64 1)) t10_17 (.int .i64 1)) fun t44_29 =>
 (a0 : Value) = a0 ∧ ((a1 : Value) = a1 ∧ ((a2 : Value) = a2 ∧ ((a3 : Value) = a3 ∧ ((t18_3 : Value) = t18_3 ∧ (n_18 t44_29 w)))))) w) (
 CallF Try.prog 28 #[t18_3] w fun t58_30 w =>
 CallF Try.prog 27 #[t58_30] w fun t59_31 w =>
 CallF Try.prog 26 #[t59_31, (.int .i64 400)] w fun t60_32 w =>
 CallF Try.prog 29 #[t18_3, a2, a3] w fun t64_33 w =>
 CallF Try.prog 27 #[t64_33] w fun t65_34 w =>
 CallF Try.prog 26 #[t65_34, (.int .i64 400)] w fun t66_35 w =>
 CallF Try.prog 28 #[t18_3] w fun t68_36 w =>
 CallF Try.prog 27 #[t68_36] w fun t69_37 w =>
 CallF Try.prog 26 #[t69_37, a1] w fun t71_38 w =>
 lp 2 (fun n_41 t14_39 t15_40 w =>
 RunW Try.prog (Builtin.len_ #[46] 3 #[t60_32]) w fun t74_42 =>
 RunA Try.prog (bin .lss 3 (.tmp 72) (.tmp 74) t15_40 t74_42) fun t75_43 =>
 IfB t75_43 (
 jn 9 (fun t1_44 t2_45 t3_46 t9_47 t11_48 t12_49 t13_50 t14_51 t15_52 w =>
 RunA Try.prog (bin .add 3 (.tmp 76) (.const (.int .i64 1)) t15_52 (.int .i64 1)) fun t77_54 =>
 (t1_44 : Value) = a1 ∧ ((t2_45 : Value) = a2 ∧ ((t3_46 : Value) = a3 ∧ ((t9_47 : Value) = t18_3 ∧ ((t11_48 : Value) = t60_32 ∧ ((t12_49 : Value) = t66_35 ∧ ((t13_50 : Value) = t71_38 ∧ (n_41 t14_51 t77_54 w)))))))) fun j_53 =>
 RunA Try.prog (Instr.indexAt 46 t60_32 t15_40) fun t80_55 =>
 RunW Try.prog (Instr.loadAt 3 t80_55) w fun t81_56 =>
 RunA Try.prog (bin .geq 3 (.tmp 81) (.tmp 82) t81_56 a2) fun t83_57 =>
 IfB t83_57 (
 RunA Try.prog (Instr.indexAt 46 t60_32 t15_40) fun t87_58 =>
 RunW Try.prog (Instr.loadAt 3 t87_58) w fun t88_59 =>
 RunA Try.prog (bin .lss 3 (.tmp 88) (.tmp 89) t88_59 a3) fun t90_60 =>
 IfB t90_60 (
 drw (fun S_61 w =>
 RunS Try.prog S_61 (Builtin.len_ #[46] 3 #[t66_35]) fun t94_62 =>
 RunA Try.prog (bin .geq 3 (.tmp 92) (.tmp 94) t14_39 t94_62) fun t95_63 =>
 IfB t95_63 (
 R (.bool false) w) (
 RunA Try.prog (Instr.indexAt 46 t66_35 t14_39) fun t99_64 =>
 RunS Try.prog S_61 (Instr.loadAt 3 t99_64) fun t100_65 =>
 RunA Try.prog (Instr.indexAt 46 t60_32 t15_40) fun t103_66 =>
 RunS Try.prog S_61 (Instr.loadAt 3 t103_66) fun t104_67 =>
 RunS Try.prog S_61 (bin .neq 3 (.tmp 100) (.tmp 104) t100_65 t104_67) fun t105_68 =>
 IfB t105_68 (
 R (.bool false) w) (
 RunA Try.prog (bin .add 3 (.tmp 107) (.const (.int .i64 1)) t14_39 (.int .i64 1)) fun t108_69 =>
 j_53 a1 a2 a3 t18_3 t60_32 t66_35 t71_38 t108_69 t15_40 w))) w) (
 j_53 a1 a2 a3 t18_3 t60_32 t66_35 t71_38 t14_39 t15_40 w)) (
 j_53 a1 a2 a3 t18_3 t60_32 t66_35 t71_38 t14_39 t15_40 w)) (
 CallF Try.prog 14 #[] w fun t109_70 w =>
 IfB t109_70 (
 RunW Try.prog (Builtin.len_ #[46] 3 #[t66_35]) w fun t113_71 =>
 RunW Try.prog (bin .eql 3 (.tmp 111) (.tmp 113) t14_39 t113_71) w fun t114_72 =>
 IfB t114_72 (
 RunW Try.prog (Builtin.len_ #[46] 3 #[t60_32]) w fun t118_73 =>
 CallF Try.prog 30 #[t18_3] w fun t120_74 w =>
 RunW Try.prog (bin .eql 3 (.tmp 118) (.tmp 120) t118_73 t120_74) w fun t121_75 =>
 IfB t121_75 (
 RunW Try.prog (Builtin.len_ #[46] 3 #[t60_32]) w fun t128_76 =>
 RunW Try.prog (Builtin.min_ #[3, 3] 3 #[a1, t128_76]) w fun t129_77 =>
 RunA Try.prog (Instr.sliceAt 46 t60_32 none (some t129_77) none) fun t130_78 =>
 CallF Try.prog 31 #[t71_38, t130_78] w fun t131_79 w =>
 R t131_79 w) (
 R (.bool false) w)) (
 R (.bool false) w)) (
 R (.bool false) w))) [(.int .i64 0), (.int .i64 0)] w)) [(.int .i64 0)] w)))))
theorem sh4_calls {a0 a1 a2 a3 : Value} {w : World} {R : Value → World → Prop} (h : sh4 a0 a1 a2 a3 w R) : CallF Try.prog 4 #[a0, a1, a2, a3] w R :=
  calls_of_denF (mk := false) (args := [a0, a1, a2, a3]) (an := (.seq (.ops [0, 1, 2, 3]) (.seq (.seq (.ops [0, 1, 2, 3, 17]) (.cond (.seq (.ops [8]) .leaf) .leaf)) (.seq (.ops [0, 1, 2, 3, 9]) (.seq (.seq (.ops [0, 1, 2, 3, 9, 33]) (.cond (.seq (.ops [8]) .leaf) .leaf)) (.seq (.seq (.ops [0, 1, 2, 3, 9, 10]) (.blk (.loop [0, 1, 2, 3, 9] [10] (.seq (.seq (.ops [0, 1, 2, 3, 9, 10, 42]) (.cond .leaf .leaf)) (.seq (.blk (.draw (.q 0 (.q 1 (.q 2 (.q 3 (.q 4 (.q 5 (.q 6 (.q 7 (.q 8 (.q 9 (.q 10 (.one 11 .fin)))))))))))) [0, 1, 2, 3, 9, 10])) (.ops [0, 1, 2, 3, 9, 10])))))) (.seq (.ops [1, 2, 3, 9, 11]) (.seq (.ops [1, 2, 3, 9, 11, 12]) (.seq (.ops [1, 2, 3, 9, 11, 12, 13]) (.seq (.ops [1, 2, 3, 9, 11, 12, 13, 14]) (.seq (.seq (.ops [1, 2, 3, 9, 11, 12, 13, 14, 15]) (.blk (.loop [1, 2, 3, 9, 11, 12, 13] [14, 15] (.seq (.seq (.ops [1, 2, 3, 9, 11, 12, 13, 14, 15, 75]) (.cond .leaf .leaf)) (.seq (.blk (.join [1, 2, 3, 9, 11, 12, 13, 14, 15] (.seq (.ops [1, 2, 3, 9, 11, 12, 13, 14, 15, 91]) (.cond (.seq (.seq (.draw (.q 0 (.q 1 (.q 2 (.q 3 (.q 4 (.sp 5 (.q 5 (.q 6 (.q 7 (.q 8 (.q 9 (.q 10 (.q 11 (.q 12 (.q 13 (.q 14 .fin)))))))))) (.q 5 (.q 6 (.q 7 (.q 8 (.q 9 (.q 10 (.q 11 (.q 12 (.q 13 (.q 14 .fin)))))))))))))))) [1, 2, 3, 9, 11, 12, 13, 14, 15, 106]) (.cond (.seq (.ops [8]) .leaf) .leaf)) (.ops [1, 2, 3, 9, 11, 12, 13, 14, 15])) .leaf)))) (.ops [1, 2, 3, 9, 11, 12, 13, 14, 15])))))) (.seq (.ops [8]) .leaf)))))))))))) (c := Try.f4.body.getD .skip) hent Try.func4 rfl (Nat.le_of_ble_eq_true (by kernel_rfl))
    (Eq.mp (show sh4 a0 a1 a2 a3 w R = denF Try.prog ent false Try.f4 (.seq (.ops [0, 1, 2, 3]) (.seq (.seq (.ops [0, 1, 2, 3, 17]) (.cond (.seq (.ops [8]) .leaf) .leaf)) (.seq (.ops [0, 1, 2, 3, 9]) (.seq (.seq (.ops [0, 1, 2, 3, 9, 33]) (.cond (.seq (.ops [8]) .leaf) .leaf)) (.seq (.seq (.ops [0, 1, 2, 3, 9, 10]) (.blk (.loop [0, 1, 2, 3, 9] [10] (.seq (.seq (.ops [0, 1, 2, 3, 9, 10, 42]) (.cond .leaf .leaf)) (.seq (.blk (.draw (.q 0 (.q 1 (.q 2 (.q 3 (.q 4 (.q 5 (.q 6 (.q 7 (.q 8 (.q 9 (.q 10 (.one 11 .fin)))))))))))) [0, 1, 2, 3, 9, 10])) (.ops [0, 1, 2, 3, 9, 10])))))) (.seq (.ops [1, 2, 3, 9, 11]) (.seq (.ops [1, 2, 3, 9, 11, 12]) (.seq (.ops [1, 2, 3, 9, 11, 12, 13]) (.seq (.ops [1, 2, 3, 9, 11, 12, 13, 14]) (.seq (.seq (.ops [1, 2, 3, 9, 11, 12, 13, 14, 15]) (.blk (.loop [1, 2, 3, 9, 11, 12, 13] [14, 15] (.seq (.seq (.ops [1, 2, 3, 9, 11, 12, 13, 14, 15, 75]) (.cond .leaf .leaf)) (.seq (.blk (.join [1, 2, 3, 9, 11, 12, 13, 14, 15] (.seq (.ops [1, 2, 3, 9, 11, 12, 13, 14, 15, 91]) (.cond (.seq (.seq (.draw (.q 0 (.q 1 (.q 2 (.q 3 (.q 4 (.sp 5 (.q 5 (.q 6 (.q 7 (.q 8 (.q 9 (.q 10 (.q 11 (.q 12 (.q 13 (.q 14 .fin)))))))))) (.q 5 (.q 6 (.q 7 (.q 8 (.q 9 (.q 10 (.q 11 (.q 12 (.q 13 (.q 14 .fin)))))))))))))))) [1, 2, 3, 9, 11, 12, 13, 14, 15, 106]) (.cond (.seq (.ops [8]) .leaf) .leaf)) (.ops [1, 2, 3, 9, 11, 12, 13, 14, 15])) .leaf)))) (.ops [1, 2, 3, 9, 11, 12, 13, 14, 15])))))) (.seq (.ops [8]) .leaf))))))))))) (Try.f4.body.getD .skip) [a0, a1, a2, a3] w R by kernel_rfl) h)

/-! ### 5: handbill/hbllaw2.OmapMerges -/
def sh5 (a0 a1 a2 : Value) (w : World) (R : Value → World → Prop) : Prop :=
 CallF Try.prog 14 #[] w fun t24_1 w =>
 RunA Try.prog (Op.unary .not t24_1) fun t25_2 =>
 IfB t25_2 (
 R (.bool false) w) (
 CallF Try.prog 24 #[] w fun t26_3 w =>
 CallF Try.prog 24 #[] w fun t27_4 w =>
 RunW Try.prog (bin .eql 41 (.tmp 28) (.const (.pointer none)) t26_3 (.pointer none)) w fun t29_5 =>
 IfB t29_5 (
 RunW Try.prog (bin .neq 41 (.tmp 44) (.const (.pointer none)) t26_3 (.pointer none)) w fun t45_6 =>
 IfB t45_6 (
 RunW Try.prog (bin .neq 41 (.tmp 47) (.const (.pointer none)) t27_4 (.pointer none)) w fun t48_7 =>
 IfB t48_7 (
 CallF Try.prog 14 #[] w fun t51_8 w =>
 R t51_8 w) (
 R (.bool false) w)) (
 R (.bool false) w)) (
 RunW Try.prog (bin .eql 41 (.tmp 31) (.const (.pointer none)) t27_4 (.pointer none)) w fun t32_9 =>
 IfB t32_9 (
 RunW Try.prog (bin .neq 41 (.tmp 44) (.const (.pointer none)) t26_3 (.pointer none)) w fun t45_10 =>
 IfB t45_10 (
 RunW Try.prog (bin .neq 41 (.tmp 47) (.const (.pointer none)) t27_4 (.pointer none)) w fun t48_11 =>
 IfB t48_11 (
 CallF Try.prog 14 #[] w fun t51_12 w =>
 R t51_12 w) (
 R (.bool false) w)) (
 R (.bool false) w)) (
 RunW Try.prog (Builtin.len_ #[40] 3 #[a0]) w fun t36_13 =>
 RunA Try.prog (bin .gtr 3 (.tmp 36) (.const (.int .i64 200)) t36_13 (.int .i64 200)) fun t37_14 =>
 IfB t37_14 (
 RunW Try.prog (bin .neq 41 (.tmp 44) (.const (.pointer none)) t26_3 (.pointer none)) w fun t45_15 =>
 IfB t45_15 (
 RunW Try.prog (bin .neq 41 (.tmp 47) (.const (.pointer none)) t27_4 (.pointer none)) w fun t48_16 =>
 IfB t48_16 (
 CallF Try.prog 14 #[] w fun t51_17 w =>
 R t51_17 w) (
 R (.bool false) w)) (
 R (.bool false) w)) (
 RunW Try.prog (Builtin.len_ #[40] 3 #[a1]) w fun t41_18 =>
 RunA Try.prog (bin .gtr 3 (.tmp 41) (.const (.int .i64 200)) t41_18 (.int .i64 200)) fun t42_19 =>
 IfB t42_19 (
 RunW Try.prog (bin .neq 41 (.tmp 44) (.const (.pointer none)) t26_3 (.pointer none)) w fun t45_20 =>
 IfB t45_20 (
 RunW Try.prog (bin .neq 41 (.tmp 47) (.const (.pointer none)) t27_4 (.pointer none)) w fun t48_21 =>
 IfB t48_21 (
 CallF Try.prog 14 #[] w fun t51_22 w =>
 R t51_22 w) (
 R (.bool false) w)) (
 R (.bool false) w)) (
 RunV Try.prog (Instr.build 60 #[]) w fun t53_23 w =>
 RunV Try.prog (Instr.box 60 t53_23) w fun t54_24 w =>
 lp 1 (fun n_26 t10_25 w =>
 RunW Try.prog (Builtin.len_ #[40] 3 #[a0]) w fun t57_27 =>
 RunA Try.prog (bin .lss 3 (.tmp 55) (.tmp 57) t10_25 t57_27) fun t58_28 =>
 IfB t58_28 (
 drw (fun S_29 w =>
 RunA Try.prog (Instr.indexAt 40 a0 t10_25) fun t64_30 =>
 RunA Try.prog (Instr.fieldAt 45 t64_30 1) fun t65_31 =>
 RunS Try.prog S_29 (Instr.loadAt 3 t65_31) fun t66_32 =>
 RunA Try.prog (Instr.indexAt 40 a0 t10_25) fun t69_33 =>
 RunA Try.prog (Instr.fieldAt 45 t69_33 3) fun t70_34 =>
 RunS Try.prog S_29 (Instr.loadAt 9 t70_34) fun t71_35 =>
 CallF Try.prog 25 #[t26_3, t66_32, t71_35] w fun t72_36 w =>
 drw (fun S_37 w =>
 RunA Try.prog (Instr.indexAt 40 a0 t10_25) fun t76_38 =>
 RunA Try.prog (Instr.fieldAt 45 t76_38 1) fun t77_39 =>
 RunS Try.prog S_37 (Instr.loadAt 3 t77_39) fun t78_40 =>
 RunA Try.prog (Instr.indexAt 40 a0 t10_25) fun t81_41 =>
 RunA Try.prog (Instr.fieldAt 45 t81_41 3) fun t82_42 =>
 RunS Try.prog S_37 (Instr.loadAt 9 t82_42) fun t83_43 =>
 CallF Try.prog 32 #[t54_24, t78_40, t83_43] w fun t84_44 w =>
 RunA Try.prog (bin .add 3 (.tmp 59) (.const (.int .i64 1)) t10_25 (.int .i64 1)) fun t60_45 =>
 (a0 : Value) = a0 ∧ ((a1 : Value) = a1 ∧ ((a2 : Value) = a2 ∧ ((t26_3 : Value) = t26_3 ∧ ((t27_4 : Value) = t27_4 ∧ ((t54_24 : Value) = t54_24 ∧ (n_26 t60_45 w))))))) w) w) (
 lp 1 (fun n_47 t11_46 w =>
 RunW Try.prog (Builtin.len_ #[40] 3 #[a1]) w fun t87_48 =>
 RunA Try.prog (bin .lss 3 (.tmp 85) (.tmp 87) t11_46 t87_48) fun t88_49 =>
 IfB t88_49 (
 drw (fun S_50 w =>
 RunA Try.prog (Instr.indexAt 40 a1 t11_46) fun t94_51 =>
 RunA Try.prog (Instr.fieldAt 45 t94_51 1) fun t95_52 =>
 RunS Try.prog S_50 (Instr.loadAt 3 t95_52) fun t96_53 =>
 RunA Try.prog (Instr.indexAt 40 a1 t11_46) fun t99_54 =>
 RunA Try.prog (Instr.fieldAt 45 t99_54 3) fun t100_55 =>
 RunS Try.prog S_50 (Instr.loadAt 9 t100_55) fun t101_56 =>
 CallF Try.prog 25 #[t27_4, t96_53, t101_56] w fun t102_57 w =>
 drw (fun S_58 w =>
 RunA Try.prog (Instr.indexAt 40 a1 t11_46) fun t106_59 =>
 RunA Try.prog (Instr.fieldAt 45 t106_59 1) fun t107_60 =>
 RunS Try.prog S_58 (Instr.loadAt 3 t107_60) fun t108_61 =>
 RunA Try.prog (Instr.indexAt 40 a1 t11_46) fun t111_62 =>
 RunA Try.prog (Instr.fieldAt 45 t111_62 3) fun t112_63 =>
 RunS Try.prog S_58 (Instr.loadAt 9 t112_63) fun t113_64 =>
 CallF Try.prog 32 #[t54_24, t108_61, t113_64] w fun t114_65 w =>
 RunA Try.prog (bin .add 3 (.tmp 89) (.const (.int .i64 1)) t11_46 (.int .i64 1)) fun t90_66 =>
 (a1 : Value) = a1 ∧ ((a2 : Value) = a2 ∧ ((t26_3 : Value) = t26_3 ∧ ((t27_4 : Value) = t27_4 ∧ ((t54_24 : Value) = t54_24 ∧ (n_47 t90_66 w)))))) w) w) (
 CallF Try.prog 28 #[t26_3] w fun t116_67 w =>
 CallF Try.prog 28 #[t27_4] w fun t118_68 w =>
 CallF Try.prog 33 #[t116_67, t118_68] w fun t119_69 w =>
 CallF Try.prog 34 #[t54_24, (.int .i64 0), (.int .i64 0), (.bool true)] w fun t122_70 w =>
 RunA Try.prog (Instr.extract t122_70 0) fun t123_71 =>
 RunA Try.prog (Instr.extract t122_70 1) fun t124_72 =>
 RunW Try.prog (Builtin.max_ #[3, 3] 3 #[a2, (.int .i64 0)]) w fun t126_73 =>
 RunW Try.prog (Builtin.len_ #[46] 3 #[t123_71]) w fun t128_74 =>
 RunW Try.prog (Builtin.min_ #[3, 3] 3 #[t126_73, t128_74]) w fun t129_75 =>
 CallF Try.prog 35 #[t119_69, a2] w fun t133_76 w =>
 RunA Try.prog (Instr.extract t133_76 0) fun t134_77 =>
 RunA Try.prog (Instr.extract t133_76 1) fun t135_78 =>
 CallF Try.prog 35 #[t119_69, (.int .i64 1048576)] w fun t138_79 w =>
 RunA Try.prog (Instr.extract t138_79 0) fun t139_80 =>
 RunA Try.prog (Instr.extract t138_79 1) fun t140_81 =>
 CallF Try.prog 28 #[t26_3] w fun t143_82 w =>
 CallF Try.prog 33 #[t143_82, (.nilFunc)] w fun t144_83 w =>
 CallF Try.prog 35 #[t144_83, (.int .i64 1048576)] w fun t145_84 w =>
 RunA Try.prog (Instr.extract t145_84 0) fun t146_85 =>
 RunA Try.prog (Instr.extract t145_84 1) fun t147_86 =>
 CallF Try.prog 28 #[t26_3] w fun t150_87 w =>
 CallF Try.prog 35 #[t150_87, (.int .i64 1048576)] w fun t151_88 w =>
 RunA Try.prog (Instr.extract t151_88 0) fun t152_89 =>
 RunA Try.prog (Instr.extract t151_88 1) fun t153_90 =>
 CallF Try.prog 14 #[] w fun t154_91 w =>
 IfB t154_91 (
 RunA Try.prog (Instr.sliceAt 46 t123_71 none (some t129_75) none) fun t159_92 =>
 CallF Try.prog 31 #[t134_77, t159_92] w fun t160_93 w =>
 IfB t160_93 (
 RunA Try.prog (Instr.sliceAt 22 t124_72 none (some t129_75) none) fun t166_94 =>
 CallF Try.prog 20 #[t135_78, t166_94] w fun t167_95 w =>
 IfB t167_95 (
 CallF Try.prog 31 #[t139_80, t123_71] w fun t172_96 w =>
 IfB t172_96 (
 CallF Try.prog 20 #[t140_81, t124_72] w fun t177_97 w =>
 IfB t177_97 (
 CallF Try.prog 31 #[t146_85, t152_89] w fun t182_98 w =>
 IfB t182_98 (
 CallF Try.prog 20 #[t147_86, t153_90] w fun t187_99 w =>
 R t187_99 w) (
 R (.bool false) w)) (
 R (.bool false) w)) (
 R (.bool false) w)) (
 R (.bool false) w)) (
 R (.bool false) w)) (
 R (.bool false) w))) [(.int .i64 0)] w)) [(.int .i64 0)] w)))))
theorem sh5_calls {a0 a1 a2 : Value} {w : World} {R : Value → World → Prop} (h : sh5 a0 a1 a2 w R) : CallF Try.prog 5 #[a0, a1, a2] w R :=
  calls_of_denF (mk := false) (args := [a0, a1, a2]) (an := (.seq (.ops [0, 1, 2]) (.seq (.seq (.ops [0, 1, 2, 25]) (.cond (.seq (.ops [6]) .leaf) .leaf)) (.seq (.ops [0, 1, 2, 7, 8]) (.seq (.seq (.ops [0, 1, 2, 7, 8, 43]) (.cond (.seq (.ops [6]) .leaf) .leaf)) (.seq (.ops [0, 1, 2, 7, 8, 9]) (.seq (.seq (.ops [0, 1, 2, 7, 8, 9, 10]) (.blk (.loop [0, 1, 2, 7, 8, 9] [10] (.seq (.seq (.ops [0, 1, 2, 7, 8, 9, 10, 58]) (.cond .leaf .leaf)) (.seq (.blk (.seq (.draw (.q 0 (.q 1 (.q 2 (.q 3 (.q 4 (.q 5 (.q 6 (.q 7 (.q 8 (.q 9 (.q 10 (.one 11 .fin)))))))))))) [0, 1, 2, 7, 8, 9, 10]) (.draw (.q 0 (.q 1 (.q 2 (.q 3 (.q 4 (.q 5 (.q 6 (.q 7 (.q 8 (.q 9 (.q 10 (.one 11 .fin)))))))))))) [0, 1, 2, 7, 8, 9, 10]))) (.ops [0, 1, 2, 7, 8, 9, 10])))))) (.seq (.seq (.ops [1, 2, 7, 8, 9, 11]) (.blk (.loop [1, 2, 7, 8, 9] [11] (.seq (.seq (.ops [1, 2, 7, 8, 9, 11, 88]) (.cond .leaf .leaf)) (.seq (.blk (.seq (.draw (.q 0 (.q 1 (.q 2 (.q 3 (.q 4 (.q 5 (.q 6 (.q 7 (.q 8 (.q 9 (.q 10 (.one 11 .fin)))))))))))) [1, 2, 7, 8, 9, 11]) (.draw (.q 0 (.q 1 (.q 2 (.q 3 (.q 4 (.q 5 (.q 6 (.q 7 (.q 8 (.q 9 (.q 10 (.one 11 .fin)))))))))))) [1, 2, 7, 8, 9, 11]))) (.ops [1, 2, 7, 8, 9, 11])))))) (.seq (.ops [2, 7, 9, 12]) (.seq (.ops [2, 7, 12, 13, 14]) (.seq (.ops [2, 7, 12, 13, 14, 15]) (.seq (.ops [7, 12, 13, 14, 15, 16, 17]) (.seq (.ops [7, 13, 14, 15, 16, 17, 18, 19]) (.seq (.ops [7, 13, 14, 15, 16, 17, 18, 19, 20, 21]) (.seq (.ops [13, 14, 15, 16, 17, 18, 19, 20, 21, 22, 23]) (.seq (.ops [6]) .leaf)))))))))))))))) (c := Try.f5.body.getD .skip) hent Try.func5 rfl (Nat.le_of_ble_eq_true (by kernel_rfl))
    (Eq.mp (show sh5 a0 a1 a2 w R = denF Try.prog ent false Try.f5 (.seq (.ops [0, 1, 2]) (.seq (.seq (.ops [0, 1, 2, 25]) (.cond (.seq (.ops [6]) .leaf) .leaf)) (.seq (.ops [0, 1, 2, 7, 8]) (.seq (.seq (.ops [0, 1, 2, 7, 8, 43]) (.cond (.seq (.ops [6]) .leaf) .leaf)) (.seq (.ops [0, 1, 2, 7, 8, 9]) (.seq (.seq (.ops [0, 1, 2, 7, 8, 9, 10]) (.blk (.loop [0, 1, 2, 7, 8, 9] [10] (.seq (.seq (.ops [0, 1, 2, 7, 8, 9, 10, 58]) (.cond .leaf .leaf)) (.seq (.blk (.seq (.draw (.q 0 (.q 1 (.q 2 (.q 3 (.q 4 (.q 5 (.q 6 (.q 7 (.q 8 (.q 9 (.q 10 (.one 11 .fin)))))))))))) [0, 1, 2, 7, 8, 9, 10]) (.draw (.q 0 (.q 1 (.q 2 (.q 3 (.q 4 (.q 5 (.q 6 (.q 7 (.q 8 (.q 9 (.q 10 (.one 11 .fin)))))))))))) [0, 1, 2, 7, 8, 9, 10]))) (.ops [0, 1, 2, 7, 8, 9, 10])))))) (.seq (.seq (.ops [1, 2, 7, 8, 9, 11]) (.blk (.loop [1, 2, 7, 8, 9] [11] (.seq (.seq (.ops [1, 2, 7, 8, 9, 11, 88]) (.cond .leaf .leaf)) (.seq (.blk (.seq (.draw (.q 0 (.q 1 (.q 2 (.q 3 (.q 4 (.q 5 (.q 6 (.q 7 (.q 8 (.q 9 (.q 10 (.one 11 .fin)))))))))))) [1, 2, 7, 8, 9, 11]) (.draw (.q 0 (.q 1 (.q 2 (.q 3 (.q 4 (.q 5 (.q 6 (.q 7 (.q 8 (.q 9 (.q 10 (.one 11 .fin)))))))))))) [1, 2, 7, 8, 9, 11]))) (.ops [1, 2, 7, 8, 9, 11])))))) (.seq (.ops [2, 7, 9, 12]) (.seq (.ops [2, 7, 12, 13, 14]) (.seq (.ops [2, 7, 12, 13, 14, 15]) (.seq (.ops [7, 12, 13, 14, 15, 16, 17]) (.seq (.ops [7, 13, 14, 15, 16, 17, 18, 19]) (.seq (.ops [7, 13, 14, 15, 16, 17, 18, 19, 20, 21]) (.seq (.ops [13, 14, 15, 16, 17, 18, 19, 20, 21, 22, 23]) (.seq (.ops [6]) .leaf))))))))))))))) (Try.f5.body.getD .skip) [a0, a1, a2] w R by kernel_rfl) h)

/-! ### 6: handbill/hbllaw2.OmapKinds -/
def sh6 (a0 a1 : Value) (w : World) (R : Value → World → Prop) : Prop :=
 CallF Try.prog 14 #[] w fun t16_1 w =>
 RunA Try.prog (Op.unary .not t16_1) fun t17_2 =>
 IfB t17_2 (
 R (.bool false) w) (
 CallF Try.prog 36 #[] w fun t18_3 w =>
 RunW Try.prog (bin .eql 66 (.tmp 19) (.const (.pointer none)) t18_3 (.pointer none)) w fun t20_4 =>
 IfB t20_4 (
 RunW Try.prog (bin .neq 66 (.tmp 26) (.const (.pointer none)) t18_3 (.pointer none)) w fun t27_5 =>
 IfB t27_5 (
 CallF Try.prog 14 #[] w fun t29_6 w =>
 R t29_6 w) (
 R (.bool false) w)) (
 RunW Try.prog (Builtin.len_ #[46] 3 #[a0]) w fun t23_7 =>
 RunA Try.prog (bin .gtr 3 (.tmp 23) (.const (.int .i64 100)) t23_7 (.int .i64 100)) fun t24_8 =>
 IfB t24_8 (
 RunW Try.prog (bin .neq 66 (.tmp 26) (.const (.pointer none)) t18_3 (.pointer none)) w fun t27_9 =>
 IfB t27_9 (
 CallF Try.prog 14 #[] w fun t29_10 w =>
 R t29_10 w) (
 R (.bool false) w)) (
 lp 1 (fun n_12 t6_11 w =>
 RunW Try.prog (Builtin.len_ #[46] 3 #[a0]) w fun t33_13 =>
 RunA Try.prog (bin .lss 3 (.tmp 31) (.tmp 33) t6_11 t33_13) fun t34_14 =>
 IfB t34_14 (
 drw (fun S_15 w =>
 RunA Try.prog (Instr.indexAt 46 a0 t6_11) fun t40_16 =>
 RunS Try.prog S_15 (Instr.loadAt 3 t40_16) fun t41_17 =>
 RunA Try.prog (Instr.indexAt 46 a0 t6_11) fun t45_18 =>
 RunS Try.prog S_15 (Instr.loadAt 3 t45_18) fun t46_19 =>
 RunV Try.prog (Instr.buildSlice 46 2 #[(0, t6_11), (1, t46_19)]) w fun t47_20 w =>
 S_15 w ∧ (
 CallF Try.prog 37 #[t18_3, t41_17, t47_20] w fun t48_21 w =>
 RunA Try.prog (bin .add 3 (.tmp 35) (.const (.int .i64 1)) t6_11 (.int .i64 1)) fun t36_22 =>
 (a0 : Value) = a0 ∧ ((a1 : Value) = a1 ∧ ((t18_3 : Value) = t18_3 ∧ (n_12 t36_22 w))))) w) (
 CallF Try.prog 38 #[t18_3] w fun t50_23 w =>
 RunW Try.prog (bin .eql 66 (.tmp 51) (.const (.pointer none)) t50_23 (.pointer none)) w fun t52_24 =>
 IfB t52_24 (
 R (.bool false) w) (
 CallF Try.prog 39 #[t50_23] w fun t54_25 w =>
 lp 1 (fun n_27 t9_26 w =>
 RunW Try.prog (Builtin.len_ #[46] 3 #[a0]) w fun t57_28 =>
 RunA Try.prog (bin .lss 3 (.tmp 55) (.tmp 57) t9_26 t57_28) fun t58_29 =>
 IfB t58_29 (
 RunA Try.prog (Instr.indexAt 46 a0 t9_26) fun t65_30 =>
 RunW Try.prog (Instr.loadAt 3 t65_30) w fun t66_31 =>
 CallF Try.prog 40 #[t50_23, t66_31] w fun t67_32 w =>
 RunA Try.prog (Instr.extract t67_32 0) fun t68_33 =>
 RunA Try.prog (Instr.extract t67_32 1) fun t69_34 =>
 drw (fun S_35 w =>
 RunA Try.prog (Op.unary .not t69_34) fun t71_36 =>
 IfB t71_36 (
 R (.bool false) w) (
 RunS Try.prog S_35 (Builtin.len_ #[46] 3 #[t68_33]) fun t74_37 =>
 RunS Try.prog S_35 (bin .neq 3 (.tmp 74) (.const (.int .i64 2)) t74_37 (.int .i64 2)) fun t75_38 =>
 IfB t75_38 (
 R (.bool false) w) (
 RunA Try.prog (Instr.indexAt 46 t68_33 (.int .i64 1)) fun t79_39 =>
 RunS Try.prog S_35 (Instr.loadAt 3 t79_39) fun t80_40 =>
 RunA Try.prog (Instr.indexAt 46 a0 t9_26) fun t83_41 =>
 RunS Try.prog S_35 (Instr.loadAt 3 t83_41) fun t84_42 =>
 RunS Try.prog S_35 (bin .neq 3 (.tmp 80) (.tmp 84) t80_40 t84_42) fun t85_43 =>
 IfB t85_43 (
 R (.bool false) w) (
 RunA Try.prog (Instr.indexAt 46 t68_33 (.int .i64 0)) fun t89_44 =>
 RunS Try.prog S_35 (Instr.loadAt 3 t89_44) fun t90_45 =>
 RunA Try.prog (bin .lss 3 (.tmp 90) (.tmp 91) t90_45 t9_26) fun t92_46 =>
 IfB t92_46 (
 R (.bool false) w) (
 RunA Try.prog (Instr.indexAt 46 t68_33 (.int .i64 0)) fun t96_47 =>
 RunS Try.prog S_35 (Instr.loadAt 3 t96_47) fun t97_48 =>
 RunS Try.prog S_35 (Builtin.len_ #[46] 3 #[a0]) fun t99_49 =>
 RunA Try.prog (bin .geq 3 (.tmp 97) (.tmp 99) t97_48 t99_49) fun t100_50 =>
 IfB t100_50 (
 R (.bool false) w) (
 RunA Try.prog (Instr.indexAt 46 t68_33 (.int .i64 0)) fun t105_51 =>
 RunS Try.prog S_35 (Instr.loadAt 3 t105_51) fun t106_52 =>
 RunA Try.prog (Instr.indexAt 46 a0 t106_52) fun t107_53 =>
 RunS Try.prog S_35 (Instr.loadAt 3 t107_53) fun t108_54 =>
 RunA Try.prog (Instr.indexAt 46 a0 t9_26) fun t111_55 =>
 RunS Try.prog S_35 (Instr.loadAt 3 t111_55) fun t112_56 =>
 RunS Try.prog S_35 (bin .neq 3 (.tmp 108) (.tmp 112) t108_54 t112_56) fun t113_57 =>
 IfB t113_57 (
 R (.bool false) w) (
 RunA Try.prog (bin .add 3 (.tmp 59) (.const (.int .i64 1)) t9_26 (.int .i64 1)) fun t60_58 =>
 (a0 : Value) = a0 ∧ ((a1 : Value) = a1 ∧ ((t18_3 : Value) = t18_3 ∧ ((t50_23 : Value) = t50_23 ∧ ((t54_25 : Value) = t54_25 ∧ (n_27 t60_58 w)))))))))))) w) (
 CallF Try.prog 37 #[t18_3, a1, (.slice none 0 0)] w fun t117_59 w =>
 CallF Try.prog 40 #[t50_23, a1] w fun t121_60 w =>
 RunA Try.prog (Instr.extract t121_60 0) fun t122_61 =>
 RunA Try.prog (Instr.extract t121_60 1) fun t123_62 =>
 CallF Try.prog 41 #[t18_3, a1] w fun t126_63 w =>
 CallF Try.prog 14 #[] w fun t127_64 w =>
 IfB t127_64 (
 RunA Try.prog (Op.unary .not t123_62) fun t131_65 =>
 RunW Try.prog (bin .eql 4 (.tmp 129) (.tmp 131) t117_59 t131_65) w fun t132_66 =>
 IfB t132_66 (
 IfB t126_63 (
 CallF Try.prog 39 #[t50_23] w fun t139_67 w =>
 RunW Try.prog (bin .eql 3 (.tmp 139) (.tmp 140) t139_67 t54_25) w fun t141_68 =>
 R t141_68 w) (
 R (.bool false) w)) (
 R (.bool false) w)) (
 R (.bool false) w))) [(.int .i64 0)] w))) [(.int .i64 0)] w)))
theorem sh6_calls {a0 a1 : Value} {w : World} {R : Value → World → Prop} (h : sh6 a0 a1 w R) : CallF Try.prog 6 #[a0, a1] w R :=
  calls_of_denF (mk := false) (args := [a0, a1]) (an := (.seq (.ops [0, 1]) (.seq (.seq (.ops [0, 1, 17]) (.cond (.seq (.ops [4]) .leaf) .leaf)) (.seq (.ops [0, 1, 5]) (.seq (.seq (.ops [0, 1, 5, 25]) (.cond (.seq (.ops [4]) .leaf) .leaf)) (.seq (.seq (.ops [0, 1, 5, 6]) (.blk (.loop [0, 1, 5] [6] (.seq (.seq (.ops [0, 1, 5, 6, 34]) (.cond .leaf .leaf)) (.seq (.blk (.draw (.q 0 (.q 1 (.q 2 (.q 3 (.q 4 (.q 5 (.q 6 (.q 7 (.q 8 (.q 9 (.one 10 (.one 11 .fin)))))))))))) [0, 1, 5, 6])) (.ops [0, 1, 5, 6])))))) (.seq (.ops [0, 1, 5, 7]) (.seq (.seq (.ops [0, 1, 5, 7, 52]) (.cond (.seq (.ops [4]) .leaf) .leaf)) (.seq (.ops [0, 1, 5, 7, 8]) (.seq (.seq (.ops [0, 1, 5, 7, 8, 9]) (.blk (.loop [0, 1, 5, 7, 8] [9] (.seq (.seq (.ops [0, 1, 5, 7, 8, 9, 58]) (.cond .leaf .leaf)) (.seq (.blk (.seq (.ops [0, 1, 5, 7, 8, 9, 10, 11]) (.seq (.draw (.q 0 (.q 1 (.q 2 (.sp 3 (.q 3 (.q 4 (.q 5 (.q 6 (.q 7 (.q 8 (.q 9 (.q 10 (.q 11 (.q 12 (.q 13 (.q 14 (.q 15 (.q 16 (.q 17 (.q 18 (.q 19 (.q 20 (.q 21 (.q 22 (.q 23 (.q 24 (.q 25 (.q 26 (.q 27 (.q 28 (.q 29 (.q 30 (.q 31 (.q 32 (.q 33 (.q 34 (.q 35 (.q 36 (.q 37 (.q 38 (.q 39 (.q 40 (.q 41 (.q 42 (.q 43 (.q 44 .fin)))))))))))))))))))))))))))))))))))))))))) (.q 3 (.q 4 (.q 5 (.q 6 (.q 7 (.sp 8 (.q 8 (.q 9 (.q 10 (.q 11 (.q 12 (.q 13 (.q 14 (.q 15 (.q 16 (.q 17 (.q 18 (.q 19 (.q 20 (.q 21 (.q 22 (.q 23 (.q 24 (.q 25 (.q 26 (.q 27 (.q 28 (.q 29 (.q 30 (.q 31 (.q 32 (.q 33 (.q 34 (.q 35 (.q 36 (.q 37 (.q 38 (.q 39 (.q 40 (.q 41 (.q 42 (.q 43 (.q 44 .fin))))))))))))))))))))))))))))))))))))) (.q 8 (.q 9 (.q 10 (.q 11 (.q 12 (.q 13 (.q 14 (.q 15 (.q 16 (.q 17 (.sp 18 (.q 18 (.q 19 (.q 20 (.q 21 (.q 22 (.q 23 (.q 24 (.q 25 (.q 26 (.q 27 (.q 28 (.q 29 (.q 30 (.q 31 (.q 32 (.q 33 (.q 34 (.q 35 (.q 36 (.q 37 (.q 38 (.q 39 (.q 40 (.q 41 (.q 42 (.q 43 (.q 44 .fin))))))))))))))))))))))))))) (.q 18 (.q 19 (.q 20 (.q 21 (.q 22 (.q 23 (.q 24 (.sp 25 (.q 25 (.q 26 (.q 27 (.q 28 (.q 29 (.q 30 (.q 31 (.q 32 (.q 33 (.q 34 (.q 35 (.q 36 (.q 37 (.q 38 (.q 39 (.q 40 (.q 41 (.q 42 (.q 43 (.q 44 .fin)))))))))))))))))))) (.q 25 (.q 26 (.q 27 (.q 28 (.q 29 (.q 30 (.q 31 (.q 32 (.sp 33 (.q 33 (.q 34 (.q 35 (.q 36 (.q 37 (.q 38 (.q 39 (.q 40 (.q 41 (.q 42 (.q 43 (.q 44 .fin)))))))))))) (.q 33 (.q 34 (.q 35 (.q 36 (.q 37 (.q 38 (.q 39 (.q 40 (.q 41 (.q 42 (.q 43 (.q 44 .fin)))))))))))))))))))))))))))))))))))))))))))))))))) [0, 1, 5, 7, 8, 9, 114]) (.cond (.seq (.ops [4]) .leaf) .leaf)))) (.ops [0, 1, 5, 7, 8, 9])))))) (.seq (.ops [1, 5, 7, 8, 12]) (.seq (.ops [1, 5, 7, 8, 12, 14]) (.seq (.ops [7, 8, 12, 14, 15]) (.seq (.ops [4]) .leaf)))))))))))))) (c := Try.f6.body.getD .skip) hent Try.func6 rfl (Nat.le_of_ble_eq_true (by kernel_rfl))
    (Eq.mp (show sh6 a0 a1 w R = denF Try.prog ent false Try.f6 (.seq (.ops [0, 1]) (.seq (.seq (.ops [0, 1, 17]) (.cond (.seq (.ops [4]) .leaf) .leaf)) (.seq (.ops [0, 1, 5]) (.seq (.seq (.ops [0, 1, 5, 25]) (.cond (.seq (.ops [4]) .leaf) .leaf)) (.seq (.seq (.ops [0, 1, 5, 6]) (.blk (.loop [0, 1, 5] [6] (.seq (.seq (.ops [0, 1, 5, 6, 34]) (.cond .leaf .leaf)) (.seq (.blk (.draw (.q 0 (.q 1 (.q 2 (.q 3 (.q 4 (.q 5 (.q 6 (.q 7 (.q 8 (.q 9 (.one 10 (.one 11 .fin)))))))))))) [0, 1, 5, 6])) (.ops [0, 1, 5, 6])))))) (.seq (.ops [0, 1, 5, 7]) (.seq (.seq (.ops [0, 1, 5, 7, 52]) (.cond (.seq (.ops [4]) .leaf) .leaf)) (.seq (.ops [0, 1, 5, 7, 8]) (.seq (.seq (.ops [0, 1, 5, 7, 8, 9]) (.blk (.loop [0, 1, 5, 7, 8] [9] (.seq (.seq (.ops [0, 1, 5, 7, 8, 9, 58]) (.cond .leaf .leaf)) (.seq (.blk (.seq (.ops [0, 1, 5, 7, 8, 9, 10, 11]) (.seq (.draw (.q 0 (.q 1 (.q 2 (.sp 3 (.q 3 (.q 4 (.q 5 (.q 6 (.q 7 (.q 8 (.q 9 (.q 10 (.q 11 (.q 12 (.q 13 (.q 14 (.q 15 (.q 16 (.q 17 (.q 18 (.q 19 (.q 20 (.q 21 (.q 22 (.q 23 (.q 24 (.q 25 (.q 26 (.q 27 (.q 28 (.q 29 (.q 30 (.q 31 (.q 32 (.q 33 (.q 34 (.q 35 (.q 36 (.q 37 (.q 38 (.q 39 (.q 40 (.q 41 (.q 42 (.q 43 (.q 44 .fin)))))))))))))))))))))))))))))))))))))))))) (.q 3 (.q 4 (.q 5 (.q 6 (.q 7 (.sp 8 (.q 8 (.q 9 (.q 10 (.q 11 (.q 12 (.q 13 (.q 14 (.q 15 (.q 16 (.q 17 (.q 18 (.q 19 (.q 20 (.q 21 (.q 22 (.q 23 (.q 24 (.q 25 (.q 26 (.q 27 (.q 28 (.q 29 (.q 30 (.q 31 (.q 32 (.q 33 (.q 34 (.q 35 (.q 36 (.q 37 (.q 38 (.q 39 (.q 40 (.q 41 (.q 42 (.q 43 (.q 44 .fin))))))))))))))))))))))))))))))))))))) (.q 8 (.q 9 (.q 10 (.q 11 (.q 12 (.q 13 (.q 14 (.q 15 (.q 16 (.q 17 (.sp 18 (.q 18 (.q 19 (.q 20 (.q 21 (.q 22 (.q 23 (.q 24 (.q 25 (.q 26 (.q 27 (.q 28 (.q 29 (.q 30 (.q 31 (.q 32 (.q 33 (.q 34 (.q 35 (.q 36 (.q 37 (.q 38 (.q 39 (.q 40 (.q 41 (.q 42 (.q 43 (.q 44 .fin))))))))))))))))))))))))))) (.q 18 (.q 19 (.q 20 (.q 21 (.q 22 (.q 23 (.q 24 (.sp 25 (.q 25 (.q 26 (.q 27 (.q 28 (.q 29 (.q 30 (.q 31 (.q 32 (.q 33 (.q 34 (.q 35 (.q 36 (.q 37 (.q 38 (.q 39 (.q 40 (.q 41 (.q 42 (.q 43 (.q 44 .fin)))))))))))))))))))) (.q 25 (.q 26 (.q 27 (.q 28 (.q 29 (.q 30 (.q 31 (.q 32 (.sp 33 (.q 33 (.q 34 (.q 35 (.q 36 (.q 37 (.q 38 (.q 39 (.q 40 (.q 41 (.q 42 (.q 43 (.q 44 .fin)))))))))))) (.q 33 (.q 34 (.q 35 (.q 36 (.q 37 (.q 38 (.q 39 (.q 40 (.q 41 (.q 42 (.q 43 (.q 44 .fin)))))))))))))))))))))))))))))))))))))))))))))))))) [0, 1, 5, 7, 8, 9, 114]) (.cond (.seq (.ops [4]) .leaf) .leaf)))) (.ops [0, 1, 5, 7, 8, 9])))))) (.seq (.ops [1, 5, 7, 8, 12]) (.seq (.ops [1, 5, 7, 8, 12, 14]) (.seq (.ops [7, 8, 12, 14, 15]) (.seq (.ops [4]) .leaf))))))))))))) (Try.f6.body.getD .skip) [a0, a1] w R by kernel_rfl) h)

/-! ### 8: handbill/hbllaw2.OmapEarly -/
def sh8 (a0 a1 : Value) (w : World) (R : Value → World → Prop) : Prop :=
 CallF Try.prog 14 #[] w fun t17_1 w =>
 RunA Try.prog (Op.unary .not t17_1) fun t18_2 =>
 IfB t18_2 (
 R (.bool false) w) (
 CallF Try.prog 24 #[] w fun t19_3 w =>
 RunW Try.prog (bin .eql 41 (.tmp 20) (.const (.pointer none)) t19_3 (.pointer none)) w fun t21_4 =>
 IfB t21_4 (
 RunW Try.prog (bin .neq 41 (.tmp 27) (.const (.pointer none)) t19_3 (.pointer none)) w fun t28_5 =>
 IfB t28_5 (
 CallF Try.prog 14 #[] w fun t30_6 w =>
 R t30_6 w) (
 R (.bool false) w)) (
 RunW Try.prog (Builtin.len_ #[40] 3 #[a0]) w fun t24_7 =>
 RunA Try.prog (bin .gtr 3 (.tmp 24) (.const (.int .i64 300)) t24_7 (.int .i64 300)) fun t25_8 =>
 IfB t25_8 (
 RunW Try.prog (bin .neq 41 (.tmp 27) (.const (.pointer none)) t19_3 (.pointer none)) w fun t28_9 =>
 IfB t28_9 (
 CallF Try.prog 14 #[] w fun t30_10 w =>
 R t30_10 w) (
 R (.bool false) w)) (
 RunV Try.prog (Instr.build 60 #[]) w fun t32_11 w =>
 RunV Try.prog (Instr.box 60 t32_11) w fun t33_12 w =>
 lp 1 (fun n_14 t7_13 w =>
 RunW Try.prog (Builtin.len_ #[40] 3 #[a0]) w fun t36_15 =>
 RunA Try.prog (bin .lss 3 (.tmp 34) (.tmp 36) t7_13 t36_15) fun t37_16 =>
 IfB t37_16 (
 drw (fun S_17 w =>
 RunA Try.prog (Instr.indexAt 40 a0 t7_13) fun t43_18 =>
 RunA Try.prog (Instr.fieldAt 45 t43_18 1) fun t44_19 =>
 RunS Try.prog S_17 (Instr.loadAt 3 t44_19) fun t45_20 =>
 RunA Try.prog (Instr.indexAt 40 a0 t7_13) fun t48_21 =>
 RunA Try.prog (Instr.fieldAt 45 t48_21 3) fun t49_22 =>
 RunS Try.prog S_17 (Instr.loadAt 9 t49_22) fun t50_23 =>
 CallF Try.prog 25 #[t19_3, t45_20, t50_23] w fun t51_24 w =>
 drw (fun S_25 w =>
 RunA Try.prog (Instr.indexAt 40 a0 t7_13) fun t55_26 =>
 RunA Try.prog (Instr.fieldAt 45 t55_26 1) fun t56_27 =>
 RunS Try.prog S_25 (Instr.loadAt 3 t56_27) fun t57_28 =>
 RunA Try.prog (Instr.indexAt 40 a0 t7_13) fun t60_29 =>
 RunA Try.prog (Instr.fieldAt 45 t60_29 3) fun t61_30 =>
 RunS Try.prog S_25 (Instr.loadAt 9 t61_30) fun t62_31 =>
 CallF Try.prog 32 #[t33_12, t57_28, t62_31] w fun t63_32 w =>
 RunA Try.prog (bin .add 3 (.tmp 38) (.const (.int .i64 1)) t7_13 (.int .i64 1)) fun t39_33 =>
 (a0 : Value) = a0 ∧ ((a1 : Value) = a1 ∧ ((t19_3 : Value) = t19_3 ∧ ((t33_12 : Value) = t33_12 ∧ (n_14 t39_33 w))))) w) w) (
 CallF Try.prog 34 #[t33_12, (.int .i64 0), (.int .i64 0), (.bool true)] w fun t66_34 w =>
 RunA Try.prog (Instr.extract t66_34 0) fun t67_35 =>
 RunA Try.prog (Instr.extract t66_34 1) fun t68_36 =>
 RunW Try.prog (Builtin.max_ #[3, 3] 3 #[a1, (.int .i64 0)]) w fun t70_37 =>
 RunW Try.prog (Builtin.len_ #[46] 3 #[t67_35]) w fun t72_38 =>
 RunW Try.prog (Builtin.min_ #[3, 3] 3 #[t70_37, t72_38]) w fun t73_39 =>
 CallF Try.prog 28 #[t19_3] w fun t76_40 w =>
 CallF Try.prog 35 #[t76_40, a1] w fun t78_41 w =>
 RunA Try.prog (Instr.extract t78_41 0) fun t79_42 =>
 RunA Try.prog (Instr.extract t78_41 1) fun t80_43 =>
 CallF Try.prog 28 #[t19_3] w fun t82_44 w =>
 CallF Try.prog 27 #[t82_44] w fun t83_45 w =>
 CallF Try.prog 26 #[t83_45, a1] w fun t85_46 w =>
 RunA Try.prog (Instr.sliceAt 46 t67_35 none (some t73_39) none) fun t89_47 =>
 CallF Try.prog 31 #[t79_42, t89_47] w fun t90_48 w =>
 RunA Try.prog (Op.unary .not t90_48) fun t91_49 =>
 IfB t91_49 (
 R (.bool false) w) (
 RunA Try.prog (Instr.sliceAt 22 t68_36 none (some t73_39) none) fun t96_50 =>
 CallF Try.prog 20 #[t80_43, t96_50] w fun t97_51 w =>
 RunA Try.prog (Op.unary .not t97_51) fun t98_52 =>
 IfB t98_52 (
 R (.bool false) w) (
 RunA Try.prog (Instr.sliceAt 46 t67_35 none (some t73_39) none) fun t104_53 =>
 CallF Try.prog 31 #[t85_46, t104_53] w fun t105_54 w =>
 RunA Try.prog (Op.unary .not t105_54) fun t106_55 =>
 IfB t106_55 (
 R (.bool false) w) (
 CallF Try.prog 45 #[t19_3, a0] w fun t110_56 w =>
 CallF Try.prog 33 #[(.nilFunc), (.nilFunc)] w fun t112_57 w =>
 CallF Try.prog 35 #[t112_57, (.int .i64 5)] w fun t113_58 w =>
 RunA Try.prog (Instr.extract t113_58 0) fun t114_59 =>
 RunA Try.prog (Instr.extract t113_58 1) fun t115_60 =>
 CallF Try.prog 14 #[] w fun t116_61 w =>
 IfB t116_61 (
 CallF Try.prog 31 #[t110_56, t67_35] w fun t120_62 w =>
 IfB t120_62 (
 RunW Try.prog (Builtin.len_ #[46] 3 #[t114_59]) w fun t124_63 =>
 RunW Try.prog (Builtin.len_ #[22] 3 #[t115_60]) w fun t126_64 =>
 RunA Try.prog (bin .add 3 (.tmp 124) (.tmp 126) t124_63 t126_64) fun t127_65 =>
 RunW Try.prog (bin .eql 3 (.tmp 127) (.const (.int .i64 0)) t127_65 (.int .i64 0)) w fun t128_66 =>
 IfB t128_66 (
 CallF Try.prog 26 #[(.nilFunc), (.int .i64 5)] w fun t131_67 w =>
 RunW Try.prog (Builtin.len_ #[46] 3 #[t131_67]) w fun t132_68 =>
 RunW Try.prog (bin .eql 3 (.tmp 132) (.const (.int .i64 0)) t132_68 (.int .i64 0)) w fun t133_69 =>
 R t133_69 w) (
 R (.bool false) w)) (
 R (.bool false) w)) (
 R (.bool false) w)))))) [(.int .i64 0)] w)))
theorem sh8_calls {a0 a1 : Value} {w : World} {R : Value → World → Prop} (h : sh8 a0 a1 w R) : CallF Try.prog 8 #[a0, a1] w R :=
  calls_of_denF (mk := false) (args := [a0, a1]) (an := (.seq (.ops [0, 1]) (.seq (.seq (.ops [0, 1, 18]) (.cond (.seq (.ops [4]) .leaf) .leaf)) (.seq (.ops [0, 1, 5]) (.seq (.seq (.ops [0, 1, 5, 26]) (.cond (.seq (.ops [4]) .leaf) .leaf)) (.seq (.ops [0, 1, 5, 6]) (.seq (.seq (.ops [0, 1, 5, 6, 7]) (.blk (.loop [0, 1, 5, 6] [7] (.seq (.seq (.ops [0, 1, 5, 6, 7, 37]) (.cond .leaf .leaf)) (.seq (.blk (.seq (.draw (.q 0 (.q 1 (.q 2 (.q 3 (.q 4 (.q 5 (.q 6 (.q 7 (.q 8 (.q 9 (.q 10 (.one 11 .fin)))))))))))) [0, 1, 5, 6, 7]) (.draw (.q 0 (.q 1 (.q 2 (.q 3 (.q 4 (.q 5 (.q 6 (.q 7 (.q 8 (.q 9 (.q 10 (.one 11 .fin)))))))))))) [0, 1, 5, 6, 7]))) (.ops [0, 1, 5, 6, 7])))))) (.seq (.ops [0, 1, 5, 8, 9]) (.seq (.ops [0, 1, 5, 8, 9, 10]) (.seq (.ops [0, 1, 5, 8, 9, 10, 11, 12]) (.seq (.ops [0, 5, 8, 9, 10, 11, 12, 13]) (.seq (.seq (.ops [0, 5, 8, 107]) (.cond (.seq (.ops [4]) .leaf) .leaf)) (.seq (.ops [8, 14]) (.seq (.ops [8, 14, 15, 16]) (.seq (.ops [4]) .leaf))))))))))))))) (c := Try.f8.body.getD .skip) hent Try.func8 rfl (Nat.le_of_ble_eq_true (by kernel_rfl))
    (Eq.mp (show sh8 a0 a1 w R = denF Try.prog ent false Try.f8 (.seq (.ops [0, 1]) (.seq (.seq (.ops [0, 1, 18]) (.cond (.seq (.ops [4]) .leaf) .leaf)) (.seq (.ops [0, 1, 5]) (.seq (.seq (.ops [0, 1, 5, 26]) (.cond (.seq (.ops [4]) .leaf) .leaf)) (.seq (.ops [0, 1, 5, 6]) (.seq (.seq (.ops [0, 1, 5, 6, 7]) (.blk (.loop [0, 1, 5, 6] [7] (.seq (.seq (.ops [0, 1, 5, 6, 7, 37]) (.cond .leaf .leaf)) (.seq (.blk (.seq (.draw (.q 0 (.q 1 (.q 2 (.q 3 (.q 4 (.q 5 (.q 6 (.q 7 (.q 8 (.q 9 (.q 10 (.one 11 .fin)))))))))))) [0, 1, 5, 6, 7]) (.draw (.q 0 (.q 1 (.q 2 (.q 3 (.q 4 (.q 5 (.q 6 (.q 7 (.q 8 (.q 9 (.q 10 (.one 11 .fin)))))))))))) [0, 1, 5, 6, 7]))) (.ops [0, 1, 5, 6, 7])))))) (.seq (.ops [0, 1, 5, 8, 9]) (.seq (.ops [0, 1, 5, 8, 9, 10]) (.seq (.ops [0, 1, 5, 8, 9, 10, 11, 12]) (.seq (.ops [0, 5, 8, 9, 10, 11, 12, 13]) (.seq (.seq (.ops [0, 5, 8, 107]) (.cond (.seq (.ops [4]) .leaf) .leaf)) (.seq (.ops [8, 14]) (.seq (.ops [8, 14, 15, 16]) (.seq (.ops [4]) .leaf)))))))))))))) (Try.f8.body.getD .skip) [a0, a1] w R by kernel_rfl) h)

/-! ### 9: handbill/hbllaw2.OmapPlays -/
def sh9 (a0 : Value) (w : World) (R : Value → World → Prop) : Prop :=
 CallF Try.prog 14 #[] w fun t14_1 w =>
 RunA Try.prog (Op.unary .not t14_1) fun t15_2 =>
 IfB t15_2 (
 R (.bool false) w) (
 CallF Try.prog 24 #[] w fun t16_3 w =>
 RunV Try.prog (Instr.build 60 #[]) w fun t17_4 w =>
 RunV Try.prog (Instr.box 60 t17_4) w fun t18_5 w =>
 RunW Try.prog (bin .eql 41 (.tmp 19) (.const (.pointer none)) t16_3 (.pointer none)) w fun t20_6 =>
 IfB t20_6 (
 RunW Try.prog (bin .neq 41 (.tmp 26) (.const (.pointer none)) t16_3 (.pointer none)) w fun t27_7 =>
 IfB t27_7 (
 CallF Try.prog 14 #[] w fun t29_8 w =>
 R t29_8 w) (
 R (.bool false) w)) (
 RunW Try.prog (Builtin.len_ #[40] 3 #[a0]) w fun t23_9 =>
 RunA Try.prog (bin .gtr 3 (.tmp 23) (.const (.int .i64 300)) t23_9 (.int .i64 300)) fun t24_10 =>
 IfB t24_10 (
 RunW Try.prog (bin .neq 41 (.tmp 26) (.const (.pointer none)) t16_3 (.pointer none)) w fun t27_11 =>
 IfB t27_11 (
 CallF Try.prog 14 #[] w fun t29_12 w =>
 R t29_12 w) (
 R (.bool false) w)) (
 lp 2 (fun n_15 t3_13 t5_14 w =>
 RunW Try.prog (Builtin.len_ #[40] 3 #[a0]) w fun t33_16 =>
 RunA Try.prog (bin .lss 3 (.tmp 31) (.tmp 33) t5_14 t33_16) fun t34_17 =>
 IfB t34_17 (
 RunA Try.prog (Instr.indexAt 40 a0 t5_14) fun t39_18 =>
 RunW Try.prog (Instr.loadAt 45 t39_18) w fun t40_19 =>
 RunV Try.prog (Instr.alloc 45 true (.tuple #[])) w fun t6_20 w =>
 RunU Try.prog (Instr.storeAt 45 t6_20 t40_19) w fun w =>
 RunA Try.prog (Instr.fieldAt 45 t6_20 0) fun t41_21 =>
 RunW Try.prog (Instr.loadAt 3 t41_21) w fun t42_22 =>
 jn 6 (fun t0_23 t3_24 t4_25 t5_26 t6_27 t7_28 w =>
 RunA Try.prog (Op.unary .not t7_28) fun t118_30 =>
 IfB t118_30 (
 R (.bool false) w) (
 RunA Try.prog (Instr.fieldAt 45 t6_27 1) fun t122_31 =>
 RunW Try.prog (Instr.loadAt 3 t122_31) w fun t123_32 =>
 RunA Try.prog (Instr.fieldAt 45 t6_27 2) fun t124_33 =>
 RunW Try.prog (Instr.loadAt 3 t124_33) w fun t125_34 =>
 CallF Try.prog 51 #[t3_24, t4_25, t123_32, t125_34] w fun t126_35 w =>
 RunA Try.prog (Op.unary .not t126_35) fun t127_36 =>
 IfB t127_36 (
 R (.bool false) w) (
 RunA Try.prog (bin .add 3 (.tmp 35) (.const (.int .i64 1)) t5_26 (.int .i64 1)) fun t36_37 =>
 (t0_23 : Value) = a0 ∧ ((t4_25 : Value) = t18_5 ∧ (n_15 t3_24 t36_37 w))))) fun j_29 =>
 RunW Try.prog (bin .eql 3 (.tmp 42) (.const (.int .i64 0)) t42_22 (.int .i64 0)) w fun t44_38 =>
 IfB t44_38 (
 drw (fun S_39 w =>
 RunA Try.prog (Instr.fieldAt 45 t6_20 1) fun t46_40 =>
 RunS Try.prog S_39 (Instr.loadAt 3 t46_40) fun t47_41 =>
 RunA Try.prog (Instr.fieldAt 45 t6_20 3) fun t48_42 =>
 RunS Try.prog S_39 (Instr.loadAt 9 t48_42) fun t49_43 =>
 RunA Try.prog (Instr.fieldAt 45 t6_20 1) fun t52_44 =>
 RunS Try.prog S_39 (Instr.loadAt 3 t52_44) fun t53_45 =>
 RunA Try.prog (Instr.fieldAt 45 t6_20 3) fun t54_46 =>
 RunS Try.prog S_39 (Instr.loadAt 9 t54_46) fun t55_47 =>
 CallF Try.prog 25 #[t3_13, t47_41, t49_43] w fun t50_48 w =>
 S_39 w ∧ (
 CallF Try.prog 32 #[t18_5, t53_45, t55_47] w fun t56_49 w =>
 S_39 w ∧ (
 RunS Try.prog S_39 (bin .eql 4 (.tmp 50) (.tmp 56) t50_48 t56_49) fun t57_50 =>
 j_29 a0 t3_13 t18_5 t5_14 t6_20 t57_50 w))) w) (
 jn 6 (fun t0_51 t3_52 t4_53 t5_54 t6_55 t7_56 w =>
 j_29 t0_51 t3_52 t4_53 t5_54 t6_55 t7_56 w) fun j_57 =>
 RunW Try.prog (bin .eql 3 (.tmp 42) (.const (.int .i64 1)) t42_22 (.int .i64 1)) w fun t59_58 =>
 IfB t59_58 (
 drw (fun S_59 w =>
 RunA Try.prog (Instr.fieldAt 45 t6_20 1) fun t61_60 =>
 RunS Try.prog S_59 (Instr.loadAt 3 t61_60) fun t62_61 =>
 RunA Try.prog (Instr.fieldAt 45 t6_20 1) fun t65_62 =>
 RunS Try.prog S_59 (Instr.loadAt 3 t65_62) fun t66_63 =>
 CallF Try.prog 46 #[t3_13, t62_61] w fun t63_64 w =>
 S_59 w ∧ (
 CallF Try.prog 47 #[t18_5, t66_63] w fun t67_65 w =>
 S_59 w ∧ (
 RunS Try.prog S_59 (bin .eql 4 (.tmp 63) (.tmp 67) t63_64 t67_65) fun t68_66 =>
 j_57 a0 t3_13 t18_5 t5_14 t6_20 t68_66 w))) w) (
 jn 6 (fun t0_67 t3_68 t4_69 t5_70 t6_71 t7_72 w =>
 j_57 t0_67 t3_68 t4_69 t5_70 t6_71 t7_72 w) fun j_73 =>
 RunW Try.prog (bin .eql 3 (.tmp 42) (.const (.int .i64 2)) t42_22 (.int .i64 2)) w fun t70_74 =>
 IfB t70_74 (
 RunA Try.prog (Instr.fieldAt 45 t6_20 1) fun t73_75 =>
 RunW Try.prog (Instr.loadAt 3 t73_75) w fun t74_76 =>
 CallF Try.prog 48 #[t3_13, t74_76] w fun t75_77 w =>
 RunA Try.prog (Instr.extract t75_77 0) fun t76_78 =>
 RunA Try.prog (Instr.extract t75_77 1) fun t77_79 =>
 RunA Try.prog (Instr.fieldAt 45 t6_20 1) fun t80_80 =>
 RunW Try.prog (Instr.loadAt 3 t80_80) w fun t81_81 =>
 CallF Try.prog 49 #[t18_5, t81_81] w fun t82_82 w =>
 RunA Try.prog (Instr.extract t82_82 0) fun t83_83 =>
 RunA Try.prog (Instr.extract t82_82 1) fun t84_84 =>
 jn 9 (fun t0_85 t3_86 t4_87 t5_88 t6_89 t8_90 t9_91 t11_92 t12_93 w =>
 jn 6 (fun t0_95 t3_96 t4_97 t5_98 t6_99 t7_100 w =>
 j_73 t0_95 t3_96 t4_97 t5_98 t6_99 t7_100 w) fun j_101 =>
 RunW Try.prog (bin .eql 4 (.tmp 94) (.tmp 95) t9_91 t11_92) w fun t96_102 =>
 IfB t96_102 (
 RunW Try.prog (bin .eql 9 (.tmp 98) (.tmp 99) t8_90 t12_93) w fun t100_103 =>
 j_101 t0_85 t3_86 t4_87 t5_88 t6_89 t100_103 w) (
 j_101 t0_85 t3_86 t4_87 t5_88 t6_89 (.bool false) w)) fun j_94 =>
 IfB t84_84 (
 RunA Try.prog (nilV t18_5) fun t87_104 =>
 RunA Try.prog (Instr.fieldAt 60 t87_104 0) fun t88_105 =>
 RunW Try.prog (Instr.loadAt 58 t88_105) w fun t89_106 =>
 RunA Try.prog (Instr.indexAt 58 t89_106 t83_83) fun t91_107 =>
 RunA Try.prog (Instr.fieldAt 80 t91_107 1) fun t92_108 =>
 RunW Try.prog (Instr.loadAt 9 t92_108) w fun t93_109 =>
 j_94 a0 t3_13 t18_5 t5_14 t6_20 t76_78 t77_79 t84_84 t93_109 w) (
 j_94 a0 t3_13 t18_5 t5_14 t6_20 t76_78 t77_79 t84_84 (.string ⟨#[]⟩) w)) (
 jn 6 (fun t0_110 t3_111 t4_112 t5_113 t6_114 t7_115 w =>
 j_73 t0_110 t3_111 t4_112 t5_113 t6_114 t7_115 w) fun j_116 =>
 RunW Try.prog (bin .eql 3 (.tmp 42) (.const (.int .i64 3)) t42_22 (.int .i64 3)) w fun t103_117 =>
 IfB t103_117 (
 CallF Try.prog 50 #[t3_13] w fun t105_118 w =>
 RunA Try.prog (Instr.fieldAt 45 t6_20 1) fun t107_119 =>
 RunW Try.prog (Instr.loadAt 3 t107_119) w fun t108_120 =>
 CallF Try.prog 25 #[t3_13, t108_120, (.string ⟨#[115, 112, 111, 105, 108, 116]⟩)] w fun t109_121 w =>
 RunA Try.prog (Instr.fieldAt 45 t6_20 2) fun t111_122 =>
 RunW Try.prog (Instr.loadAt 3 t111_122) w fun t112_123 =>
 CallF Try.prog 46 #[t3_13, t112_123] w fun t113_124 w =>
 RunW Try.prog (bin .neq 41 (.tmp 115) (.const (.pointer none)) t105_118 (.pointer none)) w fun t116_125 =>
 j_116 a0 t105_118 t18_5 t5_14 t6_20 t116_125 w) (
 j_116 a0 t3_13 t18_5 t5_14 t6_20 (.bool true) w))))) (
 CallF Try.prog 14 #[] w fun t129_126 w =>
 R t129_126 w)) [t16_3, (.int .i64 0)] w)))
theorem sh9_calls {a0 : Value} {w : World} {R : Value → World → Prop} (h : sh9 a0 w R) : CallF Try.prog 9 #[a0] w R :=
  calls_of_denF (mk := false) (args := [a0]) (an := (.seq (.ops [0]) (.seq (.seq (.ops [0, 15]) (.cond (.seq (.ops [2]) .leaf) .leaf)) (.seq (.ops [0, 3]) (.seq (.ops [0, 3, 4]) (.seq (.seq (.ops [0, 3, 4, 25]) (.cond (.seq (.ops [2]) .leaf) .leaf)) (.seq (.seq (.ops [0, 3, 4, 5]) (.blk (.loop [0, 4] [3, 5] (.seq (.seq (.ops [0, 3, 4, 5, 34]) (.cond .leaf .leaf)) (.seq (.blk (.seq (.ops [0, 3, 4, 5, 6]) (.seq (.ops [0, 3, 4, 5, 6, 7]) (.seq (.seq (.ops [0, 3, 4, 5, 6, 7, 42]) (.blk (.join [0, 3, 4, 5, 6, 7] (.seq (.ops [0, 3, 4, 5, 6, 7, 42, 43]) (.cond (.draw (.q 0 (.q 1 (.q 2 (.q 3 (.q 4 (.q 6 (.q 7 (.q 8 (.q 9 (.q 10 (.one 5 (.one 11 (.q 12 (.q 13 .fin)))))))))))))) [0, 3, 4, 5, 6, 7]) (.join [0, 3, 4, 5, 6, 7] (.seq (.ops [0, 3, 4, 5, 6, 7, 42, 58]) (.cond (.draw (.q 0 (.q 1 (.q 2 (.q 4 (.q 5 (.q 6 (.one 3 (.one 7 (.q 8 (.q 9 .fin)))))))))) [0, 3, 4, 5, 6, 7]) (.join [0, 3, 4, 5, 6, 7] (.seq (.ops [0, 3, 4, 5, 6, 7, 42, 69]) (.cond (.seq (.ops [0, 3, 4, 5, 6, 8, 9]) (.seq (.ops [0, 3, 4, 5, 6, 8, 9, 10, 11]) (.seq (.ops [0, 3, 4, 5, 6, 8, 9, 10, 11, 12]) (.seq (.join [0, 3, 4, 5, 6, 8, 9, 11, 12] (.seq (.ops [0, 3, 4, 5, 6, 8, 9, 10, 11, 12, 85]) (.cond (.ops [0, 3, 4, 5, 6, 8, 9, 11, 12]) .leaf))) (.join [0, 3, 4, 5, 6, 7] (.ops [0, 3, 4, 5, 6, 7])))))) (.join [0, 3, 4, 5, 6, 7] (.seq (.ops [0, 3, 4, 5, 6, 7, 102]) (.cond (.seq (.ops [0, 3, 4, 5, 6, 13]) (.seq (.ops [0, 3, 4, 5, 6, 13]) (.seq (.ops [0, 4, 5, 6, 13]) (.seq (.ops [0, 3, 4, 5, 6]) (.ops [0, 3, 4, 5, 6, 7]))))) .leaf)))))))))))))) (.seq (.ops [0, 3, 4, 5, 128]) (.cond (.seq (.ops [2]) .leaf) .leaf)))))) (.ops [0, 3, 4, 5])))))) (.seq (.ops [2]) .leaf)))))))) (c := Try.f9.body.getD .skip) hent Try.func9 rfl (Nat.le_of_ble_eq_true (by kernel_rfl))
    (Eq.mp (show sh9 a0 w R = denF Try.prog ent false Try.f9 (.seq (.ops [0]) (.seq (.seq (.ops [0, 15]) (.cond (.seq (.ops [2]) .leaf) .leaf)) (.seq (.ops [0, 3]) (.seq (.ops [0, 3, 4]) (.seq (.seq (.ops [0, 3, 4, 25]) (.cond (.seq (.ops [2]) .leaf) .leaf)) (.seq (.seq (.ops [0, 3, 4, 5]) (.blk (.loop [0, 4] [3, 5] (.seq (.seq (.ops [0, 3, 4, 5, 34]) (.cond .leaf .leaf)) (.seq (.blk (.seq (.ops [0, 3, 4, 5, 6]) (.seq (.ops [0, 3, 4, 5, 6, 7]) (.seq (.seq (.ops [0, 3, 4, 5, 6, 7, 42]) (.blk (.join [0, 3, 4, 5, 6, 7] (.seq (.ops [0, 3, 4, 5, 6, 7, 42, 43]) (.cond (.draw (.q 0 (.q 1 (.q 2 (.q 3 (.q 4 (.q 6 (.q 7 (.q 8 (.q 9 (.q 10 (.one 5 (.one 11 (.q 12 (.q 13 .fin)))))))))))))) [0, 3, 4, 5, 6, 7]) (.join [0, 3, 4, 5, 6, 7] (.seq (.ops [0, 3, 4, 5, 6, 7, 42, 58]) (.cond (.draw (.q 0 (.q 1 (.q 2 (.q 4 (.q 5 (.q 6 (.one 3 (.one 7 (.q 8 (.q 9 .fin)))))))))) [0, 3, 4, 5, 6, 7]) (.join [0, 3, 4, 5, 6, 7] (.seq (.ops [0, 3, 4, 5, 6, 7, 42, 69]) (.cond (.seq (.ops [0, 3, 4, 5, 6, 8, 9]) (.seq (.ops [0, 3, 4, 5, 6, 8, 9, 10, 11]) (.seq (.ops [0, 3, 4, 5, 6, 8, 9, 10, 11, 12]) (.seq (.join [0, 3, 4, 5, 6, 8, 9, 11, 12] (.seq (.ops [0, 3, 4, 5, 6, 8, 9, 10, 11, 12, 85]) (.cond (.ops [0, 3, 4, 5, 6, 8, 9, 11, 12]) .leaf))) (.join [0, 3, 4, 5, 6, 7] (.ops [0, 3, 4, 5, 6, 7])))))) (.join [0, 3, 4, 5, 6, 7] (.seq (.ops [0, 3, 4, 5, 6, 7, 102]) (.cond (.seq (.ops [0, 3, 4, 5, 6, 13]) (.seq (.ops [0, 3, 4, 5, 6, 13]) (.seq (.ops [0, 4, 5, 6, 13]) (.seq (.ops [0, 3, 4, 5, 6]) (.ops [0, 3, 4, 5, 6, 7]))))) .leaf)))))))))))))) (.seq (.ops [0, 3, 4, 5, 128]) (.cond (.seq (.ops [2]) .leaf) .leaf)))))) (.ops [0, 3, 4, 5])))))) (.seq (.ops [2]) .leaf))))))) (Try.f9.body.getD .skip) [a0] w R by kernel_rfl) h)

/-! ### 14: handbill/hbllaw2.first -/
def sh14 (w : World) (R : Value → World → Prop) : Prop :=
 CallF Try.prog 24 #[] w fun t4_1 w =>
 RunW Try.prog (bin .eql 41 (.tmp 5) (.const (.pointer none)) t4_1 (.pointer none)) w fun t6_2 =>
 IfB t6_2 (
 R (.bool false) w) (
 CallF Try.prog 25 #[t4_1, (.int .i64 2), (.string ⟨#[98]⟩)] w fun t8_3 w =>
 CallF Try.prog 25 #[t4_1, (.int .i64 1), (.string ⟨#[97]⟩)] w fun t10_4 w =>
 CallF Try.prog 28 #[t4_1] w fun t13_5 w =>
 CallF Try.prog 35 #[t13_5, (.int .i64 9)] w fun t14_6 w =>
 RunA Try.prog (Instr.extract t14_6 0) fun t15_7 =>
 RunA Try.prog (Instr.extract t14_6 1) fun t16_8 =>
 RunV Try.prog (Instr.buildSlice 46 2 #[(0, (.int .i64 1)), (1, (.int .i64 2))]) w fun t18_9 w =>
 CallF Try.prog 31 #[t15_7, t18_9] w fun t19_10 w =>
 IfB t19_10 (
 RunV Try.prog (Instr.buildSlice 22 2 #[(0, (.string ⟨#[97]⟩)), (1, (.string ⟨#[98]⟩))]) w fun t22_11 w =>
 CallF Try.prog 20 #[t16_8, t22_11] w fun t23_12 w =>
 IfB t23_12 (
 CallF Try.prog 28 #[t4_1] w fun t27_13 w =>
 CallF Try.prog 27 #[t27_13] w fun t28_14 w =>
 CallF Try.prog 26 #[t28_14, (.int .i64 1)] w fun t29_15 w =>
 RunV Try.prog (Instr.buildSlice 46 1 #[(0, (.int .i64 1))]) w fun t30_16 w =>
 CallF Try.prog 31 #[t29_15, t30_16] w fun t31_17 w =>
 R t31_17 w) (
 R (.bool false) w)) (
 R (.bool false) w))
theorem sh14_calls {w : World} {R : Value → World → Prop} (h : sh14  w R) : CallF Try.prog 14 #[] w R :=
  calls_of_denF (mk := false) (args := []) (an := (.seq (.ops []) (.seq (.ops [1]) (.seq (.seq (.ops [1, 6]) (.cond (.seq (.ops [0]) .leaf) .leaf)) (.seq (.ops [1]) (.seq (.ops [1]) (.seq (.ops [1, 2, 3]) (.seq (.ops [0]) .leaf)))))))) (c := Try.f14.body.getD .skip) hent Try.func14 rfl (Nat.le_of_ble_eq_true (by kernel_rfl))
    (Eq.mp (show sh14  w R = denF Try.prog ent false Try.f14 (.seq (.ops []) (.seq (.ops [1]) (.seq (.seq (.ops [1, 6]) (.cond (.seq (.ops [0]) .leaf) .leaf)) (.seq (.ops [1]) (.seq (.ops [1]) (.seq (.ops [1, 2, 3]) (.seq (.ops [0]) .leaf))))))) (Try.f14.body.getD .skip) [] w R by kernel_rfl) h)

/-! ### 15: handbill/omap.New[string,int] -/
def sh15 (w : World) (R : Value → World → Prop) : Prop :=
 RunV Try.prog (Instr.build 113 #[]) w fun t1_1 w =>
 RunV Try.prog (Instr.box 113 t1_1) w fun t2_2 w =>
 R t2_2 w
theorem sh15_calls {w : World} {R : Value → World → Prop} (h : sh15  w R) : CallF Try.prog 15 #[] w R :=
  calls_of_denF (mk := false) (args := []) (an := (.seq (.ops []) (.seq (.ops [0]) .leaf))) (c := Try.f15.body.getD .skip) hent Try.func15 rfl (Nat.le_of_ble_eq_true (by kernel_rfl))
    (Eq.mp (show sh15  w R = denF Try.prog ent false Try.f15 (.seq (.ops []) (.seq (.ops [0]) .leaf)) (Try.f15.body.getD .skip) [] w R by kernel_rfl) h)

/-! ### 16: (*handbill/omap.Map[string, int]).Put -/
def sh16 (a0 a1 a2 : Value) (w : World) (R : Value → World → Prop) : Prop :=
 CallF Try.prog 67 #[a0, a1] w fun t12_1 w =>
 RunA Try.prog (Instr.extract t12_1 0) fun t13_2 =>
 RunA Try.prog (Instr.extract t12_1 1) fun t14_3 =>
 jn 1 (fun t8_4 w =>
 RunA Try.prog (Op.unary .not t8_4) fun t38_6 =>
 R t38_6 w) fun j_5 =>
 IfB t14_3 (
 RunA Try.prog (nilV a0) fun t17_7 =>
 RunA Try.prog (Instr.fieldAt 113 t17_7 0) fun t18_8 =>
 RunW Try.prog (Instr.loadAt 111 t18_8) w fun t19_9 =>
 RunA Try.prog (Instr.indexAt 111 t19_9 t13_2) fun t22_10 =>
 RunA Try.prog (Instr.fieldAt 115 t22_10 1) fun t23_11 =>
 RunU Try.prog (Instr.storeAt 3 t23_11 a2) w fun w =>
 j_5 t14_3 w) (
 RunA Try.prog (nilV a0) fun t26_12 =>
 RunA Try.prog (Instr.fieldAt 113 t26_12 0) fun t27_13 =>
 RunW Try.prog (Instr.loadAt 111 t27_13) w fun t28_14 =>
 RunV Try.prog (Instr.build 115 #[(0, a1), (1, a2)]) w fun t32_15 w =>
 RunV Try.prog (Instr.buildSlice 111 1 #[(0, t32_15)]) w fun t33_16 w =>
 CallF Try.prog 68 #[t28_14, t13_2, t33_16] w fun t34_17 w =>
 RunA Try.prog (nilV a0) fun t35_18 =>
 RunA Try.prog (Instr.fieldAt 113 t35_18 0) fun t36_19 =>
 RunU Try.prog (Instr.storeAt 111 t36_19 t34_17) w fun w =>
 j_5 t14_3 w)
theorem sh16_calls {a0 a1 a2 : Value} {w : World} {R : Value → World → Prop} (h : sh16 a0 a1 a2 w R) : CallF Try.prog 16 #[a0, a1, a2] w R :=
  calls_of_denF (mk := false) (args := [a0, a1, a2]) (an := (.seq (.ops [0, 1, 2]) (.seq (.ops [0, 1, 2, 7, 8]) (.seq (.join [8] (.seq (.ops [0, 1, 2, 7, 8, 15]) (.cond (.ops [8]) (.ops [8])))) (.seq (.ops [6]) .leaf))))) (c := Try.f16.body.getD .skip) hent Try.func16 rfl (Nat.le_of_ble_eq_true (by kernel_rfl))
    (Eq.mp (show sh16 a0 a1 a2 w R = denF Try.prog ent false Try.f16 (.seq (.ops [0, 1, 2]) (.seq (.ops [0, 1, 2, 7, 8]) (.seq (.join [8] (.seq (.ops [0, 1, 2, 7, 8, 15]) (.cond (.ops [8]) (.ops [8])))) (.seq (.ops [6]) .leaf)))) (Try.f16.body.getD .skip) [a0, a1, a2] w R by kernel_rfl) h)

/-! ### 17: handbill/omap.Take[string] -/
def sh17 (a0 a1 : Value) (w : World) (R : Value → World → Prop) : Prop :=
 RunV Try.prog (Instr.box 3 a1) w fun t3_1 w =>
 RunW Try.prog (bin .eql 29 (.tmp 7) (.const (.nilFunc)) a0 (.nilFunc)) w fun t8_2 =>
 IfB t8_2 (
 R (.slice none 0 0) w) (
 RunW Try.prog (Instr.loadAt 3 t3_1) w fun t10_3 =>
 RunA Try.prog (bin .lss 3 (.tmp 10) (.const (.int .i64 1)) t10_3 (.int .i64 1)) fun t11_4 =>
 IfB t11_4 (
 R (.slice none 0 0) w) (
 RunV Try.prog (Instr.alloc 22 true (.tuple #[])) w fun t5_5 w =>
 rngP Try.prog none 1 3 (fun l_6 K_7 t14_13 w =>
 K_7 t3_1 t5_5 t14_13 w) (fun l_6 kn_8 ks_9 t3_14 t5_15 t6_16 w =>
 RunW Try.prog (Instr.loadAt 22 t5_15) w fun t15_17 =>
 RunV Try.prog (Instr.buildSlice 22 1 #[(0, t6_16)]) w fun t17_18 w =>
 RunV Try.prog (Builtin.append_ #[22, 22] 22 #[t15_17, t17_18]) w fun t18_19 w =>
 RunU Try.prog (Instr.storeAt 22 t5_15 t18_19) w fun w =>
 RunW Try.prog (Instr.loadAt 22 t5_15) w fun t19_20 =>
 RunW Try.prog (Builtin.len_ #[22] 3 #[t19_20]) w fun t20_21 =>
 RunW Try.prog (Instr.loadAt 3 t3_14) w fun t21_22 =>
 RunW Try.prog (bin .eql 3 (.tmp 20) (.tmp 21) t20_21 t21_22) w fun t22_23 =>
 IfB t22_23 (
 ks_9 (.exit 0) w) (
 kn_8 w)) a0 w (fun D_10 w =>
 RunW Try.prog (Instr.loadAt 22 t5_5) w fun t23_24 =>
 (w).heap[D_10]? = some (.deferred (some [])) ∧ (
 R t23_24 (w.putObj D_10 (.deferred none)))) (fun D_10 c_11 w => jumpK (fun i_12 w =>
 bif Nat.beq i_12 0 then (
 RunW Try.prog (Instr.loadAt 22 t5_5) w fun t23_25 =>
 (w).heap[D_10]? = some (.deferred (some [])) ∧ (
 R t23_25 (w.putObj D_10 (.deferred none)))) else (
 False)) (fun w =>
 (w).heap[D_10]? = some (.deferred (some [])) ∧ (
 False)) c_11 w)))
theorem sh17_calls {a0 a1 : Value} {w : World} {R : Value → World → Prop} (h : sh17 a0 a1 w R) : CallF Try.prog 17 #[a0, a1] w R :=
  calls_of_denF (mk := true) (args := [a0, a1]) (an := (.seq (.ops [0, 3]) (.seq (.seq (.ops [0, 3, 12]) (.cond (.seq (.ops [4]) .leaf) .leaf)) (.seq (.ops [0, 3, 5]) (.seq (.seq (.ops [3, 5, 13]) (.blk (.rng [3, 5, 6] (.ops [3, 5, 6]) (.blk (.seq (.ops [3, 5]) (.seq (.ops [22]) (.cond .leaf .leaf))))))) (.seq (.ops [4]) .leaf)))))) (c := Try.f17.body.getD .skip) hent Try.func17 rfl (Nat.le_of_ble_eq_true (by kernel_rfl))
    (Eq.mp (show sh17 a0 a1 w R = denF Try.prog ent true Try.f17 (.seq (.ops [0, 3]) (.seq (.seq (.ops [0, 3, 12]) (.cond (.seq (.ops [4]) .leaf) .leaf)) (.seq (.ops [0, 3, 5]) (.seq (.seq (.ops [3, 5, 13]) (.blk (.rng [3, 5, 6] (.ops [3, 5, 6]) (.blk (.seq (.ops [3, 5]) (.seq (.ops [22]) (.cond .leaf .leaf))))))) (.seq (.ops [4]) .leaf))))) (Try.f17.body.getD .skip) [a0, a1] w R by kernel_rfl) h)

/-! ### 18: handbill/omap.Keys[string,int] -/
def sh18 (a0 : Value) (w : World) (R : Value → World → Prop) : Prop :=
 RunV Try.prog (Instr.box 32 a0) w fun t1_1 w =>
 RunV Try.prog (Instr.makeFunc (Go.Fn.func 69) #[] #[t1_1]) w fun t3_2 w =>
 R t3_2 w
theorem sh18_calls {a0 : Value} {w : World} {R : Value → World → Prop} (h : sh18 a0 w R) : CallF Try.prog 18 #[a0] w R :=
  calls_of_denF (mk := false) (args := [a0]) (an := (.seq (.ops [1]) (.seq (.ops [2]) .leaf))) (c := Try.f18.body.getD .skip) hent Try.func18 rfl (Nat.le_of_ble_eq_true (by kernel_rfl))
    (Eq.mp (show sh18 a0 w R = denF Try.prog ent false Try.f18 (.seq (.ops [1]) (.seq (.ops [2]) .leaf)) (Try.f18.body.getD .skip) [a0] w R by kernel_rfl) h)

/-! ### 19: (*handbill/omap.Map[string, int]).All -/
def sh19 (a0 : Value) (w : World) (R : Value → World → Prop) : Prop :=
 RunV Try.prog (Instr.box 24 a0) w fun t1_1 w =>
 RunV Try.prog (Instr.makeFunc (Go.Fn.func 70) #[] #[t1_1]) w fun t3_2 w =>
 R t3_2 w
theorem sh19_calls {a0 : Value} {w : World} {R : Value → World → Prop} (h : sh19 a0 w R) : CallF Try.prog 19 #[a0] w R :=
  calls_of_denF (mk := false) (args := [a0]) (an := (.seq (.ops [1]) (.seq (.ops [2]) .leaf))) (c := Try.f19.body.getD .skip) hent Try.func19 rfl (Nat.le_of_ble_eq_true (by kernel_rfl))
    (Eq.mp (show sh19 a0 w R = denF Try.prog ent false Try.f19 (.seq (.ops [1]) (.seq (.ops [2]) .leaf)) (Try.f19.body.getD .skip) [a0] w R by kernel_rfl) h)

/-! ### 20: handbill/hblref.Texts -/
def sh20 (a0 a1 : Value) (w : World) (R : Value → World → Prop) : Prop :=
 RunW Try.prog (Builtin.len_ #[22] 3 #[a0]) w fun t7_1 =>
 RunW Try.prog (Builtin.len_ #[22] 3 #[a1]) w fun t9_2 =>
 RunW Try.prog (bin .neq 3 (.tmp 7) (.tmp 9) t7_1 t9_2) w fun t10_3 =>
 IfB t10_3 (
 R (.bool false) w) (
 lp 1 (fun n_5 t5_4 w =>
 RunW Try.prog (Builtin.len_ #[22] 3 #[a0]) w fun t13_6 =>
 RunA Try.prog (bin .lss 3 (.tmp 11) (.tmp 13) t5_4 t13_6) fun t14_7 =>
 IfB t14_7 (
 drw (fun S_8 w =>
 RunA Try.prog (Instr.indexAt 22 a0 t5_4) fun t19_9 =>
 RunS Try.prog S_8 (Instr.loadAt 9 t19_9) fun t20_10 =>
 RunA Try.prog (Instr.indexAt 22 a1 t5_4) fun t23_11 =>
 RunS Try.prog S_8 (Instr.loadAt 9 t23_11) fun t24_12 =>
 RunS Try.prog S_8 (bin .neq 9 (.tmp 20) (.tmp 24) t20_10 t24_12) fun t25_13 =>
 IfB t25_13 (
 R (.bool false) w) (
 RunA Try.prog (bin .add 3 (.tmp 15) (.const (.int .i64 1)) t5_4 (.int .i64 1)) fun t16_14 =>
 (a0 : Value) = a0 ∧ ((a1 : Value) = a1 ∧ (n_5 t16_14 w)))) w) (
 R (.bool true) w)) [(.int .i64 0)] w)
theorem sh20_calls {a0 a1 : Value} {w : World} {R : Value → World → Prop} (h : sh20 a0 a1 w R) : CallF Try.prog 20 #[a0, a1] w R :=
  calls_of_denF (mk := false) (args := [a0, a1]) (an := (.seq (.ops [0, 1]) (.seq (.seq (.ops [0, 1, 10]) (.cond (.seq (.ops [4]) .leaf) .leaf)) (.seq (.seq (.ops [0, 1, 5]) (.blk (.loop [0, 1] [5] (.seq (.seq (.ops [0, 1, 5, 14]) (.cond .leaf .leaf)) (.seq (.blk (.seq (.draw (.q 0 (.q 1 (.q 2 (.q 3 (.q 4 (.q 5 (.q 6 (.q 7 (.q 8 .fin))))))))) [0, 1, 5, 25]) (.cond (.seq (.ops [4]) .leaf) .leaf))) (.ops [0, 1, 5])))))) (.seq (.ops [4]) .leaf))))) (c := Try.f20.body.getD .skip) hent Try.func20 rfl (Nat.le_of_ble_eq_true (by kernel_rfl))
    (Eq.mp (show sh20 a0 a1 w R = denF Try.prog ent false Try.f20 (.seq (.ops [0, 1]) (.seq (.seq (.ops [0, 1, 10]) (.cond (.seq (.ops [4]) .leaf) .leaf)) (.seq (.seq (.ops [0, 1, 5]) (.blk (.loop [0, 1] [5] (.seq (.seq (.ops [0, 1, 5, 14]) (.cond .leaf .leaf)) (.seq (.blk (.seq (.draw (.q 0 (.q 1 (.q 2 (.q 3 (.q 4 (.q 5 (.q 6 (.q 7 (.q 8 .fin))))))))) [0, 1, 5, 25]) (.cond (.seq (.ops [4]) .leaf) .leaf))) (.ops [0, 1, 5])))))) (.seq (.ops [4]) .leaf)))) (Try.f20.body.getD .skip) [a0, a1] w R by kernel_rfl) h)

/-! ### 21: handbill/hblref.Unique -/
def sh21 (a0 : Value) (w : World) (R : Value → World → Prop) : Prop :=
 lp 2 (fun n_3 t3_1 t4_2 w =>
 RunW Try.prog (Builtin.len_ #[22] 3 #[a0]) w fun t8_4 =>
 RunA Try.prog (bin .lss 3 (.tmp 6) (.tmp 8) t4_2 t8_4) fun t9_5 =>
 IfB t9_5 (
 jn 3 (fun t0_6 t3_7 t4_8 w =>
 RunA Try.prog (bin .add 3 (.tmp 10) (.const (.int .i64 1)) t4_8 (.int .i64 1)) fun t11_10 =>
 (t0_6 : Value) = a0 ∧ (n_3 t3_7 t11_10 w)) fun j_9 =>
 RunW Try.prog (Builtin.len_ #[22] 3 #[t3_1]) w fun t13_11 =>
 jn 4 (fun t0_12 t3_13 t4_14 t5_15 w =>
 jn 4 (fun t0_17 t3_18 t4_19 t5_20 w =>
 drw (fun S_22 w =>
 RunA Try.prog (Instr.sliceAt 22 t3_18 none (some t5_20) none) fun t47_23 =>
 RunA Try.prog (Instr.indexAt 22 t0_17 t4_19) fun t50_24 =>
 RunS Try.prog S_22 (Instr.loadAt 9 t50_24) fun t51_25 =>
 RunA Try.prog (Instr.sliceAt 22 t3_18 (some t5_20) none none) fun t55_26 =>
 RunV Try.prog (Instr.buildSlice 22 1 #[(0, t51_25)]) w fun t52_27 w =>
 RunV Try.prog (Builtin.append_ #[22, 22] 22 #[t52_27, t55_26]) w fun t56_28 w =>
 RunV Try.prog (Builtin.append_ #[22, 22] 22 #[t47_23, t56_28]) w fun t57_29 w =>
 j_9 t0_17 t57_29 t4_19 w) w) fun j_21 =>
 drw (fun S_30 w =>
 RunS Try.prog S_30 (Builtin.len_ #[22] 3 #[t3_13]) fun t32_31 =>
 RunA Try.prog (bin .lss 3 (.tmp 30) (.tmp 32) t5_15 t32_31) fun t33_32 =>
 IfB t33_32 (
 RunA Try.prog (Instr.indexAt 22 t3_13 t5_15) fun t37_33 =>
 RunS Try.prog S_30 (Instr.loadAt 9 t37_33) fun t38_34 =>
 RunA Try.prog (Instr.indexAt 22 t0_12 t4_14) fun t41_35 =>
 RunS Try.prog S_30 (Instr.loadAt 9 t41_35) fun t42_36 =>
 RunS Try.prog S_30 (bin .eql 9 (.tmp 38) (.tmp 42) t38_34 t42_36) fun t43_37 =>
 IfB t43_37 (
 j_9 t0_12 t3_13 t4_14 w) (
 j_21 t0_12 t3_13 t4_14 t5_15 w)) (
 j_21 t0_12 t3_13 t4_14 t5_15 w)) w) fun j_16 =>
 lp 1 (fun n_39 t5_38 w =>
 drw (fun S_40 w =>
 RunA Try.prog (bin .gtr 3 (.tmp 14) (.const (.int .i64 0)) t5_38 (.int .i64 0)) fun t15_41 =>
 IfB t15_41 (
 RunA Try.prog (bin .sub 3 (.tmp 18) (.const (.int .i64 1)) t5_38 (.int .i64 1)) fun t19_42 =>
 RunA Try.prog (Instr.indexAt 22 t3_1 t19_42) fun t20_43 =>
 RunS Try.prog S_40 (Instr.loadAt 9 t20_43) fun t21_44 =>
 RunA Try.prog (Instr.indexAt 22 a0 t4_2) fun t24_45 =>
 RunS Try.prog S_40 (Instr.loadAt 9 t24_45) fun t25_46 =>
 RunA Try.prog (bin .geq 9 (.tmp 21) (.tmp 25) t21_44 t25_46) fun t26_47 =>
 IfB t26_47 (
 RunA Try.prog (bin .sub 3 (.tmp 28) (.const (.int .i64 1)) t5_38 (.int .i64 1)) fun t29_48 =>
 (a0 : Value) = a0 ∧ ((t3_1 : Value) = t3_1 ∧ ((t4_2 : Value) = t4_2 ∧ (n_39 t29_48 w)))) (
 j_16 a0 t3_1 t4_2 t5_38 w)) (
 j_16 a0 t3_1 t4_2 t5_38 w)) w) [t13_11] w) (
 R t3_1 w)) [(.slice none 0 0), (.int .i64 0)] w
theorem sh21_calls {a0 : Value} {w : World} {R : Value → World → Prop} (h : sh21 a0 w R) : CallF Try.prog 21 #[a0] w R :=
  calls_of_denF (mk := false) (args := [a0]) (an := (.seq (.ops [0]) (.seq (.ops [0, 3]) (.seq (.seq (.ops [0, 3, 4]) (.blk (.loop [0] [3, 4] (.seq (.seq (.ops [0, 3, 4, 9]) (.cond .leaf .leaf)) (.seq (.join [0, 3, 4] (.blk (.seq (.ops [0, 3, 4, 5]) (.seq (.join [0, 3, 4, 5] (.blk (.loop [0, 3, 4] [5] (.seq (.seq (.draw (.q 0 (.q 1 (.q 2 (.sp 3 (.q 3 (.q 4 (.q 5 (.q 6 (.q 7 (.q 8 (.q 9 (.q 10 (.q 11 (.q 12 (.q 13 .fin))))))))))) (.q 3 (.q 4 (.q 5 (.q 6 (.q 7 (.q 8 (.q 9 (.q 10 (.q 11 (.q 12 (.q 13 .fin))))))))))))))) [0, 3, 4, 5, 27]) (.cond .leaf .leaf)) (.blk (.ops [0, 3, 4, 5])))))) (.seq (.join [0, 3, 4, 5] (.seq (.draw (.q 0 (.q 1 (.q 2 (.q 3 (.q 4 (.sp 5 (.q 5 (.q 6 (.q 7 (.q 8 (.q 9 (.q 10 (.q 11 (.q 12 (.q 13 (.q 14 .fin)))))))))) (.q 5 (.q 6 (.q 7 (.q 8 (.q 9 (.q 10 (.q 11 (.q 12 (.q 13 (.q 14 .fin)))))))))))))))) [0, 3, 4, 5, 44]) (.cond .leaf .leaf))) (.draw (.q 0 (.q 1 (.q 2 (.q 3 (.q 4 (.q 5 (.q 6 (.q 8 (.q 9 (.q 10 (.one 7 (.one 11 (.one 12 (.q 13 .fin)))))))))))))) [0, 3, 4])))))) (.ops [0, 3, 4])))))) (.seq (.ops [2]) .leaf))))) (c := Try.f21.body.getD .skip) hent Try.func21 rfl (Nat.le_of_ble_eq_true (by kernel_rfl))
    (Eq.mp (show sh21 a0 w R = denF Try.prog ent false Try.f21 (.seq (.ops [0]) (.seq (.ops [0, 3]) (.seq (.seq (.ops [0, 3, 4]) (.blk (.loop [0] [3, 4] (.seq (.seq (.ops [0, 3, 4, 9]) (.cond .leaf .leaf)) (.seq (.join [0, 3, 4] (.blk (.seq (.ops [0, 3, 4, 5]) (.seq (.join [0, 3, 4, 5] (.blk (.loop [0, 3, 4] [5] (.seq (.seq (.draw (.q 0 (.q 1 (.q 2 (.sp 3 (.q 3 (.q 4 (.q 5 (.q 6 (.q 7 (.q 8 (.q 9 (.q 10 (.q 11 (.q 12 (.q 13 .fin))))))))))) (.q 3 (.q 4 (.q 5 (.q 6 (.q 7 (.q 8 (.q 9 (.q 10 (.q 11 (.q 12 (.q 13 .fin))))))))))))))) [0, 3, 4, 5, 27]) (.cond .leaf .leaf)) (.blk (.ops [0, 3, 4, 5])))))) (.seq (.join [0, 3, 4, 5] (.seq (.draw (.q 0 (.q 1 (.q 2 (.q 3 (.q 4 (.sp 5 (.q 5 (.q 6 (.q 7 (.q 8 (.q 9 (.q 10 (.q 11 (.q 12 (.q 13 (.q 14 .fin)))))))))) (.q 5 (.q 6 (.q 7 (.q 8 (.q 9 (.q 10 (.q 11 (.q 12 (.q 13 (.q 14 .fin)))))))))))))))) [0, 3, 4, 5, 44]) (.cond .leaf .leaf))) (.draw (.q 0 (.q 1 (.q 2 (.q 3 (.q 4 (.q 5 (.q 6 (.q 8 (.q 9 (.q 10 (.one 7 (.one 11 (.one 12 (.q 13 .fin)))))))))))))) [0, 3, 4])))))) (.ops [0, 3, 4])))))) (.seq (.ops [2]) .leaf)))) (Try.f21.body.getD .skip) [a0] w R by kernel_rfl) h)

/-! ### 22: (*handbill/omap.Map[string, int]).Len -/
def sh22 (a0 : Value) (w : World) (R : Value → World → Prop) : Prop :=
 RunA Try.prog (nilV a0) fun t4_1 =>
 RunA Try.prog (Instr.fieldAt 113 t4_1 0) fun t5_2 =>
 RunW Try.prog (Instr.loadAt 111 t5_2) w fun t6_3 =>
 RunW Try.prog (Builtin.len_ #[111] 3 #[t6_3]) w fun t7_4 =>
 R t7_4 w
theorem sh22_calls {a0 : Value} {w : World} {R : Value → World → Prop} (h : sh22 a0 w R) : CallF Try.prog 22 #[a0] w R :=
  calls_of_denF (mk := false) (args := [a0]) (an := (.seq (.ops [0]) (.seq (.ops [2]) .leaf))) (c := Try.f22.body.getD .skip) hent Try.func22 rfl (Nat.le_of_ble_eq_true (by kernel_rfl))
    (Eq.mp (show sh22 a0 w R = denF Try.prog ent false Try.f22 (.seq (.ops [0]) (.seq (.ops [2]) .leaf)) (Try.f22.body.getD .skip) [a0] w R by kernel_rfl) h)

/-! ### 23: (*handbill/omap.Map[string, int]).Get -/
def sh23 (a0 a1 : Value) (w : World) (R : Value → World → Prop) : Prop :=
 CallF Try.prog 67 #[a0, a1] w fun t12_1 w =>
 RunA Try.prog (Instr.extract t12_1 0) fun t13_2 =>
 RunA Try.prog (Instr.extract t12_1 1) fun t14_3 =>
 RunA Try.prog (Op.unary .not t14_3) fun t16_4 =>
 IfB t16_4 (
 R (.tuple #[(.int .i64 0), (.bool false)]) w) (
 RunA Try.prog (nilV a0) fun t19_5 =>
 RunA Try.prog (Instr.fieldAt 113 t19_5 0) fun t20_6 =>
 RunW Try.prog (Instr.loadAt 111 t20_6) w fun t21_7 =>
 RunA Try.prog (Instr.indexAt 111 t21_7 t13_2) fun t23_8 =>
 RunA Try.prog (Instr.fieldAt 115 t23_8 1) fun t24_9 =>
 RunW Try.prog (Instr.loadAt 3 t24_9) w fun t25_10 =>
 R (.tuple #[t25_10, (.bool true)]) w)
theorem sh23_calls {a0 a1 : Value} {w : World} {R : Value → World → Prop} (h : sh23 a0 a1 w R) : CallF Try.prog 23 #[a0, a1] w R :=
  calls_of_denF (mk := false) (args := [a0, a1]) (an := (.seq (.ops [0, 1]) (.seq (.ops [0, 6, 7]) (.seq (.seq (.ops [0, 6, 16]) (.cond (.seq (.ops [8]) (.seq (.ops [4, 5]) .leaf)) .leaf)) (.seq (.ops [4, 5]) .leaf))))) (c := Try.f23.body.getD .skip) hent Try.func23 rfl (Nat.le_of_ble_eq_true (by kernel_rfl))
    (Eq.mp (show sh23 a0 a1 w R = denF Try.prog ent false Try.f23 (.seq (.ops [0, 1]) (.seq (.ops [0, 6, 7]) (.seq (.seq (.ops [0, 6, 16]) (.cond (.seq (.ops [8]) (.seq (.ops [4, 5]) .leaf)) .leaf)) (.seq (.ops [4, 5]) .leaf)))) (Try.f23.body.getD .skip) [a0, a1] w R by kernel_rfl) h)

/-! ### 24: handbill/omap.New[int,string] -/
def sh24 (w : World) (R : Value → World → Prop) : Prop :=
 RunV Try.prog (Instr.build 121 #[]) w fun t1_1 w =>
 RunV Try.prog (Instr.box 121 t1_1) w fun t2_2 w =>
 R t2_2 w
theorem sh24_calls {w : World} {R : Value → World → Prop} (h : sh24  w R) : CallF Try.prog 24 #[] w R :=
  calls_of_denF (mk := false) (args := []) (an := (.seq (.ops []) (.seq (.ops [0]) .leaf))) (c := Try.f24.body.getD .skip) hent Try.func24 rfl (Nat.le_of_ble_eq_true (by kernel_rfl))
    (Eq.mp (show sh24  w R = denF Try.prog ent false Try.f24 (.seq (.ops []) (.seq (.ops [0]) .leaf)) (Try.f24.body.getD .skip) [] w R by kernel_rfl) h)

/-! ### 25: (*handbill/omap.Map[int, string]).Put -/
def sh25 (a0 a1 a2 : Value) (w : World) (R : Value → World → Prop) : Prop :=
 CallF Try.prog 72 #[a0, a1] w fun t12_1 w =>
 RunA Try.prog (Instr.extract t12_1 0) fun t13_2 =>
 RunA Try.prog (Instr.extract t12_1 1) fun t14_3 =>
 jn 1 (fun t8_4 w =>
 RunA Try.prog (Op.unary .not t8_4) fun t38_6 =>
 R t38_6 w) fun j_5 =>
 IfB t14_3 (
 RunA Try.prog (nilV a0) fun t17_7 =>
 RunA Try.prog (Instr.fieldAt 121 t17_7 0) fun t18_8 =>
 RunW Try.prog (Instr.loadAt 119 t18_8) w fun t19_9 =>
 RunA Try.prog (Instr.indexAt 119 t19_9 t13_2) fun t22_10 =>
 RunA Try.prog (Instr.fieldAt 123 t22_10 1) fun t23_11 =>
 RunU Try.prog (Instr.storeAt 9 t23_11 a2) w fun w =>
 j_5 t14_3 w) (
 RunA Try.prog (nilV a0) fun t26_12 =>
 RunA Try.prog (Instr.fieldAt 121 t26_12 0) fun t27_13 =>
 RunW Try.prog (Instr.loadAt 119 t27_13) w fun t28_14 =>
 RunV Try.prog (Instr.build 123 #[(0, a1), (1, a2)]) w fun t32_15 w =>
 RunV Try.prog (Instr.buildSlice 119 1 #[(0, t32_15)]) w fun t33_16 w =>
 CallF Try.prog 73 #[t28_14, t13_2, t33_16] w fun t34_17 w =>
 RunA Try.prog (nilV a0) fun t35_18 =>
 RunA Try.prog (Instr.fieldAt 121 t35_18 0) fun t36_19 =>
 RunU Try.prog (Instr.storeAt 119 t36_19 t34_17) w fun w =>
 j_5 t14_3 w)
theorem sh25_calls {a0 a1 a2 : Value} {w : World} {R : Value → World → Prop} (h : sh25 a0 a1 a2 w R) : CallF Try.prog 25 #[a0, a1, a2] w R :=
  calls_of_denF (mk := false) (args := [a0, a1, a2]) (an := (.seq (.ops [0, 1, 2]) (.seq (.ops [0, 1, 2, 7, 8]) (.seq (.join [8] (.seq (.ops [0, 1, 2, 7, 8, 15]) (.cond (.ops [8]) (.ops [8])))) (.seq (.ops [6]) .leaf))))) (c := Try.f25.body.getD .skip) hent Try.func25 rfl (Nat.le_of_ble_eq_true (by kernel_rfl))
    (Eq.mp (show sh25 a0 a1 a2 w R = denF Try.prog ent false Try.f25 (.seq (.ops [0, 1, 2]) (.seq (.ops [0, 1, 2, 7, 8]) (.seq (.join [8] (.seq (.ops [0, 1, 2, 7, 8, 15]) (.cond (.ops [8]) (.ops [8])))) (.seq (.ops [6]) .leaf)))) (Try.f25.body.getD .skip) [a0, a1, a2] w R by kernel_rfl) h)

/-! ### 26: handbill/omap.Take[int] -/
def sh26 (a0 a1 : Value) (w : World) (R : Value → World → Prop) : Prop :=
 RunV Try.prog (Instr.box 3 a1) w fun t3_1 w =>
 RunW Try.prog (bin .eql 49 (.tmp 7) (.const (.nilFunc)) a0 (.nilFunc)) w fun t8_2 =>
 IfB t8_2 (
 R (.slice none 0 0) w) (
 RunW Try.prog (Instr.loadAt 3 t3_1) w fun t10_3 =>
 RunA Try.prog (bin .lss 3 (.tmp 10) (.const (.int .i64 1)) t10_3 (.int .i64 1)) fun t11_4 =>
 IfB t11_4 (
 R (.slice none 0 0) w) (
 RunV Try.prog (Instr.alloc 46 true (.tuple #[])) w fun t5_5 w =>
 rngP Try.prog none 1 3 (fun l_6 K_7 t14_13 w =>
 K_7 t3_1 t5_5 t14_13 w) (fun l_6 kn_8 ks_9 t3_14 t5_15 t6_16 w =>
 RunW Try.prog (Instr.loadAt 46 t5_15) w fun t15_17 =>
 RunV Try.prog (Instr.buildSlice 46 1 #[(0, t6_16)]) w fun t17_18 w =>
 RunV Try.prog (Builtin.append_ #[46, 46] 46 #[t15_17, t17_18]) w fun t18_19 w =>
 RunU Try.prog (Instr.storeAt 46 t5_15 t18_19) w fun w =>
 RunW Try.prog (Instr.loadAt 46 t5_15) w fun t19_20 =>
 RunW Try.prog (Builtin.len_ #[46] 3 #[t19_20]) w fun t20_21 =>
 RunW Try.prog (Instr.loadAt 3 t3_14) w fun t21_22 =>
 RunW Try.prog (bin .eql 3 (.tmp 20) (.tmp 21) t20_21 t21_22) w fun t22_23 =>
 IfB t22_23 (
 ks_9 (.exit 0) w) (
 kn_8 w)) a0 w (fun D_10 w =>
 RunW Try.prog (Instr.loadAt 46 t5_5) w fun t23_24 =>
 (w).heap[D_10]? = some (.deferred (some [])) ∧ (
 R t23_24 (w.putObj D_10 (.deferred none)))) (fun D_10 c_11 w => jumpK (fun i_12 w =>
 bif Nat.beq i_12 0 then (
 RunW Try.prog (Instr.loadAt 46 t5_5) w fun t23_25 =>
 (w).heap[D_10]? = some (.deferred (some [])) ∧ (
 R t23_25 (w.putObj D_10 (.deferred none)))) else (
 False)) (fun w =>
 (w).heap[D_10]? = some (.deferred (some [])) ∧ (
 False)) c_11 w)))
theorem sh26_calls {a0 a1 : Value} {w : World} {R : Value → World → Prop} (h : sh26 a0 a1 w R) : CallF Try.prog 26 #[a0, a1] w R :=
  calls_of_denF (mk := true) (args := [a0, a1]) (an := (.seq (.ops [0, 3]) (.seq (.seq (.ops [0, 3, 12]) (.cond (.seq (.ops [4]) .leaf) .leaf)) (.seq (.ops [0, 3, 5]) (.seq (.seq (.ops [3, 5, 13]) (.blk (.rng [3, 5, 6] (.ops [3, 5, 6]) (.blk (.seq (.ops [3, 5]) (.seq (.ops [22]) (.cond .leaf .leaf))))))) (.seq (.ops [4]) .leaf)))))) (c := Try.f26.body.getD .skip) hent Try.func26 rfl (Nat.le_of_ble_eq_true (by kernel_rfl))
    (Eq.mp (show sh26 a0 a1 w R = denF Try.prog ent true Try.f26 (.seq (.ops [0, 3]) (.seq (.seq (.ops [0, 3, 12]) (.cond (.seq (.ops [4]) .leaf) .leaf)) (.seq (.ops [0, 3, 5]) (.seq (.seq (.ops [3, 5, 13]) (.blk (.rng [3, 5, 6] (.ops [3, 5, 6]) (.blk (.seq (.ops [3, 5]) (.seq (.ops [22]) (.cond .leaf .leaf))))))) (.seq (.ops [4]) .leaf))))) (Try.f26.body.getD .skip) [a0, a1] w R by kernel_rfl) h)

/-! ### 27: handbill/omap.Keys[int,string] -/
def sh27 (a0 : Value) (w : World) (R : Value → World → Prop) : Prop :=
 RunV Try.prog (Instr.box 52 a0) w fun t1_1 w =>
 RunV Try.prog (Instr.makeFunc (Go.Fn.func 74) #[] #[t1_1]) w fun t3_2 w =>
 R t3_2 w
theorem sh27_calls {a0 : Value} {w : World} {R : Value → World → Prop} (h : sh27 a0 w R) : CallF Try.prog 27 #[a0] w R :=
  calls_of_denF (mk := false) (args := [a0]) (an := (.seq (.ops [1]) (.seq (.ops [2]) .leaf))) (c := Try.f27.body.getD .skip) hent Try.func27 rfl (Nat.le_of_ble_eq_true (by kernel_rfl))
    (Eq.mp (show sh27 a0 w R = denF Try.prog ent false Try.f27 (.seq (.ops [1]) (.seq (.ops [2]) .leaf)) (Try.f27.body.getD .skip) [a0] w R by kernel_rfl) h)

/-! ### 28: (*handbill/omap.Map[int, string]).All -/
def sh28 (a0 : Value) (w : World) (R : Value → World → Prop) : Prop :=
 RunV Try.prog (Instr.box 41 a0) w fun t1_1 w =>
 RunV Try.prog (Instr.makeFunc (Go.Fn.func 75) #[] #[t1_1]) w fun t3_2 w =>
 R t3_2 w
theorem sh28_calls {a0 : Value} {w : World} {R : Value → World → Prop} (h : sh28 a0 w R) : CallF Try.prog 28 #[a0] w R :=
  calls_of_denF (mk := false) (args := [a0]) (an := (.seq (.ops [1]) (.seq (.ops [2]) .leaf))) (c := Try.f28.body.getD .skip) hent Try.func28 rfl (Nat.le_of_ble_eq_true (by kernel_rfl))
    (Eq.mp (show sh28 a0 w R = denF Try.prog ent false Try.f28 (.seq (.ops [1]) (.seq (.ops [2]) .leaf)) (Try.f28.body.getD .skip) [a0] w R by kernel_rfl) h)

/-! ### 29: (*handbill/omap.Map[int, string]).Range -/
def sh29 (a0 a1 a2 : Value) (w : World) (R : Value → World → Prop) : Prop :=
 RunV Try.prog (Instr.box 41 a0) w fun t3_1 w =>
 RunV Try.prog (Instr.box 3 a1) w fun t4_2 w =>
 RunV Try.prog (Instr.box 3 a2) w fun t5_3 w =>
 RunV Try.prog (Instr.makeFunc (Go.Fn.func 77) #[] #[t3_1, t4_2, t5_3]) w fun t7_4 w =>
 R t7_4 w
theorem sh29_calls {a0 a1 a2 : Value} {w : World} {R : Value → World → Prop} (h : sh29 a0 a1 a2 w R) : CallF Try.prog 29 #[a0, a1, a2] w R :=
  calls_of_denF (mk := false) (args := [a0, a1, a2]) (an := (.seq (.ops [3, 4, 5]) (.seq (.ops [6]) .leaf))) (c := Try.f29.body.getD .skip) hent Try.func29 rfl (Nat.le_of_ble_eq_true (by kernel_rfl))
    (Eq.mp (show sh29 a0 a1 a2 w R = denF Try.prog ent false Try.f29 (.seq (.ops [3, 4, 5]) (.seq (.ops [6]) .leaf)) (Try.f29.body.getD .skip) [a0, a1, a2] w R by kernel_rfl) h)

/-! ### 30: (*handbill/omap.Map[int, string]).Len -/
def sh30 (a0 : Value) (w : World) (R : Value → World → Prop) : Prop :=
 RunA Try.prog (nilV a0) fun t4_1 =>
 RunA Try.prog (Instr.fieldAt 121 t4_1 0) fun t5_2 =>
 RunW Try.prog (Instr.loadAt 119 t5_2) w fun t6_3 =>
 RunW Try.prog (Builtin.len_ #[119] 3 #[t6_3]) w fun t7_4 =>
 R t7_4 w
theorem sh30_calls {a0 : Value} {w : World} {R : Value → World → Prop} (h : sh30 a0 w R) : CallF Try.prog 30 #[a0] w R :=
  calls_of_denF (mk := false) (args := [a0]) (an := (.seq (.ops [0]) (.seq (.ops [2]) .leaf))) (c := Try.f30.body.getD .skip) hent Try.func30 rfl (Nat.le_of_ble_eq_true (by kernel_rfl))
    (Eq.mp (show sh30 a0 w R = denF Try.prog ent false Try.f30 (.seq (.ops [0]) (.seq (.ops [2]) .leaf)) (Try.f30.body.getD .skip) [a0] w R by kernel_rfl) h)

/-! ### 31: handbill/hblref.Ints -/
def sh31 (a0 a1 : Value) (w : World) (R : Value → World → Prop) : Prop :=
 RunW Try.prog (Builtin.len_ #[46] 3 #[a0]) w fun t7_1 =>
 RunW Try.prog (Builtin.len_ #[46] 3 #[a1]) w fun t9_2 =>
 RunW Try.prog (bin .neq 3 (.tmp 7) (.tmp 9) t7_1 t9_2) w fun t10_3 =>
 IfB t10_3 (
 R (.bool false) w) (
 lp 1 (fun n_5 t5_4 w =>
 RunW Try.prog (Builtin.len_ #[46] 3 #[a0]) w fun t13_6 =>
 RunA Try.prog (bin .lss 3 (.tmp 11) (.tmp 13) t5_4 t13_6) fun t14_7 =>
 IfB t14_7 (
 drw (fun S_8 w =>
 RunA Try.prog (Instr.indexAt 46 a0 t5_4) fun t19_9 =>
 RunS Try.prog S_8 (Instr.loadAt 3 t19_9) fun t20_10 =>
 RunA Try.prog (Instr.indexAt 46 a1 t5_4) fun t23_11 =>
 RunS Try.prog S_8 (Instr.loadAt 3 t23_11) fun t24_12 =>
 RunS Try.prog S_8 (bin .neq 3 (.tmp 20) (.tmp 24) t20_10 t24_12) fun t25_13 =>
 IfB t25_13 (
 R (.bool false) w) (
 RunA Try.prog (bin .add 3 (.tmp 15) (.const (.int .i64 1)) t5_4 (.int .i64 1)) fun t16_14 =>
 (a0 : Value) = a0 ∧ ((a1 : Value) = a1 ∧ (n_5 t16_14 w)))) w) (
 R (.bool true) w)) [(.int .i64 0)] w)
theorem sh31_calls {a0 a1 : Value} {w : World} {R : Value → World → Prop} (h : sh31 a0 a1 w R) : CallF Try.prog 31 #[a0, a1] w R :=
  calls_of_denF (mk := false) (args := [a0, a1]) (an := (.seq (.ops [0, 1]) (.seq (.seq (.ops [0, 1, 10]) (.cond (.seq (.ops [4]) .leaf) .leaf)) (.seq (.seq (.ops [0, 1, 5]) (.blk (.loop [0, 1] [5] (.seq (.seq (.ops [0, 1, 5, 14]) (.cond .leaf .leaf)) (.seq (.blk (.seq (.draw (.q 0 (.q 1 (.q 2 (.q 3 (.q 4 (.q 5 (.q 6 (.q 7 (.q 8 .fin))))))))) [0, 1, 5, 25]) (.cond (.seq (.ops [4]) .leaf) .leaf))) (.ops [0, 1, 5])))))) (.seq (.ops [4]) .leaf))))) (c := Try.f31.body.getD .skip) hent Try.func31 rfl (Nat.le_of_ble_eq_true (by kernel_rfl))
    (Eq.mp (show sh31 a0 a1 w R = denF Try.prog ent false Try.f31 (.seq (.ops [0, 1]) (.seq (.seq (.ops [0, 1, 10]) (.cond (.seq (.ops [4]) .leaf) .leaf)) (.seq (.seq (.ops [0, 1, 5]) (.blk (.loop [0, 1] [5] (.seq (.seq (.ops [0, 1, 5, 14]) (.cond .leaf .leaf)) (.seq (.blk (.seq (.draw (.q 0 (.q 1 (.q 2 (.q 3 (.q 4 (.q 5 (.q 6 (.q 7 (.q 8 .fin))))))))) [0, 1, 5, 25]) (.cond (.seq (.ops [4]) .leaf) .leaf))) (.ops [0, 1, 5])))))) (.seq (.ops [4]) .leaf)))) (Try.f31.body.getD .skip) [a0, a1] w R by kernel_rfl) h)

/-! ### 32: (*handbill/hbllaw2.rows).put -/
def sh32 (a0 a1 a2 : Value) (w : World) (R : Value → World → Prop) : Prop :=
 CallF Try.prog 49 #[a0, a1] w fun t12_1 w =>
 RunA Try.prog (Instr.extract t12_1 0) fun t13_2 =>
 RunA Try.prog (Instr.extract t12_1 1) fun t14_3 =>
 IfB t14_3 (
 RunA Try.prog (nilV a0) fun t17_4 =>
 RunA Try.prog (Instr.fieldAt 60 t17_4 0) fun t18_5 =>
 RunW Try.prog (Instr.loadAt 58 t18_5) w fun t19_6 =>
 RunA Try.prog (Instr.indexAt 58 t19_6 t13_2) fun t22_7 =>
 RunA Try.prog (Instr.fieldAt 80 t22_7 1) fun t23_8 =>
 RunU Try.prog (Instr.storeAt 9 t23_8 a2) w fun w =>
 R (.bool false) w) (
 drw (fun S_9 w =>
 RunA Try.prog (nilV a0) fun t26_10 =>
 RunA Try.prog (Instr.fieldAt 60 t26_10 0) fun t27_11 =>
 RunS Try.prog S_9 (Instr.loadAt 58 t27_11) fun t28_12 =>
 RunA Try.prog (Instr.sliceAt 58 t28_12 none (some t13_2) none) fun t30_13 =>
 RunA Try.prog (nilV a0) fun t36_14 =>
 RunA Try.prog (Instr.fieldAt 60 t36_14 0) fun t37_15 =>
 RunS Try.prog S_9 (Instr.loadAt 58 t37_15) fun t38_16 =>
 RunA Try.prog (Instr.sliceAt 58 t38_16 (some t13_2) none none) fun t40_17 =>
 RunV Try.prog (Instr.build 80 #[(0, a1), (1, a2)]) w fun t33_18 w =>
 S_9 w ∧ (
 RunV Try.prog (Instr.buildSlice 58 1 #[(0, t33_18)]) w fun t34_19 w =>
 S_9 w ∧ (
 RunV Try.prog (Builtin.append_ #[58, 58] 58 #[t34_19, t40_17]) w fun t41_20 w =>
 S_9 w ∧ (
 RunV Try.prog (Builtin.append_ #[58, 58] 58 #[t30_13, t41_20]) w fun t42_21 w =>
 RunA Try.prog (nilV a0) fun t43_22 =>
 RunA Try.prog (Instr.fieldAt 60 t43_22 0) fun t44_23 =>
 RunU Try.prog (Instr.storeAt 58 t44_23 t42_21) w fun w =>
 R (.bool true) w)))) w)
theorem sh32_calls {a0 a1 a2 : Value} {w : World} {R : Value → World → Prop} (h : sh32 a0 a1 a2 w R) : CallF Try.prog 32 #[a0, a1, a2] w R :=
  calls_of_denF (mk := false) (args := [a0, a1, a2]) (an := (.seq (.ops [0, 1, 2]) (.seq (.ops [0, 1, 2, 7, 8]) (.seq (.seq (.ops [0, 1, 2, 7, 15]) (.cond (.seq (.ops []) (.seq (.ops [6]) .leaf)) .leaf)) (.seq (.draw (.q 0 (.q 1 (.q 2 (.q 3 (.q 4 (.q 5 (.q 6 (.q 7 (.q 8 (.q 11 (.q 12 (.q 13 (.q 14 (.q 15 (.q 16 (.one 9 (.one 10 (.one 17 (.one 18 (.q 19 (.q 20 (.one 21 .fin)))))))))))))))))))))) []) (.seq (.ops [6]) .leaf)))))) (c := Try.f32.body.getD .skip) hent Try.func32 rfl (Nat.le_of_ble_eq_true (by kernel_rfl))
    (Eq.mp (show sh32 a0 a1 a2 w R = denF Try.prog ent false Try.f32 (.seq (.ops [0, 1, 2]) (.seq (.ops [0, 1, 2, 7, 8]) (.seq (.seq (.ops [0, 1, 2, 7, 15]) (.cond (.seq (.ops []) (.seq (.ops [6]) .leaf)) .leaf)) (.seq (.draw (.q 0 (.q 1 (.q 2 (.q 3 (.q 4 (.q 5 (.q 6 (.q 7 (.q 8 (.q 11 (.q 12 (.q 13 (.q 14 (.q 15 (.q 16 (.one 9 (.one 10 (.one 17 (.one 18 (.q 19 (.q 20 (.one 21 .fin)))))))))))))))))))))) []) (.seq (.ops [6]) .leaf))))) (Try.f32.body.getD .skip) [a0, a1, a2] w R by kernel_rfl) h)

/-! ### 33: handbill/omap.Merge[int,string] -/
def sh33 (a0 a1 : Value) (w : World) (R : Value → World → Prop) : Prop :=
 RunV Try.prog (Instr.box 52 a0) w fun t2_1 w =>
 RunV Try.prog (Instr.box 52 a1) w fun t3_2 w =>
 RunV Try.prog (Instr.makeFunc (Go.Fn.func 78) #[] #[t2_1, t3_2]) w fun t5_3 w =>
 R t5_3 w
theorem sh33_calls {a0 a1 : Value} {w : World} {R : Value → World → Prop} (h : sh33 a0 a1 w R) : CallF Try.prog 33 #[a0, a1] w R :=
  calls_of_denF (mk := false) (args := [a0, a1]) (an := (.seq (.ops [2, 3]) (.seq (.ops [4]) .leaf))) (c := Try.f33.body.getD .skip) hent Try.func33 rfl (Nat.le_of_ble_eq_true (by kernel_rfl))
    (Eq.mp (show sh33 a0 a1 w R = denF Try.prog ent false Try.f33 (.seq (.ops [2, 3]) (.seq (.ops [4]) .leaf)) (Try.f33.body.getD .skip) [a0, a1] w R by kernel_rfl) h)

/-! ### 34: (*handbill/hbllaw2.rows).from -/
def sh34 (a0 a1 a2 a3 : Value) (w : World) (R : Value → World → Prop) : Prop :=
 lp 3 (fun n_4 t10_1 t11_2 t12_3 w =>
 RunA Try.prog (nilV a0) fun t15_5 =>
 RunA Try.prog (Instr.fieldAt 60 t15_5 0) fun t16_6 =>
 RunW Try.prog (Instr.loadAt 58 t16_6) w fun t17_7 =>
 RunW Try.prog (Builtin.len_ #[58] 3 #[t17_7]) w fun t18_8 =>
 RunA Try.prog (bin .lss 3 (.tmp 13) (.tmp 18) t12_3 t18_8) fun t19_9 =>
 IfB t19_9 (
 jn 7 (fun t0_10 t1_11 t2_12 t3_13 t10_14 t11_15 t12_16 w =>
 RunA Try.prog (bin .add 3 (.tmp 20) (.const (.int .i64 1)) t12_16 (.int .i64 1)) fun t21_18 =>
 (t0_10 : Value) = a0 ∧ ((t1_11 : Value) = a1 ∧ ((t2_12 : Value) = a2 ∧ ((t3_13 : Value) = a3 ∧ (n_4 t10_14 t11_15 t21_18 w))))) fun j_17 =>
 IfB a3 (
 jn 7 (fun t0_19 t1_20 t2_21 t3_22 t10_23 t11_24 t12_25 w =>
 j_17 t0_19 t1_20 t2_21 t3_22 t10_23 t11_24 t12_25 w) fun j_26 =>
 drw (fun S_27 w =>
 RunA Try.prog (nilV a0) fun t49_28 =>
 RunA Try.prog (Instr.fieldAt 60 t49_28 0) fun t50_29 =>
 RunS Try.prog S_27 (Instr.loadAt 58 t50_29) fun t51_30 =>
 RunA Try.prog (Instr.indexAt 58 t51_30 t12_3) fun t53_31 =>
 RunA Try.prog (Instr.fieldAt 80 t53_31 0) fun t54_32 =>
 RunS Try.prog S_27 (Instr.loadAt 3 t54_32) fun t55_33 =>
 RunA Try.prog (nilV a0) fun t60_34 =>
 RunA Try.prog (Instr.fieldAt 60 t60_34 0) fun t61_35 =>
 RunS Try.prog S_27 (Instr.loadAt 58 t61_35) fun t62_36 =>
 RunA Try.prog (Instr.indexAt 58 t62_36 t12_3) fun t64_37 =>
 RunA Try.prog (Instr.fieldAt 80 t64_37 1) fun t65_38 =>
 RunS Try.prog S_27 (Instr.loadAt 9 t65_38) fun t66_39 =>
 (RunV Try.prog (Instr.buildSlice 46 1 #[(0, t55_33)]) w fun t56_40 w =>
 S_27 w ∧ (
 (RunV Try.prog (Builtin.append_ #[46, 46] 46 #[t10_1, t56_40]) w fun t57_41 w =>
 S_27 w ∧ (
 RunV Try.prog (Instr.buildSlice 22 1 #[(0, t66_39)]) w fun t67_42 w =>
 RunV Try.prog (Builtin.append_ #[22, 22] 22 #[t11_2, t67_42]) w fun t68_43 w =>
 j_26 a0 a1 a2 a3 t57_41 t68_43 t12_3 w)) ∧ (
 (RunV Try.prog (Instr.buildSlice 22 1 #[(0, t66_39)]) w fun t67_44 w =>
 RunV Try.prog (Builtin.append_ #[46, 46] 46 #[t10_1, t56_40]) w fun t57_45 w =>
 RunV Try.prog (Builtin.append_ #[22, 22] 22 #[t11_2, t67_44]) w fun t68_46 w =>
 j_26 a0 a1 a2 a3 t57_45 t68_46 t12_3 w) ∧ (
 True)))) ∧ (
 (RunV Try.prog (Instr.buildSlice 22 1 #[(0, t66_39)]) w fun t67_47 w =>
 S_27 w ∧ (
 RunV Try.prog (Instr.buildSlice 46 1 #[(0, t55_33)]) w fun t56_48 w =>
 RunV Try.prog (Builtin.append_ #[46, 46] 46 #[t10_1, t56_48]) w fun t57_49 w =>
 RunV Try.prog (Builtin.append_ #[22, 22] 22 #[t11_2, t67_47]) w fun t68_50 w =>
 j_26 a0 a1 a2 a3 t57_49 t68_50 t12_3 w)) ∧ (
 True))) w) (
 RunA Try.prog (nilV a0) fun t25_51 =>
 RunA Try.prog (Instr.fieldAt 60 t25_51 0) fun t26_52 =>
 RunW Try.prog (Instr.loadAt 58 t26_52) w fun t27_53 =>
 RunA Try.prog (Instr.indexAt 58 t27_53 t12_3) fun t29_54 =>
 RunA Try.prog (Instr.fieldAt 80 t29_54 0) fun t30_55 =>
 RunW Try.prog (Instr.loadAt 3 t30_55) w fun t31_56 =>
 RunA Try.prog (bin .geq 3 (.tmp 31) (.tmp 32) t31_56 a1) fun t33_57 =>
 IfB t33_57 (
 RunA Try.prog (nilV a0) fun t36_58 =>
 RunA Try.prog (Instr.fieldAt 60 t36_58 0) fun t37_59 =>
 RunW Try.prog (Instr.loadAt 58 t37_59) w fun t38_60 =>
 RunA Try.prog (Instr.indexAt 58 t38_60 t12_3) fun t40_61 =>
 RunA Try.prog (Instr.fieldAt 80 t40_61 0) fun t41_62 =>
 RunW Try.prog (Instr.loadAt 3 t41_62) w fun t42_63 =>
 RunA Try.prog (bin .lss 3 (.tmp 42) (.tmp 43) t42_63 a2) fun t44_64 =>
 IfB t44_64 (
 jn 7 (fun t0_65 t1_66 t2_67 t3_68 t10_69 t11_70 t12_71 w =>
 j_17 t0_65 t1_66 t2_67 t3_68 t10_69 t11_70 t12_71 w) fun j_72 =>
 drw (fun S_73 w =>
 RunA Try.prog (nilV a0) fun t49_74 =>
 RunA Try.prog (Instr.fieldAt 60 t49_74 0) fun t50_75 =>
 RunS Try.prog S_73 (Instr.loadAt 58 t50_75) fun t51_76 =>
 RunA Try.prog (Instr.indexAt 58 t51_76 t12_3) fun t53_77 =>
 RunA Try.prog (Instr.fieldAt 80 t53_77 0) fun t54_78 =>
 RunS Try.prog S_73 (Instr.loadAt 3 t54_78) fun t55_79 =>
 RunA Try.prog (nilV a0) fun t60_80 =>
 RunA Try.prog (Instr.fieldAt 60 t60_80 0) fun t61_81 =>
 RunS Try.prog S_73 (Instr.loadAt 58 t61_81) fun t62_82 =>
 RunA Try.prog (Instr.indexAt 58 t62_82 t12_3) fun t64_83 =>
 RunA Try.prog (Instr.fieldAt 80 t64_83 1) fun t65_84 =>
 RunS Try.prog S_73 (Instr.loadAt 9 t65_84) fun t66_85 =>
 (RunV Try.prog (Instr.buildSlice 46 1 #[(0, t55_79)]) w fun t56_86 w =>
 S_73 w ∧ (
 (RunV Try.prog (Builtin.append_ #[46, 46] 46 #[t10_1, t56_86]) w fun t57_87 w =>
 S_73 w ∧ (
 RunV Try.prog (Instr.buildSlice 22 1 #[(0, t66_85)]) w fun t67_88 w =>
 RunV Try.prog (Builtin.append_ #[22, 22] 22 #[t11_2, t67_88]) w fun t68_89 w =>
 j_72 a0 a1 a2 a3 t57_87 t68_89 t12_3 w)) ∧ (
 (RunV Try.prog (Instr.buildSlice 22 1 #[(0, t66_85)]) w fun t67_90 w =>
 RunV Try.prog (Builtin.append_ #[46, 46] 46 #[t10_1, t56_86]) w fun t57_91 w =>
 RunV Try.prog (Builtin.append_ #[22, 22] 22 #[t11_2, t67_90]) w fun t68_92 w =>
 j_72 a0 a1 a2 a3 t57_91 t68_92 t12_3 w) ∧ (
 True)))) ∧ (
 (RunV Try.prog (Instr.buildSlice 22 1 #[(0, t66_85)]) w fun t67_93 w =>
 S_73 w ∧ (
 RunV Try.prog (Instr.buildSlice 46 1 #[(0, t55_79)]) w fun t56_94 w =>
 RunV Try.prog (Builtin.append_ #[46, 46] 46 #[t10_1, t56_94]) w fun t57_95 w =>
 RunV Try.prog (Builtin.append_ #[22, 22] 22 #[t11_2, t67_93]) w fun t68_96 w =>
 j_72 a0 a1 a2 a3 t57_95 t68_96 t12_3 w)) ∧ (
 True))) w) (
 j_17 a0 a1 a2 a3 t10_1 t11_2 t12_3 w)) (
 j_17 a0 a1 a2 a3 t10_1 t11_2 t12_3 w))) (
 R (.tuple #[t10_1, t11_2]) w)) [(.slice none 0 0), (.slice none 0 0), (.int .i64 0)] w
theorem sh34_calls {a0 a1 a2 a3 : Value} {w : World} {R : Value → World → Prop} (h : sh34 a0 a1 a2 a3 w R) : CallF Try.prog 34 #[a0, a1, a2, a3] w R :=
  calls_of_denF (mk := false) (args := [a0, a1, a2, a3]) (an := (.seq (.ops [0, 1, 2, 3]) (.seq (.ops [0, 1, 2, 3, 10]) (.seq (.ops [0, 1, 2, 3, 10, 11]) (.seq (.seq (.ops [0, 1, 2, 3, 10, 11, 12]) (.blk (.loop [0, 1, 2, 3] [10, 11, 12] (.seq (.seq (.ops [0, 1, 2, 3, 10, 11, 12, 19]) (.cond .leaf .leaf)) (.seq (.blk (.join [0, 1, 2, 3, 10, 11, 12] (.seq (.ops [0, 1, 2, 3, 10, 11, 12, 46]) (.cond (.join [0, 1, 2, 3, 10, 11, 12] (.draw (.q 0 (.q 1 (.q 2 (.q 3 (.q 4 (.q 5 (.q 6 (.q 7 (.q 8 (.q 11 (.q 12 (.q 13 (.q 14 (.q 15 (.q 16 (.q 17 (.q 18 (.q 19 (.alt 9 (.alt 10 (.one 20 (.one 21 (.q 22 (.q 23 .fin)))) (.alt 20 (.one 10 (.one 21 (.q 22 (.q 23 .fin)))) .fin)) (.alt 20 (.one 9 (.one 10 (.one 21 (.q 22 (.q 23 .fin))))) .fin)))))))))))))))))))) [0, 1, 2, 3, 10, 11, 12])) .leaf)))) (.ops [0, 1, 2, 3, 10, 11, 12])))))) (.seq (.ops [8, 9]) .leaf)))))) (c := Try.f34.body.getD .skip) hent Try.func34 rfl (Nat.le_of_ble_eq_true (by kernel_rfl))
    (Eq.mp (show sh34 a0 a1 a2 a3 w R = denF Try.prog ent false Try.f34 (.seq (.ops [0, 1, 2, 3]) (.seq (.ops [0, 1, 2, 3, 10]) (.seq (.ops [0, 1, 2, 3, 10, 11]) (.seq (.seq (.ops [0, 1, 2, 3, 10, 11, 12]) (.blk (.loop [0, 1, 2, 3] [10, 11, 12] (.seq (.seq (.ops [0, 1, 2, 3, 10, 11, 12, 19]) (.cond .leaf .leaf)) (.seq (.blk (.join [0, 1, 2, 3, 10, 11, 12] (.seq (.ops [0, 1, 2, 3, 10, 11, 12, 46]) (.cond (.join [0, 1, 2, 3, 10, 11, 12] (.draw (.q 0 (.q 1 (.q 2 (.q 3 (.q 4 (.q 5 (.q 6 (.q 7 (.q 8 (.q 11 (.q 12 (.q 13 (.q 14 (.q 15 (.q 16 (.q 17 (.q 18 (.q 19 (.alt 9 (.alt 10 (.one 20 (.one 21 (.q 22 (.q 23 .fin)))) (.alt 20 (.one 10 (.one 21 (.q 22 (.q 23 .fin)))) .fin)) (.alt 20 (.one 9 (.one 10 (.one 21 (.q 22 (.q 23 .fin))))) .fin)))))))))))))))))))) [0, 1, 2, 3, 10, 11, 12])) .leaf)))) (.ops [0, 1, 2, 3, 10, 11, 12])))))) (.seq (.ops [8, 9]) .leaf))))) (Try.f34.body.getD .skip) [a0, a1, a2, a3] w R by kernel_rfl) h)

/-! ### 35: handbill/hbllaw2.pairs -/
def sh35 (a0 a1 : Value) (w : World) (R : Value → World → Prop) : Prop :=
 RunV Try.prog (Instr.box 3 a1) w fun t3_1 w =>
 RunV Try.prog (Instr.alloc 46 true (.tuple #[])) w fun t6_2 w =>
 RunV Try.prog (Instr.alloc 22 true (.tuple #[])) w fun t7_3 w =>
 RunW Try.prog (bin .eql 52 (.tmp 10) (.const (.nilFunc)) a0 (.nilFunc)) w fun t11_4 =>
 IfB t11_4 (
 R (.tuple #[(.slice none 0 0), (.slice none 0 0)]) w) (
 RunW Try.prog (Instr.loadAt 3 t3_1) w fun t13_5 =>
 RunA Try.prog (bin .lss 3 (.tmp 13) (.const (.int .i64 1)) t13_5 (.int .i64 1)) fun t14_6 =>
 IfB t14_6 (
 R (.tuple #[(.slice none 0 0), (.slice none 0 0)]) w) (
 rngP Try.prog none 2 5 (fun l_7 K_8 t17_14 t18_15 w =>
 K_8 t3_1 t6_2 t7_3 t17_14 t18_15 w) (fun l_7 kn_9 ks_10 t3_16 t6_17 t7_18 t8_19 t9_20 w =>
 jn 2 (fun t3_21 t6_22 w =>
 RunW Try.prog (Instr.loadAt 46 t6_22) w fun t27_24 =>
 RunW Try.prog (Builtin.len_ #[46] 3 #[t27_24]) w fun t28_25 =>
 RunW Try.prog (Instr.loadAt 3 t3_21) w fun t29_26 =>
 RunW Try.prog (bin .eql 3 (.tmp 28) (.tmp 29) t28_25 t29_26) w fun t30_27 =>
 IfB t30_27 (
 ks_10 (.exit 0) w) (
 kn_9 w)) fun j_23 =>
 drw (fun S_28 w =>
 RunS Try.prog S_28 (Instr.loadAt 46 t6_17) fun t19_29 =>
 RunS Try.prog S_28 (Instr.loadAt 22 t7_18) fun t23_30 =>
 (RunV Try.prog (Instr.buildSlice 46 1 #[(0, t8_19)]) w fun t21_31 w =>
 S_28 w ∧ (
 (RunV Try.prog (Builtin.append_ #[46, 46] 46 #[t19_29, t21_31]) w fun t22_32 w =>
 S_28 w ∧ (
 RunV Try.prog (Instr.buildSlice 22 1 #[(0, t9_20)]) w fun t25_33 w =>
 S_28 w ∧ (
 RunV Try.prog (Builtin.append_ #[22, 22] 22 #[t23_30, t25_33]) w fun t26_34 w =>
 RunU Try.prog (Instr.storeAt 46 t6_17 t22_32) w fun w =>
 RunU Try.prog (Instr.storeAt 22 t7_18 t26_34) w fun w =>
 j_23 t3_16 t6_17 w))) ∧ (
 (RunV Try.prog (Instr.buildSlice 22 1 #[(0, t9_20)]) w fun t25_35 w =>
 S_28 w ∧ (
 RunV Try.prog (Builtin.append_ #[46, 46] 46 #[t19_29, t21_31]) w fun t22_36 w =>
 S_28 w ∧ (
 RunV Try.prog (Builtin.append_ #[22, 22] 22 #[t23_30, t25_35]) w fun t26_37 w =>
 RunU Try.prog (Instr.storeAt 46 t6_17 t22_36) w fun w =>
 RunU Try.prog (Instr.storeAt 22 t7_18 t26_37) w fun w =>
 j_23 t3_16 t6_17 w))) ∧ (
 True)))) ∧ (
 (RunV Try.prog (Instr.buildSlice 22 1 #[(0, t9_20)]) w fun t25_38 w =>
 S_28 w ∧ (
 RunV Try.prog (Instr.buildSlice 46 1 #[(0, t8_19)]) w fun t21_39 w =>
 S_28 w ∧ (
 RunV Try.prog (Builtin.append_ #[46, 46] 46 #[t19_29, t21_39]) w fun t22_40 w =>
 S_28 w ∧ (
 RunV Try.prog (Builtin.append_ #[22, 22] 22 #[t23_30, t25_38]) w fun t26_41 w =>
 RunU Try.prog (Instr.storeAt 46 t6_17 t22_40) w fun w =>
 RunU Try.prog (Instr.storeAt 22 t7_18 t26_41) w fun w =>
 j_23 t3_16 t6_17 w)))) ∧ (
 True))) w) a0 w (fun D_11 w =>
 drw (fun S_42 w =>
 RunS Try.prog S_42 (Instr.loadAt 46 t6_2) fun t31_43 =>
 RunS Try.prog S_42 (Instr.loadAt 22 t7_3) fun t32_44 =>
 (w).heap[D_11]? = some (.deferred (some [])) ∧ (
 R (.tuple #[t31_43, t32_44]) (w.putObj D_11 (.deferred none)))) w) (fun D_11 c_12 w => jumpK (fun i_13 w =>
 bif Nat.beq i_13 0 then (
 drw (fun S_45 w =>
 RunS Try.prog S_45 (Instr.loadAt 46 t6_2) fun t31_46 =>
 RunS Try.prog S_45 (Instr.loadAt 22 t7_3) fun t32_47 =>
 (w).heap[D_11]? = some (.deferred (some [])) ∧ (
 R (.tuple #[t31_46, t32_47]) (w.putObj D_11 (.deferred none)))) w) else (
 False)) (fun w =>
 (w).heap[D_11]? = some (.deferred (some [])) ∧ (
 False)) c_12 w)))
theorem sh35_calls {a0 a1 : Value} {w : World} {R : Value → World → Prop} (h : sh35 a0 a1 w R) : CallF Try.prog 35 #[a0, a1] w R :=
  calls_of_denF (mk := true) (args := [a0, a1]) (an := (.seq (.ops [0, 3]) (.seq (.ops [0, 3, 6]) (.seq (.ops [0, 3, 6, 7]) (.seq (.seq (.ops [0, 3, 6, 7, 15]) (.cond (.seq (.ops [4, 5]) .leaf) .leaf)) (.seq (.seq (.ops [3, 6, 7, 16]) (.blk (.rng [3, 6, 7, 8, 9] (.seq (.ops [3, 6, 7, 8, 18]) (.ops [3, 6, 7, 8, 9])) (.blk (.seq (.join [3, 6] (.draw (.q 0 (.q 1 (.q 4 (.q 5 (.alt 2 (.alt 3 (.one 6 (.one 7 (.one 8 (.one 9 .fin)))) (.alt 6 (.one 3 (.one 7 (.one 8 (.one 9 .fin)))) .fin)) (.alt 6 (.one 2 (.one 3 (.one 7 (.one 8 (.one 9 .fin))))) .fin)))))) [3, 6])) (.seq (.ops [30]) (.cond .leaf .leaf))))))) (.seq (.draw (.q 0 (.q 1 (.q 2 (.q 3 .fin)))) [4, 5]) .leaf))))))) (c := Try.f35.body.getD .skip) hent Try.func35 rfl (Nat.le_of_ble_eq_true (by kernel_rfl))
    (Eq.mp (show sh35 a0 a1 w R = denF Try.prog ent true Try.f35 (.seq (.ops [0, 3]) (.seq (.ops [0, 3, 6]) (.seq (.ops [0, 3, 6, 7]) (.seq (.seq (.ops [0, 3, 6, 7, 15]) (.cond (.seq (.ops [4, 5]) .leaf) .leaf)) (.seq (.seq (.ops [3, 6, 7, 16]) (.blk (.rng [3, 6, 7, 8, 9] (.seq (.ops [3, 6, 7, 8, 18]) (.ops [3, 6, 7, 8, 9])) (.blk (.seq (.join [3, 6] (.draw (.q 0 (.q 1 (.q 4 (.q 5 (.alt 2 (.alt 3 (.one 6 (.one 7 (.one 8 (.one 9 .fin)))) (.alt 6 (.one 3 (.one 7 (.one 8 (.one 9 .fin)))) .fin)) (.alt 6 (.one 2 (.one 3 (.one 7 (.one 8 (.one 9 .fin))))) .fin)))))) [3, 6])) (.seq (.ops [30]) (.cond .leaf .leaf))))))) (.seq (.draw (.q 0 (.q 1 (.q 2 (.q 3 .fin)))) [4, 5]) .leaf)))))) (Try.f35.body.getD .skip) [a0, a1] w R by kernel_rfl) h)

/-! ### 36: handbill/omap.New[int,[]int] -/
def sh36 (w : World) (R : Value → World → Prop) : Prop :=
 RunV Try.prog (Instr.build 129 #[]) w fun t1_1 w =>
 RunV Try.prog (Instr.box 129 t1_1) w fun t2_2 w =>
 R t2_2 w
theorem sh36_calls {w : World} {R : Value → World → Prop} (h : sh36  w R) : CallF Try.prog 36 #[] w R :=
  calls_of_denF (mk := false) (args := []) (an := (.seq (.ops []) (.seq (.ops [0]) .leaf))) (c := Try.f36.body.getD .skip) hent Try.func36 rfl (Nat.le_of_ble_eq_true (by kernel_rfl))
    (Eq.mp (show sh36  w R = denF Try.prog ent false Try.f36 (.seq (.ops []) (.seq (.ops [0]) .leaf)) (Try.f36.body.getD .skip) [] w R by kernel_rfl) h)

/-! ### 37: (*handbill/omap.Map[int, []int]).Put -/
def sh37 (a0 a1 a2 : Value) (w : World) (R : Value → World → Prop) : Prop :=
 CallF Try.prog 80 #[a0, a1] w fun t12_1 w =>
 RunA Try.prog (Instr.extract t12_1 0) fun t13_2 =>
 RunA Try.prog (Instr.extract t12_1 1) fun t14_3 =>
 jn 1 (fun t8_4 w =>
 RunA Try.prog (Op.unary .not t8_4) fun t38_6 =>
 R t38_6 w) fun j_5 =>
 IfB t14_3 (
 RunA Try.prog (nilV a0) fun t17_7 =>
 RunA Try.prog (Instr.fieldAt 129 t17_7 0) fun t18_8 =>
 RunW Try.prog (Instr.loadAt 127 t18_8) w fun t19_9 =>
 RunA Try.prog (Instr.indexAt 127 t19_9 t13_2) fun t22_10 =>
 RunA Try.prog (Instr.fieldAt 131 t22_10 1) fun t23_11 =>
 RunU Try.prog (Instr.storeAt 46 t23_11 a2) w fun w =>
 j_5 t14_3 w) (
 RunA Try.prog (nilV a0) fun t26_12 =>
 RunA Try.prog (Instr.fieldAt 129 t26_12 0) fun t27_13 =>
 RunW Try.prog (Instr.loadAt 127 t27_13) w fun t28_14 =>
 RunV Try.prog (Instr.build 131 #[(0, a1), (1, a2)]) w fun t32_15 w =>
 RunV Try.prog (Instr.buildSlice 127 1 #[(0, t32_15)]) w fun t33_16 w =>
 CallF Try.prog 81 #[t28_14, t13_2, t33_16] w fun t34_17 w =>
 RunA Try.prog (nilV a0) fun t35_18 =>
 RunA Try.prog (Instr.fieldAt 129 t35_18 0) fun t36_19 =>
 RunU Try.prog (Instr.storeAt 127 t36_19 t34_17) w fun w =>
 j_5 t14_3 w)
theorem sh37_calls {a0 a1 a2 : Value} {w : World} {R : Value → World → Prop} (h : sh37 a0 a1 a2 w R) : CallF Try.prog 37 #[a0, a1, a2] w R :=
  calls_of_denF (mk := false) (args := [a0, a1, a2]) (an := (.seq (.ops [0, 1, 2]) (.seq (.ops [0, 1, 2, 7, 8]) (.seq (.join [8] (.seq (.ops [0, 1, 2, 7, 8, 15]) (.cond (.ops [8]) (.ops [8])))) (.seq (.ops [6]) .leaf))))) (c := Try.f37.body.getD .skip) hent Try.func37 rfl (Nat.le_of_ble_eq_true (by kernel_rfl))
    (Eq.mp (show sh37 a0 a1 a2 w R = denF Try.prog ent false Try.f37 (.seq (.ops [0, 1, 2]) (.seq (.ops [0, 1, 2, 7, 8]) (.seq (.join [8] (.seq (.ops [0, 1, 2, 7, 8, 15]) (.cond (.ops [8]) (.ops [8])))) (.seq (.ops [6]) .leaf)))) (Try.f37.body.getD .skip) [a0, a1, a2] w R by kernel_rfl) h)

/-! ### 38: (*handbill/omap.Map[int, []int]).Copy -/
def sh38 (a0 : Value) (w : World) (R : Value → World → Prop) : Prop :=
 RunA Try.prog (nilV a0) fun t4_1 =>
 RunA Try.prog (Instr.fieldAt 129 t4_1 0) fun t5_2 =>
 RunW Try.prog (Instr.loadAt 127 t5_2) w fun t6_3 =>
 CallF Try.prog 82 #[t6_3] w fun t7_4 w =>
 RunV Try.prog (Instr.build 129 #[(0, t7_4)]) w fun t8_5 w =>
 RunV Try.prog (Instr.box 129 t8_5) w fun t9_6 w =>
 R t9_6 w
theorem sh38_calls {a0 : Value} {w : World} {R : Value → World → Prop} (h : sh38 a0 w R) : CallF Try.prog 38 #[a0] w R :=
  calls_of_denF (mk := false) (args := [a0]) (an := (.seq (.ops [0]) (.seq (.ops [2]) .leaf))) (c := Try.f38.body.getD .skip) hent Try.func38 rfl (Nat.le_of_ble_eq_true (by kernel_rfl))
    (Eq.mp (show sh38 a0 w R = denF Try.prog ent false Try.f38 (.seq (.ops [0]) (.seq (.ops [2]) .leaf)) (Try.f38.body.getD .skip) [a0] w R by kernel_rfl) h)

/-! ### 39: (*handbill/omap.Map[int, []int]).Len -/
def sh39 (a0 : Value) (w : World) (R : Value → World → Prop) : Prop :=
 RunA Try.prog (nilV a0) fun t4_1 =>
 RunA Try.prog (Instr.fieldAt 129 t4_1 0) fun t5_2 =>
 RunW Try.prog (Instr.loadAt 127 t5_2) w fun t6_3 =>
 RunW Try.prog (Builtin.len_ #[127] 3 #[t6_3]) w fun t7_4 =>
 R t7_4 w
theorem sh39_calls {a0 : Value} {w : World} {R : Value → World → Prop} (h : sh39 a0 w R) : CallF Try.prog 39 #[a0] w R :=
  calls_of_denF (mk := false) (args := [a0]) (an := (.seq (.ops [0]) (.seq (.ops [2]) .leaf))) (c := Try.f39.body.getD .skip) hent Try.func39 rfl (Nat.le_of_ble_eq_true (by kernel_rfl))
    (Eq.mp (show sh39 a0 w R = denF Try.prog ent false Try.f39 (.seq (.ops [0]) (.seq (.ops [2]) .leaf)) (Try.f39.body.getD .skip) [a0] w R by kernel_rfl) h)

/-! ### 40: (*handbill/omap.Map[int, []int]).Get -/
def sh40 (a0 a1 : Value) (w : World) (R : Value → World → Prop) : Prop :=
 CallF Try.prog 80 #[a0, a1] w fun t12_1 w =>
 RunA Try.prog (Instr.extract t12_1 0) fun t13_2 =>
 RunA Try.prog (Instr.extract t12_1 1) fun t14_3 =>
 RunA Try.prog (Op.unary .not t14_3) fun t16_4 =>
 IfB t16_4 (
 R (.tuple #[(.slice none 0 0), (.bool false)]) w) (
 RunA Try.prog (nilV a0) fun t19_5 =>
 RunA Try.prog (Instr.fieldAt 129 t19_5 0) fun t20_6 =>
 RunW Try.prog (Instr.loadAt 127 t20_6) w fun t21_7 =>
 RunA Try.prog (Instr.indexAt 127 t21_7 t13_2) fun t23_8 =>
 RunA Try.prog (Instr.fieldAt 131 t23_8 1) fun t24_9 =>
 RunW Try.prog (Instr.loadAt 46 t24_9) w fun t25_10 =>
 R (.tuple #[t25_10, (.bool true)]) w)
theorem sh40_calls {a0 a1 : Value} {w : World} {R : Value → World → Prop} (h : sh40 a0 a1 w R) : CallF Try.prog 40 #[a0, a1] w R :=
  calls_of_denF (mk := false) (args := [a0, a1]) (an := (.seq (.ops [0, 1]) (.seq (.ops [0, 6, 7]) (.seq (.seq (.ops [0, 6, 16]) (.cond (.seq (.ops [8]) (.seq (.ops [4, 5]) .leaf)) .leaf)) (.seq (.ops [4, 5]) .leaf))))) (c := Try.f40.body.getD .skip) hent Try.func40 rfl (Nat.le_of_ble_eq_true (by kernel_rfl))
    (Eq.mp (show sh40 a0 a1 w R = denF Try.prog ent false Try.f40 (.seq (.ops [0, 1]) (.seq (.ops [0, 6, 7]) (.seq (.seq (.ops [0, 6, 16]) (.cond (.seq (.ops [8]) (.seq (.ops [4, 5]) .leaf)) .leaf)) (.seq (.ops [4, 5]) .leaf)))) (Try.f40.body.getD .skip) [a0, a1] w R by kernel_rfl) h)

/-! ### 41: (*handbill/omap.Map[int, []int]).Delete -/
def sh41 (a0 a1 : Value) (w : World) (R : Value → World → Prop) : Prop :=
 CallF Try.prog 80 #[a0, a1] w fun t10_1 w =>
 RunA Try.prog (Instr.extract t10_1 0) fun t11_2 =>
 RunA Try.prog (Instr.extract t10_1 1) fun t12_3 =>
 jn 1 (fun t6_4 w =>
 R t6_4 w) fun j_5 =>
 IfB t12_3 (
 RunA Try.prog (nilV a0) fun t16_6 =>
 RunA Try.prog (Instr.fieldAt 129 t16_6 0) fun t17_7 =>
 RunW Try.prog (Instr.loadAt 127 t17_7) w fun t18_8 =>
 RunA Try.prog (bin .add 3 (.tmp 20) (.const (.int .i64 1)) t11_2 (.int .i64 1)) fun t21_9 =>
 CallF Try.prog 83 #[t18_8, t11_2, t21_9] w fun t22_10 w =>
 RunA Try.prog (nilV a0) fun t23_11 =>
 RunA Try.prog (Instr.fieldAt 129 t23_11 0) fun t24_12 =>
 RunU Try.prog (Instr.storeAt 127 t24_12 t22_10) w fun w =>
 j_5 t12_3 w) (
 j_5 t12_3 w)
theorem sh41_calls {a0 a1 : Value} {w : World} {R : Value → World → Prop} (h : sh41 a0 a1 w R) : CallF Try.prog 41 #[a0, a1] w R :=
  calls_of_denF (mk := false) (args := [a0, a1]) (an := (.seq (.ops [0, 1]) (.seq (.ops [0, 5, 6]) (.seq (.join [6] (.seq (.ops [0, 5, 6, 13]) (.cond (.ops [6]) .leaf))) (.seq (.ops [4]) .leaf))))) (c := Try.f41.body.getD .skip) hent Try.func41 rfl (Nat.le_of_ble_eq_true (by kernel_rfl))
    (Eq.mp (show sh41 a0 a1 w R = denF Try.prog ent false Try.f41 (.seq (.ops [0, 1]) (.seq (.ops [0, 5, 6]) (.seq (.join [6] (.seq (.ops [0, 5, 6, 13]) (.cond (.ops [6]) .leaf))) (.seq (.ops [4]) .leaf)))) (Try.f41.body.getD .skip) [a0, a1] w R by kernel_rfl) h)

/-! ### 45: handbill/hbllaw2.meanwhile -/
def sh45 (a0 a1 : Value) (w : World) (R : Value → World → Prop) : Prop :=
 RunV Try.prog (Instr.box 41 a0) w fun t2_1 w =>
 RunV Try.prog (Instr.box 40 a1) w fun t3_2 w =>
 RunV Try.prog (Instr.alloc 46 true (.tuple #[])) w fun t5_3 w =>
 RunV Try.prog (Instr.alloc 3 true (.tuple #[])) w fun t6_4 w =>
 RunU Try.prog (Instr.storeAt 3 t6_4 (.int .i64 0)) w fun w =>
 RunW Try.prog (Instr.loadAt 41 t2_1) w fun t9_5 =>
 CallF Try.prog 28 #[t9_5] w fun t10_6 w =>
 RunW Try.prog (bin .eql 52 (.tmp 11) (.const (.nilFunc)) t10_6 (.nilFunc)) w fun t12_7 =>
 IfB t12_7 (
 R (.slice none 0 0) w) (
 rngP Try.prog none 2 5 (fun l_8 K_9 t14_15 t15_16 w =>
 K_9 t2_1 t3_2 t5_3 t6_4 t14_15 w) (fun l_8 kn_10 ks_11 t2_17 t3_18 t5_19 t6_20 t8_21 w =>
 RunW Try.prog (Instr.loadAt 46 t5_19) w fun t16_22 =>
 RunV Try.prog (Instr.buildSlice 46 1 #[(0, t8_21)]) w fun t18_23 w =>
 RunV Try.prog (Builtin.append_ #[46, 46] 46 #[t16_22, t18_23]) w fun t19_24 w =>
 RunU Try.prog (Instr.storeAt 46 t5_19 t19_24) w fun w =>
 jn 1 (fun t6_25 w =>
 RunW Try.prog (Instr.loadAt 3 t6_25) w fun t38_27 =>
 RunA Try.prog (bin .add 3 (.tmp 38) (.const (.int .i64 1)) t38_27 (.int .i64 1)) fun t39_28 =>
 RunU Try.prog (Instr.storeAt 3 t6_25 t39_28) w fun w =>
 kn_10 w) fun j_26 =>
 RunW Try.prog (Instr.loadAt 3 t6_20) w fun t20_29 =>
 RunW Try.prog (Instr.loadAt 40 t3_18) w fun t21_30 =>
 RunW Try.prog (Builtin.len_ #[40] 3 #[t21_30]) w fun t22_31 =>
 RunA Try.prog (bin .lss 3 (.tmp 20) (.tmp 22) t20_29 t22_31) fun t23_32 =>
 IfB t23_32 (
 drw (fun S_33 w =>
 RunS Try.prog S_33 (Instr.loadAt 41 t2_17) fun t24_34 =>
 RunS Try.prog S_33 (Instr.loadAt 40 t3_18) fun t25_35 =>
 RunS Try.prog S_33 (Instr.loadAt 3 t6_20) fun t26_36 =>
 RunA Try.prog (Instr.indexAt 40 t25_35 t26_36) fun t27_37 =>
 RunA Try.prog (Instr.fieldAt 45 t27_37 1) fun t28_38 =>
 RunS Try.prog S_33 (Instr.loadAt 3 t28_38) fun t29_39 =>
 CallF Try.prog 46 #[t24_34, t29_39] w fun t30_40 w =>
 drw (fun S_41 w =>
 RunS Try.prog S_41 (Instr.loadAt 41 t2_17) fun t31_42 =>
 RunS Try.prog S_41 (Instr.loadAt 40 t3_18) fun t32_43 =>
 RunS Try.prog S_41 (Instr.loadAt 3 t6_20) fun t33_44 =>
 RunA Try.prog (Instr.indexAt 40 t32_43 t33_44) fun t34_45 =>
 RunA Try.prog (Instr.fieldAt 45 t34_45 2) fun t35_46 =>
 RunS Try.prog S_41 (Instr.loadAt 3 t35_46) fun t36_47 =>
 CallF Try.prog 25 #[t31_42, t36_47, (.string ⟨#[120]⟩)] w fun t37_48 w =>
 j_26 t6_20 w) w) w) (
 j_26 t6_20 w)) t10_6 w (fun D_12 w =>
 RunW Try.prog (Instr.loadAt 46 t5_3) w fun t40_49 =>
 (w).heap[D_12]? = some (.deferred (some [])) ∧ (
 R t40_49 (w.putObj D_12 (.deferred none)))) (fun D_12 c_13 w => jumpK (fun i_14 w =>
 bif Nat.beq i_14 0 then (
 RunW Try.prog (Instr.loadAt 46 t5_3) w fun t40_50 =>
 (w).heap[D_12]? = some (.deferred (some [])) ∧ (
 R t40_50 (w.putObj D_12 (.deferred none)))) else (
 False)) (fun w =>
 (w).heap[D_12]? = some (.deferred (some [])) ∧ (
 False)) c_13 w))
theorem sh45_calls {a0 a1 : Value} {w : World} {R : Value → World → Prop} (h : sh45 a0 a1 w R) : CallF Try.prog 45 #[a0, a1] w R :=
  calls_of_denF (mk := true) (args := [a0, a1]) (an := (.seq (.ops [2, 3]) (.seq (.ops [2, 3, 5]) (.seq (.ops [2, 3, 5, 6]) (.seq (.ops [2, 3, 5, 6, 7]) (.seq (.seq (.ops [2, 3, 5, 6, 7, 12]) (.cond (.seq (.ops [4]) .leaf) .leaf)) (.seq (.seq (.ops [2, 3, 5, 6, 13]) (.blk (.rng [2, 3, 5, 6, 8] (.ops [2, 3, 5, 6, 8]) (.blk (.seq (.ops [2, 3, 6]) (.seq (.join [6] (.seq (.ops [2, 3, 6, 23]) (.cond (.seq (.draw (.q 0 (.q 1 (.q 2 (.q 3 (.q 4 (.q 5 (.one 6 .fin))))))) [2, 3, 6]) (.draw (.q 0 (.q 1 (.q 2 (.q 3 (.q 4 (.q 5 (.one 6 .fin))))))) [6])) .leaf))) (.ops []))))))) (.seq (.ops [4]) .leaf)))))))) (c := Try.f45.body.getD .skip) hent Try.func45 rfl (Nat.le_of_ble_eq_true (by kernel_rfl))
    (Eq.mp (show sh45 a0 a1 w R = denF Try.prog ent true Try.f45 (.seq (.ops [2, 3]) (.seq (.ops [2, 3, 5]) (.seq (.ops [2, 3, 5, 6]) (.seq (.ops [2, 3, 5, 6, 7]) (.seq (.seq (.ops [2, 3, 5, 6, 7, 12]) (.cond (.seq (.ops [4]) .leaf) .leaf)) (.seq (.seq (.ops [2, 3, 5, 6, 13]) (.blk (.rng [2, 3, 5, 6, 8] (.ops [2, 3, 5, 6, 8]) (.blk (.seq (.ops [2, 3, 6]) (.seq (.join [6] (.seq (.ops [2, 3, 6, 23]) (.cond (.seq (.draw (.q 0 (.q 1 (.q 2 (.q 3 (.q 4 (.q 5 (.one 6 .fin))))))) [2, 3, 6]) (.draw (.q 0 (.q 1 (.q 2 (.q 3 (.q 4 (.q 5 (.one 6 .fin))))))) [6])) .leaf))) (.ops []))))))) (.seq (.ops [4]) .leaf))))))) (Try.f45.body.getD .skip) [a0, a1] w R by kernel_rfl) h)

/-! ### 46: (*handbill/omap.Map[int, string]).Delete -/
def sh46 (a0 a1 : Value) (w : World) (R : Value → World → Prop) : Prop :=
 CallF Try.prog 72 #[a0, a1] w fun t10_1 w =>
 RunA Try.prog (Instr.extract t10_1 0) fun t11_2 =>
 RunA Try.prog (Instr.extract t10_1 1) fun t12_3 =>
 jn 1 (fun t6_4 w =>
 R t6_4 w) fun j_5 =>
 IfB t12_3 (
 RunA Try.prog (nilV a0) fun t16_6 =>
 RunA Try.prog (Instr.fieldAt 121 t16_6 0) fun t17_7 =>
 RunW Try.prog (Instr.loadAt 119 t17_7) w fun t18_8 =>
 RunA Try.prog (bin .add 3 (.tmp 20) (.const (.int .i64 1)) t11_2 (.int .i64 1)) fun t21_9 =>
 CallF Try.prog 85 #[t18_8, t11_2, t21_9] w fun t22_10 w =>
 RunA Try.prog (nilV a0) fun t23_11 =>
 RunA Try.prog (Instr.fieldAt 121 t23_11 0) fun t24_12 =>
 RunU Try.prog (Instr.storeAt 119 t24_12 t22_10) w fun w =>
 j_5 t12_3 w) (
 j_5 t12_3 w)
theorem sh46_calls {a0 a1 : Value} {w : World} {R : Value → World → Prop} (h : sh46 a0 a1 w R) : CallF Try.prog 46 #[a0, a1] w R :=
  calls_of_denF (mk := false) (args := [a0, a1]) (an := (.seq (.ops [0, 1]) (.seq (.ops [0, 5, 6]) (.seq (.join [6] (.seq (.ops [0, 5, 6, 13]) (.cond (.ops [6]) .leaf))) (.seq (.ops [4]) .leaf))))) (c := Try.f46.body.getD .skip) hent Try.func46 rfl (Nat.le_of_ble_eq_true (by kernel_rfl))
    (Eq.mp (show sh46 a0 a1 w R = denF Try.prog ent false Try.f46 (.seq (.ops [0, 1]) (.seq (.ops [0, 5, 6]) (.seq (.join [6] (.seq (.ops [0, 5, 6, 13]) (.cond (.ops [6]) .leaf))) (.seq (.ops [4]) .leaf)))) (Try.f46.body.getD .skip) [a0, a1] w R by kernel_rfl) h)

/-! ### 47: (*handbill/hbllaw2.rows).del -/
def sh47 (a0 a1 : Value) (w : World) (R : Value → World → Prop) : Prop :=
 CallF Try.prog 49 #[a0, a1] w fun t10_1 w =>
 RunA Try.prog (Instr.extract t10_1 0) fun t11_2 =>
 RunA Try.prog (Instr.extract t10_1 1) fun t12_3 =>
 jn 1 (fun t6_4 w =>
 R t6_4 w) fun j_5 =>
 IfB t12_3 (
 drw (fun S_6 w =>
 RunA Try.prog (nilV a0) fun t16_7 =>
 RunA Try.prog (Instr.fieldAt 60 t16_7 0) fun t17_8 =>
 RunS Try.prog S_6 (Instr.loadAt 58 t17_8) fun t18_9 =>
 RunA Try.prog (Instr.sliceAt 58 t18_9 none (some t11_2) none) fun t20_10 =>
 RunA Try.prog (nilV a0) fun t22_11 =>
 RunA Try.prog (Instr.fieldAt 60 t22_11 0) fun t23_12 =>
 RunS Try.prog S_6 (Instr.loadAt 58 t23_12) fun t24_13 =>
 RunA Try.prog (bin .add 3 (.tmp 25) (.const (.int .i64 1)) t11_2 (.int .i64 1)) fun t26_14 =>
 RunA Try.prog (Instr.sliceAt 58 t24_13 (some t26_14) none none) fun t27_15 =>
 RunV Try.prog (Builtin.append_ #[58, 58] 58 #[t20_10, t27_15]) w fun t28_16 w =>
 RunA Try.prog (nilV a0) fun t29_17 =>
 RunA Try.prog (Instr.fieldAt 60 t29_17 0) fun t30_18 =>
 RunU Try.prog (Instr.storeAt 58 t30_18 t28_16) w fun w =>
 j_5 t12_3 w) w) (
 j_5 t12_3 w)
theorem sh47_calls {a0 a1 : Value} {w : World} {R : Value → World → Prop} (h : sh47 a0 a1 w R) : CallF Try.prog 47 #[a0, a1] w R :=
  calls_of_denF (mk := false) (args := [a0, a1]) (an := (.seq (.ops [0, 1]) (.seq (.ops [0, 5, 6]) (.seq (.join [6] (.seq (.ops [0, 5, 6, 13]) (.cond (.draw (.q 0 (.q 1 (.q 2 (.q 3 (.q 4 (.q 5 (.q 6 (.q 7 (.q 8 (.q 9 (.q 10 (.q 11 (.q 12 (.q 13 (.one 14 (.q 15 (.q 16 (.one 17 .fin)))))))))))))))))) [6]) .leaf))) (.seq (.ops [4]) .leaf))))) (c := Try.f47.body.getD .skip) hent Try.func47 rfl (Nat.le_of_ble_eq_true (by kernel_rfl))
    (Eq.mp (show sh47 a0 a1 w R = denF Try.prog ent false Try.f47 (.seq (.ops [0, 1]) (.seq (.ops [0, 5, 6]) (.seq (.join [6] (.seq (.ops [0, 5, 6, 13]) (.cond (.draw (.q 0 (.q 1 (.q 2 (.q 3 (.q 4 (.q 5 (.q 6 (.q 7 (.q 8 (.q 9 (.q 10 (.q 11 (.q 12 (.q 13 (.one 14 (.q 15 (.q 16 (.one 17 .fin)))))))))))))))))) [6]) .leaf))) (.seq (.ops [4]) .leaf)))) (Try.f47.body.getD .skip) [a0, a1] w R by kernel_rfl) h)

/-! ### 48: (*handbill/omap.Map[int, string]).Get -/
def sh48 (a0 a1 : Value) (w : World) (R : Value → World → Prop) : Prop :=
 CallF Try.prog 72 #[a0, a1] w fun t12_1 w =>
 RunA Try.prog (Instr.extract t12_1 0) fun t13_2 =>
 RunA Try.prog (Instr.extract t12_1 1) fun t14_3 =>
 RunA Try.prog (Op.unary .not t14_3) fun t16_4 =>
 IfB t16_4 (
 R (.tuple #[(.string ⟨#[]⟩), (.bool false)]) w) (
 RunA Try.prog (nilV a0) fun t19_5 =>
 RunA Try.prog (Instr.fieldAt 121 t19_5 0) fun t20_6 =>
 RunW Try.prog (Instr.loadAt 119 t20_6) w fun t21_7 =>
 RunA Try.prog (Instr.indexAt 119 t21_7 t13_2) fun t23_8 =>
 RunA Try.prog (Instr.fieldAt 123 t23_8 1) fun t24_9 =>
 RunW Try.prog (Instr.loadAt 9 t24_9) w fun t25_10 =>
 R (.tuple #[t25_10, (.bool true)]) w)
theorem sh48_calls {a0 a1 : Value} {w : World} {R : Value → World → Prop} (h : sh48 a0 a1 w R) : CallF Try.prog 48 #[a0, a1] w R :=
  calls_of_denF (mk := false) (args := [a0, a1]) (an := (.seq (.ops [0, 1]) (.seq (.ops [0, 6, 7]) (.seq (.seq (.ops [0, 6, 16]) (.cond (.seq (.ops [8]) (.seq (.ops [4, 5]) .leaf)) .leaf)) (.seq (.ops [4, 5]) .leaf))))) (c := Try.f48.body.getD .skip) hent Try.func48 rfl (Nat.le_of_ble_eq_true (by kernel_rfl))
    (Eq.mp (show sh48 a0 a1 w R = denF Try.prog ent false Try.f48 (.seq (.ops [0, 1]) (.seq (.ops [0, 6, 7]) (.seq (.seq (.ops [0, 6, 16]) (.cond (.seq (.ops [8]) (.seq (.ops [4, 5]) .leaf)) .leaf)) (.seq (.ops [4, 5]) .leaf)))) (Try.f48.body.getD .skip) [a0, a1] w R by kernel_rfl) h)

/-! ### 49: (*handbill/hbllaw2.rows).find -/
def sh49 (a0 a1 : Value) (w : World) (R : Value → World → Prop) : Prop :=
 jn 3 (fun t0_1 t1_2 t6_3 w =>
 drw (fun S_5 w =>
 RunA Try.prog (nilV t0_1) fun t31_6 =>
 RunA Try.prog (Instr.fieldAt 60 t31_6 0) fun t32_7 =>
 RunS Try.prog S_5 (Instr.loadAt 58 t32_7) fun t33_8 =>
 RunS Try.prog S_5 (Builtin.len_ #[58] 3 #[t33_8]) fun t34_9 =>
 RunA Try.prog (bin .lss 3 (.tmp 29) (.tmp 34) t6_3 t34_9) fun t35_10 =>
 IfB t35_10 (
 RunA Try.prog (nilV t0_1) fun t38_11 =>
 RunA Try.prog (Instr.fieldAt 60 t38_11 0) fun t39_12 =>
 RunS Try.prog S_5 (Instr.loadAt 58 t39_12) fun t40_13 =>
 RunA Try.prog (Instr.indexAt 58 t40_13 t6_3) fun t42_14 =>
 RunA Try.prog (Instr.fieldAt 80 t42_14 0) fun t43_15 =>
 RunS Try.prog S_5 (Instr.loadAt 3 t43_15) fun t44_16 =>
 RunS Try.prog S_5 (bin .eql 3 (.tmp 44) (.tmp 45) t44_16 t1_2) fun t46_17 =>
 R (.tuple #[t6_3, t46_17]) w) (
 R (.tuple #[t6_3, (.bool false)]) w)) w) fun j_4 =>
 lp 1 (fun n_19 t6_18 w =>
 RunA Try.prog (nilV a0) fun t9_20 =>
 RunA Try.prog (Instr.fieldAt 60 t9_20 0) fun t10_21 =>
 RunW Try.prog (Instr.loadAt 58 t10_21) w fun t11_22 =>
 RunW Try.prog (Builtin.len_ #[58] 3 #[t11_22]) w fun t12_23 =>
 RunA Try.prog (bin .lss 3 (.tmp 7) (.tmp 12) t6_18 t12_23) fun t13_24 =>
 IfB t13_24 (
 RunA Try.prog (nilV a0) fun t16_25 =>
 RunA Try.prog (Instr.fieldAt 60 t16_25 0) fun t17_26 =>
 RunW Try.prog (Instr.loadAt 58 t17_26) w fun t18_27 =>
 RunA Try.prog (Instr.indexAt 58 t18_27 t6_18) fun t20_28 =>
 RunA Try.prog (Instr.fieldAt 80 t20_28 0) fun t21_29 =>
 RunW Try.prog (Instr.loadAt 3 t21_29) w fun t22_30 =>
 RunA Try.prog (bin .lss 3 (.tmp 22) (.tmp 23) t22_30 a1) fun t24_31 =>
 IfB t24_31 (
 RunA Try.prog (bin .add 3 (.tmp 26) (.const (.int .i64 1)) t6_18 (.int .i64 1)) fun t27_32 =>
 (a0 : Value) = a0 ∧ ((a1 : Value) = a1 ∧ (n_19 t27_32 w))) (
 j_4 a0 a1 t6_18 w)) (
 j_4 a0 a1 t6_18 w)) [(.int .i64 0)] w
theorem sh49_calls {a0 a1 : Value} {w : World} {R : Value → World → Prop} (h : sh49 a0 a1 w R) : CallF Try.prog 49 #[a0, a1] w R :=
  calls_of_denF (mk := false) (args := [a0, a1]) (an := (.seq (.ops [0, 1]) (.seq (.ops [0, 1, 6]) (.seq (.join [0, 1, 6] (.blk (.loop [0, 1] [6] (.seq (.seq (.ops [0, 1, 6, 25]) (.cond .leaf .leaf)) (.blk (.ops [0, 1, 6])))))) (.seq (.draw (.q 0 (.q 1 (.q 2 (.q 3 (.q 4 (.q 5 (.q 6 (.q 7 (.q 8 (.sp 9 (.q 9 (.q 10 (.q 11 (.q 12 (.q 13 (.q 14 (.q 15 (.q 16 (.q 17 (.q 18 (.q 19 (.q 20 (.q 21 .fin))))))))))))) (.q 9 (.q 10 (.q 11 (.q 12 (.q 13 (.q 14 (.q 15 (.q 16 (.q 17 (.q 18 (.q 19 (.q 20 (.q 21 .fin))))))))))))))))))))))) [4, 5]) .leaf))))) (c := Try.f49.body.getD .skip) hent Try.func49 rfl (Nat.le_of_ble_eq_true (by kernel_rfl))
    (Eq.mp (show sh49 a0 a1 w R = denF Try.prog ent false Try.f49 (.seq (.ops [0, 1]) (.seq (.ops [0, 1, 6]) (.seq (.join [0, 1, 6] (.blk (.loop [0, 1] [6] (.seq (.seq (.ops [0, 1, 6, 25]) (.cond .leaf .leaf)) (.blk (.ops [0, 1, 6])))))) (.seq (.draw (.q 0 (.q 1 (.q 2 (.q 3 (.q 4 (.q 5 (.q 6 (.q 7 (.q 8 (.sp 9 (.q 9 (.q 10 (.q 11 (.q 12 (.q 13 (.q 14 (.q 15 (.q 16 (.q 17 (.q 18 (.q 19 (.q 20 (.q 21 .fin))))))))))))) (.q 9 (.q 10 (.q 11 (.q 12 (.q 13 (.q 14 (.q 15 (.q 16 (.q 17 (.q 18 (.q 19 (.q 20 (.q 21 .fin))))))))))))))))))))))) [4, 5]) .leaf)))) (Try.f49.body.getD .skip) [a0, a1] w R by kernel_rfl) h)

/-! ### 50: (*handbill/omap.Map[int, string]).Copy -/
def sh50 (a0 : Value) (w : World) (R : Value → World → Prop) : Prop :=
 RunA Try.prog (nilV a0) fun t4_1 =>
 RunA Try.prog (Instr.fieldAt 121 t4_1 0) fun t5_2 =>
 RunW Try.prog (Instr.loadAt 119 t5_2) w fun t6_3 =>
 CallF Try.prog 76 #[t6_3] w fun t7_4 w =>
 RunV Try.prog (Instr.build 121 #[(0, t7_4)]) w fun t8_5 w =>
 RunV Try.prog (Instr.box 121 t8_5) w fun t9_6 w =>
 R t9_6 w
theorem sh50_calls {a0 : Value} {w : World} {R : Value → World → Prop} (h : sh50 a0 w R) : CallF Try.prog 50 #[a0] w R :=
  calls_of_denF (mk := false) (args := [a0]) (an := (.seq (.ops [0]) (.seq (.ops [2]) .leaf))) (c := Try.f50.body.getD .skip) hent Try.func50 rfl (Nat.le_of_ble_eq_true (by kernel_rfl))
    (Eq.mp (show sh50 a0 w R = denF Try.prog ent false Try.f50 (.seq (.ops [0]) (.seq (.ops [2]) .leaf)) (Try.f50.body.getD .skip) [a0] w R by kernel_rfl) h)

/-! ### 51: handbill/hbllaw2.alike -/
def sh51 (a0 a1 a2 a3 : Value) (w : World) (R : Value → World → Prop) : Prop :=
 CallF Try.prog 28 #[a0] w fun t22_1 w =>
 CallF Try.prog 35 #[t22_1, (.int .i64 1048576)] w fun t23_2 w =>
 RunA Try.prog (Instr.extract t23_2 0) fun t24_3 =>
 RunA Try.prog (Instr.extract t23_2 1) fun t25_4 =>
 CallF Try.prog 34 #[a1, (.int .i64 0), (.int .i64 0), (.bool true)] w fun t28_5 w =>
 RunA Try.prog (Instr.extract t28_5 0) fun t29_6 =>
 RunA Try.prog (Instr.extract t28_5 1) fun t30_7 =>
 CallF Try.prog 29 #[a0, a2, a3] w fun t35_8 w =>
 CallF Try.prog 35 #[t35_8, (.int .i64 1048576)] w fun t36_9 w =>
 RunA Try.prog (Instr.extract t36_9 0) fun t37_10 =>
 RunA Try.prog (Instr.extract t36_9 1) fun t38_11 =>
 CallF Try.prog 34 #[a1, a2, a3, (.bool false)] w fun t43_12 w =>
 RunA Try.prog (Instr.extract t43_12 0) fun t44_13 =>
 RunA Try.prog (Instr.extract t43_12 1) fun t45_14 =>
 CallF Try.prog 86 #[a0] w fun t48_15 w =>
 CallF Try.prog 35 #[t48_15, (.int .i64 1048576)] w fun t49_16 w =>
 RunA Try.prog (Instr.extract t49_16 0) fun t50_17 =>
 RunA Try.prog (Instr.extract t49_16 1) fun t51_18 =>
 RunW Try.prog (Builtin.len_ #[46] 3 #[t50_17]) w fun t53_19 =>
 RunW Try.prog (Builtin.len_ #[46] 3 #[t29_6]) w fun t55_20 =>
 RunW Try.prog (bin .neq 3 (.tmp 53) (.tmp 55) t53_19 t55_20) w fun t56_21 =>
 IfB t56_21 (
 R (.bool false) w) (
 RunW Try.prog (Builtin.len_ #[22] 3 #[t51_18]) w fun t59_22 =>
 RunW Try.prog (Builtin.len_ #[46] 3 #[t29_6]) w fun t61_23 =>
 RunW Try.prog (bin .neq 3 (.tmp 59) (.tmp 61) t59_22 t61_23) w fun t62_24 =>
 IfB t62_24 (
 R (.bool false) w) (
 CallF Try.prog 30 #[a0] w fun t66_25 w =>
 RunW Try.prog (Builtin.len_ #[46] 3 #[t29_6]) w fun t68_26 =>
 RunW Try.prog (bin .neq 3 (.tmp 66) (.tmp 68) t66_25 t68_26) w fun t69_27 =>
 IfB t69_27 (
 R (.bool false) w) (
 lp 1 (fun n_29 t19_28 w =>
 RunW Try.prog (Builtin.len_ #[46] 3 #[t29_6]) w fun t73_30 =>
 RunA Try.prog (bin .lss 3 (.tmp 71) (.tmp 73) t19_28 t73_30) fun t74_31 =>
 IfB t74_31 (
 drw (fun S_32 w =>
 RunS Try.prog S_32 (Builtin.len_ #[46] 3 #[t29_6]) fun t79_33 =>
 RunA Try.prog (bin .sub 3 (.tmp 79) (.const (.int .i64 1)) t79_33 (.int .i64 1)) fun t80_34 =>
 RunA Try.prog (bin .sub 3 (.tmp 80) (.tmp 81) t80_34 t19_28) fun t82_35 =>
 RunA Try.prog (Instr.indexAt 46 t50_17 t82_35) fun t83_36 =>
 RunS Try.prog S_32 (Instr.loadAt 3 t83_36) fun t84_37 =>
 RunA Try.prog (Instr.indexAt 46 t29_6 t19_28) fun t87_38 =>
 RunS Try.prog S_32 (Instr.loadAt 3 t87_38) fun t88_39 =>
 RunS Try.prog S_32 (bin .neq 3 (.tmp 84) (.tmp 88) t84_37 t88_39) fun t89_40 =>
 IfB t89_40 (
 R (.bool false) w) (
 RunS Try.prog S_32 (Builtin.len_ #[46] 3 #[t29_6]) fun t93_41 =>
 RunA Try.prog (bin .sub 3 (.tmp 93) (.const (.int .i64 1)) t93_41 (.int .i64 1)) fun t94_42 =>
 RunA Try.prog (bin .sub 3 (.tmp 94) (.tmp 95) t94_42 t19_28) fun t96_43 =>
 RunA Try.prog (Instr.indexAt 22 t51_18 t96_43) fun t97_44 =>
 RunS Try.prog S_32 (Instr.loadAt 9 t97_44) fun t98_45 =>
 RunA Try.prog (Instr.indexAt 22 t30_7 t19_28) fun t101_46 =>
 RunS Try.prog S_32 (Instr.loadAt 9 t101_46) fun t102_47 =>
 RunS Try.prog S_32 (bin .neq 9 (.tmp 98) (.tmp 102) t98_45 t102_47) fun t103_48 =>
 IfB t103_48 (
 R (.bool false) w) (
 RunA Try.prog (bin .add 3 (.tmp 75) (.const (.int .i64 1)) t19_28 (.int .i64 1)) fun t76_49 =>
 (t24_3 : Value) = t24_3 ∧ ((t25_4 : Value) = t25_4 ∧ ((t29_6 : Value) = t29_6 ∧ ((t30_7 : Value) = t30_7 ∧ ((t37_10 : Value) = t37_10 ∧ ((t38_11 : Value) = t38_11 ∧ ((t44_13 : Value) = t44_13 ∧ ((t45_14 : Value) = t45_14 ∧ ((t50_17 : Value) = t50_17 ∧ ((t51_18 : Value) = t51_18 ∧ (n_29 t76_49 w))))))))))))) w) (
 CallF Try.prog 31 #[t24_3, t29_6] w fun t107_50 w =>
 IfB t107_50 (
 CallF Try.prog 20 #[t25_4, t30_7] w fun t111_51 w =>
 IfB t111_51 (
 CallF Try.prog 31 #[t37_10, t44_13] w fun t116_52 w =>
 IfB t116_52 (
 CallF Try.prog 20 #[t38_11, t45_14] w fun t121_53 w =>
 R t121_53 w) (
 R (.bool false) w)) (
 R (.bool false) w)) (
 R (.bool false) w))) [(.int .i64 0)] w)))
theorem sh51_calls {a0 a1 a2 a3 : Value} {w : World} {R : Value → World → Prop} (h : sh51 a0 a1 a2 a3 w R) : CallF Try.prog 51 #[a0, a1, a2, a3] w R :=
  calls_of_denF (mk := false) (args := [a0, a1, a2, a3]) (an := (.seq (.ops [0, 1, 2, 3]) (.seq (.ops [0, 1, 2, 3, 9, 10]) (.seq (.ops [0, 1, 2, 3, 9, 10, 11, 12]) (.seq (.ops [0, 1, 2, 3, 9, 10, 11, 12, 13, 14]) (.seq (.ops [0, 9, 10, 11, 12, 13, 14, 15, 16]) (.seq (.ops [0, 9, 10, 11, 12, 13, 14, 15, 16, 17, 18]) (.seq (.seq (.ops [9, 10, 11, 12, 13, 14, 15, 16, 17, 18, 70]) (.cond (.seq (.ops [8]) .leaf) .leaf)) (.seq (.seq (.ops [9, 10, 11, 12, 13, 14, 15, 16, 17, 18, 19]) (.blk (.loop [9, 10, 11, 12, 13, 14, 15, 16, 17, 18] [19] (.seq (.seq (.ops [9, 10, 11, 12, 13, 14, 15, 16, 17, 18, 19, 74]) (.cond .leaf .leaf)) (.seq (.blk (.seq (.draw (.q 0 (.q 1 (.q 2 (.q 3 (.q 4 (.q 5 (.q 6 (.q 7 (.q 8 (.q 9 (.q 10 (.q 11 (.q 12 (.q 13 (.sp 14 (.q 14 (.q 15 (.q 16 (.q 17 (.q 18 (.q 19 (.q 20 (.q 21 (.q 22 (.q 23 (.q 24 (.q 25 (.q 26 (.q 27 .fin)))))))))))))) (.q 14 (.q 15 (.q 16 (.q 17 (.q 18 (.q 19 (.q 20 (.q 21 (.q 22 (.q 23 (.q 24 (.q 25 (.q 26 (.q 27 .fin))))))))))))))))))))))))))))) [9, 10, 11, 12, 13, 14, 15, 16, 17, 18, 19, 104]) (.cond (.seq (.ops [8]) .leaf) .leaf))) (.ops [9, 10, 11, 12, 13, 14, 15, 16, 17, 18, 19])))))) (.seq (.ops [8]) .leaf)))))))))) (c := Try.f51.body.getD .skip) hent Try.func51 rfl (Nat.le_of_ble_eq_true (by kernel_rfl))
    (Eq.mp (show sh51 a0 a1 a2 a3 w R = denF Try.prog ent false Try.f51 (.seq (.ops [0, 1, 2, 3]) (.seq (.ops [0, 1, 2, 3, 9, 10]) (.seq (.ops [0, 1, 2, 3, 9, 10, 11, 12]) (.seq (.ops [0, 1, 2, 3, 9, 10, 11, 12, 13, 14]) (.seq (.ops [0, 9, 10, 11, 12, 13, 14, 15, 16]) (.seq (.ops [0, 9, 10, 11, 12, 13, 14, 15, 16, 17, 18]) (.seq (.seq (.ops [9, 10, 11, 12, 13, 14, 15, 16, 17, 18, 70]) (.cond (.seq (.ops [8]) .leaf) .leaf)) (.seq (.seq (.ops [9, 10, 11, 12, 13, 14, 15, 16, 17, 18, 19]) (.blk (.loop [9, 10, 11, 12, 13, 14, 15, 16, 17, 18] [19] (.seq (.seq (.ops [9, 10, 11, 12, 13, 14, 15, 16, 17, 18, 19, 74]) (.cond .leaf .leaf)) (.seq (.blk (.seq (.draw (.q 0 (.q 1 (.q 2 (.q 3 (.q 4 (.q 5 (.q 6 (.q 7 (.q 8 (.q 9 (.q 10 (.q 11 (.q 12 (.q 13 (.sp 14 (.q 14 (.q 15 (.q 16 (.q 17 (.q 18 (.q 19 (.q 20 (.q 21 (.q 22 (.q 23 (.q 24 (.q 25 (.q 26 (.q 27 .fin)))))))))))))) (.q 14 (.q 15 (.q 16 (.q 17 (.q 18 (.q 19 (.q 20 (.q 21 (.q 22 (.q 23 (.q 24 (.q 25 (.q 26 (.q 27 .fin))))))))))))))))))))))))))))) [9, 10, 11, 12, 13, 14, 15, 16, 17, 18, 19, 104]) (.cond (.seq (.ops [8]) .leaf) .leaf))) (.ops [9, 10, 11, 12, 13, 14, 15, 16, 17, 18, 19])))))) (.seq (.ops [8]) .leaf))))))))) (Try.f51.body.getD .skip) [a0, a1, a2, a3] w R by kernel_rfl) h)

/-! ### 67: (*handbill/omap.Map[string, int]).find -/
def sh67 (a0 a1 : Value) (w : World) (R : Value → World → Prop) : Prop :=
 RunA Try.prog (nilV a0) fun t7_1 =>
 RunA Try.prog (Instr.fieldAt 113 t7_1 0) fun t8_2 =>
 RunW Try.prog (Instr.loadAt 111 t8_2) w fun t9_3 =>
 CallF Try.prog 97 #[t9_3, a1, (.func (.func 98) #[] #[])] w fun t11_4 w =>
 RunA Try.prog (Instr.extract t11_4 0) fun t12_5 =>
 RunA Try.prog (Instr.extract t11_4 1) fun t13_6 =>
 R (.tuple #[t12_5, t13_6]) w
theorem sh67_calls {a0 a1 : Value} {w : World} {R : Value → World → Prop} (h : sh67 a0 a1 w R) : CallF Try.prog 67 #[a0, a1] w R :=
  calls_of_denF (mk := false) (args := [a0, a1]) (an := (.seq (.ops [0, 1]) (.seq (.ops [4, 5]) .leaf))) (c := Try.f67.body.getD .skip) hent Try.func67 rfl (Nat.le_of_ble_eq_true (by kernel_rfl))
    (Eq.mp (show sh67 a0 a1 w R = denF Try.prog ent false Try.f67 (.seq (.ops [0, 1]) (.seq (.ops [4, 5]) .leaf)) (Try.f67.body.getD .skip) [a0, a1] w R by kernel_rfl) h)

/-! ### 68: slices.Insert[[]handbill/omap.pair[string, int],handbill/omap.pair[string, int]] -/
def sh68 (a0 a1 a2 : Value) (w : World) (R : Value → World → Prop) : Prop :=
 RunA Try.prog (Instr.sliceAt 111 a0 (some a1) none none) fun t12_1 =>
 RunW Try.prog (Builtin.len_ #[111] 3 #[a2]) w fun t14_2 =>
 RunW Try.prog (bin .eql 3 (.tmp 15) (.const (.int .i64 0)) t14_2 (.int .i64 0)) w fun t16_3 =>
 IfB t16_3 (
 R a0 w) (
 RunW Try.prog (Builtin.len_ #[111] 3 #[a0]) w fun t19_4 =>
 RunW Try.prog (bin .eql 3 (.tmp 20) (.tmp 21) a1 t19_4) w fun t22_5 =>
 IfB t22_5 (
 RunV Try.prog (Builtin.append_ #[111, 111] 111 #[a0, a2]) w fun t25_6 w =>
 R t25_6 w) (
 RunA Try.prog (bin .add 3 (.tmp 26) (.tmp 27) t19_4 t14_2) fun t28_7 =>
 RunW Try.prog (Builtin.cap_ #[111] 3 #[a0]) w fun t30_8 =>
 RunA Try.prog (bin .gtr 3 (.tmp 28) (.tmp 30) t28_7 t30_8) fun t31_9 =>
 IfB t31_9 (
 RunA Try.prog (Instr.sliceAt 111 a0 none (some a1) none) fun t34_10 =>
 RunA Try.prog (bin .add 3 (.tmp 35) (.tmp 36) t19_4 t14_2) fun t37_11 =>
 RunA Try.prog (bin .sub 3 (.tmp 37) (.tmp 38) t37_11 a1) fun t39_12 =>
 RunV Try.prog (Builtin.append_ #[111, 3] 111 #[t34_10, t39_12]) w fun t40_13 w =>
 RunA Try.prog (Instr.sliceAt 111 t40_13 (some a1) none none) fun t43_14 =>
 RunV Try.prog (Builtin.copy_ #[111, 111] 3 #[t43_14, a2]) w fun t45_15 w =>
 drw (fun S_16 w =>
 RunA Try.prog (bin .add 3 (.tmp 47) (.tmp 48) a1 t14_2) fun t49_17 =>
 RunA Try.prog (Instr.sliceAt 111 t40_13 (some t49_17) none none) fun t50_18 =>
 RunA Try.prog (Instr.sliceAt 111 a0 (some a1) none none) fun t53_19 =>
 RunV Try.prog (Builtin.copy_ #[111, 111] 3 #[t50_18, t53_19]) w fun t54_20 w =>
 R t40_13 w) w) (
 RunA Try.prog (bin .add 3 (.tmp 57) (.tmp 58) t19_4 t14_2) fun t59_21 =>
 RunA Try.prog (Instr.sliceAt 111 a0 none (some t59_21) none) fun t60_22 =>
 RunA Try.prog (bin .add 3 (.tmp 63) (.tmp 64) a1 t14_2) fun t65_23 =>
 RunA Try.prog (Instr.sliceAt 111 t60_22 (some t65_23) none none) fun t66_24 =>
 RunO Try.prog (callFunc 100 #[a2, t66_24]) w fun t67_25 w =>
 RunA Try.prog (Op.unary .not t67_25) fun t68_26 =>
 IfB t68_26 (
 drw (fun S_27 w =>
 RunA Try.prog (bin .add 3 (.tmp 70) (.tmp 71) a1 t14_2) fun t72_28 =>
 RunA Try.prog (Instr.sliceAt 111 t60_22 (some t72_28) none none) fun t73_29 =>
 RunA Try.prog (Instr.sliceAt 111 t60_22 (some a1) none none) fun t76_30 =>
 RunV Try.prog (Builtin.copy_ #[111, 111] 3 #[t73_29, t76_30]) w fun t77_31 w =>
 RunA Try.prog (Instr.sliceAt 111 t60_22 (some a1) none none) fun t80_32 =>
 RunV Try.prog (Builtin.copy_ #[111, 111] 3 #[t80_32, a2]) w fun t82_33 w =>
 R t60_22 w) w) (
 RunA Try.prog (Instr.sliceAt 111 t60_22 (some t19_4) none none) fun t86_34 =>
 RunV Try.prog (Builtin.copy_ #[111, 111] 3 #[t86_34, a2]) w fun t88_35 w =>
 RunA Try.prog (Instr.sliceAt 111 t60_22 (some a1) none none) fun t91_36 =>
 CallF Try.prog 101 #[t91_36, t14_2] w fun t93_37 w =>
 R t60_22 w))))
theorem sh68_calls {a0 a1 a2 : Value} {w : World} {R : Value → World → Prop} (h : sh68 a0 a1 a2 w R) : CallF Try.prog 68 #[a0, a1, a2] w R :=
  calls_of_denF (mk := false) (args := [a0, a1, a2]) (an := (.seq (.ops [0, 1, 2]) (.seq (.ops [0, 1, 2]) (.seq (.ops [0, 1, 2, 7]) (.seq (.seq (.ops [0, 1, 2, 7, 16]) (.cond (.seq (.ops [6]) .leaf) .leaf)) (.seq (.ops [0, 1, 2, 7, 8]) (.seq (.seq (.ops [0, 1, 2, 7, 8, 22]) (.cond (.seq (.ops [6]) .leaf) .leaf)) (.seq (.seq (.ops [0, 1, 2, 7, 8, 31]) (.cond (.seq (.ops [0, 1, 2, 7, 9]) (.seq (.ops [0, 1, 7, 9]) (.seq (.draw (.q 0 (.q 1 (.q 2 (.q 3 (.q 4 (.q 5 (.q 6 (.q 7 (.one 8 .fin))))))))) [9]) (.seq (.ops [6]) .leaf)))) .leaf)) (.seq (.ops [0, 1, 2, 7, 8]) (.seq (.seq (.ops [0, 1, 2, 7, 8, 68]) (.cond (.seq (.draw (.q 0 (.q 1 (.q 2 (.q 3 (.q 4 (.q 5 (.q 6 (.q 7 (.one 8 .fin))))))))) [0, 1, 2]) (.seq (.ops [0]) (.seq (.ops [6]) .leaf))) .leaf)) (.seq (.ops [0, 1, 7]) (.seq (.ops [0]) (.seq (.ops [6]) .leaf))))))))))))) (c := Try.f68.body.getD .skip) hent Try.func68 rfl (Nat.le_of_ble_eq_true (by kernel_rfl))
    (Eq.mp (show sh68 a0 a1 a2 w R = denF Try.prog ent false Try.f68 (.seq (.ops [0, 1, 2]) (.seq (.ops [0, 1, 2]) (.seq (.ops [0, 1, 2, 7]) (.seq (.seq (.ops [0, 1, 2, 7, 16]) (.cond (.seq (.ops [6]) .leaf) .leaf)) (.seq (.ops [0, 1, 2, 7, 8]) (.seq (.seq (.ops [0, 1, 2, 7, 8, 22]) (.cond (.seq (.ops [6]) .leaf) .leaf)) (.seq (.seq (.ops [0, 1, 2, 7, 8, 31]) (.cond (.seq (.ops [0, 1, 2, 7, 9]) (.seq (.ops [0, 1, 7, 9]) (.seq (.draw (.q 0 (.q 1 (.q 2 (.q 3 (.q 4 (.q 5 (.q 6 (.q 7 (.one 8 .fin))))))))) [9]) (.seq (.ops [6]) .leaf)))) .leaf)) (.seq (.ops [0, 1, 2, 7, 8]) (.seq (.seq (.ops [0, 1, 2, 7, 8, 68]) (.cond (.seq (.draw (.q 0 (.q 1 (.q 2 (.q 3 (.q 4 (.q 5 (.q 6 (.q 7 (.one 8 .fin))))))))) [0, 1, 2]) (.seq (.ops [0]) (.seq (.ops [6]) .leaf))) .leaf)) (.seq (.ops [0, 1, 7]) (.seq (.ops [0]) (.seq (.ops [6]) .leaf)))))))))))) (Try.f68.body.getD .skip) [a0, a1, a2] w R by kernel_rfl) h)

/-! ### 69: handbill/omap.Keys[string,int]$1 -/
def sh69 (a0 a1 : Value) (w : World) (R : Value → World → Prop) : Prop :=
 RunV Try.prog (Instr.box 117 a0) w fun t2_1 w =>
 RunW Try.prog (Instr.loadAt 32 a1) w fun t4_2 =>
 RunW Try.prog (bin .eql 32 (.tmp 4) (.const (.nilFunc)) t4_2 (.nilFunc)) w fun t5_3 =>
 IfB t5_3 (
 R (.tuple #[]) w) (
 RunW Try.prog (Instr.loadAt 32 a1) w fun t6_4 =>
 rngP Try.prog none 2 2 (fun l_5 K_6 t7_12 t8_13 w =>
 K_6 t2_1 t7_12 w) (fun l_5 kn_7 ks_8 t2_14 t3_15 w =>
 RunW Try.prog (Instr.loadAt 117 t2_14) w fun t9_16 =>
 CallV Try.prog t9_16 #[t3_15] w fun t11_17 w =>
 RunA Try.prog (Op.unary .not t11_17) fun t12_18 =>
 IfB t12_18 (
 ks_8 .ret w) (
 kn_7 w)) t6_4 w (fun D_9 w =>
 (w).heap[D_9]? = some (.deferred (some [])) ∧ (
 R (.tuple #[]) (w.putObj D_9 (.deferred none)))) (fun D_9 c_10 w => jumpK (fun i_11 w =>
 bif Nat.beq i_11 0 then (
 (w).heap[D_9]? = some (.deferred (some [])) ∧ (
 R (.tuple #[]) (w.putObj D_9 (.deferred none)))) else (
 False)) (fun w =>
 (w).heap[D_9]? = some (.deferred (some [])) ∧ (
 R (.tuple #[]) (w.putObj D_9 (.deferred none)))) c_10 w))
theorem sh69_calls {a0 a1 : Value} {w : World} {R : Value → World → Prop} (h : sh69 a0 a1 w R) : CallF Try.prog 69 #[a0, a1] w R :=
  calls_of_denF (mk := true) (args := [a0, a1]) (an := (.seq (.ops [1, 2]) (.seq (.seq (.ops [1, 2, 5]) (.cond .leaf .leaf)) (.seq (.ops [2, 6]) (.blk (.rng [2, 3] (.ops [2, 3]) (.blk (.seq (.ops [12]) (.cond .leaf .leaf))))))))) (c := Try.f69.body.getD .skip) hent Try.func69 rfl (Nat.le_of_ble_eq_true (by kernel_rfl))
    (Eq.mp (show sh69 a0 a1 w R = denF Try.prog ent true Try.f69 (.seq (.ops [1, 2]) (.seq (.seq (.ops [1, 2, 5]) (.cond .leaf .leaf)) (.seq (.ops [2, 6]) (.blk (.rng [2, 3] (.ops [2, 3]) (.blk (.seq (.ops [12]) (.cond .leaf .leaf)))))))) (Try.f69.body.getD .skip) [a0, a1] w R by kernel_rfl) h)

/-! ### 70: (*handbill/omap.Map[string, int]).All$1 -/
def sh70 (a0 a1 : Value) (w : World) (R : Value → World → Prop) : Prop :=
 RunW Try.prog (Instr.loadAt 24 a1) w fun t5_1 =>
 RunA Try.prog (nilV t5_1) fun t6_2 =>
 RunA Try.prog (Instr.fieldAt 113 t6_2 0) fun t7_3 =>
 RunW Try.prog (Instr.loadAt 111 t7_3) w fun t8_4 =>
 CallF Try.prog 71 #[t8_4] w fun t9_5 w =>
 RunW Try.prog (Builtin.len_ #[111] 3 #[t9_5]) w fun t10_6 =>
 lp 1 (fun n_8 t11_7 w =>
 RunA Try.prog (bin .lss 3 (.tmp 11) (.tmp 10) t11_7 t10_6) fun t12_9 =>
 IfB t12_9 (
 RunA Try.prog (Instr.indexAt 111 t9_5 t11_7) fun t13_10 =>
 RunW Try.prog (Instr.loadAt 115 t13_10) w fun t14_11 =>
 RunV Try.prog (Instr.alloc 115 true (.tuple #[])) w fun t4_12 w =>
 RunU Try.prog (Instr.storeAt 115 t4_12 t14_11) w fun w =>
 RunA Try.prog (Instr.fieldAt 115 t4_12 0) fun t16_13 =>
 RunW Try.prog (Instr.loadAt 9 t16_13) w fun t17_14 =>
 RunA Try.prog (Instr.fieldAt 115 t4_12 1) fun t18_15 =>
 RunW Try.prog (Instr.loadAt 3 t18_15) w fun t19_16 =>
 CallV Try.prog a0 #[t17_14, t19_16] w fun t20_17 w =>
 RunA Try.prog (Op.unary .not t20_17) fun t21_18 =>
 IfB t21_18 (
 R (.tuple #[]) w) (
 RunA Try.prog (bin .add 3 (.tmp 11) (.const (.int .i64 1)) t11_7 (.int .i64 1)) fun t22_19 =>
 (a0 : Value) = a0 ∧ ((t9_5 : Value) = t9_5 ∧ ((t10_6 : Value) = t10_6 ∧ (n_8 t22_19 w))))) (
 R (.tuple #[]) w)) [(.int .i64 0)] w
theorem sh70_calls {a0 a1 : Value} {w : World} {R : Value → World → Prop} (h : sh70 a0 a1 w R) : CallF Try.prog 70 #[a0, a1] w R :=
  calls_of_denF (mk := false) (args := [a0, a1]) (an := (.seq (.ops [0, 9, 10, 11]) (.blk (.loop [0, 9, 10] [11] (.seq (.ops [0, 9, 10, 11, 12]) (.seq (.cond .leaf .leaf) (.seq (.blk (.seq (.ops [0, 4, 9, 10, 11]) (.seq (.ops [0, 9, 10, 11, 21]) (.cond .leaf .leaf)))) (.ops [0, 9, 10, 11])))))))) (c := Try.f70.body.getD .skip) hent Try.func70 rfl (Nat.le_of_ble_eq_true (by kernel_rfl))
    (Eq.mp (show sh70 a0 a1 w R = denF Try.prog ent false Try.f70 (.seq (.ops [0, 9, 10, 11]) (.blk (.loop [0, 9, 10] [11] (.seq (.ops [0, 9, 10, 11, 12]) (.seq (.cond .leaf .leaf) (.seq (.blk (.seq (.ops [0, 4, 9, 10, 11]) (.seq (.ops [0, 9, 10, 11, 21]) (.cond .leaf .leaf)))) (.ops [0, 9, 10, 11]))))))) (Try.f70.body.getD .skip) [a0, a1] w R by kernel_rfl) h)

/-! ### 71: slices.Clone[[]handbill/omap.pair[string, int],handbill/omap.pair[string, int]] -/
def sh71 (a0 : Value) (w : World) (R : Value → World → Prop) : Prop :=
 RunW Try.prog (bin .eql 111 (.tmp 3) (.const (.slice none 0 0)) a0 (.slice none 0 0)) w fun t4_1 =>
 IfB t4_1 (
 R (.slice none 0 0) w) (
 RunV Try.prog (Instr.buildSlice 111 0 #[]) w fun t5_2 w =>
 RunV Try.prog (Builtin.append_ #[111, 111] 111 #[t5_2, a0]) w fun t7_3 w =>
 R t7_3 w)
theorem sh71_calls {a0 : Value} {w : World} {R : Value → World → Prop} (h : sh71 a0 w R) : CallF Try.prog 71 #[a0] w R :=
  calls_of_denF (mk := false) (args := [a0]) (an := (.seq (.ops [0]) (.seq (.seq (.ops [0, 4]) (.cond (.seq (.ops [2]) .leaf) .leaf)) (.seq (.ops [2]) .leaf)))) (c := Try.f71.body.getD .skip) hent Try.func71 rfl (Nat.le_of_ble_eq_true (by kernel_rfl))
    (Eq.mp (show sh71 a0 w R = denF Try.prog ent false Try.f71 (.seq (.ops [0]) (.seq (.seq (.ops [0, 4]) (.cond (.seq (.ops [2]) .leaf) .leaf)) (.seq (.ops [2]) .leaf))) (Try.f71.body.getD .skip) [a0] w R by kernel_rfl) h)

/-! ### 72: (*handbill/omap.Map[int, string]).find -/
def sh72 (a0 a1 : Value) (w : World) (R : Value → World → Prop) : Prop :=
 RunA Try.prog (nilV a0) fun t7_1 =>
 RunA Try.prog (Instr.fieldAt 121 t7_1 0) fun t8_2 =>
 RunW Try.prog (Instr.loadAt 119 t8_2) w fun t9_3 =>
 CallF Try.prog 102 #[t9_3, a1, (.func (.func 103) #[] #[])] w fun t11_4 w =>
 RunA Try.prog (Instr.extract t11_4 0) fun t12_5 =>
 RunA Try.prog (Instr.extract t11_4 1) fun t13_6 =>
 R (.tuple #[t12_5, t13_6]) w
theorem sh72_calls {a0 a1 : Value} {w : World} {R : Value → World → Prop} (h : sh72 a0 a1 w R) : CallF Try.prog 72 #[a0, a1] w R :=
  calls_of_denF (mk := false) (args := [a0, a1]) (an := (.seq (.ops [0, 1]) (.seq (.ops [4, 5]) .leaf))) (c := Try.f72.body.getD .skip) hent Try.func72 rfl (Nat.le_of_ble_eq_true (by kernel_rfl))
    (Eq.mp (show sh72 a0 a1 w R = denF Try.prog ent false Try.f72 (.seq (.ops [0, 1]) (.seq (.ops [4, 5]) .leaf)) (Try.f72.body.getD .skip) [a0, a1] w R by kernel_rfl) h)

/-! ### 73: slices.Insert[[]handbill/omap.pair[int, string],handbill/omap.pair[int, string]] -/
def sh73 (a0 a1 a2 : Value) (w : World) (R : Value → World → Prop) : Prop :=
 RunA Try.prog (Instr.sliceAt 119 a0 (some a1) none none) fun t12_1 =>
 RunW Try.prog (Builtin.len_ #[119] 3 #[a2]) w fun t14_2 =>
 RunW Try.prog (bin .eql 3 (.tmp 15) (.const (.int .i64 0)) t14_2 (.int .i64 0)) w fun t16_3 =>
 IfB t16_3 (
 R a0 w) (
 RunW Try.prog (Builtin.len_ #[119] 3 #[a0]) w fun t19_4 =>
 RunW Try.prog (bin .eql 3 (.tmp 20) (.tmp 21) a1 t19_4) w fun t22_5 =>
 IfB t22_5 (
 RunV Try.prog (Builtin.append_ #[119, 119] 119 #[a0, a2]) w fun t25_6 w =>
 R t25_6 w) (
 RunA Try.prog (bin .add 3 (.tmp 26) (.tmp 27) t19_4 t14_2) fun t28_7 =>
 RunW Try.prog (Builtin.cap_ #[119] 3 #[a0]) w fun t30_8 =>
 RunA Try.prog (bin .gtr 3 (.tmp 28) (.tmp 30) t28_7 t30_8) fun t31_9 =>
 IfB t31_9 (
 RunA Try.prog (Instr.sliceAt 119 a0 none (some a1) none) fun t34_10 =>
 RunA Try.prog (bin .add 3 (.tmp 35) (.tmp 36) t19_4 t14_2) fun t37_11 =>
 RunA Try.prog (bin .sub 3 (.tmp 37) (.tmp 38) t37_11 a1) fun t39_12 =>
 RunV Try.prog (Builtin.append_ #[119, 3] 119 #[t34_10, t39_12]) w fun t40_13 w =>
 RunA Try.prog (Instr.sliceAt 119 t40_13 (some a1) none none) fun t43_14 =>
 RunV Try.prog (Builtin.copy_ #[119, 119] 3 #[t43_14, a2]) w fun t45_15 w =>
 drw (fun S_16 w =>
 RunA Try.prog (bin .add 3 (.tmp 47) (.tmp 48) a1 t14_2) fun t49_17 =>
 RunA Try.prog (Instr.sliceAt 119 t40_13 (some t49_17) none none) fun t50_18 =>
 RunA Try.prog (Instr.sliceAt 119 a0 (some a1) none none) fun t53_19 =>
 RunV Try.prog (Builtin.copy_ #[119, 119] 3 #[t50_18, t53_19]) w fun t54_20 w =>
 R t40_13 w) w) (
 RunA Try.prog (bin .add 3 (.tmp 57) (.tmp 58) t19_4 t14_2) fun t59_21 =>
 RunA Try.prog (Instr.sliceAt 119 a0 none (some t59_21) none) fun t60_22 =>
 RunA Try.prog (bin .add 3 (.tmp 63) (.tmp 64) a1 t14_2) fun t65_23 =>
 RunA Try.prog (Instr.sliceAt 119 t60_22 (some t65_23) none none) fun t66_24 =>
 RunO Try.prog (callFunc 105 #[a2, t66_24]) w fun t67_25 w =>
 RunA Try.prog (Op.unary .not t67_25) fun t68_26 =>
 IfB t68_26 (
 drw (fun S_27 w =>
 RunA Try.prog (bin .add 3 (.tmp 70) (.tmp 71) a1 t14_2) fun t72_28 =>
 RunA Try.prog (Instr.sliceAt 119 t60_22 (some t72_28) none none) fun t73_29 =>
 RunA Try.prog (Instr.sliceAt 119 t60_22 (some a1) none none) fun t76_30 =>
 RunV Try.prog (Builtin.copy_ #[119, 119] 3 #[t73_29, t76_30]) w fun t77_31 w =>
 RunA Try.prog (Instr.sliceAt 119 t60_22 (some a1) none none) fun t80_32 =>
 RunV Try.prog (Builtin.copy_ #[119, 119] 3 #[t80_32, a2]) w fun t82_33 w =>
 R t60_22 w) w) (
 RunA Try.prog (Instr.sliceAt 119 t60_22 (some t19_4) none none) fun t86_34 =>
 RunV Try.prog (Builtin.copy_ #[119, 119] 3 #[t86_34, a2]) w fun t88_35 w =>
 RunA Try.prog (Instr.sliceAt 119 t60_22 (some a1) none none) fun t91_36 =>
 CallF Try.prog 106 #[t91_36, t14_2] w fun t93_37 w =>
 R t60_22 w))))
theorem sh73_calls {a0 a1 a2 : Value} {w : World} {R : Value → World → Prop} (h : sh73 a0 a1 a2 w R) : CallF Try.prog 73 #[a0, a1, a2] w R :=
  calls_of_denF (mk := false) (args := [a0, a1, a2]) (an := (.seq (.ops [0, 1, 2]) (.seq (.ops [0, 1, 2]) (.seq (.ops [0, 1, 2, 7]) (.seq (.seq (.ops [0, 1, 2, 7, 16]) (.cond (.seq (.ops [6]) .leaf) .leaf)) (.seq (.ops [0, 1, 2, 7, 8]) (.seq (.seq (.ops [0, 1, 2, 7, 8, 22]) (.cond (.seq (.ops [6]) .leaf) .leaf)) (.seq (.seq (.ops [0, 1, 2, 7, 8, 31]) (.cond (.seq (.ops [0, 1, 2, 7, 9]) (.seq (.ops [0, 1, 7, 9]) (.seq (.draw (.q 0 (.q 1 (.q 2 (.q 3 (.q 4 (.q 5 (.q 6 (.q 7 (.one 8 .fin))))))))) [9]) (.seq (.ops [6]) .leaf)))) .leaf)) (.seq (.ops [0, 1, 2, 7, 8]) (.seq (.seq (.ops [0, 1, 2, 7, 8, 68]) (.cond (.seq (.draw (.q 0 (.q 1 (.q 2 (.q 3 (.q 4 (.q 5 (.q 6 (.q 7 (.one 8 .fin))))))))) [0, 1, 2]) (.seq (.ops [0]) (.seq (.ops [6]) .leaf))) .leaf)) (.seq (.ops [0, 1, 7]) (.seq (.ops [0]) (.seq (.ops [6]) .leaf))))))))))))) (c := Try.f73.body.getD .skip) hent Try.func73 rfl (Nat.le_of_ble_eq_true (by kernel_rfl))
    (Eq.mp (show sh73 a0 a1 a2 w R = denF Try.prog ent false Try.f73 (.seq (.ops [0, 1, 2]) (.seq (.ops [0, 1, 2]) (.seq (.ops [0, 1, 2, 7]) (.seq (.seq (.ops [0, 1, 2, 7, 16]) (.cond (.seq (.ops [6]) .leaf) .leaf)) (.seq (.ops [0, 1, 2, 7, 8]) (.seq (.seq (.ops [0, 1, 2, 7, 8, 22]) (.cond (.seq (.ops [6]) .leaf) .leaf)) (.seq (.seq (.ops [0, 1, 2, 7, 8, 31]) (.cond (.seq (.ops [0, 1, 2, 7, 9]) (.seq (.ops [0, 1, 7, 9]) (.seq (.draw (.q 0 (.q 1 (.q 2 (.q 3 (.q 4 (.q 5 (.q 6 (.q 7 (.one 8 .fin))))))))) [9]) (.seq (.ops [6]) .leaf)))) .leaf)) (.seq (.ops [0, 1, 2, 7, 8]) (.seq (.seq (.ops [0, 1, 2, 7, 8, 68]) (.cond (.seq (.draw (.q 0 (.q 1 (.q 2 (.q 3 (.q 4 (.q 5 (.q 6 (.q 7 (.one 8 .fin))))))))) [0, 1, 2]) (.seq (.ops [0]) (.seq (.ops [6]) .leaf))) .leaf)) (.seq (.ops [0, 1, 7]) (.seq (.ops [0]) (.seq (.ops [6]) .leaf)))))))))))) (Try.f73.body.getD .skip) [a0, a1, a2] w R by kernel_rfl) h)

/-! ### 74: handbill/omap.Keys[int,string]$1 -/
def sh74 (a0 a1 : Value) (w : World) (R : Value → World → Prop) : Prop :=
 RunV Try.prog (Instr.box 71 a0) w fun t2_1 w =>
 RunW Try.prog (Instr.loadAt 52 a1) w fun t4_2 =>
 RunW Try.prog (bin .eql 52 (.tmp 4) (.const (.nilFunc)) t4_2 (.nilFunc)) w fun t5_3 =>
 IfB t5_3 (
 R (.tuple #[]) w) (
 RunW Try.prog (Instr.loadAt 52 a1) w fun t6_4 =>
 rngP Try.prog none 2 2 (fun l_5 K_6 t7_12 t8_13 w =>
 K_6 t2_1 t7_12 w) (fun l_5 kn_7 ks_8 t2_14 t3_15 w =>
 RunW Try.prog (Instr.loadAt 71 t2_14) w fun t9_16 =>
 CallV Try.prog t9_16 #[t3_15] w fun t11_17 w =>
 RunA Try.prog (Op.unary .not t11_17) fun t12_18 =>
 IfB t12_18 (
 ks_8 .ret w) (
 kn_7 w)) t6_4 w (fun D_9 w =>
 (w).heap[D_9]? = some (.deferred (some [])) ∧ (
 R (.tuple #[]) (w.putObj D_9 (.deferred none)))) (fun D_9 c_10 w => jumpK (fun i_11 w =>
 bif Nat.beq i_11 0 then (
 (w).heap[D_9]? = some (.deferred (some [])) ∧ (
 R (.tuple #[]) (w.putObj D_9 (.deferred none)))) else (
 False)) (fun w =>
 (w).heap[D_9]? = some (.deferred (some [])) ∧ (
 R (.tuple #[]) (w.putObj D_9 (.deferred none)))) c_10 w))
theorem sh74_calls {a0 a1 : Value} {w : World} {R : Value → World → Prop} (h : sh74 a0 a1 w R) : CallF Try.prog 74 #[a0, a1] w R :=
  calls_of_denF (mk := true) (args := [a0, a1]) (an := (.seq (.ops [1, 2]) (.seq (.seq (.ops [1, 2, 5]) (.cond .leaf .leaf)) (.seq (.ops [2, 6]) (.blk (.rng [2, 3] (.ops [2, 3]) (.blk (.seq (.ops [12]) (.cond .leaf .leaf))))))))) (c := Try.f74.body.getD .skip) hent Try.func74 rfl (Nat.le_of_ble_eq_true (by kernel_rfl))
    (Eq.mp (show sh74 a0 a1 w R = denF Try.prog ent true Try.f74 (.seq (.ops [1, 2]) (.seq (.seq (.ops [1, 2, 5]) (.cond .leaf .leaf)) (.seq (.ops [2, 6]) (.blk (.rng [2, 3] (.ops [2, 3]) (.blk (.seq (.ops [12]) (.cond .leaf .leaf)))))))) (Try.f74.body.getD .skip) [a0, a1] w R by kernel_rfl) h)

/-! ### 75: (*handbill/omap.Map[int, string]).All$1 -/
def sh75 (a0 a1 : Value) (w : World) (R : Value → World → Prop) : Prop :=
 RunW Try.prog (Instr.loadAt 41 a1) w fun t5_1 =>
 RunA Try.prog (nilV t5_1) fun t6_2 =>
 RunA Try.prog (Instr.fieldAt 121 t6_2 0) fun t7_3 =>
 RunW Try.prog (Instr.loadAt 119 t7_3) w fun t8_4 =>
 CallF Try.prog 76 #[t8_4] w fun t9_5 w =>
 RunW Try.prog (Builtin.len_ #[119] 3 #[t9_5]) w fun t10_6 =>
 lp 1 (fun n_8 t11_7 w =>
 RunA Try.prog (bin .lss 3 (.tmp 11) (.tmp 10) t11_7 t10_6) fun t12_9 =>
 IfB t12_9 (
 RunA Try.prog (Instr.indexAt 119 t9_5 t11_7) fun t13_10 =>
 RunW Try.prog (Instr.loadAt 123 t13_10) w fun t14_11 =>
 RunV Try.prog (Instr.alloc 123 true (.tuple #[])) w fun t4_12 w =>
 RunU Try.prog (Instr.storeAt 123 t4_12 t14_11) w fun w =>
 RunA Try.prog (Instr.fieldAt 123 t4_12 0) fun t16_13 =>
 RunW Try.prog (Instr.loadAt 3 t16_13) w fun t17_14 =>
 RunA Try.prog (Instr.fieldAt 123 t4_12 1) fun t18_15 =>
 RunW Try.prog (Instr.loadAt 9 t18_15) w fun t19_16 =>
 CallV Try.prog a0 #[t17_14, t19_16] w fun t20_17 w =>
 RunA Try.prog (Op.unary .not t20_17) fun t21_18 =>
 IfB t21_18 (
 R (.tuple #[]) w) (
 RunA Try.prog (bin .add 3 (.tmp 11) (.const (.int .i64 1)) t11_7 (.int .i64 1)) fun t22_19 =>
 (a0 : Value) = a0 ∧ ((t9_5 : Value) = t9_5 ∧ ((t10_6 : Value) = t10_6 ∧ (n_8 t22_19 w))))) (
 R (.tuple #[]) w)) [(.int .i64 0)] w
theorem sh75_calls {a0 a1 : Value} {w : World} {R : Value → World → Prop} (h : sh75 a0 a1 w R) : CallF Try.prog 75 #[a0, a1] w R :=
  calls_of_denF (mk := false) (args := [a0, a1]) (an := (.seq (.ops [0, 9, 10, 11]) (.blk (.loop [0, 9, 10] [11] (.seq (.ops [0, 9, 10, 11, 12]) (.seq (.cond .leaf .leaf) (.seq (.blk (.seq (.ops [0, 4, 9, 10, 11]) (.seq (.ops [0, 9, 10, 11, 21]) (.cond .leaf .leaf)))) (.ops [0, 9, 10, 11])))))))) (c := Try.f75.body.getD .skip) hent Try.func75 rfl (Nat.le_of_ble_eq_true (by kernel_rfl))
    (Eq.mp (show sh75 a0 a1 w R = denF Try.prog ent false Try.f75 (.seq (.ops [0, 9, 10, 11]) (.blk (.loop [0, 9, 10] [11] (.seq (.ops [0, 9, 10, 11, 12]) (.seq (.cond .leaf .leaf) (.seq (.blk (.seq (.ops [0, 4, 9, 10, 11]) (.seq (.ops [0, 9, 10, 11, 21]) (.cond .leaf .leaf)))) (.ops [0, 9, 10, 11]))))))) (Try.f75.body.getD .skip) [a0, a1] w R by kernel_rfl) h)

/-! ### 76: slices.Clone[[]handbill/omap.pair[int, string],handbill/omap.pair[int, string]] -/
def sh76 (a0 : Value) (w : World) (R : Value → World → Prop) : Prop :=
 RunW Try.prog (bin .eql 119 (.tmp 3) (.const (.slice none 0 0)) a0 (.slice none 0 0)) w fun t4_1 =>
 IfB t4_1 (
 R (.slice none 0 0) w) (
 RunV Try.prog (Instr.buildSlice 119 0 #[]) w fun t5_2 w =>
 RunV Try.prog (Builtin.append_ #[119, 119] 119 #[t5_2, a0]) w fun t7_3 w =>
 R t7_3 w)
theorem sh76_calls {a0 : Value} {w : World} {R : Value → World → Prop} (h : sh76 a0 w R) : CallF Try.prog 76 #[a0] w R :=
  calls_of_denF (mk := false) (args := [a0]) (an := (.seq (.ops [0]) (.seq (.seq (.ops [0, 4]) (.cond (.seq (.ops [2]) .leaf) .leaf)) (.seq (.ops [2]) .leaf)))) (c := Try.f76.body.getD .skip) hent Try.func76 rfl (Nat.le_of_ble_eq_true (by kernel_rfl))
    (Eq.mp (show sh76 a0 w R = denF Try.prog ent false Try.f76 (.seq (.ops [0]) (.seq (.seq (.ops [0, 4]) (.cond (.seq (.ops [2]) .leaf) .leaf)) (.seq (.ops [2]) .leaf))) (Try.f76.body.getD .skip) [a0] w R by kernel_rfl) h)

/-! ### 77: (*handbill/omap.Map[int, string]).Range$1 -/
def sh77 (a0 a1 a2 a3 : Value) (w : World) (R : Value → World → Prop) : Prop :=
 RunW Try.prog (Instr.loadAt 41 a1) w fun t12_1 =>
 RunW Try.prog (Instr.loadAt 3 a2) w fun t13_2 =>
 CallF Try.prog 72 #[t12_1, t13_2] w fun t14_3 w =>
 RunA Try.prog (Instr.extract t14_3 0) fun t15_4 =>
 RunA Try.prog (Instr.extract t14_3 1) fun t16_5 =>
 RunW Try.prog (Instr.loadAt 41 a1) w fun t18_6 =>
 RunW Try.prog (Instr.loadAt 3 a3) w fun t19_7 =>
 CallF Try.prog 72 #[t18_6, t19_7] w fun t20_8 w =>
 RunA Try.prog (Instr.extract t20_8 0) fun t21_9 =>
 RunA Try.prog (Instr.extract t20_8 1) fun t22_10 =>
 RunW Try.prog (Instr.loadAt 41 a1) w fun t23_11 =>
 RunA Try.prog (nilV t23_11) fun t24_12 =>
 RunA Try.prog (Instr.fieldAt 121 t24_12 0) fun t25_13 =>
 RunW Try.prog (Instr.loadAt 119 t25_13) w fun t26_14 =>
 RunW Try.prog (Builtin.max_ #[3, 3] 3 #[t15_4, t21_9]) w fun t30_15 =>
 RunA Try.prog (Instr.sliceAt 119 t26_14 (some t15_4) (some t30_15) none) fun t31_16 =>
 CallF Try.prog 76 #[t31_16] w fun t32_17 w =>
 RunW Try.prog (Builtin.len_ #[119] 3 #[t32_17]) w fun t33_18 =>
 lp 1 (fun n_20 t34_19 w =>
 RunA Try.prog (bin .lss 3 (.tmp 34) (.tmp 33) t34_19 t33_18) fun t35_21 =>
 IfB t35_21 (
 RunA Try.prog (Instr.indexAt 119 t32_17 t34_19) fun t36_22 =>
 RunW Try.prog (Instr.loadAt 123 t36_22) w fun t37_23 =>
 RunV Try.prog (Instr.alloc 123 true (.tuple #[])) w fun t10_24 w =>
 RunU Try.prog (Instr.storeAt 123 t10_24 t37_23) w fun w =>
 RunA Try.prog (Instr.fieldAt 123 t10_24 0) fun t39_25 =>
 RunW Try.prog (Instr.loadAt 3 t39_25) w fun t40_26 =>
 RunA Try.prog (Instr.fieldAt 123 t10_24 1) fun t41_27 =>
 RunW Try.prog (Instr.loadAt 9 t41_27) w fun t42_28 =>
 CallV Try.prog a0 #[t40_26, t42_28] w fun t43_29 w =>
 RunA Try.prog (Op.unary .not t43_29) fun t44_30 =>
 IfB t44_30 (
 R (.tuple #[]) w) (
 RunA Try.prog (bin .add 3 (.tmp 34) (.const (.int .i64 1)) t34_19 (.int .i64 1)) fun t45_31 =>
 (a0 : Value) = a0 ∧ ((t32_17 : Value) = t32_17 ∧ ((t33_18 : Value) = t33_18 ∧ (n_20 t45_31 w))))) (
 R (.tuple #[]) w)) [(.int .i64 0)] w
theorem sh77_calls {a0 a1 a2 a3 : Value} {w : World} {R : Value → World → Prop} (h : sh77 a0 a1 a2 a3 w R) : CallF Try.prog 77 #[a0, a1, a2, a3] w R :=
  calls_of_denF (mk := false) (args := [a0, a1, a2, a3]) (an := (.seq (.ops [0, 1, 3, 5]) (.seq (.ops [0, 1, 5, 7]) (.seq (.ops [0, 32, 33, 34]) (.blk (.loop [0, 32, 33] [34] (.seq (.ops [0, 32, 33, 34, 35]) (.seq (.cond .leaf .leaf) (.seq (.blk (.seq (.ops [0, 10, 32, 33, 34]) (.seq (.ops [0, 32, 33, 34, 44]) (.cond .leaf .leaf)))) (.ops [0, 32, 33, 34])))))))))) (c := Try.f77.body.getD .skip) hent Try.func77 rfl (Nat.le_of_ble_eq_true (by kernel_rfl))
    (Eq.mp (show sh77 a0 a1 a2 a3 w R = denF Try.prog ent false Try.f77 (.seq (.ops [0, 1, 3, 5]) (.seq (.ops [0, 1, 5, 7]) (.seq (.ops [0, 32, 33, 34]) (.blk (.loop [0, 32, 33] [34] (.seq (.ops [0, 32, 33, 34, 35]) (.seq (.cond .leaf .leaf) (.seq (.blk (.seq (.ops [0, 10, 32, 33, 34]) (.seq (.ops [0, 32, 33, 34, 44]) (.cond .leaf .leaf)))) (.ops [0, 32, 33, 34]))))))))) (Try.f77.body.getD .skip) [a0, a1, a2, a3] w R by kernel_rfl) h)

/-! ### 78: handbill/omap.Merge[int,string]$1 -/
def sh78 (a0 a1 a2 : Value) (w : World) (R : Value → World → Prop) : Prop :=
 drw (fun S_1 w =>
 RunS Try.prog S_1 (Instr.loadAt 52 a1) fun t7_2 =>
 RunS Try.prog S_1 (Instr.loadAt 52 a2) fun t9_3 =>
 CallF Try.prog 79 #[t7_2] w fun t8_4 w =>
 S_1 w ∧ (
 CallF Try.prog 79 #[t9_3] w fun t10_5 w =>
 lp 2 (fun n_8 t4_6 t5_7 w =>
 RunW Try.prog (Builtin.len_ #[119] 3 #[t4_6]) w fun t12_9 =>
 RunW Try.prog (Builtin.len_ #[119] 3 #[t5_7]) w fun t14_10 =>
 RunA Try.prog (bin .add 3 (.tmp 12) (.tmp 14) t12_9 t14_10) fun t15_11 =>
 RunA Try.prog (bin .gtr 3 (.tmp 15) (.const (.int .i64 0)) t15_11 (.int .i64 0)) fun t16_12 =>
 IfB t16_12 (
 RunV Try.prog (Instr.alloc 123 true (.tuple #[])) w fun t6_13 w =>
 jn 4 (fun t0_14 t4_15 t5_16 t6_17 w =>
 RunA Try.prog (Instr.fieldAt 123 t6_17 0) fun t70_19 =>
 RunW Try.prog (Instr.loadAt 3 t70_19) w fun t71_20 =>
 RunA Try.prog (Instr.fieldAt 123 t6_17 1) fun t72_21 =>
 RunW Try.prog (Instr.loadAt 9 t72_21) w fun t73_22 =>
 CallV Try.prog t0_14 #[t71_20, t73_22] w fun t74_23 w =>
 RunA Try.prog (Op.unary .not t74_23) fun t75_24 =>
 IfB t75_24 (
 R (.tuple #[]) w) (
 (t0_14 : Value) = a0 ∧ (n_8 t4_15 t5_16 w))) fun j_18 =>
 drw (fun S_25 w =>
 RunS Try.prog S_25 (Builtin.len_ #[119] 3 #[t5_7]) fun t24_26 =>
 RunS Try.prog S_25 (bin .eql 3 (.tmp 24) (.const (.int .i64 0)) t24_26 (.int .i64 0)) fun t25_27 =>
 IfB t25_27 (
 drw (fun S_28 w =>
 RunA Try.prog (Instr.indexAt 119 t4_6 (.int .i64 0)) fun t43_29 =>
 RunS Try.prog S_28 (Instr.loadAt 123 t43_29) fun t44_30 =>
 RunA Try.prog (Instr.sliceAt 119 t4_6 (some (.int .i64 1)) none none) fun t46_31 =>
 RunU Try.prog (Instr.storeAt 123 t6_13 t44_30) w fun w =>
 j_18 a0 t46_31 t5_7 t6_13 w) w) (
 RunS Try.prog S_25 (Builtin.len_ #[119] 3 #[t4_6]) fun t28_32 =>
 RunA Try.prog (bin .gtr 3 (.tmp 28) (.const (.int .i64 0)) t28_32 (.int .i64 0)) fun t29_33 =>
 IfB t29_33 (
 RunA Try.prog (Instr.indexAt 119 t4_6 (.int .i64 0)) fun t32_34 =>
 RunA Try.prog (Instr.fieldAt 123 t32_34 0) fun t33_35 =>
 RunS Try.prog S_25 (Instr.loadAt 3 t33_35) fun t34_36 =>
 RunA Try.prog (Instr.indexAt 119 t5_7 (.int .i64 0)) fun t36_37 =>
 RunA Try.prog (Instr.fieldAt 123 t36_37 0) fun t37_38 =>
 RunS Try.prog S_25 (Instr.loadAt 3 t37_38) fun t38_39 =>
 RunA Try.prog (bin .lss 3 (.tmp 34) (.tmp 38) t34_36 t38_39) fun t39_40 =>
 IfB t39_40 (
 drw (fun S_41 w =>
 RunA Try.prog (Instr.indexAt 119 t4_6 (.int .i64 0)) fun t43_42 =>
 RunS Try.prog S_41 (Instr.loadAt 123 t43_42) fun t44_43 =>
 RunA Try.prog (Instr.sliceAt 119 t4_6 (some (.int .i64 1)) none none) fun t46_44 =>
 RunU Try.prog (Instr.storeAt 123 t6_13 t44_43) w fun w =>
 j_18 a0 t46_44 t5_7 t6_13 w) w) (
 jn 4 (fun t0_45 t4_46 t5_47 t6_48 w =>
 j_18 t0_45 t4_46 t5_47 t6_48 w) fun j_49 =>
 drw (fun S_50 w =>
 RunS Try.prog S_50 (Builtin.len_ #[119] 3 #[t4_6]) fun t49_51 =>
 RunA Try.prog (bin .gtr 3 (.tmp 49) (.const (.int .i64 0)) t49_51 (.int .i64 0)) fun t50_52 =>
 IfB t50_52 (
 RunA Try.prog (Instr.indexAt 119 t4_6 (.int .i64 0)) fun t53_53 =>
 RunA Try.prog (Instr.fieldAt 123 t53_53 0) fun t54_54 =>
 RunS Try.prog S_50 (Instr.loadAt 3 t54_54) fun t55_55 =>
 RunA Try.prog (Instr.indexAt 119 t5_7 (.int .i64 0)) fun t57_56 =>
 RunA Try.prog (Instr.fieldAt 123 t57_56 0) fun t58_57 =>
 RunS Try.prog S_50 (Instr.loadAt 3 t58_57) fun t59_58 =>
 RunS Try.prog S_50 (bin .eql 3 (.tmp 55) (.tmp 59) t55_55 t59_58) fun t60_59 =>
 IfB t60_59 (
 drw (fun S_60 w =>
 RunA Try.prog (Instr.indexAt 119 t5_7 (.int .i64 0)) fun t63_61 =>
 RunS Try.prog S_60 (Instr.loadAt 123 t63_61) fun t64_62 =>
 RunA Try.prog (Instr.sliceAt 119 t4_6 (some (.int .i64 1)) none none) fun t66_63 =>
 RunA Try.prog (Instr.sliceAt 119 t5_7 (some (.int .i64 1)) none none) fun t68_64 =>
 RunU Try.prog (Instr.storeAt 123 t6_13 t64_62) w fun w =>
 j_49 a0 t66_63 t68_64 t6_13 w) w) (
 drw (fun S_65 w =>
 RunA Try.prog (Instr.indexAt 119 t5_7 (.int .i64 0)) fun t18_66 =>
 RunS Try.prog S_65 (Instr.loadAt 123 t18_66) fun t19_67 =>
 RunA Try.prog (Instr.sliceAt 119 t5_7 (some (.int .i64 1)) none none) fun t21_68 =>
 RunU Try.prog (Instr.storeAt 123 t6_13 t19_67) w fun w =>
 j_49 a0 t4_6 t21_68 t6_13 w) w)) (
 drw (fun S_69 w =>
 RunA Try.prog (Instr.indexAt 119 t5_7 (.int .i64 0)) fun t18_70 =>
 RunS Try.prog S_69 (Instr.loadAt 123 t18_70) fun t19_71 =>
 RunA Try.prog (Instr.sliceAt 119 t5_7 (some (.int .i64 1)) none none) fun t21_72 =>
 RunU Try.prog (Instr.storeAt 123 t6_13 t19_71) w fun w =>
 j_49 a0 t4_6 t21_72 t6_13 w) w)) w)) (
 jn 4 (fun t0_73 t4_74 t5_75 t6_76 w =>
 j_18 t0_73 t4_74 t5_75 t6_76 w) fun j_77 =>
 drw (fun S_78 w =>
 RunS Try.prog S_78 (Builtin.len_ #[119] 3 #[t4_6]) fun t49_79 =>
 RunA Try.prog (bin .gtr 3 (.tmp 49) (.const (.int .i64 0)) t49_79 (.int .i64 0)) fun t50_80 =>
 IfB t50_80 (
 RunA Try.prog (Instr.indexAt 119 t4_6 (.int .i64 0)) fun t53_81 =>
 RunA Try.prog (Instr.fieldAt 123 t53_81 0) fun t54_82 =>
 RunS Try.prog S_78 (Instr.loadAt 3 t54_82) fun t55_83 =>
 RunA Try.prog (Instr.indexAt 119 t5_7 (.int .i64 0)) fun t57_84 =>
 RunA Try.prog (Instr.fieldAt 123 t57_84 0) fun t58_85 =>
 RunS Try.prog S_78 (Instr.loadAt 3 t58_85) fun t59_86 =>
 RunS Try.prog S_78 (bin .eql 3 (.tmp 55) (.tmp 59) t55_83 t59_86) fun t60_87 =>
 IfB t60_87 (
 drw (fun S_88 w =>
 RunA Try.prog (Instr.indexAt 119 t5_7 (.int .i64 0)) fun t63_89 =>
 RunS Try.prog S_88 (Instr.loadAt 123 t63_89) fun t64_90 =>
 RunA Try.prog (Instr.sliceAt 119 t4_6 (some (.int .i64 1)) none none) fun t66_91 =>
 RunA Try.prog (Instr.sliceAt 119 t5_7 (some (.int .i64 1)) none none) fun t68_92 =>
 RunU Try.prog (Instr.storeAt 123 t6_13 t64_90) w fun w =>
 j_77 a0 t66_91 t68_92 t6_13 w) w) (
 drw (fun S_93 w =>
 RunA Try.prog (Instr.indexAt 119 t5_7 (.int .i64 0)) fun t18_94 =>
 RunS Try.prog S_93 (Instr.loadAt 123 t18_94) fun t19_95 =>
 RunA Try.prog (Instr.sliceAt 119 t5_7 (some (.int .i64 1)) none none) fun t21_96 =>
 RunU Try.prog (Instr.storeAt 123 t6_13 t19_95) w fun w =>
 j_77 a0 t4_6 t21_96 t6_13 w) w)) (
 drw (fun S_97 w =>
 RunA Try.prog (Instr.indexAt 119 t5_7 (.int .i64 0)) fun t18_98 =>
 RunS Try.prog S_97 (Instr.loadAt 123 t18_98) fun t19_99 =>
 RunA Try.prog (Instr.sliceAt 119 t5_7 (some (.int .i64 1)) none none) fun t21_100 =>
 RunU Try.prog (Instr.storeAt 123 t6_13 t19_99) w fun w =>
 j_77 a0 t4_6 t21_100 t6_13 w) w)) w))) w) (
 R (.tuple #[]) w)) [t8_4, t10_5] w)) w
theorem sh78_calls {a0 a1 a2 : Value} {w : World} {R : Value → World → Prop} (h : sh78 a0 a1 a2 w R) : CallF Try.prog 78 #[a0, a1, a2] w R :=
  calls_of_denF (mk := false) (args := [a0, a1, a2]) (an := (.seq (.draw (.q 0 (.q 2 (.one 1 (.one 3 (.q 4 (.q 5 .fin)))))) [0, 4, 5]) (.blk (.loop [0] [4, 5] (.seq (.seq (.ops [0, 4, 5, 16]) (.cond .leaf .leaf)) (.blk (.seq (.ops [0, 4, 5, 6]) (.seq (.blk (.join [0, 4, 5, 6] (.seq (.draw (.q 0 (.q 1 (.q 2 (.q 3 (.sp 4 (.q 4 (.q 5 (.q 6 (.q 7 (.q 8 (.q 9 (.q 10 (.q 11 (.q 12 (.q 13 (.q 14 (.q 15 (.q 16 (.q 17 (.q 18 (.q 19 .fin)))))))))))))))) (.q 4 (.q 5 (.q 6 (.q 7 (.sp 8 (.q 8 (.q 9 (.q 10 (.q 11 (.q 12 (.q 13 (.q 14 (.q 15 (.q 16 (.q 17 (.q 18 (.q 19 .fin)))))))))))) (.q 8 (.q 9 (.q 10 (.q 11 (.q 12 (.q 13 (.q 14 (.q 15 (.q 16 (.q 17 (.q 18 (.q 19 .fin)))))))))))))))))))))) [0, 4, 5, 6, 22]) (.cond (.draw (.q 0 (.q 1 (.q 2 (.q 3 (.q 4 (.one 5 (.q 6 .fin))))))) [0, 4, 5, 6]) (.join [0, 4, 5, 6] (.seq (.draw (.q 0 (.q 1 (.q 2 (.q 3 (.sp 4 (.q 4 (.q 5 (.q 6 (.q 7 (.q 8 (.q 9 (.q 10 (.q 11 (.q 12 (.q 13 (.q 14 .fin))))))))))) (.q 4 (.q 5 (.q 6 (.q 7 (.q 8 (.q 9 (.q 10 (.q 11 (.q 12 (.q 13 (.q 14 .fin)))))))))))))))) [0, 4, 5, 6, 47]) (.cond (.draw (.q 0 (.q 1 (.q 2 (.q 3 (.q 4 (.q 5 (.q 6 (.one 7 (.q 8 (.q 9 .fin)))))))))) [0, 4, 5, 6]) (.draw (.q 0 (.q 1 (.q 2 (.q 3 (.q 4 (.one 5 (.q 6 .fin))))))) [0, 4, 5, 6])))))))) (.seq (.ops [0, 4, 5, 75]) (.cond .leaf .leaf)))))))))) (c := Try.f78.body.getD .skip) hent Try.func78 rfl (Nat.le_of_ble_eq_true (by kernel_rfl))
    (Eq.mp (show sh78 a0 a1 a2 w R = denF Try.prog ent false Try.f78 (.seq (.draw (.q 0 (.q 2 (.one 1 (.one 3 (.q 4 (.q 5 .fin)))))) [0, 4, 5]) (.blk (.loop [0] [4, 5] (.seq (.seq (.ops [0, 4, 5, 16]) (.cond .leaf .leaf)) (.blk (.seq (.ops [0, 4, 5, 6]) (.seq (.blk (.join [0, 4, 5, 6] (.seq (.draw (.q 0 (.q 1 (.q 2 (.q 3 (.sp 4 (.q 4 (.q 5 (.q 6 (.q 7 (.q 8 (.q 9 (.q 10 (.q 11 (.q 12 (.q 13 (.q 14 (.q 15 (.q 16 (.q 17 (.q 18 (.q 19 .fin)))))))))))))))) (.q 4 (.q 5 (.q 6 (.q 7 (.sp 8 (.q 8 (.q 9 (.q 10 (.q 11 (.q 12 (.q 13 (.q 14 (.q 15 (.q 16 (.q 17 (.q 18 (.q 19 .fin)))))))))))) (.q 8 (.q 9 (.q 10 (.q 11 (.q 12 (.q 13 (.q 14 (.q 15 (.q 16 (.q 17 (.q 18 (.q 19 .fin)))))))))))))))))))))) [0, 4, 5, 6, 22]) (.cond (.draw (.q 0 (.q 1 (.q 2 (.q 3 (.q 4 (.one 5 (.q 6 .fin))))))) [0, 4, 5, 6]) (.join [0, 4, 5, 6] (.seq (.draw (.q 0 (.q 1 (.q 2 (.q 3 (.sp 4 (.q 4 (.q 5 (.q 6 (.q 7 (.q 8 (.q 9 (.q 10 (.q 11 (.q 12 (.q 13 (.q 14 .fin))))))))))) (.q 4 (.q 5 (.q 6 (.q 7 (.q 8 (.q 9 (.q 10 (.q 11 (.q 12 (.q 13 (.q 14 .fin)))))))))))))))) [0, 4, 5, 6, 47]) (.cond (.draw (.q 0 (.q 1 (.q 2 (.q 3 (.q 4 (.q 5 (.q 6 (.one 7 (.q 8 (.q 9 .fin)))))))))) [0, 4, 5, 6]) (.draw (.q 0 (.q 1 (.q 2 (.q 3 (.q 4 (.one 5 (.q 6 .fin))))))) [0, 4, 5, 6])))))))) (.seq (.ops [0, 4, 5, 75]) (.cond .leaf .leaf))))))))) (Try.f78.body.getD .skip) [a0, a1, a2] w R by kernel_rfl) h)

/-! ### 79: handbill/omap.taken[int,string] -/
def sh79 (a0 : Value) (w : World) (R : Value → World → Prop) : Prop :=
 RunW Try.prog (bin .eql 52 (.tmp 6) (.const (.nilFunc)) a0 (.nilFunc)) w fun t7_1 =>
 IfB t7_1 (
 R (.slice none 0 0) w) (
 RunV Try.prog (Instr.alloc 119 true (.tuple #[])) w fun t3_2 w =>
 rngP Try.prog none 2 3 (fun l_3 K_4 t9_10 t10_11 w =>
 K_4 t3_2 t9_10 t10_11 w) (fun l_3 kn_5 ks_6 t3_12 t4_13 t5_14 w =>
 RunW Try.prog (Instr.loadAt 119 t3_12) w fun t11_15 =>
 RunV Try.prog (Instr.build 123 #[(0, t4_13), (1, t5_14)]) w fun t14_16 w =>
 RunV Try.prog (Instr.buildSlice 119 1 #[(0, t14_16)]) w fun t15_17 w =>
 RunV Try.prog (Builtin.append_ #[119, 119] 119 #[t11_15, t15_17]) w fun t16_18 w =>
 RunU Try.prog (Instr.storeAt 119 t3_12 t16_18) w fun w =>
 kn_5 w) a0 w (fun D_7 w =>
 RunW Try.prog (Instr.loadAt 119 t3_2) w fun t17_19 =>
 (w).heap[D_7]? = some (.deferred (some [])) ∧ (
 R t17_19 (w.putObj D_7 (.deferred none)))) (fun D_7 c_8 w => jumpK (fun i_9 w =>
 bif Nat.beq i_9 0 then (
 RunW Try.prog (Instr.loadAt 119 t3_2) w fun t17_20 =>
 (w).heap[D_7]? = some (.deferred (some [])) ∧ (
 R t17_20 (w.putObj D_7 (.deferred none)))) else (
 False)) (fun w =>
 (w).heap[D_7]? = some (.deferred (some [])) ∧ (
 False)) c_8 w))
theorem sh79_calls {a0 : Value} {w : World} {R : Value → World → Prop} (h : sh79 a0 w R) : CallF Try.prog 79 #[a0] w R :=
  calls_of_denF (mk := true) (args := [a0]) (an := (.seq (.ops [0]) (.seq (.seq (.ops [0, 7]) (.cond (.seq (.ops [2]) .leaf) .leaf)) (.seq (.ops [0, 3]) (.seq (.seq (.ops [3, 8]) (.blk (.rng [3, 4, 5] (.seq (.ops [3, 4, 10]) (.ops [3, 4, 5])) (.blk (.ops []))))) (.seq (.ops [2]) .leaf)))))) (c := Try.f79.body.getD .skip) hent Try.func79 rfl (Nat.le_of_ble_eq_true (by kernel_rfl))
    (Eq.mp (show sh79 a0 w R = denF Try.prog ent true Try.f79 (.seq (.ops [0]) (.seq (.seq (.ops [0, 7]) (.cond (.seq (.ops [2]) .leaf) .leaf)) (.seq (.ops [0, 3]) (.seq (.seq (.ops [3, 8]) (.blk (.rng [3, 4, 5] (.seq (.ops [3, 4, 10]) (.ops [3, 4, 5])) (.blk (.ops []))))) (.seq (.ops [2]) .leaf))))) (Try.f79.body.getD .skip) [a0] w R by kernel_rfl) h)

/-! ### 80: (*handbill/omap.Map[int, []int]).find -/
def sh80 (a0 a1 : Value) (w : World) (R : Value → World → Prop) : Prop :=
 RunA Try.prog (nilV a0) fun t7_1 =>
 RunA Try.prog (Instr.fieldAt 129 t7_1 0) fun t8_2 =>
 RunW Try.prog (Instr.loadAt 127 t8_2) w fun t9_3 =>
 CallF Try.prog 107 #[t9_3, a1, (.func (.func 108) #[] #[])] w fun t11_4 w =>
 RunA Try.prog (Instr.extract t11_4 0) fun t12_5 =>
 RunA Try.prog (Instr.extract t11_4 1) fun t13_6 =>
 R (.tuple #[t12_5, t13_6]) w
theorem sh80_calls {a0 a1 : Value} {w : World} {R : Value → World → Prop} (h : sh80 a0 a1 w R) : CallF Try.prog 80 #[a0, a1] w R :=
  calls_of_denF (mk := false) (args := [a0, a1]) (an := (.seq (.ops [0, 1]) (.seq (.ops [4, 5]) .leaf))) (c := Try.f80.body.getD .skip) hent Try.func80 rfl (Nat.le_of_ble_eq_true (by kernel_rfl))
    (Eq.mp (show sh80 a0 a1 w R = denF Try.prog ent false Try.f80 (.seq (.ops [0, 1]) (.seq (.ops [4, 5]) .leaf)) (Try.f80.body.getD .skip) [a0, a1] w R by kernel_rfl) h)

/-! ### 81: slices.Insert[[]handbill/omap.pair[int, []int],handbill/omap.pair[int, []int]] -/
def sh81 (a0 a1 a2 : Value) (w : World) (R : Value → World → Prop) : Prop :=
 RunA Try.prog (Instr.sliceAt 127 a0 (some a1) none none) fun t12_1 =>
 RunW Try.prog (Builtin.len_ #[127] 3 #[a2]) w fun t14_2 =>
 RunW Try.prog (bin .eql 3 (.tmp 15) (.const (.int .i64 0)) t14_2 (.int .i64 0)) w fun t16_3 =>
 IfB t16_3 (
 R a0 w) (
 RunW Try.prog (Builtin.len_ #[127] 3 #[a0]) w fun t19_4 =>
 RunW Try.prog (bin .eql 3 (.tmp 20) (.tmp 21) a1 t19_4) w fun t22_5 =>
 IfB t22_5 (
 RunV Try.prog (Builtin.append_ #[127, 127] 127 #[a0, a2]) w fun t25_6 w =>
 R t25_6 w) (
 RunA Try.prog (bin .add 3 (.tmp 26) (.tmp 27) t19_4 t14_2) fun t28_7 =>
 RunW Try.prog (Builtin.cap_ #[127] 3 #[a0]) w fun t30_8 =>
 RunA Try.prog (bin .gtr 3 (.tmp 28) (.tmp 30) t28_7 t30_8) fun t31_9 =>
 IfB t31_9 (
 RunA Try.prog (Instr.sliceAt 127 a0 none (some a1) none) fun t34_10 =>
 RunA Try.prog (bin .add 3 (.tmp 35) (.tmp 36) t19_4 t14_2) fun t37_11 =>
 RunA Try.prog (bin .sub 3 (.tmp 37) (.tmp 38) t37_11 a1) fun t39_12 =>
 RunV Try.prog (Builtin.append_ #[127, 3] 127 #[t34_10, t39_12]) w fun t40_13 w =>
 RunA Try.prog (Instr.sliceAt 127 t40_13 (some a1) none none) fun t43_14 =>
 RunV Try.prog (Builtin.copy_ #[127, 127] 3 #[t43_14, a2]) w fun t45_15 w =>
 drw (fun S_16 w =>
 RunA Try.prog (bin .add 3 (.tmp 47) (.tmp 48) a1 t14_2) fun t49_17 =>
 RunA Try.prog (Instr.sliceAt 127 t40_13 (some t49_17) none none) fun t50_18 =>
 RunA Try.prog (Instr.sliceAt 127 a0 (some a1) none none) fun t53_19 =>
 RunV Try.prog (Builtin.copy_ #[127, 127] 3 #[t50_18, t53_19]) w fun t54_20 w =>
 R t40_13 w) w) (
 RunA Try.prog (bin .add 3 (.tmp 57) (.tmp 58) t19_4 t14_2) fun t59_21 =>
 RunA Try.prog (Instr.sliceAt 127 a0 none (some t59_21) none) fun t60_22 =>
 RunA Try.prog (bin .add 3 (.tmp 63) (.tmp 64) a1 t14_2) fun t65_23 =>
 RunA Try.prog (Instr.sliceAt 127 t60_22 (some t65_23) none none) fun t66_24 =>
 RunO Try.prog (callFunc 109 #[a2, t66_24]) w fun t67_25 w =>
 RunA Try.prog (Op.unary .not t67_25) fun t68_26 =>
 IfB t68_26 (
 drw (fun S_27 w =>
 RunA Try.prog (bin .add 3 (.tmp 70) (.tmp 71) a1 t14_2) fun t72_28 =>
 RunA Try.prog (Instr.sliceAt 127 t60_22 (some t72_28) none none) fun t73_29 =>
 RunA Try.prog (Instr.sliceAt 127 t60_22 (some a1) none none) fun t76_30 =>
 RunV Try.prog (Builtin.copy_ #[127, 127] 3 #[t73_29, t76_30]) w fun t77_31 w =>
 RunA Try.prog (Instr.sliceAt 127 t60_22 (some a1) none none) fun t80_32 =>
 RunV Try.prog (Builtin.copy_ #[127, 127] 3 #[t80_32, a2]) w fun t82_33 w =>
 R t60_22 w) w) (
 RunA Try.prog (Instr.sliceAt 127 t60_22 (some t19_4) none none) fun t86_34 =>
 RunV Try.prog (Builtin.copy_ #[127, 127] 3 #[t86_34, a2]) w fun t88_35 w =>
 RunA Try.prog (Instr.sliceAt 127 t60_22 (some a1) none none) fun t91_36 =>
 CallF Try.prog 110 #[t91_36, t14_2] w fun t93_37 w =>
 R t60_22 w))))
theorem sh81_calls {a0 a1 a2 : Value} {w : World} {R : Value → World → Prop} (h : sh81 a0 a1 a2 w R) : CallF Try.prog 81 #[a0, a1, a2] w R :=
  calls_of_denF (mk := false) (args := [a0, a1, a2]) (an := (.seq (.ops [0, 1, 2]) (.seq (.ops [0, 1, 2]) (.seq (.ops [0, 1, 2, 7]) (.seq (.seq (.ops [0, 1, 2, 7, 16]) (.cond (.seq (.ops [6]) .leaf) .leaf)) (.seq (.ops [0, 1, 2, 7, 8]) (.seq (.seq (.ops [0, 1, 2, 7, 8, 22]) (.cond (.seq (.ops [6]) .leaf) .leaf)) (.seq (.seq (.ops [0, 1, 2, 7, 8, 31]) (.cond (.seq (.ops [0, 1, 2, 7, 9]) (.seq (.ops [0, 1, 7, 9]) (.seq (.draw (.q 0 (.q 1 (.q 2 (.q 3 (.q 4 (.q 5 (.q 6 (.q 7 (.one 8 .fin))))))))) [9]) (.seq (.ops [6]) .leaf)))) .leaf)) (.seq (.ops [0, 1, 2, 7, 8]) (.seq (.seq (.ops [0, 1, 2, 7, 8, 68]) (.cond (.seq (.draw (.q 0 (.q 1 (.q 2 (.q 3 (.q 4 (.q 5 (.q 6 (.q 7 (.one 8 .fin))))))))) [0, 1, 2]) (.seq (.ops [0]) (.seq (.ops [6]) .leaf))) .leaf)) (.seq (.ops [0, 1, 7]) (.seq (.ops [0]) (.seq (.ops [6]) .leaf))))))))))))) (c := Try.f81.body.getD .skip) hent Try.func81 rfl (Nat.le_of_ble_eq_true (by kernel_rfl))
    (Eq.mp (show sh81 a0 a1 a2 w R = denF Try.prog ent false Try.f81 (.seq (.ops [0, 1, 2]) (.seq (.ops [0, 1, 2]) (.seq (.ops [0, 1, 2, 7]) (.seq (.seq (.ops [0, 1, 2, 7, 16]) (.cond (.seq (.ops [6]) .leaf) .leaf)) (.seq (.ops [0, 1, 2, 7, 8]) (.seq (.seq (.ops [0, 1, 2, 7, 8, 22]) (.cond (.seq (.ops [6]) .leaf) .leaf)) (.seq (.seq (.ops [0, 1, 2, 7, 8, 31]) (.cond (.seq (.ops [0, 1, 2, 7, 9]) (.seq (.ops [0, 1, 7, 9]) (.seq (.draw (.q 0 (.q 1 (.q 2 (.q 3 (.q 4 (.q 5 (.q 6 (.q 7 (.one 8 .fin))))))))) [9]) (.seq (.ops [6]) .leaf)))) .leaf)) (.seq (.ops [0, 1, 2, 7, 8]) (.seq (.seq (.ops [0, 1, 2, 7, 8, 68]) (.cond (.seq (.draw (.q 0 (.q 1 (.q 2 (.q 3 (.q 4 (.q 5 (.q 6 (.q 7 (.one 8 .fin))))))))) [0, 1, 2]) (.seq (.ops [0]) (.seq (.ops [6]) .leaf))) .leaf)) (.seq (.ops [0, 1, 7]) (.seq (.ops [0]) (.seq (.ops [6]) .leaf)))))))))))) (Try.f81.body.getD .skip) [a0, a1, a2] w R by kernel_rfl) h)

/-! ### 82: slices.Clone[[]handbill/omap.pair[int, []int],handbill/omap.pair[int, []int]] -/
def sh82 (a0 : Value) (w : World) (R : Value → World → Prop) : Prop :=
 RunW Try.prog (bin .eql 127 (.tmp 3) (.const (.slice none 0 0)) a0 (.slice none 0 0)) w fun t4_1 =>
 IfB t4_1 (
 R (.slice none 0 0) w) (
 RunV Try.prog (Instr.buildSlice 127 0 #[]) w fun t5_2 w =>
 RunV Try.prog (Builtin.append_ #[127, 127] 127 #[t5_2, a0]) w fun t7_3 w =>
 R t7_3 w)
theorem sh82_calls {a0 : Value} {w : World} {R : Value → World → Prop} (h : sh82 a0 w R) : CallF Try.prog 82 #[a0] w R :=
  calls_of_denF (mk := false) (args := [a0]) (an := (.seq (.ops [0]) (.seq (.seq (.ops [0, 4]) (.cond (.seq (.ops [2]) .leaf) .leaf)) (.seq (.ops [2]) .leaf)))) (c := Try.f82.body.getD .skip) hent Try.func82 rfl (Nat.le_of_ble_eq_true (by kernel_rfl))
    (Eq.mp (show sh82 a0 w R = denF Try.prog ent false Try.f82 (.seq (.ops [0]) (.seq (.seq (.ops [0, 4]) (.cond (.seq (.ops [2]) .leaf) .leaf)) (.seq (.ops [2]) .leaf))) (Try.f82.body.getD .skip) [a0] w R by kernel_rfl) h)

/-! ### 83: slices.Delete[[]handbill/omap.pair[int, []int],handbill/omap.pair[int, []int]] -/
def sh83 (a0 a1 a2 : Value) (w : World) (R : Value → World → Prop) : Prop :=
 RunW Try.prog (Builtin.len_ #[127] 3 #[a0]) w fun t12_1 =>
 RunA Try.prog (Instr.sliceAt 127 a0 (some a1) (some a2) (some t12_1)) fun t13_2 =>
 RunW Try.prog (bin .eql 3 (.tmp 14) (.tmp 15) a1 a2) w fun t16_3 =>
 IfB t16_3 (
 R a0 w) (
 RunW Try.prog (Builtin.len_ #[127] 3 #[a0]) w fun t19_4 =>
 drw (fun S_5 w =>
 RunA Try.prog (Instr.sliceAt 127 a0 none (some a1) none) fun t22_6 =>
 RunA Try.prog (Instr.sliceAt 127 a0 (some a2) none none) fun t25_7 =>
 RunV Try.prog (Builtin.append_ #[127, 127] 127 #[t22_6, t25_7]) w fun t26_8 w =>
 RunW Try.prog (Builtin.len_ #[127] 3 #[t26_8]) w fun t29_9 =>
 RunA Try.prog (Instr.sliceAt 127 t26_8 (some t29_9) (some t19_4) none) fun t31_10 =>
 RunV Try.prog (Builtin.clear_ #[127] 0 #[t31_10]) w fun t_11 w =>
 R t26_8 w) w)
theorem sh83_calls {a0 a1 a2 : Value} {w : World} {R : Value → World → Prop} (h : sh83 a0 a1 a2 w R) : CallF Try.prog 83 #[a0, a1, a2] w R :=
  calls_of_denF (mk := false) (args := [a0, a1, a2]) (an := (.seq (.ops [0, 1, 2]) (.seq (.ops [0, 1, 2]) (.seq (.seq (.ops [0, 1, 2, 16]) (.cond (.seq (.ops [6]) .leaf) .leaf)) (.seq (.ops [0, 1, 2, 7]) (.seq (.draw (.q 0 (.q 1 (.q 2 (.q 3 (.q 4 (.q 5 (.one 6 (.q 7 .fin)))))))) [0, 7]) (.seq (.ops [0]) (.seq (.ops [6]) .leaf)))))))) (c := Try.f83.body.getD .skip) hent Try.func83 rfl (Nat.le_of_ble_eq_true (by kernel_rfl))
    (Eq.mp (show sh83 a0 a1 a2 w R = denF Try.prog ent false Try.f83 (.seq (.ops [0, 1, 2]) (.seq (.ops [0, 1, 2]) (.seq (.seq (.ops [0, 1, 2, 16]) (.cond (.seq (.ops [6]) .leaf) .leaf)) (.seq (.ops [0, 1, 2, 7]) (.seq (.draw (.q 0 (.q 1 (.q 2 (.q 3 (.q 4 (.q 5 (.one 6 (.q 7 .fin)))))))) [0, 7]) (.seq (.ops [0]) (.seq (.ops [6]) .leaf))))))) (Try.f83.body.getD .skip) [a0, a1, a2] w R by kernel_rfl) h)

/-! ### 85: slices.Delete[[]handbill/omap.pair[int, string],handbill/omap.pair[int, string]] -/
def sh85 (a0 a1 a2 : Value) (w : World) (R : Value → World → Prop) : Prop :=
 RunW Try.prog (Builtin.len_ #[119] 3 #[a0]) w fun t12_1 =>
 RunA Try.prog (Instr.sliceAt 119 a0 (some a1) (some a2) (some t12_1)) fun t13_2 =>
 RunW Try.prog (bin .eql 3 (.tmp 14) (.tmp 15) a1 a2) w fun t16_3 =>
 IfB t16_3 (
 R a0 w) (
 RunW Try.prog (Builtin.len_ #[119] 3 #[a0]) w fun t19_4 =>
 drw (fun S_5 w =>
 RunA Try.prog (Instr.sliceAt 119 a0 none (some a1) none) fun t22_6 =>
 RunA Try.prog (Instr.sliceAt 119 a0 (some a2) none none) fun t25_7 =>
 RunV Try.prog (Builtin.append_ #[119, 119] 119 #[t22_6, t25_7]) w fun t26_8 w =>
 RunW Try.prog (Builtin.len_ #[119] 3 #[t26_8]) w fun t29_9 =>
 RunA Try.prog (Instr.sliceAt 119 t26_8 (some t29_9) (some t19_4) none) fun t31_10 =>
 RunV Try.prog (Builtin.clear_ #[119] 0 #[t31_10]) w fun t_11 w =>
 R t26_8 w) w)
theorem sh85_calls {a0 a1 a2 : Value} {w : World} {R : Value → World → Prop} (h : sh85 a0 a1 a2 w R) : CallF Try.prog 85 #[a0, a1, a2] w R :=
  calls_of_denF (mk := false) (args := [a0, a1, a2]) (an := (.seq (.ops [0, 1, 2]) (.seq (.ops [0, 1, 2]) (.seq (.seq (.ops [0, 1, 2, 16]) (.cond (.seq (.ops [6]) .leaf) .leaf)) (.seq (.ops [0, 1, 2, 7]) (.seq (.draw (.q 0 (.q 1 (.q 2 (.q 3 (.q 4 (.q 5 (.one 6 (.q 7 .fin)))))))) [0, 7]) (.seq (.ops [0]) (.seq (.ops [6]) .leaf)))))))) (c := Try.f85.body.getD .skip) hent Try.func85 rfl (Nat.le_of_ble_eq_true (by kernel_rfl))
    (Eq.mp (show sh85 a0 a1 a2 w R = denF Try.prog ent false Try.f85 (.seq (.ops [0, 1, 2]) (.seq (.ops [0, 1, 2]) (.seq (.seq (.ops [0, 1, 2, 16]) (.cond (.seq (.ops [6]) .leaf) .leaf)) (.seq (.ops [0, 1, 2, 7]) (.seq (.draw (.q 0 (.q 1 (.q 2 (.q 3 (.q 4 (.q 5 (.one 6 (.q 7 .fin)))))))) [0, 7]) (.seq (.ops [0]) (.seq (.ops [6]) .leaf))))))) (Try.f85.body.getD .skip) [a0, a1, a2] w R by kernel_rfl) h)

/-! ### 86: (*handbill/omap.Map[int, string]).Back -/
def sh86 (a0 : Value) (w : World) (R : Value → World → Prop) : Prop :=
 RunV Try.prog (Instr.box 41 a0) w fun t1_1 w =>
 RunV Try.prog (Instr.makeFunc (Go.Fn.func 115) #[] #[t1_1]) w fun t3_2 w =>
 R t3_2 w
theorem sh86_calls {a0 : Value} {w : World} {R : Value → World → Prop} (h : sh86 a0 w R) : CallF Try.prog 86 #[a0] w R :=
  calls_of_denF (mk := false) (args := [a0]) (an := (.seq (.ops [1]) (.seq (.ops [2]) .leaf))) (c := Try.f86.body.getD .skip) hent Try.func86 rfl (Nat.le_of_ble_eq_true (by kernel_rfl))
    (Eq.mp (show sh86 a0 w R = denF Try.prog ent false Try.f86 (.seq (.ops [1]) (.seq (.ops [2]) .leaf)) (Try.f86.body.getD .skip) [a0] w R by kernel_rfl) h)

/-! ### 97: slices.BinarySearchFunc[[]handbill/omap.pair[string, int],handbill/omap.pair[string, int],string] -/
def sh97 (a0 a1 a2 : Value) (w : World) (R : Value → World → Prop) : Prop :=
 RunW Try.prog (Builtin.len_ #[111] 3 #[a0]) w fun t13_1 =>
 lp 2 (fun n_4 t9_2 t10_3 w =>
 RunA Try.prog (bin .lss 3 (.tmp 15) (.tmp 16) t9_2 t10_3) fun t17_5 =>
 IfB t17_5 (
 RunA Try.prog (bin .add 3 (.tmp 18) (.tmp 19) t9_2 t10_3) fun t20_6 =>
 RunV Try.prog (convert 3 183 t20_6) w fun t21_7 w =>
 RunA Try.prog (bin .shr 183 (.tmp 21) (.const (.int .u64 1)) t21_7 (.int .u64 1)) fun t22_8 =>
 RunV Try.prog (convert 183 3 t22_8) w fun t23_9 w =>
 jn 6 (fun t0_10 t1_11 t2_12 t8_13 t9_14 t10_15 w =>
 (t0_10 : Value) = a0 ∧ ((t1_11 : Value) = a1 ∧ ((t2_12 : Value) = a2 ∧ ((t8_13 : Value) = t13_1 ∧ (n_4 t9_14 t10_15 w))))) fun j_16 =>
 RunA Try.prog (Instr.indexAt 111 a0 t23_9) fun t27_17 =>
 RunW Try.prog (Instr.loadAt 115 t27_17) w fun t28_18 =>
 CallV Try.prog a2 #[t28_18, a1] w fun t30_19 w =>
 RunA Try.prog (bin .lss 3 (.tmp 30) (.const (.int .i64 0)) t30_19 (.int .i64 0)) fun t31_20 =>
 IfB t31_20 (
 RunA Try.prog (bin .add 3 (.tmp 32) (.const (.int .i64 1)) t23_9 (.int .i64 1)) fun t33_21 =>
 j_16 a0 a1 a2 t13_1 t33_21 t10_3 w) (
 j_16 a0 a1 a2 t13_1 t9_2 t23_9 w)) (
 RunA Try.prog (bin .lss 3 (.tmp 36) (.tmp 37) t9_2 t13_1) fun t38_22 =>
 IfB t38_22 (
 RunA Try.prog (Instr.indexAt 111 a0 t9_2) fun t43_23 =>
 RunW Try.prog (Instr.loadAt 115 t43_23) w fun t44_24 =>
 CallV Try.prog a2 #[t44_24, a1] w fun t46_25 w =>
 RunW Try.prog (bin .eql 3 (.tmp 46) (.const (.int .i64 0)) t46_25 (.int .i64 0)) w fun t47_26 =>
 R (.tuple #[t9_2, t47_26]) w) (
 R (.tuple #[t9_2, (.bool false)]) w))) [(.int .i64 0), t13_1] w
theorem sh97_calls {a0 a1 a2 : Value} {w : World} {R : Value → World → Prop} (h : sh97 a0 a1 a2 w R) : CallF Try.prog 97 #[a0, a1, a2] w R :=
  calls_of_denF (mk := false) (args := [a0, a1, a2]) (an := (.seq (.ops [0, 1, 2]) (.seq (.ops [0, 1, 2, 8]) (.seq (.ops [0, 1, 2, 8, 9, 10]) (.seq (.blk (.loop [0, 1, 2, 8] [9, 10] (.seq (.seq (.ops [0, 1, 2, 8, 9, 10, 17]) (.cond .leaf .leaf)) (.blk (.seq (.ops [0, 1, 2, 8, 9, 10, 11]) (.join [0, 1, 2, 8, 9, 10] (.seq (.ops [0, 1, 2, 8, 9, 10, 11, 31]) (.cond (.ops [0, 1, 2, 8, 9, 10]) (.ops [0, 1, 2, 8, 9, 10]))))))))) (.seq (.ops [6, 7]) .leaf)))))) (c := Try.f97.body.getD .skip) hent Try.func97 rfl (Nat.le_of_ble_eq_true (by kernel_rfl))
    (Eq.mp (show sh97 a0 a1 a2 w R = denF Try.prog ent false Try.f97 (.seq (.ops [0, 1, 2]) (.seq (.ops [0, 1, 2, 8]) (.seq (.ops [0, 1, 2, 8, 9, 10]) (.seq (.blk (.loop [0, 1, 2, 8] [9, 10] (.seq (.seq (.ops [0, 1, 2, 8, 9, 10, 17]) (.cond .leaf .leaf)) (.blk (.seq (.ops [0, 1, 2, 8, 9, 10, 11]) (.join [0, 1, 2, 8, 9, 10] (.seq (.ops [0, 1, 2, 8, 9, 10, 11, 31]) (.cond (.ops [0, 1, 2, 8, 9, 10]) (.ops [0, 1, 2, 8, 9, 10]))))))))) (.seq (.ops [6, 7]) .leaf))))) (Try.f97.body.getD .skip) [a0, a1, a2] w R by kernel_rfl) h)

/-! ### 98: (*handbill/omap.Map[string, int]).find$1 -/
def sh98 (a0 a1 : Value) (w : World) (R : Value → World → Prop) : Prop :=
 RunV Try.prog (Instr.box 115 a0) w fun t2_1 w =>
 RunA Try.prog (Instr.fieldAt 115 t2_1 0) fun t5_2 =>
 RunW Try.prog (Instr.loadAt 9 t5_2) w fun t6_3 =>
 CallF Try.prog 99 #[t6_3, a1] w fun t8_4 w =>
 R t8_4 w
theorem sh98_calls {a0 a1 : Value} {w : World} {R : Value → World → Prop} (h : sh98 a0 a1 w R) : CallF Try.prog 98 #[a0, a1] w R :=
  calls_of_denF (mk := false) (args := [a0, a1]) (an := (.seq (.ops [1, 2]) (.seq (.ops [4]) .leaf))) (c := Try.f98.body.getD .skip) hent Try.func98 rfl (Nat.le_of_ble_eq_true (by kernel_rfl))
    (Eq.mp (show sh98 a0 a1 w R = denF Try.prog ent false Try.f98 (.seq (.ops [1, 2]) (.seq (.ops [4]) .leaf)) (Try.f98.body.getD .skip) [a0, a1] w R by kernel_rfl) h)

/-! ### 99: cmp.Compare[string] -/
def sh99 (a0 a1 : Value) (w : World) (R : Value → World → Prop) : Prop :=
 CallF Try.prog 126 #[a0] w fun t8_1 w =>
 CallF Try.prog 126 #[a1] w fun t10_2 w =>
 IfB t8_1 (
 IfB t10_2 (
 R (.int .i64 0) w) (
 R (.int .i64 (-1)) w)) (
 IfB t10_2 (
 R (.int .i64 1) w) (
 RunA Try.prog (bin .lss 9 (.tmp 14) (.tmp 15) a0 a1) fun t16_3 =>
 IfB t16_3 (
 R (.int .i64 (-1)) w) (
 RunA Try.prog (bin .gtr 9 (.tmp 17) (.tmp 18) a0 a1) fun t19_4 =>
 IfB t19_4 (
 R (.int .i64 1) w) (
 R (.int .i64 0) w))))
theorem sh99_calls {a0 a1 : Value} {w : World} {R : Value → World → Prop} (h : sh99 a0 a1 w R) : CallF Try.prog 99 #[a0, a1] w R :=
  calls_of_denF (mk := false) (args := [a0, a1]) (an := (.seq (.ops [0, 1]) (.seq (.ops [0, 1, 5]) (.seq (.ops [0, 1, 5, 6]) (.seq (.seq (.ops [0, 1, 6, 11]) (.cond (.seq (.seq (.ops [12]) (.cond (.seq (.ops [4]) .leaf) .leaf)) (.seq (.ops [4]) .leaf)) .leaf)) (.seq (.seq (.ops [0, 1, 13]) (.cond (.seq (.ops [4]) .leaf) .leaf)) (.seq (.seq (.ops [0, 1, 16]) (.cond (.seq (.ops [4]) .leaf) .leaf)) (.seq (.seq (.ops [19]) (.cond (.seq (.ops [4]) .leaf) .leaf)) (.seq (.ops [4]) .leaf))))))))) (c := Try.f99.body.getD .skip) hent Try.func99 rfl (Nat.le_of_ble_eq_true (by kernel_rfl))
    (Eq.mp (show sh99 a0 a1 w R = denF Try.prog ent false Try.f99 (.seq (.ops [0, 1]) (.seq (.ops [0, 1, 5]) (.seq (.ops [0, 1, 5, 6]) (.seq (.seq (.ops [0, 1, 6, 11]) (.cond (.seq (.seq (.ops [12]) (.cond (.seq (.ops [4]) .leaf) .leaf)) (.seq (.ops [4]) .leaf)) .leaf)) (.seq (.seq (.ops [0, 1, 13]) (.cond (.seq (.ops [4]) .leaf) .leaf)) (.seq (.seq (.ops [0, 1, 16]) (.cond (.seq (.ops [4]) .leaf) .leaf)) (.seq (.seq (.ops [19]) (.cond (.seq (.ops [4]) .leaf) .leaf)) (.seq (.ops [4]) .leaf)))))))) (Try.f99.body.getD .skip) [a0, a1] w R by kernel_rfl) h)

/-! ### 102: slices.BinarySearchFunc[[]handbill/omap.pair[int, string],handbill/omap.pair[int, string],int] -/
def sh102 (a0 a1 a2 : Value) (w : World) (R : Value → World → Prop) : Prop :=
 RunW Try.prog (Builtin.len_ #[119] 3 #[a0]) w fun t13_1 =>
 lp 2 (fun n_4 t9_2 t10_3 w =>
 RunA Try.prog (bin .lss 3 (.tmp 15) (.tmp 16) t9_2 t10_3) fun t17_5 =>
 IfB t17_5 (
 RunA Try.prog (bin .add 3 (.tmp 18) (.tmp 19) t9_2 t10_3) fun t20_6 =>
 RunV Try.prog (convert 3 183 t20_6) w fun t21_7 w =>
 RunA Try.prog (bin .shr 183 (.tmp 21) (.const (.int .u64 1)) t21_7 (.int .u64 1)) fun t22_8 =>
 RunV Try.prog (convert 183 3 t22_8) w fun t23_9 w =>
 jn 6 (fun t0_10 t1_11 t2_12 t8_13 t9_14 t10_15 w =>
 (t0_10 : Value) = a0 ∧ ((t1_11 : Value) = a1 ∧ ((t2_12 : Value) = a2 ∧ ((t8_13 : Value) = t13_1 ∧ (n_4 t9_14 t10_15 w))))) fun j_16 =>
 RunA Try.prog (Instr.indexAt 119 a0 t23_9) fun t27_17 =>
 RunW Try.prog (Instr.loadAt 123 t27_17) w fun t28_18 =>
 CallV Try.prog a2 #[t28_18, a1] w fun t30_19 w =>
 RunA Try.prog (bin .lss 3 (.tmp 30) (.const (.int .i64 0)) t30_19 (.int .i64 0)) fun t31_20 =>
 IfB t31_20 (
 RunA Try.prog (bin .add 3 (.tmp 32) (.const (.int .i64 1)) t23_9 (.int .i64 1)) fun t33_21 =>
 j_16 a0 a1 a2 t13_1 t33_21 t10_3 w) (
 j_16 a0 a1 a2 t13_1 t9_2 t23_9 w)) (
 RunA Try.prog (bin .lss 3 (.tmp 36) (.tmp 37) t9_2 t13_1) fun t38_22 =>
 IfB t38_22 (
 RunA Try.prog (Instr.indexAt 119 a0 t9_2) fun t43_23 =>
 RunW Try.prog (Instr.loadAt 123 t43_23) w fun t44_24 =>
 CallV Try.prog a2 #[t44_24, a1] w fun t46_25 w =>
 RunW Try.prog (bin .eql 3 (.tmp 46) (.const (.int .i64 0)) t46_25 (.int .i64 0)) w fun t47_26 =>
 R (.tuple #[t9_2, t47_26]) w) (
 R (.tuple #[t9_2, (.bool false)]) w))) [(.int .i64 0), t13_1] w
theorem sh102_calls {a0 a1 a2 : Value} {w : World} {R : Value → World → Prop} (h : sh102 a0 a1 a2 w R) : CallF Try.prog 102 #[a0, a1, a2] w R :=
  calls_of_denF (mk := false) (args := [a0, a1, a2]) (an := (.seq (.ops [0, 1, 2]) (.seq (.ops [0, 1, 2, 8]) (.seq (.ops [0, 1, 2, 8, 9, 10]) (.seq (.blk (.loop [0, 1, 2, 8] [9, 10] (.seq (.seq (.ops [0, 1, 2, 8, 9, 10, 17]) (.cond .leaf .leaf)) (.blk (.seq (.ops [0, 1, 2, 8, 9, 10, 11]) (.join [0, 1, 2, 8, 9, 10] (.seq (.ops [0, 1, 2, 8, 9, 10, 11, 31]) (.cond (.ops [0, 1, 2, 8, 9, 10]) (.ops [0, 1, 2, 8, 9, 10]))))))))) (.seq (.ops [6, 7]) .leaf)))))) (c := Try.f102.body.getD .skip) hent Try.func102 rfl (Nat.le_of_ble_eq_true (by kernel_rfl))
    (Eq.mp (show sh102 a0 a1 a2 w R = denF Try.prog ent false Try.f102 (.seq (.ops [0, 1, 2]) (.seq (.ops [0, 1, 2, 8]) (.seq (.ops [0, 1, 2, 8, 9, 10]) (.seq (.blk (.loop [0, 1, 2, 8] [9, 10] (.seq (.seq (.ops [0, 1, 2, 8, 9, 10, 17]) (.cond .leaf .leaf)) (.blk (.seq (.ops [0, 1, 2, 8, 9, 10, 11]) (.join [0, 1, 2, 8, 9, 10] (.seq (.ops [0, 1, 2, 8, 9, 10, 11, 31]) (.cond (.ops [0, 1, 2, 8, 9, 10]) (.ops [0, 1, 2, 8, 9, 10]))))))))) (.seq (.ops [6, 7]) .leaf))))) (Try.f102.body.getD .skip) [a0, a1, a2] w R by kernel_rfl) h)

/-! ### 103: (*handbill/omap.Map[int, string]).find$1 -/
def sh103 (a0 a1 : Value) (w : World) (R : Value → World → Prop) : Prop :=
 RunV Try.prog (Instr.box 123 a0) w fun t2_1 w =>
 RunA Try.prog (Instr.fieldAt 123 t2_1 0) fun t5_2 =>
 RunW Try.prog (Instr.loadAt 3 t5_2) w fun t6_3 =>
 CallF Try.prog 104 #[t6_3, a1] w fun t8_4 w =>
 R t8_4 w
theorem sh103_calls {a0 a1 : Value} {w : World} {R : Value → World → Prop} (h : sh103 a0 a1 w R) : CallF Try.prog 103 #[a0, a1] w R :=
  calls_of_denF (mk := false) (args := [a0, a1]) (an := (.seq (.ops [1, 2]) (.seq (.ops [4]) .leaf))) (c := Try.f103.body.getD .skip) hent Try.func103 rfl (Nat.le_of_ble_eq_true (by kernel_rfl))
    (Eq.mp (show sh103 a0 a1 w R = denF Try.prog ent false Try.f103 (.seq (.ops [1, 2]) (.seq (.ops [4]) .leaf)) (Try.f103.body.getD .skip) [a0, a1] w R by kernel_rfl) h)

/-! ### 104: cmp.Compare[int] -/
def sh104 (a0 a1 : Value) (w : World) (R : Value → World → Prop) : Prop :=
 CallF Try.prog 128 #[a0] w fun t8_1 w =>
 CallF Try.prog 128 #[a1] w fun t10_2 w =>
 IfB t8_1 (
 IfB t10_2 (
 R (.int .i64 0) w) (
 R (.int .i64 (-1)) w)) (
 IfB t10_2 (
 R (.int .i64 1) w) (
 RunA Try.prog (bin .lss 3 (.tmp 14) (.tmp 15) a0 a1) fun t16_3 =>
 IfB t16_3 (
 R (.int .i64 (-1)) w) (
 RunA Try.prog (bin .gtr 3 (.tmp 17) (.tmp 18) a0 a1) fun t19_4 =>
 IfB t19_4 (
 R (.int .i64 1) w) (
 R (.int .i64 0) w))))
theorem sh104_calls {a0 a1 : Value} {w : World} {R : Value → World → Prop} (h : sh104 a0 a1 w R) : CallF Try.prog 104 #[a0, a1] w R :=
  calls_of_denF (mk := false) (args := [a0, a1]) (an := (.seq (.ops [0, 1]) (.seq (.ops [0, 1, 5]) (.seq (.ops [0, 1, 5, 6]) (.seq (.seq (.ops [0, 1, 6, 11]) (.cond (.seq (.seq (.ops [12]) (.cond (.seq (.ops [4]) .leaf) .leaf)) (.seq (.ops [4]) .leaf)) .leaf)) (.seq (.seq (.ops [0, 1, 13]) (.cond (.seq (.ops [4]) .leaf) .leaf)) (.seq (.seq (.ops [0, 1, 16]) (.cond (.seq (.ops [4]) .leaf) .leaf)) (.seq (.seq (.ops [19]) (.cond (.seq (.ops [4]) .leaf) .leaf)) (.seq (.ops [4]) .leaf))))))))) (c := Try.f104.body.getD .skip) hent Try.func104 rfl (Nat.le_of_ble_eq_true (by kernel_rfl))
    (Eq.mp (show sh104 a0 a1 w R = denF Try.prog ent false Try.f104 (.seq (.ops [0, 1]) (.seq (.ops [0, 1, 5]) (.seq (.ops [0, 1, 5, 6]) (.seq (.seq (.ops [0, 1, 6, 11]) (.cond (.seq (.seq (.ops [12]) (.cond (.seq (.ops [4]) .leaf) .leaf)) (.seq (.ops [4]) .leaf)) .leaf)) (.seq (.seq (.ops [0, 1, 13]) (.cond (.seq (.ops [4]) .leaf) .leaf)) (.seq (.seq (.ops [0, 1, 16]) (.cond (.seq (.ops [4]) .leaf) .leaf)) (.seq (.seq (.ops [19]) (.cond (.seq (.ops [4]) .leaf) .leaf)) (.seq (.ops [4]) .leaf)))))))) (Try.f104.body.getD .skip) [a0, a1] w R by kernel_rfl) h)

/-! ### 107: slices.BinarySearchFunc[[]handbill/omap.pair[int, []int],handbill/omap.pair[int, []int],int] -/
def sh107 (a0 a1 a2 : Value) (w : World) (R : Value → World → Prop) : Prop :=
 RunW Try.prog (Builtin.len_ #[127] 3 #[a0]) w fun t13_1 =>
 lp 2 (fun n_4 t9_2 t10_3 w =>
 RunA Try.prog (bin .lss 3 (.tmp 15) (.tmp 16) t9_2 t10_3) fun t17_5 =>
 IfB t17_5 (
 RunA Try.prog (bin .add 3 (.tmp 18) (.tmp 19) t9_2 t10_3) fun t20_6 =>
 RunV Try.prog (convert 3 183 t20_6) w fun t21_7 w =>
 RunA Try.prog (bin .shr 183 (.tmp 21) (.const (.int .u64 1)) t21_7 (.int .u64 1)) fun t22_8 =>
 RunV Try.prog (convert 183 3 t22_8) w fun t23_9 w =>
 jn 6 (fun t0_10 t1_11 t2_12 t8_13 t9_14 t10_15 w =>
 (t0_10 : Value) = a0 ∧ ((t1_11 : Value) = a1 ∧ ((t2_12 : Value) = a2 ∧ ((t8_13 : Value) = t13_1 ∧ (n_4 t9_14 t10_15 w))))) fun j_16 =>
 RunA Try.prog (Instr.indexAt 127 a0 t23_9) fun t27_17 =>
 RunW Try.prog (Instr.loadAt 131 t27_17) w fun t28_18 =>
 CallV Try.prog a2 #[t28_18, a1] w fun t30_19 w =>
 RunA Try.prog (bin .lss 3 (.tmp 30) (.const (.int .i64 0)) t30_19 (.int .i64 0)) fun t31_20 =>
 IfB t31_20 (
 RunA Try.prog (bin .add 3 (.tmp 32) (.const (.int .i64 1)) t23_9 (.int .i64 1)) fun t33_21 =>
 j_16 a0 a1 a2 t13_1 t33_21 t10_3 w) (
 j_16 a0 a1 a2 t13_1 t9_2 t23_9 w)) (
 RunA Try.prog (bin .lss 3 (.tmp 36) (.tmp 37) t9_2 t13_1) fun t38_22 =>
 IfB t38_22 (
 RunA Try.prog (Instr.indexAt 127 a0 t9_2) fun t43_23 =>
 RunW Try.prog (Instr.loadAt 131 t43_23) w fun t44_24 =>
 CallV Try.prog a2 #[t44_24, a1] w fun t46_25 w =>
 RunW Try.prog (bin .eql 3 (.tmp 46) (.const (.int .i64 0)) t46_25 (.int .i64 0)) w fun t47_26 =>
 R (.tuple #[t9_2, t47_26]) w) (
 R (.tuple #[t9_2, (.bool false)]) w))) [(.int .i64 0), t13_1] w
theorem sh107_calls {a0 a1 a2 : Value} {w : World} {R : Value → World → Prop} (h : sh107 a0 a1 a2 w R) : CallF Try.prog 107 #[a0, a1, a2] w R :=
  calls_of_denF (mk := false) (args := [a0, a1, a2]) (an := (.seq (.ops [0, 1, 2]) (.seq (.ops [0, 1, 2, 8]) (.seq (.ops [0, 1, 2, 8, 9, 10]) (.seq (.blk (.loop [0, 1, 2, 8] [9, 10] (.seq (.seq (.ops [0, 1, 2, 8, 9, 10, 17]) (.cond .leaf .leaf)) (.blk (.seq (.ops [0, 1, 2, 8, 9, 10, 11]) (.join [0, 1, 2, 8, 9, 10] (.seq (.ops [0, 1, 2, 8, 9, 10, 11, 31]) (.cond (.ops [0, 1, 2, 8, 9, 10]) (.ops [0, 1, 2, 8, 9, 10]))))))))) (.seq (.ops [6, 7]) .leaf)))))) (c := Try.f107.body.getD .skip) hent Try.func107 rfl (Nat.le_of_ble_eq_true (by kernel_rfl))
    (Eq.mp (show sh107 a0 a1 a2 w R = denF Try.prog ent false Try.f107 (.seq (.ops [0, 1, 2]) (.seq (.ops [0, 1, 2, 8]) (.seq (.ops [0, 1, 2, 8, 9, 10]) (.seq (.blk (.loop [0, 1, 2, 8] [9, 10] (.seq (.seq (.ops [0, 1, 2, 8, 9, 10, 17]) (.cond .leaf .leaf)) (.blk (.seq (.ops [0, 1, 2, 8, 9, 10, 11]) (.join [0, 1, 2, 8, 9, 10] (.seq (.ops [0, 1, 2, 8, 9, 10, 11, 31]) (.cond (.ops [0, 1, 2, 8, 9, 10]) (.ops [0, 1, 2, 8, 9, 10]))))))))) (.seq (.ops [6, 7]) .leaf))))) (Try.f107.body.getD .skip) [a0, a1, a2] w R by kernel_rfl) h)

/-! ### 108: (*handbill/omap.Map[int, []int]).find$1 -/
def sh108 (a0 a1 : Value) (w : World) (R : Value → World → Prop) : Prop :=
 RunV Try.prog (Instr.box 131 a0) w fun t2_1 w =>
 RunA Try.prog (Instr.fieldAt 131 t2_1 0) fun t5_2 =>
 RunW Try.prog (Instr.loadAt 3 t5_2) w fun t6_3 =>
 CallF Try.prog 104 #[t6_3, a1] w fun t8_4 w =>
 R t8_4 w
theorem sh108_calls {a0 a1 : Value} {w : World} {R : Value → World → Prop} (h : sh108 a0 a1 w R) : CallF Try.prog 108 #[a0, a1] w R :=
  calls_of_denF (mk := false) (args := [a0, a1]) (an := (.seq (.ops [1, 2]) (.seq (.ops [4]) .leaf))) (c := Try.f108.body.getD .skip) hent Try.func108 rfl (Nat.le_of_ble_eq_true (by kernel_rfl))
    (Eq.mp (show sh108 a0 a1 w R = denF Try.prog ent false Try.f108 (.seq (.ops [1, 2]) (.seq (.ops [4]) .leaf)) (Try.f108.body.getD .skip) [a0, a1] w R by kernel_rfl) h)

/-! ### 115: (*handbill/omap.Map[int, string]).Back$1 -/
def sh115 (a0 a1 : Value) (w : World) (R : Value → World → Prop) : Prop :=
 RunV Try.prog (Instr.box 43 a0) w fun t2_1 w =>
 RunW Try.prog (Instr.loadAt 41 a1) w fun t5_2 =>
 RunA Try.prog (nilV t5_2) fun t6_3 =>
 RunA Try.prog (Instr.fieldAt 121 t6_3 0) fun t7_4 =>
 RunW Try.prog (Instr.loadAt 119 t7_4) w fun t8_5 =>
 CallF Try.prog 76 #[t8_5] w fun t9_6 w =>
 CallF Try.prog 116 #[t9_6] w fun t10_7 w =>
 rngP Try.prog none 2 2 (fun l_8 K_9 t11_15 t12_16 w =>
 RunV Try.prog (Instr.alloc 123 true (.tuple #[])) w fun t4_19 w =>
 RunU Try.prog (Instr.storeAt 123 t4_19 t12_16) w fun w =>
 K_9 t2_1 t4_19 w) (fun l_8 kn_10 ks_11 t2_17 t4_18 w =>
 RunW Try.prog (Instr.loadAt 43 t2_17) w fun t13_20 =>
 RunA Try.prog (Instr.fieldAt 123 t4_18 0) fun t14_21 =>
 RunW Try.prog (Instr.loadAt 3 t14_21) w fun t15_22 =>
 RunA Try.prog (Instr.fieldAt 123 t4_18 1) fun t16_23 =>
 RunW Try.prog (Instr.loadAt 9 t16_23) w fun t17_24 =>
 CallV Try.prog t13_20 #[t15_22, t17_24] w fun t18_25 w =>
 RunA Try.prog (Op.unary .not t18_25) fun t19_26 =>
 IfB t19_26 (
 ks_11 .ret w) (
 kn_10 w)) t10_7 w (fun D_12 w =>
 (w).heap[D_12]? = some (.deferred (some [])) ∧ (
 R (.tuple #[]) (w.putObj D_12 (.deferred none)))) (fun D_12 c_13 w => jumpK (fun i_14 w =>
 bif Nat.beq i_14 0 then (
 (w).heap[D_12]? = some (.deferred (some [])) ∧ (
 R (.tuple #[]) (w.putObj D_12 (.deferred none)))) else (
 False)) (fun w =>
 (w).heap[D_12]? = some (.deferred (some [])) ∧ (
 R (.tuple #[]) (w.putObj D_12 (.deferred none)))) c_13 w)
theorem sh115_calls {a0 a1 : Value} {w : World} {R : Value → World → Prop} (h : sh115 a0 a1 w R) : CallF Try.prog 115 #[a0, a1] w R :=
  calls_of_denF (mk := true) (args := [a0, a1]) (an := (.seq (.ops [1, 2]) (.seq (.ops [2, 10]) (.blk (.rng [2, 4] (.ops [2, 4]) (.blk (.seq (.ops [19]) (.cond .leaf .leaf)))))))) (c := Try.f115.body.getD .skip) hent Try.func115 rfl (Nat.le_of_ble_eq_true (by kernel_rfl))
    (Eq.mp (show sh115 a0 a1 w R = denF Try.prog ent true Try.f115 (.seq (.ops [1, 2]) (.seq (.ops [2, 10]) (.blk (.rng [2, 4] (.ops [2, 4]) (.blk (.seq (.ops [19]) (.cond .leaf .leaf))))))) (Try.f115.body.getD .skip) [a0, a1] w R by kernel_rfl) h)

/-! ### 116: slices.Backward[[]handbill/omap.pair[int, string],handbill/omap.pair[int, string]] -/
def sh116 (a0 : Value) (w : World) (R : Value → World → Prop) : Prop :=
 RunV Try.prog (Instr.box 119 a0) w fun t1_1 w =>
 RunV Try.prog (Instr.makeFunc (Go.Fn.func 134) #[] #[t1_1]) w fun t3_2 w =>
 R t3_2 w
theorem sh116_calls {a0 : Value} {w : World} {R : Value → World → Prop} (h : sh116 a0 w R) : CallF Try.prog 116 #[a0] w R :=
  calls_of_denF (mk := false) (args := [a0]) (an := (.seq (.ops [1]) (.seq (.ops [2]) .leaf))) (c := Try.f116.body.getD .skip) hent Try.func116 rfl (Nat.le_of_ble_eq_true (by kernel_rfl))
    (Eq.mp (show sh116 a0 w R = denF Try.prog ent false Try.f116 (.seq (.ops [1]) (.seq (.ops [2]) .leaf)) (Try.f116.body.getD .skip) [a0] w R by kernel_rfl) h)

/-! ### 126: cmp.isNaN[string] -/
def sh126 (a0 : Value) (w : World) (R : Value → World → Prop) : Prop :=
 RunW Try.prog (bin .neq 9 (.tmp 3) (.tmp 4) a0 a0) w fun t5_1 =>
 R t5_1 w
theorem sh126_calls {a0 : Value} {w : World} {R : Value → World → Prop} (h : sh126 a0 w R) : CallF Try.prog 126 #[a0] w R :=
  calls_of_denF (mk := false) (args := [a0]) (an := (.seq (.ops [0]) (.seq (.ops [2]) .leaf))) (c := Try.f126.body.getD .skip) hent Try.func126 rfl (Nat.le_of_ble_eq_true (by kernel_rfl))
    (Eq.mp (show sh126 a0 w R = denF Try.prog ent false Try.f126 (.seq (.ops [0]) (.seq (.ops [2]) .leaf)) (Try.f126.body.getD .skip) [a0] w R by kernel_rfl) h)

/-! ### 128: cmp.isNaN[int] -/
def sh128 (a0 : Value) (w : World) (R : Value → World → Prop) : Prop :=
 RunW Try.prog (bin .neq 3 (.tmp 3) (.tmp 4) a0 a0) w fun t5_1 =>
 R t5_1 w
theorem sh128_calls {a0 : Value} {w : World} {R : Value → World → Prop} (h : sh128 a0 w R) : CallF Try.prog 128 #[a0] w R :=
  calls_of_denF (mk := false) (args := [a0]) (an := (.seq (.ops [0]) (.seq (.ops [2]) .leaf))) (c := Try.f128.body.getD .skip) hent Try.func128 rfl (Nat.le_of_ble_eq_true (by kernel_rfl))
    (Eq.mp (show sh128 a0 w R = denF Try.prog ent false Try.f128 (.seq (.ops [0]) (.seq (.ops [2]) .leaf)) (Try.f128.body.getD .skip) [a0] w R by kernel_rfl) h)

/-! ### 134: slices.Backward[[]handbill/omap.pair[int, string],handbill/omap.pair[int, string]]$1 -/
def sh134 (a0 a1 : Value) (w : World) (R : Value → World → Prop) : Prop :=
 RunW Try.prog (Instr.loadAt 119 a1) w fun t4_1 =>
 RunW Try.prog (Builtin.len_ #[119] 3 #[t4_1]) w fun t5_2 =>
 RunA Try.prog (bin .sub 3 (.tmp 5) (.const (.int .i64 1)) t5_2 (.int .i64 1)) fun t6_3 =>
 lp 1 (fun n_5 t3_4 w =>
 RunA Try.prog (bin .geq 3 (.tmp 7) (.const (.int .i64 0)) t3_4 (.int .i64 0)) fun t8_6 =>
 IfB t8_6 (
 RunW Try.prog (Instr.loadAt 119 a1) w fun t13_7 =>
 RunA Try.prog (Instr.indexAt 119 t13_7 t3_4) fun t15_8 =>
 RunW Try.prog (Instr.loadAt 123 t15_8) w fun t16_9 =>
 CallV Try.prog a0 #[t3_4, t16_9] w fun t17_10 w =>
 RunA Try.prog (Op.unary .not t17_10) fun t18_11 =>
 IfB t18_11 (
 R (.tuple #[]) w) (
 RunA Try.prog (bin .sub 3 (.tmp 9) (.const (.int .i64 1)) t3_4 (.int .i64 1)) fun t10_12 =>
 (a0 : Value) = a0 ∧ ((a1 : Value) = a1 ∧ (n_5 t10_12 w)))) (
 R (.tuple #[]) w)) [t6_3] w
theorem sh134_calls {a0 a1 : Value} {w : World} {R : Value → World → Prop} (h : sh134 a0 a1 w R) : CallF Try.prog 134 #[a0, a1] w R :=
  calls_of_denF (mk := false) (args := [a0, a1]) (an := (.seq (.ops [0, 1, 3]) (.blk (.loop [0, 1] [3] (.seq (.seq (.ops [0, 1, 3, 8]) (.cond .leaf .leaf)) (.seq (.blk (.seq (.ops [0, 1, 3, 18]) (.cond .leaf .leaf))) (.ops [0, 1, 3]))))))) (c := Try.f134.body.getD .skip) hent Try.func134 rfl (Nat.le_of_ble_eq_true (by kernel_rfl))
    (Eq.mp (show sh134 a0 a1 w R = denF Try.prog ent false Try.f134 (.seq (.ops [0, 1, 3]) (.blk (.loop [0, 1] [3] (.seq (.seq (.ops [0, 1, 3, 8]) (.cond .leaf .leaf)) (.seq (.blk (.seq (.ops [0, 1, 3, 18]) (.cond .leaf .leaf))) (.ops [0, 1, 3])))))) (Try.f134.body.getD .skip) [a0, a1] w R by kernel_rfl) h)

end Go.Proofs.Ytdjgchofnkancaa
