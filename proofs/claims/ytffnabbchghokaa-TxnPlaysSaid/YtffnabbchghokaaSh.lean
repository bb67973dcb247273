/-
  The shallow forms of the functions, printed by a program (ez.py) out of Lean's print of the loaded functions; each is proved to imply the function's contract: the equations are the kernel's.
-/
import Derived.Test.YtffnabbchghokaaProg
import Derived.Test.YtffnabbchghokaaEzSound
namespace Go.Proofs.Ytffnabbchghokaa
open Go Go.Ez
set_option linter.unusedVariables false
set_option maxRecDepth 100000
def ent : List Nat := [13, 14, 15, 16, 17, 18, 19, 20, 21, 22, 23, 24, 25, 26, 27, 28, 29, 30, 31, 32, 33, 34, 35, 36, 37, 38, 39, 40, 41, 42, 43, 44, 67, 68, 69, 70, 71, 72, 73, 74, 75, 76, 77, 78, 79, 80, 81, 82, 83, 84, 85, 86, 87, 88, 89, 101, 102, 103, 104, 105, 106, 107, 108, 109, 110, 111, 112, 113, 114, 115, 127, 128, 129, 132, 133, 134, 141]
theorem hent : ∀ g, memN g ent = true → Enters Try.prog g := enters_all (by kernel_rfl)

/-! ### 3: handbill/hbllaw11.VersNumbers -/
def sh3 (a0 a1 : Value) (w : World) (R : Value → World → Prop) : Prop :=
 CallF Try.prog 13 #[] w fun t14_1 w =>
 RunA Try.prog (Op.unary .not t14_1) fun t15_2 =>
 IfB t15_2 (
 R (.bool false) w) (
 CallF Try.prog 14 #[] w fun t16_3 w =>
 RunW Try.prog (bin .eql 24 (.tmp 17) (.const (.pointer none)) t16_3 (.pointer none)) w fun t18_4 =>
 IfB t18_4 (
 RunW Try.prog (bin .neq 24 (.tmp 24) (.const (.pointer none)) t16_3 (.pointer none)) w fun t25_5 =>
 IfB t25_5 (
 CallF Try.prog 13 #[] w fun t27_6 w =>
 R t27_6 w) (
 R (.bool false) w)) (
 RunW Try.prog (Builtin.len_ #[22] 3 #[a0]) w fun t21_7 =>
 RunA Try.prog (bin .gtr 3 (.tmp 21) (.const (.int .i64 200)) t21_7 (.int .i64 200)) fun t22_8 =>
 IfB t22_8 (
 RunW Try.prog (bin .neq 24 (.tmp 24) (.const (.pointer none)) t16_3 (.pointer none)) w fun t25_9 =>
 IfB t25_9 (
 CallF Try.prog 13 #[] w fun t27_10 w =>
 R t27_10 w) (
 R (.bool false) w)) (
 lp 1 (fun n_12 t6_11 w =>
 RunW Try.prog (Builtin.len_ #[22] 3 #[a0]) w fun t31_13 =>
 RunA Try.prog (bin .lss 3 (.tmp 29) (.tmp 31) t6_11 t31_13) fun t32_14 =>
 IfB t32_14 (
 RunA Try.prog (bin .add 3 (.tmp 36) (.const (.int .i64 1)) t6_11 (.int .i64 1)) fun t37_15 =>
 RunA Try.prog (Instr.indexAt 22 a0 t6_11) fun t40_16 =>
 RunW Try.prog (Instr.loadAt 3 t40_16) w fun t41_17 =>
 CallF Try.prog 15 #[t16_3, t37_15, (.string ⟨#[110]⟩), t41_17] w fun t42_18 w =>
 RunW Try.prog (bin .neq 26 (.tmp 42) (.const (.int .i64 0)) t42_18 (.int .i64 0)) w fun t43_19 =>
 IfB t43_19 (
 R (.bool false) w) (
 RunA Try.prog (bin .add 3 (.tmp 46) (.const (.int .i64 1)) t6_11 (.int .i64 1)) fun t47_20 =>
 CallF Try.prog 15 #[t16_3, t47_20, (.string ⟨#[110]⟩), (.int .i64 7)] w fun t48_21 w =>
 RunW Try.prog (bin .neq 26 (.tmp 48) (.const (.int .i64 12)) t48_21 (.int .i64 12)) w fun t49_22 =>
 IfB t49_22 (
 R (.bool false) w) (
 RunA Try.prog (bin .add 3 (.tmp 33) (.const (.int .i64 1)) t6_11 (.int .i64 1)) fun t34_23 =>
 (a0 : Value) = a0 ∧ ((a1 : Value) = a1 ∧ ((t16_3 : Value) = t16_3 ∧ (n_12 t34_23 w)))))) (
 CallF Try.prog 16 #[t16_3] w fun t52_24 w =>
 RunW Try.prog (Builtin.len_ #[22] 3 #[a0]) w fun t54_25 =>
 RunW Try.prog (bin .neq 3 (.tmp 52) (.tmp 54) t52_24 t54_25) w fun t55_26 =>
 IfB t55_26 (
 R (.bool false) w) (
 CallF Try.prog 17 #[t16_3, (.string ⟨#[110]⟩)] w fun t58_27 w =>
 RunW Try.prog (Builtin.len_ #[22] 3 #[a0]) w fun t60_28 =>
 RunW Try.prog (bin .neq 3 (.tmp 58) (.tmp 60) t58_27 t60_28) w fun t61_29 =>
 IfB t61_29 (
 R (.bool false) w) (
 CallF Try.prog 18 #[t16_3, a1] w fun t65_30 w =>
 jn 5 (fun t0_31 t1_32 t5_33 t7_34 t8_35 w =>
 RunW Try.prog (Builtin.max_ #[3, 3] 3 #[t1_32, (.int .i64 1)]) w fun t79_37 =>
 lp 1 (fun n_39 t9_38 w =>
 RunW Try.prog (Builtin.len_ #[22] 3 #[t0_31]) w fun t82_40 =>
 RunA Try.prog (bin .leq 3 (.tmp 80) (.tmp 82) t9_38 t82_40) fun t83_41 =>
 IfB t83_41 (
 CallF Try.prog 19 #[t5_33, (.string ⟨#[110]⟩), t9_38] w fun t89_42 w =>
 RunA Try.prog (Instr.extract t89_42 0) fun t90_43 =>
 RunA Try.prog (Instr.extract t89_42 1) fun t91_44 =>
 RunA Try.prog (Op.unary .not t91_44) fun t93_45 =>
 IfB t93_45 (
 R (.bool false) w) (
 RunA Try.prog (bin .sub 3 (.tmp 97) (.const (.int .i64 1)) t9_38 (.int .i64 1)) fun t98_46 =>
 RunA Try.prog (Instr.indexAt 22 t0_31 t98_46) fun t99_47 =>
 RunW Try.prog (Instr.loadAt 3 t99_47) w fun t100_48 =>
 RunW Try.prog (bin .neq 3 (.tmp 95) (.tmp 100) t90_43 t100_48) w fun t101_49 =>
 IfB t101_49 (
 R (.bool false) w) (
 RunA Try.prog (bin .add 3 (.tmp 84) (.const (.int .i64 1)) t9_38 (.int .i64 1)) fun t85_50 =>
 (t0_31 : Value) = t0_31 ∧ ((t5_33 : Value) = t5_33 ∧ ((t7_34 : Value) = t7_34 ∧ ((t8_35 : Value) = t8_35 ∧ (n_39 t85_50 w))))))) (
 RunW Try.prog (Builtin.len_ #[22] 3 #[t0_31]) w fun t106_51 =>
 CallF Try.prog 19 #[t5_33, (.string ⟨#[109]⟩), t106_51] w fun t107_52 w =>
 RunA Try.prog (Instr.extract t107_52 0) fun t108_53 =>
 RunA Try.prog (Instr.extract t107_52 1) fun t109_54 =>
 CallF Try.prog 13 #[] w fun t110_55 w =>
 IfB t110_55 (
 RunW Try.prog (bin .eql 3 (.tmp 112) (.tmp 113) t7_34 t8_35) w fun t114_56 =>
 IfB t114_56 (
 CallF Try.prog 16 #[t5_33] w fun t118_57 w =>
 RunW Try.prog (Builtin.len_ #[22] 3 #[t0_31]) w fun t120_58 =>
 RunA Try.prog (bin .sub 3 (.tmp 120) (.tmp 121) t120_58 t7_34) fun t122_59 =>
 RunW Try.prog (bin .eql 3 (.tmp 118) (.tmp 122) t118_57 t122_59) w fun t123_60 =>
 IfB t123_60 (
 RunA Try.prog (Op.unary .not t109_54) fun t127_61 =>
 R t127_61 w) (
 R (.bool false) w)) (
 R (.bool false) w)) (
 R (.bool false) w))) [t79_37] w) fun j_36 =>
 RunA Try.prog (bin .gtr 3 (.tmp 66) (.const (.int .i64 0)) a1 (.int .i64 0)) fun t67_62 =>
 IfB t67_62 (
 RunA Try.prog (bin .leq 3 (.tmp 69) (.const (.int .i64 1099511627776)) a1 (.int .i64 1099511627776)) fun t70_63 =>
 IfB t70_63 (
 RunW Try.prog (Builtin.len_ #[22] 3 #[a0]) w fun t74_64 =>
 RunW Try.prog (Builtin.min_ #[3, 3] 3 #[a1, t74_64]) w fun t75_65 =>
 RunA Try.prog (bin .sub 3 (.tmp 75) (.const (.int .i64 1)) t75_65 (.int .i64 1)) fun t76_66 =>
 RunW Try.prog (Builtin.max_ #[3, 3] 3 #[t76_66, (.int .i64 0)]) w fun t77_67 =>
 j_36 a0 a1 t16_3 t65_30 t77_67 w) (
 j_36 a0 a1 t16_3 t65_30 (.int .i64 0) w)) (
 j_36 a0 a1 t16_3 t65_30 (.int .i64 0) w))))) [(.int .i64 0)] w)))
theorem sh3_calls {a0 a1 : Value} {w : World} {R : Value → World → Prop} (h : sh3 a0 a1 w R) : CallF Try.prog 3 #[a0, a1] w R :=
  calls_of_denF (mk := false) (args := [a0, a1]) (an := (.seq (.ops [0, 1]) (.seq (.seq (.ops [0, 1, 15]) (.cond (.seq (.ops [4]) .leaf) .leaf)) (.seq (.ops [0, 1, 5]) (.seq (.seq (.ops [0, 1, 5, 23]) (.cond (.seq (.ops [4]) .leaf) .leaf)) (.seq (.seq (.ops [0, 1, 5, 6]) (.blk (.loop [0, 1, 5] [6] (.seq (.seq (.ops [0, 1, 5, 6, 32]) (.cond .leaf .leaf)) (.seq (.blk (.seq (.ops [0, 1, 5, 6, 50]) (.cond (.seq (.ops [4]) .leaf) .leaf))) (.ops [0, 1, 5, 6])))))) (.seq (.seq (.ops [0, 1, 5, 62]) (.cond (.seq (.ops [4]) .leaf) .leaf)) (.seq (.ops [0, 1, 5, 7]) (.seq (.ops [0, 1, 5, 7, 8]) (.seq (.join [0, 1, 5, 7, 8] (.seq (.ops [0, 1, 5, 7, 8, 71]) (.cond (.ops [0, 1, 5, 7, 8]) .leaf))) (.seq (.seq (.ops [0, 5, 7, 8, 9]) (.blk (.loop [0, 5, 7, 8] [9] (.seq (.seq (.ops [0, 5, 7, 8, 9, 83]) (.cond .leaf .leaf)) (.seq (.blk (.seq (.ops [0, 5, 7, 8, 9, 10, 11]) (.seq (.ops [0, 5, 7, 8, 9, 102]) (.cond (.seq (.ops [4]) .leaf) .leaf)))) (.ops [0, 5, 7, 8, 9])))))) (.seq (.ops [0, 5, 7, 8, 13]) (.seq (.ops [4]) .leaf))))))))))))) (c := Try.f3.body.getD .skip) hent Try.func3 rfl (Nat.le_of_ble_eq_true (by kernel_rfl))
    (Eq.mp (show sh3 a0 a1 w R = denF Try.prog ent false Try.f3 (.seq (.ops [0, 1]) (.seq (.seq (.ops [0, 1, 15]) (.cond (.seq (.ops [4]) .leaf) .leaf)) (.seq (.ops [0, 1, 5]) (.seq (.seq (.ops [0, 1, 5, 23]) (.cond (.seq (.ops [4]) .leaf) .leaf)) (.seq (.seq (.ops [0, 1, 5, 6]) (.blk (.loop [0, 1, 5] [6] (.seq (.seq (.ops [0, 1, 5, 6, 32]) (.cond .leaf .leaf)) (.seq (.blk (.seq (.ops [0, 1, 5, 6, 50]) (.cond (.seq (.ops [4]) .leaf) .leaf))) (.ops [0, 1, 5, 6])))))) (.seq (.seq (.ops [0, 1, 5, 62]) (.cond (.seq (.ops [4]) .leaf) .leaf)) (.seq (.ops [0, 1, 5, 7]) (.seq (.ops [0, 1, 5, 7, 8]) (.seq (.join [0, 1, 5, 7, 8] (.seq (.ops [0, 1, 5, 7, 8, 71]) (.cond (.ops [0, 1, 5, 7, 8]) .leaf))) (.seq (.seq (.ops [0, 5, 7, 8, 9]) (.blk (.loop [0, 5, 7, 8] [9] (.seq (.seq (.ops [0, 5, 7, 8, 9, 83]) (.cond .leaf .leaf)) (.seq (.blk (.seq (.ops [0, 5, 7, 8, 9, 10, 11]) (.seq (.ops [0, 5, 7, 8, 9, 102]) (.cond (.seq (.ops [4]) .leaf) .leaf)))) (.ops [0, 5, 7, 8, 9])))))) (.seq (.ops [0, 5, 7, 8, 13]) (.seq (.ops [4]) .leaf)))))))))))) (Try.f3.body.getD .skip) [a0, a1] w R by kernel_rfl) h)

/-! ### 4: handbill/hbllaw11.VersStays -/
def sh4 (a0 a1 a2 : Value) (w : World) (R : Value → World → Prop) : Prop :=
 CallF Try.prog 13 #[] w fun t17_1 w =>
 RunA Try.prog (Op.unary .not t17_1) fun t18_2 =>
 IfB t18_2 (
 R (.bool false) w) (
 CallF Try.prog 20 #[] w fun t19_3 w =>
 RunW Try.prog (bin .eql 35 (.tmp 20) (.const (.pointer none)) t19_3 (.pointer none)) w fun t21_4 =>
 IfB t21_4 (
 RunW Try.prog (bin .neq 35 (.tmp 36) (.const (.pointer none)) t19_3 (.pointer none)) w fun t37_5 =>
 IfB t37_5 (
 CallF Try.prog 13 #[] w fun t39_6 w =>
 R t39_6 w) (
 R (.bool false) w)) (
 CallF Try.prog 21 #[a0] w fun t24_7 w =>
 RunA Try.prog (Op.unary .not t24_7) fun t25_8 =>
 IfB t25_8 (
 RunW Try.prog (bin .neq 35 (.tmp 36) (.const (.pointer none)) t19_3 (.pointer none)) w fun t37_9 =>
 IfB t37_9 (
 CallF Try.prog 13 #[] w fun t39_10 w =>
 R t39_10 w) (
 R (.bool false) w)) (
 CallF Try.prog 21 #[a1] w fun t29_11 w =>
 RunA Try.prog (Op.unary .not t29_11) fun t30_12 =>
 IfB t30_12 (
 RunW Try.prog (bin .neq 35 (.tmp 36) (.const (.pointer none)) t19_3 (.pointer none)) w fun t37_13 =>
 IfB t37_13 (
 CallF Try.prog 13 #[] w fun t39_14 w =>
 R t39_14 w) (
 R (.bool false) w)) (
 RunA Try.prog (bin .lss 3 (.tmp 33) (.const (.int .i64 0)) a2 (.int .i64 0)) fun t34_15 =>
 IfB t34_15 (
 RunW Try.prog (bin .neq 35 (.tmp 36) (.const (.pointer none)) t19_3 (.pointer none)) w fun t37_16 =>
 IfB t37_16 (
 CallF Try.prog 13 #[] w fun t39_17 w =>
 R t39_17 w) (
 R (.bool false) w)) (
 lp 1 (fun n_19 t8_18 w =>
 RunW Try.prog (Builtin.len_ #[34] 3 #[a0]) w fun t43_20 =>
 RunA Try.prog (bin .lss 3 (.tmp 41) (.tmp 43) t8_18 t43_20) fun t44_21 =>
 IfB t44_21 (
 RunA Try.prog (Instr.indexAt 34 a0 t8_18) fun t50_22 =>
 RunW Try.prog (Instr.loadAt 40 t50_22) w fun t51_23 =>
 CallF Try.prog 22 #[t19_3, t51_23] w fun t52_24 w =>
 RunA Try.prog (bin .add 3 (.tmp 45) (.const (.int .i64 1)) t8_18 (.int .i64 1)) fun t46_25 =>
 (a0 : Value) = a0 ∧ ((a1 : Value) = a1 ∧ ((a2 : Value) = a2 ∧ ((t19_3 : Value) = t19_3 ∧ (n_19 t46_25 w))))) (
 CallF Try.prog 23 #[t19_3] w fun t55_26 w =>
 RunA Try.prog (bin .lss 3 (.tmp 53) (.tmp 55) a2 t55_26) fun t56_27 =>
 IfB t56_27 (
 CallF Try.prog 13 #[] w fun t57_28 w =>
 R t57_28 w) (
 CallF Try.prog 25 #[t19_3, (.string ⟨#[]⟩), (.string ⟨#[]⟩), a2] w fun t60_29 w =>
 CallF Try.prog 24 #[t60_29, (.int .i64 1048576)] w fun t61_30 w =>
 lp 1 (fun n_32 t10_31 w =>
 RunW Try.prog (Builtin.len_ #[34] 3 #[a1]) w fun t64_33 =>
 RunA Try.prog (bin .lss 3 (.tmp 62) (.tmp 64) t10_31 t64_33) fun t65_34 =>
 IfB t65_34 (
 RunA Try.prog (Instr.indexAt 34 a1 t10_31) fun t70_35 =>
 RunW Try.prog (Instr.loadAt 40 t70_35) w fun t71_36 =>
 RunV Try.prog (Instr.alloc 40 true (.tuple #[])) w fun t11_37 w =>
 RunU Try.prog (Instr.storeAt 40 t11_37 t71_36) w fun w =>
 jn 5 (fun t1_38 t2_39 t7_40 t9_41 t10_42 w =>
 RunA Try.prog (bin .add 3 (.tmp 66) (.const (.int .i64 1)) t10_42 (.int .i64 1)) fun t67_44 =>
 (t1_38 : Value) = a1 ∧ ((t2_39 : Value) = a2 ∧ ((t7_40 : Value) = t19_3 ∧ ((t9_41 : Value) = t61_30 ∧ (n_32 t67_44 w))))) fun j_43 =>
 RunA Try.prog (Instr.fieldAt 40 t11_37 0) fun t73_45 =>
 RunW Try.prog (Instr.loadAt 3 t73_45) w fun t74_46 =>
 RunW Try.prog (bin .eql 3 (.tmp 74) (.const (.int .i64 2)) t74_46 (.int .i64 2)) w fun t75_47 =>
 IfB t75_47 (
 RunA Try.prog (Instr.fieldAt 40 t11_37 1) fun t77_48 =>
 RunW Try.prog (Instr.loadAt 3 t77_48) w fun t78_49 =>
 RunA Try.prog (bin .leq 3 (.tmp 78) (.tmp 79) t78_49 a2) fun t80_50 =>
 IfB t80_50 (
 RunA Try.prog (Instr.fieldAt 40 t11_37 1) fun t83_51 =>
 RunW Try.prog (Instr.loadAt 3 t83_51) w fun t84_52 =>
 CallF Try.prog 26 #[t19_3, t84_52] w fun t85_53 w =>
 j_43 a1 a2 t19_3 t61_30 t10_31 w) (
 jn 5 (fun t1_54 t2_55 t7_56 t9_57 t10_58 w =>
 j_43 t1_54 t2_55 t7_56 t9_57 t10_58 w) fun j_59 =>
 RunA Try.prog (Instr.fieldAt 40 t11_37 0) fun t87_60 =>
 RunW Try.prog (Instr.loadAt 3 t87_60) w fun t88_61 =>
 RunA Try.prog (bin .lss 3 (.tmp 88) (.const (.int .i64 2)) t88_61 (.int .i64 2)) fun t89_62 =>
 IfB t89_62 (
 RunA Try.prog (Instr.fieldAt 40 t11_37 1) fun t91_63 =>
 RunW Try.prog (Instr.loadAt 3 t91_63) w fun t92_64 =>
 RunA Try.prog (bin .gtr 3 (.tmp 92) (.tmp 93) t92_64 a2) fun t94_65 =>
 IfB t94_65 (
 RunW Try.prog (Instr.loadAt 40 t11_37) w fun t97_66 =>
 CallF Try.prog 22 #[t19_3, t97_66] w fun t98_67 w =>
 j_59 a1 a2 t19_3 t61_30 t10_31 w) (
 j_59 a1 a2 t19_3 t61_30 t10_31 w)) (
 j_59 a1 a2 t19_3 t61_30 t10_31 w))) (
 jn 5 (fun t1_68 t2_69 t7_70 t9_71 t10_72 w =>
 j_43 t1_68 t2_69 t7_70 t9_71 t10_72 w) fun j_73 =>
 RunA Try.prog (Instr.fieldAt 40 t11_37 0) fun t87_74 =>
 RunW Try.prog (Instr.loadAt 3 t87_74) w fun t88_75 =>
 RunA Try.prog (bin .lss 3 (.tmp 88) (.const (.int .i64 2)) t88_75 (.int .i64 2)) fun t89_76 =>
 IfB t89_76 (
 RunA Try.prog (Instr.fieldAt 40 t11_37 1) fun t91_77 =>
 RunW Try.prog (Instr.loadAt 3 t91_77) w fun t92_78 =>
 RunA Try.prog (bin .gtr 3 (.tmp 92) (.tmp 93) t92_78 a2) fun t94_79 =>
 IfB t94_79 (
 RunW Try.prog (Instr.loadAt 40 t11_37) w fun t97_80 =>
 CallF Try.prog 22 #[t19_3, t97_80] w fun t98_81 w =>
 j_73 a1 a2 t19_3 t61_30 t10_31 w) (
 j_73 a1 a2 t19_3 t61_30 t10_31 w)) (
 j_73 a1 a2 t19_3 t61_30 t10_31 w))) (
 CallF Try.prog 25 #[t19_3, (.string ⟨#[]⟩), (.string ⟨#[]⟩), a2] w fun t101_82 w =>
 CallF Try.prog 24 #[t101_82, (.int .i64 1048576)] w fun t102_83 w =>
 CallF Try.prog 27 #[t102_83, t61_30] w fun t105_84 w =>
 RunA Try.prog (Op.unary .not t105_84) fun t106_85 =>
 IfB t106_85 (
 R (.bool false) w) (
 lp 1 (fun n_87 t13_86 w =>
 RunW Try.prog (Builtin.len_ #[41] 3 #[t102_83]) w fun t109_88 =>
 RunA Try.prog (bin .lss 3 (.tmp 107) (.tmp 109) t13_86 t109_88) fun t110_89 =>
 IfB t110_89 (
 RunA Try.prog (Instr.indexAt 41 t102_83 t13_86) fun t117_90 =>
 RunA Try.prog (Instr.fieldAt 50 t117_90 0) fun t118_91 =>
 RunW Try.prog (Instr.loadAt 9 t118_91) w fun t119_92 =>
 CallF Try.prog 28 #[t19_3, t119_92, a2] w fun t121_93 w =>
 RunA Try.prog (Instr.extract t121_93 0) fun t122_94 =>
 RunA Try.prog (Instr.extract t121_93 1) fun t123_95 =>
 jn 4 (fun t2_96 t7_97 t12_98 t13_99 w =>
 RunA Try.prog (bin .add 3 (.tmp 111) (.const (.int .i64 1)) t13_99 (.int .i64 1)) fun t112_101 =>
 (t2_96 : Value) = a2 ∧ ((t7_97 : Value) = t19_3 ∧ ((t12_98 : Value) = t102_83 ∧ (n_87 t112_101 w)))) fun j_100 =>
 drw (fun S_102 w =>
 RunA Try.prog (Op.unary .not t123_95) fun t125_103 =>
 IfB t125_103 (
 R (.bool false) w) (
 RunA Try.prog (Instr.indexAt 41 t102_83 t13_86) fun t130_104 =>
 RunA Try.prog (Instr.fieldAt 50 t130_104 1) fun t131_105 =>
 RunS Try.prog S_102 (Instr.loadAt 9 t131_105) fun t132_106 =>
 RunS Try.prog S_102 (bin .neq 9 (.tmp 127) (.tmp 132) t122_94 t132_106) fun t133_107 =>
 IfB t133_107 (
 R (.bool false) w) (
 RunA Try.prog (bin .gtr 3 (.tmp 136) (.const (.int .i64 0)) t13_86 (.int .i64 0)) fun t137_108 =>
 IfB t137_108 (
 RunA Try.prog (Instr.indexAt 41 t102_83 t13_86) fun t141_109 =>
 RunA Try.prog (Instr.fieldAt 50 t141_109 0) fun t142_110 =>
 RunS Try.prog S_102 (Instr.loadAt 9 t142_110) fun t143_111 =>
 RunA Try.prog (bin .sub 3 (.tmp 145) (.const (.int .i64 1)) t13_86 (.int .i64 1)) fun t146_112 =>
 RunA Try.prog (Instr.indexAt 41 t102_83 t146_112) fun t147_113 =>
 RunA Try.prog (Instr.fieldAt 50 t147_113 0) fun t148_114 =>
 RunS Try.prog S_102 (Instr.loadAt 9 t148_114) fun t149_115 =>
 RunA Try.prog (bin .leq 9 (.tmp 143) (.tmp 149) t143_111 t149_115) fun t150_116 =>
 IfB t150_116 (
 R (.bool false) w) (
 j_100 a2 t19_3 t102_83 t13_86 w)) (
 j_100 a2 t19_3 t102_83 t13_86 w)))) w) (
 RunW Try.prog (Builtin.len_ #[41] 3 #[t102_83]) w fun t154_117 =>
 RunW Try.prog (Builtin.min_ #[3, 3] 3 #[(.int .i64 3), t154_117]) w fun t155_118 =>
 drw (fun S_119 w =>
 CallF Try.prog 13 #[] w fun t156_120 w =>
 S_119 w ∧ (
 IfB t156_120 (
 RunA Try.prog (Instr.sliceAt 41 t102_83 none (some t155_118) none) fun t164_121 =>
 CallF Try.prog 25 #[t19_3, (.string ⟨#[]⟩), (.string ⟨#[]⟩), a2] w fun t160_122 w =>
 S_119 w ∧ (
 CallF Try.prog 24 #[t160_122, (.int .i64 3)] w fun t161_123 w =>
 S_119 w ∧ (
 CallF Try.prog 27 #[t161_123, t164_121] w fun t165_124 w =>
 S_119 w ∧ (
 R t165_124 w)))) (
 R (.bool false) w))) w)) [(.int .i64 0)] w))) [(.int .i64 0)] w))) [(.int .i64 0)] w)))))
theorem sh4_calls {a0 a1 a2 : Value} {w : World} {R : Value → World → Prop} (h : sh4 a0 a1 a2 w R) : CallF Try.prog 4 #[a0, a1, a2] w R :=
  calls_of_denF (mk := false) (args := [a0, a1, a2]) (an := (.seq (.ops [0, 1, 2]) (.seq (.seq (.ops [0, 1, 2, 18]) (.cond (.seq (.ops [6]) .leaf) .leaf)) (.seq (.ops [0, 1, 2, 7]) (.seq (.seq (.ops [0, 1, 2, 7, 35]) (.cond (.seq (.ops [6]) .leaf) .leaf)) (.seq (.seq (.ops [0, 1, 2, 7, 8]) (.blk (.loop [0, 1, 2, 7] [8] (.seq (.seq (.ops [0, 1, 2, 7, 8, 44]) (.cond .leaf .leaf)) (.seq (.blk (.ops [0, 1, 2, 7, 8])) (.ops [0, 1, 2, 7, 8])))))) (.seq (.seq (.ops [1, 2, 7, 56]) (.cond (.seq (.ops [6]) .leaf) .leaf)) (.seq (.ops [1, 2, 7, 9]) (.seq (.seq (.ops [1, 2, 7, 9, 10]) (.blk (.loop [1, 2, 7, 9] [10] (.seq (.seq (.ops [1, 2, 7, 9, 10, 65]) (.cond .leaf .leaf)) (.seq (.blk (.seq (.ops [1, 2, 7, 9, 10, 11]) (.blk (.join [1, 2, 7, 9, 10] (.seq (.ops [1, 2, 7, 9, 10, 11, 72]) (.cond (.ops [1, 2, 7, 9, 10]) (.join [1, 2, 7, 9, 10] (.seq (.ops [1, 2, 7, 9, 10, 11, 86]) (.cond (.ops [1, 2, 7, 9, 10]) .leaf))))))))) (.ops [1, 2, 7, 9, 10])))))) (.seq (.ops [2, 7, 9, 12]) (.seq (.seq (.ops [2, 7, 12, 106]) (.cond (.seq (.ops [6]) .leaf) .leaf)) (.seq (.seq (.ops [2, 7, 12, 13]) (.blk (.loop [2, 7, 12] [13] (.seq (.seq (.ops [2, 7, 12, 13, 110]) (.cond .leaf .leaf)) (.seq (.blk (.seq (.ops [2, 7, 12, 13, 14, 15]) (.join [2, 7, 12, 13] (.seq (.draw (.q 0 (.q 1 (.q 2 (.sp 3 (.q 3 (.q 4 (.q 5 (.q 6 (.q 7 (.q 8 (.q 9 (.q 10 (.q 11 (.q 12 (.q 13 (.q 14 (.q 15 (.q 16 (.q 17 (.q 18 (.q 19 (.q 20 (.q 21 (.q 22 (.q 23 (.q 24 (.q 25 (.q 26 (.q 27 (.q 28 .fin)))))))))))))))))))))))))) (.q 3 (.q 4 (.q 5 (.q 6 (.q 7 (.q 8 (.q 9 (.q 10 (.q 11 (.sp 12 (.q 12 (.q 13 (.q 14 (.q 15 (.q 16 (.q 17 (.q 18 (.q 19 (.q 20 (.q 21 (.q 22 (.q 23 (.q 24 (.q 25 (.q 26 (.q 27 (.q 28 .fin))))))))))))))))) (.q 12 (.q 13 (.q 14 (.sp 15 (.q 15 (.q 16 (.q 17 (.q 18 (.q 19 (.q 20 (.q 21 (.q 22 (.q 23 (.q 24 (.q 25 (.q 26 (.q 27 (.q 28 .fin)))))))))))))) (.q 15 (.q 16 (.q 17 (.q 18 (.q 19 (.q 20 (.q 21 (.q 22 (.q 23 (.q 24 (.q 25 (.q 26 (.q 27 (.q 28 .fin)))))))))))))))))))))))))))))))) [2, 7, 12, 13, 152]) (.cond (.seq (.ops [6]) .leaf) .leaf))))) (.ops [2, 7, 12, 13])))))) (.seq (.ops [2, 7, 12, 16]) (.seq (.draw (.one 0 (.q 1 (.sp 2 (.q 2 (.q 3 (.q 6 (.q 7 (.q 8 (.one 4 (.one 5 (.one 9 (.q 10 (.q 11 .fin)))))))))) (.q 2 (.q 3 (.q 4 (.q 5 (.q 6 (.q 7 (.q 8 (.q 9 (.q 10 (.q 11 .fin))))))))))))) [6]) .leaf)))))))))))))) (c := Try.f4.body.getD .skip) hent Try.func4 rfl (Nat.le_of_ble_eq_true (by kernel_rfl))
    (Eq.mp (show sh4 a0 a1 a2 w R = denF Try.prog ent false Try.f4 (.seq (.ops [0, 1, 2]) (.seq (.seq (.ops [0, 1, 2, 18]) (.cond (.seq (.ops [6]) .leaf) .leaf)) (.seq (.ops [0, 1, 2, 7]) (.seq (.seq (.ops [0, 1, 2, 7, 35]) (.cond (.seq (.ops [6]) .leaf) .leaf)) (.seq (.seq (.ops [0, 1, 2, 7, 8]) (.blk (.loop [0, 1, 2, 7] [8] (.seq (.seq (.ops [0, 1, 2, 7, 8, 44]) (.cond .leaf .leaf)) (.seq (.blk (.ops [0, 1, 2, 7, 8])) (.ops [0, 1, 2, 7, 8])))))) (.seq (.seq (.ops [1, 2, 7, 56]) (.cond (.seq (.ops [6]) .leaf) .leaf)) (.seq (.ops [1, 2, 7, 9]) (.seq (.seq (.ops [1, 2, 7, 9, 10]) (.blk (.loop [1, 2, 7, 9] [10] (.seq (.seq (.ops [1, 2, 7, 9, 10, 65]) (.cond .leaf .leaf)) (.seq (.blk (.seq (.ops [1, 2, 7, 9, 10, 11]) (.blk (.join [1, 2, 7, 9, 10] (.seq (.ops [1, 2, 7, 9, 10, 11, 72]) (.cond (.ops [1, 2, 7, 9, 10]) (.join [1, 2, 7, 9, 10] (.seq (.ops [1, 2, 7, 9, 10, 11, 86]) (.cond (.ops [1, 2, 7, 9, 10]) .leaf))))))))) (.ops [1, 2, 7, 9, 10])))))) (.seq (.ops [2, 7, 9, 12]) (.seq (.seq (.ops [2, 7, 12, 106]) (.cond (.seq (.ops [6]) .leaf) .leaf)) (.seq (.seq (.ops [2, 7, 12, 13]) (.blk (.loop [2, 7, 12] [13] (.seq (.seq (.ops [2, 7, 12, 13, 110]) (.cond .leaf .leaf)) (.seq (.blk (.seq (.ops [2, 7, 12, 13, 14, 15]) (.join [2, 7, 12, 13] (.seq (.draw (.q 0 (.q 1 (.q 2 (.sp 3 (.q 3 (.q 4 (.q 5 (.q 6 (.q 7 (.q 8 (.q 9 (.q 10 (.q 11 (.q 12 (.q 13 (.q 14 (.q 15 (.q 16 (.q 17 (.q 18 (.q 19 (.q 20 (.q 21 (.q 22 (.q 23 (.q 24 (.q 25 (.q 26 (.q 27 (.q 28 .fin)))))))))))))))))))))))))) (.q 3 (.q 4 (.q 5 (.q 6 (.q 7 (.q 8 (.q 9 (.q 10 (.q 11 (.sp 12 (.q 12 (.q 13 (.q 14 (.q 15 (.q 16 (.q 17 (.q 18 (.q 19 (.q 20 (.q 21 (.q 22 (.q 23 (.q 24 (.q 25 (.q 26 (.q 27 (.q 28 .fin))))))))))))))))) (.q 12 (.q 13 (.q 14 (.sp 15 (.q 15 (.q 16 (.q 17 (.q 18 (.q 19 (.q 20 (.q 21 (.q 22 (.q 23 (.q 24 (.q 25 (.q 26 (.q 27 (.q 28 .fin)))))))))))))) (.q 15 (.q 16 (.q 17 (.q 18 (.q 19 (.q 20 (.q 21 (.q 22 (.q 23 (.q 24 (.q 25 (.q 26 (.q 27 (.q 28 .fin)))))))))))))))))))))))))))))))) [2, 7, 12, 13, 152]) (.cond (.seq (.ops [6]) .leaf) .leaf))))) (.ops [2, 7, 12, 13])))))) (.seq (.ops [2, 7, 12, 16]) (.seq (.draw (.one 0 (.q 1 (.sp 2 (.q 2 (.q 3 (.q 6 (.q 7 (.q 8 (.one 4 (.one 5 (.one 9 (.q 10 (.q 11 .fin)))))))))) (.q 2 (.q 3 (.q 4 (.q 5 (.q 6 (.q 7 (.q 8 (.q 9 (.q 10 (.q 11 .fin))))))))))))) [6]) .leaf))))))))))))) (Try.f4.body.getD .skip) [a0, a1, a2] w R by kernel_rfl) h)

/-! ### 5: handbill/hbllaw11.VersGone -/
def sh5 (a0 a1 a2 a3 a4 a5 : Value) (w : World) (R : Value → World → Prop) : Prop :=
 CallF Try.prog 13 #[] w fun t27_1 w =>
 RunA Try.prog (Op.unary .not t27_1) fun t28_2 =>
 IfB t28_2 (
 R (.bool false) w) (
 CallF Try.prog 20 #[] w fun t29_3 w =>
 jn 8 (fun t0_4 t1_5 t2_6 t3_7 t4_8 t5_9 t13_10 t70_11 w =>
 IfB t70_11 (
 RunW Try.prog (bin .neq 35 (.tmp 71) (.const (.pointer none)) t13_10 (.pointer none)) w fun t72_13 =>
 IfB t72_13 (
 CallF Try.prog 13 #[] w fun t74_14 w =>
 R t74_14 w) (
 R (.bool false) w)) (
 RunA Try.prog (bin .add 3 (.tmp 77) (.tmp 78) t0_4 t1_5) fun t79_15 =>
 RunA Try.prog (bin .add 3 (.tmp 80) (.tmp 81) t0_4 t1_5) fun t82_16 =>
 RunA Try.prog (bin .add 3 (.tmp 82) (.tmp 83) t82_16 t2_6) fun t84_17 =>
 CallF Try.prog 29 #[t13_10, t0_4, t3_7, t4_8] w fun t89_18 w =>
 RunW Try.prog (bin .neq 26 (.tmp 89) (.const (.int .i64 0)) t89_18 (.int .i64 0)) w fun t90_19 =>
 IfB t90_19 (
 R (.bool false) w) (
 CallF Try.prog 30 #[t13_10, t79_15, t3_7] w fun t95_20 w =>
 RunW Try.prog (bin .neq 26 (.tmp 95) (.const (.int .i64 0)) t95_20 (.int .i64 0)) w fun t96_21 =>
 IfB t96_21 (
 R (.bool false) w) (
 CallF Try.prog 29 #[t13_10, t84_17, t3_7, t5_9] w fun t103_22 w =>
 RunW Try.prog (bin .neq 26 (.tmp 103) (.const (.int .i64 0)) t103_22 (.int .i64 0)) w fun t104_23 =>
 IfB t104_23 (
 R (.bool false) w) (
 CallF Try.prog 29 #[t13_10, t84_17, t3_7, t5_9] w fun t111_24 w =>
 RunW Try.prog (bin .neq 26 (.tmp 111) (.const (.int .i64 12)) t111_24 (.int .i64 12)) w fun t112_25 =>
 IfB t112_25 (
 R (.bool false) w) (
 CallF Try.prog 30 #[t13_10, t0_4, t3_7] w fun t118_26 w =>
 RunW Try.prog (bin .neq 26 (.tmp 118) (.const (.int .i64 12)) t118_26 (.int .i64 12)) w fun t119_27 =>
 IfB t119_27 (
 R (.bool false) w) (
 RunA Try.prog (bin .sub 3 (.tmp 124) (.const (.int .i64 1)) t79_15 (.int .i64 1)) fun t125_28 =>
 CallF Try.prog 28 #[t13_10, t3_7, t125_28] w fun t126_29 w =>
 RunA Try.prog (Instr.extract t126_29 0) fun t127_30 =>
 RunA Try.prog (Instr.extract t126_29 1) fun t128_31 =>
 RunA Try.prog (bin .sub 3 (.tmp 132) (.const (.int .i64 1)) t84_17 (.int .i64 1)) fun t133_32 =>
 CallF Try.prog 28 #[t13_10, t3_7, t133_32] w fun t134_33 w =>
 RunA Try.prog (Instr.extract t134_33 0) fun t135_34 =>
 RunA Try.prog (Instr.extract t134_33 1) fun t136_35 =>
 CallF Try.prog 28 #[t13_10, t3_7, t84_17] w fun t141_36 w =>
 RunA Try.prog (Instr.extract t141_36 0) fun t142_37 =>
 RunA Try.prog (Instr.extract t141_36 1) fun t143_38 =>
 RunA Try.prog (bin .sub 3 (.tmp 147) (.const (.int .i64 1)) t0_4 (.int .i64 1)) fun t148_39 =>
 CallF Try.prog 28 #[t13_10, t3_7, t148_39] w fun t149_40 w =>
 RunA Try.prog (Instr.extract t149_40 0) fun t150_41 =>
 RunA Try.prog (Instr.extract t149_40 1) fun t151_42 =>
 RunA Try.prog (Op.unary .not t128_31) fun t153_43 =>
 IfB t153_43 (
 R (.bool false) w) (
 RunW Try.prog (bin .neq 9 (.tmp 155) (.tmp 156) t127_30 t4_8) w fun t157_44 =>
 IfB t157_44 (
 R (.bool false) w) (
 IfB t136_35 (
 R (.bool false) w) (
 RunA Try.prog (Op.unary .not t143_38) fun t164_45 =>
 IfB t164_45 (
 R (.bool false) w) (
 RunW Try.prog (bin .neq 9 (.tmp 167) (.tmp 168) t142_37 t5_9) w fun t169_46 =>
 IfB t169_46 (
 R (.bool false) w) (
 IfB t151_42 (
 R (.bool false) w) (
 CallF Try.prog 31 #[t13_10] w fun t176_47 w =>
 RunW Try.prog (bin .neq 3 (.tmp 176) (.const (.int .i64 3)) t176_47 (.int .i64 3)) w fun t177_48 =>
 IfB t177_48 (
 R (.bool false) w) (
 CallF Try.prog 25 #[t13_10, (.string ⟨#[]⟩), (.string ⟨#[]⟩), t79_15] w fun t182_49 w =>
 CallF Try.prog 24 #[t182_49, (.int .i64 9)] w fun t183_50 w =>
 RunW Try.prog (Builtin.len_ #[41] 3 #[t183_50]) w fun t184_51 =>
 RunW Try.prog (bin .neq 3 (.tmp 184) (.const (.int .i64 0)) t184_51 (.int .i64 0)) w fun t185_52 =>
 IfB t185_52 (
 R (.bool false) w) (
 CallF Try.prog 26 #[t13_10, t79_15] w fun t189_53 w =>
 CallF Try.prog 26 #[t13_10, t84_17] w fun t192_54 w =>
 CallF Try.prog 13 #[] w fun t193_55 w =>
 IfB t193_55 (
 RunW Try.prog (bin .eql 3 (.tmp 195) (.const (.int .i64 2)) t189_53 (.int .i64 2)) w fun t196_56 =>
 IfB t196_56 (
 RunW Try.prog (bin .eql 3 (.tmp 199) (.const (.int .i64 0)) t192_54 (.int .i64 0)) w fun t200_57 =>
 IfB t200_57 (
 CallF Try.prog 31 #[t13_10] w fun t204_58 w =>
 RunW Try.prog (bin .eql 3 (.tmp 204) (.const (.int .i64 1)) t204_58 (.int .i64 1)) w fun t205_59 =>
 IfB t205_59 (
 CallF Try.prog 23 #[t13_10] w fun t209_60 w =>
 RunW Try.prog (bin .eql 3 (.tmp 209) (.tmp 210) t209_60 t84_17) w fun t211_61 =>
 IfB t211_61 (
 CallF Try.prog 32 #[t13_10, t3_7] w fun t216_62 w =>
 RunW Try.prog (bin .eql 3 (.tmp 216) (.tmp 217) t216_62 t84_17) w fun t218_63 =>
 R t218_63 w) (
 R (.bool false) w)) (
 R (.bool false) w)) (
 R (.bool false) w)) (
 R (.bool false) w)) (
 R (.bool false) w)))))))))))))))) fun j_12 =>
 RunW Try.prog (bin .eql 35 (.tmp 30) (.const (.pointer none)) t29_3 (.pointer none)) w fun t31_64 =>
 IfB t31_64 (
 j_12 a0 a1 a2 a3 a4 a5 t29_3 (.bool true) w) (
 RunA Try.prog (bin .lss 3 (.tmp 33) (.const (.int .i64 1)) a0 (.int .i64 1)) fun t34_65 =>
 IfB t34_65 (
 j_12 a0 a1 a2 a3 a4 a5 t29_3 (.bool true) w) (
 RunA Try.prog (bin .gtr 3 (.tmp 37) (.const (.int .i64 1073741824)) a0 (.int .i64 1073741824)) fun t38_66 =>
 IfB t38_66 (
 j_12 a0 a1 a2 a3 a4 a5 t29_3 (.bool true) w) (
 RunA Try.prog (bin .lss 3 (.tmp 41) (.const (.int .i64 1)) a1 (.int .i64 1)) fun t42_67 =>
 IfB t42_67 (
 j_12 a0 a1 a2 a3 a4 a5 t29_3 (.bool true) w) (
 RunA Try.prog (bin .gtr 3 (.tmp 45) (.const (.int .i64 1073741824)) a1 (.int .i64 1073741824)) fun t46_68 =>
 IfB t46_68 (
 j_12 a0 a1 a2 a3 a4 a5 t29_3 (.bool true) w) (
 RunA Try.prog (bin .lss 3 (.tmp 49) (.const (.int .i64 1)) a2 (.int .i64 1)) fun t50_69 =>
 IfB t50_69 (
 j_12 a0 a1 a2 a3 a4 a5 t29_3 (.bool true) w) (
 RunA Try.prog (bin .gtr 3 (.tmp 53) (.const (.int .i64 1073741824)) a2 (.int .i64 1073741824)) fun t54_70 =>
 IfB t54_70 (
 j_12 a0 a1 a2 a3 a4 a5 t29_3 (.bool true) w) (
 RunW Try.prog (Builtin.len_ #[9] 3 #[a3]) w fun t58_71 =>
 RunA Try.prog (bin .gtr 3 (.tmp 58) (.const (.int .i64 1000)) t58_71 (.int .i64 1000)) fun t59_72 =>
 IfB t59_72 (
 j_12 a0 a1 a2 a3 a4 a5 t29_3 (.bool true) w) (
 RunW Try.prog (Builtin.len_ #[9] 3 #[a4]) w fun t63_73 =>
 RunA Try.prog (bin .gtr 3 (.tmp 63) (.const (.int .i64 1000)) t63_73 (.int .i64 1000)) fun t64_74 =>
 IfB t64_74 (
 j_12 a0 a1 a2 a3 a4 a5 t29_3 (.bool true) w) (
 RunW Try.prog (Builtin.len_ #[9] 3 #[a5]) w fun t68_75 =>
 RunA Try.prog (bin .gtr 3 (.tmp 68) (.const (.int .i64 1000)) t68_75 (.int .i64 1000)) fun t69_76 =>
 j_12 a0 a1 a2 a3 a4 a5 t29_3 t69_76 w))))))))))
theorem sh5_calls {a0 a1 a2 a3 a4 a5 : Value} {w : World} {R : Value → World → Prop} (h : sh5 a0 a1 a2 a3 a4 a5 w R) : CallF Try.prog 5 #[a0, a1, a2, a3, a4, a5] w R :=
  calls_of_denF (mk := false) (args := [a0, a1, a2, a3, a4, a5]) (an := (.seq (.ops [0, 1, 2, 3, 4, 5]) (.seq (.seq (.ops [0, 1, 2, 3, 4, 5, 28]) (.cond (.seq (.ops [12]) .leaf) .leaf)) (.seq (.ops [0, 1, 2, 3, 4, 5, 13]) (.seq (.seq (.join [0, 1, 2, 3, 4, 5, 13, 70] (.ops [0, 1, 2, 3, 4, 5, 13, 70])) (.cond (.seq (.ops [12]) .leaf) .leaf)) (.seq (.ops [3, 4, 5, 13, 14, 15, 16]) (.seq (.seq (.ops [3, 4, 5, 13, 14, 15, 16, 120]) (.cond (.seq (.ops [12]) .leaf) .leaf)) (.seq (.ops [3, 4, 5, 13, 14, 15, 16, 17, 18]) (.seq (.ops [3, 4, 5, 13, 14, 15, 16, 17, 18, 20]) (.seq (.ops [3, 4, 5, 13, 14, 15, 16, 17, 18, 20, 21, 22]) (.seq (.ops [3, 4, 5, 13, 15, 16, 17, 18, 20, 21, 22, 24]) (.seq (.seq (.ops [3, 13, 15, 16, 186]) (.cond (.seq (.ops [12]) .leaf) .leaf)) (.seq (.ops [3, 13, 16, 25]) (.seq (.ops [3, 13, 16, 25, 26]) (.seq (.ops [12]) .leaf))))))))))))))) (c := Try.f5.body.getD .skip) hent Try.func5 rfl (Nat.le_of_ble_eq_true (by kernel_rfl))
    (Eq.mp (show sh5 a0 a1 a2 a3 a4 a5 w R = denF Try.prog ent false Try.f5 (.seq (.ops [0, 1, 2, 3, 4, 5]) (.seq (.seq (.ops [0, 1, 2, 3, 4, 5, 28]) (.cond (.seq (.ops [12]) .leaf) .leaf)) (.seq (.ops [0, 1, 2, 3, 4, 5, 13]) (.seq (.seq (.join [0, 1, 2, 3, 4, 5, 13, 70] (.ops [0, 1, 2, 3, 4, 5, 13, 70])) (.cond (.seq (.ops [12]) .leaf) .leaf)) (.seq (.ops [3, 4, 5, 13, 14, 15, 16]) (.seq (.seq (.ops [3, 4, 5, 13, 14, 15, 16, 120]) (.cond (.seq (.ops [12]) .leaf) .leaf)) (.seq (.ops [3, 4, 5, 13, 14, 15, 16, 17, 18]) (.seq (.ops [3, 4, 5, 13, 14, 15, 16, 17, 18, 20]) (.seq (.ops [3, 4, 5, 13, 14, 15, 16, 17, 18, 20, 21, 22]) (.seq (.ops [3, 4, 5, 13, 15, 16, 17, 18, 20, 21, 22, 24]) (.seq (.seq (.ops [3, 13, 15, 16, 186]) (.cond (.seq (.ops [12]) .leaf) .leaf)) (.seq (.ops [3, 13, 16, 25]) (.seq (.ops [3, 13, 16, 25, 26]) (.seq (.ops [12]) .leaf)))))))))))))) (Try.f5.body.getD .skip) [a0, a1, a2, a3, a4, a5] w R by kernel_rfl) h)

/-! ### 6: handbill/hbllaw11.VersOrder -/
def sh6 (a0 a1 a2 : Value) (w : World) (R : Value → World → Prop) : Prop :=
 CallF Try.prog 13 #[] w fun t18_1 w =>
 RunA Try.prog (Op.unary .not t18_1) fun t19_2 =>
 IfB t19_2 (
 R (.bool false) w) (
 CallF Try.prog 20 #[] w fun t20_3 w =>
 CallF Try.prog 20 #[] w fun t21_4 w =>
 jn 6 (fun t0_5 t1_6 t2_7 t7_8 t8_9 t41_10 w =>
 IfB t41_10 (
 RunW Try.prog (bin .neq 35 (.tmp 42) (.const (.pointer none)) t7_8 (.pointer none)) w fun t43_12 =>
 IfB t43_12 (
 RunW Try.prog (bin .neq 35 (.tmp 45) (.const (.pointer none)) t8_9 (.pointer none)) w fun t46_13 =>
 IfB t46_13 (
 CallF Try.prog 13 #[] w fun t49_14 w =>
 R t49_14 w) (
 R (.bool false) w)) (
 R (.bool false) w)) (
 lp 2 (fun n_17 t9_15 t10_16 w =>
 RunW Try.prog (Builtin.len_ #[34] 3 #[t0_5]) w fun t53_18 =>
 RunA Try.prog (bin .lss 3 (.tmp 51) (.tmp 53) t10_16 t53_18) fun t54_19 =>
 IfB t54_19 (
 RunA Try.prog (Instr.indexAt 34 t0_5 t10_16) fun t59_20 =>
 RunW Try.prog (Instr.loadAt 40 t59_20) w fun t60_21 =>
 RunV Try.prog (Instr.alloc 40 true (.tuple #[])) w fun t11_22 w =>
 RunU Try.prog (Instr.storeAt 40 t11_22 t60_21) w fun w =>
 lp 2 (fun n_25 t12_23 t13_24 w =>
 RunW Try.prog (Builtin.len_ #[34] 3 #[t9_15]) w fun t63_26 =>
 RunA Try.prog (bin .lss 3 (.tmp 61) (.tmp 63) t13_24 t63_26) fun t64_27 =>
 IfB t64_27 (
 jn 10 (fun t0_28 t1_29 t2_30 t7_31 t8_32 t9_33 t10_34 t11_35 t12_36 t13_37 w =>
 RunA Try.prog (bin .add 3 (.tmp 65) (.const (.int .i64 1)) t13_37 (.int .i64 1)) fun t66_39 =>
 (t0_28 : Value) = t0_5 ∧ ((t1_29 : Value) = t1_6 ∧ ((t2_30 : Value) = t2_7 ∧ ((t7_31 : Value) = t7_8 ∧ ((t8_32 : Value) = t8_9 ∧ ((t9_33 : Value) = t9_15 ∧ ((t10_34 : Value) = t10_16 ∧ ((t11_35 : Value) = t11_22 ∧ (n_25 t12_36 t66_39 w))))))))) fun j_38 =>
 drw (fun S_40 w =>
 IfB t12_23 (
 j_38 t0_5 t1_6 t2_7 t7_8 t8_9 t9_15 t10_16 t11_22 (.bool true) t13_24 w) (
 RunA Try.prog (Instr.indexAt 34 t9_15 t13_24) fun t71_41 =>
 RunA Try.prog (Instr.fieldAt 40 t71_41 2) fun t72_42 =>
 RunS Try.prog S_40 (Instr.loadAt 9 t72_42) fun t73_43 =>
 RunA Try.prog (Instr.fieldAt 40 t11_22 2) fun t74_44 =>
 RunS Try.prog S_40 (Instr.loadAt 9 t74_44) fun t75_45 =>
 RunS Try.prog S_40 (bin .eql 9 (.tmp 73) (.tmp 75) t73_43 t75_45) fun t76_46 =>
 j_38 t0_5 t1_6 t2_7 t7_8 t8_9 t9_15 t10_16 t11_22 t76_46 t13_24 w)) w) (
 jn 7 (fun t0_47 t1_48 t2_49 t7_50 t8_51 t9_52 t10_53 w =>
 RunA Try.prog (bin .add 3 (.tmp 55) (.const (.int .i64 1)) t10_53 (.int .i64 1)) fun t56_55 =>
 (t0_47 : Value) = t0_5 ∧ ((t1_48 : Value) = t1_6 ∧ ((t2_49 : Value) = t2_7 ∧ ((t7_50 : Value) = t7_8 ∧ ((t8_51 : Value) = t8_9 ∧ (n_17 t9_52 t56_55 w)))))) fun j_54 =>
 RunA Try.prog (Op.unary .not t12_23) fun t79_56 =>
 IfB t79_56 (
 RunA Try.prog (Instr.fieldAt 40 t11_22 0) fun t81_57 =>
 RunW Try.prog (Instr.loadAt 3 t81_57) w fun t82_58 =>
 RunA Try.prog (bin .lss 3 (.tmp 82) (.const (.int .i64 2)) t82_58 (.int .i64 2)) fun t83_59 =>
 IfB t83_59 (
 RunA Try.prog (Instr.fieldAt 40 t11_22 0) fun t86_60 =>
 RunW Try.prog (Instr.loadAt 3 t86_60) w fun t87_61 =>
 RunA Try.prog (bin .geq 3 (.tmp 87) (.const (.int .i64 0)) t87_61 (.int .i64 0)) fun t88_62 =>
 IfB t88_62 (
 RunW Try.prog (Instr.loadAt 40 t11_22) w fun t91_63 =>
 RunV Try.prog (Instr.buildSlice 34 1 #[(0, t91_63)]) w fun t92_64 w =>
 RunV Try.prog (Builtin.append_ #[34, 34] 34 #[t9_15, t92_64]) w fun t93_65 w =>
 j_54 t0_5 t1_6 t2_7 t7_8 t8_9 t93_65 t10_16 w) (
 j_54 t0_5 t1_6 t2_7 t7_8 t8_9 t9_15 t10_16 w)) (
 j_54 t0_5 t1_6 t2_7 t7_8 t8_9 t9_15 t10_16 w)) (
 j_54 t0_5 t1_6 t2_7 t7_8 t8_9 t9_15 t10_16 w))) [(.bool false), (.int .i64 0)] w) (
 lp 1 (fun n_67 t14_66 w =>
 RunW Try.prog (Builtin.len_ #[34] 3 #[t9_15]) w fun t96_68 =>
 RunA Try.prog (bin .lss 3 (.tmp 94) (.tmp 96) t14_66 t96_68) fun t97_69 =>
 IfB t97_69 (
 RunA Try.prog (Instr.indexAt 34 t9_15 t14_66) fun t103_70 =>
 RunW Try.prog (Instr.loadAt 40 t103_70) w fun t104_71 =>
 CallF Try.prog 22 #[t7_8, t104_71] w fun t105_72 w =>
 RunW Try.prog (Builtin.len_ #[34] 3 #[t9_15]) w fun t111_73 =>
 RunA Try.prog (bin .rem 3 (.tmp 109) (.tmp 111) t1_6 t111_73) fun t112_74 =>
 RunA Try.prog (bin .add 3 (.tmp 108) (.tmp 112) t14_66 t112_74) fun t113_75 =>
 RunW Try.prog (Builtin.len_ #[34] 3 #[t9_15]) w fun t115_76 =>
 RunA Try.prog (bin .rem 3 (.tmp 113) (.tmp 115) t113_75 t115_76) fun t116_77 =>
 RunA Try.prog (Instr.indexAt 34 t9_15 t116_77) fun t117_78 =>
 RunW Try.prog (Instr.loadAt 40 t117_78) w fun t118_79 =>
 CallF Try.prog 22 #[t8_9, t118_79] w fun t119_80 w =>
 RunA Try.prog (bin .add 3 (.tmp 98) (.const (.int .i64 1)) t14_66 (.int .i64 1)) fun t99_81 =>
 (t1_6 : Value) = t1_6 ∧ ((t2_7 : Value) = t2_7 ∧ ((t7_8 : Value) = t7_8 ∧ ((t8_9 : Value) = t8_9 ∧ ((t9_15 : Value) = t9_15 ∧ (n_67 t99_81 w)))))) (
 CallF Try.prog 31 #[t7_8] w fun t121_82 w =>
 CallF Try.prog 31 #[t8_9] w fun t123_83 w =>
 RunW Try.prog (bin .neq 3 (.tmp 121) (.tmp 123) t121_82 t123_83) w fun t124_84 =>
 IfB t124_84 (
 R (.bool false) w) (
 CallF Try.prog 25 #[t7_8, (.string ⟨#[]⟩), (.string ⟨#[]⟩), t2_7] w fun t128_85 w =>
 CallF Try.prog 24 #[t128_85, (.int .i64 1048576)] w fun t129_86 w =>
 CallF Try.prog 25 #[t8_9, (.string ⟨#[]⟩), (.string ⟨#[]⟩), t2_7] w fun t132_87 w =>
 CallF Try.prog 24 #[t132_87, (.int .i64 1048576)] w fun t133_88 w =>
 CallF Try.prog 27 #[t129_86, t133_88] w fun t134_89 w =>
 RunA Try.prog (Op.unary .not t134_89) fun t135_90 =>
 IfB t135_90 (
 R (.bool false) w) (
 lp 1 (fun n_92 t15_91 w =>
 RunW Try.prog (Builtin.len_ #[34] 3 #[t9_15]) w fun t139_93 =>
 RunA Try.prog (bin .lss 3 (.tmp 137) (.tmp 139) t15_91 t139_93) fun t140_94 =>
 IfB t140_94 (
 RunA Try.prog (Instr.indexAt 34 t9_15 t15_91) fun t146_95 =>
 RunA Try.prog (Instr.fieldAt 40 t146_95 2) fun t147_96 =>
 RunW Try.prog (Instr.loadAt 9 t147_96) w fun t148_97 =>
 CallF Try.prog 33 #[t7_8, t148_97] w fun t149_98 w =>
 lp 1 (fun n_100 t17_99 w =>
 RunW Try.prog (Builtin.len_ #[55] 3 #[t149_98]) w fun t152_101 =>
 RunA Try.prog (bin .lss 3 (.tmp 150) (.tmp 152) t17_99 t152_101) fun t153_102 =>
 IfB t153_102 (
 drw (fun S_103 w =>
 RunA Try.prog (Instr.indexAt 55 t149_98 t17_99) fun t158_104 =>
 RunA Try.prog (Instr.fieldAt 58 t158_104 0) fun t159_105 =>
 RunS Try.prog S_103 (Instr.loadAt 3 t159_105) fun t160_106 =>
 RunA Try.prog (bin .sub 3 (.tmp 162) (.const (.int .i64 1)) t17_99 (.int .i64 1)) fun t163_107 =>
 RunA Try.prog (Instr.indexAt 55 t149_98 t163_107) fun t164_108 =>
 RunA Try.prog (Instr.fieldAt 58 t164_108 0) fun t165_109 =>
 RunS Try.prog S_103 (Instr.loadAt 3 t165_109) fun t166_110 =>
 RunA Try.prog (bin .leq 3 (.tmp 160) (.tmp 166) t160_106 t166_110) fun t167_111 =>
 IfB t167_111 (
 R (.bool false) w) (
 RunA Try.prog (bin .add 3 (.tmp 154) (.const (.int .i64 1)) t17_99 (.int .i64 1)) fun t155_112 =>
 (t7_8 : Value) = t7_8 ∧ ((t8_9 : Value) = t8_9 ∧ ((t9_15 : Value) = t9_15 ∧ ((t15_91 : Value) = t15_91 ∧ ((t149_98 : Value) = t149_98 ∧ (n_100 t155_112 w))))))) w) (
 drw (fun S_113 w =>
 RunA Try.prog (Instr.indexAt 34 t9_15 t15_91) fun t171_114 =>
 RunA Try.prog (Instr.fieldAt 40 t171_114 2) fun t172_115 =>
 RunS Try.prog S_113 (Instr.loadAt 9 t172_115) fun t173_116 =>
 RunA Try.prog (Instr.indexAt 34 t9_15 t15_91) fun t178_117 =>
 RunA Try.prog (Instr.fieldAt 40 t178_117 2) fun t179_118 =>
 RunS Try.prog S_113 (Instr.loadAt 9 t179_118) fun t180_119 =>
 CallF Try.prog 32 #[t7_8, t173_116] w fun t174_120 w =>
 S_113 w ∧ (
 CallF Try.prog 32 #[t8_9, t180_119] w fun t181_121 w =>
 S_113 w ∧ (
 RunS Try.prog S_113 (bin .neq 3 (.tmp 174) (.tmp 181) t174_120 t181_121) fun t182_122 =>
 IfB t182_122 (
 R (.bool false) w) (
 RunA Try.prog (bin .add 3 (.tmp 141) (.const (.int .i64 1)) t15_91 (.int .i64 1)) fun t142_123 =>
 (t7_8 : Value) = t7_8 ∧ ((t8_9 : Value) = t8_9 ∧ ((t9_15 : Value) = t9_15 ∧ (n_92 t142_123 w))))))) w)) [(.int .i64 1)] w) (
 CallF Try.prog 13 #[] w fun t183_124 w =>
 R t183_124 w)) [(.int .i64 0)] w)))) [(.int .i64 0)] w)) [(.slice none 0 0), (.int .i64 0)] w)) fun j_11 =>
 RunW Try.prog (bin .eql 35 (.tmp 22) (.const (.pointer none)) t20_3 (.pointer none)) w fun t23_125 =>
 IfB t23_125 (
 j_11 a0 a1 a2 t20_3 t21_4 (.bool true) w) (
 RunW Try.prog (bin .eql 35 (.tmp 25) (.const (.pointer none)) t21_4 (.pointer none)) w fun t26_126 =>
 IfB t26_126 (
 j_11 a0 a1 a2 t20_3 t21_4 (.bool true) w) (
 RunW Try.prog (Builtin.len_ #[34] 3 #[a0]) w fun t30_127 =>
 RunA Try.prog (bin .gtr 3 (.tmp 30) (.const (.int .i64 100)) t30_127 (.int .i64 100)) fun t31_128 =>
 IfB t31_128 (
 j_11 a0 a1 a2 t20_3 t21_4 (.bool true) w) (
 CallF Try.prog 21 #[a0] w fun t35_129 w =>
 RunA Try.prog (Op.unary .not t35_129) fun t36_130 =>
 IfB t36_130 (
 j_11 a0 a1 a2 t20_3 t21_4 (.bool true) w) (
 RunA Try.prog (bin .lss 3 (.tmp 39) (.const (.int .i64 0)) a1 (.int .i64 0)) fun t40_131 =>
 j_11 a0 a1 a2 t20_3 t21_4 t40_131 w)))))
theorem sh6_calls {a0 a1 a2 : Value} {w : World} {R : Value → World → Prop} (h : sh6 a0 a1 a2 w R) : CallF Try.prog 6 #[a0, a1, a2] w R :=
  calls_of_denF (mk := false) (args := [a0, a1, a2]) (an := (.seq (.ops [0, 1, 2]) (.seq (.seq (.ops [0, 1, 2, 19]) (.cond (.seq (.ops [6]) .leaf) .leaf)) (.seq (.ops [0, 1, 2, 7, 8]) (.seq (.seq (.join [0, 1, 2, 7, 8, 41] (.ops [0, 1, 2, 7, 8, 41])) (.cond (.seq (.ops [6]) .leaf) .leaf)) (.seq (.ops [0, 1, 2, 7, 8, 9]) (.seq (.seq (.ops [0, 1, 2, 7, 8, 9, 10]) (.blk (.loop [0, 1, 2, 7, 8] [9, 10] (.seq (.seq (.ops [0, 1, 2, 7, 8, 9, 10, 54]) (.cond .leaf .leaf)) (.seq (.blk (.seq (.ops [0, 1, 2, 7, 8, 9, 10, 11]) (.seq (.ops [0, 1, 2, 7, 8, 9, 10, 11, 12]) (.seq (.seq (.ops [0, 1, 2, 7, 8, 9, 10, 11, 12, 13]) (.blk (.loop [0, 1, 2, 7, 8, 9, 10, 11] [12, 13] (.seq (.seq (.ops [0, 1, 2, 7, 8, 9, 10, 11, 12, 13, 64]) (.cond .leaf .leaf)) (.seq (.blk (.join [0, 1, 2, 7, 8, 9, 10, 11, 12, 13] (.draw (.q 0 (.q 1 (.sp 2 (.q 2 (.q 3 (.q 4 (.q 5 (.q 6 (.q 7 (.q 8 (.q 9 (.q 10 (.q 11 .fin)))))))))) (.q 2 (.q 3 (.q 4 (.q 5 (.q 6 (.q 7 (.q 8 (.q 9 (.q 10 (.q 11 .fin))))))))))))) [0, 1, 2, 7, 8, 9, 10, 11, 12, 13]))) (.ops [0, 1, 2, 7, 8, 9, 10, 11, 12, 13])))))) (.join [0, 1, 2, 7, 8, 9, 10] (.seq (.ops [0, 1, 2, 7, 8, 9, 10, 11, 89]) (.cond (.ops [0, 1, 2, 7, 8, 9, 10]) .leaf))))))) (.ops [0, 1, 2, 7, 8, 9, 10])))))) (.seq (.seq (.ops [1, 2, 7, 8, 9, 14]) (.blk (.loop [1, 2, 7, 8, 9] [14] (.seq (.seq (.ops [1, 2, 7, 8, 9, 14, 97]) (.cond .leaf .leaf)) (.seq (.blk (.seq (.ops [1, 2, 7, 8, 9, 14]) (.ops [1, 2, 7, 8, 9, 14]))) (.ops [1, 2, 7, 8, 9, 14])))))) (.seq (.seq (.ops [7, 8, 9, 136]) (.cond (.seq (.ops [6]) .leaf) .leaf)) (.seq (.seq (.ops [7, 8, 9, 15]) (.blk (.loop [7, 8, 9] [15] (.seq (.seq (.ops [7, 8, 9, 15, 140]) (.cond .leaf .leaf)) (.seq (.blk (.seq (.ops [7, 8, 9, 15, 16]) (.seq (.seq (.ops [7, 8, 9, 15, 16, 17]) (.blk (.loop [7, 8, 9, 15, 16] [17] (.seq (.seq (.ops [7, 8, 9, 15, 16, 17, 153]) (.cond .leaf .leaf)) (.seq (.blk (.seq (.draw (.q 0 (.q 1 (.q 2 (.q 3 (.q 4 (.q 5 (.q 6 (.q 7 (.q 8 (.q 9 (.q 10 (.q 11 .fin)))))))))))) [7, 8, 9, 15, 16, 17, 167]) (.cond (.seq (.ops [6]) .leaf) .leaf))) (.ops [7, 8, 9, 15, 16, 17])))))) (.seq (.draw (.q 0 (.q 1 (.q 2 (.q 3 (.q 4 (.q 5 (.q 7 (.q 8 (.q 9 (.q 10 (.q 11 (.q 12 (.one 6 (.one 13 (.q 14 .fin))))))))))))))) [7, 8, 9, 15, 182]) (.cond (.seq (.ops [6]) .leaf) .leaf))))) (.ops [7, 8, 9, 15])))))) (.seq (.ops [6]) .leaf))))))))))) (c := Try.f6.body.getD .skip) hent Try.func6 rfl (Nat.le_of_ble_eq_true (by kernel_rfl))
    (Eq.mp (show sh6 a0 a1 a2 w R = denF Try.prog ent false Try.f6 (.seq (.ops [0, 1, 2]) (.seq (.seq (.ops [0, 1, 2, 19]) (.cond (.seq (.ops [6]) .leaf) .leaf)) (.seq (.ops [0, 1, 2, 7, 8]) (.seq (.seq (.join [0, 1, 2, 7, 8, 41] (.ops [0, 1, 2, 7, 8, 41])) (.cond (.seq (.ops [6]) .leaf) .leaf)) (.seq (.ops [0, 1, 2, 7, 8, 9]) (.seq (.seq (.ops [0, 1, 2, 7, 8, 9, 10]) (.blk (.loop [0, 1, 2, 7, 8] [9, 10] (.seq (.seq (.ops [0, 1, 2, 7, 8, 9, 10, 54]) (.cond .leaf .leaf)) (.seq (.blk (.seq (.ops [0, 1, 2, 7, 8, 9, 10, 11]) (.seq (.ops [0, 1, 2, 7, 8, 9, 10, 11, 12]) (.seq (.seq (.ops [0, 1, 2, 7, 8, 9, 10, 11, 12, 13]) (.blk (.loop [0, 1, 2, 7, 8, 9, 10, 11] [12, 13] (.seq (.seq (.ops [0, 1, 2, 7, 8, 9, 10, 11, 12, 13, 64]) (.cond .leaf .leaf)) (.seq (.blk (.join [0, 1, 2, 7, 8, 9, 10, 11, 12, 13] (.draw (.q 0 (.q 1 (.sp 2 (.q 2 (.q 3 (.q 4 (.q 5 (.q 6 (.q 7 (.q 8 (.q 9 (.q 10 (.q 11 .fin)))))))))) (.q 2 (.q 3 (.q 4 (.q 5 (.q 6 (.q 7 (.q 8 (.q 9 (.q 10 (.q 11 .fin))))))))))))) [0, 1, 2, 7, 8, 9, 10, 11, 12, 13]))) (.ops [0, 1, 2, 7, 8, 9, 10, 11, 12, 13])))))) (.join [0, 1, 2, 7, 8, 9, 10] (.seq (.ops [0, 1, 2, 7, 8, 9, 10, 11, 89]) (.cond (.ops [0, 1, 2, 7, 8, 9, 10]) .leaf))))))) (.ops [0, 1, 2, 7, 8, 9, 10])))))) (.seq (.seq (.ops [1, 2, 7, 8, 9, 14]) (.blk (.loop [1, 2, 7, 8, 9] [14] (.seq (.seq (.ops [1, 2, 7, 8, 9, 14, 97]) (.cond .leaf .leaf)) (.seq (.blk (.seq (.ops [1, 2, 7, 8, 9, 14]) (.ops [1, 2, 7, 8, 9, 14]))) (.ops [1, 2, 7, 8, 9, 14])))))) (.seq (.seq (.ops [7, 8, 9, 136]) (.cond (.seq (.ops [6]) .leaf) .leaf)) (.seq (.seq (.ops [7, 8, 9, 15]) (.blk (.loop [7, 8, 9] [15] (.seq (.seq (.ops [7, 8, 9, 15, 140]) (.cond .leaf .leaf)) (.seq (.blk (.seq (.ops [7, 8, 9, 15, 16]) (.seq (.seq (.ops [7, 8, 9, 15, 16, 17]) (.blk (.loop [7, 8, 9, 15, 16] [17] (.seq (.seq (.ops [7, 8, 9, 15, 16, 17, 153]) (.cond .leaf .leaf)) (.seq (.blk (.seq (.draw (.q 0 (.q 1 (.q 2 (.q 3 (.q 4 (.q 5 (.q 6 (.q 7 (.q 8 (.q 9 (.q 10 (.q 11 .fin)))))))))))) [7, 8, 9, 15, 16, 17, 167]) (.cond (.seq (.ops [6]) .leaf) .leaf))) (.ops [7, 8, 9, 15, 16, 17])))))) (.seq (.draw (.q 0 (.q 1 (.q 2 (.q 3 (.q 4 (.q 5 (.q 7 (.q 8 (.q 9 (.q 10 (.q 11 (.q 12 (.one 6 (.one 13 (.q 14 .fin))))))))))))))) [7, 8, 9, 15, 182]) (.cond (.seq (.ops [6]) .leaf) .leaf))))) (.ops [7, 8, 9, 15])))))) (.seq (.ops [6]) .leaf)))))))))) (Try.f6.body.getD .skip) [a0, a1, a2] w R by kernel_rfl) h)

/-! ### 7: handbill/hbllaw11.VersPlays -/
def sh7 (a0 : Value) (w : World) (R : Value → World → Prop) : Prop :=
 CallF Try.prog 13 #[] w fun t13_1 w =>
 RunA Try.prog (Op.unary .not t13_1) fun t14_2 =>
 IfB t14_2 (
 R (.bool false) w) (
 CallF Try.prog 20 #[] w fun t15_3 w =>
 RunV Try.prog (Instr.build 63 #[]) w fun t16_4 w =>
 RunV Try.prog (Instr.box 63 t16_4) w fun t17_5 w =>
 RunW Try.prog (bin .eql 35 (.tmp 18) (.const (.pointer none)) t15_3 (.pointer none)) w fun t19_6 =>
 IfB t19_6 (
 RunW Try.prog (bin .neq 35 (.tmp 25) (.const (.pointer none)) t15_3 (.pointer none)) w fun t26_7 =>
 IfB t26_7 (
 CallF Try.prog 13 #[] w fun t28_8 w =>
 R t28_8 w) (
 R (.bool false) w)) (
 CallF Try.prog 21 #[a0] w fun t22_9 w =>
 RunA Try.prog (Op.unary .not t22_9) fun t23_10 =>
 IfB t23_10 (
 RunW Try.prog (bin .neq 35 (.tmp 25) (.const (.pointer none)) t15_3 (.pointer none)) w fun t26_11 =>
 IfB t26_11 (
 CallF Try.prog 13 #[] w fun t28_12 w =>
 R t28_12 w) (
 R (.bool false) w)) (
 lp 2 (fun n_15 t3_13 t5_14 w =>
 RunW Try.prog (Builtin.len_ #[34] 3 #[a0]) w fun t32_16 =>
 RunA Try.prog (bin .lss 3 (.tmp 30) (.tmp 32) t5_14 t32_16) fun t33_17 =>
 IfB t33_17 (
 RunA Try.prog (Instr.indexAt 34 a0 t5_14) fun t38_18 =>
 RunW Try.prog (Instr.loadAt 40 t38_18) w fun t39_19 =>
 RunV Try.prog (Instr.alloc 40 true (.tuple #[])) w fun t6_20 w =>
 RunU Try.prog (Instr.storeAt 40 t6_20 t39_19) w fun w =>
 RunA Try.prog (Instr.fieldAt 40 t6_20 0) fun t40_21 =>
 RunW Try.prog (Instr.loadAt 3 t40_21) w fun t41_22 =>
 jn 6 (fun t0_23 t3_24 t4_25 t5_26 t6_27 t7_28 w =>
 drw (fun S_30 w =>
 RunA Try.prog (Op.unary .not t7_28) fun t109_31 =>
 IfB t109_31 (
 R (.bool false) w) (
 CallF Try.prog 31 #[t3_24] w fun t112_32 w =>
 S_30 w ∧ (
 CallF Try.prog 38 #[t4_25] w fun t114_33 w =>
 S_30 w ∧ (
 RunS Try.prog S_30 (bin .neq 3 (.tmp 112) (.tmp 114) t112_32 t114_33) fun t115_34 =>
 IfB t115_34 (
 R (.bool false) w) (
 CallF Try.prog 23 #[t3_24] w fun t119_35 w =>
 S_30 w ∧ (
 CallF Try.prog 39 #[t4_25] w fun t121_36 w =>
 S_30 w ∧ (
 RunS Try.prog S_30 (bin .neq 3 (.tmp 119) (.tmp 121) t119_35 t121_36) fun t122_37 =>
 IfB t122_37 (
 R (.bool false) w) (
 RunA Try.prog (Instr.fieldAt 40 t6_27 2) fun t126_38 =>
 RunS Try.prog S_30 (Instr.loadAt 9 t126_38) fun t127_39 =>
 RunA Try.prog (Instr.fieldAt 40 t6_27 2) fun t130_40 =>
 RunS Try.prog S_30 (Instr.loadAt 9 t130_40) fun t131_41 =>
 CallF Try.prog 32 #[t3_24, t127_39] w fun t128_42 w =>
 S_30 w ∧ (
 CallF Try.prog 40 #[t4_25, t131_41] w fun t132_43 w =>
 S_30 w ∧ (
 RunS Try.prog S_30 (bin .neq 3 (.tmp 128) (.tmp 132) t128_42 t132_43) fun t133_44 =>
 IfB t133_44 (
 R (.bool false) w) (
 RunA Try.prog (Instr.fieldAt 40 t6_27 2) fun t137_45 =>
 RunS Try.prog S_30 (Instr.loadAt 9 t137_45) fun t138_46 =>
 RunA Try.prog (Instr.fieldAt 40 t6_27 2) fun t141_47 =>
 RunS Try.prog S_30 (Instr.loadAt 9 t141_47) fun t142_48 =>
 CallF Try.prog 33 #[t3_24, t138_46] w fun t139_49 w =>
 S_30 w ∧ (
 CallF Try.prog 42 #[t4_25, t142_48] w fun t143_50 w =>
 S_30 w ∧ (
 CallF Try.prog 41 #[t139_49, t143_50] w fun t144_51 w =>
 S_30 w ∧ (
 RunA Try.prog (Op.unary .not t144_51) fun t145_52 =>
 IfB t145_52 (
 R (.bool false) w) (
 RunA Try.prog (Instr.fieldAt 40 t6_27 2) fun t149_53 =>
 RunW Try.prog (Instr.loadAt 9 t149_53) w fun t150_54 =>
 RunA Try.prog (Instr.fieldAt 40 t6_27 1) fun t151_55 =>
 RunW Try.prog (Instr.loadAt 3 t151_55) w fun t152_56 =>
 CallF Try.prog 28 #[t3_24, t150_54, t152_56] w fun t153_57 w =>
 RunA Try.prog (Instr.extract t153_57 0) fun t154_58 =>
 RunA Try.prog (Instr.extract t153_57 1) fun t155_59 =>
 RunA Try.prog (Instr.fieldAt 40 t6_27 2) fun t158_60 =>
 RunW Try.prog (Instr.loadAt 9 t158_60) w fun t159_61 =>
 RunA Try.prog (Instr.fieldAt 40 t6_27 1) fun t160_62 =>
 RunW Try.prog (Instr.loadAt 3 t160_62) w fun t161_63 =>
 CallF Try.prog 43 #[t4_25, t159_61, t161_63] w fun t162_64 w =>
 RunA Try.prog (Instr.extract t162_64 0) fun t163_65 =>
 RunA Try.prog (Instr.extract t162_64 1) fun t164_66 =>
 drw (fun S_67 w =>
 RunS Try.prog S_67 (bin .neq 9 (.tmp 165) (.tmp 166) t154_58 t163_65) fun t167_68 =>
 IfB t167_68 (
 R (.bool false) w) (
 RunS Try.prog S_67 (bin .neq 4 (.tmp 169) (.tmp 170) t155_59 t164_66) fun t171_69 =>
 IfB t171_69 (
 R (.bool false) w) (
 RunA Try.prog (Instr.fieldAt 40 t6_27 2) fun t175_70 =>
 RunS Try.prog S_67 (Instr.loadAt 9 t175_70) fun t176_71 =>
 RunA Try.prog (Instr.fieldAt 40 t6_27 4) fun t177_72 =>
 RunS Try.prog S_67 (Instr.loadAt 9 t177_72) fun t178_73 =>
 RunA Try.prog (Instr.fieldAt 40 t6_27 1) fun t179_74 =>
 RunS Try.prog S_67 (Instr.loadAt 3 t179_74) fun t180_75 =>
 RunA Try.prog (Instr.fieldAt 40 t6_27 2) fun t184_76 =>
 RunS Try.prog S_67 (Instr.loadAt 9 t184_76) fun t185_77 =>
 RunA Try.prog (Instr.fieldAt 40 t6_27 4) fun t186_78 =>
 RunS Try.prog S_67 (Instr.loadAt 9 t186_78) fun t187_79 =>
 RunA Try.prog (Instr.fieldAt 40 t6_27 1) fun t188_80 =>
 RunS Try.prog S_67 (Instr.loadAt 3 t188_80) fun t189_81 =>
 CallF Try.prog 25 #[t3_24, t176_71, t178_73, t180_75] w fun t181_82 w =>
 S_67 w ∧ (
 CallF Try.prog 24 #[t181_82, (.int .i64 1048576)] w fun t182_83 w =>
 S_67 w ∧ (
 CallF Try.prog 44 #[t4_25, t185_77, t187_79, t189_81] w fun t190_84 w =>
 S_67 w ∧ (
 CallF Try.prog 27 #[t182_83, t190_84] w fun t191_85 w =>
 S_67 w ∧ (
 RunA Try.prog (Op.unary .not t191_85) fun t192_86 =>
 IfB t192_86 (
 R (.bool false) w) (
 RunA Try.prog (Instr.fieldAt 40 t6_27 1) fun t196_87 =>
 RunS Try.prog S_67 (Instr.loadAt 3 t196_87) fun t197_88 =>
 RunA Try.prog (Instr.fieldAt 40 t6_27 1) fun t201_89 =>
 RunS Try.prog S_67 (Instr.loadAt 3 t201_89) fun t202_90 =>
 CallF Try.prog 25 #[t3_24, (.string ⟨#[]⟩), (.string ⟨#[]⟩), t197_88] w fun t198_91 w =>
 S_67 w ∧ (
 CallF Try.prog 24 #[t198_91, (.int .i64 1048576)] w fun t199_92 w =>
 S_67 w ∧ (
 CallF Try.prog 44 #[t4_25, (.string ⟨#[]⟩), (.string ⟨#[]⟩), t202_90] w fun t203_93 w =>
 S_67 w ∧ (
 CallF Try.prog 27 #[t199_92, t203_93] w fun t204_94 w =>
 S_67 w ∧ (
 RunA Try.prog (Op.unary .not t204_94) fun t205_95 =>
 IfB t205_95 (
 R (.bool false) w) (
 RunA Try.prog (bin .add 3 (.tmp 34) (.const (.int .i64 1)) t5_26 (.int .i64 1)) fun t35_96 =>
 (t0_23 : Value) = a0 ∧ ((t4_25 : Value) = t17_5 ∧ (n_15 t3_24 t35_96 w))))))))))))))) w))))))))))))))) w) fun j_29 =>
 RunW Try.prog (bin .eql 3 (.tmp 41) (.const (.int .i64 0)) t41_22 (.int .i64 0)) w fun t43_97 =>
 IfB t43_97 (
 drw (fun S_98 w =>
 RunA Try.prog (Instr.fieldAt 40 t6_20 1) fun t45_99 =>
 RunS Try.prog S_98 (Instr.loadAt 3 t45_99) fun t46_100 =>
 RunA Try.prog (Instr.fieldAt 40 t6_20 2) fun t47_101 =>
 RunS Try.prog S_98 (Instr.loadAt 9 t47_101) fun t48_102 =>
 RunA Try.prog (Instr.fieldAt 40 t6_20 3) fun t49_103 =>
 RunS Try.prog S_98 (Instr.loadAt 9 t49_103) fun t50_104 =>
 RunA Try.prog (Instr.fieldAt 40 t6_20 1) fun t53_105 =>
 RunS Try.prog S_98 (Instr.loadAt 3 t53_105) fun t54_106 =>
 RunA Try.prog (Instr.fieldAt 40 t6_20 2) fun t55_107 =>
 RunS Try.prog S_98 (Instr.loadAt 9 t55_107) fun t56_108 =>
 RunA Try.prog (Instr.fieldAt 40 t6_20 3) fun t57_109 =>
 RunS Try.prog S_98 (Instr.loadAt 9 t57_109) fun t58_110 =>
 CallF Try.prog 29 #[t3_13, t46_100, t48_102, t50_104] w fun t51_111 w =>
 S_98 w ∧ (
 CallF Try.prog 34 #[t17_5, t54_106, t56_108, t58_110] w fun t59_112 w =>
 S_98 w ∧ (
 RunS Try.prog S_98 (bin .eql 26 (.tmp 51) (.tmp 59) t51_111 t59_112) fun t60_113 =>
 j_29 a0 t3_13 t17_5 t5_14 t6_20 t60_113 w))) w) (
 jn 6 (fun t0_114 t3_115 t4_116 t5_117 t6_118 t7_119 w =>
 j_29 t0_114 t3_115 t4_116 t5_117 t6_118 t7_119 w) fun j_120 =>
 RunW Try.prog (bin .eql 3 (.tmp 41) (.const (.int .i64 1)) t41_22 (.int .i64 1)) w fun t62_121 =>
 IfB t62_121 (
 drw (fun S_122 w =>
 RunA Try.prog (Instr.fieldAt 40 t6_20 1) fun t64_123 =>
 RunS Try.prog S_122 (Instr.loadAt 3 t64_123) fun t65_124 =>
 RunA Try.prog (Instr.fieldAt 40 t6_20 2) fun t66_125 =>
 RunS Try.prog S_122 (Instr.loadAt 9 t66_125) fun t67_126 =>
 RunA Try.prog (Instr.fieldAt 40 t6_20 1) fun t70_127 =>
 RunS Try.prog S_122 (Instr.loadAt 3 t70_127) fun t71_128 =>
 RunA Try.prog (Instr.fieldAt 40 t6_20 2) fun t72_129 =>
 RunS Try.prog S_122 (Instr.loadAt 9 t72_129) fun t73_130 =>
 CallF Try.prog 30 #[t3_13, t65_124, t67_126] w fun t68_131 w =>
 S_122 w ∧ (
 CallF Try.prog 35 #[t17_5, t71_128, t73_130] w fun t74_132 w =>
 S_122 w ∧ (
 RunS Try.prog S_122 (bin .eql 26 (.tmp 68) (.tmp 74) t68_131 t74_132) fun t75_133 =>
 j_120 a0 t3_13 t17_5 t5_14 t6_20 t75_133 w))) w) (
 jn 6 (fun t0_134 t3_135 t4_136 t5_137 t6_138 t7_139 w =>
 j_120 t0_134 t3_135 t4_136 t5_137 t6_138 t7_139 w) fun j_140 =>
 RunW Try.prog (bin .eql 3 (.tmp 41) (.const (.int .i64 2)) t41_22 (.int .i64 2)) w fun t77_141 =>
 IfB t77_141 (
 drw (fun S_142 w =>
 RunA Try.prog (Instr.fieldAt 40 t6_20 1) fun t79_143 =>
 RunS Try.prog S_142 (Instr.loadAt 3 t79_143) fun t80_144 =>
 RunA Try.prog (Instr.fieldAt 40 t6_20 1) fun t83_145 =>
 RunS Try.prog S_142 (Instr.loadAt 3 t83_145) fun t84_146 =>
 CallF Try.prog 26 #[t3_13, t80_144] w fun t81_147 w =>
 S_142 w ∧ (
 CallF Try.prog 36 #[t17_5, t84_146] w fun t85_148 w =>
 S_142 w ∧ (
 RunS Try.prog S_142 (bin .eql 3 (.tmp 81) (.tmp 85) t81_147 t85_148) fun t86_149 =>
 j_140 a0 t3_13 t17_5 t5_14 t6_20 t86_149 w))) w) (
 jn 6 (fun t0_150 t3_151 t4_152 t5_153 t6_154 t7_155 w =>
 j_140 t0_150 t3_151 t4_152 t5_153 t6_154 t7_155 w) fun j_156 =>
 RunW Try.prog (bin .eql 3 (.tmp 41) (.const (.int .i64 3)) t41_22 (.int .i64 3)) w fun t88_157 =>
 IfB t88_157 (
 CallF Try.prog 37 #[t3_13] w fun t90_158 w =>
 drw (fun S_159 w =>
 RunA Try.prog (Instr.fieldAt 40 t6_20 2) fun t93_160 =>
 RunS Try.prog S_159 (Instr.loadAt 9 t93_160) fun t94_161 =>
 RunA Try.prog (Instr.fieldAt 40 t6_20 2) fun t100_162 =>
 RunS Try.prog S_159 (Instr.loadAt 9 t100_162) fun t101_163 =>
 CallF Try.prog 32 #[t3_13, t94_161] w fun t95_164 w =>
 S_159 w ∧ (
 ∃ S_165 : World → Prop, S_165 w ∧ (∀ w, S_165 w → S_159 w) ∧ (
 CallF Try.prog 23 #[t3_13] w fun t97_166 w =>
 S_165 w ∧ (
 ∃ S_167 : World → Prop, S_167 w ∧ (∀ w, S_167 w → S_165 w) ∧ (
 RunS Try.prog S_167 (Builtin.max_ #[3, 3, 3] 3 #[t95_164, t97_166, (.int .i64 0)]) fun t98_168 =>
 RunA Try.prog (bin .add 3 (.tmp 98) (.const (.int .i64 1)) t98_168 (.int .i64 1)) fun t99_169 =>
 CallF Try.prog 29 #[t3_13, t99_169, t101_163, (.string ⟨#[115, 112, 111, 105, 108, 116]⟩)] w fun t102_170 w =>
 CallF Try.prog 26 #[t3_13, (.int .i64 549755813888)] w fun t104_171 w =>
 RunW Try.prog (bin .neq 35 (.tmp 106) (.const (.pointer none)) t90_158 (.pointer none)) w fun t107_172 =>
 j_156 a0 t90_158 t17_5 t5_14 t6_20 t107_172 w))))) w) (
 j_156 a0 t3_13 t17_5 t5_14 t6_20 (.bool true) w))))) (
 CallF Try.prog 13 #[] w fun t207_173 w =>
 R t207_173 w)) [t15_3, (.int .i64 0)] w)))
theorem sh7_calls {a0 : Value} {w : World} {R : Value → World → Prop} (h : sh7 a0 w R) : CallF Try.prog 7 #[a0] w R :=
  calls_of_denF (mk := false) (args := [a0]) (an := (.seq (.ops [0]) (.seq (.seq (.ops [0, 14]) (.cond (.seq (.ops [2]) .leaf) .leaf)) (.seq (.ops [0, 3]) (.seq (.ops [0, 3, 4]) (.seq (.seq (.ops [0, 3, 4, 24]) (.cond (.seq (.ops [2]) .leaf) .leaf)) (.seq (.seq (.ops [0, 3, 4, 5]) (.blk (.loop [0, 4] [3, 5] (.seq (.seq (.ops [0, 3, 4, 5, 33]) (.cond .leaf .leaf)) (.seq (.blk (.seq (.ops [0, 3, 4, 5, 6]) (.seq (.ops [0, 3, 4, 5, 6, 7]) (.seq (.seq (.ops [0, 3, 4, 5, 6, 7, 41]) (.blk (.join [0, 3, 4, 5, 6, 7] (.seq (.ops [0, 3, 4, 5, 6, 7, 41, 42]) (.cond (.draw (.q 0 (.q 1 (.q 2 (.q 3 (.q 4 (.q 5 (.q 6 (.q 8 (.q 9 (.q 10 (.q 11 (.q 12 (.q 13 (.q 14 (.one 7 (.one 15 (.q 16 (.q 17 .fin)))))))))))))))))) [0, 3, 4, 5, 6, 7]) (.join [0, 3, 4, 5, 6, 7] (.seq (.ops [0, 3, 4, 5, 6, 7, 41, 61]) (.cond (.draw (.q 0 (.q 1 (.q 2 (.q 3 (.q 4 (.q 6 (.q 7 (.q 8 (.q 9 (.q 10 (.one 5 (.one 11 (.q 12 (.q 13 .fin)))))))))))))) [0, 3, 4, 5, 6, 7]) (.join [0, 3, 4, 5, 6, 7] (.seq (.ops [0, 3, 4, 5, 6, 7, 41, 76]) (.cond (.draw (.q 0 (.q 1 (.q 2 (.q 4 (.q 5 (.q 6 (.one 3 (.one 7 (.q 8 (.q 9 .fin)))))))))) [0, 3, 4, 5, 6, 7]) (.join [0, 3, 4, 5, 6, 7] (.seq (.ops [0, 3, 4, 5, 6, 7, 87]) (.cond (.seq (.ops [0, 3, 4, 5, 6, 8]) (.seq (.draw (.q 0 (.q 1 (.q 2 (.q 3 (.q 5 (.q 9 (.q 10 (.one 4 (.re (.one 6 (.re (.q 7 (.q 8 (.one 11 .fin)))))))))))))) [0, 3, 4, 5, 6, 8]) (.seq (.ops [0, 4, 5, 6, 8]) (.seq (.ops [0, 3, 4, 5, 6]) (.ops [0, 3, 4, 5, 6, 7]))))) .leaf)))))))))))))) (.seq (.seq (.draw (.q 0 (.q 1 (.q 2 (.sp 3 (.q 3 (.q 4 (.q 5 (.q 6 (.q 7 (.q 8 (.q 9 (.q 10 (.q 11 (.q 12 (.q 13 (.q 14 (.q 15 (.q 16 (.q 17 (.q 18 (.q 19 (.q 20 (.q 21 (.q 22 (.q 23 (.q 24 (.q 25 (.q 26 (.q 27 (.q 28 (.q 29 (.q 30 (.q 31 (.q 32 (.q 33 (.q 34 (.q 35 (.q 36 (.q 37 (.q 38 .fin)))))))))))))))))))))))))))))))))))) (.q 3 (.q 5 (.one 4 (.one 6 (.q 7 (.q 8 (.q 9 (.sp 10 (.q 10 (.q 11 (.q 12 (.q 13 (.q 14 (.q 15 (.q 16 (.q 17 (.q 18 (.q 19 (.q 20 (.q 21 (.q 22 (.q 23 (.q 24 (.q 25 (.q 26 (.q 27 (.q 28 (.q 29 (.q 30 (.q 31 (.q 32 (.q 33 (.q 34 (.q 35 (.q 36 (.q 37 (.q 38 .fin))))))))))))))))))))))))))))) (.q 10 (.q 12 (.one 11 (.one 13 (.q 14 (.q 15 (.q 16 (.sp 17 (.q 17 (.q 18 (.q 19 (.q 20 (.q 21 (.q 22 (.q 23 (.q 24 (.q 25 (.q 26 (.q 27 (.q 28 (.q 29 (.q 30 (.q 31 (.q 32 (.q 33 (.q 34 (.q 35 (.q 36 (.q 37 (.q 38 .fin)))))))))))))))))))))) (.q 17 (.q 18 (.q 19 (.q 21 (.q 22 (.q 23 (.one 20 (.one 24 (.q 25 (.q 26 (.q 27 (.sp 28 (.q 28 (.q 29 (.q 30 (.q 31 (.q 32 (.q 33 (.q 34 (.q 35 (.q 36 (.q 37 (.q 38 .fin))))))))))) (.q 28 (.q 29 (.q 30 (.q 32 (.q 33 (.q 34 (.one 31 (.one 35 (.one 36 (.q 37 (.q 38 .fin))))))))))))))))))))))))))))))))))))))))))) [0, 3, 4, 5, 6, 146]) (.cond (.seq (.ops [2]) .leaf) .leaf)) (.seq (.ops [0, 3, 4, 5, 6, 9, 10]) (.seq (.ops [0, 3, 4, 5, 6, 9, 10, 11, 12]) (.seq (.draw (.q 0 (.q 1 (.q 2 (.q 3 (.sp 4 (.q 4 (.q 5 (.q 6 (.q 7 (.q 8 (.q 9 (.q 10 (.q 11 (.q 12 (.q 13 (.q 14 (.q 15 (.q 16 (.q 17 (.q 18 (.q 19 (.q 20 (.q 21 (.q 22 (.q 23 (.q 24 (.q 25 (.q 26 (.q 27 (.q 28 (.q 29 (.q 30 (.q 31 (.q 32 (.q 33 (.q 34 (.q 35 (.q 36 (.q 37 (.q 38 (.q 39 (.q 40 (.q 41 .fin)))))))))))))))))))))))))))))))))))))) (.q 4 (.q 5 (.q 6 (.q 7 (.q 8 (.sp 9 (.q 9 (.q 10 (.q 11 (.q 12 (.q 13 (.q 14 (.q 15 (.q 16 (.q 17 (.q 18 (.q 19 (.q 20 (.q 21 (.q 22 (.q 23 (.q 24 (.q 25 (.q 26 (.q 27 (.q 28 (.q 29 (.q 30 (.q 31 (.q 32 (.q 33 (.q 34 (.q 35 (.q 36 (.q 37 (.q 38 (.q 39 (.q 40 (.q 41 .fin))))))))))))))))))))))))))))))))) (.q 9 (.q 10 (.q 11 (.q 12 (.q 13 (.q 14 (.q 15 (.q 18 (.q 19 (.q 20 (.q 21 (.q 22 (.q 23 (.q 24 (.one 16 (.one 17 (.one 25 (.one 26 (.q 27 (.q 28 (.q 29 (.sp 30 (.q 30 (.q 31 (.q 32 (.q 33 (.q 34 (.q 35 (.q 36 (.q 37 (.q 38 (.q 39 (.q 40 (.q 41 .fin)))))))))))) (.q 30 (.q 31 (.q 32 (.q 35 (.q 36 (.q 37 (.one 33 (.one 34 (.one 38 (.one 39 (.q 40 (.q 41 .fin))))))))))))))))))))))))))))))))))))))))))))) [0, 3, 4, 5, 206]) (.cond (.seq (.ops [2]) .leaf) .leaf))))))))) (.ops [0, 3, 4, 5])))))) (.seq (.ops [2]) .leaf)))))))) (c := Try.f7.body.getD .skip) hent Try.func7 rfl (Nat.le_of_ble_eq_true (by kernel_rfl))
    (Eq.mp (show sh7 a0 w R = denF Try.prog ent false Try.f7 (.seq (.ops [0]) (.seq (.seq (.ops [0, 14]) (.cond (.seq (.ops [2]) .leaf) .leaf)) (.seq (.ops [0, 3]) (.seq (.ops [0, 3, 4]) (.seq (.seq (.ops [0, 3, 4, 24]) (.cond (.seq (.ops [2]) .leaf) .leaf)) (.seq (.seq (.ops [0, 3, 4, 5]) (.blk (.loop [0, 4] [3, 5] (.seq (.seq (.ops [0, 3, 4, 5, 33]) (.cond .leaf .leaf)) (.seq (.blk (.seq (.ops [0, 3, 4, 5, 6]) (.seq (.ops [0, 3, 4, 5, 6, 7]) (.seq (.seq (.ops [0, 3, 4, 5, 6, 7, 41]) (.blk (.join [0, 3, 4, 5, 6, 7] (.seq (.ops [0, 3, 4, 5, 6, 7, 41, 42]) (.cond (.draw (.q 0 (.q 1 (.q 2 (.q 3 (.q 4 (.q 5 (.q 6 (.q 8 (.q 9 (.q 10 (.q 11 (.q 12 (.q 13 (.q 14 (.one 7 (.one 15 (.q 16 (.q 17 .fin)))))))))))))))))) [0, 3, 4, 5, 6, 7]) (.join [0, 3, 4, 5, 6, 7] (.seq (.ops [0, 3, 4, 5, 6, 7, 41, 61]) (.cond (.draw (.q 0 (.q 1 (.q 2 (.q 3 (.q 4 (.q 6 (.q 7 (.q 8 (.q 9 (.q 10 (.one 5 (.one 11 (.q 12 (.q 13 .fin)))))))))))))) [0, 3, 4, 5, 6, 7]) (.join [0, 3, 4, 5, 6, 7] (.seq (.ops [0, 3, 4, 5, 6, 7, 41, 76]) (.cond (.draw (.q 0 (.q 1 (.q 2 (.q 4 (.q 5 (.q 6 (.one 3 (.one 7 (.q 8 (.q 9 .fin)))))))))) [0, 3, 4, 5, 6, 7]) (.join [0, 3, 4, 5, 6, 7] (.seq (.ops [0, 3, 4, 5, 6, 7, 87]) (.cond (.seq (.ops [0, 3, 4, 5, 6, 8]) (.seq (.draw (.q 0 (.q 1 (.q 2 (.q 3 (.q 5 (.q 9 (.q 10 (.one 4 (.re (.one 6 (.re (.q 7 (.q 8 (.one 11 .fin)))))))))))))) [0, 3, 4, 5, 6, 8]) (.seq (.ops [0, 4, 5, 6, 8]) (.seq (.ops [0, 3, 4, 5, 6]) (.ops [0, 3, 4, 5, 6, 7]))))) .leaf)))))))))))))) (.seq (.seq (.draw (.q 0 (.q 1 (.q 2 (.sp 3 (.q 3 (.q 4 (.q 5 (.q 6 (.q 7 (.q 8 (.q 9 (.q 10 (.q 11 (.q 12 (.q 13 (.q 14 (.q 15 (.q 16 (.q 17 (.q 18 (.q 19 (.q 20 (.q 21 (.q 22 (.q 23 (.q 24 (.q 25 (.q 26 (.q 27 (.q 28 (.q 29 (.q 30 (.q 31 (.q 32 (.q 33 (.q 34 (.q 35 (.q 36 (.q 37 (.q 38 .fin)))))))))))))))))))))))))))))))))))) (.q 3 (.q 5 (.one 4 (.one 6 (.q 7 (.q 8 (.q 9 (.sp 10 (.q 10 (.q 11 (.q 12 (.q 13 (.q 14 (.q 15 (.q 16 (.q 17 (.q 18 (.q 19 (.q 20 (.q 21 (.q 22 (.q 23 (.q 24 (.q 25 (.q 26 (.q 27 (.q 28 (.q 29 (.q 30 (.q 31 (.q 32 (.q 33 (.q 34 (.q 35 (.q 36 (.q 37 (.q 38 .fin))))))))))))))))))))))))))))) (.q 10 (.q 12 (.one 11 (.one 13 (.q 14 (.q 15 (.q 16 (.sp 17 (.q 17 (.q 18 (.q 19 (.q 20 (.q 21 (.q 22 (.q 23 (.q 24 (.q 25 (.q 26 (.q 27 (.q 28 (.q 29 (.q 30 (.q 31 (.q 32 (.q 33 (.q 34 (.q 35 (.q 36 (.q 37 (.q 38 .fin)))))))))))))))))))))) (.q 17 (.q 18 (.q 19 (.q 21 (.q 22 (.q 23 (.one 20 (.one 24 (.q 25 (.q 26 (.q 27 (.sp 28 (.q 28 (.q 29 (.q 30 (.q 31 (.q 32 (.q 33 (.q 34 (.q 35 (.q 36 (.q 37 (.q 38 .fin))))))))))) (.q 28 (.q 29 (.q 30 (.q 32 (.q 33 (.q 34 (.one 31 (.one 35 (.one 36 (.q 37 (.q 38 .fin))))))))))))))))))))))))))))))))))))))))))) [0, 3, 4, 5, 6, 146]) (.cond (.seq (.ops [2]) .leaf) .leaf)) (.seq (.ops [0, 3, 4, 5, 6, 9, 10]) (.seq (.ops [0, 3, 4, 5, 6, 9, 10, 11, 12]) (.seq (.draw (.q 0 (.q 1 (.q 2 (.q 3 (.sp 4 (.q 4 (.q 5 (.q 6 (.q 7 (.q 8 (.q 9 (.q 10 (.q 11 (.q 12 (.q 13 (.q 14 (.q 15 (.q 16 (.q 17 (.q 18 (.q 19 (.q 20 (.q 21 (.q 22 (.q 23 (.q 24 (.q 25 (.q 26 (.q 27 (.q 28 (.q 29 (.q 30 (.q 31 (.q 32 (.q 33 (.q 34 (.q 35 (.q 36 (.q 37 (.q 38 (.q 39 (.q 40 (.q 41 .fin)))))))))))))))))))))))))))))))))))))) (.q 4 (.q 5 (.q 6 (.q 7 (.q 8 (.sp 9 (.q 9 (.q 10 (.q 11 (.q 12 (.q 13 (.q 14 (.q 15 (.q 16 (.q 17 (.q 18 (.q 19 (.q 20 (.q 21 (.q 22 (.q 23 (.q 24 (.q 25 (.q 26 (.q 27 (.q 28 (.q 29 (.q 30 (.q 31 (.q 32 (.q 33 (.q 34 (.q 35 (.q 36 (.q 37 (.q 38 (.q 39 (.q 40 (.q 41 .fin))))))))))))))))))))))))))))))))) (.q 9 (.q 10 (.q 11 (.q 12 (.q 13 (.q 14 (.q 15 (.q 18 (.q 19 (.q 20 (.q 21 (.q 22 (.q 23 (.q 24 (.one 16 (.one 17 (.one 25 (.one 26 (.q 27 (.q 28 (.q 29 (.sp 30 (.q 30 (.q 31 (.q 32 (.q 33 (.q 34 (.q 35 (.q 36 (.q 37 (.q 38 (.q 39 (.q 40 (.q 41 .fin)))))))))))) (.q 30 (.q 31 (.q 32 (.q 35 (.q 36 (.q 37 (.one 33 (.one 34 (.one 38 (.one 39 (.q 40 (.q 41 .fin))))))))))))))))))))))))))))))))))))))))))))) [0, 3, 4, 5, 206]) (.cond (.seq (.ops [2]) .leaf) .leaf))))))))) (.ops [0, 3, 4, 5])))))) (.seq (.ops [2]) .leaf))))))) (Try.f7.body.getD .skip) [a0] w R by kernel_rfl) h)

/-! ### 13: handbill/hbllaw11.first -/
def sh13 (w : World) (R : Value → World → Prop) : Prop :=
 CallF Try.prog 20 #[] w fun t6_1 w =>
 RunW Try.prog (bin .eql 35 (.tmp 7) (.const (.pointer none)) t6_1 (.pointer none)) w fun t8_2 =>
 IfB t8_2 (
 R (.bool false) w) (
 CallF Try.prog 29 #[t6_1, (.int .i64 1), (.string ⟨#[107]⟩), (.string ⟨#[97]⟩)] w fun t10_3 w =>
 CallF Try.prog 29 #[t6_1, (.int .i64 5), (.string ⟨#[107]⟩), (.string ⟨#[98]⟩)] w fun t12_4 w =>
 CallF Try.prog 28 #[t6_1, (.string ⟨#[107]⟩), (.int .i64 4)] w fun t15_5 w =>
 RunA Try.prog (Instr.extract t15_5 0) fun t16_6 =>
 RunA Try.prog (Instr.extract t15_5 1) fun t17_7 =>
 RunW Try.prog (bin .eql 26 (.tmp 18) (.const (.int .i64 0)) t10_3 (.int .i64 0)) w fun t19_8 =>
 IfB t19_8 (
 RunW Try.prog (bin .eql 26 (.tmp 21) (.const (.int .i64 0)) t12_4 (.int .i64 0)) w fun t22_9 =>
 IfB t22_9 (
 IfB t17_7 (
 RunW Try.prog (bin .eql 9 (.tmp 28) (.const (.string ⟨#[97]⟩)) t16_6 (.string ⟨#[97]⟩)) w fun t29_10 =>
 IfB t29_10 (
 CallF Try.prog 26 #[t6_1, (.int .i64 5)] w fun t33_11 w =>
 RunW Try.prog (bin .eql 3 (.tmp 33) (.const (.int .i64 1)) t33_11 (.int .i64 1)) w fun t34_12 =>
 R t34_12 w) (
 R (.bool false) w)) (
 R (.bool false) w)) (
 R (.bool false) w)) (
 R (.bool false) w))
theorem sh13_calls {w : World} {R : Value → World → Prop} (h : sh13  w R) : CallF Try.prog 13 #[] w R :=
  calls_of_denF (mk := false) (args := []) (an := (.seq (.ops []) (.seq (.ops [1]) (.seq (.seq (.ops [1, 8]) (.cond (.seq (.ops [0]) .leaf) .leaf)) (.seq (.ops [1, 2, 3]) (.seq (.ops [1, 2, 3, 4, 5]) (.seq (.ops [0]) .leaf))))))) (c := Try.f13.body.getD .skip) hent Try.func13 rfl (Nat.le_of_ble_eq_true (by kernel_rfl))
    (Eq.mp (show sh13  w R = denF Try.prog ent false Try.f13 (.seq (.ops []) (.seq (.ops [1]) (.seq (.seq (.ops [1, 8]) (.cond (.seq (.ops [0]) .leaf) .leaf)) (.seq (.ops [1, 2, 3]) (.seq (.ops [1, 2, 3, 4, 5]) (.seq (.ops [0]) .leaf)))))) (Try.f13.body.getD .skip) [] w R by kernel_rfl) h)

/-! ### 14: handbill/vers.New[int] -/
def sh14 (w : World) (R : Value → World → Prop) : Prop :=
 CallF Try.prog 67 #[] w fun t1_1 w =>
 RunV Try.prog (Instr.build 98 #[(0, t1_1)]) w fun t2_2 w =>
 RunV Try.prog (Instr.box 98 t2_2) w fun t3_3 w =>
 R t3_3 w
theorem sh14_calls {w : World} {R : Value → World → Prop} (h : sh14  w R) : CallF Try.prog 14 #[] w R :=
  calls_of_denF (mk := false) (args := []) (an := (.seq (.ops []) (.seq (.ops [0]) .leaf))) (c := Try.f14.body.getD .skip) hent Try.func14 rfl (Nat.le_of_ble_eq_true (by kernel_rfl))
    (Eq.mp (show sh14  w R = denF Try.prog ent false Try.f14 (.seq (.ops []) (.seq (.ops [0]) .leaf)) (Try.f14.body.getD .skip) [] w R by kernel_rfl) h)

/-! ### 15: (*handbill/vers.Store[int]).Put -/
def sh15 (a0 a1 a2 a3 : Value) (w : World) (R : Value → World → Prop) : Prop :=
 RunV Try.prog (Instr.build 101 #[(0, a1), (1, a3)]) w fun t13_1 w =>
 CallF Try.prog 68 #[a0, a2, t13_1] w fun t14_2 w =>
 R t14_2 w
theorem sh15_calls {a0 a1 a2 a3 : Value} {w : World} {R : Value → World → Prop} (h : sh15 a0 a1 a2 a3 w R) : CallF Try.prog 15 #[a0, a1, a2, a3] w R :=
  calls_of_denF (mk := false) (args := [a0, a1, a2, a3]) (an := (.seq (.ops [0, 1, 2, 3]) (.seq (.ops [8]) .leaf))) (c := Try.f15.body.getD .skip) hent Try.func15 rfl (Nat.le_of_ble_eq_true (by kernel_rfl))
    (Eq.mp (show sh15 a0 a1 a2 a3 w R = denF Try.prog ent false Try.f15 (.seq (.ops [0, 1, 2, 3]) (.seq (.ops [8]) .leaf)) (Try.f15.body.getD .skip) [a0, a1, a2, a3] w R by kernel_rfl) h)

/-! ### 16: (*handbill/vers.Store[int]).Count -/
def sh16 (a0 : Value) (w : World) (R : Value → World → Prop) : Prop :=
 RunV Try.prog (Instr.alloc 3 true (.tuple #[])) w fun t3_1 w =>
 RunU Try.prog (Instr.storeAt 3 t3_1 (.int .i64 0)) w fun w =>
 RunA Try.prog (nilV a0) fun t7_2 =>
 RunA Try.prog (Instr.fieldAt 98 t7_2 0) fun t8_3 =>
 RunW Try.prog (Instr.loadAt 94 t8_3) w fun t9_4 =>
 CallF Try.prog 69 #[t9_4] w fun t10_5 w =>
 rngP Try.prog none 2 2 (fun l_6 K_7 t11_13 t12_14 w =>
 K_7 t3_1 t12_14 w) (fun l_6 kn_8 ks_9 t3_15 t5_16 w =>
 RunW Try.prog (Instr.loadAt 3 t3_15) w fun t13_17 =>
 RunW Try.prog (Builtin.len_ #[96] 3 #[t5_16]) w fun t15_18 =>
 RunA Try.prog (bin .add 3 (.tmp 13) (.tmp 15) t13_17 t15_18) fun t16_19 =>
 RunU Try.prog (Instr.storeAt 3 t3_15 t16_19) w fun w =>
 kn_8 w) t10_5 w (fun D_10 w =>
 RunW Try.prog (Instr.loadAt 3 t3_1) w fun t17_20 =>
 (w).heap[D_10]? = some (.deferred (some [])) ∧ (
 R t17_20 (w.putObj D_10 (.deferred none)))) (fun D_10 c_11 w => jumpK (fun i_12 w =>
 bif Nat.beq i_12 0 then (
 RunW Try.prog (Instr.loadAt 3 t3_1) w fun t17_21 =>
 (w).heap[D_10]? = some (.deferred (some [])) ∧ (
 R t17_21 (w.putObj D_10 (.deferred none)))) else (
 False)) (fun w =>
 (w).heap[D_10]? = some (.deferred (some [])) ∧ (
 False)) c_11 w)
theorem sh16_calls {a0 : Value} {w : World} {R : Value → World → Prop} (h : sh16 a0 w R) : CallF Try.prog 16 #[a0] w R :=
  calls_of_denF (mk := true) (args := [a0]) (an := (.seq (.ops [0]) (.seq (.ops [0, 3]) (.seq (.seq (.ops [3, 10]) (.blk (.rng [3, 5] (.ops [3, 5]) (.blk (.ops []))))) (.seq (.ops [2]) .leaf))))) (c := Try.f16.body.getD .skip) hent Try.func16 rfl (Nat.le_of_ble_eq_true (by kernel_rfl))
    (Eq.mp (show sh16 a0 w R = denF Try.prog ent true Try.f16 (.seq (.ops [0]) (.seq (.ops [0, 3]) (.seq (.seq (.ops [3, 10]) (.blk (.rng [3, 5] (.ops [3, 5]) (.blk (.ops []))))) (.seq (.ops [2]) .leaf)))) (Try.f16.body.getD .skip) [a0] w R by kernel_rfl) h)

/-! ### 17: (*handbill/vers.Store[int]).Last -/
def sh17 (a0 a1 : Value) (w : World) (R : Value → World → Prop) : Prop :=
 RunA Try.prog (nilV a0) fun t9_1 =>
 RunA Try.prog (Instr.fieldAt 98 t9_1 0) fun t10_2 =>
 RunW Try.prog (Instr.loadAt 94 t10_2) w fun t11_3 =>
 CallF Try.prog 70 #[t11_3, a1] w fun t13_4 w =>
 RunA Try.prog (Instr.extract t13_4 0) fun t14_5 =>
 RunA Try.prog (Instr.extract t13_4 1) fun t15_6 =>
 RunW Try.prog (Builtin.len_ #[96] 3 #[t14_5]) w fun t17_7 =>
 RunW Try.prog (bin .eql 3 (.tmp 17) (.const (.int .i64 0)) t17_7 (.int .i64 0)) w fun t18_8 =>
 IfB t18_8 (
 R (.int .i64 0) w) (
 RunW Try.prog (Builtin.len_ #[96] 3 #[t14_5]) w fun t21_9 =>
 RunA Try.prog (bin .sub 3 (.tmp 21) (.const (.int .i64 1)) t21_9 (.int .i64 1)) fun t22_10 =>
 RunA Try.prog (Instr.indexAt 96 t14_5 t22_10) fun t23_11 =>
 RunA Try.prog (Instr.fieldAt 101 t23_11 0) fun t24_12 =>
 RunW Try.prog (Instr.loadAt 3 t24_12) w fun t25_13 =>
 R t25_13 w)
theorem sh17_calls {a0 a1 : Value} {w : World} {R : Value → World → Prop} (h : sh17 a0 a1 w R) : CallF Try.prog 17 #[a0, a1] w R :=
  calls_of_denF (mk := false) (args := [a0, a1]) (an := (.seq (.ops [0, 1]) (.seq (.ops [5]) (.seq (.seq (.ops [5, 18]) (.cond (.seq (.ops [4]) .leaf) .leaf)) (.seq (.ops [4]) .leaf))))) (c := Try.f17.body.getD .skip) hent Try.func17 rfl (Nat.le_of_ble_eq_true (by kernel_rfl))
    (Eq.mp (show sh17 a0 a1 w R = denF Try.prog ent false Try.f17 (.seq (.ops [0, 1]) (.seq (.ops [5]) (.seq (.seq (.ops [5, 18]) (.cond (.seq (.ops [4]) .leaf) .leaf)) (.seq (.ops [4]) .leaf)))) (Try.f17.body.getD .skip) [a0, a1] w R by kernel_rfl) h)

/-! ### 18: (*handbill/vers.Store[int]).Prune -/
def sh18 (a0 a1 : Value) (w : World) (R : Value → World → Prop) : Prop :=
 RunV Try.prog (Instr.box 24 a0) w fun t2_1 w =>
 RunV Try.prog (Instr.box 3 a1) w fun t3_2 w =>
 drw (fun S_3 w =>
 RunS Try.prog S_3 (Instr.loadAt 3 t3_2) fun t9_4 =>
 RunS Try.prog S_3 (Instr.loadAt 24 t2_1) fun t10_5 =>
 RunA Try.prog (nilV t10_5) fun t11_6 =>
 RunA Try.prog (Instr.fieldAt 98 t11_6 1) fun t12_7 =>
 RunS Try.prog S_3 (Instr.loadAt 3 t12_7) fun t13_8 =>
 RunA Try.prog (bin .leq 3 (.tmp 9) (.tmp 13) t9_4 t13_8) fun t14_9 =>
 IfB t14_9 (
 R (.int .i64 0) w) (
 RunS Try.prog S_3 (Instr.loadAt 3 t3_2) fun t16_10 =>
 RunA Try.prog (bin .gtr 3 (.tmp 16) (.const (.int .i64 1099511627776)) t16_10 (.int .i64 1099511627776)) fun t17_11 =>
 IfB t17_11 (
 R (.int .i64 0) w) (
 RunW Try.prog (Instr.loadAt 24 t2_1) w fun t19_12 =>
 RunW Try.prog (Instr.loadAt 3 t3_2) w fun t20_13 =>
 RunA Try.prog (nilV t19_12) fun t21_14 =>
 RunA Try.prog (Instr.fieldAt 98 t21_14 1) fun t22_15 =>
 RunU Try.prog (Instr.storeAt 3 t22_15 t20_13) w fun w =>
 RunV Try.prog (Instr.alloc 3 true (.tuple #[])) w fun t5_16 w =>
 RunU Try.prog (Instr.storeAt 3 t5_16 (.int .i64 0)) w fun w =>
 RunW Try.prog (Instr.loadAt 24 t2_1) w fun t23_17 =>
 RunA Try.prog (nilV t23_17) fun t24_18 =>
 RunA Try.prog (Instr.fieldAt 98 t24_18 0) fun t25_19 =>
 RunW Try.prog (Instr.loadAt 94 t25_19) w fun t26_20 =>
 CallF Try.prog 69 #[t26_20] w fun t27_21 w =>
 rngP Try.prog none 2 5 (fun l_22 K_23 t28_29 t29_30 w =>
 K_23 t2_1 t3_2 t5_16 t28_29 t29_30 w) (fun l_22 kn_24 ks_25 t2_31 t3_32 t5_33 t6_34 t7_35 w =>
 RunW Try.prog (Instr.loadAt 3 t3_32) w fun t31_36 =>
 CallF Try.prog 71 #[t7_35, t31_36] w fun t32_37 w =>
 RunW Try.prog (Instr.loadAt 3 t5_33) w fun t33_38 =>
 RunW Try.prog (Builtin.len_ #[96] 3 #[t7_35]) w fun t35_39 =>
 RunW Try.prog (Builtin.len_ #[96] 3 #[t32_37]) w fun t37_40 =>
 RunA Try.prog (bin .sub 3 (.tmp 35) (.tmp 37) t35_39 t37_40) fun t38_41 =>
 RunA Try.prog (bin .add 3 (.tmp 33) (.tmp 38) t33_38 t38_41) fun t39_42 =>
 RunU Try.prog (Instr.storeAt 3 t5_33 t39_42) w fun w =>
 jn 0 (fun w =>
 kn_24 w) fun j_43 =>
 RunW Try.prog (Builtin.len_ #[96] 3 #[t32_37]) w fun t41_44 =>
 RunW Try.prog (bin .eql 3 (.tmp 41) (.const (.int .i64 0)) t41_44 (.int .i64 0)) w fun t42_45 =>
 IfB t42_45 (
 RunW Try.prog (Instr.loadAt 24 t2_31) w fun t43_46 =>
 RunA Try.prog (nilV t43_46) fun t44_47 =>
 RunA Try.prog (Instr.fieldAt 98 t44_47 0) fun t45_48 =>
 RunW Try.prog (Instr.loadAt 94 t45_48) w fun t46_49 =>
 CallF Try.prog 72 #[t46_49, t6_34] w fun t48_50 w =>
 j_43 w) (
 RunW Try.prog (Instr.loadAt 24 t2_31) w fun t49_51 =>
 RunA Try.prog (nilV t49_51) fun t50_52 =>
 RunA Try.prog (Instr.fieldAt 98 t50_52 0) fun t51_53 =>
 RunW Try.prog (Instr.loadAt 94 t51_53) w fun t52_54 =>
 CallF Try.prog 73 #[t52_54, t6_34, t32_37] w fun t55_55 w =>
 j_43 w)) t27_21 w (fun D_26 w =>
 RunW Try.prog (Instr.loadAt 3 t5_16) w fun t56_56 =>
 (w).heap[D_26]? = some (.deferred (some [])) ∧ (
 R t56_56 (w.putObj D_26 (.deferred none)))) (fun D_26 c_27 w => jumpK (fun i_28 w =>
 bif Nat.beq i_28 0 then (
 RunW Try.prog (Instr.loadAt 3 t5_16) w fun t56_57 =>
 (w).heap[D_26]? = some (.deferred (some [])) ∧ (
 R t56_57 (w.putObj D_26 (.deferred none)))) else (
 False)) (fun w =>
 (w).heap[D_26]? = some (.deferred (some [])) ∧ (
 False)) c_27 w)))) w
theorem sh18_calls {a0 a1 : Value} {w : World} {R : Value → World → Prop} (h : sh18 a0 a1 w R) : CallF Try.prog 18 #[a0, a1] w R :=
  calls_of_denF (mk := true) (args := [a0, a1]) (an := (.seq (.ops [2, 3]) (.seq (.seq (.draw (.q 0 (.q 1 (.q 2 (.q 3 (.q 4 (.q 5 (.q 6 (.sp 7 (.q 7 (.q 8 (.q 9 .fin))) (.q 7 (.q 8 (.q 9 .fin))))))))))) [2, 3, 18]) (.cond (.seq (.ops [4]) .leaf) .leaf)) (.seq (.ops [2, 3]) (.seq (.ops [2, 3, 5]) (.seq (.seq (.ops [2, 3, 5, 27]) (.blk (.rng [2, 3, 5, 6, 7] (.seq (.ops [2, 3, 5, 6, 29]) (.ops [2, 3, 5, 6, 7])) (.blk (.seq (.ops [2, 5, 6, 7, 8]) (.seq (.ops [2, 6, 8]) (.join [] (.seq (.ops [2, 6, 8, 42]) (.cond (.ops []) (.ops [])))))))))) (.seq (.ops [4]) .leaf))))))) (c := Try.f18.body.getD .skip) hent Try.func18 rfl (Nat.le_of_ble_eq_true (by kernel_rfl))
    (Eq.mp (show sh18 a0 a1 w R = denF Try.prog ent true Try.f18 (.seq (.ops [2, 3]) (.seq (.seq (.draw (.q 0 (.q 1 (.q 2 (.q 3 (.q 4 (.q 5 (.q 6 (.sp 7 (.q 7 (.q 8 (.q 9 .fin))) (.q 7 (.q 8 (.q 9 .fin))))))))))) [2, 3, 18]) (.cond (.seq (.ops [4]) .leaf) .leaf)) (.seq (.ops [2, 3]) (.seq (.ops [2, 3, 5]) (.seq (.seq (.ops [2, 3, 5, 27]) (.blk (.rng [2, 3, 5, 6, 7] (.seq (.ops [2, 3, 5, 6, 29]) (.ops [2, 3, 5, 6, 7])) (.blk (.seq (.ops [2, 5, 6, 7, 8]) (.seq (.ops [2, 6, 8]) (.join [] (.seq (.ops [2, 6, 8, 42]) (.cond (.ops []) (.ops [])))))))))) (.seq (.ops [4]) .leaf)))))) (Try.f18.body.getD .skip) [a0, a1] w R by kernel_rfl) h)

/-! ### 19: (*handbill/vers.Store[int]).Get -/
def sh19 (a0 a1 a2 : Value) (w : World) (R : Value → World → Prop) : Prop :=
 RunA Try.prog (nilV a0) fun t12_1 =>
 RunA Try.prog (Instr.fieldAt 98 t12_1 0) fun t13_2 =>
 RunW Try.prog (Instr.loadAt 94 t13_2) w fun t14_3 =>
 CallF Try.prog 70 #[t14_3, a1] w fun t16_4 w =>
 RunA Try.prog (Instr.extract t16_4 0) fun t17_5 =>
 RunA Try.prog (Instr.extract t16_4 1) fun t18_6 =>
 CallF Try.prog 74 #[t17_5, a2] w fun t21_7 w =>
 RunA Try.prog (Instr.extract t21_7 0) fun t22_8 =>
 RunA Try.prog (Instr.extract t21_7 1) fun t23_9 =>
 R (.tuple #[t22_8, t23_9]) w
theorem sh19_calls {a0 a1 a2 : Value} {w : World} {R : Value → World → Prop} (h : sh19 a0 a1 a2 w R) : CallF Try.prog 19 #[a0, a1, a2] w R :=
  calls_of_denF (mk := false) (args := [a0, a1, a2]) (an := (.seq (.ops [0, 1, 2]) (.seq (.ops [2, 8]) (.seq (.ops [6, 7]) .leaf)))) (c := Try.f19.body.getD .skip) hent Try.func19 rfl (Nat.le_of_ble_eq_true (by kernel_rfl))
    (Eq.mp (show sh19 a0 a1 a2 w R = denF Try.prog ent false Try.f19 (.seq (.ops [0, 1, 2]) (.seq (.ops [2, 8]) (.seq (.ops [6, 7]) .leaf))) (Try.f19.body.getD .skip) [a0, a1, a2] w R by kernel_rfl) h)

/-! ### 20: handbill/vers.New[string] -/
def sh20 (w : World) (R : Value → World → Prop) : Prop :=
 CallF Try.prog 75 #[] w fun t1_1 w =>
 RunV Try.prog (Instr.build 114 #[(0, t1_1)]) w fun t2_2 w =>
 RunV Try.prog (Instr.box 114 t2_2) w fun t3_3 w =>
 R t3_3 w
theorem sh20_calls {w : World} {R : Value → World → Prop} (h : sh20  w R) : CallF Try.prog 20 #[] w R :=
  calls_of_denF (mk := false) (args := []) (an := (.seq (.ops []) (.seq (.ops [0]) .leaf))) (c := Try.f20.body.getD .skip) hent Try.func20 rfl (Nat.le_of_ble_eq_true (by kernel_rfl))
    (Eq.mp (show sh20  w R = denF Try.prog ent false Try.f20 (.seq (.ops []) (.seq (.ops [0]) .leaf)) (Try.f20.body.getD .skip) [] w R by kernel_rfl) h)

/-! ### 21: handbill/hbllaw11.few -/
def sh21 (a0 : Value) (w : World) (R : Value → World → Prop) : Prop :=
 jn 1 (fun t0_1 w =>
 RunW Try.prog (Builtin.len_ #[34] 3 #[t0_1]) w fun t40_3 =>
 RunA Try.prog (bin .leq 3 (.tmp 40) (.const (.int .i64 300)) t40_3 (.int .i64 300)) fun t41_4 =>
 R t41_4 w) fun j_2 =>
 lp 1 (fun n_6 t3_5 w =>
 RunW Try.prog (Builtin.len_ #[34] 3 #[a0]) w fun t6_7 =>
 RunA Try.prog (bin .lss 3 (.tmp 4) (.tmp 6) t3_5 t6_7) fun t7_8 =>
 IfB t7_8 (
 RunA Try.prog (bin .lss 3 (.tmp 9) (.const (.int .i64 300)) t3_5 (.int .i64 300)) fun t10_9 =>
 IfB t10_9 (
 RunA Try.prog (Instr.indexAt 34 a0 t3_5) fun t16_10 =>
 RunA Try.prog (Instr.fieldAt 40 t16_10 2) fun t17_11 =>
 RunW Try.prog (Instr.loadAt 9 t17_11) w fun t18_12 =>
 RunW Try.prog (Builtin.len_ #[9] 3 #[t18_12]) w fun t19_13 =>
 RunA Try.prog (bin .gtr 3 (.tmp 19) (.const (.int .i64 1000)) t19_13 (.int .i64 1000)) fun t20_14 =>
 IfB t20_14 (
 R (.bool false) w) (
 RunA Try.prog (Instr.indexAt 34 a0 t3_5) fun t24_15 =>
 RunA Try.prog (Instr.fieldAt 40 t24_15 3) fun t25_16 =>
 RunW Try.prog (Instr.loadAt 9 t25_16) w fun t26_17 =>
 RunW Try.prog (Builtin.len_ #[9] 3 #[t26_17]) w fun t27_18 =>
 RunA Try.prog (bin .gtr 3 (.tmp 27) (.const (.int .i64 1000)) t27_18 (.int .i64 1000)) fun t28_19 =>
 IfB t28_19 (
 R (.bool false) w) (
 RunA Try.prog (Instr.indexAt 34 a0 t3_5) fun t33_20 =>
 RunA Try.prog (Instr.fieldAt 40 t33_20 4) fun t34_21 =>
 RunW Try.prog (Instr.loadAt 9 t34_21) w fun t35_22 =>
 RunW Try.prog (Builtin.len_ #[9] 3 #[t35_22]) w fun t36_23 =>
 RunA Try.prog (bin .gtr 3 (.tmp 36) (.const (.int .i64 1000)) t36_23 (.int .i64 1000)) fun t37_24 =>
 IfB t37_24 (
 R (.bool false) w) (
 RunA Try.prog (bin .add 3 (.tmp 12) (.const (.int .i64 1)) t3_5 (.int .i64 1)) fun t13_25 =>
 (a0 : Value) = a0 ∧ (n_6 t13_25 w))))) (
 j_2 a0 w)) (
 j_2 a0 w)) [(.int .i64 0)] w
theorem sh21_calls {a0 : Value} {w : World} {R : Value → World → Prop} (h : sh21 a0 w R) : CallF Try.prog 21 #[a0] w R :=
  calls_of_denF (mk := false) (args := [a0]) (an := (.seq (.ops [0]) (.seq (.seq (.ops [0, 3]) (.join [0] (.blk (.loop [0] [3] (.seq (.seq (.ops [0, 3, 11]) (.cond .leaf .leaf)) (.seq (.blk (.seq (.ops [0, 3, 38]) (.cond (.seq (.ops [2]) .leaf) .leaf))) (.ops [0, 3]))))))) (.seq (.ops [2]) .leaf)))) (c := Try.f21.body.getD .skip) hent Try.func21 rfl (Nat.le_of_ble_eq_true (by kernel_rfl))
    (Eq.mp (show sh21 a0 w R = denF Try.prog ent false Try.f21 (.seq (.ops [0]) (.seq (.seq (.ops [0, 3]) (.join [0] (.blk (.loop [0] [3] (.seq (.seq (.ops [0, 3, 11]) (.cond .leaf .leaf)) (.seq (.blk (.seq (.ops [0, 3, 38]) (.cond (.seq (.ops [2]) .leaf) .leaf))) (.ops [0, 3]))))))) (.seq (.ops [2]) .leaf))) (Try.f21.body.getD .skip) [a0] w R by kernel_rfl) h)

/-! ### 22: handbill/hbllaw11.put -/
def sh22 (a0 a1 : Value) (w : World) (R : Value → World → Prop) : Prop :=
 RunV Try.prog (Instr.box 40 a1) w fun t3_1 w =>
 RunA Try.prog (Instr.fieldAt 40 t3_1 0) fun t4_2 =>
 RunW Try.prog (Instr.loadAt 3 t4_2) w fun t5_3 =>
 RunW Try.prog (bin .eql 3 (.tmp 5) (.const (.int .i64 0)) t5_3 (.int .i64 0)) w fun t7_4 =>
 IfB t7_4 (
 RunA Try.prog (Instr.fieldAt 40 t3_1 1) fun t9_5 =>
 RunW Try.prog (Instr.loadAt 3 t9_5) w fun t10_6 =>
 RunA Try.prog (Instr.fieldAt 40 t3_1 2) fun t11_7 =>
 RunW Try.prog (Instr.loadAt 9 t11_7) w fun t12_8 =>
 RunA Try.prog (Instr.fieldAt 40 t3_1 3) fun t13_9 =>
 RunW Try.prog (Instr.loadAt 9 t13_9) w fun t14_10 =>
 CallF Try.prog 29 #[a0, t10_6, t12_8, t14_10] w fun t15_11 w =>
 R (.tuple #[]) w) (
 RunW Try.prog (bin .eql 3 (.tmp 5) (.const (.int .i64 1)) t5_3 (.int .i64 1)) w fun t17_12 =>
 IfB t17_12 (
 RunA Try.prog (Instr.fieldAt 40 t3_1 1) fun t19_13 =>
 RunW Try.prog (Instr.loadAt 3 t19_13) w fun t20_14 =>
 RunA Try.prog (Instr.fieldAt 40 t3_1 2) fun t21_15 =>
 RunW Try.prog (Instr.loadAt 9 t21_15) w fun t22_16 =>
 CallF Try.prog 30 #[a0, t20_14, t22_16] w fun t23_17 w =>
 R (.tuple #[]) w) (
 R (.tuple #[]) w))
theorem sh22_calls {a0 a1 : Value} {w : World} {R : Value → World → Prop} (h : sh22 a0 a1 w R) : CallF Try.prog 22 #[a0, a1] w R :=
  calls_of_denF (mk := false) (args := [a0, a1]) (an := (.seq (.ops [0, 3]) (.seq (.ops [0, 3, 5]) (.blk (.seq (.ops [0, 3, 5, 6]) (.cond (.ops []) (.seq (.ops [0, 3, 16]) (.cond (.ops []) .leaf)))))))) (c := Try.f22.body.getD .skip) hent Try.func22 rfl (Nat.le_of_ble_eq_true (by kernel_rfl))
    (Eq.mp (show sh22 a0 a1 w R = denF Try.prog ent false Try.f22 (.seq (.ops [0, 3]) (.seq (.ops [0, 3, 5]) (.blk (.seq (.ops [0, 3, 5, 6]) (.cond (.ops []) (.seq (.ops [0, 3, 16]) (.cond (.ops []) .leaf))))))) (Try.f22.body.getD .skip) [a0, a1] w R by kernel_rfl) h)

/-! ### 23: (*handbill/vers.Store[string]).Low -/
def sh23 (a0 : Value) (w : World) (R : Value → World → Prop) : Prop :=
 RunA Try.prog (nilV a0) fun t4_1 =>
 RunA Try.prog (Instr.fieldAt 114 t4_1 1) fun t5_2 =>
 RunW Try.prog (Instr.loadAt 3 t5_2) w fun t6_3 =>
 R t6_3 w
theorem sh23_calls {a0 : Value} {w : World} {R : Value → World → Prop} (h : sh23 a0 w R) : CallF Try.prog 23 #[a0] w R :=
  calls_of_denF (mk := false) (args := [a0]) (an := (.seq (.ops [0]) (.seq (.ops [2]) .leaf))) (c := Try.f23.body.getD .skip) hent Try.func23 rfl (Nat.le_of_ble_eq_true (by kernel_rfl))
    (Eq.mp (show sh23 a0 w R = denF Try.prog ent false Try.f23 (.seq (.ops [0]) (.seq (.ops [2]) .leaf)) (Try.f23.body.getD .skip) [a0] w R by kernel_rfl) h)

/-! ### 24: handbill/hbllaw11.Pairs -/
def sh24 (a0 a1 : Value) (w : World) (R : Value → World → Prop) : Prop :=
 RunV Try.prog (Instr.box 3 a1) w fun t3_1 w =>
 RunV Try.prog (Instr.alloc 41 true (.tuple #[])) w fun t5_2 w =>
 RunW Try.prog (bin .eql 44 (.tmp 8) (.const (.nilFunc)) a0 (.nilFunc)) w fun t9_3 =>
 IfB t9_3 (
 R (.slice none 0 0) w) (
 RunW Try.prog (Instr.loadAt 3 t3_1) w fun t11_4 =>
 RunA Try.prog (bin .lss 3 (.tmp 11) (.const (.int .i64 1)) t11_4 (.int .i64 1)) fun t12_5 =>
 IfB t12_5 (
 R (.slice none 0 0) w) (
 rngP Try.prog none 2 4 (fun l_6 K_7 t15_13 t16_14 w =>
 K_7 t3_1 t5_2 t15_13 t16_14 w) (fun l_6 kn_8 ks_9 t3_15 t5_16 t6_17 t7_18 w =>
 RunW Try.prog (Instr.loadAt 41 t5_16) w fun t17_19 =>
 RunV Try.prog (Instr.build 50 #[(0, t6_17), (1, t7_18)]) w fun t20_20 w =>
 RunV Try.prog (Instr.buildSlice 41 1 #[(0, t20_20)]) w fun t21_21 w =>
 RunV Try.prog (Builtin.append_ #[41, 41] 41 #[t17_19, t21_21]) w fun t22_22 w =>
 RunU Try.prog (Instr.storeAt 41 t5_16 t22_22) w fun w =>
 RunW Try.prog (Instr.loadAt 41 t5_16) w fun t23_23 =>
 RunW Try.prog (Builtin.len_ #[41] 3 #[t23_23]) w fun t24_24 =>
 RunW Try.prog (Instr.loadAt 3 t3_15) w fun t25_25 =>
 RunW Try.prog (bin .eql 3 (.tmp 24) (.tmp 25) t24_24 t25_25) w fun t26_26 =>
 IfB t26_26 (
 ks_9 (.exit 0) w) (
 kn_8 w)) a0 w (fun D_10 w =>
 RunW Try.prog (Instr.loadAt 41 t5_2) w fun t27_27 =>
 (w).heap[D_10]? = some (.deferred (some [])) ∧ (
 R t27_27 (w.putObj D_10 (.deferred none)))) (fun D_10 c_11 w => jumpK (fun i_12 w =>
 bif Nat.beq i_12 0 then (
 RunW Try.prog (Instr.loadAt 41 t5_2) w fun t27_28 =>
 (w).heap[D_10]? = some (.deferred (some [])) ∧ (
 R t27_28 (w.putObj D_10 (.deferred none)))) else (
 False)) (fun w =>
 (w).heap[D_10]? = some (.deferred (some [])) ∧ (
 False)) c_11 w)))
theorem sh24_calls {a0 a1 : Value} {w : World} {R : Value → World → Prop} (h : sh24 a0 a1 w R) : CallF Try.prog 24 #[a0, a1] w R :=
  calls_of_denF (mk := true) (args := [a0, a1]) (an := (.seq (.ops [0, 3]) (.seq (.ops [0, 3, 5]) (.seq (.seq (.ops [0, 3, 5, 13]) (.cond (.seq (.ops [4]) .leaf) .leaf)) (.seq (.seq (.ops [3, 5, 14]) (.blk (.rng [3, 5, 6, 7] (.seq (.ops [3, 5, 6, 16]) (.ops [3, 5, 6, 7])) (.blk (.seq (.ops [3, 5]) (.seq (.ops [26]) (.cond .leaf .leaf))))))) (.seq (.ops [4]) .leaf)))))) (c := Try.f24.body.getD .skip) hent Try.func24 rfl (Nat.le_of_ble_eq_true (by kernel_rfl))
    (Eq.mp (show sh24 a0 a1 w R = denF Try.prog ent true Try.f24 (.seq (.ops [0, 3]) (.seq (.ops [0, 3, 5]) (.seq (.seq (.ops [0, 3, 5, 13]) (.cond (.seq (.ops [4]) .leaf) .leaf)) (.seq (.seq (.ops [3, 5, 14]) (.blk (.rng [3, 5, 6, 7] (.seq (.ops [3, 5, 6, 16]) (.ops [3, 5, 6, 7])) (.blk (.seq (.ops [3, 5]) (.seq (.ops [26]) (.cond .leaf .leaf))))))) (.seq (.ops [4]) .leaf))))) (Try.f24.body.getD .skip) [a0, a1] w R by kernel_rfl) h)

/-! ### 25: (*handbill/vers.Store[string]).Scan -/
def sh25 (a0 a1 a2 a3 : Value) (w : World) (R : Value → World → Prop) : Prop :=
 RunV Try.prog (Instr.box 35 a0) w fun t4_1 w =>
 RunV Try.prog (Instr.box 9 a1) w fun t5_2 w =>
 RunV Try.prog (Instr.box 9 a2) w fun t6_3 w =>
 RunV Try.prog (Instr.box 3 a3) w fun t7_4 w =>
 RunV Try.prog (Instr.makeFunc (Go.Fn.func 76) #[] #[t4_1, t5_2, t6_3, t7_4]) w fun t9_5 w =>
 R t9_5 w
theorem sh25_calls {a0 a1 a2 a3 : Value} {w : World} {R : Value → World → Prop} (h : sh25 a0 a1 a2 a3 w R) : CallF Try.prog 25 #[a0, a1, a2, a3] w R :=
  calls_of_denF (mk := false) (args := [a0, a1, a2, a3]) (an := (.seq (.ops [4, 5, 6, 7]) (.seq (.ops [8]) .leaf))) (c := Try.f25.body.getD .skip) hent Try.func25 rfl (Nat.le_of_ble_eq_true (by kernel_rfl))
    (Eq.mp (show sh25 a0 a1 a2 a3 w R = denF Try.prog ent false Try.f25 (.seq (.ops [4, 5, 6, 7]) (.seq (.ops [8]) .leaf)) (Try.f25.body.getD .skip) [a0, a1, a2, a3] w R by kernel_rfl) h)

/-! ### 26: (*handbill/vers.Store[string]).Prune -/
def sh26 (a0 a1 : Value) (w : World) (R : Value → World → Prop) : Prop :=
 RunV Try.prog (Instr.box 35 a0) w fun t2_1 w =>
 RunV Try.prog (Instr.box 3 a1) w fun t3_2 w =>
 drw (fun S_3 w =>
 RunS Try.prog S_3 (Instr.loadAt 3 t3_2) fun t9_4 =>
 RunS Try.prog S_3 (Instr.loadAt 35 t2_1) fun t10_5 =>
 RunA Try.prog (nilV t10_5) fun t11_6 =>
 RunA Try.prog (Instr.fieldAt 114 t11_6 1) fun t12_7 =>
 RunS Try.prog S_3 (Instr.loadAt 3 t12_7) fun t13_8 =>
 RunA Try.prog (bin .leq 3 (.tmp 9) (.tmp 13) t9_4 t13_8) fun t14_9 =>
 IfB t14_9 (
 R (.int .i64 0) w) (
 RunS Try.prog S_3 (Instr.loadAt 3 t3_2) fun t16_10 =>
 RunA Try.prog (bin .gtr 3 (.tmp 16) (.const (.int .i64 1099511627776)) t16_10 (.int .i64 1099511627776)) fun t17_11 =>
 IfB t17_11 (
 R (.int .i64 0) w) (
 RunW Try.prog (Instr.loadAt 35 t2_1) w fun t19_12 =>
 RunW Try.prog (Instr.loadAt 3 t3_2) w fun t20_13 =>
 RunA Try.prog (nilV t19_12) fun t21_14 =>
 RunA Try.prog (Instr.fieldAt 114 t21_14 1) fun t22_15 =>
 RunU Try.prog (Instr.storeAt 3 t22_15 t20_13) w fun w =>
 RunV Try.prog (Instr.alloc 3 true (.tuple #[])) w fun t5_16 w =>
 RunU Try.prog (Instr.storeAt 3 t5_16 (.int .i64 0)) w fun w =>
 RunW Try.prog (Instr.loadAt 35 t2_1) w fun t23_17 =>
 RunA Try.prog (nilV t23_17) fun t24_18 =>
 RunA Try.prog (Instr.fieldAt 114 t24_18 0) fun t25_19 =>
 RunW Try.prog (Instr.loadAt 111 t25_19) w fun t26_20 =>
 CallF Try.prog 79 #[t26_20] w fun t27_21 w =>
 rngP Try.prog none 2 5 (fun l_22 K_23 t28_29 t29_30 w =>
 K_23 t2_1 t3_2 t5_16 t28_29 t29_30 w) (fun l_22 kn_24 ks_25 t2_31 t3_32 t5_33 t6_34 t7_35 w =>
 RunW Try.prog (Instr.loadAt 3 t3_32) w fun t31_36 =>
 CallF Try.prog 80 #[t7_35, t31_36] w fun t32_37 w =>
 RunW Try.prog (Instr.loadAt 3 t5_33) w fun t33_38 =>
 RunW Try.prog (Builtin.len_ #[55] 3 #[t7_35]) w fun t35_39 =>
 RunW Try.prog (Builtin.len_ #[55] 3 #[t32_37]) w fun t37_40 =>
 RunA Try.prog (bin .sub 3 (.tmp 35) (.tmp 37) t35_39 t37_40) fun t38_41 =>
 RunA Try.prog (bin .add 3 (.tmp 33) (.tmp 38) t33_38 t38_41) fun t39_42 =>
 RunU Try.prog (Instr.storeAt 3 t5_33 t39_42) w fun w =>
 jn 0 (fun w =>
 kn_24 w) fun j_43 =>
 RunW Try.prog (Builtin.len_ #[55] 3 #[t32_37]) w fun t41_44 =>
 RunW Try.prog (bin .eql 3 (.tmp 41) (.const (.int .i64 0)) t41_44 (.int .i64 0)) w fun t42_45 =>
 IfB t42_45 (
 RunW Try.prog (Instr.loadAt 35 t2_31) w fun t43_46 =>
 RunA Try.prog (nilV t43_46) fun t44_47 =>
 RunA Try.prog (Instr.fieldAt 114 t44_47 0) fun t45_48 =>
 RunW Try.prog (Instr.loadAt 111 t45_48) w fun t46_49 =>
 CallF Try.prog 81 #[t46_49, t6_34] w fun t48_50 w =>
 j_43 w) (
 RunW Try.prog (Instr.loadAt 35 t2_31) w fun t49_51 =>
 RunA Try.prog (nilV t49_51) fun t50_52 =>
 RunA Try.prog (Instr.fieldAt 114 t50_52 0) fun t51_53 =>
 RunW Try.prog (Instr.loadAt 111 t51_53) w fun t52_54 =>
 CallF Try.prog 82 #[t52_54, t6_34, t32_37] w fun t55_55 w =>
 j_43 w)) t27_21 w (fun D_26 w =>
 RunW Try.prog (Instr.loadAt 3 t5_16) w fun t56_56 =>
 (w).heap[D_26]? = some (.deferred (some [])) ∧ (
 R t56_56 (w.putObj D_26 (.deferred none)))) (fun D_26 c_27 w => jumpK (fun i_28 w =>
 bif Nat.beq i_28 0 then (
 RunW Try.prog (Instr.loadAt 3 t5_16) w fun t56_57 =>
 (w).heap[D_26]? = some (.deferred (some [])) ∧ (
 R t56_57 (w.putObj D_26 (.deferred none)))) else (
 False)) (fun w =>
 (w).heap[D_26]? = some (.deferred (some [])) ∧ (
 False)) c_27 w)))) w
theorem sh26_calls {a0 a1 : Value} {w : World} {R : Value → World → Prop} (h : sh26 a0 a1 w R) : CallF Try.prog 26 #[a0, a1] w R :=
  calls_of_denF (mk := true) (args := [a0, a1]) (an := (.seq (.ops [2, 3]) (.seq (.seq (.draw (.q 0 (.q 1 (.q 2 (.q 3 (.q 4 (.q 5 (.q 6 (.sp 7 (.q 7 (.q 8 (.q 9 .fin))) (.q 7 (.q 8 (.q 9 .fin))))))))))) [2, 3, 18]) (.cond (.seq (.ops [4]) .leaf) .leaf)) (.seq (.ops [2, 3]) (.seq (.ops [2, 3, 5]) (.seq (.seq (.ops [2, 3, 5, 27]) (.blk (.rng [2, 3, 5, 6, 7] (.seq (.ops [2, 3, 5, 6, 29]) (.ops [2, 3, 5, 6, 7])) (.blk (.seq (.ops [2, 5, 6, 7, 8]) (.seq (.ops [2, 6, 8]) (.join [] (.seq (.ops [2, 6, 8, 42]) (.cond (.ops []) (.ops [])))))))))) (.seq (.ops [4]) .leaf))))))) (c := Try.f26.body.getD .skip) hent Try.func26 rfl (Nat.le_of_ble_eq_true (by kernel_rfl))
    (Eq.mp (show sh26 a0 a1 w R = denF Try.prog ent true Try.f26 (.seq (.ops [2, 3]) (.seq (.seq (.draw (.q 0 (.q 1 (.q 2 (.q 3 (.q 4 (.q 5 (.q 6 (.sp 7 (.q 7 (.q 8 (.q 9 .fin))) (.q 7 (.q 8 (.q 9 .fin))))))))))) [2, 3, 18]) (.cond (.seq (.ops [4]) .leaf) .leaf)) (.seq (.ops [2, 3]) (.seq (.ops [2, 3, 5]) (.seq (.seq (.ops [2, 3, 5, 27]) (.blk (.rng [2, 3, 5, 6, 7] (.seq (.ops [2, 3, 5, 6, 29]) (.ops [2, 3, 5, 6, 7])) (.blk (.seq (.ops [2, 5, 6, 7, 8]) (.seq (.ops [2, 6, 8]) (.join [] (.seq (.ops [2, 6, 8, 42]) (.cond (.ops []) (.ops [])))))))))) (.seq (.ops [4]) .leaf)))))) (Try.f26.body.getD .skip) [a0, a1] w R by kernel_rfl) h)

/-! ### 27: handbill/hblref.Pairs -/
def sh27 (a0 a1 : Value) (w : World) (R : Value → World → Prop) : Prop :=
 RunW Try.prog (Builtin.len_ #[41] 3 #[a0]) w fun t7_1 =>
 RunW Try.prog (Builtin.len_ #[41] 3 #[a1]) w fun t9_2 =>
 RunW Try.prog (bin .neq 3 (.tmp 7) (.tmp 9) t7_1 t9_2) w fun t10_3 =>
 IfB t10_3 (
 R (.bool false) w) (
 lp 1 (fun n_5 t5_4 w =>
 RunW Try.prog (Builtin.len_ #[41] 3 #[a0]) w fun t13_6 =>
 RunA Try.prog (bin .lss 3 (.tmp 11) (.tmp 13) t5_4 t13_6) fun t14_7 =>
 IfB t14_7 (
 drw (fun S_8 w =>
 RunA Try.prog (Instr.indexAt 41 a0 t5_4) fun t19_9 =>
 RunA Try.prog (Instr.fieldAt 50 t19_9 0) fun t20_10 =>
 RunS Try.prog S_8 (Instr.loadAt 9 t20_10) fun t21_11 =>
 RunA Try.prog (Instr.indexAt 41 a1 t5_4) fun t24_12 =>
 RunA Try.prog (Instr.fieldAt 50 t24_12 0) fun t25_13 =>
 RunS Try.prog S_8 (Instr.loadAt 9 t25_13) fun t26_14 =>
 RunS Try.prog S_8 (bin .neq 9 (.tmp 21) (.tmp 26) t21_11 t26_14) fun t27_15 =>
 IfB t27_15 (
 R (.bool false) w) (
 RunA Try.prog (Instr.indexAt 41 a0 t5_4) fun t31_16 =>
 RunA Try.prog (Instr.fieldAt 50 t31_16 1) fun t32_17 =>
 RunS Try.prog S_8 (Instr.loadAt 9 t32_17) fun t33_18 =>
 RunA Try.prog (Instr.indexAt 41 a1 t5_4) fun t36_19 =>
 RunA Try.prog (Instr.fieldAt 50 t36_19 1) fun t37_20 =>
 RunS Try.prog S_8 (Instr.loadAt 9 t37_20) fun t38_21 =>
 RunS Try.prog S_8 (bin .neq 9 (.tmp 33) (.tmp 38) t33_18 t38_21) fun t39_22 =>
 IfB t39_22 (
 R (.bool false) w) (
 RunA Try.prog (bin .add 3 (.tmp 15) (.const (.int .i64 1)) t5_4 (.int .i64 1)) fun t16_23 =>
 (a0 : Value) = a0 ∧ ((a1 : Value) = a1 ∧ (n_5 t16_23 w))))) w) (
 R (.bool true) w)) [(.int .i64 0)] w)
theorem sh27_calls {a0 a1 : Value} {w : World} {R : Value → World → Prop} (h : sh27 a0 a1 w R) : CallF Try.prog 27 #[a0, a1] w R :=
  calls_of_denF (mk := false) (args := [a0, a1]) (an := (.seq (.ops [0, 1]) (.seq (.seq (.ops [0, 1, 10]) (.cond (.seq (.ops [4]) .leaf) .leaf)) (.seq (.seq (.ops [0, 1, 5]) (.blk (.loop [0, 1] [5] (.seq (.seq (.ops [0, 1, 5, 14]) (.cond .leaf .leaf)) (.seq (.blk (.seq (.draw (.q 0 (.q 1 (.q 2 (.q 3 (.q 4 (.q 5 (.q 6 (.q 7 (.q 8 (.q 9 (.q 10 (.q 11 (.sp 12 (.q 12 (.q 13 (.q 14 (.q 15 (.q 16 (.q 17 (.q 18 (.q 19 (.q 20 (.q 21 (.q 22 (.q 23 .fin)))))))))))) (.q 12 (.q 13 (.q 14 (.q 15 (.q 16 (.q 17 (.q 18 (.q 19 (.q 20 (.q 21 (.q 22 (.q 23 .fin))))))))))))))))))))))))) [0, 1, 5, 40]) (.cond (.seq (.ops [4]) .leaf) .leaf))) (.ops [0, 1, 5])))))) (.seq (.ops [4]) .leaf))))) (c := Try.f27.body.getD .skip) hent Try.func27 rfl (Nat.le_of_ble_eq_true (by kernel_rfl))
    (Eq.mp (show sh27 a0 a1 w R = denF Try.prog ent false Try.f27 (.seq (.ops [0, 1]) (.seq (.seq (.ops [0, 1, 10]) (.cond (.seq (.ops [4]) .leaf) .leaf)) (.seq (.seq (.ops [0, 1, 5]) (.blk (.loop [0, 1] [5] (.seq (.seq (.ops [0, 1, 5, 14]) (.cond .leaf .leaf)) (.seq (.blk (.seq (.draw (.q 0 (.q 1 (.q 2 (.q 3 (.q 4 (.q 5 (.q 6 (.q 7 (.q 8 (.q 9 (.q 10 (.q 11 (.sp 12 (.q 12 (.q 13 (.q 14 (.q 15 (.q 16 (.q 17 (.q 18 (.q 19 (.q 20 (.q 21 (.q 22 (.q 23 .fin)))))))))))) (.q 12 (.q 13 (.q 14 (.q 15 (.q 16 (.q 17 (.q 18 (.q 19 (.q 20 (.q 21 (.q 22 (.q 23 .fin))))))))))))))))))))))))) [0, 1, 5, 40]) (.cond (.seq (.ops [4]) .leaf) .leaf))) (.ops [0, 1, 5])))))) (.seq (.ops [4]) .leaf)))) (Try.f27.body.getD .skip) [a0, a1] w R by kernel_rfl) h)

/-! ### 28: (*handbill/vers.Store[string]).Get -/
def sh28 (a0 a1 a2 : Value) (w : World) (R : Value → World → Prop) : Prop :=
 RunA Try.prog (nilV a0) fun t12_1 =>
 RunA Try.prog (Instr.fieldAt 114 t12_1 0) fun t13_2 =>
 RunW Try.prog (Instr.loadAt 111 t13_2) w fun t14_3 =>
 CallF Try.prog 83 #[t14_3, a1] w fun t16_4 w =>
 RunA Try.prog (Instr.extract t16_4 0) fun t17_5 =>
 RunA Try.prog (Instr.extract t16_4 1) fun t18_6 =>
 CallF Try.prog 78 #[t17_5, a2] w fun t21_7 w =>
 RunA Try.prog (Instr.extract t21_7 0) fun t22_8 =>
 RunA Try.prog (Instr.extract t21_7 1) fun t23_9 =>
 R (.tuple #[t22_8, t23_9]) w
theorem sh28_calls {a0 a1 a2 : Value} {w : World} {R : Value → World → Prop} (h : sh28 a0 a1 a2 w R) : CallF Try.prog 28 #[a0, a1, a2] w R :=
  calls_of_denF (mk := false) (args := [a0, a1, a2]) (an := (.seq (.ops [0, 1, 2]) (.seq (.ops [2, 8]) (.seq (.ops [6, 7]) .leaf)))) (c := Try.f28.body.getD .skip) hent Try.func28 rfl (Nat.le_of_ble_eq_true (by kernel_rfl))
    (Eq.mp (show sh28 a0 a1 a2 w R = denF Try.prog ent false Try.f28 (.seq (.ops [0, 1, 2]) (.seq (.ops [2, 8]) (.seq (.ops [6, 7]) .leaf))) (Try.f28.body.getD .skip) [a0, a1, a2] w R by kernel_rfl) h)

/-! ### 29: (*handbill/vers.Store[string]).Put -/
def sh29 (a0 a1 a2 a3 : Value) (w : World) (R : Value → World → Prop) : Prop :=
 RunV Try.prog (Instr.build 58 #[(0, a1), (1, a3)]) w fun t13_1 w =>
 CallF Try.prog 84 #[a0, a2, t13_1] w fun t14_2 w =>
 R t14_2 w
theorem sh29_calls {a0 a1 a2 a3 : Value} {w : World} {R : Value → World → Prop} (h : sh29 a0 a1 a2 a3 w R) : CallF Try.prog 29 #[a0, a1, a2, a3] w R :=
  calls_of_denF (mk := false) (args := [a0, a1, a2, a3]) (an := (.seq (.ops [0, 1, 2, 3]) (.seq (.ops [8]) .leaf))) (c := Try.f29.body.getD .skip) hent Try.func29 rfl (Nat.le_of_ble_eq_true (by kernel_rfl))
    (Eq.mp (show sh29 a0 a1 a2 a3 w R = denF Try.prog ent false Try.f29 (.seq (.ops [0, 1, 2, 3]) (.seq (.ops [8]) .leaf)) (Try.f29.body.getD .skip) [a0, a1, a2, a3] w R by kernel_rfl) h)

/-! ### 30: (*handbill/vers.Store[string]).Kill -/
def sh30 (a0 a1 a2 : Value) (w : World) (R : Value → World → Prop) : Prop :=
 RunV Try.prog (Instr.build 58 #[(0, a1), (2, (.bool true))]) w fun t10_1 w =>
 CallF Try.prog 84 #[a0, a2, t10_1] w fun t11_2 w =>
 R t11_2 w
theorem sh30_calls {a0 a1 a2 : Value} {w : World} {R : Value → World → Prop} (h : sh30 a0 a1 a2 w R) : CallF Try.prog 30 #[a0, a1, a2] w R :=
  calls_of_denF (mk := false) (args := [a0, a1, a2]) (an := (.seq (.ops [0, 1, 2]) (.seq (.ops [6]) .leaf))) (c := Try.f30.body.getD .skip) hent Try.func30 rfl (Nat.le_of_ble_eq_true (by kernel_rfl))
    (Eq.mp (show sh30 a0 a1 a2 w R = denF Try.prog ent false Try.f30 (.seq (.ops [0, 1, 2]) (.seq (.ops [6]) .leaf)) (Try.f30.body.getD .skip) [a0, a1, a2] w R by kernel_rfl) h)

/-! ### 31: (*handbill/vers.Store[string]).Count -/
def sh31 (a0 : Value) (w : World) (R : Value → World → Prop) : Prop :=
 RunV Try.prog (Instr.alloc 3 true (.tuple #[])) w fun t3_1 w =>
 RunU Try.prog (Instr.storeAt 3 t3_1 (.int .i64 0)) w fun w =>
 RunA Try.prog (nilV a0) fun t7_2 =>
 RunA Try.prog (Instr.fieldAt 114 t7_2 0) fun t8_3 =>
 RunW Try.prog (Instr.loadAt 111 t8_3) w fun t9_4 =>
 CallF Try.prog 79 #[t9_4] w fun t10_5 w =>
 rngP Try.prog none 2 2 (fun l_6 K_7 t11_13 t12_14 w =>
 K_7 t3_1 t12_14 w) (fun l_6 kn_8 ks_9 t3_15 t5_16 w =>
 RunW Try.prog (Instr.loadAt 3 t3_15) w fun t13_17 =>
 RunW Try.prog (Builtin.len_ #[55] 3 #[t5_16]) w fun t15_18 =>
 RunA Try.prog (bin .add 3 (.tmp 13) (.tmp 15) t13_17 t15_18) fun t16_19 =>
 RunU Try.prog (Instr.storeAt 3 t3_15 t16_19) w fun w =>
 kn_8 w) t10_5 w (fun D_10 w =>
 RunW Try.prog (Instr.loadAt 3 t3_1) w fun t17_20 =>
 (w).heap[D_10]? = some (.deferred (some [])) ∧ (
 R t17_20 (w.putObj D_10 (.deferred none)))) (fun D_10 c_11 w => jumpK (fun i_12 w =>
 bif Nat.beq i_12 0 then (
 RunW Try.prog (Instr.loadAt 3 t3_1) w fun t17_21 =>
 (w).heap[D_10]? = some (.deferred (some [])) ∧ (
 R t17_21 (w.putObj D_10 (.deferred none)))) else (
 False)) (fun w =>
 (w).heap[D_10]? = some (.deferred (some [])) ∧ (
 False)) c_11 w)
theorem sh31_calls {a0 : Value} {w : World} {R : Value → World → Prop} (h : sh31 a0 w R) : CallF Try.prog 31 #[a0] w R :=
  calls_of_denF (mk := true) (args := [a0]) (an := (.seq (.ops [0]) (.seq (.ops [0, 3]) (.seq (.seq (.ops [3, 10]) (.blk (.rng [3, 5] (.ops [3, 5]) (.blk (.ops []))))) (.seq (.ops [2]) .leaf))))) (c := Try.f31.body.getD .skip) hent Try.func31 rfl (Nat.le_of_ble_eq_true (by kernel_rfl))
    (Eq.mp (show sh31 a0 w R = denF Try.prog ent true Try.f31 (.seq (.ops [0]) (.seq (.ops [0, 3]) (.seq (.seq (.ops [3, 10]) (.blk (.rng [3, 5] (.ops [3, 5]) (.blk (.ops []))))) (.seq (.ops [2]) .leaf)))) (Try.f31.body.getD .skip) [a0] w R by kernel_rfl) h)

/-! ### 32: (*handbill/vers.Store[string]).Last -/
def sh32 (a0 a1 : Value) (w : World) (R : Value → World → Prop) : Prop :=
 RunA Try.prog (nilV a0) fun t9_1 =>
 RunA Try.prog (Instr.fieldAt 114 t9_1 0) fun t10_2 =>
 RunW Try.prog (Instr.loadAt 111 t10_2) w fun t11_3 =>
 CallF Try.prog 83 #[t11_3, a1] w fun t13_4 w =>
 RunA Try.prog (Instr.extract t13_4 0) fun t14_5 =>
 RunA Try.prog (Instr.extract t13_4 1) fun t15_6 =>
 RunW Try.prog (Builtin.len_ #[55] 3 #[t14_5]) w fun t17_7 =>
 RunW Try.prog (bin .eql 3 (.tmp 17) (.const (.int .i64 0)) t17_7 (.int .i64 0)) w fun t18_8 =>
 IfB t18_8 (
 R (.int .i64 0) w) (
 RunW Try.prog (Builtin.len_ #[55] 3 #[t14_5]) w fun t21_9 =>
 RunA Try.prog (bin .sub 3 (.tmp 21) (.const (.int .i64 1)) t21_9 (.int .i64 1)) fun t22_10 =>
 RunA Try.prog (Instr.indexAt 55 t14_5 t22_10) fun t23_11 =>
 RunA Try.prog (Instr.fieldAt 58 t23_11 0) fun t24_12 =>
 RunW Try.prog (Instr.loadAt 3 t24_12) w fun t25_13 =>
 R t25_13 w)
theorem sh32_calls {a0 a1 : Value} {w : World} {R : Value → World → Prop} (h : sh32 a0 a1 w R) : CallF Try.prog 32 #[a0, a1] w R :=
  calls_of_denF (mk := false) (args := [a0, a1]) (an := (.seq (.ops [0, 1]) (.seq (.ops [5]) (.seq (.seq (.ops [5, 18]) (.cond (.seq (.ops [4]) .leaf) .leaf)) (.seq (.ops [4]) .leaf))))) (c := Try.f32.body.getD .skip) hent Try.func32 rfl (Nat.le_of_ble_eq_true (by kernel_rfl))
    (Eq.mp (show sh32 a0 a1 w R = denF Try.prog ent false Try.f32 (.seq (.ops [0, 1]) (.seq (.ops [5]) (.seq (.seq (.ops [5, 18]) (.cond (.seq (.ops [4]) .leaf) .leaf)) (.seq (.ops [4]) .leaf)))) (Try.f32.body.getD .skip) [a0, a1] w R by kernel_rfl) h)

/-! ### 33: (*handbill/vers.Store[string]).Chain -/
def sh33 (a0 a1 : Value) (w : World) (R : Value → World → Prop) : Prop :=
 RunA Try.prog (nilV a0) fun t9_1 =>
 RunA Try.prog (Instr.fieldAt 114 t9_1 0) fun t10_2 =>
 RunW Try.prog (Instr.loadAt 111 t10_2) w fun t11_3 =>
 CallF Try.prog 83 #[t11_3, a1] w fun t13_4 w =>
 RunA Try.prog (Instr.extract t13_4 0) fun t14_5 =>
 RunA Try.prog (Instr.extract t13_4 1) fun t15_6 =>
 CallF Try.prog 85 #[t14_5] w fun t17_7 w =>
 R t17_7 w
theorem sh33_calls {a0 a1 : Value} {w : World} {R : Value → World → Prop} (h : sh33 a0 a1 w R) : CallF Try.prog 33 #[a0, a1] w R :=
  calls_of_denF (mk := false) (args := [a0, a1]) (an := (.seq (.ops [0, 1]) (.seq (.ops [5]) (.seq (.ops [4]) .leaf)))) (c := Try.f33.body.getD .skip) hent Try.func33 rfl (Nat.le_of_ble_eq_true (by kernel_rfl))
    (Eq.mp (show sh33 a0 a1 w R = denF Try.prog ent false Try.f33 (.seq (.ops [0, 1]) (.seq (.ops [5]) (.seq (.ops [4]) .leaf))) (Try.f33.body.getD .skip) [a0, a1] w R by kernel_rfl) h)

/-! ### 34: (*handbill/hblref11.Store).Put -/
def sh34 (a0 a1 a2 a3 : Value) (w : World) (R : Value → World → Prop) : Prop :=
 RunV Try.prog (Instr.build 128 #[(0, a1), (1, a3)]) w fun t13_1 w =>
 CallF Try.prog 86 #[a0, a2, t13_1] w fun t14_2 w =>
 R t14_2 w
theorem sh34_calls {a0 a1 a2 a3 : Value} {w : World} {R : Value → World → Prop} (h : sh34 a0 a1 a2 a3 w R) : CallF Try.prog 34 #[a0, a1, a2, a3] w R :=
  calls_of_denF (mk := false) (args := [a0, a1, a2, a3]) (an := (.seq (.ops [0, 1, 2, 3]) (.seq (.ops [8]) .leaf))) (c := Try.f34.body.getD .skip) hent Try.func34 rfl (Nat.le_of_ble_eq_true (by kernel_rfl))
    (Eq.mp (show sh34 a0 a1 a2 a3 w R = denF Try.prog ent false Try.f34 (.seq (.ops [0, 1, 2, 3]) (.seq (.ops [8]) .leaf)) (Try.f34.body.getD .skip) [a0, a1, a2, a3] w R by kernel_rfl) h)

/-! ### 35: (*handbill/hblref11.Store).Kill -/
def sh35 (a0 a1 a2 : Value) (w : World) (R : Value → World → Prop) : Prop :=
 RunV Try.prog (Instr.build 128 #[(0, a1), (2, (.bool true))]) w fun t10_1 w =>
 CallF Try.prog 86 #[a0, a2, t10_1] w fun t11_2 w =>
 R t11_2 w
theorem sh35_calls {a0 a1 a2 : Value} {w : World} {R : Value → World → Prop} (h : sh35 a0 a1 a2 w R) : CallF Try.prog 35 #[a0, a1, a2] w R :=
  calls_of_denF (mk := false) (args := [a0, a1, a2]) (an := (.seq (.ops [0, 1, 2]) (.seq (.ops [6]) .leaf))) (c := Try.f35.body.getD .skip) hent Try.func35 rfl (Nat.le_of_ble_eq_true (by kernel_rfl))
    (Eq.mp (show sh35 a0 a1 a2 w R = denF Try.prog ent false Try.f35 (.seq (.ops [0, 1, 2]) (.seq (.ops [6]) .leaf)) (Try.f35.body.getD .skip) [a0, a1, a2] w R by kernel_rfl) h)

/-! ### 36: (*handbill/hblref11.Store).Prune -/
def sh36 (a0 a1 : Value) (w : World) (R : Value → World → Prop) : Prop :=
 RunA Try.prog (nilV a0) fun t11_1 =>
 RunA Try.prog (Instr.fieldAt 63 t11_1 1) fun t12_2 =>
 RunW Try.prog (Instr.loadAt 3 t12_2) w fun t13_3 =>
 RunA Try.prog (bin .leq 3 (.tmp 9) (.tmp 13) a1 t13_3) fun t14_4 =>
 IfB t14_4 (
 R (.int .i64 0) w) (
 RunA Try.prog (bin .gtr 3 (.tmp 16) (.const (.int .i64 1099511627776)) a1 (.int .i64 1099511627776)) fun t17_5 =>
 IfB t17_5 (
 R (.int .i64 0) w) (
 RunA Try.prog (nilV a0) fun t21_6 =>
 RunA Try.prog (Instr.fieldAt 63 t21_6 1) fun t22_7 =>
 RunU Try.prog (Instr.storeAt 3 t22_7 a1) w fun w =>
 lp 3 (fun n_11 t5_8 t6_9 t7_10 w =>
 RunA Try.prog (nilV a0) fun t25_12 =>
 RunA Try.prog (Instr.fieldAt 63 t25_12 0) fun t26_13 =>
 RunW Try.prog (Instr.loadAt 61 t26_13) w fun t27_14 =>
 RunW Try.prog (Builtin.len_ #[61] 3 #[t27_14]) w fun t28_15 =>
 RunA Try.prog (bin .lss 3 (.tmp 23) (.tmp 28) t7_10 t28_15) fun t29_16 =>
 IfB t29_16 (
 RunA Try.prog (nilV a0) fun t33_17 =>
 RunA Try.prog (Instr.fieldAt 63 t33_17 0) fun t34_18 =>
 RunW Try.prog (Instr.loadAt 61 t34_18) w fun t35_19 =>
 RunA Try.prog (Instr.indexAt 61 t35_19 t7_10) fun t37_20 =>
 RunA Try.prog (Instr.fieldAt 130 t37_20 1) fun t38_21 =>
 RunW Try.prog (Instr.loadAt 65 t38_21) w fun t39_22 =>
 jn 6 (fun t0_23 t1_24 t5_25 t6_26 t7_27 t8_28 w =>
 jn 6 (fun t0_30 t1_31 t5_32 t6_33 t7_34 t8_35 w =>
 jn 5 (fun t0_37 t1_38 t5_39 t6_40 t7_41 w =>
 RunA Try.prog (bin .add 3 (.tmp 30) (.const (.int .i64 1)) t7_41 (.int .i64 1)) fun t31_43 =>
 (t0_37 : Value) = a0 ∧ ((t1_38 : Value) = a1 ∧ (n_11 t5_39 t6_40 t31_43 w))) fun j_42 =>
 RunW Try.prog (Builtin.len_ #[65] 3 #[t8_35]) w fun t77_44 =>
 RunA Try.prog (bin .gtr 3 (.tmp 77) (.const (.int .i64 0)) t77_44 (.int .i64 0)) fun t78_45 =>
 IfB t78_45 (
 RunA Try.prog (nilV t0_30) fun t81_46 =>
 RunA Try.prog (Instr.fieldAt 63 t81_46 0) fun t82_47 =>
 RunW Try.prog (Instr.loadAt 61 t82_47) w fun t83_48 =>
 RunA Try.prog (Instr.indexAt 61 t83_48 t7_34) fun t85_49 =>
 RunA Try.prog (Instr.fieldAt 130 t85_49 0) fun t86_50 =>
 RunW Try.prog (Instr.loadAt 9 t86_50) w fun t87_51 =>
 RunV Try.prog (Instr.build 130 #[(0, t87_51), (1, t8_35)]) w fun t89_52 w =>
 RunV Try.prog (Instr.buildSlice 61 1 #[(0, t89_52)]) w fun t90_53 w =>
 RunV Try.prog (Builtin.append_ #[61, 61] 61 #[t6_33, t90_53]) w fun t91_54 w =>
 j_42 t0_30 t1_31 t5_32 t91_54 t7_34 w) (
 j_42 t0_30 t1_31 t5_32 t6_33 t7_34 w)) fun j_36 =>
 RunW Try.prog (Builtin.len_ #[65] 3 #[t8_28]) w fun t56_55 =>
 RunA Try.prog (bin .gtr 3 (.tmp 56) (.const (.int .i64 0)) t56_55 (.int .i64 0)) fun t57_56 =>
 IfB t57_56 (
 RunA Try.prog (Instr.indexAt 65 t8_28 (.int .i64 0)) fun t60_57 =>
 RunA Try.prog (Instr.fieldAt 128 t60_57 2) fun t61_58 =>
 RunW Try.prog (Instr.loadAt 4 t61_58) w fun t62_59 =>
 IfB t62_59 (
 RunA Try.prog (Instr.indexAt 65 t8_28 (.int .i64 0)) fun t66_60 =>
 RunA Try.prog (Instr.fieldAt 128 t66_60 0) fun t67_61 =>
 RunW Try.prog (Instr.loadAt 3 t67_61) w fun t68_62 =>
 RunA Try.prog (bin .leq 3 (.tmp 68) (.tmp 69) t68_62 t1_24) fun t70_63 =>
 IfB t70_63 (
 RunA Try.prog (Instr.sliceAt 65 t8_28 (some (.int .i64 1)) none none) fun t73_64 =>
 RunA Try.prog (bin .add 3 (.tmp 74) (.const (.int .i64 1)) t5_25 (.int .i64 1)) fun t75_65 =>
 j_36 t0_23 t1_24 t75_65 t6_26 t7_27 t73_64 w) (
 j_36 t0_23 t1_24 t5_25 t6_26 t7_27 t8_28 w)) (
 j_36 t0_23 t1_24 t5_25 t6_26 t7_27 t8_28 w)) (
 j_36 t0_23 t1_24 t5_25 t6_26 t7_27 t8_28 w)) fun j_29 =>
 lp 2 (fun n_68 t5_66 t8_67 w =>
 RunW Try.prog (Builtin.len_ #[65] 3 #[t8_67]) w fun t41_69 =>
 RunA Try.prog (bin .gtr 3 (.tmp 41) (.const (.int .i64 1)) t41_69 (.int .i64 1)) fun t42_70 =>
 IfB t42_70 (
 RunA Try.prog (Instr.indexAt 65 t8_67 (.int .i64 1)) fun t45_71 =>
 RunA Try.prog (Instr.fieldAt 128 t45_71 0) fun t46_72 =>
 RunW Try.prog (Instr.loadAt 3 t46_72) w fun t47_73 =>
 RunA Try.prog (bin .leq 3 (.tmp 47) (.tmp 48) t47_73 a1) fun t49_74 =>
 IfB t49_74 (
 RunA Try.prog (Instr.sliceAt 65 t8_67 (some (.int .i64 1)) none none) fun t52_75 =>
 RunA Try.prog (bin .add 3 (.tmp 53) (.const (.int .i64 1)) t5_66 (.int .i64 1)) fun t54_76 =>
 (a0 : Value) = a0 ∧ ((a1 : Value) = a1 ∧ ((t6_9 : Value) = t6_9 ∧ ((t7_10 : Value) = t7_10 ∧ (n_68 t54_76 t52_75 w))))) (
 j_29 a0 a1 t5_66 t6_9 t7_10 t8_67 w)) (
 j_29 a0 a1 t5_66 t6_9 t7_10 t8_67 w)) [t5_8, t39_22] w) (
 RunA Try.prog (nilV a0) fun t94_77 =>
 RunA Try.prog (Instr.fieldAt 63 t94_77 0) fun t95_78 =>
 RunU Try.prog (Instr.storeAt 61 t95_78 t6_9) w fun w =>
 R t5_8 w)) [(.int .i64 0), (.slice none 0 0), (.int .i64 0)] w))
theorem sh36_calls {a0 a1 : Value} {w : World} {R : Value → World → Prop} (h : sh36 a0 a1 w R) : CallF Try.prog 36 #[a0, a1] w R :=
  calls_of_denF (mk := false) (args := [a0, a1]) (an := (.seq (.ops [0, 1]) (.seq (.seq (.ops [0, 1, 18]) (.cond (.seq (.ops [4]) .leaf) .leaf)) (.seq (.ops [0, 1]) (.seq (.ops [0, 1, 5]) (.seq (.ops [0, 1, 5, 6]) (.seq (.seq (.ops [0, 1, 5, 6, 7]) (.blk (.loop [0, 1] [5, 6, 7] (.seq (.seq (.ops [0, 1, 5, 6, 7, 29]) (.cond .leaf .leaf)) (.seq (.blk (.seq (.ops [0, 1, 5, 6, 7, 8]) (.seq (.join [0, 1, 5, 6, 7, 8] (.blk (.loop [0, 1, 6, 7] [5, 8] (.seq (.seq (.ops [0, 1, 5, 6, 7, 8, 50]) (.cond .leaf .leaf)) (.blk (.ops [0, 1, 5, 6, 7, 8])))))) (.seq (.join [0, 1, 5, 6, 7, 8] (.seq (.ops [0, 1, 5, 6, 7, 8, 71]) (.cond (.ops [0, 1, 5, 6, 7, 8]) .leaf))) (.join [0, 1, 5, 6, 7] (.seq (.ops [0, 1, 5, 6, 7, 8, 78]) (.cond (.ops [0, 1, 5, 6, 7]) .leaf))))))) (.ops [0, 1, 5, 6, 7])))))) (.seq (.ops [5]) (.seq (.ops [4]) .leaf))))))))) (c := Try.f36.body.getD .skip) hent Try.func36 rfl (Nat.le_of_ble_eq_true (by kernel_rfl))
    (Eq.mp (show sh36 a0 a1 w R = denF Try.prog ent false Try.f36 (.seq (.ops [0, 1]) (.seq (.seq (.ops [0, 1, 18]) (.cond (.seq (.ops [4]) .leaf) .leaf)) (.seq (.ops [0, 1]) (.seq (.ops [0, 1, 5]) (.seq (.ops [0, 1, 5, 6]) (.seq (.seq (.ops [0, 1, 5, 6, 7]) (.blk (.loop [0, 1] [5, 6, 7] (.seq (.seq (.ops [0, 1, 5, 6, 7, 29]) (.cond .leaf .leaf)) (.seq (.blk (.seq (.ops [0, 1, 5, 6, 7, 8]) (.seq (.join [0, 1, 5, 6, 7, 8] (.blk (.loop [0, 1, 6, 7] [5, 8] (.seq (.seq (.ops [0, 1, 5, 6, 7, 8, 50]) (.cond .leaf .leaf)) (.blk (.ops [0, 1, 5, 6, 7, 8])))))) (.seq (.join [0, 1, 5, 6, 7, 8] (.seq (.ops [0, 1, 5, 6, 7, 8, 71]) (.cond (.ops [0, 1, 5, 6, 7, 8]) .leaf))) (.join [0, 1, 5, 6, 7] (.seq (.ops [0, 1, 5, 6, 7, 8, 78]) (.cond (.ops [0, 1, 5, 6, 7]) .leaf))))))) (.ops [0, 1, 5, 6, 7])))))) (.seq (.ops [5]) (.seq (.ops [4]) .leaf)))))))) (Try.f36.body.getD .skip) [a0, a1] w R by kernel_rfl) h)

/-! ### 37: (*handbill/vers.Store[string]).Copy -/
def sh37 (a0 : Value) (w : World) (R : Value → World → Prop) : Prop :=
 drw (fun S_1 w =>
 RunA Try.prog (nilV a0) fun t4_2 =>
 RunA Try.prog (Instr.fieldAt 114 t4_2 0) fun t5_3 =>
 RunS Try.prog S_1 (Instr.loadAt 111 t5_3) fun t6_4 =>
 RunA Try.prog (nilV a0) fun t9_5 =>
 RunA Try.prog (Instr.fieldAt 114 t9_5 1) fun t10_6 =>
 RunS Try.prog S_1 (Instr.loadAt 3 t10_6) fun t11_7 =>
 CallF Try.prog 87 #[t6_4] w fun t7_8 w =>
 S_1 w ∧ (
 RunV Try.prog (Instr.build 114 #[(0, t7_8), (1, t11_7)]) w fun t12_9 w =>
 RunV Try.prog (Instr.box 114 t12_9) w fun t13_10 w =>
 R t13_10 w)) w
theorem sh37_calls {a0 : Value} {w : World} {R : Value → World → Prop} (h : sh37 a0 w R) : CallF Try.prog 37 #[a0] w R :=
  calls_of_denF (mk := false) (args := [a0]) (an := (.seq (.ops [0]) (.seq (.draw (.q 0 (.q 1 (.q 2 (.q 3 (.q 5 (.q 6 (.q 7 (.q 8 (.one 4 (.one 9 (.one 10 (.q 11 .fin)))))))))))) [2]) .leaf))) (c := Try.f37.body.getD .skip) hent Try.func37 rfl (Nat.le_of_ble_eq_true (by kernel_rfl))
    (Eq.mp (show sh37 a0 w R = denF Try.prog ent false Try.f37 (.seq (.ops [0]) (.seq (.draw (.q 0 (.q 1 (.q 2 (.q 3 (.q 5 (.q 6 (.q 7 (.q 8 (.one 4 (.one 9 (.one 10 (.q 11 .fin)))))))))))) [2]) .leaf)) (Try.f37.body.getD .skip) [a0] w R by kernel_rfl) h)

/-! ### 38: (*handbill/hblref11.Store).Count -/
def sh38 (a0 : Value) (w : World) (R : Value → World → Prop) : Prop :=
 lp 2 (fun n_3 t3_1 t4_2 w =>
 RunA Try.prog (nilV a0) fun t7_4 =>
 RunA Try.prog (Instr.fieldAt 63 t7_4 0) fun t8_5 =>
 RunW Try.prog (Instr.loadAt 61 t8_5) w fun t9_6 =>
 RunW Try.prog (Builtin.len_ #[61] 3 #[t9_6]) w fun t10_7 =>
 RunA Try.prog (bin .lss 3 (.tmp 5) (.tmp 10) t4_2 t10_7) fun t11_8 =>
 IfB t11_8 (
 RunA Try.prog (nilV a0) fun t16_9 =>
 RunA Try.prog (Instr.fieldAt 63 t16_9 0) fun t17_10 =>
 RunW Try.prog (Instr.loadAt 61 t17_10) w fun t18_11 =>
 RunA Try.prog (Instr.indexAt 61 t18_11 t4_2) fun t20_12 =>
 RunA Try.prog (Instr.fieldAt 130 t20_12 1) fun t21_13 =>
 RunW Try.prog (Instr.loadAt 65 t21_13) w fun t22_14 =>
 RunW Try.prog (Builtin.len_ #[65] 3 #[t22_14]) w fun t23_15 =>
 RunA Try.prog (bin .add 3 (.tmp 14) (.tmp 23) t3_1 t23_15) fun t24_16 =>
 RunA Try.prog (bin .add 3 (.tmp 12) (.const (.int .i64 1)) t4_2 (.int .i64 1)) fun t13_17 =>
 (a0 : Value) = a0 ∧ (n_3 t24_16 t13_17 w)) (
 R t3_1 w)) [(.int .i64 0), (.int .i64 0)] w
theorem sh38_calls {a0 : Value} {w : World} {R : Value → World → Prop} (h : sh38 a0 w R) : CallF Try.prog 38 #[a0] w R :=
  calls_of_denF (mk := false) (args := [a0]) (an := (.seq (.ops [0]) (.seq (.ops [0, 3]) (.seq (.seq (.ops [0, 3, 4]) (.blk (.loop [0] [3, 4] (.seq (.seq (.ops [0, 3, 4, 11]) (.cond .leaf .leaf)) (.seq (.blk (.ops [0, 3, 4])) (.ops [0, 3, 4])))))) (.seq (.ops [2]) .leaf))))) (c := Try.f38.body.getD .skip) hent Try.func38 rfl (Nat.le_of_ble_eq_true (by kernel_rfl))
    (Eq.mp (show sh38 a0 w R = denF Try.prog ent false Try.f38 (.seq (.ops [0]) (.seq (.ops [0, 3]) (.seq (.seq (.ops [0, 3, 4]) (.blk (.loop [0] [3, 4] (.seq (.seq (.ops [0, 3, 4, 11]) (.cond .leaf .leaf)) (.seq (.blk (.ops [0, 3, 4])) (.ops [0, 3, 4])))))) (.seq (.ops [2]) .leaf)))) (Try.f38.body.getD .skip) [a0] w R by kernel_rfl) h)

/-! ### 39: (*handbill/hblref11.Store).Low -/
def sh39 (a0 : Value) (w : World) (R : Value → World → Prop) : Prop :=
 RunA Try.prog (nilV a0) fun t4_1 =>
 RunA Try.prog (Instr.fieldAt 63 t4_1 1) fun t5_2 =>
 RunW Try.prog (Instr.loadAt 3 t5_2) w fun t6_3 =>
 R t6_3 w
theorem sh39_calls {a0 : Value} {w : World} {R : Value → World → Prop} (h : sh39 a0 w R) : CallF Try.prog 39 #[a0] w R :=
  calls_of_denF (mk := false) (args := [a0]) (an := (.seq (.ops [0]) (.seq (.ops [2]) .leaf))) (c := Try.f39.body.getD .skip) hent Try.func39 rfl (Nat.le_of_ble_eq_true (by kernel_rfl))
    (Eq.mp (show sh39 a0 w R = denF Try.prog ent false Try.f39 (.seq (.ops [0]) (.seq (.ops [2]) .leaf)) (Try.f39.body.getD .skip) [a0] w R by kernel_rfl) h)

/-! ### 40: (*handbill/hblref11.Store).Last -/
def sh40 (a0 a1 : Value) (w : World) (R : Value → World → Prop) : Prop :=
 CallF Try.prog 42 #[a0, a1] w fun t8_1 w =>
 RunW Try.prog (Builtin.len_ #[65] 3 #[t8_1]) w fun t10_2 =>
 RunW Try.prog (bin .eql 3 (.tmp 10) (.const (.int .i64 0)) t10_2 (.int .i64 0)) w fun t11_3 =>
 IfB t11_3 (
 R (.int .i64 0) w) (
 RunW Try.prog (Builtin.len_ #[65] 3 #[t8_1]) w fun t14_4 =>
 RunA Try.prog (bin .sub 3 (.tmp 14) (.const (.int .i64 1)) t14_4 (.int .i64 1)) fun t15_5 =>
 RunA Try.prog (Instr.indexAt 65 t8_1 t15_5) fun t16_6 =>
 RunA Try.prog (Instr.fieldAt 128 t16_6 0) fun t17_7 =>
 RunW Try.prog (Instr.loadAt 3 t17_7) w fun t18_8 =>
 R t18_8 w)
theorem sh40_calls {a0 a1 : Value} {w : World} {R : Value → World → Prop} (h : sh40 a0 a1 w R) : CallF Try.prog 40 #[a0, a1] w R :=
  calls_of_denF (mk := false) (args := [a0, a1]) (an := (.seq (.ops [0, 1]) (.seq (.ops [5]) (.seq (.seq (.ops [5, 11]) (.cond (.seq (.ops [4]) .leaf) .leaf)) (.seq (.ops [4]) .leaf))))) (c := Try.f40.body.getD .skip) hent Try.func40 rfl (Nat.le_of_ble_eq_true (by kernel_rfl))
    (Eq.mp (show sh40 a0 a1 w R = denF Try.prog ent false Try.f40 (.seq (.ops [0, 1]) (.seq (.ops [5]) (.seq (.seq (.ops [5, 11]) (.cond (.seq (.ops [4]) .leaf) .leaf)) (.seq (.ops [4]) .leaf)))) (Try.f40.body.getD .skip) [a0, a1] w R by kernel_rfl) h)

/-! ### 41: handbill/hbllaw11.chain -/
def sh41 (a0 a1 : Value) (w : World) (R : Value → World → Prop) : Prop :=
 RunW Try.prog (Builtin.len_ #[55] 3 #[a0]) w fun t7_1 =>
 RunW Try.prog (Builtin.len_ #[65] 3 #[a1]) w fun t9_2 =>
 RunW Try.prog (bin .neq 3 (.tmp 7) (.tmp 9) t7_1 t9_2) w fun t10_3 =>
 IfB t10_3 (
 R (.bool false) w) (
 lp 1 (fun n_5 t5_4 w =>
 RunW Try.prog (Builtin.len_ #[55] 3 #[a0]) w fun t13_6 =>
 RunA Try.prog (bin .lss 3 (.tmp 11) (.tmp 13) t5_4 t13_6) fun t14_7 =>
 IfB t14_7 (
 drw (fun S_8 w =>
 RunA Try.prog (Instr.indexAt 55 a0 t5_4) fun t19_9 =>
 RunA Try.prog (Instr.fieldAt 58 t19_9 0) fun t20_10 =>
 RunS Try.prog S_8 (Instr.loadAt 3 t20_10) fun t21_11 =>
 RunA Try.prog (Instr.indexAt 65 a1 t5_4) fun t24_12 =>
 RunA Try.prog (Instr.fieldAt 128 t24_12 0) fun t25_13 =>
 RunS Try.prog S_8 (Instr.loadAt 3 t25_13) fun t26_14 =>
 RunS Try.prog S_8 (bin .neq 3 (.tmp 21) (.tmp 26) t21_11 t26_14) fun t27_15 =>
 IfB t27_15 (
 R (.bool false) w) (
 RunA Try.prog (Instr.indexAt 55 a0 t5_4) fun t31_16 =>
 RunA Try.prog (Instr.fieldAt 58 t31_16 1) fun t32_17 =>
 RunS Try.prog S_8 (Instr.loadAt 9 t32_17) fun t33_18 =>
 RunA Try.prog (Instr.indexAt 65 a1 t5_4) fun t36_19 =>
 RunA Try.prog (Instr.fieldAt 128 t36_19 1) fun t37_20 =>
 RunS Try.prog S_8 (Instr.loadAt 9 t37_20) fun t38_21 =>
 RunS Try.prog S_8 (bin .neq 9 (.tmp 33) (.tmp 38) t33_18 t38_21) fun t39_22 =>
 IfB t39_22 (
 R (.bool false) w) (
 RunA Try.prog (Instr.indexAt 55 a0 t5_4) fun t44_23 =>
 RunA Try.prog (Instr.fieldAt 58 t44_23 2) fun t45_24 =>
 RunS Try.prog S_8 (Instr.loadAt 4 t45_24) fun t46_25 =>
 RunA Try.prog (Instr.indexAt 65 a1 t5_4) fun t49_26 =>
 RunA Try.prog (Instr.fieldAt 128 t49_26 2) fun t50_27 =>
 RunS Try.prog S_8 (Instr.loadAt 4 t50_27) fun t51_28 =>
 RunS Try.prog S_8 (bin .neq 4 (.tmp 46) (.tmp 51) t46_25 t51_28) fun t52_29 =>
 IfB t52_29 (
 R (.bool false) w) (
 RunA Try.prog (bin .add 3 (.tmp 15) (.const (.int .i64 1)) t5_4 (.int .i64 1)) fun t16_30 =>
 (a0 : Value) = a0 ∧ ((a1 : Value) = a1 ∧ (n_5 t16_30 w)))))) w) (
 R (.bool true) w)) [(.int .i64 0)] w)
theorem sh41_calls {a0 a1 : Value} {w : World} {R : Value → World → Prop} (h : sh41 a0 a1 w R) : CallF Try.prog 41 #[a0, a1] w R :=
  calls_of_denF (mk := false) (args := [a0, a1]) (an := (.seq (.ops [0, 1]) (.seq (.seq (.ops [0, 1, 10]) (.cond (.seq (.ops [4]) .leaf) .leaf)) (.seq (.seq (.ops [0, 1, 5]) (.blk (.loop [0, 1] [5] (.seq (.seq (.ops [0, 1, 5, 14]) (.cond .leaf .leaf)) (.seq (.blk (.seq (.draw (.q 0 (.q 1 (.q 2 (.q 3 (.q 4 (.q 5 (.q 6 (.q 7 (.q 8 (.q 9 (.q 10 (.q 11 (.sp 12 (.q 12 (.q 13 (.q 14 (.q 15 (.q 16 (.q 17 (.q 18 (.q 19 (.q 20 (.q 21 (.q 22 (.q 23 (.q 24 (.q 25 (.q 26 (.q 27 (.q 28 (.q 29 (.q 30 (.q 31 (.q 32 (.q 33 (.q 34 (.q 35 (.q 36 .fin))))))))))))))))))))))))) (.q 12 (.q 13 (.q 14 (.q 15 (.q 16 (.q 17 (.q 18 (.q 19 (.q 20 (.q 21 (.q 22 (.q 23 (.q 24 (.sp 25 (.q 25 (.q 26 (.q 27 (.q 28 (.q 29 (.q 30 (.q 31 (.q 32 (.q 33 (.q 34 (.q 35 (.q 36 .fin)))))))))))) (.q 25 (.q 26 (.q 27 (.q 28 (.q 29 (.q 30 (.q 31 (.q 32 (.q 33 (.q 34 (.q 35 (.q 36 .fin))))))))))))))))))))))))))))))))))))))) [0, 1, 5, 53]) (.cond (.seq (.ops [4]) .leaf) .leaf))) (.ops [0, 1, 5])))))) (.seq (.ops [4]) .leaf))))) (c := Try.f41.body.getD .skip) hent Try.func41 rfl (Nat.le_of_ble_eq_true (by kernel_rfl))
    (Eq.mp (show sh41 a0 a1 w R = denF Try.prog ent false Try.f41 (.seq (.ops [0, 1]) (.seq (.seq (.ops [0, 1, 10]) (.cond (.seq (.ops [4]) .leaf) .leaf)) (.seq (.seq (.ops [0, 1, 5]) (.blk (.loop [0, 1] [5] (.seq (.seq (.ops [0, 1, 5, 14]) (.cond .leaf .leaf)) (.seq (.blk (.seq (.draw (.q 0 (.q 1 (.q 2 (.q 3 (.q 4 (.q 5 (.q 6 (.q 7 (.q 8 (.q 9 (.q 10 (.q 11 (.sp 12 (.q 12 (.q 13 (.q 14 (.q 15 (.q 16 (.q 17 (.q 18 (.q 19 (.q 20 (.q 21 (.q 22 (.q 23 (.q 24 (.q 25 (.q 26 (.q 27 (.q 28 (.q 29 (.q 30 (.q 31 (.q 32 (.q 33 (.q 34 (.q 35 (.q 36 .fin))))))))))))))))))))))))) (.q 12 (.q 13 (.q 14 (.q 15 (.q 16 (.q 17 (.q 18 (.q 19 (.q 20 (.q 21 (.q 22 (.q 23 (.q 24 (.sp 25 (.q 25 (.q 26 (.q 27 (.q 28 (.q 29 (.q 30 (.q 31 (.q 32 (.q 33 (.q 34 (.q 35 (.q 36 .fin)))))))))))) (.q 25 (.q 26 (.q 27 (.q 28 (.q 29 (.q 30 (.q 31 (.q 32 (.q 33 (.q 34 (.q 35 (.q 36 .fin))))))))))))))))))))))))))))))))))))))) [0, 1, 5, 53]) (.cond (.seq (.ops [4]) .leaf) .leaf))) (.ops [0, 1, 5])))))) (.seq (.ops [4]) .leaf)))) (Try.f41.body.getD .skip) [a0, a1] w R by kernel_rfl) h)

/-! ### 42: (*handbill/hblref11.Store).Chain -/
def sh42 (a0 a1 : Value) (w : World) (R : Value → World → Prop) : Prop :=
 CallF Try.prog 88 #[a0, a1] w fun t10_1 w =>
 RunA Try.prog (Instr.extract t10_1 0) fun t11_2 =>
 RunA Try.prog (Instr.extract t10_1 1) fun t12_3 =>
 RunA Try.prog (Op.unary .not t12_3) fun t14_4 =>
 IfB t14_4 (
 R (.slice none 0 0) w) (
 RunV Try.prog (Instr.buildSlice 65 0 #[]) w fun t15_5 w =>
 RunA Try.prog (nilV a0) fun t17_6 =>
 RunA Try.prog (Instr.fieldAt 63 t17_6 0) fun t18_7 =>
 RunW Try.prog (Instr.loadAt 61 t18_7) w fun t19_8 =>
 RunA Try.prog (Instr.indexAt 61 t19_8 t11_2) fun t21_9 =>
 RunA Try.prog (Instr.fieldAt 130 t21_9 1) fun t22_10 =>
 RunW Try.prog (Instr.loadAt 65 t22_10) w fun t23_11 =>
 RunV Try.prog (Builtin.append_ #[65, 65] 65 #[t15_5, t23_11]) w fun t24_12 w =>
 R t24_12 w)
theorem sh42_calls {a0 a1 : Value} {w : World} {R : Value → World → Prop} (h : sh42 a0 a1 w R) : CallF Try.prog 42 #[a0, a1] w R :=
  calls_of_denF (mk := false) (args := [a0, a1]) (an := (.seq (.ops [0, 1]) (.seq (.ops [0, 5, 6]) (.seq (.seq (.ops [0, 5, 14]) (.cond (.seq (.ops [4]) .leaf) .leaf)) (.seq (.ops [4]) .leaf))))) (c := Try.f42.body.getD .skip) hent Try.func42 rfl (Nat.le_of_ble_eq_true (by kernel_rfl))
    (Eq.mp (show sh42 a0 a1 w R = denF Try.prog ent false Try.f42 (.seq (.ops [0, 1]) (.seq (.ops [0, 5, 6]) (.seq (.seq (.ops [0, 5, 14]) (.cond (.seq (.ops [4]) .leaf) .leaf)) (.seq (.ops [4]) .leaf)))) (Try.f42.body.getD .skip) [a0, a1] w R by kernel_rfl) h)

/-! ### 43: (*handbill/hblref11.Store).Get -/
def sh43 (a0 a1 a2 : Value) (w : World) (R : Value → World → Prop) : Prop :=
 CallF Try.prog 88 #[a0, a1] w fun t13_1 w =>
 RunA Try.prog (Instr.extract t13_1 0) fun t14_2 =>
 RunA Try.prog (Instr.extract t13_1 1) fun t15_3 =>
 RunA Try.prog (Op.unary .not t15_3) fun t17_4 =>
 IfB t17_4 (
 R (.tuple #[(.string ⟨#[]⟩), (.bool false)]) w) (
 RunA Try.prog (nilV a0) fun t19_5 =>
 RunA Try.prog (Instr.fieldAt 63 t19_5 0) fun t20_6 =>
 RunW Try.prog (Instr.loadAt 61 t20_6) w fun t21_7 =>
 RunA Try.prog (Instr.indexAt 61 t21_7 t14_2) fun t23_8 =>
 RunA Try.prog (Instr.fieldAt 130 t23_8 1) fun t24_9 =>
 RunW Try.prog (Instr.loadAt 65 t24_9) w fun t25_10 =>
 CallF Try.prog 89 #[t25_10, a2] w fun t27_11 w =>
 RunA Try.prog (Instr.extract t27_11 0) fun t28_12 =>
 RunA Try.prog (Instr.extract t27_11 1) fun t29_13 =>
 R (.tuple #[t28_12, t29_13]) w)
theorem sh43_calls {a0 a1 a2 : Value} {w : World} {R : Value → World → Prop} (h : sh43 a0 a1 a2 w R) : CallF Try.prog 43 #[a0, a1, a2] w R :=
  calls_of_denF (mk := false) (args := [a0, a1, a2]) (an := (.seq (.ops [0, 1, 2]) (.seq (.ops [0, 2, 8, 9]) (.seq (.seq (.ops [0, 2, 8, 17]) (.cond (.seq (.ops [6, 7]) .leaf) .leaf)) (.seq (.ops [6, 7]) .leaf))))) (c := Try.f43.body.getD .skip) hent Try.func43 rfl (Nat.le_of_ble_eq_true (by kernel_rfl))
    (Eq.mp (show sh43 a0 a1 a2 w R = denF Try.prog ent false Try.f43 (.seq (.ops [0, 1, 2]) (.seq (.ops [0, 2, 8, 9]) (.seq (.seq (.ops [0, 2, 8, 17]) (.cond (.seq (.ops [6, 7]) .leaf) .leaf)) (.seq (.ops [6, 7]) .leaf)))) (Try.f43.body.getD .skip) [a0, a1, a2] w R by kernel_rfl) h)

/-! ### 44: (*handbill/hblref11.Store).Scan -/
def sh44 (a0 a1 a2 a3 : Value) (w : World) (R : Value → World → Prop) : Prop :=
 CallF Try.prog 88 #[a0, a1] w fun t17_1 w =>
 RunA Try.prog (Instr.extract t17_1 0) fun t18_2 =>
 RunA Try.prog (Instr.extract t17_1 1) fun t19_3 =>
 jn 1 (fun t9_4 w =>
 R t9_4 w) fun j_5 =>
 lp 2 (fun n_8 t9_6 t10_7 w =>
 jn 5 (fun t0_9 t2_10 t3_11 t9_12 t10_13 w =>
 RunA Try.prog (nilV t0_9) fun t47_15 =>
 RunA Try.prog (Instr.fieldAt 63 t47_15 0) fun t48_16 =>
 RunW Try.prog (Instr.loadAt 61 t48_16) w fun t49_17 =>
 RunA Try.prog (Instr.indexAt 61 t49_17 t10_13) fun t51_18 =>
 RunA Try.prog (Instr.fieldAt 130 t51_18 1) fun t52_19 =>
 RunW Try.prog (Instr.loadAt 65 t52_19) w fun t53_20 =>
 CallF Try.prog 89 #[t53_20, t3_11] w fun t55_21 w =>
 RunA Try.prog (Instr.extract t55_21 0) fun t56_22 =>
 RunA Try.prog (Instr.extract t55_21 1) fun t57_23 =>
 jn 5 (fun t0_24 t2_25 t3_26 t9_27 t10_28 w =>
 RunA Try.prog (bin .add 3 (.tmp 43) (.const (.int .i64 1)) t10_28 (.int .i64 1)) fun t44_30 =>
 (t0_24 : Value) = a0 ∧ ((t2_25 : Value) = a2 ∧ ((t3_26 : Value) = a3 ∧ (n_8 t9_27 t44_30 w)))) fun j_29 =>
 IfB t57_23 (
 RunA Try.prog (nilV t0_9) fun t61_31 =>
 RunA Try.prog (Instr.fieldAt 63 t61_31 0) fun t62_32 =>
 RunW Try.prog (Instr.loadAt 61 t62_32) w fun t63_33 =>
 RunA Try.prog (Instr.indexAt 61 t63_33 t10_13) fun t65_34 =>
 RunA Try.prog (Instr.fieldAt 130 t65_34 0) fun t66_35 =>
 RunW Try.prog (Instr.loadAt 9 t66_35) w fun t67_36 =>
 RunV Try.prog (Instr.build 50 #[(0, t67_36), (1, t56_22)]) w fun t69_37 w =>
 RunV Try.prog (Instr.buildSlice 41 1 #[(0, t69_37)]) w fun t70_38 w =>
 RunV Try.prog (Builtin.append_ #[41, 41] 41 #[t9_12, t70_38]) w fun t71_39 w =>
 j_29 t0_9 t2_10 t3_11 t71_39 t10_13 w) (
 j_29 t0_9 t2_10 t3_11 t9_12 t10_13 w)) fun j_14 =>
 RunA Try.prog (nilV a0) fun t22_40 =>
 RunA Try.prog (Instr.fieldAt 63 t22_40 0) fun t23_41 =>
 RunW Try.prog (Instr.loadAt 61 t23_41) w fun t24_42 =>
 RunW Try.prog (Builtin.len_ #[61] 3 #[t24_42]) w fun t25_43 =>
 RunA Try.prog (bin .lss 3 (.tmp 20) (.tmp 25) t10_7 t25_43) fun t26_44 =>
 IfB t26_44 (
 RunW Try.prog (bin .eql 9 (.tmp 28) (.const (.string ⟨#[]⟩)) a2 (.string ⟨#[]⟩)) w fun t29_45 =>
 IfB t29_45 (
 j_14 a0 a2 a3 t9_6 t10_7 w) (
 RunA Try.prog (nilV a0) fun t32_46 =>
 RunA Try.prog (Instr.fieldAt 63 t32_46 0) fun t33_47 =>
 RunW Try.prog (Instr.loadAt 61 t33_47) w fun t34_48 =>
 RunA Try.prog (Instr.indexAt 61 t34_48 t10_7) fun t36_49 =>
 RunA Try.prog (Instr.fieldAt 130 t36_49 0) fun t37_50 =>
 RunW Try.prog (Instr.loadAt 9 t37_50) w fun t38_51 =>
 RunA Try.prog (bin .lss 9 (.tmp 38) (.tmp 39) t38_51 a2) fun t40_52 =>
 IfB t40_52 (
 j_14 a0 a2 a3 t9_6 t10_7 w) (
 j_5 t9_6 w))) (
 j_5 t9_6 w)) [(.slice none 0 0), t18_2] w
theorem sh44_calls {a0 a1 a2 a3 : Value} {w : World} {R : Value → World → Prop} (h : sh44 a0 a1 a2 a3 w R) : CallF Try.prog 44 #[a0, a1, a2, a3] w R :=
  calls_of_denF (mk := false) (args := [a0, a1, a2, a3]) (an := (.seq (.ops [0, 1, 2, 3]) (.seq (.ops [0, 1, 2, 3, 9]) (.seq (.ops [0, 2, 3, 9, 10]) (.seq (.join [9] (.blk (.loop [0, 2, 3] [9, 10] (.seq (.join [0, 2, 3, 9, 10] (.seq (.ops [0, 2, 3, 9, 10, 42]) (.cond .leaf .leaf))) (.seq (.blk (.seq (.ops [0, 2, 3, 9, 10, 12, 13]) (.join [0, 2, 3, 9, 10] (.seq (.ops [0, 2, 3, 9, 10, 12, 58]) (.cond (.ops [0, 2, 3, 9, 10]) .leaf))))) (.ops [0, 2, 3, 9, 10])))))) (.seq (.ops [8]) .leaf)))))) (c := Try.f44.body.getD .skip) hent Try.func44 rfl (Nat.le_of_ble_eq_true (by kernel_rfl))
    (Eq.mp (show sh44 a0 a1 a2 a3 w R = denF Try.prog ent false Try.f44 (.seq (.ops [0, 1, 2, 3]) (.seq (.ops [0, 1, 2, 3, 9]) (.seq (.ops [0, 2, 3, 9, 10]) (.seq (.join [9] (.blk (.loop [0, 2, 3] [9, 10] (.seq (.join [0, 2, 3, 9, 10] (.seq (.ops [0, 2, 3, 9, 10, 42]) (.cond .leaf .leaf))) (.seq (.blk (.seq (.ops [0, 2, 3, 9, 10, 12, 13]) (.join [0, 2, 3, 9, 10] (.seq (.ops [0, 2, 3, 9, 10, 12, 58]) (.cond (.ops [0, 2, 3, 9, 10]) .leaf))))) (.ops [0, 2, 3, 9, 10])))))) (.seq (.ops [8]) .leaf))))) (Try.f44.body.getD .skip) [a0, a1, a2, a3] w R by kernel_rfl) h)

/-! ### 67: handbill/omap.New[string,[]handbill/vers.Version[int]] -/
def sh67 (w : World) (R : Value → World → Prop) : Prop :=
 RunV Try.prog (Instr.build 149 #[]) w fun t1_1 w =>
 RunV Try.prog (Instr.box 149 t1_1) w fun t2_2 w =>
 R t2_2 w
theorem sh67_calls {w : World} {R : Value → World → Prop} (h : sh67  w R) : CallF Try.prog 67 #[] w R :=
  calls_of_denF (mk := false) (args := []) (an := (.seq (.ops []) (.seq (.ops [0]) .leaf))) (c := Try.f67.body.getD .skip) hent Try.func67 rfl (Nat.le_of_ble_eq_true (by kernel_rfl))
    (Eq.mp (show sh67  w R = denF Try.prog ent false Try.f67 (.seq (.ops []) (.seq (.ops [0]) .leaf)) (Try.f67.body.getD .skip) [] w R by kernel_rfl) h)

/-! ### 68: (*handbill/vers.Store[int]).adds -/
def sh68 (a0 a1 a2 : Value) (w : World) (R : Value → World → Prop) : Prop :=
 RunV Try.prog (Instr.box 101 a2) w fun t5_1 w =>
 RunA Try.prog (Instr.fieldAt 101 t5_1 0) fun t10_2 =>
 RunW Try.prog (Instr.loadAt 3 t10_2) w fun t11_3 =>
 RunA Try.prog (bin .lss 3 (.tmp 11) (.const (.int .i64 1)) t11_3 (.int .i64 1)) fun t12_4 =>
 IfB t12_4 (
 R (.int .i64 1) w) (
 RunA Try.prog (Instr.fieldAt 101 t5_1 0) fun t14_5 =>
 RunW Try.prog (Instr.loadAt 3 t14_5) w fun t15_6 =>
 RunA Try.prog (bin .gtr 3 (.tmp 15) (.const (.int .i64 1099511627776)) t15_6 (.int .i64 1099511627776)) fun t16_7 =>
 IfB t16_7 (
 R (.int .i64 1) w) (
 drw (fun S_8 w =>
 RunA Try.prog (Instr.fieldAt 101 t5_1 0) fun t19_9 =>
 RunS Try.prog S_8 (Instr.loadAt 3 t19_9) fun t20_10 =>
 CallF Try.prog 17 #[a0, a1] w fun t23_11 w =>
 S_8 w ∧ (
 RunA Try.prog (bin .leq 3 (.tmp 20) (.tmp 23) t20_10 t23_11) fun t24_12 =>
 IfB t24_12 (
 R (.int .i64 12) w) (
 RunA Try.prog (Instr.fieldAt 101 t5_1 0) fun t26_13 =>
 RunS Try.prog S_8 (Instr.loadAt 3 t26_13) fun t27_14 =>
 RunA Try.prog (nilV a0) fun t29_15 =>
 RunA Try.prog (Instr.fieldAt 98 t29_15 1) fun t30_16 =>
 RunS Try.prog S_8 (Instr.loadAt 3 t30_16) fun t31_17 =>
 RunA Try.prog (bin .lss 3 (.tmp 27) (.tmp 31) t27_14 t31_17) fun t32_18 =>
 IfB t32_18 (
 R (.int .i64 12) w) (
 RunA Try.prog (nilV a0) fun t36_19 =>
 RunA Try.prog (Instr.fieldAt 98 t36_19 0) fun t37_20 =>
 RunW Try.prog (Instr.loadAt 94 t37_20) w fun t38_21 =>
 CallF Try.prog 70 #[t38_21, a1] w fun t40_22 w =>
 RunA Try.prog (Instr.extract t40_22 0) fun t41_23 =>
 RunA Try.prog (Instr.extract t40_22 1) fun t42_24 =>
 jn 0 (fun w =>
 R (.int .i64 0) w) fun j_25 =>
 drw (fun S_26 w =>
 RunA Try.prog (nilV a0) fun t44_27 =>
 RunA Try.prog (Instr.fieldAt 98 t44_27 0) fun t45_28 =>
 RunS Try.prog S_26 (Instr.loadAt 94 t45_28) fun t46_29 =>
 RunS Try.prog S_26 (Instr.loadAt 101 t5_1) fun t50_30 =>
 (CallF Try.prog 101 #[t41_23] w fun t49_31 w =>
 S_26 w ∧ (
 RunV Try.prog (Instr.buildSlice 96 1 #[(0, t50_30)]) w fun t51_32 w =>
 S_26 w ∧ (
 RunV Try.prog (Builtin.append_ #[96, 96] 96 #[t49_31, t51_32]) w fun t52_33 w =>
 S_26 w ∧ (
 CallF Try.prog 73 #[t46_29, a1, t52_33] w fun t53_34 w =>
 j_25 w)))) ∧ (
 (RunV Try.prog (Instr.buildSlice 96 1 #[(0, t50_30)]) w fun t51_35 w =>
 S_26 w ∧ (
 CallF Try.prog 101 #[t41_23] w fun t49_36 w =>
 S_26 w ∧ (
 RunV Try.prog (Builtin.append_ #[96, 96] 96 #[t49_36, t51_35]) w fun t52_37 w =>
 S_26 w ∧ (
 CallF Try.prog 73 #[t46_29, a1, t52_37] w fun t53_38 w =>
 j_25 w)))) ∧ (
 True))) w)))) w))
theorem sh68_calls {a0 a1 a2 : Value} {w : World} {R : Value → World → Prop} (h : sh68 a0 a1 a2 w R) : CallF Try.prog 68 #[a0, a1, a2] w R :=
  calls_of_denF (mk := false) (args := [a0, a1, a2]) (an := (.seq (.ops [0, 1, 5]) (.seq (.blk (.seq (.ops [0, 1, 5, 9]) (.cond (.seq (.ops [6]) .leaf) (.seq (.draw (.q 0 (.q 1 (.q 2 (.q 3 (.one 4 (.q 5 (.q 6 (.sp 7 (.q 7 (.q 8 (.q 9 (.q 10 (.q 11 (.q 12 (.q 13 (.q 14 (.q 15 .fin))))))))) (.q 7 (.q 8 (.q 9 (.q 10 (.q 11 (.q 12 (.q 13 (.q 14 (.q 15 .fin))))))))))))))))) [0, 1, 5, 18]) (.cond (.seq (.ops [6]) .leaf) .leaf))))) (.seq (.ops [0, 1, 5, 7]) (.seq (.join [] (.draw (.q 0 (.q 1 (.q 2 (.q 3 (.q 4 (.q 5 (.q 7 (.alt 6 (.one 8 (.one 9 (.one 10 .fin))) (.alt 8 (.one 6 (.one 9 (.one 10 .fin))) .fin))))))))) [])) (.seq (.ops [6]) .leaf)))))) (c := Try.f68.body.getD .skip) hent Try.func68 rfl (Nat.le_of_ble_eq_true (by kernel_rfl))
    (Eq.mp (show sh68 a0 a1 a2 w R = denF Try.prog ent false Try.f68 (.seq (.ops [0, 1, 5]) (.seq (.blk (.seq (.ops [0, 1, 5, 9]) (.cond (.seq (.ops [6]) .leaf) (.seq (.draw (.q 0 (.q 1 (.q 2 (.q 3 (.one 4 (.q 5 (.q 6 (.sp 7 (.q 7 (.q 8 (.q 9 (.q 10 (.q 11 (.q 12 (.q 13 (.q 14 (.q 15 .fin))))))))) (.q 7 (.q 8 (.q 9 (.q 10 (.q 11 (.q 12 (.q 13 (.q 14 (.q 15 .fin))))))))))))))))) [0, 1, 5, 18]) (.cond (.seq (.ops [6]) .leaf) .leaf))))) (.seq (.ops [0, 1, 5, 7]) (.seq (.join [] (.draw (.q 0 (.q 1 (.q 2 (.q 3 (.q 4 (.q 5 (.q 7 (.alt 6 (.one 8 (.one 9 (.one 10 .fin))) (.alt 8 (.one 6 (.one 9 (.one 10 .fin))) .fin))))))))) [])) (.seq (.ops [6]) .leaf))))) (Try.f68.body.getD .skip) [a0, a1, a2] w R by kernel_rfl) h)

/-! ### 69: (*handbill/omap.Map[string, []handbill/vers.Version[int]]).All -/
def sh69 (a0 : Value) (w : World) (R : Value → World → Prop) : Prop :=
 RunV Try.prog (Instr.box 94 a0) w fun t1_1 w =>
 RunV Try.prog (Instr.makeFunc (Go.Fn.func 102) #[] #[t1_1]) w fun t3_2 w =>
 R t3_2 w
theorem sh69_calls {a0 : Value} {w : World} {R : Value → World → Prop} (h : sh69 a0 w R) : CallF Try.prog 69 #[a0] w R :=
  calls_of_denF (mk := false) (args := [a0]) (an := (.seq (.ops [1]) (.seq (.ops [2]) .leaf))) (c := Try.f69.body.getD .skip) hent Try.func69 rfl (Nat.le_of_ble_eq_true (by kernel_rfl))
    (Eq.mp (show sh69 a0 w R = denF Try.prog ent false Try.f69 (.seq (.ops [1]) (.seq (.ops [2]) .leaf)) (Try.f69.body.getD .skip) [a0] w R by kernel_rfl) h)

/-! ### 70: (*handbill/omap.Map[string, []handbill/vers.Version[int]]).Get -/
def sh70 (a0 a1 : Value) (w : World) (R : Value → World → Prop) : Prop :=
 CallF Try.prog 104 #[a0, a1] w fun t12_1 w =>
 RunA Try.prog (Instr.extract t12_1 0) fun t13_2 =>
 RunA Try.prog (Instr.extract t12_1 1) fun t14_3 =>
 RunA Try.prog (Op.unary .not t14_3) fun t16_4 =>
 IfB t16_4 (
 R (.tuple #[(.slice none 0 0), (.bool false)]) w) (
 RunA Try.prog (nilV a0) fun t19_5 =>
 RunA Try.prog (Instr.fieldAt 149 t19_5 0) fun t20_6 =>
 RunW Try.prog (Instr.loadAt 147 t20_6) w fun t21_7 =>
 RunA Try.prog (Instr.indexAt 147 t21_7 t13_2) fun t23_8 =>
 RunA Try.prog (Instr.fieldAt 153 t23_8 1) fun t24_9 =>
 RunW Try.prog (Instr.loadAt 96 t24_9) w fun t25_10 =>
 R (.tuple #[t25_10, (.bool true)]) w)
theorem sh70_calls {a0 a1 : Value} {w : World} {R : Value → World → Prop} (h : sh70 a0 a1 w R) : CallF Try.prog 70 #[a0, a1] w R :=
  calls_of_denF (mk := false) (args := [a0, a1]) (an := (.seq (.ops [0, 1]) (.seq (.ops [0, 6, 7]) (.seq (.seq (.ops [0, 6, 16]) (.cond (.seq (.ops [8]) (.seq (.ops [4, 5]) .leaf)) .leaf)) (.seq (.ops [4, 5]) .leaf))))) (c := Try.f70.body.getD .skip) hent Try.func70 rfl (Nat.le_of_ble_eq_true (by kernel_rfl))
    (Eq.mp (show sh70 a0 a1 w R = denF Try.prog ent false Try.f70 (.seq (.ops [0, 1]) (.seq (.ops [0, 6, 7]) (.seq (.seq (.ops [0, 6, 16]) (.cond (.seq (.ops [8]) (.seq (.ops [4, 5]) .leaf)) .leaf)) (.seq (.ops [4, 5]) .leaf)))) (Try.f70.body.getD .skip) [a0, a1] w R by kernel_rfl) h)

/-! ### 71: handbill/vers.pruned[int] -/
def sh71 (a0 a1 : Value) (w : World) (R : Value → World → Prop) : Prop :=
 CallF Try.prog 105 #[a0, a1] w fun t8_1 w =>
 RunW Try.prog (Builtin.max_ #[3, 3] 3 #[t8_1, (.int .i64 0)]) w fun t9_2 =>
 RunA Try.prog (Instr.sliceAt 96 a0 (some t9_2) none none) fun t10_3 =>
 jn 1 (fun t0_4 w =>
 CallF Try.prog 101 #[t0_4] w fun t31_6 w =>
 R t31_6 w) fun j_5 =>
 RunW Try.prog (Builtin.len_ #[96] 3 #[t10_3]) w fun t12_7 =>
 RunA Try.prog (bin .gtr 3 (.tmp 12) (.const (.int .i64 0)) t12_7 (.int .i64 0)) fun t13_8 =>
 IfB t13_8 (
 RunA Try.prog (Instr.indexAt 96 t10_3 (.int .i64 0)) fun t16_9 =>
 RunA Try.prog (Instr.fieldAt 101 t16_9 2) fun t17_10 =>
 RunW Try.prog (Instr.loadAt 4 t17_10) w fun t18_11 =>
 IfB t18_11 (
 RunA Try.prog (Instr.indexAt 96 t10_3 (.int .i64 0)) fun t22_12 =>
 RunA Try.prog (Instr.fieldAt 101 t22_12 0) fun t23_13 =>
 RunW Try.prog (Instr.loadAt 3 t23_13) w fun t24_14 =>
 RunA Try.prog (bin .leq 3 (.tmp 24) (.tmp 25) t24_14 a1) fun t26_15 =>
 IfB t26_15 (
 RunA Try.prog (Instr.sliceAt 96 t10_3 (some (.int .i64 1)) none none) fun t29_16 =>
 j_5 t29_16 w) (
 j_5 t10_3 w)) (
 j_5 t10_3 w)) (
 j_5 t10_3 w)
theorem sh71_calls {a0 a1 : Value} {w : World} {R : Value → World → Prop} (h : sh71 a0 a1 w R) : CallF Try.prog 71 #[a0, a1] w R :=
  calls_of_denF (mk := false) (args := [a0, a1]) (an := (.seq (.ops [0, 1]) (.seq (.ops [0, 1]) (.seq (.join [0] (.seq (.ops [0, 27]) (.cond (.ops [0]) .leaf))) (.seq (.ops [4]) .leaf))))) (c := Try.f71.body.getD .skip) hent Try.func71 rfl (Nat.le_of_ble_eq_true (by kernel_rfl))
    (Eq.mp (show sh71 a0 a1 w R = denF Try.prog ent false Try.f71 (.seq (.ops [0, 1]) (.seq (.ops [0, 1]) (.seq (.join [0] (.seq (.ops [0, 27]) (.cond (.ops [0]) .leaf))) (.seq (.ops [4]) .leaf)))) (Try.f71.body.getD .skip) [a0, a1] w R by kernel_rfl) h)

/-! ### 72: (*handbill/omap.Map[string, []handbill/vers.Version[int]]).Delete -/
def sh72 (a0 a1 : Value) (w : World) (R : Value → World → Prop) : Prop :=
 CallF Try.prog 104 #[a0, a1] w fun t10_1 w =>
 RunA Try.prog (Instr.extract t10_1 0) fun t11_2 =>
 RunA Try.prog (Instr.extract t10_1 1) fun t12_3 =>
 jn 1 (fun t6_4 w =>
 R t6_4 w) fun j_5 =>
 IfB t12_3 (
 RunA Try.prog (nilV a0) fun t16_6 =>
 RunA Try.prog (Instr.fieldAt 149 t16_6 0) fun t17_7 =>
 RunW Try.prog (Instr.loadAt 147 t17_7) w fun t18_8 =>
 RunA Try.prog (bin .add 3 (.tmp 20) (.const (.int .i64 1)) t11_2 (.int .i64 1)) fun t21_9 =>
 CallF Try.prog 106 #[t18_8, t11_2, t21_9] w fun t22_10 w =>
 RunA Try.prog (nilV a0) fun t23_11 =>
 RunA Try.prog (Instr.fieldAt 149 t23_11 0) fun t24_12 =>
 RunU Try.prog (Instr.storeAt 147 t24_12 t22_10) w fun w =>
 j_5 t12_3 w) (
 j_5 t12_3 w)
theorem sh72_calls {a0 a1 : Value} {w : World} {R : Value → World → Prop} (h : sh72 a0 a1 w R) : CallF Try.prog 72 #[a0, a1] w R :=
  calls_of_denF (mk := false) (args := [a0, a1]) (an := (.seq (.ops [0, 1]) (.seq (.ops [0, 5, 6]) (.seq (.join [6] (.seq (.ops [0, 5, 6, 13]) (.cond (.ops [6]) .leaf))) (.seq (.ops [4]) .leaf))))) (c := Try.f72.body.getD .skip) hent Try.func72 rfl (Nat.le_of_ble_eq_true (by kernel_rfl))
    (Eq.mp (show sh72 a0 a1 w R = denF Try.prog ent false Try.f72 (.seq (.ops [0, 1]) (.seq (.ops [0, 5, 6]) (.seq (.join [6] (.seq (.ops [0, 5, 6, 13]) (.cond (.ops [6]) .leaf))) (.seq (.ops [4]) .leaf)))) (Try.f72.body.getD .skip) [a0, a1] w R by kernel_rfl) h)

/-! ### 73: (*handbill/omap.Map[string, []handbill/vers.Version[int]]).Put -/
def sh73 (a0 a1 a2 : Value) (w : World) (R : Value → World → Prop) : Prop :=
 CallF Try.prog 104 #[a0, a1] w fun t12_1 w =>
 RunA Try.prog (Instr.extract t12_1 0) fun t13_2 =>
 RunA Try.prog (Instr.extract t12_1 1) fun t14_3 =>
 jn 1 (fun t8_4 w =>
 RunA Try.prog (Op.unary .not t8_4) fun t38_6 =>
 R t38_6 w) fun j_5 =>
 IfB t14_3 (
 RunA Try.prog (nilV a0) fun t17_7 =>
 RunA Try.prog (Instr.fieldAt 149 t17_7 0) fun t18_8 =>
 RunW Try.prog (Instr.loadAt 147 t18_8) w fun t19_9 =>
 RunA Try.prog (Instr.indexAt 147 t19_9 t13_2) fun t22_10 =>
 RunA Try.prog (Instr.fieldAt 153 t22_10 1) fun t23_11 =>
 RunU Try.prog (Instr.storeAt 96 t23_11 a2) w fun w =>
 j_5 t14_3 w) (
 RunA Try.prog (nilV a0) fun t26_12 =>
 RunA Try.prog (Instr.fieldAt 149 t26_12 0) fun t27_13 =>
 RunW Try.prog (Instr.loadAt 147 t27_13) w fun t28_14 =>
 RunV Try.prog (Instr.build 153 #[(0, a1), (1, a2)]) w fun t32_15 w =>
 RunV Try.prog (Instr.buildSlice 147 1 #[(0, t32_15)]) w fun t33_16 w =>
 CallF Try.prog 107 #[t28_14, t13_2, t33_16] w fun t34_17 w =>
 RunA Try.prog (nilV a0) fun t35_18 =>
 RunA Try.prog (Instr.fieldAt 149 t35_18 0) fun t36_19 =>
 RunU Try.prog (Instr.storeAt 147 t36_19 t34_17) w fun w =>
 j_5 t14_3 w)
theorem sh73_calls {a0 a1 a2 : Value} {w : World} {R : Value → World → Prop} (h : sh73 a0 a1 a2 w R) : CallF Try.prog 73 #[a0, a1, a2] w R :=
  calls_of_denF (mk := false) (args := [a0, a1, a2]) (an := (.seq (.ops [0, 1, 2]) (.seq (.ops [0, 1, 2, 7, 8]) (.seq (.join [8] (.seq (.ops [0, 1, 2, 7, 8, 15]) (.cond (.ops [8]) (.ops [8])))) (.seq (.ops [6]) .leaf))))) (c := Try.f73.body.getD .skip) hent Try.func73 rfl (Nat.le_of_ble_eq_true (by kernel_rfl))
    (Eq.mp (show sh73 a0 a1 a2 w R = denF Try.prog ent false Try.f73 (.seq (.ops [0, 1, 2]) (.seq (.ops [0, 1, 2, 7, 8]) (.seq (.join [8] (.seq (.ops [0, 1, 2, 7, 8, 15]) (.cond (.ops [8]) (.ops [8])))) (.seq (.ops [6]) .leaf)))) (Try.f73.body.getD .skip) [a0, a1, a2] w R by kernel_rfl) h)

/-! ### 74: handbill/vers.told[int] -/
def sh74 (a0 a1 : Value) (w : World) (R : Value → World → Prop) : Prop :=
 CallF Try.prog 105 #[a0, a1] w fun t10_1 w =>
 RunA Try.prog (bin .lss 3 (.tmp 11) (.const (.int .i64 0)) t10_1 (.int .i64 0)) fun t12_2 =>
 IfB t12_2 (
 R (.tuple #[(.int .i64 0), (.bool false)]) w) (
 RunA Try.prog (Instr.indexAt 96 a0 t10_1) fun t16_3 =>
 RunA Try.prog (Instr.fieldAt 101 t16_3 2) fun t17_4 =>
 RunW Try.prog (Instr.loadAt 4 t17_4) w fun t18_5 =>
 IfB t18_5 (
 R (.tuple #[(.int .i64 0), (.bool false)]) w) (
 RunA Try.prog (Instr.indexAt 96 a0 t10_1) fun t23_6 =>
 RunA Try.prog (Instr.fieldAt 101 t23_6 1) fun t24_7 =>
 RunW Try.prog (Instr.loadAt 3 t24_7) w fun t25_8 =>
 R (.tuple #[t25_8, (.bool true)]) w))
theorem sh74_calls {a0 a1 : Value} {w : World} {R : Value → World → Prop} (h : sh74 a0 a1 w R) : CallF Try.prog 74 #[a0, a1] w R :=
  calls_of_denF (mk := false) (args := [a0, a1]) (an := (.seq (.ops [0, 1]) (.seq (.ops [0, 6]) (.seq (.seq (.ops [0, 6, 19]) (.cond (.seq (.ops [7]) (.seq (.ops [4, 5]) .leaf)) .leaf)) (.seq (.ops [4, 5]) .leaf))))) (c := Try.f74.body.getD .skip) hent Try.func74 rfl (Nat.le_of_ble_eq_true (by kernel_rfl))
    (Eq.mp (show sh74 a0 a1 w R = denF Try.prog ent false Try.f74 (.seq (.ops [0, 1]) (.seq (.ops [0, 6]) (.seq (.seq (.ops [0, 6, 19]) (.cond (.seq (.ops [7]) (.seq (.ops [4, 5]) .leaf)) .leaf)) (.seq (.ops [4, 5]) .leaf)))) (Try.f74.body.getD .skip) [a0, a1] w R by kernel_rfl) h)

/-! ### 75: handbill/omap.New[string,[]handbill/vers.Version[string]] -/
def sh75 (w : World) (R : Value → World → Prop) : Prop :=
 RunV Try.prog (Instr.build 159 #[]) w fun t1_1 w =>
 RunV Try.prog (Instr.box 159 t1_1) w fun t2_2 w =>
 R t2_2 w
theorem sh75_calls {w : World} {R : Value → World → Prop} (h : sh75  w R) : CallF Try.prog 75 #[] w R :=
  calls_of_denF (mk := false) (args := []) (an := (.seq (.ops []) (.seq (.ops [0]) .leaf))) (c := Try.f75.body.getD .skip) hent Try.func75 rfl (Nat.le_of_ble_eq_true (by kernel_rfl))
    (Eq.mp (show sh75  w R = denF Try.prog ent false Try.f75 (.seq (.ops []) (.seq (.ops [0]) .leaf)) (Try.f75.body.getD .skip) [] w R by kernel_rfl) h)

/-! ### 76: (*handbill/vers.Store[string]).Scan$1 -/
def sh76 (a0 a1 a2 a3 a4 : Value) (w : World) (R : Value → World → Prop) : Prop :=
 RunV Try.prog (Instr.box 115 a0) w fun t5_1 w =>
 RunW Try.prog (Instr.loadAt 35 a1) w fun t10_2 =>
 RunW Try.prog (Instr.loadAt 9 a2) w fun t11_3 =>
 RunW Try.prog (Instr.loadAt 9 a3) w fun t12_4 =>
 CallF Try.prog 77 #[t10_2, t11_3, t12_4] w fun t13_5 w =>
 rngP Try.prog none 2 4 (fun l_6 K_7 t14_13 t15_14 w =>
 K_7 a4 t5_1 t14_13 t15_14 w) (fun l_6 kn_8 ks_9 t4_15 t5_16 t6_17 t7_18 w =>
 RunW Try.prog (Instr.loadAt 3 t4_15) w fun t18_19 =>
 CallF Try.prog 78 #[t7_18, t18_19] w fun t19_20 w =>
 RunA Try.prog (Instr.extract t19_20 0) fun t20_21 =>
 RunA Try.prog (Instr.extract t19_20 1) fun t21_22 =>
 jn 0 (fun w =>
 kn_8 w) fun j_23 =>
 IfB t21_22 (
 RunW Try.prog (Instr.loadAt 115 t5_16) w fun t24_24 =>
 CallV Try.prog t24_24 #[t6_17, t20_21] w fun t27_25 w =>
 RunA Try.prog (Op.unary .not t27_25) fun t28_26 =>
 IfB t28_26 (
 ks_9 .ret w) (
 j_23 w)) (
 j_23 w)) t13_5 w (fun D_10 w =>
 (w).heap[D_10]? = some (.deferred (some [])) ∧ (
 R (.tuple #[]) (w.putObj D_10 (.deferred none)))) (fun D_10 c_11 w => jumpK (fun i_12 w =>
 bif Nat.beq i_12 0 then (
 (w).heap[D_10]? = some (.deferred (some [])) ∧ (
 R (.tuple #[]) (w.putObj D_10 (.deferred none)))) else (
 False)) (fun w =>
 (w).heap[D_10]? = some (.deferred (some [])) ∧ (
 R (.tuple #[]) (w.putObj D_10 (.deferred none)))) c_11 w)
theorem sh76_calls {a0 a1 a2 a3 a4 : Value} {w : World} {R : Value → World → Prop} (h : sh76 a0 a1 a2 a3 a4 w R) : CallF Try.prog 76 #[a0, a1, a2, a3, a4] w R :=
  calls_of_denF (mk := true) (args := [a0, a1, a2, a3, a4]) (an := (.seq (.ops [1, 2, 3, 4, 5]) (.seq (.ops [4, 5, 13]) (.blk (.rng [4, 5, 6, 7] (.seq (.ops [4, 5, 6, 15]) (.ops [4, 5, 6, 7])) (.blk (.seq (.ops [5, 6, 8, 9]) (.join [] (.seq (.ops [29]) (.cond .leaf .leaf)))))))))) (c := Try.f76.body.getD .skip) hent Try.func76 rfl (Nat.le_of_ble_eq_true (by kernel_rfl))
    (Eq.mp (show sh76 a0 a1 a2 a3 a4 w R = denF Try.prog ent true Try.f76 (.seq (.ops [1, 2, 3, 4, 5]) (.seq (.ops [4, 5, 13]) (.blk (.rng [4, 5, 6, 7] (.seq (.ops [4, 5, 6, 15]) (.ops [4, 5, 6, 7])) (.blk (.seq (.ops [5, 6, 8, 9]) (.join [] (.seq (.ops [29]) (.cond .leaf .leaf))))))))) (Try.f76.body.getD .skip) [a0, a1, a2, a3, a4] w R by kernel_rfl) h)

/-! ### 77: (*handbill/vers.Store[string]).within -/
def sh77 (a0 a1 a2 : Value) (w : World) (R : Value → World → Prop) : Prop :=
 RunV Try.prog (Instr.box 35 a0) w fun t3_1 w =>
 RunV Try.prog (Instr.box 9 a1) w fun t4_2 w =>
 RunW Try.prog (bin .neq 9 (.tmp 7) (.const (.string ⟨#[]⟩)) a2 (.string ⟨#[]⟩)) w fun t8_3 =>
 IfB t8_3 (
 drw (fun S_4 w =>
 RunS Try.prog S_4 (Instr.loadAt 35 t3_1) fun t9_5 =>
 RunA Try.prog (nilV t9_5) fun t10_6 =>
 RunA Try.prog (Instr.fieldAt 114 t10_6 0) fun t11_7 =>
 RunS Try.prog S_4 (Instr.loadAt 111 t11_7) fun t12_8 =>
 RunS Try.prog S_4 (Instr.loadAt 9 t4_2) fun t13_9 =>
 CallF Try.prog 108 #[t12_8, t13_9, a2] w fun t15_10 w =>
 R t15_10 w) w) (
 RunV Try.prog (Instr.makeFunc (Go.Fn.func 109) #[] #[t3_1, t4_2]) w fun t16_11 w =>
 R t16_11 w)
theorem sh77_calls {a0 a1 a2 : Value} {w : World} {R : Value → World → Prop} (h : sh77 a0 a1 a2 w R) : CallF Try.prog 77 #[a0, a1, a2] w R :=
  calls_of_denF (mk := false) (args := [a0, a1, a2]) (an := (.seq (.ops [2, 3, 4]) (.seq (.seq (.ops [2, 3, 4, 8]) (.cond (.seq (.draw (.q 0 (.q 1 (.q 2 (.q 3 (.q 4 (.q 5 (.one 6 (.q 7 .fin)))))))) [6]) .leaf) .leaf)) (.seq (.ops [6]) .leaf)))) (c := Try.f77.body.getD .skip) hent Try.func77 rfl (Nat.le_of_ble_eq_true (by kernel_rfl))
    (Eq.mp (show sh77 a0 a1 a2 w R = denF Try.prog ent false Try.f77 (.seq (.ops [2, 3, 4]) (.seq (.seq (.ops [2, 3, 4, 8]) (.cond (.seq (.draw (.q 0 (.q 1 (.q 2 (.q 3 (.q 4 (.q 5 (.one 6 (.q 7 .fin)))))))) [6]) .leaf) .leaf)) (.seq (.ops [6]) .leaf))) (Try.f77.body.getD .skip) [a0, a1, a2] w R by kernel_rfl) h)

/-! ### 78: handbill/vers.told[string] -/
def sh78 (a0 a1 : Value) (w : World) (R : Value → World → Prop) : Prop :=
 CallF Try.prog 110 #[a0, a1] w fun t10_1 w =>
 RunA Try.prog (bin .lss 3 (.tmp 11) (.const (.int .i64 0)) t10_1 (.int .i64 0)) fun t12_2 =>
 IfB t12_2 (
 R (.tuple #[(.string ⟨#[]⟩), (.bool false)]) w) (
 RunA Try.prog (Instr.indexAt 55 a0 t10_1) fun t16_3 =>
 RunA Try.prog (Instr.fieldAt 58 t16_3 2) fun t17_4 =>
 RunW Try.prog (Instr.loadAt 4 t17_4) w fun t18_5 =>
 IfB t18_5 (
 R (.tuple #[(.string ⟨#[]⟩), (.bool false)]) w) (
 RunA Try.prog (Instr.indexAt 55 a0 t10_1) fun t23_6 =>
 RunA Try.prog (Instr.fieldAt 58 t23_6 1) fun t24_7 =>
 RunW Try.prog (Instr.loadAt 9 t24_7) w fun t25_8 =>
 R (.tuple #[t25_8, (.bool true)]) w))
theorem sh78_calls {a0 a1 : Value} {w : World} {R : Value → World → Prop} (h : sh78 a0 a1 w R) : CallF Try.prog 78 #[a0, a1] w R :=
  calls_of_denF (mk := false) (args := [a0, a1]) (an := (.seq (.ops [0, 1]) (.seq (.ops [0, 6]) (.seq (.seq (.ops [0, 6, 19]) (.cond (.seq (.ops [7]) (.seq (.ops [4, 5]) .leaf)) .leaf)) (.seq (.ops [4, 5]) .leaf))))) (c := Try.f78.body.getD .skip) hent Try.func78 rfl (Nat.le_of_ble_eq_true (by kernel_rfl))
    (Eq.mp (show sh78 a0 a1 w R = denF Try.prog ent false Try.f78 (.seq (.ops [0, 1]) (.seq (.ops [0, 6]) (.seq (.seq (.ops [0, 6, 19]) (.cond (.seq (.ops [7]) (.seq (.ops [4, 5]) .leaf)) .leaf)) (.seq (.ops [4, 5]) .leaf)))) (Try.f78.body.getD .skip) [a0, a1] w R by kernel_rfl) h)

/-! ### 79: (*handbill/omap.Map[string, []handbill/vers.Version[string]]).All -/
def sh79 (a0 : Value) (w : World) (R : Value → World → Prop) : Prop :=
 RunV Try.prog (Instr.box 111 a0) w fun t1_1 w =>
 RunV Try.prog (Instr.makeFunc (Go.Fn.func 111) #[] #[t1_1]) w fun t3_2 w =>
 R t3_2 w
theorem sh79_calls {a0 : Value} {w : World} {R : Value → World → Prop} (h : sh79 a0 w R) : CallF Try.prog 79 #[a0] w R :=
  calls_of_denF (mk := false) (args := [a0]) (an := (.seq (.ops [1]) (.seq (.ops [2]) .leaf))) (c := Try.f79.body.getD .skip) hent Try.func79 rfl (Nat.le_of_ble_eq_true (by kernel_rfl))
    (Eq.mp (show sh79 a0 w R = denF Try.prog ent false Try.f79 (.seq (.ops [1]) (.seq (.ops [2]) .leaf)) (Try.f79.body.getD .skip) [a0] w R by kernel_rfl) h)

/-! ### 80: handbill/vers.pruned[string] -/
def sh80 (a0 a1 : Value) (w : World) (R : Value → World → Prop) : Prop :=
 CallF Try.prog 110 #[a0, a1] w fun t8_1 w =>
 RunW Try.prog (Builtin.max_ #[3, 3] 3 #[t8_1, (.int .i64 0)]) w fun t9_2 =>
 RunA Try.prog (Instr.sliceAt 55 a0 (some t9_2) none none) fun t10_3 =>
 jn 1 (fun t0_4 w =>
 CallF Try.prog 85 #[t0_4] w fun t31_6 w =>
 R t31_6 w) fun j_5 =>
 RunW Try.prog (Builtin.len_ #[55] 3 #[t10_3]) w fun t12_7 =>
 RunA Try.prog (bin .gtr 3 (.tmp 12) (.const (.int .i64 0)) t12_7 (.int .i64 0)) fun t13_8 =>
 IfB t13_8 (
 RunA Try.prog (Instr.indexAt 55 t10_3 (.int .i64 0)) fun t16_9 =>
 RunA Try.prog (Instr.fieldAt 58 t16_9 2) fun t17_10 =>
 RunW Try.prog (Instr.loadAt 4 t17_10) w fun t18_11 =>
 IfB t18_11 (
 RunA Try.prog (Instr.indexAt 55 t10_3 (.int .i64 0)) fun t22_12 =>
 RunA Try.prog (Instr.fieldAt 58 t22_12 0) fun t23_13 =>
 RunW Try.prog (Instr.loadAt 3 t23_13) w fun t24_14 =>
 RunA Try.prog (bin .leq 3 (.tmp 24) (.tmp 25) t24_14 a1) fun t26_15 =>
 IfB t26_15 (
 RunA Try.prog (Instr.sliceAt 55 t10_3 (some (.int .i64 1)) none none) fun t29_16 =>
 j_5 t29_16 w) (
 j_5 t10_3 w)) (
 j_5 t10_3 w)) (
 j_5 t10_3 w)
theorem sh80_calls {a0 a1 : Value} {w : World} {R : Value → World → Prop} (h : sh80 a0 a1 w R) : CallF Try.prog 80 #[a0, a1] w R :=
  calls_of_denF (mk := false) (args := [a0, a1]) (an := (.seq (.ops [0, 1]) (.seq (.ops [0, 1]) (.seq (.join [0] (.seq (.ops [0, 27]) (.cond (.ops [0]) .leaf))) (.seq (.ops [4]) .leaf))))) (c := Try.f80.body.getD .skip) hent Try.func80 rfl (Nat.le_of_ble_eq_true (by kernel_rfl))
    (Eq.mp (show sh80 a0 a1 w R = denF Try.prog ent false Try.f80 (.seq (.ops [0, 1]) (.seq (.ops [0, 1]) (.seq (.join [0] (.seq (.ops [0, 27]) (.cond (.ops [0]) .leaf))) (.seq (.ops [4]) .leaf)))) (Try.f80.body.getD .skip) [a0, a1] w R by kernel_rfl) h)

/-! ### 81: (*handbill/omap.Map[string, []handbill/vers.Version[string]]).Delete -/
def sh81 (a0 a1 : Value) (w : World) (R : Value → World → Prop) : Prop :=
 CallF Try.prog 113 #[a0, a1] w fun t10_1 w =>
 RunA Try.prog (Instr.extract t10_1 0) fun t11_2 =>
 RunA Try.prog (Instr.extract t10_1 1) fun t12_3 =>
 jn 1 (fun t6_4 w =>
 R t6_4 w) fun j_5 =>
 IfB t12_3 (
 RunA Try.prog (nilV a0) fun t16_6 =>
 RunA Try.prog (Instr.fieldAt 159 t16_6 0) fun t17_7 =>
 RunW Try.prog (Instr.loadAt 157 t17_7) w fun t18_8 =>
 RunA Try.prog (bin .add 3 (.tmp 20) (.const (.int .i64 1)) t11_2 (.int .i64 1)) fun t21_9 =>
 CallF Try.prog 114 #[t18_8, t11_2, t21_9] w fun t22_10 w =>
 RunA Try.prog (nilV a0) fun t23_11 =>
 RunA Try.prog (Instr.fieldAt 159 t23_11 0) fun t24_12 =>
 RunU Try.prog (Instr.storeAt 157 t24_12 t22_10) w fun w =>
 j_5 t12_3 w) (
 j_5 t12_3 w)
theorem sh81_calls {a0 a1 : Value} {w : World} {R : Value → World → Prop} (h : sh81 a0 a1 w R) : CallF Try.prog 81 #[a0, a1] w R :=
  calls_of_denF (mk := false) (args := [a0, a1]) (an := (.seq (.ops [0, 1]) (.seq (.ops [0, 5, 6]) (.seq (.join [6] (.seq (.ops [0, 5, 6, 13]) (.cond (.ops [6]) .leaf))) (.seq (.ops [4]) .leaf))))) (c := Try.f81.body.getD .skip) hent Try.func81 rfl (Nat.le_of_ble_eq_true (by kernel_rfl))
    (Eq.mp (show sh81 a0 a1 w R = denF Try.prog ent false Try.f81 (.seq (.ops [0, 1]) (.seq (.ops [0, 5, 6]) (.seq (.join [6] (.seq (.ops [0, 5, 6, 13]) (.cond (.ops [6]) .leaf))) (.seq (.ops [4]) .leaf)))) (Try.f81.body.getD .skip) [a0, a1] w R by kernel_rfl) h)

/-! ### 82: (*handbill/omap.Map[string, []handbill/vers.Version[string]]).Put -/
def sh82 (a0 a1 a2 : Value) (w : World) (R : Value → World → Prop) : Prop :=
 CallF Try.prog 113 #[a0, a1] w fun t12_1 w =>
 RunA Try.prog (Instr.extract t12_1 0) fun t13_2 =>
 RunA Try.prog (Instr.extract t12_1 1) fun t14_3 =>
 jn 1 (fun t8_4 w =>
 RunA Try.prog (Op.unary .not t8_4) fun t38_6 =>
 R t38_6 w) fun j_5 =>
 IfB t14_3 (
 RunA Try.prog (nilV a0) fun t17_7 =>
 RunA Try.prog (Instr.fieldAt 159 t17_7 0) fun t18_8 =>
 RunW Try.prog (Instr.loadAt 157 t18_8) w fun t19_9 =>
 RunA Try.prog (Instr.indexAt 157 t19_9 t13_2) fun t22_10 =>
 RunA Try.prog (Instr.fieldAt 163 t22_10 1) fun t23_11 =>
 RunU Try.prog (Instr.storeAt 55 t23_11 a2) w fun w =>
 j_5 t14_3 w) (
 RunA Try.prog (nilV a0) fun t26_12 =>
 RunA Try.prog (Instr.fieldAt 159 t26_12 0) fun t27_13 =>
 RunW Try.prog (Instr.loadAt 157 t27_13) w fun t28_14 =>
 RunV Try.prog (Instr.build 163 #[(0, a1), (1, a2)]) w fun t32_15 w =>
 RunV Try.prog (Instr.buildSlice 157 1 #[(0, t32_15)]) w fun t33_16 w =>
 CallF Try.prog 115 #[t28_14, t13_2, t33_16] w fun t34_17 w =>
 RunA Try.prog (nilV a0) fun t35_18 =>
 RunA Try.prog (Instr.fieldAt 159 t35_18 0) fun t36_19 =>
 RunU Try.prog (Instr.storeAt 157 t36_19 t34_17) w fun w =>
 j_5 t14_3 w)
theorem sh82_calls {a0 a1 a2 : Value} {w : World} {R : Value → World → Prop} (h : sh82 a0 a1 a2 w R) : CallF Try.prog 82 #[a0, a1, a2] w R :=
  calls_of_denF (mk := false) (args := [a0, a1, a2]) (an := (.seq (.ops [0, 1, 2]) (.seq (.ops [0, 1, 2, 7, 8]) (.seq (.join [8] (.seq (.ops [0, 1, 2, 7, 8, 15]) (.cond (.ops [8]) (.ops [8])))) (.seq (.ops [6]) .leaf))))) (c := Try.f82.body.getD .skip) hent Try.func82 rfl (Nat.le_of_ble_eq_true (by kernel_rfl))
    (Eq.mp (show sh82 a0 a1 a2 w R = denF Try.prog ent false Try.f82 (.seq (.ops [0, 1, 2]) (.seq (.ops [0, 1, 2, 7, 8]) (.seq (.join [8] (.seq (.ops [0, 1, 2, 7, 8, 15]) (.cond (.ops [8]) (.ops [8])))) (.seq (.ops [6]) .leaf)))) (Try.f82.body.getD .skip) [a0, a1, a2] w R by kernel_rfl) h)

/-! ### 83: (*handbill/omap.Map[string, []handbill/vers.Version[string]]).Get -/
def sh83 (a0 a1 : Value) (w : World) (R : Value → World → Prop) : Prop :=
 CallF Try.prog 113 #[a0, a1] w fun t12_1 w =>
 RunA Try.prog (Instr.extract t12_1 0) fun t13_2 =>
 RunA Try.prog (Instr.extract t12_1 1) fun t14_3 =>
 RunA Try.prog (Op.unary .not t14_3) fun t16_4 =>
 IfB t16_4 (
 R (.tuple #[(.slice none 0 0), (.bool false)]) w) (
 RunA Try.prog (nilV a0) fun t19_5 =>
 RunA Try.prog (Instr.fieldAt 159 t19_5 0) fun t20_6 =>
 RunW Try.prog (Instr.loadAt 157 t20_6) w fun t21_7 =>
 RunA Try.prog (Instr.indexAt 157 t21_7 t13_2) fun t23_8 =>
 RunA Try.prog (Instr.fieldAt 163 t23_8 1) fun t24_9 =>
 RunW Try.prog (Instr.loadAt 55 t24_9) w fun t25_10 =>
 R (.tuple #[t25_10, (.bool true)]) w)
theorem sh83_calls {a0 a1 : Value} {w : World} {R : Value → World → Prop} (h : sh83 a0 a1 w R) : CallF Try.prog 83 #[a0, a1] w R :=
  calls_of_denF (mk := false) (args := [a0, a1]) (an := (.seq (.ops [0, 1]) (.seq (.ops [0, 6, 7]) (.seq (.seq (.ops [0, 6, 16]) (.cond (.seq (.ops [8]) (.seq (.ops [4, 5]) .leaf)) .leaf)) (.seq (.ops [4, 5]) .leaf))))) (c := Try.f83.body.getD .skip) hent Try.func83 rfl (Nat.le_of_ble_eq_true (by kernel_rfl))
    (Eq.mp (show sh83 a0 a1 w R = denF Try.prog ent false Try.f83 (.seq (.ops [0, 1]) (.seq (.ops [0, 6, 7]) (.seq (.seq (.ops [0, 6, 16]) (.cond (.seq (.ops [8]) (.seq (.ops [4, 5]) .leaf)) .leaf)) (.seq (.ops [4, 5]) .leaf)))) (Try.f83.body.getD .skip) [a0, a1] w R by kernel_rfl) h)

/-! ### 84: (*handbill/vers.Store[string]).adds -/
def sh84 (a0 a1 a2 : Value) (w : World) (R : Value → World → Prop) : Prop :=
 RunV Try.prog (Instr.box 58 a2) w fun t5_1 w =>
 RunA Try.prog (Instr.fieldAt 58 t5_1 0) fun t10_2 =>
 RunW Try.prog (Instr.loadAt 3 t10_2) w fun t11_3 =>
 RunA Try.prog (bin .lss 3 (.tmp 11) (.const (.int .i64 1)) t11_3 (.int .i64 1)) fun t12_4 =>
 IfB t12_4 (
 R (.int .i64 1) w) (
 RunA Try.prog (Instr.fieldAt 58 t5_1 0) fun t14_5 =>
 RunW Try.prog (Instr.loadAt 3 t14_5) w fun t15_6 =>
 RunA Try.prog (bin .gtr 3 (.tmp 15) (.const (.int .i64 1099511627776)) t15_6 (.int .i64 1099511627776)) fun t16_7 =>
 IfB t16_7 (
 R (.int .i64 1) w) (
 drw (fun S_8 w =>
 RunA Try.prog (Instr.fieldAt 58 t5_1 0) fun t19_9 =>
 RunS Try.prog S_8 (Instr.loadAt 3 t19_9) fun t20_10 =>
 CallF Try.prog 32 #[a0, a1] w fun t23_11 w =>
 S_8 w ∧ (
 RunA Try.prog (bin .leq 3 (.tmp 20) (.tmp 23) t20_10 t23_11) fun t24_12 =>
 IfB t24_12 (
 R (.int .i64 12) w) (
 RunA Try.prog (Instr.fieldAt 58 t5_1 0) fun t26_13 =>
 RunS Try.prog S_8 (Instr.loadAt 3 t26_13) fun t27_14 =>
 RunA Try.prog (nilV a0) fun t29_15 =>
 RunA Try.prog (Instr.fieldAt 114 t29_15 1) fun t30_16 =>
 RunS Try.prog S_8 (Instr.loadAt 3 t30_16) fun t31_17 =>
 RunA Try.prog (bin .lss 3 (.tmp 27) (.tmp 31) t27_14 t31_17) fun t32_18 =>
 IfB t32_18 (
 R (.int .i64 12) w) (
 RunA Try.prog (nilV a0) fun t36_19 =>
 RunA Try.prog (Instr.fieldAt 114 t36_19 0) fun t37_20 =>
 RunW Try.prog (Instr.loadAt 111 t37_20) w fun t38_21 =>
 CallF Try.prog 83 #[t38_21, a1] w fun t40_22 w =>
 RunA Try.prog (Instr.extract t40_22 0) fun t41_23 =>
 RunA Try.prog (Instr.extract t40_22 1) fun t42_24 =>
 jn 0 (fun w =>
 R (.int .i64 0) w) fun j_25 =>
 drw (fun S_26 w =>
 RunA Try.prog (nilV a0) fun t44_27 =>
 RunA Try.prog (Instr.fieldAt 114 t44_27 0) fun t45_28 =>
 RunS Try.prog S_26 (Instr.loadAt 111 t45_28) fun t46_29 =>
 RunS Try.prog S_26 (Instr.loadAt 58 t5_1) fun t50_30 =>
 (CallF Try.prog 85 #[t41_23] w fun t49_31 w =>
 S_26 w ∧ (
 RunV Try.prog (Instr.buildSlice 55 1 #[(0, t50_30)]) w fun t51_32 w =>
 S_26 w ∧ (
 RunV Try.prog (Builtin.append_ #[55, 55] 55 #[t49_31, t51_32]) w fun t52_33 w =>
 S_26 w ∧ (
 CallF Try.prog 82 #[t46_29, a1, t52_33] w fun t53_34 w =>
 j_25 w)))) ∧ (
 (RunV Try.prog (Instr.buildSlice 55 1 #[(0, t50_30)]) w fun t51_35 w =>
 S_26 w ∧ (
 CallF Try.prog 85 #[t41_23] w fun t49_36 w =>
 S_26 w ∧ (
 RunV Try.prog (Builtin.append_ #[55, 55] 55 #[t49_36, t51_35]) w fun t52_37 w =>
 S_26 w ∧ (
 CallF Try.prog 82 #[t46_29, a1, t52_37] w fun t53_38 w =>
 j_25 w)))) ∧ (
 True))) w)))) w))
theorem sh84_calls {a0 a1 a2 : Value} {w : World} {R : Value → World → Prop} (h : sh84 a0 a1 a2 w R) : CallF Try.prog 84 #[a0, a1, a2] w R :=
  calls_of_denF (mk := false) (args := [a0, a1, a2]) (an := (.seq (.ops [0, 1, 5]) (.seq (.blk (.seq (.ops [0, 1, 5, 9]) (.cond (.seq (.ops [6]) .leaf) (.seq (.draw (.q 0 (.q 1 (.q 2 (.q 3 (.one 4 (.q 5 (.q 6 (.sp 7 (.q 7 (.q 8 (.q 9 (.q 10 (.q 11 (.q 12 (.q 13 (.q 14 (.q 15 .fin))))))))) (.q 7 (.q 8 (.q 9 (.q 10 (.q 11 (.q 12 (.q 13 (.q 14 (.q 15 .fin))))))))))))))))) [0, 1, 5, 18]) (.cond (.seq (.ops [6]) .leaf) .leaf))))) (.seq (.ops [0, 1, 5, 7]) (.seq (.join [] (.draw (.q 0 (.q 1 (.q 2 (.q 3 (.q 4 (.q 5 (.q 7 (.alt 6 (.one 8 (.one 9 (.one 10 .fin))) (.alt 8 (.one 6 (.one 9 (.one 10 .fin))) .fin))))))))) [])) (.seq (.ops [6]) .leaf)))))) (c := Try.f84.body.getD .skip) hent Try.func84 rfl (Nat.le_of_ble_eq_true (by kernel_rfl))
    (Eq.mp (show sh84 a0 a1 a2 w R = denF Try.prog ent false Try.f84 (.seq (.ops [0, 1, 5]) (.seq (.blk (.seq (.ops [0, 1, 5, 9]) (.cond (.seq (.ops [6]) .leaf) (.seq (.draw (.q 0 (.q 1 (.q 2 (.q 3 (.one 4 (.q 5 (.q 6 (.sp 7 (.q 7 (.q 8 (.q 9 (.q 10 (.q 11 (.q 12 (.q 13 (.q 14 (.q 15 .fin))))))))) (.q 7 (.q 8 (.q 9 (.q 10 (.q 11 (.q 12 (.q 13 (.q 14 (.q 15 .fin))))))))))))))))) [0, 1, 5, 18]) (.cond (.seq (.ops [6]) .leaf) .leaf))))) (.seq (.ops [0, 1, 5, 7]) (.seq (.join [] (.draw (.q 0 (.q 1 (.q 2 (.q 3 (.q 4 (.q 5 (.q 7 (.alt 6 (.one 8 (.one 9 (.one 10 .fin))) (.alt 8 (.one 6 (.one 9 (.one 10 .fin))) .fin))))))))) [])) (.seq (.ops [6]) .leaf))))) (Try.f84.body.getD .skip) [a0, a1, a2] w R by kernel_rfl) h)

/-! ### 85: slices.Clone[[]handbill/vers.Version[string],handbill/vers.Version[string]] -/
def sh85 (a0 : Value) (w : World) (R : Value → World → Prop) : Prop :=
 RunW Try.prog (bin .eql 55 (.tmp 3) (.const (.slice none 0 0)) a0 (.slice none 0 0)) w fun t4_1 =>
 IfB t4_1 (
 R (.slice none 0 0) w) (
 RunV Try.prog (Instr.buildSlice 55 0 #[]) w fun t5_2 w =>
 RunV Try.prog (Builtin.append_ #[55, 55] 55 #[t5_2, a0]) w fun t7_3 w =>
 R t7_3 w)
theorem sh85_calls {a0 : Value} {w : World} {R : Value → World → Prop} (h : sh85 a0 w R) : CallF Try.prog 85 #[a0] w R :=
  calls_of_denF (mk := false) (args := [a0]) (an := (.seq (.ops [0]) (.seq (.seq (.ops [0, 4]) (.cond (.seq (.ops [2]) .leaf) .leaf)) (.seq (.ops [2]) .leaf)))) (c := Try.f85.body.getD .skip) hent Try.func85 rfl (Nat.le_of_ble_eq_true (by kernel_rfl))
    (Eq.mp (show sh85 a0 w R = denF Try.prog ent false Try.f85 (.seq (.ops [0]) (.seq (.seq (.ops [0, 4]) (.cond (.seq (.ops [2]) .leaf) .leaf)) (.seq (.ops [2]) .leaf))) (Try.f85.body.getD .skip) [a0] w R by kernel_rfl) h)

/-! ### 86: (*handbill/hblref11.Store).add -/
def sh86 (a0 a1 a2 : Value) (w : World) (R : Value → World → Prop) : Prop :=
 RunV Try.prog (Instr.box 128 a2) w fun t5_1 w =>
 RunA Try.prog (Instr.fieldAt 128 t5_1 0) fun t9_2 =>
 RunW Try.prog (Instr.loadAt 3 t9_2) w fun t10_3 =>
 RunA Try.prog (bin .lss 3 (.tmp 10) (.const (.int .i64 1)) t10_3 (.int .i64 1)) fun t11_4 =>
 IfB t11_4 (
 R (.int .i64 1) w) (
 RunA Try.prog (Instr.fieldAt 128 t5_1 0) fun t13_5 =>
 RunW Try.prog (Instr.loadAt 3 t13_5) w fun t14_6 =>
 RunA Try.prog (bin .gtr 3 (.tmp 14) (.const (.int .i64 1099511627776)) t14_6 (.int .i64 1099511627776)) fun t15_7 =>
 IfB t15_7 (
 R (.int .i64 1) w) (
 drw (fun S_8 w =>
 RunA Try.prog (Instr.fieldAt 128 t5_1 0) fun t17_9 =>
 RunS Try.prog S_8 (Instr.loadAt 3 t17_9) fun t18_10 =>
 CallF Try.prog 40 #[a0, a1] w fun t21_11 w =>
 S_8 w ∧ (
 RunA Try.prog (bin .leq 3 (.tmp 18) (.tmp 21) t18_10 t21_11) fun t22_12 =>
 IfB t22_12 (
 R (.int .i64 12) w) (
 RunA Try.prog (Instr.fieldAt 128 t5_1 0) fun t24_13 =>
 RunS Try.prog S_8 (Instr.loadAt 3 t24_13) fun t25_14 =>
 RunA Try.prog (nilV a0) fun t27_15 =>
 RunA Try.prog (Instr.fieldAt 63 t27_15 1) fun t28_16 =>
 RunS Try.prog S_8 (Instr.loadAt 3 t28_16) fun t29_17 =>
 RunA Try.prog (bin .lss 3 (.tmp 25) (.tmp 29) t25_14 t29_17) fun t30_18 =>
 IfB t30_18 (
 R (.int .i64 12) w) (
 CallF Try.prog 88 #[a0, a1] w fun t35_19 w =>
 RunA Try.prog (Instr.extract t35_19 0) fun t36_20 =>
 RunA Try.prog (Instr.extract t35_19 1) fun t37_21 =>
 jn 3 (fun t0_22 t5_23 t7_24 w =>
 jn 0 (fun w =>
 R (.int .i64 0) w) fun j_26 =>
 drw (fun S_27 w =>
 RunA Try.prog (nilV t0_22) fun t61_28 =>
 RunA Try.prog (Instr.fieldAt 63 t61_28 0) fun t62_29 =>
 RunS Try.prog S_27 (Instr.loadAt 61 t62_29) fun t63_30 =>
 RunA Try.prog (nilV t0_22) fun t67_31 =>
 RunA Try.prog (Instr.fieldAt 63 t67_31 0) fun t68_32 =>
 RunS Try.prog S_27 (Instr.loadAt 61 t68_32) fun t69_33 =>
 RunA Try.prog (Instr.indexAt 61 t69_33 t7_24) fun t71_34 =>
 RunA Try.prog (Instr.fieldAt 130 t71_34 1) fun t72_35 =>
 RunS Try.prog S_27 (Instr.loadAt 65 t72_35) fun t73_36 =>
 RunS Try.prog S_27 (Instr.loadAt 128 t5_23) fun t75_37 =>
 (RunV Try.prog (Instr.buildSlice 65 0 #[]) w fun t65_38 w =>
 S_27 w ∧ (
 (RunV Try.prog (Builtin.append_ #[65, 65] 65 #[t65_38, t73_36]) w fun t74_39 w =>
 S_27 w ∧ (
 RunV Try.prog (Instr.buildSlice 65 1 #[(0, t75_37)]) w fun t76_40 w =>
 S_27 w ∧ (
 RunV Try.prog (Builtin.append_ #[65, 65] 65 #[t74_39, t76_40]) w fun t77_41 w =>
 S_27 w ∧ (
 RunA Try.prog (Instr.indexAt 61 t63_30 t7_24) fun t78_42 =>
 RunA Try.prog (Instr.fieldAt 130 t78_42 1) fun t79_43 =>
 RunU Try.prog (Instr.storeAt 65 t79_43 t77_41) w fun w =>
 j_26 w)))) ∧ (
 (RunV Try.prog (Instr.buildSlice 65 1 #[(0, t75_37)]) w fun t76_44 w =>
 S_27 w ∧ (
 RunV Try.prog (Builtin.append_ #[65, 65] 65 #[t65_38, t73_36]) w fun t74_45 w =>
 S_27 w ∧ (
 RunV Try.prog (Builtin.append_ #[65, 65] 65 #[t74_45, t76_44]) w fun t77_46 w =>
 S_27 w ∧ (
 RunA Try.prog (Instr.indexAt 61 t63_30 t7_24) fun t78_47 =>
 RunA Try.prog (Instr.fieldAt 130 t78_47 1) fun t79_48 =>
 RunU Try.prog (Instr.storeAt 65 t79_48 t77_46) w fun w =>
 j_26 w)))) ∧ (
 True)))) ∧ (
 (RunV Try.prog (Instr.buildSlice 65 1 #[(0, t75_37)]) w fun t76_49 w =>
 S_27 w ∧ (
 RunV Try.prog (Instr.buildSlice 65 0 #[]) w fun t65_50 w =>
 S_27 w ∧ (
 RunV Try.prog (Builtin.append_ #[65, 65] 65 #[t65_50, t73_36]) w fun t74_51 w =>
 S_27 w ∧ (
 RunV Try.prog (Builtin.append_ #[65, 65] 65 #[t74_51, t76_49]) w fun t77_52 w =>
 S_27 w ∧ (
 RunA Try.prog (Instr.indexAt 61 t63_30 t7_24) fun t78_53 =>
 RunA Try.prog (Instr.fieldAt 130 t78_53 1) fun t79_54 =>
 RunU Try.prog (Instr.storeAt 65 t79_54 t77_52) w fun w =>
 j_26 w))))) ∧ (
 True))) w) fun j_25 =>
 RunA Try.prog (Op.unary .not t37_21) fun t39_55 =>
 IfB t39_55 (
 drw (fun S_56 w =>
 RunA Try.prog (nilV a0) fun t42_57 =>
 RunA Try.prog (Instr.fieldAt 63 t42_57 0) fun t43_58 =>
 RunS Try.prog S_56 (Instr.loadAt 61 t43_58) fun t44_59 =>
 RunA Try.prog (Instr.sliceAt 61 t44_59 none (some t36_20) none) fun t46_60 =>
 RunA Try.prog (nilV a0) fun t51_61 =>
 RunA Try.prog (Instr.fieldAt 63 t51_61 0) fun t52_62 =>
 RunS Try.prog S_56 (Instr.loadAt 61 t52_62) fun t53_63 =>
 RunA Try.prog (Instr.sliceAt 61 t53_63 (some t36_20) none none) fun t55_64 =>
 RunV Try.prog (Instr.build 130 #[(0, a1)]) w fun t48_65 w =>
 S_56 w ∧ (
 RunV Try.prog (Instr.buildSlice 61 1 #[(0, t48_65)]) w fun t49_66 w =>
 S_56 w ∧ (
 RunV Try.prog (Builtin.append_ #[61, 61] 61 #[t49_66, t55_64]) w fun t56_67 w =>
 S_56 w ∧ (
 RunV Try.prog (Builtin.append_ #[61, 61] 61 #[t46_60, t56_67]) w fun t57_68 w =>
 RunA Try.prog (nilV a0) fun t58_69 =>
 RunA Try.prog (Instr.fieldAt 63 t58_69 0) fun t59_70 =>
 RunU Try.prog (Instr.storeAt 61 t59_70 t57_68) w fun w =>
 j_25 a0 t5_1 t36_20 w)))) w) (
 j_25 a0 t5_1 t36_20 w))))) w))
theorem sh86_calls {a0 a1 a2 : Value} {w : World} {R : Value → World → Prop} (h : sh86 a0 a1 a2 w R) : CallF Try.prog 86 #[a0, a1, a2] w R :=
  calls_of_denF (mk := false) (args := [a0, a1, a2]) (an := (.seq (.ops [0, 1, 5]) (.seq (.seq (.ops [0, 1, 5, 16]) (.cond (.seq (.ops [6]) .leaf) .leaf)) (.seq (.seq (.draw (.q 0 (.q 1 (.q 2 (.q 3 (.one 4 (.q 5 (.q 6 (.sp 7 (.q 7 (.q 8 (.q 9 (.q 10 (.q 11 (.q 12 (.q 13 (.q 14 .fin)))))))) (.q 7 (.q 8 (.q 9 (.q 10 (.q 11 (.q 12 (.q 13 (.q 14 .fin)))))))))))))))) [0, 1, 5, 31]) (.cond (.seq (.ops [6]) .leaf) .leaf)) (.seq (.ops [0, 1, 5, 7, 8]) (.seq (.join [0, 5, 7] (.seq (.ops [0, 1, 5, 7, 39]) (.cond (.draw (.q 0 (.q 1 (.q 2 (.q 3 (.q 4 (.q 5 (.q 6 (.q 7 (.q 10 (.q 11 (.q 12 (.q 13 (.q 14 (.q 15 (.one 8 (.one 9 (.one 16 (.one 17 (.q 18 (.q 19 (.one 20 .fin))))))))))))))))))))) [0, 5, 7]) .leaf))) (.seq (.join [] (.draw (.q 0 (.q 1 (.q 2 (.q 3 (.q 4 (.q 6 (.q 7 (.q 8 (.q 9 (.q 10 (.q 11 (.q 12 (.q 13 (.q 15 (.alt 5 (.alt 14 (.one 16 (.one 17 (.q 18 (.q 19 (.one 20 .fin))))) (.alt 16 (.one 14 (.one 17 (.q 18 (.q 19 (.one 20 .fin))))) .fin)) (.alt 16 (.one 5 (.one 14 (.one 17 (.q 18 (.q 19 (.one 20 .fin)))))) .fin)))))))))))))))) [])) (.seq (.ops [6]) .leaf)))))))) (c := Try.f86.body.getD .skip) hent Try.func86 rfl (Nat.le_of_ble_eq_true (by kernel_rfl))
    (Eq.mp (show sh86 a0 a1 a2 w R = denF Try.prog ent false Try.f86 (.seq (.ops [0, 1, 5]) (.seq (.seq (.ops [0, 1, 5, 16]) (.cond (.seq (.ops [6]) .leaf) .leaf)) (.seq (.seq (.draw (.q 0 (.q 1 (.q 2 (.q 3 (.one 4 (.q 5 (.q 6 (.sp 7 (.q 7 (.q 8 (.q 9 (.q 10 (.q 11 (.q 12 (.q 13 (.q 14 .fin)))))))) (.q 7 (.q 8 (.q 9 (.q 10 (.q 11 (.q 12 (.q 13 (.q 14 .fin)))))))))))))))) [0, 1, 5, 31]) (.cond (.seq (.ops [6]) .leaf) .leaf)) (.seq (.ops [0, 1, 5, 7, 8]) (.seq (.join [0, 5, 7] (.seq (.ops [0, 1, 5, 7, 39]) (.cond (.draw (.q 0 (.q 1 (.q 2 (.q 3 (.q 4 (.q 5 (.q 6 (.q 7 (.q 10 (.q 11 (.q 12 (.q 13 (.q 14 (.q 15 (.one 8 (.one 9 (.one 16 (.one 17 (.q 18 (.q 19 (.one 20 .fin))))))))))))))))))))) [0, 5, 7]) .leaf))) (.seq (.join [] (.draw (.q 0 (.q 1 (.q 2 (.q 3 (.q 4 (.q 6 (.q 7 (.q 8 (.q 9 (.q 10 (.q 11 (.q 12 (.q 13 (.q 15 (.alt 5 (.alt 14 (.one 16 (.one 17 (.q 18 (.q 19 (.one 20 .fin))))) (.alt 16 (.one 14 (.one 17 (.q 18 (.q 19 (.one 20 .fin))))) .fin)) (.alt 16 (.one 5 (.one 14 (.one 17 (.q 18 (.q 19 (.one 20 .fin)))))) .fin)))))))))))))))) [])) (.seq (.ops [6]) .leaf))))))) (Try.f86.body.getD .skip) [a0, a1, a2] w R by kernel_rfl) h)

/-! ### 87: (*handbill/omap.Map[string, []handbill/vers.Version[string]]).Copy -/
def sh87 (a0 : Value) (w : World) (R : Value → World → Prop) : Prop :=
 RunA Try.prog (nilV a0) fun t4_1 =>
 RunA Try.prog (Instr.fieldAt 159 t4_1 0) fun t5_2 =>
 RunW Try.prog (Instr.loadAt 157 t5_2) w fun t6_3 =>
 CallF Try.prog 112 #[t6_3] w fun t7_4 w =>
 RunV Try.prog (Instr.build 159 #[(0, t7_4)]) w fun t8_5 w =>
 RunV Try.prog (Instr.box 159 t8_5) w fun t9_6 w =>
 R t9_6 w
theorem sh87_calls {a0 : Value} {w : World} {R : Value → World → Prop} (h : sh87 a0 w R) : CallF Try.prog 87 #[a0] w R :=
  calls_of_denF (mk := false) (args := [a0]) (an := (.seq (.ops [0]) (.seq (.ops [2]) .leaf))) (c := Try.f87.body.getD .skip) hent Try.func87 rfl (Nat.le_of_ble_eq_true (by kernel_rfl))
    (Eq.mp (show sh87 a0 w R = denF Try.prog ent false Try.f87 (.seq (.ops [0]) (.seq (.ops [2]) .leaf)) (Try.f87.body.getD .skip) [a0] w R by kernel_rfl) h)

/-! ### 88: (*handbill/hblref11.Store).find -/
def sh88 (a0 a1 : Value) (w : World) (R : Value → World → Prop) : Prop :=
 drw (fun S_1 w =>
 RunA Try.prog (nilV a0) fun t10_2 =>
 RunA Try.prog (Instr.fieldAt 63 t10_2 0) fun t11_3 =>
 RunS Try.prog S_1 (Instr.loadAt 61 t11_3) fun t12_4 =>
 RunS Try.prog S_1 (Builtin.len_ #[61] 3 #[t12_4]) fun t13_5 =>
 lp 2 (fun n_8 t6_6 t7_7 w =>
 RunA Try.prog (bin .lss 3 (.tmp 14) (.tmp 15) t6_6 t7_7) fun t16_9 =>
 IfB t16_9 (
 RunA Try.prog (bin .add 3 (.tmp 17) (.tmp 18) t6_6 t7_7) fun t19_10 =>
 RunA Try.prog (bin .quo 3 (.tmp 19) (.const (.int .i64 2)) t19_10 (.int .i64 2)) fun t20_11 =>
 jn 4 (fun t0_12 t1_13 t6_14 t7_15 w =>
 (t0_12 : Value) = a0 ∧ ((t1_13 : Value) = a1 ∧ (n_8 t6_14 t7_15 w))) fun j_16 =>
 RunA Try.prog (nilV a0) fun t22_17 =>
 RunA Try.prog (Instr.fieldAt 63 t22_17 0) fun t23_18 =>
 RunW Try.prog (Instr.loadAt 61 t23_18) w fun t24_19 =>
 RunA Try.prog (Instr.indexAt 61 t24_19 t20_11) fun t26_20 =>
 RunA Try.prog (Instr.fieldAt 130 t26_20 0) fun t27_21 =>
 RunW Try.prog (Instr.loadAt 9 t27_21) w fun t28_22 =>
 RunA Try.prog (bin .lss 9 (.tmp 28) (.tmp 29) t28_22 a1) fun t30_23 =>
 IfB t30_23 (
 RunA Try.prog (bin .add 3 (.tmp 31) (.const (.int .i64 1)) t20_11 (.int .i64 1)) fun t32_24 =>
 j_16 a0 a1 t32_24 t7_7 w) (
 j_16 a0 a1 t6_6 t20_11 w)) (
 drw (fun S_25 w =>
 RunA Try.prog (nilV a0) fun t37_26 =>
 RunA Try.prog (Instr.fieldAt 63 t37_26 0) fun t38_27 =>
 RunS Try.prog S_25 (Instr.loadAt 61 t38_27) fun t39_28 =>
 RunS Try.prog S_25 (Builtin.len_ #[61] 3 #[t39_28]) fun t40_29 =>
 RunA Try.prog (bin .lss 3 (.tmp 35) (.tmp 40) t6_6 t40_29) fun t41_30 =>
 IfB t41_30 (
 RunA Try.prog (nilV a0) fun t44_31 =>
 RunA Try.prog (Instr.fieldAt 63 t44_31 0) fun t45_32 =>
 RunS Try.prog S_25 (Instr.loadAt 61 t45_32) fun t46_33 =>
 RunA Try.prog (Instr.indexAt 61 t46_33 t6_6) fun t48_34 =>
 RunA Try.prog (Instr.fieldAt 130 t48_34 0) fun t49_35 =>
 RunS Try.prog S_25 (Instr.loadAt 9 t49_35) fun t50_36 =>
 RunS Try.prog S_25 (bin .eql 9 (.tmp 50) (.tmp 51) t50_36 a1) fun t52_37 =>
 R (.tuple #[t6_6, t52_37]) w) (
 R (.tuple #[t6_6, (.bool false)]) w)) w)) [(.int .i64 0), t13_5] w) w
theorem sh88_calls {a0 a1 : Value} {w : World} {R : Value → World → Prop} (h : sh88 a0 a1 w R) : CallF Try.prog 88 #[a0, a1] w R :=
  calls_of_denF (mk := false) (args := [a0, a1]) (an := (.seq (.ops [0, 1]) (.seq (.draw (.q 0 (.q 1 (.q 2 (.q 3 (.q 4 (.q 5 (.q 6 .fin))))))) [0, 1, 6, 7]) (.seq (.blk (.loop [0, 1] [6, 7] (.seq (.seq (.ops [0, 1, 6, 7, 16]) (.cond .leaf .leaf)) (.blk (.seq (.ops [0, 1, 6, 7, 8]) (.join [0, 1, 6, 7] (.seq (.ops [0, 1, 6, 7, 8, 30]) (.cond (.ops [0, 1, 6, 7]) (.ops [0, 1, 6, 7]))))))))) (.seq (.draw (.q 0 (.q 1 (.q 2 (.q 3 (.q 4 (.q 5 (.q 6 (.q 7 (.q 8 (.sp 9 (.q 9 (.q 10 (.q 11 (.q 12 (.q 13 (.q 14 (.q 15 (.q 16 (.q 17 (.q 18 (.q 19 (.q 20 (.q 21 .fin))))))))))))) (.q 9 (.q 10 (.q 11 (.q 12 (.q 13 (.q 14 (.q 15 (.q 16 (.q 17 (.q 18 (.q 19 (.q 20 (.q 21 .fin))))))))))))))))))))))) [4, 5]) .leaf))))) (c := Try.f88.body.getD .skip) hent Try.func88 rfl (Nat.le_of_ble_eq_true (by kernel_rfl))
    (Eq.mp (show sh88 a0 a1 w R = denF Try.prog ent false Try.f88 (.seq (.ops [0, 1]) (.seq (.draw (.q 0 (.q 1 (.q 2 (.q 3 (.q 4 (.q 5 (.q 6 .fin))))))) [0, 1, 6, 7]) (.seq (.blk (.loop [0, 1] [6, 7] (.seq (.seq (.ops [0, 1, 6, 7, 16]) (.cond .leaf .leaf)) (.blk (.seq (.ops [0, 1, 6, 7, 8]) (.join [0, 1, 6, 7] (.seq (.ops [0, 1, 6, 7, 8, 30]) (.cond (.ops [0, 1, 6, 7]) (.ops [0, 1, 6, 7]))))))))) (.seq (.draw (.q 0 (.q 1 (.q 2 (.q 3 (.q 4 (.q 5 (.q 6 (.q 7 (.q 8 (.sp 9 (.q 9 (.q 10 (.q 11 (.q 12 (.q 13 (.q 14 (.q 15 (.q 16 (.q 17 (.q 18 (.q 19 (.q 20 (.q 21 .fin))))))))))))) (.q 9 (.q 10 (.q 11 (.q 12 (.q 13 (.q 14 (.q 15 (.q 16 (.q 17 (.q 18 (.q 19 (.q 20 (.q 21 .fin))))))))))))))))))))))) [4, 5]) .leaf)))) (Try.f88.body.getD .skip) [a0, a1] w R by kernel_rfl) h)

/-! ### 89: handbill/hblref11.seen -/
def sh89 (a0 a1 : Value) (w : World) (R : Value → World → Prop) : Prop :=
 RunW Try.prog (Builtin.len_ #[65] 3 #[a0]) w fun t8_1 =>
 RunA Try.prog (bin .sub 3 (.tmp 8) (.const (.int .i64 1)) t8_1 (.int .i64 1)) fun t9_2 =>
 lp 1 (fun n_4 t6_3 w =>
 RunA Try.prog (bin .geq 3 (.tmp 10) (.const (.int .i64 0)) t6_3 (.int .i64 0)) fun t11_5 =>
 IfB t11_5 (
 RunA Try.prog (Instr.indexAt 65 a0 t6_3) fun t16_6 =>
 RunA Try.prog (Instr.fieldAt 128 t16_6 0) fun t17_7 =>
 RunW Try.prog (Instr.loadAt 3 t17_7) w fun t18_8 =>
 RunA Try.prog (bin .leq 3 (.tmp 18) (.tmp 19) t18_8 a1) fun t20_9 =>
 IfB t20_9 (
 drw (fun S_10 w =>
 RunA Try.prog (Instr.indexAt 65 a0 t6_3) fun t23_11 =>
 RunA Try.prog (Instr.fieldAt 128 t23_11 1) fun t24_12 =>
 RunS Try.prog S_10 (Instr.loadAt 9 t24_12) fun t25_13 =>
 RunA Try.prog (Instr.indexAt 65 a0 t6_3) fun t28_14 =>
 RunA Try.prog (Instr.fieldAt 128 t28_14 2) fun t29_15 =>
 RunS Try.prog S_10 (Instr.loadAt 4 t29_15) fun t30_16 =>
 RunA Try.prog (Op.unary .not t30_16) fun t31_17 =>
 R (.tuple #[t25_13, t31_17]) w) w) (
 RunA Try.prog (bin .sub 3 (.tmp 12) (.const (.int .i64 1)) t6_3 (.int .i64 1)) fun t13_18 =>
 (a0 : Value) = a0 ∧ ((a1 : Value) = a1 ∧ (n_4 t13_18 w)))) (
 R (.tuple #[(.string ⟨#[]⟩), (.bool false)]) w)) [t9_2] w
theorem sh89_calls {a0 a1 : Value} {w : World} {R : Value → World → Prop} (h : sh89 a0 a1 w R) : CallF Try.prog 89 #[a0, a1] w R :=
  calls_of_denF (mk := false) (args := [a0, a1]) (an := (.seq (.ops [0, 1]) (.seq (.seq (.ops [0, 1, 6]) (.blk (.loop [0, 1] [6] (.seq (.seq (.ops [0, 1, 6, 11]) (.cond .leaf .leaf)) (.seq (.blk (.seq (.ops [0, 1, 6, 20]) (.cond (.seq (.draw (.q 0 (.q 1 (.q 2 (.q 3 (.q 4 (.q 5 (.q 6 (.q 7 (.q 8 (.q 9 (.q 10 (.q 11 (.q 12 .fin))))))))))))) [4, 5]) .leaf) .leaf))) (.ops [0, 1, 6])))))) (.seq (.ops [4, 5]) .leaf)))) (c := Try.f89.body.getD .skip) hent Try.func89 rfl (Nat.le_of_ble_eq_true (by kernel_rfl))
    (Eq.mp (show sh89 a0 a1 w R = denF Try.prog ent false Try.f89 (.seq (.ops [0, 1]) (.seq (.seq (.ops [0, 1, 6]) (.blk (.loop [0, 1] [6] (.seq (.seq (.ops [0, 1, 6, 11]) (.cond .leaf .leaf)) (.seq (.blk (.seq (.ops [0, 1, 6, 20]) (.cond (.seq (.draw (.q 0 (.q 1 (.q 2 (.q 3 (.q 4 (.q 5 (.q 6 (.q 7 (.q 8 (.q 9 (.q 10 (.q 11 (.q 12 .fin))))))))))))) [4, 5]) .leaf) .leaf))) (.ops [0, 1, 6])))))) (.seq (.ops [4, 5]) .leaf))) (Try.f89.body.getD .skip) [a0, a1] w R by kernel_rfl) h)

/-! ### 101: slices.Clone[[]handbill/vers.Version[int],handbill/vers.Version[int]] -/
def sh101 (a0 : Value) (w : World) (R : Value → World → Prop) : Prop :=
 RunW Try.prog (bin .eql 96 (.tmp 3) (.const (.slice none 0 0)) a0 (.slice none 0 0)) w fun t4_1 =>
 IfB t4_1 (
 R (.slice none 0 0) w) (
 RunV Try.prog (Instr.buildSlice 96 0 #[]) w fun t5_2 w =>
 RunV Try.prog (Builtin.append_ #[96, 96] 96 #[t5_2, a0]) w fun t7_3 w =>
 R t7_3 w)
theorem sh101_calls {a0 : Value} {w : World} {R : Value → World → Prop} (h : sh101 a0 w R) : CallF Try.prog 101 #[a0] w R :=
  calls_of_denF (mk := false) (args := [a0]) (an := (.seq (.ops [0]) (.seq (.seq (.ops [0, 4]) (.cond (.seq (.ops [2]) .leaf) .leaf)) (.seq (.ops [2]) .leaf)))) (c := Try.f101.body.getD .skip) hent Try.func101 rfl (Nat.le_of_ble_eq_true (by kernel_rfl))
    (Eq.mp (show sh101 a0 w R = denF Try.prog ent false Try.f101 (.seq (.ops [0]) (.seq (.seq (.ops [0, 4]) (.cond (.seq (.ops [2]) .leaf) .leaf)) (.seq (.ops [2]) .leaf))) (Try.f101.body.getD .skip) [a0] w R by kernel_rfl) h)

/-! ### 102: (*handbill/omap.Map[string, []handbill/vers.Version[int]]).All$1 -/
def sh102 (a0 a1 : Value) (w : World) (R : Value → World → Prop) : Prop :=
 RunW Try.prog (Instr.loadAt 94 a1) w fun t5_1 =>
 RunA Try.prog (nilV t5_1) fun t6_2 =>
 RunA Try.prog (Instr.fieldAt 149 t6_2 0) fun t7_3 =>
 RunW Try.prog (Instr.loadAt 147 t7_3) w fun t8_4 =>
 CallF Try.prog 103 #[t8_4] w fun t9_5 w =>
 RunW Try.prog (Builtin.len_ #[147] 3 #[t9_5]) w fun t10_6 =>
 lp 1 (fun n_8 t11_7 w =>
 RunA Try.prog (bin .lss 3 (.tmp 11) (.tmp 10) t11_7 t10_6) fun t12_9 =>
 IfB t12_9 (
 RunA Try.prog (Instr.indexAt 147 t9_5 t11_7) fun t13_10 =>
 RunW Try.prog (Instr.loadAt 153 t13_10) w fun t14_11 =>
 RunV Try.prog (Instr.alloc 153 true (.tuple #[])) w fun t4_12 w =>
 RunU Try.prog (Instr.storeAt 153 t4_12 t14_11) w fun w =>
 RunA Try.prog (Instr.fieldAt 153 t4_12 0) fun t16_13 =>
 RunW Try.prog (Instr.loadAt 9 t16_13) w fun t17_14 =>
 RunA Try.prog (Instr.fieldAt 153 t4_12 1) fun t18_15 =>
 RunW Try.prog (Instr.loadAt 96 t18_15) w fun t19_16 =>
 CallV Try.prog a0 #[t17_14, t19_16] w fun t20_17 w =>
 RunA Try.prog (Op.unary .not t20_17) fun t21_18 =>
 IfB t21_18 (
 R (.tuple #[]) w) (
 RunA Try.prog (bin .add 3 (.tmp 11) (.const (.int .i64 1)) t11_7 (.int .i64 1)) fun t22_19 =>
 (a0 : Value) = a0 ∧ ((t9_5 : Value) = t9_5 ∧ ((t10_6 : Value) = t10_6 ∧ (n_8 t22_19 w))))) (
 R (.tuple #[]) w)) [(.int .i64 0)] w
theorem sh102_calls {a0 a1 : Value} {w : World} {R : Value → World → Prop} (h : sh102 a0 a1 w R) : CallF Try.prog 102 #[a0, a1] w R :=
  calls_of_denF (mk := false) (args := [a0, a1]) (an := (.seq (.ops [0, 9, 10, 11]) (.blk (.loop [0, 9, 10] [11] (.seq (.ops [0, 9, 10, 11, 12]) (.seq (.cond .leaf .leaf) (.seq (.blk (.seq (.ops [0, 4, 9, 10, 11]) (.seq (.ops [0, 9, 10, 11, 21]) (.cond .leaf .leaf)))) (.ops [0, 9, 10, 11])))))))) (c := Try.f102.body.getD .skip) hent Try.func102 rfl (Nat.le_of_ble_eq_true (by kernel_rfl))
    (Eq.mp (show sh102 a0 a1 w R = denF Try.prog ent false Try.f102 (.seq (.ops [0, 9, 10, 11]) (.blk (.loop [0, 9, 10] [11] (.seq (.ops [0, 9, 10, 11, 12]) (.seq (.cond .leaf .leaf) (.seq (.blk (.seq (.ops [0, 4, 9, 10, 11]) (.seq (.ops [0, 9, 10, 11, 21]) (.cond .leaf .leaf)))) (.ops [0, 9, 10, 11]))))))) (Try.f102.body.getD .skip) [a0, a1] w R by kernel_rfl) h)

/-! ### 103: slices.Clone[[]handbill/omap.pair[string, []handbill/vers.Version[int]],handbill/omap.pair[string, []handbill/vers.Version[int]]] -/
def sh103 (a0 : Value) (w : World) (R : Value → World → Prop) : Prop :=
 RunW Try.prog (bin .eql 147 (.tmp 3) (.const (.slice none 0 0)) a0 (.slice none 0 0)) w fun t4_1 =>
 IfB t4_1 (
 R (.slice none 0 0) w) (
 RunV Try.prog (Instr.buildSlice 147 0 #[]) w fun t5_2 w =>
 RunV Try.prog (Builtin.append_ #[147, 147] 147 #[t5_2, a0]) w fun t7_3 w =>
 R t7_3 w)
theorem sh103_calls {a0 : Value} {w : World} {R : Value → World → Prop} (h : sh103 a0 w R) : CallF Try.prog 103 #[a0] w R :=
  calls_of_denF (mk := false) (args := [a0]) (an := (.seq (.ops [0]) (.seq (.seq (.ops [0, 4]) (.cond (.seq (.ops [2]) .leaf) .leaf)) (.seq (.ops [2]) .leaf)))) (c := Try.f103.body.getD .skip) hent Try.func103 rfl (Nat.le_of_ble_eq_true (by kernel_rfl))
    (Eq.mp (show sh103 a0 w R = denF Try.prog ent false Try.f103 (.seq (.ops [0]) (.seq (.seq (.ops [0, 4]) (.cond (.seq (.ops [2]) .leaf) .leaf)) (.seq (.ops [2]) .leaf))) (Try.f103.body.getD .skip) [a0] w R by kernel_rfl) h)

/-! ### 104: (*handbill/omap.Map[string, []handbill/vers.Version[int]]).find -/
def sh104 (a0 a1 : Value) (w : World) (R : Value → World → Prop) : Prop :=
 RunA Try.prog (nilV a0) fun t7_1 =>
 RunA Try.prog (Instr.fieldAt 149 t7_1 0) fun t8_2 =>
 RunW Try.prog (Instr.loadAt 147 t8_2) w fun t9_3 =>
 CallF Try.prog 127 #[t9_3, a1, (.func (.func 128) #[] #[])] w fun t11_4 w =>
 RunA Try.prog (Instr.extract t11_4 0) fun t12_5 =>
 RunA Try.prog (Instr.extract t11_4 1) fun t13_6 =>
 R (.tuple #[t12_5, t13_6]) w
theorem sh104_calls {a0 a1 : Value} {w : World} {R : Value → World → Prop} (h : sh104 a0 a1 w R) : CallF Try.prog 104 #[a0, a1] w R :=
  calls_of_denF (mk := false) (args := [a0, a1]) (an := (.seq (.ops [0, 1]) (.seq (.ops [4, 5]) .leaf))) (c := Try.f104.body.getD .skip) hent Try.func104 rfl (Nat.le_of_ble_eq_true (by kernel_rfl))
    (Eq.mp (show sh104 a0 a1 w R = denF Try.prog ent false Try.f104 (.seq (.ops [0, 1]) (.seq (.ops [4, 5]) .leaf)) (Try.f104.body.getD .skip) [a0, a1] w R by kernel_rfl) h)

/-! ### 105: handbill/vers.seen[int] -/
def sh105 (a0 a1 : Value) (w : World) (R : Value → World → Prop) : Prop :=
 RunW Try.prog (Builtin.len_ #[96] 3 #[a0]) w fun t7_1 =>
 RunA Try.prog (bin .sub 3 (.tmp 7) (.const (.int .i64 1)) t7_1 (.int .i64 1)) fun t8_2 =>
 jn 1 (fun t5_3 w =>
 R t5_3 w) fun j_4 =>
 lp 1 (fun n_6 t5_5 w =>
 RunA Try.prog (bin .geq 3 (.tmp 9) (.const (.int .i64 0)) t5_5 (.int .i64 0)) fun t10_7 =>
 IfB t10_7 (
 RunA Try.prog (Instr.indexAt 96 a0 t5_5) fun t14_8 =>
 RunA Try.prog (Instr.fieldAt 101 t14_8 0) fun t15_9 =>
 RunW Try.prog (Instr.loadAt 3 t15_9) w fun t16_10 =>
 RunA Try.prog (bin .gtr 3 (.tmp 16) (.tmp 17) t16_10 a1) fun t18_11 =>
 IfB t18_11 (
 RunA Try.prog (bin .sub 3 (.tmp 20) (.const (.int .i64 1)) t5_5 (.int .i64 1)) fun t21_12 =>
 (a0 : Value) = a0 ∧ ((a1 : Value) = a1 ∧ (n_6 t21_12 w))) (
 j_4 t5_5 w)) (
 j_4 t5_5 w)) [t8_2] w
theorem sh105_calls {a0 a1 : Value} {w : World} {R : Value → World → Prop} (h : sh105 a0 a1 w R) : CallF Try.prog 105 #[a0, a1] w R :=
  calls_of_denF (mk := false) (args := [a0, a1]) (an := (.seq (.ops [0, 1]) (.seq (.ops [0, 1, 5]) (.seq (.join [5] (.blk (.loop [0, 1] [5] (.seq (.seq (.ops [0, 1, 5, 19]) (.cond .leaf .leaf)) (.blk (.ops [0, 1, 5])))))) (.seq (.ops [4]) .leaf))))) (c := Try.f105.body.getD .skip) hent Try.func105 rfl (Nat.le_of_ble_eq_true (by kernel_rfl))
    (Eq.mp (show sh105 a0 a1 w R = denF Try.prog ent false Try.f105 (.seq (.ops [0, 1]) (.seq (.ops [0, 1, 5]) (.seq (.join [5] (.blk (.loop [0, 1] [5] (.seq (.seq (.ops [0, 1, 5, 19]) (.cond .leaf .leaf)) (.blk (.ops [0, 1, 5])))))) (.seq (.ops [4]) .leaf)))) (Try.f105.body.getD .skip) [a0, a1] w R by kernel_rfl) h)

/-! ### 106: slices.Delete[[]handbill/omap.pair[string, []handbill/vers.Version[int]],handbill/omap.pair[string, []handbill/vers.Version[int]]] -/
def sh106 (a0 a1 a2 : Value) (w : World) (R : Value → World → Prop) : Prop :=
 RunW Try.prog (Builtin.len_ #[147] 3 #[a0]) w fun t12_1 =>
 RunA Try.prog (Instr.sliceAt 147 a0 (some a1) (some a2) (some t12_1)) fun t13_2 =>
 RunW Try.prog (bin .eql 3 (.tmp 14) (.tmp 15) a1 a2) w fun t16_3 =>
 IfB t16_3 (
 R a0 w) (
 RunW Try.prog (Builtin.len_ #[147] 3 #[a0]) w fun t19_4 =>
 drw (fun S_5 w =>
 RunA Try.prog (Instr.sliceAt 147 a0 none (some a1) none) fun t22_6 =>
 RunA Try.prog (Instr.sliceAt 147 a0 (some a2) none none) fun t25_7 =>
 RunV Try.prog (Builtin.append_ #[147, 147] 147 #[t22_6, t25_7]) w fun t26_8 w =>
 RunW Try.prog (Builtin.len_ #[147] 3 #[t26_8]) w fun t29_9 =>
 RunA Try.prog (Instr.sliceAt 147 t26_8 (some t29_9) (some t19_4) none) fun t31_10 =>
 RunV Try.prog (Builtin.clear_ #[147] 0 #[t31_10]) w fun t_11 w =>
 R t26_8 w) w)
theorem sh106_calls {a0 a1 a2 : Value} {w : World} {R : Value → World → Prop} (h : sh106 a0 a1 a2 w R) : CallF Try.prog 106 #[a0, a1, a2] w R :=
  calls_of_denF (mk := false) (args := [a0, a1, a2]) (an := (.seq (.ops [0, 1, 2]) (.seq (.ops [0, 1, 2]) (.seq (.seq (.ops [0, 1, 2, 16]) (.cond (.seq (.ops [6]) .leaf) .leaf)) (.seq (.ops [0, 1, 2, 7]) (.seq (.draw (.q 0 (.q 1 (.q 2 (.q 3 (.q 4 (.q 5 (.one 6 (.q 7 .fin)))))))) [0, 7]) (.seq (.ops [0]) (.seq (.ops [6]) .leaf)))))))) (c := Try.f106.body.getD .skip) hent Try.func106 rfl (Nat.le_of_ble_eq_true (by kernel_rfl))
    (Eq.mp (show sh106 a0 a1 a2 w R = denF Try.prog ent false Try.f106 (.seq (.ops [0, 1, 2]) (.seq (.ops [0, 1, 2]) (.seq (.seq (.ops [0, 1, 2, 16]) (.cond (.seq (.ops [6]) .leaf) .leaf)) (.seq (.ops [0, 1, 2, 7]) (.seq (.draw (.q 0 (.q 1 (.q 2 (.q 3 (.q 4 (.q 5 (.one 6 (.q 7 .fin)))))))) [0, 7]) (.seq (.ops [0]) (.seq (.ops [6]) .leaf))))))) (Try.f106.body.getD .skip) [a0, a1, a2] w R by kernel_rfl) h)

/-! ### 107: slices.Insert[[]handbill/omap.pair[string, []handbill/vers.Version[int]],handbill/omap.pair[string, []handbill/vers.Version[int]]] -/
def sh107 (a0 a1 a2 : Value) (w : World) (R : Value → World → Prop) : Prop :=
 RunA Try.prog (Instr.sliceAt 147 a0 (some a1) none none) fun t12_1 =>
 RunW Try.prog (Builtin.len_ #[147] 3 #[a2]) w fun t14_2 =>
 RunW Try.prog (bin .eql 3 (.tmp 15) (.const (.int .i64 0)) t14_2 (.int .i64 0)) w fun t16_3 =>
 IfB t16_3 (
 R a0 w) (
 RunW Try.prog (Builtin.len_ #[147] 3 #[a0]) w fun t19_4 =>
 RunW Try.prog (bin .eql 3 (.tmp 20) (.tmp 21) a1 t19_4) w fun t22_5 =>
 IfB t22_5 (
 RunV Try.prog (Builtin.append_ #[147, 147] 147 #[a0, a2]) w fun t25_6 w =>
 R t25_6 w) (
 RunA Try.prog (bin .add 3 (.tmp 26) (.tmp 27) t19_4 t14_2) fun t28_7 =>
 RunW Try.prog (Builtin.cap_ #[147] 3 #[a0]) w fun t30_8 =>
 RunA Try.prog (bin .gtr 3 (.tmp 28) (.tmp 30) t28_7 t30_8) fun t31_9 =>
 IfB t31_9 (
 RunA Try.prog (Instr.sliceAt 147 a0 none (some a1) none) fun t34_10 =>
 RunA Try.prog (bin .add 3 (.tmp 35) (.tmp 36) t19_4 t14_2) fun t37_11 =>
 RunA Try.prog (bin .sub 3 (.tmp 37) (.tmp 38) t37_11 a1) fun t39_12 =>
 RunV Try.prog (Builtin.append_ #[147, 3] 147 #[t34_10, t39_12]) w fun t40_13 w =>
 RunA Try.prog (Instr.sliceAt 147 t40_13 (some a1) none none) fun t43_14 =>
 RunV Try.prog (Builtin.copy_ #[147, 147] 3 #[t43_14, a2]) w fun t45_15 w =>
 drw (fun S_16 w =>
 RunA Try.prog (bin .add 3 (.tmp 47) (.tmp 48) a1 t14_2) fun t49_17 =>
 RunA Try.prog (Instr.sliceAt 147 t40_13 (some t49_17) none none) fun t50_18 =>
 RunA Try.prog (Instr.sliceAt 147 a0 (some a1) none none) fun t53_19 =>
 RunV Try.prog (Builtin.copy_ #[147, 147] 3 #[t50_18, t53_19]) w fun t54_20 w =>
 R t40_13 w) w) (
 RunA Try.prog (bin .add 3 (.tmp 57) (.tmp 58) t19_4 t14_2) fun t59_21 =>
 RunA Try.prog (Instr.sliceAt 147 a0 none (some t59_21) none) fun t60_22 =>
 RunA Try.prog (bin .add 3 (.tmp 63) (.tmp 64) a1 t14_2) fun t65_23 =>
 RunA Try.prog (Instr.sliceAt 147 t60_22 (some t65_23) none none) fun t66_24 =>
 RunO Try.prog (callFunc 130 #[a2, t66_24]) w fun t67_25 w =>
 RunA Try.prog (Op.unary .not t67_25) fun t68_26 =>
 IfB t68_26 (
 drw (fun S_27 w =>
 RunA Try.prog (bin .add 3 (.tmp 70) (.tmp 71) a1 t14_2) fun t72_28 =>
 RunA Try.prog (Instr.sliceAt 147 t60_22 (some t72_28) none none) fun t73_29 =>
 RunA Try.prog (Instr.sliceAt 147 t60_22 (some a1) none none) fun t76_30 =>
 RunV Try.prog (Builtin.copy_ #[147, 147] 3 #[t73_29, t76_30]) w fun t77_31 w =>
 RunA Try.prog (Instr.sliceAt 147 t60_22 (some a1) none none) fun t80_32 =>
 RunV Try.prog (Builtin.copy_ #[147, 147] 3 #[t80_32, a2]) w fun t82_33 w =>
 R t60_22 w) w) (
 RunA Try.prog (Instr.sliceAt 147 t60_22 (some t19_4) none none) fun t86_34 =>
 RunV Try.prog (Builtin.copy_ #[147, 147] 3 #[t86_34, a2]) w fun t88_35 w =>
 RunA Try.prog (Instr.sliceAt 147 t60_22 (some a1) none none) fun t91_36 =>
 RunO Try.prog (callFunc 131 #[t91_36, t14_2]) w fun t93_37 w =>
 R t60_22 w))))
theorem sh107_calls {a0 a1 a2 : Value} {w : World} {R : Value → World → Prop} (h : sh107 a0 a1 a2 w R) : CallF Try.prog 107 #[a0, a1, a2] w R :=
  calls_of_denF (mk := false) (args := [a0, a1, a2]) (an := (.seq (.ops [0, 1, 2]) (.seq (.ops [0, 1, 2]) (.seq (.ops [0, 1, 2, 7]) (.seq (.seq (.ops [0, 1, 2, 7, 16]) (.cond (.seq (.ops [6]) .leaf) .leaf)) (.seq (.ops [0, 1, 2, 7, 8]) (.seq (.seq (.ops [0, 1, 2, 7, 8, 22]) (.cond (.seq (.ops [6]) .leaf) .leaf)) (.seq (.seq (.ops [0, 1, 2, 7, 8, 31]) (.cond (.seq (.ops [0, 1, 2, 7, 9]) (.seq (.ops [0, 1, 7, 9]) (.seq (.draw (.q 0 (.q 1 (.q 2 (.q 3 (.q 4 (.q 5 (.q 6 (.q 7 (.one 8 .fin))))))))) [9]) (.seq (.ops [6]) .leaf)))) .leaf)) (.seq (.ops [0, 1, 2, 7, 8]) (.seq (.seq (.ops [0, 1, 2, 7, 8, 68]) (.cond (.seq (.draw (.q 0 (.q 1 (.q 2 (.q 3 (.q 4 (.q 5 (.q 6 (.q 7 (.one 8 .fin))))))))) [0, 1, 2]) (.seq (.ops [0]) (.seq (.ops [6]) .leaf))) .leaf)) (.seq (.ops [0, 1, 7]) (.seq (.ops [0]) (.seq (.ops [6]) .leaf))))))))))))) (c := Try.f107.body.getD .skip) hent Try.func107 rfl (Nat.le_of_ble_eq_true (by kernel_rfl))
    (Eq.mp (show sh107 a0 a1 a2 w R = denF Try.prog ent false Try.f107 (.seq (.ops [0, 1, 2]) (.seq (.ops [0, 1, 2]) (.seq (.ops [0, 1, 2, 7]) (.seq (.seq (.ops [0, 1, 2, 7, 16]) (.cond (.seq (.ops [6]) .leaf) .leaf)) (.seq (.ops [0, 1, 2, 7, 8]) (.seq (.seq (.ops [0, 1, 2, 7, 8, 22]) (.cond (.seq (.ops [6]) .leaf) .leaf)) (.seq (.seq (.ops [0, 1, 2, 7, 8, 31]) (.cond (.seq (.ops [0, 1, 2, 7, 9]) (.seq (.ops [0, 1, 7, 9]) (.seq (.draw (.q 0 (.q 1 (.q 2 (.q 3 (.q 4 (.q 5 (.q 6 (.q 7 (.one 8 .fin))))))))) [9]) (.seq (.ops [6]) .leaf)))) .leaf)) (.seq (.ops [0, 1, 2, 7, 8]) (.seq (.seq (.ops [0, 1, 2, 7, 8, 68]) (.cond (.seq (.draw (.q 0 (.q 1 (.q 2 (.q 3 (.q 4 (.q 5 (.q 6 (.q 7 (.one 8 .fin))))))))) [0, 1, 2]) (.seq (.ops [0]) (.seq (.ops [6]) .leaf))) .leaf)) (.seq (.ops [0, 1, 7]) (.seq (.ops [0]) (.seq (.ops [6]) .leaf)))))))))))) (Try.f107.body.getD .skip) [a0, a1, a2] w R by kernel_rfl) h)

/-! ### 108: (*handbill/omap.Map[string, []handbill/vers.Version[string]]).Range -/
def sh108 (a0 a1 a2 : Value) (w : World) (R : Value → World → Prop) : Prop :=
 RunV Try.prog (Instr.box 111 a0) w fun t3_1 w =>
 RunV Try.prog (Instr.box 9 a1) w fun t4_2 w =>
 RunV Try.prog (Instr.box 9 a2) w fun t5_3 w =>
 RunV Try.prog (Instr.makeFunc (Go.Fn.func 132) #[] #[t3_1, t4_2, t5_3]) w fun t7_4 w =>
 R t7_4 w
theorem sh108_calls {a0 a1 a2 : Value} {w : World} {R : Value → World → Prop} (h : sh108 a0 a1 a2 w R) : CallF Try.prog 108 #[a0, a1, a2] w R :=
  calls_of_denF (mk := false) (args := [a0, a1, a2]) (an := (.seq (.ops [3, 4, 5]) (.seq (.ops [6]) .leaf))) (c := Try.f108.body.getD .skip) hent Try.func108 rfl (Nat.le_of_ble_eq_true (by kernel_rfl))
    (Eq.mp (show sh108 a0 a1 a2 w R = denF Try.prog ent false Try.f108 (.seq (.ops [3, 4, 5]) (.seq (.ops [6]) .leaf)) (Try.f108.body.getD .skip) [a0, a1, a2] w R by kernel_rfl) h)

/-! ### 109: (*handbill/vers.Store[string]).within$1 -/
def sh109 (a0 a1 a2 : Value) (w : World) (R : Value → World → Prop) : Prop :=
 RunV Try.prog (Instr.box 122 a0) w fun t3_1 w =>
 RunW Try.prog (Instr.loadAt 35 a1) w fun t6_2 =>
 RunA Try.prog (nilV t6_2) fun t7_3 =>
 RunA Try.prog (Instr.fieldAt 114 t7_3 0) fun t8_4 =>
 RunW Try.prog (Instr.loadAt 111 t8_4) w fun t9_5 =>
 CallF Try.prog 79 #[t9_5] w fun t10_6 w =>
 rngP Try.prog none 2 4 (fun l_7 K_8 t11_14 t12_15 w =>
 K_8 a2 t3_1 t11_14 t12_15 w) (fun l_7 kn_9 ks_10 t2_16 t3_17 t4_18 t5_19 w =>
 jn 0 (fun w =>
 kn_9 w) fun j_20 =>
 RunW Try.prog (Instr.loadAt 9 t2_16) w fun t14_21 =>
 RunA Try.prog (bin .geq 9 (.tmp 13) (.tmp 14) t4_18 t14_21) fun t15_22 =>
 IfB t15_22 (
 RunW Try.prog (Instr.loadAt 122 t3_17) w fun t17_23 =>
 CallV Try.prog t17_23 #[t4_18, t5_19] w fun t20_24 w =>
 RunA Try.prog (Op.unary .not t20_24) fun t21_25 =>
 IfB t21_25 (
 ks_10 .ret w) (
 j_20 w)) (
 j_20 w)) t10_6 w (fun D_11 w =>
 (w).heap[D_11]? = some (.deferred (some [])) ∧ (
 R (.tuple #[]) (w.putObj D_11 (.deferred none)))) (fun D_11 c_12 w => jumpK (fun i_13 w =>
 bif Nat.beq i_13 0 then (
 (w).heap[D_11]? = some (.deferred (some [])) ∧ (
 R (.tuple #[]) (w.putObj D_11 (.deferred none)))) else (
 False)) (fun w =>
 (w).heap[D_11]? = some (.deferred (some [])) ∧ (
 R (.tuple #[]) (w.putObj D_11 (.deferred none)))) c_12 w)
theorem sh109_calls {a0 a1 a2 : Value} {w : World} {R : Value → World → Prop} (h : sh109 a0 a1 a2 w R) : CallF Try.prog 109 #[a0, a1, a2] w R :=
  calls_of_denF (mk := true) (args := [a0, a1, a2]) (an := (.seq (.ops [1, 2, 3]) (.seq (.ops [2, 3, 10]) (.blk (.rng [2, 3, 4, 5] (.seq (.ops [2, 3, 4, 12]) (.ops [2, 3, 4, 5])) (.blk (.join [] (.seq (.ops [22]) (.cond .leaf .leaf))))))))) (c := Try.f109.body.getD .skip) hent Try.func109 rfl (Nat.le_of_ble_eq_true (by kernel_rfl))
    (Eq.mp (show sh109 a0 a1 a2 w R = denF Try.prog ent true Try.f109 (.seq (.ops [1, 2, 3]) (.seq (.ops [2, 3, 10]) (.blk (.rng [2, 3, 4, 5] (.seq (.ops [2, 3, 4, 12]) (.ops [2, 3, 4, 5])) (.blk (.join [] (.seq (.ops [22]) (.cond .leaf .leaf)))))))) (Try.f109.body.getD .skip) [a0, a1, a2] w R by kernel_rfl) h)

/-! ### 110: handbill/vers.seen[string] -/
def sh110 (a0 a1 : Value) (w : World) (R : Value → World → Prop) : Prop :=
 RunW Try.prog (Builtin.len_ #[55] 3 #[a0]) w fun t7_1 =>
 RunA Try.prog (bin .sub 3 (.tmp 7) (.const (.int .i64 1)) t7_1 (.int .i64 1)) fun t8_2 =>
 jn 1 (fun t5_3 w =>
 R t5_3 w) fun j_4 =>
 lp 1 (fun n_6 t5_5 w =>
 RunA Try.prog (bin .geq 3 (.tmp 9) (.const (.int .i64 0)) t5_5 (.int .i64 0)) fun t10_7 =>
 IfB t10_7 (
 RunA Try.prog (Instr.indexAt 55 a0 t5_5) fun t14_8 =>
 RunA Try.prog (Instr.fieldAt 58 t14_8 0) fun t15_9 =>
 RunW Try.prog (Instr.loadAt 3 t15_9) w fun t16_10 =>
 RunA Try.prog (bin .gtr 3 (.tmp 16) (.tmp 17) t16_10 a1) fun t18_11 =>
 IfB t18_11 (
 RunA Try.prog (bin .sub 3 (.tmp 20) (.const (.int .i64 1)) t5_5 (.int .i64 1)) fun t21_12 =>
 (a0 : Value) = a0 ∧ ((a1 : Value) = a1 ∧ (n_6 t21_12 w))) (
 j_4 t5_5 w)) (
 j_4 t5_5 w)) [t8_2] w
theorem sh110_calls {a0 a1 : Value} {w : World} {R : Value → World → Prop} (h : sh110 a0 a1 w R) : CallF Try.prog 110 #[a0, a1] w R :=
  calls_of_denF (mk := false) (args := [a0, a1]) (an := (.seq (.ops [0, 1]) (.seq (.ops [0, 1, 5]) (.seq (.join [5] (.blk (.loop [0, 1] [5] (.seq (.seq (.ops [0, 1, 5, 19]) (.cond .leaf .leaf)) (.blk (.ops [0, 1, 5])))))) (.seq (.ops [4]) .leaf))))) (c := Try.f110.body.getD .skip) hent Try.func110 rfl (Nat.le_of_ble_eq_true (by kernel_rfl))
    (Eq.mp (show sh110 a0 a1 w R = denF Try.prog ent false Try.f110 (.seq (.ops [0, 1]) (.seq (.ops [0, 1, 5]) (.seq (.join [5] (.blk (.loop [0, 1] [5] (.seq (.seq (.ops [0, 1, 5, 19]) (.cond .leaf .leaf)) (.blk (.ops [0, 1, 5])))))) (.seq (.ops [4]) .leaf)))) (Try.f110.body.getD .skip) [a0, a1] w R by kernel_rfl) h)

/-! ### 111: (*handbill/omap.Map[string, []handbill/vers.Version[string]]).All$1 -/
def sh111 (a0 a1 : Value) (w : World) (R : Value → World → Prop) : Prop :=
 RunW Try.prog (Instr.loadAt 111 a1) w fun t5_1 =>
 RunA Try.prog (nilV t5_1) fun t6_2 =>
 RunA Try.prog (Instr.fieldAt 159 t6_2 0) fun t7_3 =>
 RunW Try.prog (Instr.loadAt 157 t7_3) w fun t8_4 =>
 CallF Try.prog 112 #[t8_4] w fun t9_5 w =>
 RunW Try.prog (Builtin.len_ #[157] 3 #[t9_5]) w fun t10_6 =>
 lp 1 (fun n_8 t11_7 w =>
 RunA Try.prog (bin .lss 3 (.tmp 11) (.tmp 10) t11_7 t10_6) fun t12_9 =>
 IfB t12_9 (
 RunA Try.prog (Instr.indexAt 157 t9_5 t11_7) fun t13_10 =>
 RunW Try.prog (Instr.loadAt 163 t13_10) w fun t14_11 =>
 RunV Try.prog (Instr.alloc 163 true (.tuple #[])) w fun t4_12 w =>
 RunU Try.prog (Instr.storeAt 163 t4_12 t14_11) w fun w =>
 RunA Try.prog (Instr.fieldAt 163 t4_12 0) fun t16_13 =>
 RunW Try.prog (Instr.loadAt 9 t16_13) w fun t17_14 =>
 RunA Try.prog (Instr.fieldAt 163 t4_12 1) fun t18_15 =>
 RunW Try.prog (Instr.loadAt 55 t18_15) w fun t19_16 =>
 CallV Try.prog a0 #[t17_14, t19_16] w fun t20_17 w =>
 RunA Try.prog (Op.unary .not t20_17) fun t21_18 =>
 IfB t21_18 (
 R (.tuple #[]) w) (
 RunA Try.prog (bin .add 3 (.tmp 11) (.const (.int .i64 1)) t11_7 (.int .i64 1)) fun t22_19 =>
 (a0 : Value) = a0 ∧ ((t9_5 : Value) = t9_5 ∧ ((t10_6 : Value) = t10_6 ∧ (n_8 t22_19 w))))) (
 R (.tuple #[]) w)) [(.int .i64 0)] w
theorem sh111_calls {a0 a1 : Value} {w : World} {R : Value → World → Prop} (h : sh111 a0 a1 w R) : CallF Try.prog 111 #[a0, a1] w R :=
  calls_of_denF (mk := false) (args := [a0, a1]) (an := (.seq (.ops [0, 9, 10, 11]) (.blk (.loop [0, 9, 10] [11] (.seq (.ops [0, 9, 10, 11, 12]) (.seq (.cond .leaf .leaf) (.seq (.blk (.seq (.ops [0, 4, 9, 10, 11]) (.seq (.ops [0, 9, 10, 11, 21]) (.cond .leaf .leaf)))) (.ops [0, 9, 10, 11])))))))) (c := Try.f111.body.getD .skip) hent Try.func111 rfl (Nat.le_of_ble_eq_true (by kernel_rfl))
    (Eq.mp (show sh111 a0 a1 w R = denF Try.prog ent false Try.f111 (.seq (.ops [0, 9, 10, 11]) (.blk (.loop [0, 9, 10] [11] (.seq (.ops [0, 9, 10, 11, 12]) (.seq (.cond .leaf .leaf) (.seq (.blk (.seq (.ops [0, 4, 9, 10, 11]) (.seq (.ops [0, 9, 10, 11, 21]) (.cond .leaf .leaf)))) (.ops [0, 9, 10, 11]))))))) (Try.f111.body.getD .skip) [a0, a1] w R by kernel_rfl) h)

/-! ### 112: slices.Clone[[]handbill/omap.pair[string, []handbill/vers.Version[string]],handbill/omap.pair[string, []handbill/vers.Version[string]]] -/
def sh112 (a0 : Value) (w : World) (R : Value → World → Prop) : Prop :=
 RunW Try.prog (bin .eql 157 (.tmp 3) (.const (.slice none 0 0)) a0 (.slice none 0 0)) w fun t4_1 =>
 IfB t4_1 (
 R (.slice none 0 0) w) (
 RunV Try.prog (Instr.buildSlice 157 0 #[]) w fun t5_2 w =>
 RunV Try.prog (Builtin.append_ #[157, 157] 157 #[t5_2, a0]) w fun t7_3 w =>
 R t7_3 w)
theorem sh112_calls {a0 : Value} {w : World} {R : Value → World → Prop} (h : sh112 a0 w R) : CallF Try.prog 112 #[a0] w R :=
  calls_of_denF (mk := false) (args := [a0]) (an := (.seq (.ops [0]) (.seq (.seq (.ops [0, 4]) (.cond (.seq (.ops [2]) .leaf) .leaf)) (.seq (.ops [2]) .leaf)))) (c := Try.f112.body.getD .skip) hent Try.func112 rfl (Nat.le_of_ble_eq_true (by kernel_rfl))
    (Eq.mp (show sh112 a0 w R = denF Try.prog ent false Try.f112 (.seq (.ops [0]) (.seq (.seq (.ops [0, 4]) (.cond (.seq (.ops [2]) .leaf) .leaf)) (.seq (.ops [2]) .leaf))) (Try.f112.body.getD .skip) [a0] w R by kernel_rfl) h)

/-! ### 113: (*handbill/omap.Map[string, []handbill/vers.Version[string]]).find -/
def sh113 (a0 a1 : Value) (w : World) (R : Value → World → Prop) : Prop :=
 RunA Try.prog (nilV a0) fun t7_1 =>
 RunA Try.prog (Instr.fieldAt 159 t7_1 0) fun t8_2 =>
 RunW Try.prog (Instr.loadAt 157 t8_2) w fun t9_3 =>
 CallF Try.prog 133 #[t9_3, a1, (.func (.func 134) #[] #[])] w fun t11_4 w =>
 RunA Try.prog (Instr.extract t11_4 0) fun t12_5 =>
 RunA Try.prog (Instr.extract t11_4 1) fun t13_6 =>
 R (.tuple #[t12_5, t13_6]) w
theorem sh113_calls {a0 a1 : Value} {w : World} {R : Value → World → Prop} (h : sh113 a0 a1 w R) : CallF Try.prog 113 #[a0, a1] w R :=
  calls_of_denF (mk := false) (args := [a0, a1]) (an := (.seq (.ops [0, 1]) (.seq (.ops [4, 5]) .leaf))) (c := Try.f113.body.getD .skip) hent Try.func113 rfl (Nat.le_of_ble_eq_true (by kernel_rfl))
    (Eq.mp (show sh113 a0 a1 w R = denF Try.prog ent false Try.f113 (.seq (.ops [0, 1]) (.seq (.ops [4, 5]) .leaf)) (Try.f113.body.getD .skip) [a0, a1] w R by kernel_rfl) h)

/-! ### 114: slices.Delete[[]handbill/omap.pair[string, []handbill/vers.Version[string]],handbill/omap.pair[string, []handbill/vers.Version[string]]] -/
def sh114 (a0 a1 a2 : Value) (w : World) (R : Value → World → Prop) : Prop :=
 RunW Try.prog (Builtin.len_ #[157] 3 #[a0]) w fun t12_1 =>
 RunA Try.prog (Instr.sliceAt 157 a0 (some a1) (some a2) (some t12_1)) fun t13_2 =>
 RunW Try.prog (bin .eql 3 (.tmp 14) (.tmp 15) a1 a2) w fun t16_3 =>
 IfB t16_3 (
 R a0 w) (
 RunW Try.prog (Builtin.len_ #[157] 3 #[a0]) w fun t19_4 =>
 drw (fun S_5 w =>
 RunA Try.prog (Instr.sliceAt 157 a0 none (some a1) none) fun t22_6 =>
 RunA Try.prog (Instr.sliceAt 157 a0 (some a2) none none) fun t25_7 =>
 RunV Try.prog (Builtin.append_ #[157, 157] 157 #[t22_6, t25_7]) w fun t26_8 w =>
 RunW Try.prog (Builtin.len_ #[157] 3 #[t26_8]) w fun t29_9 =>
 RunA Try.prog (Instr.sliceAt 157 t26_8 (some t29_9) (some t19_4) none) fun t31_10 =>
 RunV Try.prog (Builtin.clear_ #[157] 0 #[t31_10]) w fun t_11 w =>
 R t26_8 w) w)
theorem sh114_calls {a0 a1 a2 : Value} {w : World} {R : Value → World → Prop} (h : sh114 a0 a1 a2 w R) : CallF Try.prog 114 #[a0, a1, a2] w R :=
  calls_of_denF (mk := false) (args := [a0, a1, a2]) (an := (.seq (.ops [0, 1, 2]) (.seq (.ops [0, 1, 2]) (.seq (.seq (.ops [0, 1, 2, 16]) (.cond (.seq (.ops [6]) .leaf) .leaf)) (.seq (.ops [0, 1, 2, 7]) (.seq (.draw (.q 0 (.q 1 (.q 2 (.q 3 (.q 4 (.q 5 (.one 6 (.q 7 .fin)))))))) [0, 7]) (.seq (.ops [0]) (.seq (.ops [6]) .leaf)))))))) (c := Try.f114.body.getD .skip) hent Try.func114 rfl (Nat.le_of_ble_eq_true (by kernel_rfl))
    (Eq.mp (show sh114 a0 a1 a2 w R = denF Try.prog ent false Try.f114 (.seq (.ops [0, 1, 2]) (.seq (.ops [0, 1, 2]) (.seq (.seq (.ops [0, 1, 2, 16]) (.cond (.seq (.ops [6]) .leaf) .leaf)) (.seq (.ops [0, 1, 2, 7]) (.seq (.draw (.q 0 (.q 1 (.q 2 (.q 3 (.q 4 (.q 5 (.one 6 (.q 7 .fin)))))))) [0, 7]) (.seq (.ops [0]) (.seq (.ops [6]) .leaf))))))) (Try.f114.body.getD .skip) [a0, a1, a2] w R by kernel_rfl) h)

/-! ### 115: slices.Insert[[]handbill/omap.pair[string, []handbill/vers.Version[string]],handbill/omap.pair[string, []handbill/vers.Version[string]]] -/
def sh115 (a0 a1 a2 : Value) (w : World) (R : Value → World → Prop) : Prop :=
 RunA Try.prog (Instr.sliceAt 157 a0 (some a1) none none) fun t12_1 =>
 RunW Try.prog (Builtin.len_ #[157] 3 #[a2]) w fun t14_2 =>
 RunW Try.prog (bin .eql 3 (.tmp 15) (.const (.int .i64 0)) t14_2 (.int .i64 0)) w fun t16_3 =>
 IfB t16_3 (
 R a0 w) (
 RunW Try.prog (Builtin.len_ #[157] 3 #[a0]) w fun t19_4 =>
 RunW Try.prog (bin .eql 3 (.tmp 20) (.tmp 21) a1 t19_4) w fun t22_5 =>
 IfB t22_5 (
 RunV Try.prog (Builtin.append_ #[157, 157] 157 #[a0, a2]) w fun t25_6 w =>
 R t25_6 w) (
 RunA Try.prog (bin .add 3 (.tmp 26) (.tmp 27) t19_4 t14_2) fun t28_7 =>
 RunW Try.prog (Builtin.cap_ #[157] 3 #[a0]) w fun t30_8 =>
 RunA Try.prog (bin .gtr 3 (.tmp 28) (.tmp 30) t28_7 t30_8) fun t31_9 =>
 IfB t31_9 (
 RunA Try.prog (Instr.sliceAt 157 a0 none (some a1) none) fun t34_10 =>
 RunA Try.prog (bin .add 3 (.tmp 35) (.tmp 36) t19_4 t14_2) fun t37_11 =>
 RunA Try.prog (bin .sub 3 (.tmp 37) (.tmp 38) t37_11 a1) fun t39_12 =>
 RunV Try.prog (Builtin.append_ #[157, 3] 157 #[t34_10, t39_12]) w fun t40_13 w =>
 RunA Try.prog (Instr.sliceAt 157 t40_13 (some a1) none none) fun t43_14 =>
 RunV Try.prog (Builtin.copy_ #[157, 157] 3 #[t43_14, a2]) w fun t45_15 w =>
 drw (fun S_16 w =>
 RunA Try.prog (bin .add 3 (.tmp 47) (.tmp 48) a1 t14_2) fun t49_17 =>
 RunA Try.prog (Instr.sliceAt 157 t40_13 (some t49_17) none none) fun t50_18 =>
 RunA Try.prog (Instr.sliceAt 157 a0 (some a1) none none) fun t53_19 =>
 RunV Try.prog (Builtin.copy_ #[157, 157] 3 #[t50_18, t53_19]) w fun t54_20 w =>
 R t40_13 w) w) (
 RunA Try.prog (bin .add 3 (.tmp 57) (.tmp 58) t19_4 t14_2) fun t59_21 =>
 RunA Try.prog (Instr.sliceAt 157 a0 none (some t59_21) none) fun t60_22 =>
 RunA Try.prog (bin .add 3 (.tmp 63) (.tmp 64) a1 t14_2) fun t65_23 =>
 RunA Try.prog (Instr.sliceAt 157 t60_22 (some t65_23) none none) fun t66_24 =>
 RunO Try.prog (callFunc 135 #[a2, t66_24]) w fun t67_25 w =>
 RunA Try.prog (Op.unary .not t67_25) fun t68_26 =>
 IfB t68_26 (
 drw (fun S_27 w =>
 RunA Try.prog (bin .add 3 (.tmp 70) (.tmp 71) a1 t14_2) fun t72_28 =>
 RunA Try.prog (Instr.sliceAt 157 t60_22 (some t72_28) none none) fun t73_29 =>
 RunA Try.prog (Instr.sliceAt 157 t60_22 (some a1) none none) fun t76_30 =>
 RunV Try.prog (Builtin.copy_ #[157, 157] 3 #[t73_29, t76_30]) w fun t77_31 w =>
 RunA Try.prog (Instr.sliceAt 157 t60_22 (some a1) none none) fun t80_32 =>
 RunV Try.prog (Builtin.copy_ #[157, 157] 3 #[t80_32, a2]) w fun t82_33 w =>
 R t60_22 w) w) (
 RunA Try.prog (Instr.sliceAt 157 t60_22 (some t19_4) none none) fun t86_34 =>
 RunV Try.prog (Builtin.copy_ #[157, 157] 3 #[t86_34, a2]) w fun t88_35 w =>
 RunA Try.prog (Instr.sliceAt 157 t60_22 (some a1) none none) fun t91_36 =>
 RunO Try.prog (callFunc 136 #[t91_36, t14_2]) w fun t93_37 w =>
 R t60_22 w))))
theorem sh115_calls {a0 a1 a2 : Value} {w : World} {R : Value → World → Prop} (h : sh115 a0 a1 a2 w R) : CallF Try.prog 115 #[a0, a1, a2] w R :=
  calls_of_denF (mk := false) (args := [a0, a1, a2]) (an := (.seq (.ops [0, 1, 2]) (.seq (.ops [0, 1, 2]) (.seq (.ops [0, 1, 2, 7]) (.seq (.seq (.ops [0, 1, 2, 7, 16]) (.cond (.seq (.ops [6]) .leaf) .leaf)) (.seq (.ops [0, 1, 2, 7, 8]) (.seq (.seq (.ops [0, 1, 2, 7, 8, 22]) (.cond (.seq (.ops [6]) .leaf) .leaf)) (.seq (.seq (.ops [0, 1, 2, 7, 8, 31]) (.cond (.seq (.ops [0, 1, 2, 7, 9]) (.seq (.ops [0, 1, 7, 9]) (.seq (.draw (.q 0 (.q 1 (.q 2 (.q 3 (.q 4 (.q 5 (.q 6 (.q 7 (.one 8 .fin))))))))) [9]) (.seq (.ops [6]) .leaf)))) .leaf)) (.seq (.ops [0, 1, 2, 7, 8]) (.seq (.seq (.ops [0, 1, 2, 7, 8, 68]) (.cond (.seq (.draw (.q 0 (.q 1 (.q 2 (.q 3 (.q 4 (.q 5 (.q 6 (.q 7 (.one 8 .fin))))))))) [0, 1, 2]) (.seq (.ops [0]) (.seq (.ops [6]) .leaf))) .leaf)) (.seq (.ops [0, 1, 7]) (.seq (.ops [0]) (.seq (.ops [6]) .leaf))))))))))))) (c := Try.f115.body.getD .skip) hent Try.func115 rfl (Nat.le_of_ble_eq_true (by kernel_rfl))
    (Eq.mp (show sh115 a0 a1 a2 w R = denF Try.prog ent false Try.f115 (.seq (.ops [0, 1, 2]) (.seq (.ops [0, 1, 2]) (.seq (.ops [0, 1, 2, 7]) (.seq (.seq (.ops [0, 1, 2, 7, 16]) (.cond (.seq (.ops [6]) .leaf) .leaf)) (.seq (.ops [0, 1, 2, 7, 8]) (.seq (.seq (.ops [0, 1, 2, 7, 8, 22]) (.cond (.seq (.ops [6]) .leaf) .leaf)) (.seq (.seq (.ops [0, 1, 2, 7, 8, 31]) (.cond (.seq (.ops [0, 1, 2, 7, 9]) (.seq (.ops [0, 1, 7, 9]) (.seq (.draw (.q 0 (.q 1 (.q 2 (.q 3 (.q 4 (.q 5 (.q 6 (.q 7 (.one 8 .fin))))))))) [9]) (.seq (.ops [6]) .leaf)))) .leaf)) (.seq (.ops [0, 1, 2, 7, 8]) (.seq (.seq (.ops [0, 1, 2, 7, 8, 68]) (.cond (.seq (.draw (.q 0 (.q 1 (.q 2 (.q 3 (.q 4 (.q 5 (.q 6 (.q 7 (.one 8 .fin))))))))) [0, 1, 2]) (.seq (.ops [0]) (.seq (.ops [6]) .leaf))) .leaf)) (.seq (.ops [0, 1, 7]) (.seq (.ops [0]) (.seq (.ops [6]) .leaf)))))))))))) (Try.f115.body.getD .skip) [a0, a1, a2] w R by kernel_rfl) h)

/-! ### 127: slices.BinarySearchFunc[[]handbill/omap.pair[string, []handbill/vers.Version[int]],handbill/omap.pair[string, []handbill/vers.Version[int]],string] -/
def sh127 (a0 a1 a2 : Value) (w : World) (R : Value → World → Prop) : Prop :=
 RunW Try.prog (Builtin.len_ #[147] 3 #[a0]) w fun t13_1 =>
 lp 2 (fun n_4 t9_2 t10_3 w =>
 RunA Try.prog (bin .lss 3 (.tmp 15) (.tmp 16) t9_2 t10_3) fun t17_5 =>
 IfB t17_5 (
 RunA Try.prog (bin .add 3 (.tmp 18) (.tmp 19) t9_2 t10_3) fun t20_6 =>
 RunV Try.prog (convert 3 186 t20_6) w fun t21_7 w =>
 RunA Try.prog (bin .shr 186 (.tmp 21) (.const (.int .u64 1)) t21_7 (.int .u64 1)) fun t22_8 =>
 RunV Try.prog (convert 186 3 t22_8) w fun t23_9 w =>
 jn 6 (fun t0_10 t1_11 t2_12 t8_13 t9_14 t10_15 w =>
 (t0_10 : Value) = a0 ∧ ((t1_11 : Value) = a1 ∧ ((t2_12 : Value) = a2 ∧ ((t8_13 : Value) = t13_1 ∧ (n_4 t9_14 t10_15 w))))) fun j_16 =>
 RunA Try.prog (Instr.indexAt 147 a0 t23_9) fun t27_17 =>
 RunW Try.prog (Instr.loadAt 153 t27_17) w fun t28_18 =>
 CallV Try.prog a2 #[t28_18, a1] w fun t30_19 w =>
 RunA Try.prog (bin .lss 3 (.tmp 30) (.const (.int .i64 0)) t30_19 (.int .i64 0)) fun t31_20 =>
 IfB t31_20 (
 RunA Try.prog (bin .add 3 (.tmp 32) (.const (.int .i64 1)) t23_9 (.int .i64 1)) fun t33_21 =>
 j_16 a0 a1 a2 t13_1 t33_21 t10_3 w) (
 j_16 a0 a1 a2 t13_1 t9_2 t23_9 w)) (
 RunA Try.prog (bin .lss 3 (.tmp 36) (.tmp 37) t9_2 t13_1) fun t38_22 =>
 IfB t38_22 (
 RunA Try.prog (Instr.indexAt 147 a0 t9_2) fun t43_23 =>
 RunW Try.prog (Instr.loadAt 153 t43_23) w fun t44_24 =>
 CallV Try.prog a2 #[t44_24, a1] w fun t46_25 w =>
 RunW Try.prog (bin .eql 3 (.tmp 46) (.const (.int .i64 0)) t46_25 (.int .i64 0)) w fun t47_26 =>
 R (.tuple #[t9_2, t47_26]) w) (
 R (.tuple #[t9_2, (.bool false)]) w))) [(.int .i64 0), t13_1] w
theorem sh127_calls {a0 a1 a2 : Value} {w : World} {R : Value → World → Prop} (h : sh127 a0 a1 a2 w R) : CallF Try.prog 127 #[a0, a1, a2] w R :=
  calls_of_denF (mk := false) (args := [a0, a1, a2]) (an := (.seq (.ops [0, 1, 2]) (.seq (.ops [0, 1, 2, 8]) (.seq (.ops [0, 1, 2, 8, 9, 10]) (.seq (.blk (.loop [0, 1, 2, 8] [9, 10] (.seq (.seq (.ops [0, 1, 2, 8, 9, 10, 17]) (.cond .leaf .leaf)) (.blk (.seq (.ops [0, 1, 2, 8, 9, 10, 11]) (.join [0, 1, 2, 8, 9, 10] (.seq (.ops [0, 1, 2, 8, 9, 10, 11, 31]) (.cond (.ops [0, 1, 2, 8, 9, 10]) (.ops [0, 1, 2, 8, 9, 10]))))))))) (.seq (.ops [6, 7]) .leaf)))))) (c := Try.f127.body.getD .skip) hent Try.func127 rfl (Nat.le_of_ble_eq_true (by kernel_rfl))
    (Eq.mp (show sh127 a0 a1 a2 w R = denF Try.prog ent false Try.f127 (.seq (.ops [0, 1, 2]) (.seq (.ops [0, 1, 2, 8]) (.seq (.ops [0, 1, 2, 8, 9, 10]) (.seq (.blk (.loop [0, 1, 2, 8] [9, 10] (.seq (.seq (.ops [0, 1, 2, 8, 9, 10, 17]) (.cond .leaf .leaf)) (.blk (.seq (.ops [0, 1, 2, 8, 9, 10, 11]) (.join [0, 1, 2, 8, 9, 10] (.seq (.ops [0, 1, 2, 8, 9, 10, 11, 31]) (.cond (.ops [0, 1, 2, 8, 9, 10]) (.ops [0, 1, 2, 8, 9, 10]))))))))) (.seq (.ops [6, 7]) .leaf))))) (Try.f127.body.getD .skip) [a0, a1, a2] w R by kernel_rfl) h)

/-! ### 128: (*handbill/omap.Map[string, []handbill/vers.Version[int]]).find$1 -/
def sh128 (a0 a1 : Value) (w : World) (R : Value → World → Prop) : Prop :=
 RunV Try.prog (Instr.box 153 a0) w fun t2_1 w =>
 RunA Try.prog (Instr.fieldAt 153 t2_1 0) fun t5_2 =>
 RunW Try.prog (Instr.loadAt 9 t5_2) w fun t6_3 =>
 CallF Try.prog 129 #[t6_3, a1] w fun t8_4 w =>
 R t8_4 w
theorem sh128_calls {a0 a1 : Value} {w : World} {R : Value → World → Prop} (h : sh128 a0 a1 w R) : CallF Try.prog 128 #[a0, a1] w R :=
  calls_of_denF (mk := false) (args := [a0, a1]) (an := (.seq (.ops [1, 2]) (.seq (.ops [4]) .leaf))) (c := Try.f128.body.getD .skip) hent Try.func128 rfl (Nat.le_of_ble_eq_true (by kernel_rfl))
    (Eq.mp (show sh128 a0 a1 w R = denF Try.prog ent false Try.f128 (.seq (.ops [1, 2]) (.seq (.ops [4]) .leaf)) (Try.f128.body.getD .skip) [a0, a1] w R by kernel_rfl) h)

/-! ### 129: cmp.Compare[string] -/
def sh129 (a0 a1 : Value) (w : World) (R : Value → World → Prop) : Prop :=
 CallF Try.prog 141 #[a0] w fun t8_1 w =>
 CallF Try.prog 141 #[a1] w fun t10_2 w =>
 IfB t8_1 (
 IfB t10_2 (
 R (.int .i64 0) w) (
 R (.int .i64 (-1)) w)) (
 IfB t10_2 (
 R (.int .i64 1) w) (
 RunA Try.prog (bin .lss 9 (.tmp 14) (.tmp 15) a0 a1) fun t16_3 =>
 IfB t16_3 (
 R (.int .i64 (-1)) w) (
 RunA Try.prog (bin .gtr 9 (.tmp 17) (.tmp 18) a0 a1) fun t19_4 =>
 IfB t19_4 (
 R (.int .i64 1) w) (
 R (.int .i64 0) w))))
theorem sh129_calls {a0 a1 : Value} {w : World} {R : Value → World → Prop} (h : sh129 a0 a1 w R) : CallF Try.prog 129 #[a0, a1] w R :=
  calls_of_denF (mk := false) (args := [a0, a1]) (an := (.seq (.ops [0, 1]) (.seq (.ops [0, 1, 5]) (.seq (.ops [0, 1, 5, 6]) (.seq (.seq (.ops [0, 1, 6, 11]) (.cond (.seq (.seq (.ops [12]) (.cond (.seq (.ops [4]) .leaf) .leaf)) (.seq (.ops [4]) .leaf)) .leaf)) (.seq (.seq (.ops [0, 1, 13]) (.cond (.seq (.ops [4]) .leaf) .leaf)) (.seq (.seq (.ops [0, 1, 16]) (.cond (.seq (.ops [4]) .leaf) .leaf)) (.seq (.seq (.ops [19]) (.cond (.seq (.ops [4]) .leaf) .leaf)) (.seq (.ops [4]) .leaf))))))))) (c := Try.f129.body.getD .skip) hent Try.func129 rfl (Nat.le_of_ble_eq_true (by kernel_rfl))
    (Eq.mp (show sh129 a0 a1 w R = denF Try.prog ent false Try.f129 (.seq (.ops [0, 1]) (.seq (.ops [0, 1, 5]) (.seq (.ops [0, 1, 5, 6]) (.seq (.seq (.ops [0, 1, 6, 11]) (.cond (.seq (.seq (.ops [12]) (.cond (.seq (.ops [4]) .leaf) .leaf)) (.seq (.ops [4]) .leaf)) .leaf)) (.seq (.seq (.ops [0, 1, 13]) (.cond (.seq (.ops [4]) .leaf) .leaf)) (.seq (.seq (.ops [0, 1, 16]) (.cond (.seq (.ops [4]) .leaf) .leaf)) (.seq (.seq (.ops [19]) (.cond (.seq (.ops [4]) .leaf) .leaf)) (.seq (.ops [4]) .leaf)))))))) (Try.f129.body.getD .skip) [a0, a1] w R by kernel_rfl) h)

/-! ### 132: (*handbill/omap.Map[string, []handbill/vers.Version[string]]).Range$1 -/
def sh132 (a0 a1 a2 a3 : Value) (w : World) (R : Value → World → Prop) : Prop :=
 RunW Try.prog (Instr.loadAt 111 a1) w fun t12_1 =>
 RunW Try.prog (Instr.loadAt 9 a2) w fun t13_2 =>
 CallF Try.prog 113 #[t12_1, t13_2] w fun t14_3 w =>
 RunA Try.prog (Instr.extract t14_3 0) fun t15_4 =>
 RunA Try.prog (Instr.extract t14_3 1) fun t16_5 =>
 RunW Try.prog (Instr.loadAt 111 a1) w fun t18_6 =>
 RunW Try.prog (Instr.loadAt 9 a3) w fun t19_7 =>
 CallF Try.prog 113 #[t18_6, t19_7] w fun t20_8 w =>
 RunA Try.prog (Instr.extract t20_8 0) fun t21_9 =>
 RunA Try.prog (Instr.extract t20_8 1) fun t22_10 =>
 RunW Try.prog (Instr.loadAt 111 a1) w fun t23_11 =>
 RunA Try.prog (nilV t23_11) fun t24_12 =>
 RunA Try.prog (Instr.fieldAt 159 t24_12 0) fun t25_13 =>
 RunW Try.prog (Instr.loadAt 157 t25_13) w fun t26_14 =>
 RunW Try.prog (Builtin.max_ #[3, 3] 3 #[t15_4, t21_9]) w fun t30_15 =>
 RunA Try.prog (Instr.sliceAt 157 t26_14 (some t15_4) (some t30_15) none) fun t31_16 =>
 CallF Try.prog 112 #[t31_16] w fun t32_17 w =>
 RunW Try.prog (Builtin.len_ #[157] 3 #[t32_17]) w fun t33_18 =>
 lp 1 (fun n_20 t34_19 w =>
 RunA Try.prog (bin .lss 3 (.tmp 34) (.tmp 33) t34_19 t33_18) fun t35_21 =>
 IfB t35_21 (
 RunA Try.prog (Instr.indexAt 157 t32_17 t34_19) fun t36_22 =>
 RunW Try.prog (Instr.loadAt 163 t36_22) w fun t37_23 =>
 RunV Try.prog (Instr.alloc 163 true (.tuple #[])) w fun t10_24 w =>
 RunU Try.prog (Instr.storeAt 163 t10_24 t37_23) w fun w =>
 RunA Try.prog (Instr.fieldAt 163 t10_24 0) fun t39_25 =>
 RunW Try.prog (Instr.loadAt 9 t39_25) w fun t40_26 =>
 RunA Try.prog (Instr.fieldAt 163 t10_24 1) fun t41_27 =>
 RunW Try.prog (Instr.loadAt 55 t41_27) w fun t42_28 =>
 CallV Try.prog a0 #[t40_26, t42_28] w fun t43_29 w =>
 RunA Try.prog (Op.unary .not t43_29) fun t44_30 =>
 IfB t44_30 (
 R (.tuple #[]) w) (
 RunA Try.prog (bin .add 3 (.tmp 34) (.const (.int .i64 1)) t34_19 (.int .i64 1)) fun t45_31 =>
 (a0 : Value) = a0 ∧ ((t32_17 : Value) = t32_17 ∧ ((t33_18 : Value) = t33_18 ∧ (n_20 t45_31 w))))) (
 R (.tuple #[]) w)) [(.int .i64 0)] w
theorem sh132_calls {a0 a1 a2 a3 : Value} {w : World} {R : Value → World → Prop} (h : sh132 a0 a1 a2 a3 w R) : CallF Try.prog 132 #[a0, a1, a2, a3] w R :=
  calls_of_denF (mk := false) (args := [a0, a1, a2, a3]) (an := (.seq (.ops [0, 1, 3, 5]) (.seq (.ops [0, 1, 5, 7]) (.seq (.ops [0, 32, 33, 34]) (.blk (.loop [0, 32, 33] [34] (.seq (.ops [0, 32, 33, 34, 35]) (.seq (.cond .leaf .leaf) (.seq (.blk (.seq (.ops [0, 10, 32, 33, 34]) (.seq (.ops [0, 32, 33, 34, 44]) (.cond .leaf .leaf)))) (.ops [0, 32, 33, 34])))))))))) (c := Try.f132.body.getD .skip) hent Try.func132 rfl (Nat.le_of_ble_eq_true (by kernel_rfl))
    (Eq.mp (show sh132 a0 a1 a2 a3 w R = denF Try.prog ent false Try.f132 (.seq (.ops [0, 1, 3, 5]) (.seq (.ops [0, 1, 5, 7]) (.seq (.ops [0, 32, 33, 34]) (.blk (.loop [0, 32, 33] [34] (.seq (.ops [0, 32, 33, 34, 35]) (.seq (.cond .leaf .leaf) (.seq (.blk (.seq (.ops [0, 10, 32, 33, 34]) (.seq (.ops [0, 32, 33, 34, 44]) (.cond .leaf .leaf)))) (.ops [0, 32, 33, 34]))))))))) (Try.f132.body.getD .skip) [a0, a1, a2, a3] w R by kernel_rfl) h)

/-! ### 133: slices.BinarySearchFunc[[]handbill/omap.pair[string, []handbill/vers.Version[string]],handbill/omap.pair[string, []handbill/vers.Version[string]],string] -/
def sh133 (a0 a1 a2 : Value) (w : World) (R : Value → World → Prop) : Prop :=
 RunW Try.prog (Builtin.len_ #[157] 3 #[a0]) w fun t13_1 =>
 lp 2 (fun n_4 t9_2 t10_3 w =>
 RunA Try.prog (bin .lss 3 (.tmp 15) (.tmp 16) t9_2 t10_3) fun t17_5 =>
 IfB t17_5 (
 RunA Try.prog (bin .add 3 (.tmp 18) (.tmp 19) t9_2 t10_3) fun t20_6 =>
 RunV Try.prog (convert 3 186 t20_6) w fun t21_7 w =>
 RunA Try.prog (bin .shr 186 (.tmp 21) (.const (.int .u64 1)) t21_7 (.int .u64 1)) fun t22_8 =>
 RunV Try.prog (convert 186 3 t22_8) w fun t23_9 w =>
 jn 6 (fun t0_10 t1_11 t2_12 t8_13 t9_14 t10_15 w =>
 (t0_10 : Value) = a0 ∧ ((t1_11 : Value) = a1 ∧ ((t2_12 : Value) = a2 ∧ ((t8_13 : Value) = t13_1 ∧ (n_4 t9_14 t10_15 w))))) fun j_16 =>
 RunA Try.prog (Instr.indexAt 157 a0 t23_9) fun t27_17 =>
 RunW Try.prog (Instr.loadAt 163 t27_17) w fun t28_18 =>
 CallV Try.prog a2 #[t28_18, a1] w fun t30_19 w =>
 RunA Try.prog (bin .lss 3 (.tmp 30) (.const (.int .i64 0)) t30_19 (.int .i64 0)) fun t31_20 =>
 IfB t31_20 (
 RunA Try.prog (bin .add 3 (.tmp 32) (.const (.int .i64 1)) t23_9 (.int .i64 1)) fun t33_21 =>
 j_16 a0 a1 a2 t13_1 t33_21 t10_3 w) (
 j_16 a0 a1 a2 t13_1 t9_2 t23_9 w)) (
 RunA Try.prog (bin .lss 3 (.tmp 36) (.tmp 37) t9_2 t13_1) fun t38_22 =>
 IfB t38_22 (
 RunA Try.prog (Instr.indexAt 157 a0 t9_2) fun t43_23 =>
 RunW Try.prog (Instr.loadAt 163 t43_23) w fun t44_24 =>
 CallV Try.prog a2 #[t44_24, a1] w fun t46_25 w =>
 RunW Try.prog (bin .eql 3 (.tmp 46) (.const (.int .i64 0)) t46_25 (.int .i64 0)) w fun t47_26 =>
 R (.tuple #[t9_2, t47_26]) w) (
 R (.tuple #[t9_2, (.bool false)]) w))) [(.int .i64 0), t13_1] w
theorem sh133_calls {a0 a1 a2 : Value} {w : World} {R : Value → World → Prop} (h : sh133 a0 a1 a2 w R) : CallF Try.prog 133 #[a0, a1, a2] w R :=
  calls_of_denF (mk := false) (args := [a0, a1, a2]) (an := (.seq (.ops [0, 1, 2]) (.seq (.ops [0, 1, 2, 8]) (.seq (.ops [0, 1, 2, 8, 9, 10]) (.seq (.blk (.loop [0, 1, 2, 8] [9, 10] (.seq (.seq (.ops [0, 1, 2, 8, 9, 10, 17]) (.cond .leaf .leaf)) (.blk (.seq (.ops [0, 1, 2, 8, 9, 10, 11]) (.join [0, 1, 2, 8, 9, 10] (.seq (.ops [0, 1, 2, 8, 9, 10, 11, 31]) (.cond (.ops [0, 1, 2, 8, 9, 10]) (.ops [0, 1, 2, 8, 9, 10]))))))))) (.seq (.ops [6, 7]) .leaf)))))) (c := Try.f133.body.getD .skip) hent Try.func133 rfl (Nat.le_of_ble_eq_true (by kernel_rfl))
    (Eq.mp (show sh133 a0 a1 a2 w R = denF Try.prog ent false Try.f133 (.seq (.ops [0, 1, 2]) (.seq (.ops [0, 1, 2, 8]) (.seq (.ops [0, 1, 2, 8, 9, 10]) (.seq (.blk (.loop [0, 1, 2, 8] [9, 10] (.seq (.seq (.ops [0, 1, 2, 8, 9, 10, 17]) (.cond .leaf .leaf)) (.blk (.seq (.ops [0, 1, 2, 8, 9, 10, 11]) (.join [0, 1, 2, 8, 9, 10] (.seq (.ops [0, 1, 2, 8, 9, 10, 11, 31]) (.cond (.ops [0, 1, 2, 8, 9, 10]) (.ops [0, 1, 2, 8, 9, 10]))))))))) (.seq (.ops [6, 7]) .leaf))))) (Try.f133.body.getD .skip) [a0, a1, a2] w R by kernel_rfl) h)

/-! ### 134: (*handbill/omap.Map[string, []handbill/vers.Version[string]]).find$1 -/
def sh134 (a0 a1 : Value) (w : World) (R : Value → World → Prop) : Prop :=
 RunV Try.prog (Instr.box 163 a0) w fun t2_1 w =>
 RunA Try.prog (Instr.fieldAt 163 t2_1 0) fun t5_2 =>
 RunW Try.prog (Instr.loadAt 9 t5_2) w fun t6_3 =>
 CallF Try.prog 129 #[t6_3, a1] w fun t8_4 w =>
 R t8_4 w
theorem sh134_calls {a0 a1 : Value} {w : World} {R : Value → World → Prop} (h : sh134 a0 a1 w R) : CallF Try.prog 134 #[a0, a1] w R :=
  calls_of_denF (mk := false) (args := [a0, a1]) (an := (.seq (.ops [1, 2]) (.seq (.ops [4]) .leaf))) (c := Try.f134.body.getD .skip) hent Try.func134 rfl (Nat.le_of_ble_eq_true (by kernel_rfl))
    (Eq.mp (show sh134 a0 a1 w R = denF Try.prog ent false Try.f134 (.seq (.ops [1, 2]) (.seq (.ops [4]) .leaf)) (Try.f134.body.getD .skip) [a0, a1] w R by kernel_rfl) h)

/-! ### 141: cmp.isNaN[string] -/
def sh141 (a0 : Value) (w : World) (R : Value → World → Prop) : Prop :=
 RunW Try.prog (bin .neq 9 (.tmp 3) (.tmp 4) a0 a0) w fun t5_1 =>
 R t5_1 w
theorem sh141_calls {a0 : Value} {w : World} {R : Value → World → Prop} (h : sh141 a0 w R) : CallF Try.prog 141 #[a0] w R :=
  calls_of_denF (mk := false) (args := [a0]) (an := (.seq (.ops [0]) (.seq (.ops [2]) .leaf))) (c := Try.f141.body.getD .skip) hent Try.func141 rfl (Nat.le_of_ble_eq_true (by kernel_rfl))
    (Eq.mp (show sh141 a0 w R = denF Try.prog ent false Try.f141 (.seq (.ops [0]) (.seq (.ops [2]) .leaf)) (Try.f141.body.getD .skip) [a0] w R by kernel_rfl) h)

end Go.Proofs.Ytffnabbchghokaa
