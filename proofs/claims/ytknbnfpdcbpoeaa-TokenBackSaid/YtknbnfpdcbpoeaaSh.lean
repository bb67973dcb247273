/-
  The shallow forms of the functions, printed by a program (ez.py) out of Lean's print of the loaded functions; each is proved to imply the function's contract: the equations are the kernel's.
-/
import Derived.Test.YtknbnfpdcbpoeaaProg
import Derived.Test.YtknbnfpdcbpoeaaEzSound
namespace Go.Proofs.Ytknbnfpdcbpoeaa
open Go Go.Ez
set_option linter.unusedVariables false
set_option maxRecDepth 100000
def ent : List Nat := [9, 10, 11, 12, 13, 14, 15, 16, 17, 18, 19, 20, 21, 22, 23, 24, 25, 26, 27, 28, 29, 30, 31, 32, 33, 34, 35, 36, 37, 38, 39, 40, 41, 42, 43, 44, 45, 46, 47, 48, 49, 50, 51, 52, 53, 54, 55, 56, 57]
theorem hent : ∀ g, memN g ent = true → Enters Try.prog g := enters_all (by kernel_rfl)

/-! ### 3: handbill/hbllaw9.FrameReads -/
def sh3 (a0 a1 a2 : Value) (w : World) (R : Value → World → Prop) : Prop :=
 CallF Try.prog 9 #[] w fun t23_1 w =>
 RunA Try.prog (Op.unary .not t23_1) fun t24_2 =>
 IfB t24_2 (
 R (.bool false) w) (
 RunW Try.prog (Builtin.len_ #[22] 3 #[a0]) w fun t26_3 =>
 RunA Try.prog (bin .gtr 3 (.tmp 26) (.const (.int .i64 61000)) t26_3 (.int .i64 61000)) fun t27_4 =>
 IfB t27_4 (
 CallF Try.prog 9 #[] w fun t33_5 w =>
 R t33_5 w) (
 RunW Try.prog (Builtin.len_ #[22] 3 #[a1]) w fun t30_6 =>
 RunA Try.prog (bin .gtr 3 (.tmp 30) (.const (.int .i64 20000)) t30_6 (.int .i64 20000)) fun t31_7 =>
 IfB t31_7 (
 CallF Try.prog 9 #[] w fun t33_8 w =>
 R t33_8 w) (
 CallF Try.prog 10 #[a1] w fun t35_9 w =>
 CallF Try.prog 11 #[a0] w fun t38_10 w =>
 RunA Try.prog (Instr.extract t38_10 0) fun t39_11 =>
 RunA Try.prog (Instr.extract t38_10 1) fun t40_12 =>
 CallF Try.prog 12 #[a0] w fun t43_13 w =>
 RunA Try.prog (Instr.extract t43_13 0) fun t44_14 =>
 RunA Try.prog (Instr.extract t43_13 1) fun t45_15 =>
 CallF Try.prog 13 #[t35_9] w fun t48_16 w =>
 RunA Try.prog (Instr.extract t48_16 0) fun t49_17 =>
 RunA Try.prog (Instr.extract t48_16 1) fun t50_18 =>
 CallF Try.prog 14 #[a1] w fun t53_19 w =>
 RunA Try.prog (Instr.extract t53_19 0) fun t54_20 =>
 RunA Try.prog (Instr.extract t53_19 1) fun t55_21 =>
 CallF Try.prog 16 #[t35_9] w fun t58_22 w =>
 CallF Try.prog 15 #[t58_22, a2] w fun t60_23 w =>
 RunA Try.prog (Instr.extract t60_23 0) fun t61_24 =>
 RunA Try.prog (Instr.extract t60_23 1) fun t62_25 =>
 RunW Try.prog (Builtin.max_ #[3, 3] 3 #[a2, (.int .i64 0)]) w fun t64_26 =>
 RunW Try.prog (Builtin.len_ #[28] 3 #[t54_20]) w fun t66_27 =>
 RunW Try.prog (Builtin.min_ #[3, 3] 3 #[t64_26, t66_27]) w fun t67_28 =>
 RunA Try.prog (Instr.sliceAt 28 t54_20 none (some t67_28) none) fun t71_29 =>
 CallF Try.prog 17 #[t62_25, t71_29] w fun t72_30 w =>
 RunA Try.prog (Op.unary .not t72_30) fun t73_31 =>
 IfB t73_31 (
 R (.bool false) w) (
 RunW Try.prog (Builtin.len_ #[31] 3 #[t61_24]) w fun t76_32 =>
 RunW Try.prog (bin .neq 3 (.tmp 76) (.tmp 77) t76_32 t67_28) w fun t78_33 =>
 IfB t78_33 (
 R (.bool false) w) (
 lp 2 (fun n_36 t19_34 t20_35 w =>
 RunW Try.prog (Builtin.len_ #[31] 3 #[t61_24]) w fun t82_37 =>
 RunA Try.prog (bin .lss 3 (.tmp 80) (.tmp 82) t20_35 t82_37) fun t83_38 =>
 IfB t83_38 (
 RunA Try.prog (bin .add 3 (.tmp 86) (.const (.int .i64 6)) t19_34 (.int .i64 6)) fun t87_39 =>
 RunA Try.prog (Instr.indexAt 28 t54_20 t20_35) fun t90_40 =>
 RunW Try.prog (Instr.loadAt 22 t90_40) w fun t91_41 =>
 RunW Try.prog (Builtin.len_ #[22] 3 #[t91_41]) w fun t92_42 =>
 RunA Try.prog (bin .add 3 (.tmp 87) (.tmp 92) t87_39 t92_42) fun t93_43 =>
 RunA Try.prog (Instr.indexAt 31 t61_24 t20_35) fun t96_44 =>
 RunW Try.prog (Instr.loadAt 3 t96_44) w fun t97_45 =>
 RunW Try.prog (bin .neq 3 (.tmp 97) (.tmp 98) t97_45 t93_43) w fun t99_46 =>
 IfB t99_46 (
 R (.bool false) w) (
 RunA Try.prog (bin .add 3 (.tmp 84) (.const (.int .i64 1)) t20_35 (.int .i64 1)) fun t85_47 =>
 (a1 : Value) = a1 ∧ ((t35_9 : Value) = t35_9 ∧ ((t39_11 : Value) = t39_11 ∧ ((t40_12 : Value) = t40_12 ∧ ((t44_14 : Value) = t44_14 ∧ ((t45_15 : Value) = t45_15 ∧ ((t49_17 : Value) = t49_17 ∧ ((t50_18 : Value) = t50_18 ∧ ((t54_20 : Value) = t54_20 ∧ ((t55_21 : Value) = t55_21 ∧ ((t61_24 : Value) = t61_24 ∧ (n_36 t93_43 t85_47 w))))))))))))) (
 lp 1 (fun n_49 t21_48 w =>
 RunW Try.prog (Builtin.len_ #[28] 3 #[t49_17]) w fun t102_50 =>
 RunA Try.prog (bin .lss 3 (.tmp 100) (.tmp 102) t21_48 t102_50) fun t103_51 =>
 IfB t103_51 (
 lp 1 (fun n_53 t22_52 w =>
 RunA Try.prog (Instr.indexAt 28 t49_17 t21_48) fun t109_54 =>
 RunW Try.prog (Instr.loadAt 22 t109_54) w fun t110_55 =>
 RunW Try.prog (Builtin.len_ #[22] 3 #[t110_55]) w fun t111_56 =>
 RunA Try.prog (bin .lss 3 (.tmp 106) (.tmp 111) t22_52 t111_56) fun t112_57 =>
 IfB t112_57 (
 RunA Try.prog (Instr.indexAt 28 t49_17 t21_48) fun t117_58 =>
 RunW Try.prog (Instr.loadAt 22 t117_58) w fun t118_59 =>
 RunA Try.prog (Instr.indexAt 22 t118_59 t22_52) fun t120_60 =>
 RunW Try.prog (Instr.loadAt 5 t120_60) w fun t121_61 =>
 RunA Try.prog (bin .add 5 (.tmp 121) (.const (.int .u8 1)) t121_61 (.int .u8 1)) fun t122_62 =>
 RunA Try.prog (Instr.indexAt 22 t118_59 t22_52) fun t123_63 =>
 RunU Try.prog (Instr.storeAt 5 t123_63 t122_62) w fun w =>
 RunA Try.prog (bin .add 3 (.tmp 113) (.const (.int .i64 1)) t22_52 (.int .i64 1)) fun t114_64 =>
 (a1 : Value) = a1 ∧ ((t35_9 : Value) = t35_9 ∧ ((t39_11 : Value) = t39_11 ∧ ((t40_12 : Value) = t40_12 ∧ ((t44_14 : Value) = t44_14 ∧ ((t45_15 : Value) = t45_15 ∧ ((t49_17 : Value) = t49_17 ∧ ((t50_18 : Value) = t50_18 ∧ ((t54_20 : Value) = t54_20 ∧ ((t55_21 : Value) = t55_21 ∧ ((t21_48 : Value) = t21_48 ∧ (n_53 t114_64 w)))))))))))) (
 RunA Try.prog (bin .add 3 (.tmp 104) (.const (.int .i64 1)) t21_48 (.int .i64 1)) fun t105_65 =>
 (a1 : Value) = a1 ∧ ((t35_9 : Value) = t35_9 ∧ ((t39_11 : Value) = t39_11 ∧ ((t40_12 : Value) = t40_12 ∧ ((t44_14 : Value) = t44_14 ∧ ((t45_15 : Value) = t45_15 ∧ ((t49_17 : Value) = t49_17 ∧ ((t50_18 : Value) = t50_18 ∧ ((t54_20 : Value) = t54_20 ∧ ((t55_21 : Value) = t55_21 ∧ (n_49 t105_65 w)))))))))))) [(.int .i64 0)] w) (
 CallF Try.prog 9 #[] w fun t124_66 w =>
 IfB t124_66 (
 CallF Try.prog 18 #[t39_11, t44_14] w fun t128_67 w =>
 IfB t128_67 (
 RunW Try.prog (bin .eql 25 (.tmp 131) (.tmp 132) t40_12 t45_15) w fun t133_68 =>
 IfB t133_68 (
 RunW Try.prog (Builtin.len_ #[28] 3 #[t49_17]) w fun t137_69 =>
 RunW Try.prog (Builtin.len_ #[28] 3 #[t54_20]) w fun t139_70 =>
 RunW Try.prog (bin .eql 3 (.tmp 137) (.tmp 139) t137_69 t139_70) w fun t140_71 =>
 IfB t140_71 (
 RunW Try.prog (bin .eql 3 (.tmp 143) (.tmp 144) t50_18 t55_21) w fun t145_72 =>
 IfB t145_72 (
 CallF Try.prog 18 #[t35_9, a1] w fun t150_73 w =>
 R t150_73 w) (
 R (.bool false) w)) (
 R (.bool false) w)) (
 R (.bool false) w)) (
 R (.bool false) w)) (
 R (.bool false) w))) [(.int .i64 0)] w)) [(.int .i64 0), (.int .i64 0)] w)))))
theorem sh3_calls {a0 a1 a2 : Value} {w : World} {R : Value → World → Prop} (h : sh3 a0 a1 a2 w R) : CallF Try.prog 3 #[a0, a1, a2] w R :=
  calls_of_denF (mk := false) (args := [a0, a1, a2]) (an := (.seq (.ops [0, 1, 2]) (.seq (.seq (.ops [0, 1, 2, 24]) (.cond (.seq (.ops [6]) .leaf) .leaf)) (.seq (.seq (.ops [0, 1, 2, 32]) (.cond (.seq (.ops [6]) .leaf) .leaf)) (.seq (.ops [0, 1, 2, 7]) (.seq (.ops [0, 1, 2, 7, 8, 9]) (.seq (.ops [1, 2, 7, 8, 9, 10, 11]) (.seq (.ops [1, 2, 7, 8, 9, 10, 11, 12, 13]) (.seq (.ops [1, 2, 7, 8, 9, 10, 11, 12, 13, 14, 15]) (.seq (.ops [1, 2, 7, 8, 9, 10, 11, 12, 13, 14, 15, 16, 17]) (.seq (.ops [1, 7, 8, 9, 10, 11, 12, 13, 14, 15, 16, 17, 18]) (.seq (.seq (.ops [1, 7, 8, 9, 10, 11, 12, 13, 14, 15, 16, 79]) (.cond (.seq (.ops [6]) .leaf) .leaf)) (.seq (.ops [1, 7, 8, 9, 10, 11, 12, 13, 14, 15, 16, 19]) (.seq (.seq (.ops [1, 7, 8, 9, 10, 11, 12, 13, 14, 15, 16, 19, 20]) (.blk (.loop [1, 7, 8, 9, 10, 11, 12, 13, 14, 15, 16] [19, 20] (.seq (.seq (.ops [1, 7, 8, 9, 10, 11, 12, 13, 14, 15, 16, 19, 20, 83]) (.cond .leaf .leaf)) (.seq (.blk (.seq (.ops [1, 7, 8, 9, 10, 11, 12, 13, 14, 15, 16, 19, 20]) (.seq (.ops [1, 7, 8, 9, 10, 11, 12, 13, 14, 15, 16, 19, 20, 99]) (.cond (.seq (.ops [6]) .leaf) .leaf)))) (.ops [1, 7, 8, 9, 10, 11, 12, 13, 14, 15, 16, 19, 20])))))) (.seq (.seq (.ops [1, 7, 8, 9, 10, 11, 12, 13, 14, 15, 21]) (.blk (.loop [1, 7, 8, 9, 10, 11, 12, 13, 14, 15] [21] (.seq (.seq (.ops [1, 7, 8, 9, 10, 11, 12, 13, 14, 15, 21, 103]) (.cond .leaf .leaf)) (.seq (.blk (.seq (.ops [1, 7, 8, 9, 10, 11, 12, 13, 14, 15, 21, 22]) (.blk (.loop [1, 7, 8, 9, 10, 11, 12, 13, 14, 15, 21] [22] (.seq (.seq (.ops [1, 7, 8, 9, 10, 11, 12, 13, 14, 15, 21, 22, 112]) (.cond .leaf .leaf)) (.seq (.blk (.ops [1, 7, 8, 9, 10, 11, 12, 13, 14, 15, 21, 22])) (.ops [1, 7, 8, 9, 10, 11, 12, 13, 14, 15, 21, 22]))))))) (.ops [1, 7, 8, 9, 10, 11, 12, 13, 14, 15, 21])))))) (.seq (.ops [6]) .leaf)))))))))))))))) (c := Try.f3.body.getD .skip) hent Try.func3 rfl (Nat.le_of_ble_eq_true (by kernel_rfl))
    (Eq.mp (show sh3 a0 a1 a2 w R = denF Try.prog ent false Try.f3 (.seq (.ops [0, 1, 2]) (.seq (.seq (.ops [0, 1, 2, 24]) (.cond (.seq (.ops [6]) .leaf) .leaf)) (.seq (.seq (.ops [0, 1, 2, 32]) (.cond (.seq (.ops [6]) .leaf) .leaf)) (.seq (.ops [0, 1, 2, 7]) (.seq (.ops [0, 1, 2, 7, 8, 9]) (.seq (.ops [1, 2, 7, 8, 9, 10, 11]) (.seq (.ops [1, 2, 7, 8, 9, 10, 11, 12, 13]) (.seq (.ops [1, 2, 7, 8, 9, 10, 11, 12, 13, 14, 15]) (.seq (.ops [1, 2, 7, 8, 9, 10, 11, 12, 13, 14, 15, 16, 17]) (.seq (.ops [1, 7, 8, 9, 10, 11, 12, 13, 14, 15, 16, 17, 18]) (.seq (.seq (.ops [1, 7, 8, 9, 10, 11, 12, 13, 14, 15, 16, 79]) (.cond (.seq (.ops [6]) .leaf) .leaf)) (.seq (.ops [1, 7, 8, 9, 10, 11, 12, 13, 14, 15, 16, 19]) (.seq (.seq (.ops [1, 7, 8, 9, 10, 11, 12, 13, 14, 15, 16, 19, 20]) (.blk (.loop [1, 7, 8, 9, 10, 11, 12, 13, 14, 15, 16] [19, 20] (.seq (.seq (.ops [1, 7, 8, 9, 10, 11, 12, 13, 14, 15, 16, 19, 20, 83]) (.cond .leaf .leaf)) (.seq (.blk (.seq (.ops [1, 7, 8, 9, 10, 11, 12, 13, 14, 15, 16, 19, 20]) (.seq (.ops [1, 7, 8, 9, 10, 11, 12, 13, 14, 15, 16, 19, 20, 99]) (.cond (.seq (.ops [6]) .leaf) .leaf)))) (.ops [1, 7, 8, 9, 10, 11, 12, 13, 14, 15, 16, 19, 20])))))) (.seq (.seq (.ops [1, 7, 8, 9, 10, 11, 12, 13, 14, 15, 21]) (.blk (.loop [1, 7, 8, 9, 10, 11, 12, 13, 14, 15] [21] (.seq (.seq (.ops [1, 7, 8, 9, 10, 11, 12, 13, 14, 15, 21, 103]) (.cond .leaf .leaf)) (.seq (.blk (.seq (.ops [1, 7, 8, 9, 10, 11, 12, 13, 14, 15, 21, 22]) (.blk (.loop [1, 7, 8, 9, 10, 11, 12, 13, 14, 15, 21] [22] (.seq (.seq (.ops [1, 7, 8, 9, 10, 11, 12, 13, 14, 15, 21, 22, 112]) (.cond .leaf .leaf)) (.seq (.blk (.ops [1, 7, 8, 9, 10, 11, 12, 13, 14, 15, 21, 22])) (.ops [1, 7, 8, 9, 10, 11, 12, 13, 14, 15, 21, 22]))))))) (.ops [1, 7, 8, 9, 10, 11, 12, 13, 14, 15, 21])))))) (.seq (.ops [6]) .leaf))))))))))))))) (Try.f3.body.getD .skip) [a0, a1, a2] w R by kernel_rfl) h)

/-! ### 4: handbill/hbllaw9.FrameBack -/
def sh4 (a0 a1 a2 a3 : Value) (w : World) (R : Value → World → Prop) : Prop :=
 CallF Try.prog 9 #[] w fun t27_1 w =>
 RunA Try.prog (Op.unary .not t27_1) fun t28_2 =>
 IfB t28_2 (
 R (.bool false) w) (
 RunW Try.prog (Builtin.len_ #[28] 3 #[a0]) w fun t30_3 =>
 RunA Try.prog (bin .gtr 3 (.tmp 30) (.const (.int .i64 40)) t30_3 (.int .i64 40)) fun t31_4 =>
 IfB t31_4 (
 CallF Try.prog 9 #[] w fun t40_5 w =>
 R t40_5 w) (
 RunA Try.prog (bin .lss 3 (.tmp 33) (.const (.int .i64 0)) a1 (.int .i64 0)) fun t34_6 =>
 IfB t34_6 (
 CallF Try.prog 9 #[] w fun t40_7 w =>
 R t40_7 w) (
 RunA Try.prog (bin .lss 3 (.tmp 37) (.const (.int .i64 0)) a2 (.int .i64 0)) fun t38_8 =>
 IfB t38_8 (
 CallF Try.prog 9 #[] w fun t40_9 w =>
 R t40_9 w) (
 lp 3 (fun n_13 t9_10 t10_11 t11_12 w =>
 RunW Try.prog (Builtin.len_ #[28] 3 #[a0]) w fun t43_14 =>
 RunA Try.prog (bin .lss 3 (.tmp 41) (.tmp 43) t11_12 t43_14) fun t44_15 =>
 IfB t44_15 (
 RunA Try.prog (Instr.indexAt 28 a0 t11_12) fun t49_16 =>
 RunW Try.prog (Instr.loadAt 22 t49_16) w fun t50_17 =>
 RunW Try.prog (Builtin.len_ #[22] 3 #[t50_17]) w fun t51_18 =>
 RunA Try.prog (bin .gtr 3 (.tmp 51) (.const (.int .i64 500)) t51_18 (.int .i64 500)) fun t52_19 =>
 IfB t52_19 (
 CallF Try.prog 9 #[] w fun t53_20 w =>
 R t53_20 w) (
 RunA Try.prog (Instr.indexAt 28 a0 t11_12) fun t57_21 =>
 RunW Try.prog (Instr.loadAt 22 t57_21) w fun t58_22 =>
 CallF Try.prog 11 #[t58_22] w fun t59_23 w =>
 RunA Try.prog (Instr.extract t59_23 0) fun t60_24 =>
 RunA Try.prog (Instr.extract t59_23 1) fun t61_25 =>
 RunW Try.prog (bin .neq 25 (.tmp 62) (.const (.int .i64 0)) t61_25 (.int .i64 0)) w fun t63_26 =>
 IfB t63_26 (
 R (.bool false) w) (
 RunV Try.prog (Builtin.append_ #[22, 22] 22 #[t9_10, t60_24]) w fun t66_27 w =>
 RunW Try.prog (Builtin.len_ #[22] 3 #[t66_27]) w fun t69_28 =>
 RunV Try.prog (Instr.buildSlice 31 1 #[(0, t69_28)]) w fun t70_29 w =>
 RunV Try.prog (Builtin.append_ #[31, 31] 31 #[t10_11, t70_29]) w fun t71_30 w =>
 RunA Try.prog (bin .add 3 (.tmp 45) (.const (.int .i64 1)) t11_12 (.int .i64 1)) fun t46_31 =>
 (a0 : Value) = a0 ∧ ((a1 : Value) = a1 ∧ ((a2 : Value) = a2 ∧ ((a3 : Value) = a3 ∧ (n_13 t66_27 t71_30 t46_31 w))))))) (
 CallF Try.prog 13 #[t9_10] w fun t74_32 w =>
 RunA Try.prog (Instr.extract t74_32 0) fun t75_33 =>
 RunA Try.prog (Instr.extract t74_32 1) fun t76_34 =>
 RunW Try.prog (Builtin.len_ #[22] 3 #[t9_10]) w fun t79_35 =>
 RunW Try.prog (bin .neq 3 (.tmp 77) (.tmp 79) t76_34 t79_35) w fun t80_36 =>
 IfB t80_36 (
 R (.bool false) w) (
 CallF Try.prog 17 #[t75_33, a0] w fun t84_37 w =>
 RunA Try.prog (Op.unary .not t84_37) fun t85_38 =>
 IfB t85_38 (
 R (.bool false) w) (
 RunW Try.prog (Builtin.len_ #[22] 3 #[t9_10]) w fun t89_39 =>
 RunA Try.prog (bin .add 3 (.tmp 89) (.const (.int .i64 1)) t89_39 (.int .i64 1)) fun t90_40 =>
 RunA Try.prog (bin .rem 3 (.tmp 87) (.tmp 90) a1 t90_40) fun t91_41 =>
 RunA Try.prog (Instr.sliceAt 22 t9_10 none (some t91_41) none) fun t95_42 =>
 CallF Try.prog 13 #[t95_42] w fun t96_43 w =>
 RunA Try.prog (Instr.extract t96_43 0) fun t97_44 =>
 RunA Try.prog (Instr.extract t96_43 1) fun t98_45 =>
 jn 9 (fun t0_46 t2_47 t3_48 t9_49 t10_50 t17_51 t18_52 t19_53 t20_54 w =>
 RunA Try.prog (Instr.sliceAt 28 t0_46 none (some t19_53) none) fun t120_56 =>
 CallF Try.prog 17 #[t17_51, t120_56] w fun t121_57 w =>
 RunA Try.prog (Op.unary .not t121_57) fun t122_58 =>
 IfB t122_58 (
 R (.bool false) w) (
 RunW Try.prog (bin .neq 3 (.tmp 124) (.tmp 125) t18_52 t20_54) w fun t126_59 =>
 IfB t126_59 (
 R (.bool false) w) (
 RunW Try.prog (Builtin.len_ #[22] 3 #[t9_49]) w fun t129_60 =>
 RunW Try.prog (bin .eql 3 (.tmp 129) (.const (.int .i64 0)) t129_60 (.int .i64 0)) w fun t130_61 =>
 IfB t130_61 (
 CallF Try.prog 9 #[] w fun t135_62 w =>
 R t135_62 w) (
 RunW Try.prog (bin .eql 5 (.tmp 132) (.const (.int .u8 0)) t3_48 (.int .u8 0)) w fun t133_63 =>
 IfB t133_63 (
 CallF Try.prog 9 #[] w fun t135_64 w =>
 R t135_64 w) (
 CallF Try.prog 10 #[t9_49] w fun t137_65 w =>
 RunW Try.prog (Builtin.len_ #[22] 3 #[t137_65]) w fun t140_66 =>
 RunA Try.prog (bin .rem 3 (.tmp 138) (.tmp 140) t2_47 t140_66) fun t141_67 =>
 RunA Try.prog (Instr.indexAt 22 t137_65 t141_67) fun t146_68 =>
 RunW Try.prog (Instr.loadAt 5 t146_68) w fun t147_69 =>
 RunA Try.prog (bin .xor 5 (.tmp 147) (.tmp 148) t147_69 t3_48) fun t149_70 =>
 RunA Try.prog (Instr.indexAt 22 t137_65 t141_67) fun t150_71 =>
 RunU Try.prog (Instr.storeAt 5 t150_71 t149_70) w fun w =>
 jn 5 (fun t0_72 t10_73 t21_74 t22_75 t23_76 w =>
 CallF Try.prog 13 #[t21_74] w fun t167_78 w =>
 RunA Try.prog (Instr.extract t167_78 0) fun t168_79 =>
 RunA Try.prog (Instr.extract t167_78 1) fun t169_80 =>
 jn 6 (fun t0_81 t22_82 t23_83 t24_84 t25_85 t26_86 w =>
 RunA Try.prog (bin .add 3 (.tmp 178) (.const (.int .i64 2)) t26_86 (.int .i64 2)) fun t179_88 =>
 RunA Try.prog (bin .geq 3 (.tmp 177) (.tmp 179) t22_82 t179_88) fun t180_89 =>
 IfB t180_89 (
 CallF Try.prog 9 #[] w fun t181_90 w =>
 IfB t181_90 (
 RunW Try.prog (bin .eql 3 (.tmp 183) (.tmp 184) t25_85 t26_86) w fun t185_91 =>
 IfB t185_91 (
 RunA Try.prog (Instr.sliceAt 28 t0_81 none (some t23_83) none) fun t191_92 =>
 CallF Try.prog 17 #[t24_84, t191_92] w fun t192_93 w =>
 R t192_93 w) (
 R (.bool false) w)) (
 R (.bool false) w)) (
 drw (fun S_94 w =>
 CallF Try.prog 9 #[] w fun t194_95 w =>
 S_94 w ∧ (
 IfB t194_95 (
 RunA Try.prog (bin .geq 3 (.tmp 196) (.tmp 197) t25_85 t26_86) fun t198_96 =>
 IfB t198_96 (
 RunS Try.prog S_94 (Builtin.len_ #[28] 3 #[t24_84]) fun t202_97 =>
 RunA Try.prog (bin .geq 3 (.tmp 202) (.tmp 203) t202_97 t23_83) fun t204_98 =>
 IfB t204_98 (
 RunA Try.prog (Instr.sliceAt 28 t24_84 none (some t23_83) none) fun t209_99 =>
 RunA Try.prog (Instr.sliceAt 28 t0_81 none (some t23_83) none) fun t212_100 =>
 CallF Try.prog 17 #[t209_99, t212_100] w fun t213_101 w =>
 S_94 w ∧ (
 R t213_101 w)) (
 R (.bool false) w)) (
 R (.bool false) w)) (
 R (.bool false) w))) w)) fun j_87 =>
 RunA Try.prog (bin .gtr 3 (.tmp 170) (.const (.int .i64 0)) t23_76 (.int .i64 0)) fun t171_102 =>
 IfB t171_102 (
 RunA Try.prog (bin .sub 3 (.tmp 173) (.const (.int .i64 1)) t23_76 (.int .i64 1)) fun t174_103 =>
 RunA Try.prog (Instr.indexAt 31 t10_73 t174_103) fun t175_104 =>
 RunW Try.prog (Instr.loadAt 3 t175_104) w fun t176_105 =>
 j_87 t0_72 t22_75 t23_76 t168_79 t169_80 t176_105 w) (
 j_87 t0_72 t22_75 t23_76 t168_79 t169_80 (.int .i64 0) w)) fun j_77 =>
 lp 1 (fun n_107 t23_106 w =>
 RunW Try.prog (Builtin.len_ #[31] 3 #[t10_50]) w fun t153_108 =>
 RunA Try.prog (bin .lss 3 (.tmp 151) (.tmp 153) t23_106 t153_108) fun t154_109 =>
 IfB t154_109 (
 RunA Try.prog (Instr.indexAt 31 t10_50 t23_106) fun t158_110 =>
 RunW Try.prog (Instr.loadAt 3 t158_110) w fun t159_111 =>
 RunA Try.prog (bin .leq 3 (.tmp 159) (.tmp 160) t159_111 t141_67) fun t161_112 =>
 IfB t161_112 (
 RunA Try.prog (bin .add 3 (.tmp 163) (.const (.int .i64 1)) t23_106 (.int .i64 1)) fun t164_113 =>
 (t0_46 : Value) = t0_46 ∧ ((t10_50 : Value) = t10_50 ∧ ((t137_65 : Value) = t137_65 ∧ ((t141_67 : Value) = t141_67 ∧ (n_107 t164_113 w))))) (
 j_77 t0_46 t10_50 t137_65 t141_67 t23_106 w)) (
 j_77 t0_46 t10_50 t137_65 t141_67 t23_106 w)) [(.int .i64 0)] w))))) fun j_55 =>
 lp 2 (fun n_116 t19_114 t20_115 w =>
 RunW Try.prog (Builtin.len_ #[31] 3 #[t10_11]) w fun t101_117 =>
 RunA Try.prog (bin .lss 3 (.tmp 99) (.tmp 101) t19_114 t101_117) fun t102_118 =>
 IfB t102_118 (
 RunA Try.prog (Instr.indexAt 31 t10_11 t19_114) fun t106_119 =>
 RunW Try.prog (Instr.loadAt 3 t106_119) w fun t107_120 =>
 RunA Try.prog (bin .leq 3 (.tmp 107) (.tmp 108) t107_120 t91_41) fun t109_121 =>
 IfB t109_121 (
 RunA Try.prog (Instr.indexAt 31 t10_11 t19_114) fun t113_122 =>
 RunW Try.prog (Instr.loadAt 3 t113_122) w fun t114_123 =>
 RunA Try.prog (bin .add 3 (.tmp 115) (.const (.int .i64 1)) t19_114 (.int .i64 1)) fun t116_124 =>
 (a0 : Value) = a0 ∧ ((a2 : Value) = a2 ∧ ((a3 : Value) = a3 ∧ ((t9_10 : Value) = t9_10 ∧ ((t10_11 : Value) = t10_11 ∧ ((t91_41 : Value) = t91_41 ∧ ((t97_44 : Value) = t97_44 ∧ ((t98_45 : Value) = t98_45 ∧ (n_116 t116_124 t114_123 w))))))))) (
 j_55 a0 a2 a3 t9_10 t10_11 t97_44 t98_45 t19_114 t20_115 w)) (
 j_55 a0 a2 a3 t9_10 t10_11 t97_44 t98_45 t19_114 t20_115 w)) [(.int .i64 0), (.int .i64 0)] w)))) [(.slice none 0 0), (.slice none 0 0), (.int .i64 0)] w))))
theorem sh4_calls {a0 a1 a2 a3 : Value} {w : World} {R : Value → World → Prop} (h : sh4 a0 a1 a2 a3 w R) : CallF Try.prog 4 #[a0, a1, a2, a3] w R :=
  calls_of_denF (mk := false) (args := [a0, a1, a2, a3]) (an := (.seq (.ops [0, 1, 2, 3]) (.seq (.seq (.ops [0, 1, 2, 3, 28]) (.cond (.seq (.ops [8]) .leaf) .leaf)) (.seq (.seq (.ops [0, 1, 2, 3, 39]) (.cond (.seq (.ops [8]) .leaf) .leaf)) (.seq (.ops [0, 1, 2, 3, 9]) (.seq (.ops [0, 1, 2, 3, 9, 10]) (.seq (.seq (.ops [0, 1, 2, 3, 9, 10, 11]) (.blk (.loop [0, 1, 2, 3] [9, 10, 11] (.seq (.seq (.ops [0, 1, 2, 3, 9, 10, 11, 44]) (.cond .leaf .leaf)) (.seq (.blk (.seq (.seq (.ops [0, 1, 2, 3, 9, 10, 11, 52]) (.cond (.seq (.ops [8]) .leaf) .leaf)) (.seq (.ops [0, 1, 2, 3, 9, 10, 11, 12, 13]) (.seq (.seq (.ops [0, 1, 2, 3, 9, 10, 11, 12, 63]) (.cond (.seq (.ops [8]) .leaf) .leaf)) (.seq (.ops [0, 1, 2, 3, 9, 10, 11]) (.ops [0, 1, 2, 3, 9, 10, 11])))))) (.ops [0, 1, 2, 3, 9, 10, 11])))))) (.seq (.ops [0, 1, 2, 3, 9, 10, 14, 15]) (.seq (.seq (.ops [0, 1, 2, 3, 9, 10, 86]) (.cond (.seq (.ops [8]) .leaf) .leaf)) (.seq (.ops [0, 2, 3, 9, 10, 16]) (.seq (.ops [0, 2, 3, 9, 10, 16, 17, 18]) (.seq (.ops [0, 2, 3, 9, 10, 16, 17, 18, 19, 20]) (.seq (.join [0, 2, 3, 9, 10, 17, 18, 19, 20] (.blk (.loop [0, 2, 3, 9, 10, 16, 17, 18] [19, 20] (.seq (.seq (.ops [0, 2, 3, 9, 10, 16, 17, 18, 19, 20, 110]) (.cond .leaf .leaf)) (.blk (.seq (.ops [0, 2, 3, 9, 10, 16, 17, 18, 19, 20]) (.ops [0, 2, 3, 9, 10, 16, 17, 18, 19, 20]))))))) (.seq (.seq (.ops [0, 2, 3, 9, 10, 127]) (.cond (.seq (.ops [8]) .leaf) .leaf)) (.seq (.seq (.ops [0, 2, 3, 9, 10, 134]) (.cond (.seq (.ops [8]) .leaf) .leaf)) (.seq (.ops [0, 2, 3, 10, 21]) (.seq (.ops [0, 3, 10, 21, 22]) (.seq (.ops [0, 10, 21, 22]) (.seq (.ops [0, 10, 21, 22, 23]) (.seq (.join [0, 10, 21, 22, 23] (.blk (.loop [0, 10, 21, 22] [23] (.seq (.seq (.ops [0, 10, 21, 22, 23, 162]) (.cond .leaf .leaf)) (.blk (.ops [0, 10, 21, 22, 23])))))) (.seq (.ops [0, 10, 22, 23, 24, 25]) (.seq (.ops [0, 10, 22, 23, 24, 25, 26]) (.seq (.join [0, 22, 23, 24, 25, 26] (.seq (.ops [0, 10, 22, 23, 24, 25, 26, 171]) (.cond (.ops [0, 22, 23, 24, 25, 26]) .leaf))) (.seq (.seq (.ops [0, 23, 24, 25, 26, 180]) (.cond (.seq (.ops [8]) .leaf) .leaf)) (.seq (.draw (.one 0 (.q 1 (.sp 2 (.q 2 (.q 3 (.q 4 (.q 5 (.q 6 (.sp 7 (.q 7 (.q 8 (.q 9 (.q 10 (.q 11 (.q 12 (.sp 13 (.q 13 (.q 14 (.q 15 (.q 16 (.q 17 (.q 18 (.one 19 (.q 20 (.q 21 .fin))))))))) (.q 13 (.q 14 (.q 15 (.q 16 (.q 17 (.q 18 (.q 19 (.q 20 (.q 21 .fin)))))))))))))))) (.q 7 (.q 8 (.q 9 (.q 10 (.q 11 (.q 12 (.q 13 (.q 14 (.q 15 (.q 16 (.q 17 (.q 18 (.q 19 (.q 20 (.q 21 .fin))))))))))))))))))))) (.q 2 (.q 3 (.q 4 (.q 5 (.q 6 (.q 7 (.q 8 (.q 9 (.q 10 (.q 11 (.q 12 (.q 13 (.q 14 (.q 15 (.q 16 (.q 17 (.q 18 (.q 19 (.q 20 (.q 21 .fin))))))))))))))))))))))) [8]) .leaf))))))))))))))))))))))))) (c := Try.f4.body.getD .skip) hent Try.func4 rfl (Nat.le_of_ble_eq_true (by kernel_rfl))
    (Eq.mp (show sh4 a0 a1 a2 a3 w R = denF Try.prog ent false Try.f4 (.seq (.ops [0, 1, 2, 3]) (.seq (.seq (.ops [0, 1, 2, 3, 28]) (.cond (.seq (.ops [8]) .leaf) .leaf)) (.seq (.seq (.ops [0, 1, 2, 3, 39]) (.cond (.seq (.ops [8]) .leaf) .leaf)) (.seq (.ops [0, 1, 2, 3, 9]) (.seq (.ops [0, 1, 2, 3, 9, 10]) (.seq (.seq (.ops [0, 1, 2, 3, 9, 10, 11]) (.blk (.loop [0, 1, 2, 3] [9, 10, 11] (.seq (.seq (.ops [0, 1, 2, 3, 9, 10, 11, 44]) (.cond .leaf .leaf)) (.seq (.blk (.seq (.seq (.ops [0, 1, 2, 3, 9, 10, 11, 52]) (.cond (.seq (.ops [8]) .leaf) .leaf)) (.seq (.ops [0, 1, 2, 3, 9, 10, 11, 12, 13]) (.seq (.seq (.ops [0, 1, 2, 3, 9, 10, 11, 12, 63]) (.cond (.seq (.ops [8]) .leaf) .leaf)) (.seq (.ops [0, 1, 2, 3, 9, 10, 11]) (.ops [0, 1, 2, 3, 9, 10, 11])))))) (.ops [0, 1, 2, 3, 9, 10, 11])))))) (.seq (.ops [0, 1, 2, 3, 9, 10, 14, 15]) (.seq (.seq (.ops [0, 1, 2, 3, 9, 10, 86]) (.cond (.seq (.ops [8]) .leaf) .leaf)) (.seq (.ops [0, 2, 3, 9, 10, 16]) (.seq (.ops [0, 2, 3, 9, 10, 16, 17, 18]) (.seq (.ops [0, 2, 3, 9, 10, 16, 17, 18, 19, 20]) (.seq (.join [0, 2, 3, 9, 10, 17, 18, 19, 20] (.blk (.loop [0, 2, 3, 9, 10, 16, 17, 18] [19, 20] (.seq (.seq (.ops [0, 2, 3, 9, 10, 16, 17, 18, 19, 20, 110]) (.cond .leaf .leaf)) (.blk (.seq (.ops [0, 2, 3, 9, 10, 16, 17, 18, 19, 20]) (.ops [0, 2, 3, 9, 10, 16, 17, 18, 19, 20]))))))) (.seq (.seq (.ops [0, 2, 3, 9, 10, 127]) (.cond (.seq (.ops [8]) .leaf) .leaf)) (.seq (.seq (.ops [0, 2, 3, 9, 10, 134]) (.cond (.seq (.ops [8]) .leaf) .leaf)) (.seq (.ops [0, 2, 3, 10, 21]) (.seq (.ops [0, 3, 10, 21, 22]) (.seq (.ops [0, 10, 21, 22]) (.seq (.ops [0, 10, 21, 22, 23]) (.seq (.join [0, 10, 21, 22, 23] (.blk (.loop [0, 10, 21, 22] [23] (.seq (.seq (.ops [0, 10, 21, 22, 23, 162]) (.cond .leaf .leaf)) (.blk (.ops [0, 10, 21, 22, 23])))))) (.seq (.ops [0, 10, 22, 23, 24, 25]) (.seq (.ops [0, 10, 22, 23, 24, 25, 26]) (.seq (.join [0, 22, 23, 24, 25, 26] (.seq (.ops [0, 10, 22, 23, 24, 25, 26, 171]) (.cond (.ops [0, 22, 23, 24, 25, 26]) .leaf))) (.seq (.seq (.ops [0, 23, 24, 25, 26, 180]) (.cond (.seq (.ops [8]) .leaf) .leaf)) (.seq (.draw (.one 0 (.q 1 (.sp 2 (.q 2 (.q 3 (.q 4 (.q 5 (.q 6 (.sp 7 (.q 7 (.q 8 (.q 9 (.q 10 (.q 11 (.q 12 (.sp 13 (.q 13 (.q 14 (.q 15 (.q 16 (.q 17 (.q 18 (.one 19 (.q 20 (.q 21 .fin))))))))) (.q 13 (.q 14 (.q 15 (.q 16 (.q 17 (.q 18 (.q 19 (.q 20 (.q 21 .fin)))))))))))))))) (.q 7 (.q 8 (.q 9 (.q 10 (.q 11 (.q 12 (.q 13 (.q 14 (.q 15 (.q 16 (.q 17 (.q 18 (.q 19 (.q 20 (.q 21 .fin))))))))))))))))))))) (.q 2 (.q 3 (.q 4 (.q 5 (.q 6 (.q 7 (.q 8 (.q 9 (.q 10 (.q 11 (.q 12 (.q 13 (.q 14 (.q 15 (.q 16 (.q 17 (.q 18 (.q 19 (.q 20 (.q 21 .fin))))))))))))))))))))))) [8]) .leaf)))))))))))))))))))))))) (Try.f4.body.getD .skip) [a0, a1, a2, a3] w R by kernel_rfl) h)

/-! ### 5: handbill/hbllaw9.FrameJoins -/
def sh5 (a0 a1 : Value) (w : World) (R : Value → World → Prop) : Prop :=
 CallF Try.prog 9 #[] w fun t15_1 w =>
 RunA Try.prog (Op.unary .not t15_1) fun t16_2 =>
 IfB t16_2 (
 R (.bool false) w) (
 RunW Try.prog (Builtin.len_ #[28] 3 #[a0]) w fun t18_3 =>
 RunA Try.prog (bin .gtr 3 (.tmp 18) (.const (.int .i64 40)) t18_3 (.int .i64 40)) fun t19_4 =>
 IfB t19_4 (
 CallF Try.prog 9 #[] w fun t25_5 w =>
 R t25_5 w) (
 RunW Try.prog (Builtin.len_ #[28] 3 #[a1]) w fun t22_6 =>
 RunA Try.prog (bin .gtr 3 (.tmp 22) (.const (.int .i64 40)) t22_6 (.int .i64 40)) fun t23_7 =>
 IfB t23_7 (
 CallF Try.prog 9 #[] w fun t25_8 w =>
 R t25_8 w) (
 lp 3 (fun n_12 t5_9 t6_10 t7_11 w =>
 RunW Try.prog (Builtin.len_ #[28] 3 #[a0]) w fun t28_13 =>
 RunW Try.prog (Builtin.len_ #[28] 3 #[a1]) w fun t30_14 =>
 RunA Try.prog (bin .add 3 (.tmp 28) (.tmp 30) t28_13 t30_14) fun t31_15 =>
 RunA Try.prog (bin .lss 3 (.tmp 26) (.tmp 31) t7_11 t31_15) fun t32_16 =>
 IfB t32_16 (
 jn 6 (fun t0_17 t1_18 t5_19 t6_20 t7_21 t8_22 w =>
 RunW Try.prog (Builtin.len_ #[22] 3 #[t8_22]) w fun t51_24 =>
 RunA Try.prog (bin .gtr 3 (.tmp 51) (.const (.int .i64 250)) t51_24 (.int .i64 250)) fun t52_25 =>
 IfB t52_25 (
 CallF Try.prog 9 #[] w fun t53_26 w =>
 R t53_26 w) (
 CallF Try.prog 11 #[t8_22] w fun t56_27 w =>
 RunA Try.prog (Instr.extract t56_27 0) fun t57_28 =>
 RunA Try.prog (Instr.extract t56_27 1) fun t58_29 =>
 RunW Try.prog (bin .neq 25 (.tmp 59) (.const (.int .i64 0)) t58_29 (.int .i64 0)) w fun t60_30 =>
 IfB t60_30 (
 R (.bool false) w) (
 RunW Try.prog (Builtin.len_ #[22] 3 #[t57_28]) w fun t63_31 =>
 RunW Try.prog (Builtin.len_ #[22] 3 #[t8_22]) w fun t65_32 =>
 RunA Try.prog (bin .add 3 (.tmp 65) (.const (.int .i64 6)) t65_32 (.int .i64 6)) fun t66_33 =>
 RunW Try.prog (bin .neq 3 (.tmp 63) (.tmp 66) t63_31 t66_33) w fun t67_34 =>
 IfB t67_34 (
 R (.bool false) w) (
 jn 5 (fun t0_35 t1_36 t5_37 t6_38 t7_39 w =>
 RunA Try.prog (bin .add 3 (.tmp 33) (.const (.int .i64 1)) t7_39 (.int .i64 1)) fun t34_41 =>
 (t0_35 : Value) = a0 ∧ ((t1_36 : Value) = a1 ∧ (n_12 t5_37 t6_38 t34_41 w))) fun j_40 =>
 RunW Try.prog (Builtin.len_ #[28] 3 #[t0_17]) w fun t71_42 =>
 RunA Try.prog (bin .lss 3 (.tmp 69) (.tmp 71) t7_21 t71_42) fun t72_43 =>
 IfB t72_43 (
 RunV Try.prog (Builtin.append_ #[22, 22] 22 #[t5_19, t57_28]) w fun t75_44 w =>
 j_40 t0_17 t1_18 t75_44 t6_20 t7_21 w) (
 RunV Try.prog (Builtin.append_ #[22, 22] 22 #[t6_20, t57_28]) w fun t78_45 w =>
 j_40 t0_17 t1_18 t5_19 t78_45 t7_21 w))))) fun j_23 =>
 RunW Try.prog (Builtin.len_ #[28] 3 #[a0]) w fun t37_46 =>
 RunA Try.prog (bin .lss 3 (.tmp 35) (.tmp 37) t7_11 t37_46) fun t38_47 =>
 IfB t38_47 (
 RunA Try.prog (Instr.indexAt 28 a0 t7_11) fun t41_48 =>
 RunW Try.prog (Instr.loadAt 22 t41_48) w fun t42_49 =>
 j_23 a0 a1 t5_9 t6_10 t7_11 t42_49 w) (
 RunW Try.prog (Builtin.len_ #[28] 3 #[a0]) w fun t46_50 =>
 RunA Try.prog (bin .sub 3 (.tmp 44) (.tmp 46) t7_11 t46_50) fun t47_51 =>
 RunA Try.prog (Instr.indexAt 28 a1 t47_51) fun t48_52 =>
 RunW Try.prog (Instr.loadAt 22 t48_52) w fun t49_53 =>
 j_23 a0 a1 t5_9 t6_10 t7_11 t49_53 w)) (
 CallF Try.prog 10 #[t5_9] w fun t81_54 w =>
 RunV Try.prog (Builtin.append_ #[22, 22] 22 #[t81_54, t6_10]) w fun t83_55 w =>
 CallF Try.prog 13 #[t83_55] w fun t84_56 w =>
 RunA Try.prog (Instr.extract t84_56 0) fun t85_57 =>
 RunA Try.prog (Instr.extract t84_56 1) fun t86_58 =>
 CallF Try.prog 10 #[t5_9] w fun t89_59 w =>
 RunV Try.prog (Instr.buildSlice 22 6 #[(0, (.int .u8 255)), (1, (.int .u8 255)), (2, (.int .u8 0)), (3, (.int .u8 0)), (4, (.int .u8 0)), (5, (.int .u8 0))]) w fun t90_60 w =>
 RunV Try.prog (Builtin.append_ #[22, 22] 22 #[t89_59, t90_60]) w fun t91_61 w =>
 RunV Try.prog (Builtin.append_ #[22, 22] 22 #[t91_61, t6_10]) w fun t93_62 w =>
 CallF Try.prog 13 #[t93_62] w fun t94_63 w =>
 RunA Try.prog (Instr.extract t94_63 0) fun t95_64 =>
 RunA Try.prog (Instr.extract t94_63 1) fun t96_65 =>
 CallF Try.prog 9 #[] w fun t97_66 w =>
 IfB t97_66 (
 RunW Try.prog (Builtin.len_ #[22] 3 #[t5_9]) w fun t101_67 =>
 RunW Try.prog (Builtin.len_ #[22] 3 #[t6_10]) w fun t103_68 =>
 RunA Try.prog (bin .add 3 (.tmp 101) (.tmp 103) t101_67 t103_68) fun t104_69 =>
 RunW Try.prog (bin .eql 3 (.tmp 99) (.tmp 104) t86_58 t104_69) w fun t105_70 =>
 IfB t105_70 (
 RunV Try.prog (Instr.buildSlice 28 0 #[]) w fun t109_71 w =>
 RunV Try.prog (Builtin.append_ #[28, 28] 28 #[t109_71, a0]) w fun t111_72 w =>
 RunV Try.prog (Builtin.append_ #[28, 28] 28 #[t111_72, a1]) w fun t113_73 w =>
 CallF Try.prog 17 #[t85_57, t113_73] w fun t114_74 w =>
 IfB t114_74 (
 RunW Try.prog (Builtin.len_ #[22] 3 #[t5_9]) w fun t119_75 =>
 RunW Try.prog (bin .eql 3 (.tmp 117) (.tmp 119) t96_65 t119_75) w fun t120_76 =>
 IfB t120_76 (
 CallF Try.prog 17 #[t95_64, a0] w fun t125_77 w =>
 R t125_77 w) (
 R (.bool false) w)) (
 R (.bool false) w)) (
 R (.bool false) w)) (
 R (.bool false) w))) [(.slice none 0 0), (.slice none 0 0), (.int .i64 0)] w)))
theorem sh5_calls {a0 a1 : Value} {w : World} {R : Value → World → Prop} (h : sh5 a0 a1 w R) : CallF Try.prog 5 #[a0, a1] w R :=
  calls_of_denF (mk := false) (args := [a0, a1]) (an := (.seq (.ops [0, 1]) (.seq (.seq (.ops [0, 1, 16]) (.cond (.seq (.ops [4]) .leaf) .leaf)) (.seq (.seq (.ops [0, 1, 24]) (.cond (.seq (.ops [4]) .leaf) .leaf)) (.seq (.ops [0, 1, 5, 6]) (.seq (.seq (.ops [0, 1, 5, 6, 7]) (.blk (.loop [0, 1] [5, 6, 7] (.seq (.seq (.ops [0, 1, 5, 6, 7, 32]) (.cond .leaf .leaf)) (.seq (.blk (.seq (.ops [0, 1, 5, 6, 7]) (.seq (.join [0, 1, 5, 6, 7, 8] (.seq (.ops [0, 1, 5, 6, 7, 38]) (.cond (.ops [0, 1, 5, 6, 7, 8]) (.ops [0, 1, 5, 6, 7, 8])))) (.seq (.seq (.ops [0, 1, 5, 6, 7, 8, 52]) (.cond (.seq (.ops [4]) .leaf) .leaf)) (.seq (.ops [0, 1, 5, 6, 7, 8, 9, 10]) (.seq (.seq (.ops [0, 1, 5, 6, 7, 9, 68]) (.cond (.seq (.ops [4]) .leaf) .leaf)) (.join [0, 1, 5, 6, 7] (.seq (.ops [0, 1, 5, 6, 7, 9, 72]) (.cond (.ops [0, 1, 5, 6, 7]) (.ops [0, 1, 5, 6, 7])))))))))) (.ops [0, 1, 5, 6, 7])))))) (.seq (.ops [0, 1, 5, 6, 11, 12]) (.seq (.ops [0, 1, 5, 6, 11, 12, 13, 14]) (.seq (.ops [4]) .leaf))))))))) (c := Try.f5.body.getD .skip) hent Try.func5 rfl (Nat.le_of_ble_eq_true (by kernel_rfl))
    (Eq.mp (show sh5 a0 a1 w R = denF Try.prog ent false Try.f5 (.seq (.ops [0, 1]) (.seq (.seq (.ops [0, 1, 16]) (.cond (.seq (.ops [4]) .leaf) .leaf)) (.seq (.seq (.ops [0, 1, 24]) (.cond (.seq (.ops [4]) .leaf) .leaf)) (.seq (.ops [0, 1, 5, 6]) (.seq (.seq (.ops [0, 1, 5, 6, 7]) (.blk (.loop [0, 1] [5, 6, 7] (.seq (.seq (.ops [0, 1, 5, 6, 7, 32]) (.cond .leaf .leaf)) (.seq (.blk (.seq (.ops [0, 1, 5, 6, 7]) (.seq (.join [0, 1, 5, 6, 7, 8] (.seq (.ops [0, 1, 5, 6, 7, 38]) (.cond (.ops [0, 1, 5, 6, 7, 8]) (.ops [0, 1, 5, 6, 7, 8])))) (.seq (.seq (.ops [0, 1, 5, 6, 7, 8, 52]) (.cond (.seq (.ops [4]) .leaf) .leaf)) (.seq (.ops [0, 1, 5, 6, 7, 8, 9, 10]) (.seq (.seq (.ops [0, 1, 5, 6, 7, 9, 68]) (.cond (.seq (.ops [4]) .leaf) .leaf)) (.join [0, 1, 5, 6, 7] (.seq (.ops [0, 1, 5, 6, 7, 9, 72]) (.cond (.ops [0, 1, 5, 6, 7]) (.ops [0, 1, 5, 6, 7])))))))))) (.ops [0, 1, 5, 6, 7])))))) (.seq (.ops [0, 1, 5, 6, 11, 12]) (.seq (.ops [0, 1, 5, 6, 11, 12, 13, 14]) (.seq (.ops [4]) .leaf)))))))) (Try.f5.body.getD .skip) [a0, a1] w R by kernel_rfl) h)

/-! ### 6: handbill/hbllaw22.TokenApart -/
def sh6 (a0 a1 : Value) (w : World) (R : Value → World → Prop) : Prop :=
 RunV Try.prog (Instr.box 42 a0) w fun t2_1 w =>
 RunV Try.prog (Instr.box 42 a1) w fun t3_2 w =>
 CallF Try.prog 19 #[] w fun t10_3 w =>
 RunA Try.prog (Op.unary .not t10_3) fun t11_4 =>
 IfB t11_4 (
 R (.bool false) w) (
 RunA Try.prog (Instr.fieldAt 42 t2_1 0) fun t12_5 =>
 RunW Try.prog (Instr.loadAt 9 t12_5) w fun t13_6 =>
 RunW Try.prog (Builtin.len_ #[9] 3 #[t13_6]) w fun t14_7 =>
 RunA Try.prog (Instr.fieldAt 42 t2_1 3) fun t15_8 =>
 RunW Try.prog (Instr.loadAt 9 t15_8) w fun t16_9 =>
 RunW Try.prog (Builtin.len_ #[9] 3 #[t16_9]) w fun t17_10 =>
 RunA Try.prog (bin .add 3 (.tmp 14) (.tmp 17) t14_7 t17_10) fun t18_11 =>
 RunA Try.prog (bin .gtr 3 (.tmp 18) (.const (.int .i64 3000)) t18_11 (.int .i64 3000)) fun t19_12 =>
 IfB t19_12 (
 CallF Try.prog 19 #[] w fun t30_13 w =>
 R t30_13 w) (
 RunA Try.prog (Instr.fieldAt 42 t3_2 0) fun t21_14 =>
 RunW Try.prog (Instr.loadAt 9 t21_14) w fun t22_15 =>
 RunW Try.prog (Builtin.len_ #[9] 3 #[t22_15]) w fun t23_16 =>
 RunA Try.prog (Instr.fieldAt 42 t3_2 3) fun t24_17 =>
 RunW Try.prog (Instr.loadAt 9 t24_17) w fun t25_18 =>
 RunW Try.prog (Builtin.len_ #[9] 3 #[t25_18]) w fun t26_19 =>
 RunA Try.prog (bin .add 3 (.tmp 23) (.tmp 26) t23_16 t26_19) fun t27_20 =>
 RunA Try.prog (bin .gtr 3 (.tmp 27) (.const (.int .i64 3000)) t27_20 (.int .i64 3000)) fun t28_21 =>
 IfB t28_21 (
 CallF Try.prog 19 #[] w fun t30_22 w =>
 R t30_22 w) (
 RunW Try.prog (Instr.loadAt 42 t2_1) w fun t32_23 =>
 CallF Try.prog 20 #[t32_23] w fun t33_24 w =>
 RunA Try.prog (Instr.extract t33_24 0) fun t34_25 =>
 RunA Try.prog (Instr.extract t33_24 1) fun t35_26 =>
 RunW Try.prog (Instr.loadAt 42 t3_2) w fun t37_27 =>
 CallF Try.prog 20 #[t37_27] w fun t38_28 w =>
 RunA Try.prog (Instr.extract t38_28 0) fun t39_29 =>
 RunA Try.prog (Instr.extract t38_28 1) fun t40_30 =>
 RunW Try.prog (bin .neq 25 (.tmp 41) (.const (.int .i64 0)) t35_26 (.int .i64 0)) w fun t42_31 =>
 IfB t42_31 (
 CallF Try.prog 19 #[] w fun t47_32 w =>
 IfB t47_32 (
 RunW Try.prog (bin .eql 25 (.tmp 49) (.const (.int .i64 0)) t35_26 (.int .i64 0)) w fun t50_33 =>
 IfB t50_33 (
 RunW Try.prog (bin .eql 25 (.tmp 58) (.const (.int .i64 0)) t40_30 (.int .i64 0)) w fun t59_34 =>
 IfB t59_34 (
 R (.bool true) w) (
 RunW Try.prog (Instr.loadAt 42 t3_2) w fun t61_35 =>
 CallF Try.prog 21 #[t61_35] w fun t62_36 w =>
 RunA Try.prog (Op.unary .not t62_36) fun t63_37 =>
 R t63_37 w)) (
 RunW Try.prog (Instr.loadAt 42 t2_1) w fun t52_38 =>
 CallF Try.prog 21 #[t52_38] w fun t53_39 w =>
 RunA Try.prog (Op.unary .not t53_39) fun t54_40 =>
 IfB t54_40 (
 RunW Try.prog (bin .eql 25 (.tmp 58) (.const (.int .i64 0)) t40_30 (.int .i64 0)) w fun t59_41 =>
 IfB t59_41 (
 R (.bool true) w) (
 RunW Try.prog (Instr.loadAt 42 t3_2) w fun t61_42 =>
 CallF Try.prog 21 #[t61_42] w fun t62_43 w =>
 RunA Try.prog (Op.unary .not t62_43) fun t63_44 =>
 R t63_44 w)) (
 R (.bool false) w))) (
 R (.bool false) w)) (
 RunW Try.prog (bin .neq 25 (.tmp 44) (.const (.int .i64 0)) t40_30 (.int .i64 0)) w fun t45_45 =>
 IfB t45_45 (
 CallF Try.prog 19 #[] w fun t47_46 w =>
 IfB t47_46 (
 RunW Try.prog (bin .eql 25 (.tmp 49) (.const (.int .i64 0)) t35_26 (.int .i64 0)) w fun t50_47 =>
 IfB t50_47 (
 RunW Try.prog (bin .eql 25 (.tmp 58) (.const (.int .i64 0)) t40_30 (.int .i64 0)) w fun t59_48 =>
 IfB t59_48 (
 R (.bool true) w) (
 RunW Try.prog (Instr.loadAt 42 t3_2) w fun t61_49 =>
 CallF Try.prog 21 #[t61_49] w fun t62_50 w =>
 RunA Try.prog (Op.unary .not t62_50) fun t63_51 =>
 R t63_51 w)) (
 RunW Try.prog (Instr.loadAt 42 t2_1) w fun t52_52 =>
 CallF Try.prog 21 #[t52_52] w fun t53_53 w =>
 RunA Try.prog (Op.unary .not t53_53) fun t54_54 =>
 IfB t54_54 (
 RunW Try.prog (bin .eql 25 (.tmp 58) (.const (.int .i64 0)) t40_30 (.int .i64 0)) w fun t59_55 =>
 IfB t59_55 (
 R (.bool true) w) (
 RunW Try.prog (Instr.loadAt 42 t3_2) w fun t61_56 =>
 CallF Try.prog 21 #[t61_56] w fun t62_57 w =>
 RunA Try.prog (Op.unary .not t62_57) fun t63_58 =>
 R t63_58 w)) (
 R (.bool false) w))) (
 R (.bool false) w)) (
 lp 1 (fun n_60 t9_59 w =>
 RunW Try.prog (Builtin.len_ #[9] 3 #[t34_25]) w fun t68_61 =>
 RunA Try.prog (bin .lss 3 (.tmp 66) (.tmp 68) t9_59 t68_61) fun t69_62 =>
 IfB t69_62 (
 jn 5 (fun t2_63 t3_64 t5_65 t7_66 t9_67 w =>
 RunA Try.prog (bin .add 3 (.tmp 70) (.const (.int .i64 1)) t9_67 (.int .i64 1)) fun t71_69 =>
 (t2_63 : Value) = t2_1 ∧ ((t3_64 : Value) = t3_2 ∧ ((t5_65 : Value) = t34_25 ∧ ((t7_66 : Value) = t39_29 ∧ (n_60 t71_69 w))))) fun j_68 =>
 RunA Try.prog (Instr.index 9 t34_25 t9_59) fun t74_70 =>
 RunA Try.prog (bin .lss 5 (.tmp 74) (.const (.int .u8 48)) t74_70 (.int .u8 48)) fun t75_71 =>
 IfB t75_71 (
 RunA Try.prog (Instr.index 9 t34_25 t9_59) fun t85_72 =>
 RunA Try.prog (bin .lss 5 (.tmp 85) (.const (.int .u8 97)) t85_72 (.int .u8 97)) fun t86_73 =>
 IfB t86_73 (
 R (.bool false) w) (
 RunA Try.prog (Instr.index 9 t34_25 t9_59) fun t90_74 =>
 RunA Try.prog (bin .gtr 5 (.tmp 90) (.const (.int .u8 102)) t90_74 (.int .u8 102)) fun t91_75 =>
 IfB t91_75 (
 R (.bool false) w) (
 j_68 t2_1 t3_2 t34_25 t39_29 t9_59 w))) (
 RunA Try.prog (Instr.index 9 t34_25 t9_59) fun t79_76 =>
 RunA Try.prog (bin .gtr 5 (.tmp 79) (.const (.int .u8 57)) t79_76 (.int .u8 57)) fun t80_77 =>
 IfB t80_77 (
 RunA Try.prog (Instr.index 9 t34_25 t9_59) fun t85_78 =>
 RunA Try.prog (bin .lss 5 (.tmp 85) (.const (.int .u8 97)) t85_78 (.int .u8 97)) fun t86_79 =>
 IfB t86_79 (
 R (.bool false) w) (
 RunA Try.prog (Instr.index 9 t34_25 t9_59) fun t90_80 =>
 RunA Try.prog (bin .gtr 5 (.tmp 90) (.const (.int .u8 102)) t90_80 (.int .u8 102)) fun t91_81 =>
 IfB t91_81 (
 R (.bool false) w) (
 j_68 t2_1 t3_2 t34_25 t39_29 t9_59 w))) (
 j_68 t2_1 t3_2 t34_25 t39_29 t9_59 w))) (
 drw (fun S_82 w =>
 CallF Try.prog 19 #[] w fun t94_83 w =>
 S_82 w ∧ (
 IfB t94_83 (
 RunS Try.prog S_82 (Builtin.len_ #[9] 3 #[t34_25]) fun t97_84 =>
 RunA Try.prog (bin .rem 3 (.tmp 97) (.const (.int .i64 2)) t97_84 (.int .i64 2)) fun t98_85 =>
 RunS Try.prog S_82 (bin .eql 3 (.tmp 98) (.const (.int .i64 0)) t98_85 (.int .i64 0)) fun t99_86 =>
 IfB t99_86 (
 RunS Try.prog S_82 (bin .eql 9 (.tmp 102) (.tmp 103) t34_25 t39_29) fun t104_87 =>
 RunS Try.prog S_82 (Instr.loadAt 42 t2_1) fun t105_88 =>
 RunS Try.prog S_82 (Instr.loadAt 42 t3_2) fun t107_89 =>
 CallF Try.prog 22 #[t105_88] w fun t106_90 w =>
 S_82 w ∧ (
 CallF Try.prog 22 #[t107_89] w fun t108_91 w =>
 S_82 w ∧ (
 RunS Try.prog S_82 (bin .eql 46 (.tmp 106) (.tmp 108) t106_90 t108_91) fun t109_92 =>
 RunS Try.prog S_82 (bin .eql 4 (.tmp 104) (.tmp 109) t104_87 t109_92) fun t110_93 =>
 R t110_93 w))) (
 R (.bool false) w)) (
 R (.bool false) w))) w)) [(.int .i64 0)] w)))))
theorem sh6_calls {a0 a1 : Value} {w : World} {R : Value → World → Prop} (h : sh6 a0 a1 w R) : CallF Try.prog 6 #[a0, a1] w R :=
  calls_of_denF (mk := false) (args := [a0, a1]) (an := (.seq (.ops [2, 3]) (.seq (.seq (.ops [2, 3, 11]) (.cond (.seq (.ops [4]) .leaf) .leaf)) (.seq (.seq (.ops [2, 3, 29]) (.cond (.seq (.ops [4]) .leaf) .leaf)) (.seq (.ops [2, 3, 5, 6]) (.seq (.ops [2, 3, 5, 6, 7, 8]) (.seq (.seq (.ops [2, 3, 5, 6, 7, 8, 46]) (.cond (.seq (.ops [4]) .leaf) .leaf)) (.seq (.seq (.ops [2, 3, 5, 7, 9]) (.blk (.loop [2, 3, 5, 7] [9] (.seq (.seq (.ops [2, 3, 5, 7, 9, 69]) (.cond .leaf .leaf)) (.seq (.blk (.join [2, 3, 5, 7, 9] (.seq (.ops [2, 3, 5, 7, 9, 93]) (.cond (.seq (.ops [4]) .leaf) .leaf)))) (.ops [2, 3, 5, 7, 9])))))) (.seq (.draw (.one 0 (.q 1 (.sp 2 (.q 2 (.q 3 (.q 4 (.q 5 (.q 6 (.q 7 (.sp 8 (.q 8 (.q 9 (.q 10 (.q 11 (.q 13 (.one 12 (.one 14 (.q 15 (.q 16 (.q 17 (.q 18 .fin))))))))))) (.q 8 (.q 9 (.q 10 (.q 11 (.q 12 (.q 13 (.q 14 (.q 15 (.q 16 (.q 17 (.q 18 .fin)))))))))))))))))) (.q 2 (.q 3 (.q 4 (.q 5 (.q 6 (.q 7 (.q 8 (.q 9 (.q 10 (.q 11 (.q 12 (.q 13 (.q 14 (.q 15 (.q 16 (.q 17 (.q 18 .fin)))))))))))))))))))) [4]) .leaf))))))))) (c := Try.f6.body.getD .skip) hent Try.func6 rfl (Nat.le_of_ble_eq_true (by kernel_rfl))
    (Eq.mp (show sh6 a0 a1 w R = denF Try.prog ent false Try.f6 (.seq (.ops [2, 3]) (.seq (.seq (.ops [2, 3, 11]) (.cond (.seq (.ops [4]) .leaf) .leaf)) (.seq (.seq (.ops [2, 3, 29]) (.cond (.seq (.ops [4]) .leaf) .leaf)) (.seq (.ops [2, 3, 5, 6]) (.seq (.ops [2, 3, 5, 6, 7, 8]) (.seq (.seq (.ops [2, 3, 5, 6, 7, 8, 46]) (.cond (.seq (.ops [4]) .leaf) .leaf)) (.seq (.seq (.ops [2, 3, 5, 7, 9]) (.blk (.loop [2, 3, 5, 7] [9] (.seq (.seq (.ops [2, 3, 5, 7, 9, 69]) (.cond .leaf .leaf)) (.seq (.blk (.join [2, 3, 5, 7, 9] (.seq (.ops [2, 3, 5, 7, 9, 93]) (.cond (.seq (.ops [4]) .leaf) .leaf)))) (.ops [2, 3, 5, 7, 9])))))) (.seq (.draw (.one 0 (.q 1 (.sp 2 (.q 2 (.q 3 (.q 4 (.q 5 (.q 6 (.q 7 (.sp 8 (.q 8 (.q 9 (.q 10 (.q 11 (.q 13 (.one 12 (.one 14 (.q 15 (.q 16 (.q 17 (.q 18 .fin))))))))))) (.q 8 (.q 9 (.q 10 (.q 11 (.q 12 (.q 13 (.q 14 (.q 15 (.q 16 (.q 17 (.q 18 .fin)))))))))))))))))) (.q 2 (.q 3 (.q 4 (.q 5 (.q 6 (.q 7 (.q 8 (.q 9 (.q 10 (.q 11 (.q 12 (.q 13 (.q 14 (.q 15 (.q 16 (.q 17 (.q 18 .fin)))))))))))))))))))) [4]) .leaf)))))))) (Try.f6.body.getD .skip) [a0, a1] w R by kernel_rfl) h)

/-! ### 7: handbill/hbllaw22.TokenReads -/
def sh7 (a0 a1 : Value) (w : World) (R : Value → World → Prop) : Prop :=
 RunV Try.prog (Instr.box 42 a0) w fun t2_1 w =>
 CallF Try.prog 19 #[] w fun t13_2 w =>
 RunA Try.prog (Op.unary .not t13_2) fun t14_3 =>
 IfB t14_3 (
 R (.bool false) w) (
 RunA Try.prog (Instr.fieldAt 42 t2_1 0) fun t15_4 =>
 RunW Try.prog (Instr.loadAt 9 t15_4) w fun t16_5 =>
 RunW Try.prog (Builtin.len_ #[9] 3 #[t16_5]) w fun t17_6 =>
 RunA Try.prog (bin .gtr 3 (.tmp 17) (.const (.int .i64 3000)) t17_6 (.int .i64 3000)) fun t18_7 =>
 IfB t18_7 (
 CallF Try.prog 19 #[] w fun t30_8 w =>
 R t30_8 w) (
 RunA Try.prog (Instr.fieldAt 42 t2_1 3) fun t20_9 =>
 RunW Try.prog (Instr.loadAt 9 t20_9) w fun t21_10 =>
 RunW Try.prog (Builtin.len_ #[9] 3 #[t21_10]) w fun t22_11 =>
 RunA Try.prog (bin .gtr 3 (.tmp 22) (.const (.int .i64 3000)) t22_11 (.int .i64 3000)) fun t23_12 =>
 IfB t23_12 (
 CallF Try.prog 19 #[] w fun t30_13 w =>
 R t30_13 w) (
 RunW Try.prog (Builtin.len_ #[9] 3 #[a1]) w fun t27_14 =>
 RunA Try.prog (bin .gtr 3 (.tmp 27) (.const (.int .i64 3000)) t27_14 (.int .i64 3000)) fun t28_15 =>
 IfB t28_15 (
 CallF Try.prog 19 #[] w fun t30_16 w =>
 R t30_16 w) (
 RunW Try.prog (Instr.loadAt 42 t2_1) w fun t32_17 =>
 CallF Try.prog 20 #[t32_17] w fun t33_18 w =>
 RunA Try.prog (Instr.extract t33_18 0) fun t34_19 =>
 RunA Try.prog (Instr.extract t33_18 1) fun t35_20 =>
 RunW Try.prog (Instr.loadAt 42 t2_1) w fun t37_21 =>
 CallF Try.prog 22 #[t37_21] w fun t38_22 w =>
 CallF Try.prog 23 #[t38_22] w fun t39_23 w =>
 RunA Try.prog (Instr.extract t39_23 0) fun t40_24 =>
 RunA Try.prog (Instr.extract t39_23 1) fun t41_25 =>
 CallF Try.prog 24 #[a1] w fun t44_26 w =>
 RunA Try.prog (Instr.extract t44_26 0) fun t45_27 =>
 RunA Try.prog (Instr.extract t44_26 1) fun t46_28 =>
 RunV Try.prog (Instr.alloc 42 true (.tuple #[])) w fun t9_29 w =>
 RunU Try.prog (Instr.storeAt 42 t9_29 t45_27) w fun w =>
 CallF Try.prog 25 #[a1] w fun t49_30 w =>
 RunA Try.prog (Instr.extract t49_30 0) fun t50_31 =>
 RunA Try.prog (Instr.extract t49_30 1) fun t51_32 =>
 RunV Try.prog (Instr.alloc 46 true (.tuple #[])) w fun t11_33 w =>
 RunU Try.prog (Instr.storeAt 46 t11_33 t50_31) w fun w =>
 drw (fun S_34 w =>
 CallF Try.prog 19 #[] w fun t52_35 w =>
 S_34 w ∧ (
 IfB t52_35 (
 RunS Try.prog S_34 (Instr.loadAt 42 t2_1) fun t54_36 =>
 RunS Try.prog S_34 (Instr.loadAt 42 t2_1) fun t56_37 =>
 CallF Try.prog 21 #[t54_36] w fun t55_38 w =>
 S_34 w ∧ (
 CallF Try.prog 22 #[t56_37] w fun t57_39 w =>
 S_34 w ∧ (
 CallF Try.prog 26 #[t57_39] w fun t58_40 w =>
 S_34 w ∧ (
 RunS Try.prog S_34 (bin .eql 4 (.tmp 55) (.tmp 58) t55_38 t58_40) fun t59_41 =>
 IfB t59_41 (
 RunS Try.prog S_34 (bin .eql 9 (.tmp 62) (.tmp 63) t34_19 t40_24) fun t64_42 =>
 IfB t64_42 (
 RunS Try.prog S_34 (bin .eql 25 (.tmp 67) (.tmp 68) t35_20 t41_25) fun t69_43 =>
 IfB t69_43 (
 RunS Try.prog S_34 (Instr.loadAt 42 t9_29) fun t72_44 =>
 RunS Try.prog S_34 (Instr.loadAt 46 t11_33) fun t74_45 =>
 CallF Try.prog 22 #[t72_44] w fun t73_46 w =>
 S_34 w ∧ (
 RunS Try.prog S_34 (bin .eql 46 (.tmp 73) (.tmp 74) t73_46 t74_45) fun t75_47 =>
 IfB t75_47 (
 RunS Try.prog S_34 (bin .eql 25 (.tmp 78) (.tmp 79) t46_28 t51_32) fun t80_48 =>
 R t80_48 w) (
 R (.bool false) w))) (
 R (.bool false) w)) (
 R (.bool false) w)) (
 R (.bool false) w))))) (
 R (.bool false) w))) w))))
theorem sh7_calls {a0 a1 : Value} {w : World} {R : Value → World → Prop} (h : sh7 a0 a1 w R) : CallF Try.prog 7 #[a0, a1] w R :=
  calls_of_denF (mk := false) (args := [a0, a1]) (an := (.seq (.ops [1, 2]) (.seq (.seq (.ops [1, 2, 14]) (.cond (.seq (.ops [4]) .leaf) .leaf)) (.seq (.seq (.ops [1, 2, 29]) (.cond (.seq (.ops [4]) .leaf) .leaf)) (.seq (.ops [1, 2, 5, 6]) (.seq (.ops [1, 2, 5, 6, 7, 8]) (.seq (.ops [1, 2, 5, 6, 7, 8, 9, 10]) (.seq (.ops [2, 5, 6, 7, 8, 9, 10, 11, 12]) (.seq (.draw (.one 0 (.q 1 (.sp 2 (.q 2 (.q 4 (.one 3 (.one 5 (.one 6 (.q 7 (.q 8 (.q 9 (.sp 10 (.q 10 (.q 11 (.q 12 (.q 13 (.q 14 (.sp 15 (.q 15 (.q 16 (.q 17 (.q 18 (.q 19 (.sp 20 (.q 20 (.q 22 (.one 21 (.q 23 (.q 24 (.q 25 (.sp 26 (.q 26 (.q 27 (.q 28 (.q 29 (.q 30 .fin))))) (.q 26 (.q 27 (.q 28 (.q 29 (.q 30 .fin)))))))))))) (.q 20 (.q 21 (.q 22 (.q 23 (.q 24 (.q 25 (.q 26 (.q 27 (.q 28 (.q 29 (.q 30 .fin))))))))))))))))) (.q 15 (.q 16 (.q 17 (.q 18 (.q 19 (.q 20 (.q 21 (.q 22 (.q 23 (.q 24 (.q 25 (.q 26 (.q 27 (.q 28 (.q 29 (.q 30 .fin)))))))))))))))))))))) (.q 10 (.q 11 (.q 12 (.q 13 (.q 14 (.q 15 (.q 16 (.q 17 (.q 18 (.q 19 (.q 20 (.q 21 (.q 22 (.q 23 (.q 24 (.q 25 (.q 26 (.q 27 (.q 28 (.q 29 (.q 30 .fin)))))))))))))))))))))))))))))) (.q 2 (.q 3 (.q 4 (.q 5 (.q 6 (.q 7 (.q 8 (.q 9 (.q 10 (.q 11 (.q 12 (.q 13 (.q 14 (.q 15 (.q 16 (.q 17 (.q 18 (.q 19 (.q 20 (.q 21 (.q 22 (.q 23 (.q 24 (.q 25 (.q 26 (.q 27 (.q 28 (.q 29 (.q 30 .fin)))))))))))))))))))))))))))))))) [4]) .leaf))))))))) (c := Try.f7.body.getD .skip) hent Try.func7 rfl (Nat.le_of_ble_eq_true (by kernel_rfl))
    (Eq.mp (show sh7 a0 a1 w R = denF Try.prog ent false Try.f7 (.seq (.ops [1, 2]) (.seq (.seq (.ops [1, 2, 14]) (.cond (.seq (.ops [4]) .leaf) .leaf)) (.seq (.seq (.ops [1, 2, 29]) (.cond (.seq (.ops [4]) .leaf) .leaf)) (.seq (.ops [1, 2, 5, 6]) (.seq (.ops [1, 2, 5, 6, 7, 8]) (.seq (.ops [1, 2, 5, 6, 7, 8, 9, 10]) (.seq (.ops [2, 5, 6, 7, 8, 9, 10, 11, 12]) (.seq (.draw (.one 0 (.q 1 (.sp 2 (.q 2 (.q 4 (.one 3 (.one 5 (.one 6 (.q 7 (.q 8 (.q 9 (.sp 10 (.q 10 (.q 11 (.q 12 (.q 13 (.q 14 (.sp 15 (.q 15 (.q 16 (.q 17 (.q 18 (.q 19 (.sp 20 (.q 20 (.q 22 (.one 21 (.q 23 (.q 24 (.q 25 (.sp 26 (.q 26 (.q 27 (.q 28 (.q 29 (.q 30 .fin))))) (.q 26 (.q 27 (.q 28 (.q 29 (.q 30 .fin)))))))))))) (.q 20 (.q 21 (.q 22 (.q 23 (.q 24 (.q 25 (.q 26 (.q 27 (.q 28 (.q 29 (.q 30 .fin))))))))))))))))) (.q 15 (.q 16 (.q 17 (.q 18 (.q 19 (.q 20 (.q 21 (.q 22 (.q 23 (.q 24 (.q 25 (.q 26 (.q 27 (.q 28 (.q 29 (.q 30 .fin)))))))))))))))))))))) (.q 10 (.q 11 (.q 12 (.q 13 (.q 14 (.q 15 (.q 16 (.q 17 (.q 18 (.q 19 (.q 20 (.q 21 (.q 22 (.q 23 (.q 24 (.q 25 (.q 26 (.q 27 (.q 28 (.q 29 (.q 30 .fin)))))))))))))))))))))))))))))) (.q 2 (.q 3 (.q 4 (.q 5 (.q 6 (.q 7 (.q 8 (.q 9 (.q 10 (.q 11 (.q 12 (.q 13 (.q 14 (.q 15 (.q 16 (.q 17 (.q 18 (.q 19 (.q 20 (.q 21 (.q 22 (.q 23 (.q 24 (.q 25 (.q 26 (.q 27 (.q 28 (.q 29 (.q 30 .fin)))))))))))))))))))))))))))))))) [4]) .leaf)))))))) (Try.f7.body.getD .skip) [a0, a1] w R by kernel_rfl) h)

/-! ### 8: handbill/hbllaw22.TokenBack -/
def sh8 (a0 a1 a2 a3 : Value) (w : World) (R : Value → World → Prop) : Prop :=
 RunV Try.prog (Instr.box 42 a0) w fun t4_1 w =>
 CallF Try.prog 19 #[] w fun t21_2 w =>
 RunA Try.prog (Op.unary .not t21_2) fun t22_3 =>
 IfB t22_3 (
 R (.bool false) w) (
 RunA Try.prog (Instr.fieldAt 42 t4_1 0) fun t23_4 =>
 RunW Try.prog (Instr.loadAt 9 t23_4) w fun t24_5 =>
 RunW Try.prog (Builtin.len_ #[9] 3 #[t24_5]) w fun t25_6 =>
 RunA Try.prog (bin .gtr 3 (.tmp 25) (.const (.int .i64 3000)) t25_6 (.int .i64 3000)) fun t26_7 =>
 IfB t26_7 (
 CallF Try.prog 19 #[] w fun t45_8 w =>
 R t45_8 w) (
 RunA Try.prog (Instr.fieldAt 42 t4_1 3) fun t28_9 =>
 RunW Try.prog (Instr.loadAt 9 t28_9) w fun t29_10 =>
 RunW Try.prog (Builtin.len_ #[9] 3 #[t29_10]) w fun t30_11 =>
 RunA Try.prog (bin .gtr 3 (.tmp 30) (.const (.int .i64 3000)) t30_11 (.int .i64 3000)) fun t31_12 =>
 IfB t31_12 (
 CallF Try.prog 19 #[] w fun t45_13 w =>
 R t45_13 w) (
 RunA Try.prog (bin .lss 3 (.tmp 34) (.const (.int .i64 0)) a1 (.int .i64 0)) fun t35_14 =>
 IfB t35_14 (
 CallF Try.prog 19 #[] w fun t45_15 w =>
 R t45_15 w) (
 RunA Try.prog (bin .lss 3 (.tmp 38) (.const (.int .i64 0)) a2 (.int .i64 0)) fun t39_16 =>
 IfB t39_16 (
 CallF Try.prog 19 #[] w fun t45_17 w =>
 R t45_17 w) (
 RunA Try.prog (bin .lss 3 (.tmp 42) (.const (.int .i64 0)) a3 (.int .i64 0)) fun t43_18 =>
 IfB t43_18 (
 CallF Try.prog 19 #[] w fun t45_19 w =>
 R t45_19 w) (
 RunW Try.prog (Instr.loadAt 42 t4_1) w fun t47_20 =>
 CallF Try.prog 20 #[t47_20] w fun t48_21 w =>
 RunA Try.prog (Instr.extract t48_21 0) fun t49_22 =>
 RunA Try.prog (Instr.extract t48_21 1) fun t50_23 =>
 RunW Try.prog (bin .eql 25 (.tmp 51) (.const (.int .i64 0)) t50_23 (.int .i64 0)) w fun t52_24 =>
 RunW Try.prog (Instr.loadAt 42 t4_1) w fun t53_25 =>
 CallF Try.prog 21 #[t53_25] w fun t54_26 w =>
 RunW Try.prog (bin .neq 4 (.tmp 52) (.tmp 54) t52_24 t54_26) w fun t55_27 =>
 IfB t55_27 (
 R (.bool false) w) (
 RunW Try.prog (bin .neq 25 (.tmp 56) (.const (.int .i64 0)) t50_23 (.int .i64 0)) w fun t57_28 =>
 IfB t57_28 (
 CallF Try.prog 19 #[] w fun t58_29 w =>
 IfB t58_29 (
 RunW Try.prog (bin .eql 9 (.tmp 60) (.const (.string ⟨#[]⟩)) t49_22 (.string ⟨#[]⟩)) w fun t61_30 =>
 R t61_30 w) (
 R (.bool false) w)) (
 RunW Try.prog (Builtin.len_ #[9] 3 #[t49_22]) w fun t64_31 =>
 RunA Try.prog (bin .lss 3 (.tmp 64) (.const (.int .i64 18)) t64_31 (.int .i64 18)) fun t65_32 =>
 IfB t65_32 (
 R (.bool false) w) (
 CallF Try.prog 24 #[t49_22] w fun t68_33 w =>
 RunA Try.prog (Instr.extract t68_33 0) fun t69_34 =>
 RunA Try.prog (Instr.extract t68_33 1) fun t70_35 =>
 RunV Try.prog (Instr.alloc 42 true (.tuple #[])) w fun t11_36 w =>
 RunU Try.prog (Instr.storeAt 42 t11_36 t69_34) w fun w =>
 RunW Try.prog (Builtin.len_ #[9] 3 #[t49_22]) w fun t73_37 =>
 RunA Try.prog (bin .rem 3 (.tmp 71) (.tmp 73) a1 t73_37) fun t74_38 =>
 RunA Try.prog (bin .rem 3 (.tmp 75) (.const (.int .i64 16)) a2 (.int .i64 16)) fun t76_39 =>
 RunA Try.prog (Instr.index 9 (.string ⟨#[48, 49, 50, 51, 52, 53, 54, 55, 56, 57, 97, 98, 99, 100, 101, 102]⟩) t76_39) fun t77_40 =>
 RunW Try.prog (Builtin.len_ #[9] 3 #[t49_22]) w fun t82_41 =>
 RunA Try.prog (bin .rem 3 (.tmp 80) (.tmp 82) a3 t82_41) fun t83_42 =>
 RunA Try.prog (Instr.sliceAt 9 t49_22 none (some t83_42) none) fun t84_43 =>
 CallF Try.prog 24 #[t84_43] w fun t85_44 w =>
 RunA Try.prog (Instr.extract t85_44 0) fun t86_45 =>
 RunA Try.prog (Instr.extract t85_44 1) fun t87_46 =>
 RunV Try.prog (Instr.alloc 42 true (.tuple #[])) w fun t15_47 w =>
 RunU Try.prog (Instr.storeAt 42 t15_47 t86_45) w fun w =>
 RunA Try.prog (bin .add 9 (.tmp 89) (.const (.string ⟨#[48, 48]⟩)) t49_22 (.string ⟨#[48, 48]⟩)) fun t90_48 =>
 CallF Try.prog 24 #[t90_48] w fun t91_49 w =>
 RunA Try.prog (Instr.extract t91_49 0) fun t92_50 =>
 RunA Try.prog (Instr.extract t91_49 1) fun t93_51 =>
 RunV Try.prog (Instr.alloc 42 true (.tuple #[])) w fun t17_52 w =>
 RunU Try.prog (Instr.storeAt 42 t17_52 t92_50) w fun w =>
 drw (fun S_53 w =>
 RunS Try.prog S_53 (bin .neq 25 (.tmp 94) (.const (.int .i64 0)) t70_35 (.int .i64 0)) fun t95_54 =>
 IfB t95_54 (
 R (.bool false) w) (
 RunS Try.prog S_53 (Instr.loadAt 42 t11_36) fun t97_55 =>
 RunS Try.prog S_53 (Instr.loadAt 42 t4_1) fun t99_56 =>
 CallF Try.prog 22 #[t97_55] w fun t98_57 w =>
 S_53 w ∧ (
 CallF Try.prog 22 #[t99_56] w fun t100_58 w =>
 S_53 w ∧ (
 RunS Try.prog S_53 (bin .neq 46 (.tmp 98) (.tmp 100) t98_57 t100_58) fun t101_59 =>
 IfB t101_59 (
 R (.bool false) w) (
 RunS Try.prog S_53 (bin .neq 25 (.tmp 104) (.const (.int .i64 14)) t87_46 (.int .i64 14)) fun t105_60 =>
 IfB t105_60 (
 R (.bool false) w) (
 RunS Try.prog S_53 (bin .neq 25 (.tmp 108) (.const (.int .i64 14)) t93_51 (.int .i64 14)) fun t109_61 =>
 IfB t109_61 (
 R (.bool false) w) (
 jn 4 (fun t9_62 t13_63 t14_64 t20_65 w =>
 CallF Try.prog 19 #[] w fun t127_67 w =>
 IfB t127_67 (
 RunW Try.prog (bin .eql 25 (.tmp 129) (.const (.int .i64 0)) t20_65 (.int .i64 0)) w fun t130_68 =>
 RunA Try.prog (Instr.index 9 t9_62 t13_63) fun t133_69 =>
 RunW Try.prog (bin .eql 5 (.tmp 133) (.tmp 134) t133_69 t14_64) w fun t135_70 =>
 RunW Try.prog (bin .eql 4 (.tmp 130) (.tmp 135) t130_68 t135_70) w fun t136_71 =>
 R t136_71 w) (
 R (.bool false) w)) fun j_66 =>
 drw (fun S_72 w =>
 RunA Try.prog (Instr.sliceAt 9 t49_22 none (some t74_38) none) fun t114_73 =>
 RunA Try.prog (bin .add 3 (.tmp 120) (.const (.int .i64 1)) t74_38 (.int .i64 1)) fun t121_74 =>
 RunA Try.prog (Instr.sliceAt 9 t49_22 (some t121_74) none none) fun t122_75 =>
 (RunV Try.prog (Instr.buildSlice 22 1 #[(0, t77_40)]) w fun t116_76 w =>
 S_72 w ∧ (
 ∃ S_77 : World → Prop, S_77 w ∧ (∀ w, S_77 w → S_72 w) ∧ (
 RunS Try.prog S_77 (convert 22 9 t116_76) fun t117_78 =>
 RunA Try.prog (bin .add 9 (.tmp 114) (.tmp 117) t114_73 t117_78) fun t118_79 =>
 RunA Try.prog (bin .add 9 (.tmp 118) (.tmp 122) t118_79 t122_75) fun t123_80 =>
 (CallF Try.prog 24 #[t123_80] w fun t124_81 w =>
 RunA Try.prog (Instr.extract t124_81 0) fun t125_82 =>
 RunA Try.prog (Instr.extract t124_81 1) fun t126_83 =>
 RunV Try.prog (Instr.alloc 42 true (.tuple #[])) w fun t19_84 w =>
 RunU Try.prog (Instr.storeAt 42 t19_84 t125_82) w fun w =>
 j_66 t49_22 t74_38 t77_40 t126_83 w) ∧ (
 (RunV Try.prog (Instr.alloc 42 true (.tuple #[])) w fun t19_85 w =>
 S_77 w ∧ (
 CallF Try.prog 24 #[t123_80] w fun t124_86 w =>
 RunA Try.prog (Instr.extract t124_86 0) fun t125_87 =>
 RunA Try.prog (Instr.extract t124_86 1) fun t126_88 =>
 RunU Try.prog (Instr.storeAt 42 t19_85 t125_87) w fun w =>
 j_66 t49_22 t74_38 t77_40 t126_88 w)) ∧ (
 True))))) ∧ (
 (RunV Try.prog (Instr.alloc 42 true (.tuple #[])) w fun t19_89 w =>
 S_72 w ∧ (
 RunV Try.prog (Instr.buildSlice 22 1 #[(0, t77_40)]) w fun t116_90 w =>
 S_72 w ∧ (
 ∃ S_91 : World → Prop, S_91 w ∧ (∀ w, S_91 w → S_72 w) ∧ (
 RunS Try.prog S_91 (convert 22 9 t116_90) fun t117_92 =>
 RunA Try.prog (bin .add 9 (.tmp 114) (.tmp 117) t114_73 t117_92) fun t118_93 =>
 RunA Try.prog (bin .add 9 (.tmp 118) (.tmp 122) t118_93 t122_75) fun t123_94 =>
 CallF Try.prog 24 #[t123_94] w fun t124_95 w =>
 RunA Try.prog (Instr.extract t124_95 0) fun t125_96 =>
 RunA Try.prog (Instr.extract t124_95 1) fun t126_97 =>
 RunU Try.prog (Instr.storeAt 42 t19_89 t125_96) w fun w =>
 j_66 t49_22 t74_38 t77_40 t126_97 w)))) ∧ (
 True))) w))))))) w)))))))))
theorem sh8_calls {a0 a1 a2 a3 : Value} {w : World} {R : Value → World → Prop} (h : sh8 a0 a1 a2 a3 w R) : CallF Try.prog 8 #[a0, a1, a2, a3] w R :=
  calls_of_denF (mk := false) (args := [a0, a1, a2, a3]) (an := (.seq (.ops [1, 2, 3, 4]) (.seq (.seq (.ops [1, 2, 3, 4, 22]) (.cond (.seq (.ops [8]) .leaf) .leaf)) (.seq (.seq (.ops [1, 2, 3, 4, 44]) (.cond (.seq (.ops [8]) .leaf) .leaf)) (.seq (.ops [1, 2, 3, 4, 9, 10]) (.seq (.seq (.ops [1, 2, 3, 4, 9, 10, 55]) (.cond (.seq (.ops [8]) .leaf) .leaf)) (.seq (.seq (.ops [1, 2, 3, 4, 9, 57]) (.cond (.seq (.ops [8]) .leaf) .leaf)) (.seq (.seq (.ops [1, 2, 3, 4, 9, 65]) (.cond (.seq (.ops [8]) .leaf) .leaf)) (.seq (.ops [1, 2, 3, 4, 9, 11, 12]) (.seq (.ops [2, 3, 4, 9, 11, 12, 13]) (.seq (.ops [3, 4, 9, 11, 12, 13, 14]) (.seq (.ops [4, 9, 11, 12, 13, 14, 16]) (.seq (.ops [4, 9, 11, 12, 13, 14, 16, 18]) (.seq (.seq (.draw (.q 0 (.q 1 (.q 2 (.sp 3 (.q 3 (.q 4 (.q 5 (.q 6 (.q 7 (.q 8 (.q 9 (.q 10 (.q 11 (.q 12 (.q 13 (.q 14 (.q 15 (.q 16 .fin)))))))))))))) (.q 3 (.q 5 (.one 4 (.one 6 (.q 7 (.q 8 (.q 9 (.sp 10 (.q 10 (.q 11 (.q 12 (.q 13 (.q 14 (.q 15 (.q 16 .fin))))))) (.q 10 (.q 11 (.q 12 (.q 13 (.sp 14 (.q 14 (.q 15 (.q 16 .fin))) (.q 14 (.q 15 (.q 16 .fin)))))))))))))))))))) [9, 13, 14, 110]) (.cond (.seq (.ops [8]) .leaf) .leaf)) (.seq (.join [9, 13, 14, 20] (.draw (.q 0 (.q 1 (.q 2 (.q 3 (.q 7 (.q 8 (.q 9 (.q 10 (.alt 4 (.re (.q 5 (.q 6 (.q 11 (.alt 12 (.q 13 (.q 14 (.q 15 (.one 16 (.one 17 (.q 18 .fin)))))) (.alt 16 (.one 12 (.q 13 (.q 14 (.q 15 (.one 17 (.q 18 .fin)))))) .fin)))))) (.alt 16 (.one 4 (.re (.q 5 (.q 6 (.q 11 (.one 12 (.q 13 (.q 14 (.q 15 (.one 17 (.q 18 .fin))))))))))) .fin)))))))))) [9, 13, 14, 20])) (.seq (.ops [8]) .leaf)))))))))))))))) (c := Try.f8.body.getD .skip) hent Try.func8 rfl (Nat.le_of_ble_eq_true (by kernel_rfl))
    (Eq.mp (show sh8 a0 a1 a2 a3 w R = denF Try.prog ent false Try.f8 (.seq (.ops [1, 2, 3, 4]) (.seq (.seq (.ops [1, 2, 3, 4, 22]) (.cond (.seq (.ops [8]) .leaf) .leaf)) (.seq (.seq (.ops [1, 2, 3, 4, 44]) (.cond (.seq (.ops [8]) .leaf) .leaf)) (.seq (.ops [1, 2, 3, 4, 9, 10]) (.seq (.seq (.ops [1, 2, 3, 4, 9, 10, 55]) (.cond (.seq (.ops [8]) .leaf) .leaf)) (.seq (.seq (.ops [1, 2, 3, 4, 9, 57]) (.cond (.seq (.ops [8]) .leaf) .leaf)) (.seq (.seq (.ops [1, 2, 3, 4, 9, 65]) (.cond (.seq (.ops [8]) .leaf) .leaf)) (.seq (.ops [1, 2, 3, 4, 9, 11, 12]) (.seq (.ops [2, 3, 4, 9, 11, 12, 13]) (.seq (.ops [3, 4, 9, 11, 12, 13, 14]) (.seq (.ops [4, 9, 11, 12, 13, 14, 16]) (.seq (.ops [4, 9, 11, 12, 13, 14, 16, 18]) (.seq (.seq (.draw (.q 0 (.q 1 (.q 2 (.sp 3 (.q 3 (.q 4 (.q 5 (.q 6 (.q 7 (.q 8 (.q 9 (.q 10 (.q 11 (.q 12 (.q 13 (.q 14 (.q 15 (.q 16 .fin)))))))))))))) (.q 3 (.q 5 (.one 4 (.one 6 (.q 7 (.q 8 (.q 9 (.sp 10 (.q 10 (.q 11 (.q 12 (.q 13 (.q 14 (.q 15 (.q 16 .fin))))))) (.q 10 (.q 11 (.q 12 (.q 13 (.sp 14 (.q 14 (.q 15 (.q 16 .fin))) (.q 14 (.q 15 (.q 16 .fin)))))))))))))))))))) [9, 13, 14, 110]) (.cond (.seq (.ops [8]) .leaf) .leaf)) (.seq (.join [9, 13, 14, 20] (.draw (.q 0 (.q 1 (.q 2 (.q 3 (.q 7 (.q 8 (.q 9 (.q 10 (.alt 4 (.re (.q 5 (.q 6 (.q 11 (.alt 12 (.q 13 (.q 14 (.q 15 (.one 16 (.one 17 (.q 18 .fin)))))) (.alt 16 (.one 12 (.q 13 (.q 14 (.q 15 (.one 17 (.q 18 .fin)))))) .fin)))))) (.alt 16 (.one 4 (.re (.q 5 (.q 6 (.q 11 (.one 12 (.q 13 (.q 14 (.q 15 (.one 17 (.q 18 .fin))))))))))) .fin)))))))))) [9, 13, 14, 20])) (.seq (.ops [8]) .leaf))))))))))))))) (Try.f8.body.getD .skip) [a0, a1, a2, a3] w R by kernel_rfl) h)

/-! ### 9: handbill/hbllaw9.first -/
def sh9 (w : World) (R : Value → World → Prop) : Prop :=
 RunV Try.prog (Instr.buildSlice 22 1 #[(0, (.int .u8 1))]) w fun t6_1 w =>
 CallF Try.prog 11 #[t6_1] w fun t7_2 w =>
 RunA Try.prog (Instr.extract t7_2 0) fun t8_3 =>
 RunA Try.prog (Instr.extract t7_2 1) fun t9_4 =>
 CallF Try.prog 10 #[t8_3] w fun t12_5 w =>
 RunV Try.prog (Instr.buildSlice 22 1 #[(0, (.int .u8 9))]) w fun t13_6 w =>
 RunV Try.prog (Builtin.append_ #[22, 22] 22 #[t12_5, t13_6]) w fun t14_7 w =>
 CallF Try.prog 13 #[t14_7] w fun t15_8 w =>
 RunA Try.prog (Instr.extract t15_8 0) fun t16_9 =>
 RunA Try.prog (Instr.extract t15_8 1) fun t17_10 =>
 RunW Try.prog (bin .eql 25 (.tmp 18) (.const (.int .i64 0)) t9_4 (.int .i64 0)) w fun t19_11 =>
 IfB t19_11 (
 RunW Try.prog (Builtin.len_ #[22] 3 #[t8_3]) w fun t22_12 =>
 RunW Try.prog (bin .eql 3 (.tmp 22) (.const (.int .i64 7)) t22_12 (.int .i64 7)) w fun t23_13 =>
 IfB t23_13 (
 RunW Try.prog (Builtin.len_ #[28] 3 #[t16_9]) w fun t27_14 =>
 RunW Try.prog (bin .eql 3 (.tmp 27) (.const (.int .i64 1)) t27_14 (.int .i64 1)) w fun t28_15 =>
 IfB t28_15 (
 RunW Try.prog (bin .eql 3 (.tmp 31) (.const (.int .i64 7)) t17_10 (.int .i64 7)) w fun t32_16 =>
 R t32_16 w) (
 R (.bool false) w)) (
 R (.bool false) w)) (
 R (.bool false) w)
theorem sh9_calls {w : World} {R : Value → World → Prop} (h : sh9  w R) : CallF Try.prog 9 #[] w R :=
  calls_of_denF (mk := false) (args := []) (an := (.seq (.ops []) (.seq (.ops [1, 2]) (.seq (.ops [1, 2, 3, 4]) (.seq (.ops [0]) .leaf))))) (c := Try.f9.body.getD .skip) hent Try.func9 rfl (Nat.le_of_ble_eq_true (by kernel_rfl))
    (Eq.mp (show sh9  w R = denF Try.prog ent false Try.f9 (.seq (.ops []) (.seq (.ops [1, 2]) (.seq (.ops [1, 2, 3, 4]) (.seq (.ops [0]) .leaf)))) (Try.f9.body.getD .skip) [] w R by kernel_rfl) h)

/-! ### 10: handbill/hblref.CopyBytes -/
def sh10 (a0 : Value) (w : World) (R : Value → World → Prop) : Prop :=
 RunV Try.prog (Instr.buildSlice 22 0 #[]) w fun t3_1 w =>
 RunV Try.prog (Builtin.append_ #[22, 22] 22 #[t3_1, a0]) w fun t5_2 w =>
 R t5_2 w
theorem sh10_calls {a0 : Value} {w : World} {R : Value → World → Prop} (h : sh10 a0 w R) : CallF Try.prog 10 #[a0] w R :=
  calls_of_denF (mk := false) (args := [a0]) (an := (.seq (.ops [0]) (.seq (.ops [2]) .leaf))) (c := Try.f10.body.getD .skip) hent Try.func10 rfl (Nat.le_of_ble_eq_true (by kernel_rfl))
    (Eq.mp (show sh10 a0 w R = denF Try.prog ent false Try.f10 (.seq (.ops [0]) (.seq (.ops [2]) .leaf)) (Try.f10.body.getD .skip) [a0] w R by kernel_rfl) h)

/-! ### 11: handbill/frame.Put -/
def sh11 (a0 : Value) (w : World) (R : Value → World → Prop) : Prop :=
 RunW Try.prog (Builtin.len_ #[22] 3 #[a0]) w fun t9_1 =>
 RunA Try.prog (bin .gtr 3 (.tmp 9) (.const (.int .i64 60000)) t9_1 (.int .i64 60000)) fun t10_2 =>
 IfB t10_2 (
 R (.tuple #[(.slice none 0 0), (.int .i64 3)]) w) (
 RunW Try.prog (Builtin.len_ #[22] 3 #[a0]) w fun t13_3 =>
 CallF Try.prog 27 #[t13_3, (.int .i64 2)] w fun t14_4 w =>
 RunA Try.prog (Instr.extract t14_4 0) fun t15_5 =>
 RunA Try.prog (Instr.extract t14_4 1) fun t16_6 =>
 CallF Try.prog 28 #[t15_5, a0] w fun t20_7 w =>
 RunV Try.prog (convert 57 3 t20_7) w fun t21_8 w =>
 CallF Try.prog 27 #[t21_8, (.int .i64 4)] w fun t22_9 w =>
 RunA Try.prog (Instr.extract t22_9 0) fun t23_10 =>
 RunA Try.prog (Instr.extract t22_9 1) fun t24_11 =>
 RunV Try.prog (Builtin.append_ #[22, 22] 22 #[t15_5, t23_10]) w fun t27_12 w =>
 RunV Try.prog (Builtin.append_ #[22, 22] 22 #[t27_12, a0]) w fun t29_13 w =>
 R (.tuple #[t29_13, (.int .i64 0)]) w)
theorem sh11_calls {a0 : Value} {w : World} {R : Value → World → Prop} (h : sh11 a0 w R) : CallF Try.prog 11 #[a0] w R :=
  calls_of_denF (mk := false) (args := [a0]) (an := (.seq (.ops [0]) (.seq (.seq (.ops [0, 10]) (.cond (.seq (.ops [2, 3]) .leaf) .leaf)) (.seq (.ops [0, 4]) (.seq (.ops [0, 4, 6]) (.seq (.ops [2, 3]) .leaf)))))) (c := Try.f11.body.getD .skip) hent Try.func11 rfl (Nat.le_of_ble_eq_true (by kernel_rfl))
    (Eq.mp (show sh11 a0 w R = denF Try.prog ent false Try.f11 (.seq (.ops [0]) (.seq (.seq (.ops [0, 10]) (.cond (.seq (.ops [2, 3]) .leaf) .leaf)) (.seq (.ops [0, 4]) (.seq (.ops [0, 4, 6]) (.seq (.ops [2, 3]) .leaf))))) (Try.f11.body.getD .skip) [a0] w R by kernel_rfl) h)

/-! ### 12: handbill/hblref8.Frame -/
def sh12 (a0 : Value) (w : World) (R : Value → World → Prop) : Prop :=
 RunW Try.prog (Builtin.len_ #[22] 3 #[a0]) w fun t10_1 =>
 RunA Try.prog (bin .gtr 3 (.tmp 10) (.const (.int .i64 60000)) t10_1 (.int .i64 60000)) fun t11_2 =>
 IfB t11_2 (
 R (.tuple #[(.slice none 0 0), (.int .i64 3)]) w) (
 RunW Try.prog (Builtin.len_ #[22] 3 #[a0]) w fun t14_3 =>
 CallF Try.prog 29 #[t14_3, (.int .i64 2)] w fun t15_4 w =>
 RunA Try.prog (Instr.extract t15_4 0) fun t16_5 =>
 RunA Try.prog (Instr.extract t15_4 1) fun t17_6 =>
 CallF Try.prog 10 #[t16_5] w fun t19_7 w =>
 RunV Try.prog (Builtin.append_ #[22, 22] 22 #[t19_7, a0]) w fun t21_8 w =>
 CallF Try.prog 30 #[t21_8] w fun t24_9 w =>
 RunV Try.prog (convert 57 3 t24_9) w fun t25_10 w =>
 CallF Try.prog 29 #[t25_10, (.int .i64 4)] w fun t26_11 w =>
 RunA Try.prog (Instr.extract t26_11 0) fun t27_12 =>
 RunA Try.prog (Instr.extract t26_11 1) fun t28_13 =>
 RunV Try.prog (Builtin.append_ #[22, 22] 22 #[t16_5, t27_12]) w fun t31_14 w =>
 RunV Try.prog (Builtin.append_ #[22, 22] 22 #[t31_14, a0]) w fun t33_15 w =>
 R (.tuple #[t33_15, (.int .i64 0)]) w)
theorem sh12_calls {a0 : Value} {w : World} {R : Value → World → Prop} (h : sh12 a0 w R) : CallF Try.prog 12 #[a0] w R :=
  calls_of_denF (mk := false) (args := [a0]) (an := (.seq (.ops [0]) (.seq (.seq (.ops [0, 11]) (.cond (.seq (.ops [2, 3]) .leaf) .leaf)) (.seq (.ops [0, 4]) (.seq (.ops [0, 4, 6]) (.seq (.ops [0, 4, 7]) (.seq (.ops [2, 3]) .leaf))))))) (c := Try.f12.body.getD .skip) hent Try.func12 rfl (Nat.le_of_ble_eq_true (by kernel_rfl))
    (Eq.mp (show sh12 a0 w R = denF Try.prog ent false Try.f12 (.seq (.ops [0]) (.seq (.seq (.ops [0, 11]) (.cond (.seq (.ops [2, 3]) .leaf) .leaf)) (.seq (.ops [0, 4]) (.seq (.ops [0, 4, 6]) (.seq (.ops [0, 4, 7]) (.seq (.ops [2, 3]) .leaf)))))) (Try.f12.body.getD .skip) [a0] w R by kernel_rfl) h)

/-! ### 13: handbill/frame.All -/
def sh13 (a0 : Value) (w : World) (R : Value → World → Prop) : Prop :=
 RunV Try.prog (Instr.alloc 28 true (.tuple #[])) w fun t4_1 w =>
 RunV Try.prog (Instr.alloc 3 true (.tuple #[])) w fun t5_2 w =>
 RunU Try.prog (Instr.storeAt 3 t5_2 (.int .i64 0)) w fun w =>
 CallF Try.prog 16 #[a0] w fun t9_3 w =>
 rngP Try.prog none 2 4 (fun l_4 K_5 t10_11 t11_12 w =>
 K_5 t4_1 t5_2 t10_11 t11_12 w) (fun l_4 kn_6 ks_7 t4_13 t5_14 t6_15 t7_16 w =>
 RunW Try.prog (Instr.loadAt 28 t4_13) w fun t12_17 =>
 RunV Try.prog (Instr.buildSlice 28 1 #[(0, t7_16)]) w fun t14_18 w =>
 RunV Try.prog (Builtin.append_ #[28, 28] 28 #[t12_17, t14_18]) w fun t15_19 w =>
 RunU Try.prog (Instr.storeAt 28 t4_13 t15_19) w fun w =>
 RunU Try.prog (Instr.storeAt 3 t5_14 t6_15) w fun w =>
 kn_6 w) t9_3 w (fun D_8 w =>
 drw (fun S_20 w =>
 RunS Try.prog S_20 (Instr.loadAt 28 t4_1) fun t17_21 =>
 RunS Try.prog S_20 (Instr.loadAt 3 t5_2) fun t18_22 =>
 (w).heap[D_8]? = some (.deferred (some [])) ∧ (
 R (.tuple #[t17_21, t18_22]) (w.putObj D_8 (.deferred none)))) w) (fun D_8 c_9 w => jumpK (fun i_10 w =>
 bif Nat.beq i_10 0 then (
 drw (fun S_23 w =>
 RunS Try.prog S_23 (Instr.loadAt 28 t4_1) fun t17_24 =>
 RunS Try.prog S_23 (Instr.loadAt 3 t5_2) fun t18_25 =>
 (w).heap[D_8]? = some (.deferred (some [])) ∧ (
 R (.tuple #[t17_24, t18_25]) (w.putObj D_8 (.deferred none)))) w) else (
 False)) (fun w =>
 (w).heap[D_8]? = some (.deferred (some [])) ∧ (
 False)) c_9 w)
theorem sh13_calls {a0 : Value} {w : World} {R : Value → World → Prop} (h : sh13 a0 w R) : CallF Try.prog 13 #[a0] w R :=
  calls_of_denF (mk := true) (args := [a0]) (an := (.seq (.ops [0]) (.seq (.ops [0, 4]) (.seq (.ops [0, 4, 5]) (.seq (.seq (.ops [4, 5, 9]) (.blk (.rng [4, 5, 6, 7] (.seq (.ops [4, 5, 6, 11]) (.ops [4, 5, 6, 7])) (.blk (.ops []))))) (.seq (.draw (.q 0 (.q 1 (.q 2 (.q 3 .fin)))) [2, 3]) .leaf)))))) (c := Try.f13.body.getD .skip) hent Try.func13 rfl (Nat.le_of_ble_eq_true (by kernel_rfl))
    (Eq.mp (show sh13 a0 w R = denF Try.prog ent true Try.f13 (.seq (.ops [0]) (.seq (.ops [0, 4]) (.seq (.ops [0, 4, 5]) (.seq (.seq (.ops [4, 5, 9]) (.blk (.rng [4, 5, 6, 7] (.seq (.ops [4, 5, 6, 11]) (.ops [4, 5, 6, 7])) (.blk (.ops []))))) (.seq (.draw (.q 0 (.q 1 (.q 2 (.q 3 .fin)))) [2, 3]) .leaf))))) (Try.f13.body.getD .skip) [a0] w R by kernel_rfl) h)

/-! ### 14: handbill/hblref8.All -/
def sh14 (a0 : Value) (w : World) (R : Value → World → Prop) : Prop :=
 jn 2 (fun t4_1 t5_2 w =>
 R (.tuple #[t4_1, t5_2]) w) fun j_3 =>
 lp 2 (fun n_6 t4_4 t5_5 w =>
 RunW Try.prog (Builtin.len_ #[22] 3 #[a0]) w fun t12_7 =>
 RunA Try.prog (bin .sub 3 (.tmp 12) (.tmp 13) t12_7 t5_5) fun t14_8 =>
 RunA Try.prog (bin .geq 3 (.tmp 14) (.const (.int .i64 6)) t14_8 (.int .i64 6)) fun t15_9 =>
 IfB t15_9 (
 CallF Try.prog 31 #[a0, t5_5, (.int .i64 2)] w fun t19_10 w =>
 RunA Try.prog (Instr.extract t19_10 0) fun t20_11 =>
 RunA Try.prog (Instr.extract t19_10 1) fun t21_12 =>
 RunA Try.prog (bin .gtr 3 (.tmp 22) (.const (.int .i64 60000)) t20_11 (.int .i64 60000)) fun t23_13 =>
 IfB t23_13 (
 j_3 t4_4 t5_5 w) (
 RunW Try.prog (Builtin.len_ #[22] 3 #[a0]) w fun t27_14 =>
 RunA Try.prog (bin .sub 3 (.tmp 27) (.tmp 28) t27_14 t5_5) fun t29_15 =>
 RunA Try.prog (bin .sub 3 (.tmp 29) (.const (.int .i64 6)) t29_15 (.int .i64 6)) fun t30_16 =>
 RunA Try.prog (bin .gtr 3 (.tmp 25) (.tmp 30) t20_11 t30_16) fun t31_17 =>
 IfB t31_17 (
 j_3 t4_4 t5_5 w) (
 RunA Try.prog (bin .add 3 (.tmp 34) (.const (.int .i64 6)) t5_5 (.int .i64 6)) fun t35_18 =>
 RunA Try.prog (bin .add 3 (.tmp 36) (.const (.int .i64 6)) t5_5 (.int .i64 6)) fun t37_19 =>
 RunA Try.prog (bin .add 3 (.tmp 37) (.tmp 38) t37_19 t20_11) fun t39_20 =>
 RunA Try.prog (Instr.sliceAt 22 a0 (some t35_18) (some t39_20) none) fun t40_21 =>
 CallF Try.prog 10 #[t40_21] w fun t41_22 w =>
 CallF Try.prog 12 #[t41_22] w fun t44_23 w =>
 RunA Try.prog (Instr.extract t44_23 0) fun t45_24 =>
 RunA Try.prog (Instr.extract t44_23 1) fun t46_25 =>
 RunA Try.prog (bin .add 3 (.tmp 50) (.const (.int .i64 6)) t5_5 (.int .i64 6)) fun t51_26 =>
 RunA Try.prog (bin .add 3 (.tmp 51) (.tmp 52) t51_26 t20_11) fun t53_27 =>
 RunA Try.prog (Instr.sliceAt 22 a0 (some t5_5) (some t53_27) none) fun t54_28 =>
 CallF Try.prog 18 #[t45_24, t54_28] w fun t55_29 w =>
 RunA Try.prog (Op.unary .not t55_29) fun t56_30 =>
 IfB t56_30 (
 j_3 t4_4 t5_5 w) (
 RunV Try.prog (Instr.buildSlice 28 1 #[(0, t41_22)]) w fun t59_31 w =>
 RunV Try.prog (Builtin.append_ #[28, 28] 28 #[t4_4, t59_31]) w fun t60_32 w =>
 RunA Try.prog (bin .add 3 (.tmp 61) (.const (.int .i64 6)) t5_5 (.int .i64 6)) fun t62_33 =>
 RunA Try.prog (bin .add 3 (.tmp 62) (.tmp 63) t62_33 t20_11) fun t64_34 =>
 (a0 : Value) = a0 ∧ (n_6 t60_32 t64_34 w))))) (
 j_3 t4_4 t5_5 w)) [(.slice none 0 0), (.int .i64 0)] w
theorem sh14_calls {a0 : Value} {w : World} {R : Value → World → Prop} (h : sh14 a0 w R) : CallF Try.prog 14 #[a0] w R :=
  calls_of_denF (mk := false) (args := [a0]) (an := (.seq (.ops [0]) (.seq (.ops [0, 4]) (.seq (.ops [0, 4, 5]) (.seq (.join [4, 5] (.blk (.loop [0] [4, 5] (.seq (.seq (.ops [0, 4, 5, 15]) (.cond .leaf .leaf)) (.blk (.seq (.ops [0, 4, 5, 6]) (.seq (.seq (.ops [0, 4, 5, 6, 32]) (.cond .leaf .leaf)) (.seq (.ops [0, 4, 5, 6, 8]) (.seq (.ops [0, 4, 5, 6, 8, 9]) (.seq (.seq (.ops [0, 4, 5, 6, 8, 56]) (.cond .leaf .leaf)) (.ops [0, 4, 5]))))))))))) (.seq (.ops [2, 3]) .leaf)))))) (c := Try.f14.body.getD .skip) hent Try.func14 rfl (Nat.le_of_ble_eq_true (by kernel_rfl))
    (Eq.mp (show sh14 a0 w R = denF Try.prog ent false Try.f14 (.seq (.ops [0]) (.seq (.ops [0, 4]) (.seq (.ops [0, 4, 5]) (.seq (.join [4, 5] (.blk (.loop [0] [4, 5] (.seq (.seq (.ops [0, 4, 5, 15]) (.cond .leaf .leaf)) (.blk (.seq (.ops [0, 4, 5, 6]) (.seq (.seq (.ops [0, 4, 5, 6, 32]) (.cond .leaf .leaf)) (.seq (.ops [0, 4, 5, 6, 8]) (.seq (.ops [0, 4, 5, 6, 8, 9]) (.seq (.seq (.ops [0, 4, 5, 6, 8, 56]) (.cond .leaf .leaf)) (.ops [0, 4, 5]))))))))))) (.seq (.ops [2, 3]) .leaf))))) (Try.f14.body.getD .skip) [a0] w R by kernel_rfl) h)

/-! ### 15: handbill/hbllaw9.scanned -/
def sh15 (a0 a1 : Value) (w : World) (R : Value → World → Prop) : Prop :=
 RunV Try.prog (Instr.box 3 a1) w fun t3_1 w =>
 RunV Try.prog (Instr.alloc 31 true (.tuple #[])) w fun t6_2 w =>
 RunV Try.prog (Instr.alloc 28 true (.tuple #[])) w fun t7_3 w =>
 RunW Try.prog (bin .eql 35 (.tmp 10) (.const (.nilFunc)) a0 (.nilFunc)) w fun t11_4 =>
 IfB t11_4 (
 R (.tuple #[(.slice none 0 0), (.slice none 0 0)]) w) (
 RunW Try.prog (Instr.loadAt 3 t3_1) w fun t13_5 =>
 RunA Try.prog (bin .lss 3 (.tmp 13) (.const (.int .i64 1)) t13_5 (.int .i64 1)) fun t14_6 =>
 IfB t14_6 (
 R (.tuple #[(.slice none 0 0), (.slice none 0 0)]) w) (
 rngP Try.prog none 2 5 (fun l_7 K_8 t17_14 t18_15 w =>
 K_8 t3_1 t6_2 t7_3 t17_14 t18_15 w) (fun l_7 kn_9 ks_10 t3_16 t6_17 t7_18 t8_19 t9_20 w =>
 jn 2 (fun t3_21 t6_22 w =>
 RunW Try.prog (Instr.loadAt 31 t6_22) w fun t27_24 =>
 RunW Try.prog (Builtin.len_ #[31] 3 #[t27_24]) w fun t28_25 =>
 RunW Try.prog (Instr.loadAt 3 t3_21) w fun t29_26 =>
 RunW Try.prog (bin .eql 3 (.tmp 28) (.tmp 29) t28_25 t29_26) w fun t30_27 =>
 IfB t30_27 (
 ks_10 (.exit 0) w) (
 kn_9 w)) fun j_23 =>
 drw (fun S_28 w =>
 RunS Try.prog S_28 (Instr.loadAt 31 t6_17) fun t19_29 =>
 RunS Try.prog S_28 (Instr.loadAt 28 t7_18) fun t23_30 =>
 (RunV Try.prog (Instr.buildSlice 31 1 #[(0, t8_19)]) w fun t21_31 w =>
 S_28 w ∧ (
 (RunV Try.prog (Builtin.append_ #[31, 31] 31 #[t19_29, t21_31]) w fun t22_32 w =>
 S_28 w ∧ (
 RunV Try.prog (Instr.buildSlice 28 1 #[(0, t9_20)]) w fun t25_33 w =>
 S_28 w ∧ (
 RunV Try.prog (Builtin.append_ #[28, 28] 28 #[t23_30, t25_33]) w fun t26_34 w =>
 RunU Try.prog (Instr.storeAt 31 t6_17 t22_32) w fun w =>
 RunU Try.prog (Instr.storeAt 28 t7_18 t26_34) w fun w =>
 j_23 t3_16 t6_17 w))) ∧ (
 (RunV Try.prog (Instr.buildSlice 28 1 #[(0, t9_20)]) w fun t25_35 w =>
 S_28 w ∧ (
 RunV Try.prog (Builtin.append_ #[31, 31] 31 #[t19_29, t21_31]) w fun t22_36 w =>
 S_28 w ∧ (
 RunV Try.prog (Builtin.append_ #[28, 28] 28 #[t23_30, t25_35]) w fun t26_37 w =>
 RunU Try.prog (Instr.storeAt 31 t6_17 t22_36) w fun w =>
 RunU Try.prog (Instr.storeAt 28 t7_18 t26_37) w fun w =>
 j_23 t3_16 t6_17 w))) ∧ (
 True)))) ∧ (
 (RunV Try.prog (Instr.buildSlice 28 1 #[(0, t9_20)]) w fun t25_38 w =>
 S_28 w ∧ (
 RunV Try.prog (Instr.buildSlice 31 1 #[(0, t8_19)]) w fun t21_39 w =>
 S_28 w ∧ (
 RunV Try.prog (Builtin.append_ #[31, 31] 31 #[t19_29, t21_39]) w fun t22_40 w =>
 S_28 w ∧ (
 RunV Try.prog (Builtin.append_ #[28, 28] 28 #[t23_30, t25_38]) w fun t26_41 w =>
 RunU Try.prog (Instr.storeAt 31 t6_17 t22_40) w fun w =>
 RunU Try.prog (Instr.storeAt 28 t7_18 t26_41) w fun w =>
 j_23 t3_16 t6_17 w)))) ∧ (
 True))) w) a0 w (fun D_11 w =>
 drw (fun S_42 w =>
 RunS Try.prog S_42 (Instr.loadAt 31 t6_2) fun t31_43 =>
 RunS Try.prog S_42 (Instr.loadAt 28 t7_3) fun t32_44 =>
 (w).heap[D_11]? = some (.deferred (some [])) ∧ (
 R (.tuple #[t31_43, t32_44]) (w.putObj D_11 (.deferred none)))) w) (fun D_11 c_12 w => jumpK (fun i_13 w =>
 bif Nat.beq i_13 0 then (
 drw (fun S_45 w =>
 RunS Try.prog S_45 (Instr.loadAt 31 t6_2) fun t31_46 =>
 RunS Try.prog S_45 (Instr.loadAt 28 t7_3) fun t32_47 =>
 (w).heap[D_11]? = some (.deferred (some [])) ∧ (
 R (.tuple #[t31_46, t32_47]) (w.putObj D_11 (.deferred none)))) w) else (
 False)) (fun w =>
 (w).heap[D_11]? = some (.deferred (some [])) ∧ (
 False)) c_12 w)))
theorem sh15_calls {a0 a1 : Value} {w : World} {R : Value → World → Prop} (h : sh15 a0 a1 w R) : CallF Try.prog 15 #[a0, a1] w R :=
  calls_of_denF (mk := true) (args := [a0, a1]) (an := (.seq (.ops [0, 3]) (.seq (.ops [0, 3, 6]) (.seq (.ops [0, 3, 6, 7]) (.seq (.seq (.ops [0, 3, 6, 7, 15]) (.cond (.seq (.ops [4, 5]) .leaf) .leaf)) (.seq (.seq (.ops [3, 6, 7, 16]) (.blk (.rng [3, 6, 7, 8, 9] (.seq (.ops [3, 6, 7, 8, 18]) (.ops [3, 6, 7, 8, 9])) (.blk (.seq (.join [3, 6] (.draw (.q 0 (.q 1 (.q 4 (.q 5 (.alt 2 (.alt 3 (.one 6 (.one 7 (.one 8 (.one 9 .fin)))) (.alt 6 (.one 3 (.one 7 (.one 8 (.one 9 .fin)))) .fin)) (.alt 6 (.one 2 (.one 3 (.one 7 (.one 8 (.one 9 .fin))))) .fin)))))) [3, 6])) (.seq (.ops [30]) (.cond .leaf .leaf))))))) (.seq (.draw (.q 0 (.q 1 (.q 2 (.q 3 .fin)))) [4, 5]) .leaf))))))) (c := Try.f15.body.getD .skip) hent Try.func15 rfl (Nat.le_of_ble_eq_true (by kernel_rfl))
    (Eq.mp (show sh15 a0 a1 w R = denF Try.prog ent true Try.f15 (.seq (.ops [0, 3]) (.seq (.ops [0, 3, 6]) (.seq (.ops [0, 3, 6, 7]) (.seq (.seq (.ops [0, 3, 6, 7, 15]) (.cond (.seq (.ops [4, 5]) .leaf) .leaf)) (.seq (.seq (.ops [3, 6, 7, 16]) (.blk (.rng [3, 6, 7, 8, 9] (.seq (.ops [3, 6, 7, 8, 18]) (.ops [3, 6, 7, 8, 9])) (.blk (.seq (.join [3, 6] (.draw (.q 0 (.q 1 (.q 4 (.q 5 (.alt 2 (.alt 3 (.one 6 (.one 7 (.one 8 (.one 9 .fin)))) (.alt 6 (.one 3 (.one 7 (.one 8 (.one 9 .fin)))) .fin)) (.alt 6 (.one 2 (.one 3 (.one 7 (.one 8 (.one 9 .fin))))) .fin)))))) [3, 6])) (.seq (.ops [30]) (.cond .leaf .leaf))))))) (.seq (.draw (.q 0 (.q 1 (.q 2 (.q 3 .fin)))) [4, 5]) .leaf)))))) (Try.f15.body.getD .skip) [a0, a1] w R by kernel_rfl) h)

/-! ### 16: handbill/frame.Scan -/
def sh16 (a0 : Value) (w : World) (R : Value → World → Prop) : Prop :=
 RunV Try.prog (Instr.box 22 a0) w fun t1_1 w =>
 RunV Try.prog (Instr.makeFunc (Go.Fn.func 32) #[] #[t1_1]) w fun t3_2 w =>
 R t3_2 w
theorem sh16_calls {a0 : Value} {w : World} {R : Value → World → Prop} (h : sh16 a0 w R) : CallF Try.prog 16 #[a0] w R :=
  calls_of_denF (mk := false) (args := [a0]) (an := (.seq (.ops [1]) (.seq (.ops [2]) .leaf))) (c := Try.f16.body.getD .skip) hent Try.func16 rfl (Nat.le_of_ble_eq_true (by kernel_rfl))
    (Eq.mp (show sh16 a0 w R = denF Try.prog ent false Try.f16 (.seq (.ops [1]) (.seq (.ops [2]) .leaf)) (Try.f16.body.getD .skip) [a0] w R by kernel_rfl) h)

/-! ### 17: handbill/hblref.Lists -/
def sh17 (a0 a1 : Value) (w : World) (R : Value → World → Prop) : Prop :=
 RunW Try.prog (Builtin.len_ #[28] 3 #[a0]) w fun t7_1 =>
 RunW Try.prog (Builtin.len_ #[28] 3 #[a1]) w fun t9_2 =>
 RunW Try.prog (bin .neq 3 (.tmp 7) (.tmp 9) t7_1 t9_2) w fun t10_3 =>
 IfB t10_3 (
 R (.bool false) w) (
 lp 1 (fun n_5 t5_4 w =>
 RunW Try.prog (Builtin.len_ #[28] 3 #[a0]) w fun t13_6 =>
 RunA Try.prog (bin .lss 3 (.tmp 11) (.tmp 13) t5_4 t13_6) fun t14_7 =>
 IfB t14_7 (
 drw (fun S_8 w =>
 RunA Try.prog (Instr.indexAt 28 a0 t5_4) fun t19_9 =>
 RunS Try.prog S_8 (Instr.loadAt 22 t19_9) fun t20_10 =>
 RunA Try.prog (Instr.indexAt 28 a1 t5_4) fun t23_11 =>
 RunS Try.prog S_8 (Instr.loadAt 22 t23_11) fun t24_12 =>
 CallF Try.prog 18 #[t20_10, t24_12] w fun t25_13 w =>
 RunA Try.prog (Op.unary .not t25_13) fun t26_14 =>
 IfB t26_14 (
 R (.bool false) w) (
 RunA Try.prog (bin .add 3 (.tmp 15) (.const (.int .i64 1)) t5_4 (.int .i64 1)) fun t16_15 =>
 (a0 : Value) = a0 ∧ ((a1 : Value) = a1 ∧ (n_5 t16_15 w)))) w) (
 R (.bool true) w)) [(.int .i64 0)] w)
theorem sh17_calls {a0 a1 : Value} {w : World} {R : Value → World → Prop} (h : sh17 a0 a1 w R) : CallF Try.prog 17 #[a0, a1] w R :=
  calls_of_denF (mk := false) (args := [a0, a1]) (an := (.seq (.ops [0, 1]) (.seq (.seq (.ops [0, 1, 10]) (.cond (.seq (.ops [4]) .leaf) .leaf)) (.seq (.seq (.ops [0, 1, 5]) (.blk (.loop [0, 1] [5] (.seq (.seq (.ops [0, 1, 5, 14]) (.cond .leaf .leaf)) (.seq (.blk (.seq (.draw (.q 0 (.q 1 (.q 2 (.q 3 (.q 4 (.q 5 (.q 6 (.q 7 (.one 8 (.q 9 .fin)))))))))) [0, 1, 5, 26]) (.cond (.seq (.ops [4]) .leaf) .leaf))) (.ops [0, 1, 5])))))) (.seq (.ops [4]) .leaf))))) (c := Try.f17.body.getD .skip) hent Try.func17 rfl (Nat.le_of_ble_eq_true (by kernel_rfl))
    (Eq.mp (show sh17 a0 a1 w R = denF Try.prog ent false Try.f17 (.seq (.ops [0, 1]) (.seq (.seq (.ops [0, 1, 10]) (.cond (.seq (.ops [4]) .leaf) .leaf)) (.seq (.seq (.ops [0, 1, 5]) (.blk (.loop [0, 1] [5] (.seq (.seq (.ops [0, 1, 5, 14]) (.cond .leaf .leaf)) (.seq (.blk (.seq (.draw (.q 0 (.q 1 (.q 2 (.q 3 (.q 4 (.q 5 (.q 6 (.q 7 (.one 8 (.q 9 .fin)))))))))) [0, 1, 5, 26]) (.cond (.seq (.ops [4]) .leaf) .leaf))) (.ops [0, 1, 5])))))) (.seq (.ops [4]) .leaf)))) (Try.f17.body.getD .skip) [a0, a1] w R by kernel_rfl) h)

/-! ### 18: handbill/hblref.Bytes -/
def sh18 (a0 a1 : Value) (w : World) (R : Value → World → Prop) : Prop :=
 RunV Try.prog (convert 22 9 a0) w fun t6_1 w =>
 RunV Try.prog (convert 22 9 a1) w fun t8_2 w =>
 RunW Try.prog (bin .eql 9 (.tmp 6) (.tmp 8) t6_1 t8_2) w fun t9_3 =>
 R t9_3 w
theorem sh18_calls {a0 a1 : Value} {w : World} {R : Value → World → Prop} (h : sh18 a0 a1 w R) : CallF Try.prog 18 #[a0, a1] w R :=
  calls_of_denF (mk := false) (args := [a0, a1]) (an := (.seq (.ops [0, 1]) (.seq (.ops [4]) .leaf))) (c := Try.f18.body.getD .skip) hent Try.func18 rfl (Nat.le_of_ble_eq_true (by kernel_rfl))
    (Eq.mp (show sh18 a0 a1 w R = denF Try.prog ent false Try.f18 (.seq (.ops [0, 1]) (.seq (.ops [4]) .leaf)) (Try.f18.body.getD .skip) [a0, a1] w R by kernel_rfl) h)

/-! ### 19: handbill/hbllaw22.first -/
def sh19 (w : World) (R : Value → World → Prop) : Prop :=
 RunV Try.prog (Instr.build 42 #[(0, (.string ⟨#[117]⟩))]) w fun t4_1 w =>
 CallF Try.prog 20 #[t4_1] w fun t5_2 w =>
 RunA Try.prog (Instr.extract t5_2 0) fun t6_3 =>
 RunA Try.prog (Instr.extract t5_2 1) fun t7_4 =>
 RunW Try.prog (bin .eql 25 (.tmp 8) (.const (.int .i64 0)) t7_4 (.int .i64 0)) w fun t9_5 =>
 IfB t9_5 (
 RunW Try.prog (Builtin.len_ #[9] 3 #[t6_3]) w fun t12_6 =>
 RunW Try.prog (bin .eql 3 (.tmp 12) (.const (.int .i64 18)) t12_6 (.int .i64 18)) w fun t13_7 =>
 IfB t13_7 (
 RunA Try.prog (Instr.sliceAt 9 t6_3 none (some (.int .i64 10)) none) fun t17_8 =>
 RunW Try.prog (bin .eql 9 (.tmp 17) (.const (.string ⟨#[48, 48, 48, 48, 48, 49, 55, 53, 48, 48]⟩)) t17_8 (.string ⟨#[48, 48, 48, 48, 48, 49, 55, 53, 48, 48]⟩)) w fun t18_9 =>
 R t18_9 w) (
 R (.bool false) w)) (
 R (.bool false) w)
theorem sh19_calls {w : World} {R : Value → World → Prop} (h : sh19  w R) : CallF Try.prog 19 #[] w R :=
  calls_of_denF (mk := false) (args := []) (an := (.seq (.ops []) (.seq (.ops [1, 2]) (.seq (.ops [0]) .leaf)))) (c := Try.f19.body.getD .skip) hent Try.func19 rfl (Nat.le_of_ble_eq_true (by kernel_rfl))
    (Eq.mp (show sh19  w R = denF Try.prog ent false Try.f19 (.seq (.ops []) (.seq (.ops [1, 2]) (.seq (.ops [0]) .leaf))) (Try.f19.body.getD .skip) [] w R by kernel_rfl) h)

/-! ### 20: handbill/token.Print -/
def sh20 (a0 : Value) (w : World) (R : Value → World → Prop) : Prop :=
 RunV Try.prog (Instr.box 42 a0) w fun t1_1 w =>
 RunW Try.prog (Instr.loadAt 42 t1_1) w fun t7_2 =>
 CallF Try.prog 21 #[t7_2] w fun t8_3 w =>
 RunA Try.prog (Op.unary .not t8_3) fun t9_4 =>
 IfB t9_4 (
 R (.tuple #[(.string ⟨#[]⟩), (.int .i64 4)]) w) (
 drw (fun S_5 w =>
 RunA Try.prog (Instr.fieldAt 42 t1_1 1) fun t10_6 =>
 RunS Try.prog S_5 (Instr.loadAt 3 t10_6) fun t11_7 =>
 RunA Try.prog (Instr.fieldAt 42 t1_1 2) fun t13_8 =>
 RunS Try.prog S_5 (Instr.loadAt 3 t13_8) fun t14_9 =>
 RunA Try.prog (Instr.fieldAt 42 t1_1 0) fun t16_10 =>
 RunS Try.prog S_5 (Instr.loadAt 9 t16_10) fun t17_11 =>
 RunA Try.prog (Instr.fieldAt 42 t1_1 3) fun t19_12 =>
 RunS Try.prog S_5 (Instr.loadAt 9 t19_12) fun t20_13 =>
 CallF Try.prog 36 #[(.slice none 0 0), t11_7] w fun t12_14 w =>
 S_5 w ∧ (
 CallF Try.prog 36 #[t12_14, t14_9] w fun t15_15 w =>
 S_5 w ∧ (
 CallF Try.prog 35 #[t15_15, t17_11] w fun t18_16 w =>
 S_5 w ∧ (
 CallF Try.prog 35 #[t18_16, t20_13] w fun t21_17 w =>
 CallF Try.prog 37 #[t21_17] w fun t24_18 w =>
 RunV Try.prog (convert 57 3 t24_18) w fun t25_19 w =>
 CallF Try.prog 27 #[t25_19, (.int .i64 4)] w fun t26_20 w =>
 RunA Try.prog (Instr.extract t26_20 0) fun t27_21 =>
 RunA Try.prog (Instr.extract t26_20 1) fun t28_22 =>
 RunV Try.prog (Builtin.append_ #[22, 22] 22 #[t21_17, t27_21]) w fun t31_23 w =>
 CallF Try.prog 38 #[t31_23] w fun t32_24 w =>
 R (.tuple #[t32_24, (.int .i64 0)]) w)))) w)
theorem sh20_calls {a0 : Value} {w : World} {R : Value → World → Prop} (h : sh20 a0 w R) : CallF Try.prog 20 #[a0] w R :=
  calls_of_denF (mk := false) (args := [a0]) (an := (.seq (.ops [1]) (.seq (.seq (.ops [1, 9]) (.cond (.seq (.ops [2, 3]) .leaf) .leaf)) (.seq (.draw (.q 0 (.q 1 (.q 3 (.q 4 (.q 6 (.q 7 (.q 9 (.q 10 (.one 2 (.one 5 (.one 8 (.one 11 (.q 12 .fin))))))))))))) [4]) (.seq (.ops [4, 5]) (.seq (.ops [2, 3]) .leaf)))))) (c := Try.f20.body.getD .skip) hent Try.func20 rfl (Nat.le_of_ble_eq_true (by kernel_rfl))
    (Eq.mp (show sh20 a0 w R = denF Try.prog ent false Try.f20 (.seq (.ops [1]) (.seq (.seq (.ops [1, 9]) (.cond (.seq (.ops [2, 3]) .leaf) .leaf)) (.seq (.draw (.q 0 (.q 1 (.q 3 (.q 4 (.q 6 (.q 7 (.q 9 (.q 10 (.one 2 (.one 5 (.one 8 (.one 11 (.q 12 .fin))))))))))))) [4]) (.seq (.ops [4, 5]) (.seq (.ops [2, 3]) .leaf))))) (Try.f20.body.getD .skip) [a0] w R by kernel_rfl) h)

/-! ### 21: handbill/token.May -/
def sh21 (a0 : Value) (w : World) (R : Value → World → Prop) : Prop :=
 RunV Try.prog (Instr.box 42 a0) w fun t1_1 w =>
 RunA Try.prog (Instr.fieldAt 42 t1_1 0) fun t3_2 =>
 RunW Try.prog (Instr.loadAt 9 t3_2) w fun t4_3 =>
 CallF Try.prog 39 #[t4_3] w fun t5_4 w =>
 RunA Try.prog (Op.unary .not t5_4) fun t6_5 =>
 IfB t6_5 (
 R (.bool false) w) (
 RunA Try.prog (Instr.fieldAt 42 t1_1 1) fun t8_6 =>
 RunW Try.prog (Instr.loadAt 3 t8_6) w fun t9_7 =>
 RunA Try.prog (bin .lss 3 (.tmp 9) (.const (.int .i64 0)) t9_7 (.int .i64 0)) fun t10_8 =>
 IfB t10_8 (
 R (.bool false) w) (
 RunA Try.prog (Instr.fieldAt 42 t1_1 1) fun t13_9 =>
 RunW Try.prog (Instr.loadAt 3 t13_9) w fun t14_10 =>
 RunA Try.prog (bin .gtr 3 (.tmp 14) (.const (.int .i64 1099511627776)) t14_10 (.int .i64 1099511627776)) fun t15_11 =>
 IfB t15_11 (
 R (.bool false) w) (
 RunA Try.prog (Instr.fieldAt 42 t1_1 2) fun t17_12 =>
 RunW Try.prog (Instr.loadAt 3 t17_12) w fun t18_13 =>
 RunW Try.prog (bin .eql 3 (.tmp 18) (.const (.int .i64 0)) t18_13 (.int .i64 0)) w fun t19_14 =>
 IfB t19_14 (
 RunA Try.prog (Instr.fieldAt 42 t1_1 3) fun t20_15 =>
 RunW Try.prog (Instr.loadAt 9 t20_15) w fun t21_16 =>
 RunW Try.prog (bin .eql 9 (.tmp 21) (.const (.string ⟨#[]⟩)) t21_16 (.string ⟨#[]⟩)) w fun t22_17 =>
 R t22_17 w) (
 RunA Try.prog (Instr.fieldAt 42 t1_1 2) fun t23_18 =>
 RunW Try.prog (Instr.loadAt 3 t23_18) w fun t24_19 =>
 RunA Try.prog (Instr.fieldAt 42 t1_1 1) fun t25_20 =>
 RunW Try.prog (Instr.loadAt 3 t25_20) w fun t26_21 =>
 RunW Try.prog (Builtin.max_ #[3, 3] 3 #[t26_21, (.int .i64 1)]) w fun t27_22 =>
 RunA Try.prog (bin .geq 3 (.tmp 24) (.tmp 27) t24_19 t27_22) fun t28_23 =>
 IfB t28_23 (
 RunA Try.prog (Instr.fieldAt 42 t1_1 2) fun t30_24 =>
 RunW Try.prog (Instr.loadAt 3 t30_24) w fun t31_25 =>
 RunA Try.prog (bin .leq 3 (.tmp 31) (.const (.int .i64 1099511627776)) t31_25 (.int .i64 1099511627776)) fun t32_26 =>
 IfB t32_26 (
 RunA Try.prog (Instr.fieldAt 42 t1_1 3) fun t35_27 =>
 RunW Try.prog (Instr.loadAt 9 t35_27) w fun t36_28 =>
 RunW Try.prog (bin .neq 9 (.tmp 36) (.const (.string ⟨#[]⟩)) t36_28 (.string ⟨#[]⟩)) w fun t37_29 =>
 IfB t37_29 (
 RunA Try.prog (Instr.fieldAt 42 t1_1 3) fun t40_30 =>
 RunW Try.prog (Instr.loadAt 9 t40_30) w fun t41_31 =>
 RunW Try.prog (Builtin.len_ #[9] 3 #[t41_31]) w fun t42_32 =>
 RunA Try.prog (bin .leq 3 (.tmp 42) (.const (.int .i64 100)) t42_32 (.int .i64 100)) fun t43_33 =>
 R t43_33 w) (
 R (.bool false) w)) (
 R (.bool false) w)) (
 R (.bool false) w)))))
theorem sh21_calls {a0 : Value} {w : World} {R : Value → World → Prop} (h : sh21 a0 w R) : CallF Try.prog 21 #[a0] w R :=
  calls_of_denF (mk := false) (args := [a0]) (an := (.seq (.ops [1]) (.seq (.seq (.ops [1, 16]) (.cond (.seq (.ops [2]) .leaf) .leaf)) (.seq (.seq (.ops [1, 19]) (.cond (.seq (.ops [2]) .leaf) .leaf)) (.seq (.ops [2]) .leaf))))) (c := Try.f21.body.getD .skip) hent Try.func21 rfl (Nat.le_of_ble_eq_true (by kernel_rfl))
    (Eq.mp (show sh21 a0 w R = denF Try.prog ent false Try.f21 (.seq (.ops [1]) (.seq (.seq (.ops [1, 16]) (.cond (.seq (.ops [2]) .leaf) .leaf)) (.seq (.seq (.ops [1, 19]) (.cond (.seq (.ops [2]) .leaf) .leaf)) (.seq (.ops [2]) .leaf)))) (Try.f21.body.getD .skip) [a0] w R by kernel_rfl) h)

/-! ### 22: handbill/hbllaw22.plain -/
def sh22 (a0 : Value) (w : World) (R : Value → World → Prop) : Prop :=
 RunV Try.prog (Instr.box 42 a0) w fun t1_1 w =>
 RunV Try.prog (Instr.alloc 46 true (.tuple #[])) w fun t2_2 w =>
 RunA Try.prog (Instr.fieldAt 42 t1_1 0) fun t3_3 =>
 RunW Try.prog (Instr.loadAt 9 t3_3) w fun t4_4 =>
 RunA Try.prog (Instr.fieldAt 42 t1_1 1) fun t5_5 =>
 RunW Try.prog (Instr.loadAt 3 t5_5) w fun t6_6 =>
 RunA Try.prog (Instr.fieldAt 42 t1_1 2) fun t7_7 =>
 RunW Try.prog (Instr.loadAt 3 t7_7) w fun t8_8 =>
 RunA Try.prog (Instr.fieldAt 42 t1_1 3) fun t9_9 =>
 RunW Try.prog (Instr.loadAt 9 t9_9) w fun t10_10 =>
 RunV Try.prog (Instr.build 46 #[(0, t4_4), (1, t6_6), (2, t8_8), (3, t10_10)]) w fun t11_11 w =>
 RunU Try.prog (Instr.storeAt 46 t2_2 t11_11) w fun w =>
 RunW Try.prog (Instr.loadAt 46 t2_2) w fun t2_12 =>
 R t2_12 w
theorem sh22_calls {a0 : Value} {w : World} {R : Value → World → Prop} (h : sh22 a0 w R) : CallF Try.prog 22 #[a0] w R :=
  calls_of_denF (mk := false) (args := [a0]) (an := (.seq (.ops [1, 2]) (.seq (.ops [2]) .leaf))) (c := Try.f22.body.getD .skip) hent Try.func22 rfl (Nat.le_of_ble_eq_true (by kernel_rfl))
    (Eq.mp (show sh22 a0 w R = denF Try.prog ent false Try.f22 (.seq (.ops [1, 2]) (.seq (.ops [2]) .leaf)) (Try.f22.body.getD .skip) [a0] w R by kernel_rfl) h)

/-! ### 23: (handbill/hblref20.Token).Print -/
def sh23 (a0 : Value) (w : World) (R : Value → World → Prop) : Prop :=
 RunV Try.prog (Instr.box 46 a0) w fun t1_1 w =>
 RunW Try.prog (Instr.loadAt 46 t1_1) w fun t7_2 =>
 CallF Try.prog 26 #[t7_2] w fun t8_3 w =>
 RunA Try.prog (Op.unary .not t8_3) fun t9_4 =>
 IfB t9_4 (
 R (.tuple #[(.string ⟨#[]⟩), (.int .i64 4)]) w) (
 drw (fun S_5 w =>
 RunA Try.prog (Instr.fieldAt 46 t1_1 1) fun t10_6 =>
 RunS Try.prog S_5 (Instr.loadAt 3 t10_6) fun t11_7 =>
 RunA Try.prog (Instr.fieldAt 46 t1_1 2) fun t13_8 =>
 RunS Try.prog S_5 (Instr.loadAt 3 t13_8) fun t14_9 =>
 RunA Try.prog (Instr.fieldAt 46 t1_1 0) fun t17_10 =>
 RunS Try.prog S_5 (Instr.loadAt 9 t17_10) fun t18_11 =>
 RunS Try.prog S_5 (Builtin.len_ #[9] 3 #[t18_11]) fun t19_12 =>
 RunA Try.prog (Instr.fieldAt 46 t1_1 0) fun t22_13 =>
 RunS Try.prog S_5 (Instr.loadAt 9 t22_13) fun t23_14 =>
 CallF Try.prog 40 #[t11_7] w fun t12_15 w =>
 S_5 w ∧ (
 CallF Try.prog 40 #[t14_9] w fun t15_16 w =>
 S_5 w ∧ (
 RunV Try.prog (Builtin.append_ #[22, 22] 22 #[t12_15, t15_16]) w fun t16_17 w =>
 S_5 w ∧ (
 CallF Try.prog 40 #[t19_12] w fun t20_18 w =>
 S_5 w ∧ (
 RunV Try.prog (Builtin.append_ #[22, 22] 22 #[t16_17, t20_18]) w fun t21_19 w =>
 S_5 w ∧ (
 RunV Try.prog (Builtin.append_ #[22, 9] 22 #[t21_19, t23_14]) w fun t24_20 w =>
 drw (fun S_21 w =>
 RunA Try.prog (Instr.fieldAt 46 t1_1 3) fun t26_22 =>
 RunS Try.prog S_21 (Instr.loadAt 9 t26_22) fun t27_23 =>
 RunS Try.prog S_21 (Builtin.len_ #[9] 3 #[t27_23]) fun t28_24 =>
 RunA Try.prog (Instr.fieldAt 46 t1_1 3) fun t31_25 =>
 RunS Try.prog S_21 (Instr.loadAt 9 t31_25) fun t32_26 =>
 CallF Try.prog 40 #[t28_24] w fun t29_27 w =>
 S_21 w ∧ (
 RunV Try.prog (Builtin.append_ #[22, 22] 22 #[t24_20, t29_27]) w fun t30_28 w =>
 S_21 w ∧ (
 RunV Try.prog (Builtin.append_ #[22, 9] 22 #[t30_28, t32_26]) w fun t33_29 w =>
 CallF Try.prog 30 #[t33_29] w fun t36_30 w =>
 RunV Try.prog (convert 57 3 t36_30) w fun t37_31 w =>
 CallF Try.prog 29 #[t37_31, (.int .i64 4)] w fun t38_32 w =>
 RunA Try.prog (Instr.extract t38_32 0) fun t39_33 =>
 RunA Try.prog (Instr.extract t38_32 1) fun t40_34 =>
 RunV Try.prog (Builtin.append_ #[22, 22] 22 #[t33_29, t39_33]) w fun t43_35 w =>
 CallF Try.prog 41 #[t43_35] w fun t44_36 w =>
 R (.tuple #[t44_36, (.int .i64 0)]) w))) w)))))) w)
theorem sh23_calls {a0 : Value} {w : World} {R : Value → World → Prop} (h : sh23 a0 w R) : CallF Try.prog 23 #[a0] w R :=
  calls_of_denF (mk := false) (args := [a0]) (an := (.seq (.ops [1]) (.seq (.seq (.ops [1, 9]) (.cond (.seq (.ops [2, 3]) .leaf) .leaf)) (.seq (.draw (.q 0 (.q 1 (.q 3 (.q 4 (.q 7 (.q 8 (.q 9 (.q 12 (.q 13 (.one 2 (.one 5 (.one 6 (.one 10 (.one 11 (.one 14 (.q 15 .fin)))))))))))))))) [1, 4]) (.seq (.draw (.q 0 (.q 1 (.q 2 (.q 3 (.q 6 (.q 7 (.one 4 (.one 5 (.one 8 (.q 9 .fin)))))))))) [4]) (.seq (.ops [4, 5]) (.seq (.ops [2, 3]) .leaf))))))) (c := Try.f23.body.getD .skip) hent Try.func23 rfl (Nat.le_of_ble_eq_true (by kernel_rfl))
    (Eq.mp (show sh23 a0 w R = denF Try.prog ent false Try.f23 (.seq (.ops [1]) (.seq (.seq (.ops [1, 9]) (.cond (.seq (.ops [2, 3]) .leaf) .leaf)) (.seq (.draw (.q 0 (.q 1 (.q 3 (.q 4 (.q 7 (.q 8 (.q 9 (.q 12 (.q 13 (.one 2 (.one 5 (.one 6 (.one 10 (.one 11 (.one 14 (.q 15 .fin)))))))))))))))) [1, 4]) (.seq (.draw (.q 0 (.q 1 (.q 2 (.q 3 (.q 6 (.q 7 (.one 4 (.one 5 (.one 8 (.q 9 .fin)))))))))) [4]) (.seq (.ops [4, 5]) (.seq (.ops [2, 3]) .leaf)))))) (Try.f23.body.getD .skip) [a0] w R by kernel_rfl) h)

/-! ### 24: handbill/token.Parse -/
def sh24 (a0 : Value) (w : World) (R : Value → World → Prop) : Prop :=
 RunV Try.prog (Instr.alloc 42 true (.tuple #[])) w fun t2_1 w =>
 CallF Try.prog 42 #[a0] w fun t12_2 w =>
 RunA Try.prog (Instr.extract t12_2 0) fun t13_3 =>
 RunA Try.prog (Instr.extract t12_2 1) fun t14_4 =>
 RunA Try.prog (Op.unary .not t14_4) fun t17_5 =>
 RunV Try.prog (Instr.build 73 #[(0, t13_3), (2, t17_5)]) w fun t18_6 w =>
 RunV Try.prog (Instr.box 73 t18_6) w fun t19_7 w =>
 CallF Try.prog 43 #[t19_7] w fun t21_8 w =>
 CallF Try.prog 43 #[t19_7] w fun t23_9 w =>
 CallF Try.prog 44 #[t19_7] w fun t25_10 w =>
 CallF Try.prog 44 #[t19_7] w fun t27_11 w =>
 RunV Try.prog (Instr.build 42 #[(1, t21_8), (2, t23_9), (0, t25_10), (3, t27_11)]) w fun t28_12 w =>
 RunV Try.prog (Instr.alloc 42 true (.tuple #[])) w fun t7_13 w =>
 RunU Try.prog (Instr.storeAt 42 t7_13 t28_12) w fun w =>
 RunW Try.prog (Instr.loadAt 42 t7_13) w fun t30_14 =>
 CallF Try.prog 20 #[t30_14] w fun t31_15 w =>
 RunA Try.prog (Instr.extract t31_15 0) fun t32_16 =>
 RunA Try.prog (Instr.extract t31_15 1) fun t33_17 =>
 RunA Try.prog (nilV t19_7) fun t35_18 =>
 RunA Try.prog (Instr.fieldAt 73 t35_18 2) fun t36_19 =>
 RunW Try.prog (Instr.loadAt 4 t36_19) w fun t37_20 =>
 IfB t37_20 (
 RunV Try.prog (Instr.build 42 #[]) w fun t47_21 w =>
 RunU Try.prog (Instr.storeAt 42 t2_1 t47_21) w fun w =>
 RunW Try.prog (Instr.loadAt 42 t2_1) w fun t2_22 =>
 R (.tuple #[t2_22, (.int .i64 14)]) w) (
 RunW Try.prog (bin .neq 25 (.tmp 39) (.const (.int .i64 0)) t33_17 (.int .i64 0)) w fun t40_23 =>
 IfB t40_23 (
 RunV Try.prog (Instr.build 42 #[]) w fun t47_24 w =>
 RunU Try.prog (Instr.storeAt 42 t2_1 t47_24) w fun w =>
 RunW Try.prog (Instr.loadAt 42 t2_1) w fun t2_25 =>
 R (.tuple #[t2_25, (.int .i64 14)]) w) (
 RunW Try.prog (bin .neq 9 (.tmp 43) (.tmp 44) t32_16 a0) w fun t45_26 =>
 IfB t45_26 (
 RunV Try.prog (Instr.build 42 #[]) w fun t47_27 w =>
 RunU Try.prog (Instr.storeAt 42 t2_1 t47_27) w fun w =>
 RunW Try.prog (Instr.loadAt 42 t2_1) w fun t2_28 =>
 R (.tuple #[t2_28, (.int .i64 14)]) w) (
 RunW Try.prog (Instr.loadAt 42 t7_13) w fun t48_29 =>
 RunU Try.prog (Instr.storeAt 42 t2_1 t48_29) w fun w =>
 RunW Try.prog (Instr.loadAt 42 t2_1) w fun t2_30 =>
 R (.tuple #[t2_30, (.int .i64 0)]) w)))
theorem sh24_calls {a0 : Value} {w : World} {R : Value → World → Prop} (h : sh24 a0 w R) : CallF Try.prog 24 #[a0] w R :=
  calls_of_denF (mk := false) (args := [a0]) (an := (.seq (.ops [0, 2]) (.seq (.ops [0, 2, 4, 5]) (.seq (.ops [0, 2, 6]) (.seq (.ops [0, 2, 6, 7]) (.seq (.seq (.ops [0, 2, 6, 7, 8, 9]) (.seq (.ops [2, 7, 46]) (.cond (.seq (.ops [2, 3]) .leaf) .leaf))) (.seq (.ops [2, 3]) .leaf))))))) (c := Try.f24.body.getD .skip) hent Try.func24 rfl (Nat.le_of_ble_eq_true (by kernel_rfl))
    (Eq.mp (show sh24 a0 w R = denF Try.prog ent false Try.f24 (.seq (.ops [0, 2]) (.seq (.ops [0, 2, 4, 5]) (.seq (.ops [0, 2, 6]) (.seq (.ops [0, 2, 6, 7]) (.seq (.seq (.ops [0, 2, 6, 7, 8, 9]) (.seq (.ops [2, 7, 46]) (.cond (.seq (.ops [2, 3]) .leaf) .leaf))) (.seq (.ops [2, 3]) .leaf)))))) (Try.f24.body.getD .skip) [a0] w R by kernel_rfl) h)

/-! ### 25: handbill/hblref20.ParseToken -/
def sh25 (a0 : Value) (w : World) (R : Value → World → Prop) : Prop :=
 RunV Try.prog (Instr.alloc 46 true (.tuple #[])) w fun t2_1 w =>
 CallF Try.prog 45 #[a0] w fun t21_2 w =>
 RunA Try.prog (Instr.extract t21_2 0) fun t22_3 =>
 RunA Try.prog (Instr.extract t21_2 1) fun t23_4 =>
 RunA Try.prog (Op.unary .not t23_4) fun t25_5 =>
 IfB t25_5 (
 RunV Try.prog (Instr.build 46 #[]) w fun t31_6 w =>
 RunU Try.prog (Instr.storeAt 46 t2_1 t31_6) w fun w =>
 RunW Try.prog (Instr.loadAt 46 t2_1) w fun t2_7 =>
 R (.tuple #[t2_7, (.int .i64 14)]) w) (
 RunW Try.prog (Builtin.len_ #[22] 3 #[t22_3]) w fun t28_8 =>
 RunA Try.prog (bin .lss 3 (.tmp 28) (.const (.int .i64 4)) t28_8 (.int .i64 4)) fun t29_9 =>
 IfB t29_9 (
 RunV Try.prog (Instr.build 46 #[]) w fun t31_10 w =>
 RunU Try.prog (Instr.storeAt 46 t2_1 t31_10) w fun w =>
 RunW Try.prog (Instr.loadAt 46 t2_1) w fun t2_11 =>
 R (.tuple #[t2_11, (.int .i64 14)]) w) (
 CallF Try.prog 46 #[t22_3, (.int .i64 0)] w fun t34_12 w =>
 RunA Try.prog (Instr.extract t34_12 0) fun t35_13 =>
 RunA Try.prog (Instr.extract t34_12 1) fun t36_14 =>
 RunA Try.prog (Instr.extract t34_12 2) fun t37_15 =>
 CallF Try.prog 46 #[t22_3, t36_14] w fun t41_16 w =>
 RunA Try.prog (Instr.extract t41_16 0) fun t42_17 =>
 RunA Try.prog (Instr.extract t41_16 1) fun t43_18 =>
 RunA Try.prog (Instr.extract t41_16 2) fun t44_19 =>
 CallF Try.prog 46 #[t22_3, t43_18] w fun t48_20 w =>
 RunA Try.prog (Instr.extract t48_20 0) fun t49_21 =>
 RunA Try.prog (Instr.extract t48_20 1) fun t50_22 =>
 RunA Try.prog (Instr.extract t48_20 2) fun t51_23 =>
 RunW Try.prog (bin .neq 25 (.tmp 52) (.const (.int .i64 0)) t37_15 (.int .i64 0)) w fun t53_24 =>
 IfB t53_24 (
 RunV Try.prog (Instr.build 46 #[]) w fun t70_25 w =>
 RunU Try.prog (Instr.storeAt 46 t2_1 t70_25) w fun w =>
 RunW Try.prog (Instr.loadAt 46 t2_1) w fun t2_26 =>
 R (.tuple #[t2_26, (.int .i64 14)]) w) (
 RunW Try.prog (bin .neq 25 (.tmp 55) (.const (.int .i64 0)) t44_19 (.int .i64 0)) w fun t56_27 =>
 IfB t56_27 (
 RunV Try.prog (Instr.build 46 #[]) w fun t70_28 w =>
 RunU Try.prog (Instr.storeAt 46 t2_1 t70_28) w fun w =>
 RunW Try.prog (Instr.loadAt 46 t2_1) w fun t2_29 =>
 R (.tuple #[t2_29, (.int .i64 14)]) w) (
 RunW Try.prog (bin .neq 25 (.tmp 59) (.const (.int .i64 0)) t51_23 (.int .i64 0)) w fun t60_30 =>
 IfB t60_30 (
 RunV Try.prog (Instr.build 46 #[]) w fun t70_31 w =>
 RunU Try.prog (Instr.storeAt 46 t2_1 t70_31) w fun w =>
 RunW Try.prog (Instr.loadAt 46 t2_1) w fun t2_32 =>
 R (.tuple #[t2_32, (.int .i64 14)]) w) (
 RunW Try.prog (Builtin.len_ #[22] 3 #[t22_3]) w fun t65_33 =>
 RunA Try.prog (bin .sub 3 (.tmp 65) (.tmp 66) t65_33 t50_22) fun t67_34 =>
 RunA Try.prog (bin .gtr 3 (.tmp 63) (.tmp 67) t49_21 t67_34) fun t68_35 =>
 IfB t68_35 (
 RunV Try.prog (Instr.build 46 #[]) w fun t70_36 w =>
 RunU Try.prog (Instr.storeAt 46 t2_1 t70_36) w fun w =>
 RunW Try.prog (Instr.loadAt 46 t2_1) w fun t2_37 =>
 R (.tuple #[t2_37, (.int .i64 14)]) w) (
 RunA Try.prog (bin .add 3 (.tmp 73) (.tmp 74) t50_22 t49_21) fun t75_38 =>
 RunA Try.prog (Instr.sliceAt 22 t22_3 (some t50_22) (some t75_38) none) fun t76_39 =>
 RunV Try.prog (convert 22 9 t76_39) w fun t77_40 w =>
 RunA Try.prog (bin .add 3 (.tmp 80) (.tmp 81) t50_22 t49_21) fun t82_41 =>
 CallF Try.prog 46 #[t22_3, t82_41] w fun t83_42 w =>
 RunA Try.prog (Instr.extract t83_42 0) fun t84_43 =>
 RunA Try.prog (Instr.extract t83_42 1) fun t85_44 =>
 RunA Try.prog (Instr.extract t83_42 2) fun t86_45 =>
 RunW Try.prog (bin .neq 25 (.tmp 87) (.const (.int .i64 0)) t86_45 (.int .i64 0)) w fun t88_46 =>
 IfB t88_46 (
 RunV Try.prog (Instr.build 46 #[]) w fun t97_47 w =>
 RunU Try.prog (Instr.storeAt 46 t2_1 t97_47) w fun w =>
 RunW Try.prog (Instr.loadAt 46 t2_1) w fun t2_48 =>
 R (.tuple #[t2_48, (.int .i64 14)]) w) (
 RunW Try.prog (Builtin.len_ #[22] 3 #[t22_3]) w fun t92_49 =>
 RunA Try.prog (bin .sub 3 (.tmp 92) (.tmp 93) t92_49 t85_44) fun t94_50 =>
 RunA Try.prog (bin .gtr 3 (.tmp 90) (.tmp 94) t84_43 t94_50) fun t95_51 =>
 IfB t95_51 (
 RunV Try.prog (Instr.build 46 #[]) w fun t97_52 w =>
 RunU Try.prog (Instr.storeAt 46 t2_1 t97_52) w fun w =>
 RunW Try.prog (Instr.loadAt 46 t2_1) w fun t2_53 =>
 R (.tuple #[t2_53, (.int .i64 14)]) w) (
 RunA Try.prog (bin .add 3 (.tmp 103) (.tmp 104) t85_44 t84_43) fun t105_54 =>
 RunA Try.prog (Instr.sliceAt 22 t22_3 (some t85_44) (some t105_54) none) fun t106_55 =>
 RunV Try.prog (convert 22 9 t106_55) w fun t107_56 w =>
 RunV Try.prog (Instr.build 46 #[(0, t77_40), (1, t35_13), (2, t42_17), (3, t107_56)]) w fun t108_57 w =>
 RunV Try.prog (Instr.alloc 46 true (.tuple #[])) w fun t16_58 w =>
 RunU Try.prog (Instr.storeAt 46 t16_58 t108_57) w fun w =>
 RunW Try.prog (Instr.loadAt 46 t16_58) w fun t110_59 =>
 CallF Try.prog 23 #[t110_59] w fun t111_60 w =>
 RunA Try.prog (Instr.extract t111_60 0) fun t112_61 =>
 RunA Try.prog (Instr.extract t111_60 1) fun t113_62 =>
 RunW Try.prog (bin .neq 25 (.tmp 114) (.const (.int .i64 0)) t113_62 (.int .i64 0)) w fun t115_63 =>
 IfB t115_63 (
 RunV Try.prog (Instr.build 46 #[]) w fun t121_64 w =>
 RunU Try.prog (Instr.storeAt 46 t2_1 t121_64) w fun w =>
 RunW Try.prog (Instr.loadAt 46 t2_1) w fun t2_65 =>
 R (.tuple #[t2_65, (.int .i64 14)]) w) (
 RunW Try.prog (bin .neq 9 (.tmp 117) (.tmp 118) t112_61 a0) w fun t119_66 =>
 IfB t119_66 (
 RunV Try.prog (Instr.build 46 #[]) w fun t121_67 w =>
 RunU Try.prog (Instr.storeAt 46 t2_1 t121_67) w fun w =>
 RunW Try.prog (Instr.loadAt 46 t2_1) w fun t2_68 =>
 R (.tuple #[t2_68, (.int .i64 14)]) w) (
 RunW Try.prog (Instr.loadAt 46 t16_58) w fun t122_69 =>
 RunU Try.prog (Instr.storeAt 46 t2_1 t122_69) w fun w =>
 RunW Try.prog (Instr.loadAt 46 t2_1) w fun t2_70 =>
 R (.tuple #[t2_70, (.int .i64 0)]) w))))))))))
theorem sh25_calls {a0 : Value} {w : World} {R : Value → World → Prop} (h : sh25 a0 w R) : CallF Try.prog 25 #[a0] w R :=
  calls_of_denF (mk := false) (args := [a0]) (an := (.seq (.ops [0, 2]) (.seq (.ops [0, 2, 4, 5]) (.seq (.seq (.ops [0, 2, 4, 30]) (.cond (.seq (.ops [2, 3]) .leaf) .leaf)) (.seq (.ops [0, 2, 4, 6, 7, 8]) (.seq (.ops [0, 2, 4, 6, 7, 8, 9, 10]) (.seq (.ops [0, 2, 4, 6, 7, 8, 9, 10, 11, 12]) (.seq (.seq (.ops [0, 2, 4, 6, 7, 9, 11, 69]) (.cond (.seq (.ops [2, 3]) .leaf) .leaf)) (.seq (.ops [0, 2, 4, 6, 7, 9, 11, 13]) (.seq (.ops [0, 2, 4, 6, 7, 9, 13, 14, 15]) (.seq (.seq (.ops [0, 2, 4, 6, 7, 9, 13, 14, 96]) (.cond (.seq (.ops [2, 3]) .leaf) .leaf)) (.seq (.ops [0, 2, 16]) (.seq (.ops [0, 2, 16, 17, 18]) (.seq (.seq (.ops [2, 16, 120]) (.cond (.seq (.ops [2, 3]) .leaf) .leaf)) (.seq (.ops [2, 3]) .leaf))))))))))))))) (c := Try.f25.body.getD .skip) hent Try.func25 rfl (Nat.le_of_ble_eq_true (by kernel_rfl))
    (Eq.mp (show sh25 a0 w R = denF Try.prog ent false Try.f25 (.seq (.ops [0, 2]) (.seq (.ops [0, 2, 4, 5]) (.seq (.seq (.ops [0, 2, 4, 30]) (.cond (.seq (.ops [2, 3]) .leaf) .leaf)) (.seq (.ops [0, 2, 4, 6, 7, 8]) (.seq (.ops [0, 2, 4, 6, 7, 8, 9, 10]) (.seq (.ops [0, 2, 4, 6, 7, 8, 9, 10, 11, 12]) (.seq (.seq (.ops [0, 2, 4, 6, 7, 9, 11, 69]) (.cond (.seq (.ops [2, 3]) .leaf) .leaf)) (.seq (.ops [0, 2, 4, 6, 7, 9, 11, 13]) (.seq (.ops [0, 2, 4, 6, 7, 9, 13, 14, 15]) (.seq (.seq (.ops [0, 2, 4, 6, 7, 9, 13, 14, 96]) (.cond (.seq (.ops [2, 3]) .leaf) .leaf)) (.seq (.ops [0, 2, 16]) (.seq (.ops [0, 2, 16, 17, 18]) (.seq (.seq (.ops [2, 16, 120]) (.cond (.seq (.ops [2, 3]) .leaf) .leaf)) (.seq (.ops [2, 3]) .leaf)))))))))))))) (Try.f25.body.getD .skip) [a0] w R by kernel_rfl) h)

/-! ### 26: (handbill/hblref20.Token).May -/
def sh26 (a0 : Value) (w : World) (R : Value → World → Prop) : Prop :=
 RunV Try.prog (Instr.box 46 a0) w fun t1_1 w =>
 RunA Try.prog (Instr.fieldAt 46 t1_1 0) fun t3_2 =>
 RunW Try.prog (Instr.loadAt 9 t3_2) w fun t4_3 =>
 CallF Try.prog 47 #[t4_3] w fun t5_4 w =>
 RunA Try.prog (Op.unary .not t5_4) fun t6_5 =>
 IfB t6_5 (
 R (.bool false) w) (
 RunA Try.prog (Instr.fieldAt 46 t1_1 1) fun t8_6 =>
 RunW Try.prog (Instr.loadAt 3 t8_6) w fun t9_7 =>
 RunA Try.prog (bin .lss 3 (.tmp 9) (.const (.int .i64 0)) t9_7 (.int .i64 0)) fun t10_8 =>
 IfB t10_8 (
 R (.bool false) w) (
 RunA Try.prog (Instr.fieldAt 46 t1_1 1) fun t13_9 =>
 RunW Try.prog (Instr.loadAt 3 t13_9) w fun t14_10 =>
 RunA Try.prog (bin .gtr 3 (.tmp 14) (.const (.int .i64 1099511627776)) t14_10 (.int .i64 1099511627776)) fun t15_11 =>
 IfB t15_11 (
 R (.bool false) w) (
 RunA Try.prog (Instr.fieldAt 46 t1_1 2) fun t17_12 =>
 RunW Try.prog (Instr.loadAt 3 t17_12) w fun t18_13 =>
 RunW Try.prog (bin .eql 3 (.tmp 18) (.const (.int .i64 0)) t18_13 (.int .i64 0)) w fun t19_14 =>
 IfB t19_14 (
 RunA Try.prog (Instr.fieldAt 46 t1_1 3) fun t20_15 =>
 RunW Try.prog (Instr.loadAt 9 t20_15) w fun t21_16 =>
 RunW Try.prog (bin .eql 9 (.tmp 21) (.const (.string ⟨#[]⟩)) t21_16 (.string ⟨#[]⟩)) w fun t22_17 =>
 R t22_17 w) (
 RunA Try.prog (Instr.fieldAt 46 t1_1 2) fun t23_18 =>
 RunW Try.prog (Instr.loadAt 3 t23_18) w fun t24_19 =>
 RunA Try.prog (bin .geq 3 (.tmp 24) (.const (.int .i64 1)) t24_19 (.int .i64 1)) fun t25_20 =>
 IfB t25_20 (
 RunA Try.prog (Instr.fieldAt 46 t1_1 2) fun t27_21 =>
 RunW Try.prog (Instr.loadAt 3 t27_21) w fun t28_22 =>
 RunA Try.prog (Instr.fieldAt 46 t1_1 1) fun t29_23 =>
 RunW Try.prog (Instr.loadAt 3 t29_23) w fun t30_24 =>
 RunA Try.prog (bin .geq 3 (.tmp 28) (.tmp 30) t28_22 t30_24) fun t31_25 =>
 IfB t31_25 (
 RunA Try.prog (Instr.fieldAt 46 t1_1 2) fun t34_26 =>
 RunW Try.prog (Instr.loadAt 3 t34_26) w fun t35_27 =>
 RunA Try.prog (bin .leq 3 (.tmp 35) (.const (.int .i64 1099511627776)) t35_27 (.int .i64 1099511627776)) fun t36_28 =>
 IfB t36_28 (
 RunA Try.prog (Instr.fieldAt 46 t1_1 3) fun t39_29 =>
 RunW Try.prog (Instr.loadAt 9 t39_29) w fun t40_30 =>
 RunW Try.prog (Builtin.len_ #[9] 3 #[t40_30]) w fun t41_31 =>
 RunA Try.prog (bin .geq 3 (.tmp 41) (.const (.int .i64 1)) t41_31 (.int .i64 1)) fun t42_32 =>
 IfB t42_32 (
 RunA Try.prog (Instr.fieldAt 46 t1_1 3) fun t45_33 =>
 RunW Try.prog (Instr.loadAt 9 t45_33) w fun t46_34 =>
 RunW Try.prog (Builtin.len_ #[9] 3 #[t46_34]) w fun t47_35 =>
 RunA Try.prog (bin .leq 3 (.tmp 47) (.const (.int .i64 100)) t47_35 (.int .i64 100)) fun t48_36 =>
 R t48_36 w) (
 R (.bool false) w)) (
 R (.bool false) w)) (
 R (.bool false) w)) (
 R (.bool false) w)))))
theorem sh26_calls {a0 : Value} {w : World} {R : Value → World → Prop} (h : sh26 a0 w R) : CallF Try.prog 26 #[a0] w R :=
  calls_of_denF (mk := false) (args := [a0]) (an := (.seq (.ops [1]) (.seq (.seq (.ops [1, 16]) (.cond (.seq (.ops [2]) .leaf) .leaf)) (.seq (.seq (.ops [1, 19]) (.cond (.seq (.ops [2]) .leaf) .leaf)) (.seq (.ops [2]) .leaf))))) (c := Try.f26.body.getD .skip) hent Try.func26 rfl (Nat.le_of_ble_eq_true (by kernel_rfl))
    (Eq.mp (show sh26 a0 w R = denF Try.prog ent false Try.f26 (.seq (.ops [1]) (.seq (.seq (.ops [1, 16]) (.cond (.seq (.ops [2]) .leaf) .leaf)) (.seq (.seq (.ops [1, 19]) (.cond (.seq (.ops [2]) .leaf) .leaf)) (.seq (.ops [2]) .leaf)))) (Try.f26.body.getD .skip) [a0] w R by kernel_rfl) h)

/-! ### 27: handbill/num.Put -/
def sh27 (a0 a1 : Value) (w : World) (R : Value → World → Prop) : Prop :=
 RunA Try.prog (bin .lss 3 (.tmp 8) (.const (.int .i64 1)) a1 (.int .i64 1)) fun t9_1 =>
 IfB t9_1 (
 R (.tuple #[(.slice none 0 0), (.int .i64 1)]) w) (
 RunA Try.prog (bin .gtr 3 (.tmp 11) (.const (.int .i64 6)) a1 (.int .i64 6)) fun t12_2 =>
 IfB t12_2 (
 R (.tuple #[(.slice none 0 0), (.int .i64 1)]) w) (
 RunA Try.prog (bin .lss 3 (.tmp 15) (.const (.int .i64 0)) a0 (.int .i64 0)) fun t16_3 =>
 IfB t16_3 (
 R (.tuple #[(.slice none 0 0), (.int .i64 1)]) w) (
 RunA Try.prog (bin .mul 3 (.const (.int .i64 8)) (.tmp 20) (.int .i64 8) a1) fun t21_4 =>
 RunA Try.prog (bin .shr 3 (.tmp 19) (.tmp 21) a0 t21_4) fun t22_5 =>
 RunA Try.prog (bin .gtr 3 (.tmp 22) (.const (.int .i64 0)) t22_5 (.int .i64 0)) fun t23_6 =>
 IfB t23_6 (
 R (.tuple #[(.slice none 0 0), (.int .i64 1)]) w) (
 RunA Try.prog (bin .sub 3 (.tmp 25) (.const (.int .i64 1)) a1 (.int .i64 1)) fun t26_7 =>
 lp 2 (fun n_10 t6_8 t7_9 w =>
 RunA Try.prog (bin .geq 3 (.tmp 27) (.const (.int .i64 0)) t7_9 (.int .i64 0)) fun t28_11 =>
 IfB t28_11 (
 RunA Try.prog (bin .mul 3 (.const (.int .i64 8)) (.tmp 33) (.int .i64 8) t7_9) fun t34_12 =>
 RunA Try.prog (bin .shr 3 (.tmp 32) (.tmp 34) a0 t34_12) fun t35_13 =>
 RunV Try.prog (convert 3 5 t35_13) w fun t36_14 w =>
 RunV Try.prog (Instr.buildSlice 22 1 #[(0, t36_14)]) w fun t37_15 w =>
 RunV Try.prog (Builtin.append_ #[22, 22] 22 #[t6_8, t37_15]) w fun t38_16 w =>
 RunA Try.prog (bin .sub 3 (.tmp 29) (.const (.int .i64 1)) t7_9 (.int .i64 1)) fun t30_17 =>
 (a0 : Value) = a0 ∧ (n_10 t38_16 t30_17 w)) (
 R (.tuple #[t6_8, (.int .i64 0)]) w)) [(.slice none 0 0), t26_7] w))))
theorem sh27_calls {a0 a1 : Value} {w : World} {R : Value → World → Prop} (h : sh27 a0 a1 w R) : CallF Try.prog 27 #[a0, a1] w R :=
  calls_of_denF (mk := false) (args := [a0, a1]) (an := (.seq (.ops [0, 1]) (.seq (.seq (.ops [0, 1, 24]) (.cond (.seq (.ops [4, 5]) .leaf) .leaf)) (.seq (.ops [0, 1, 6]) (.seq (.seq (.ops [0, 6, 7]) (.blk (.loop [0] [6, 7] (.seq (.seq (.ops [0, 6, 7, 28]) (.cond .leaf .leaf)) (.seq (.blk (.ops [0, 6, 7])) (.ops [0, 6, 7])))))) (.seq (.ops [4, 5]) .leaf)))))) (c := Try.f27.body.getD .skip) hent Try.func27 rfl (Nat.le_of_ble_eq_true (by kernel_rfl))
    (Eq.mp (show sh27 a0 a1 w R = denF Try.prog ent false Try.f27 (.seq (.ops [0, 1]) (.seq (.seq (.ops [0, 1, 24]) (.cond (.seq (.ops [4, 5]) .leaf) .leaf)) (.seq (.ops [0, 1, 6]) (.seq (.seq (.ops [0, 6, 7]) (.blk (.loop [0] [6, 7] (.seq (.seq (.ops [0, 6, 7, 28]) (.cond .leaf .leaf)) (.seq (.blk (.ops [0, 6, 7])) (.ops [0, 6, 7])))))) (.seq (.ops [4, 5]) .leaf))))) (Try.f27.body.getD .skip) [a0, a1] w R by kernel_rfl) h)

/-! ### 28: handbill/frame.crc -/
def sh28 (a0 a1 : Value) (w : World) (R : Value → World → Prop) : Prop :=
 CallF Try.prog 34 #[a0] w fun t6_1 w =>
 RunV Try.prog (Builtin.append_ #[22, 22] 22 #[t6_1, a1]) w fun t8_2 w =>
 CallF Try.prog 37 #[t8_2] w fun t9_3 w =>
 R t9_3 w
theorem sh28_calls {a0 a1 : Value} {w : World} {R : Value → World → Prop} (h : sh28 a0 a1 w R) : CallF Try.prog 28 #[a0, a1] w R :=
  calls_of_denF (mk := false) (args := [a0, a1]) (an := (.seq (.ops [0, 1]) (.seq (.ops [4]) .leaf))) (c := Try.f28.body.getD .skip) hent Try.func28 rfl (Nat.le_of_ble_eq_true (by kernel_rfl))
    (Eq.mp (show sh28 a0 a1 w R = denF Try.prog ent false Try.f28 (.seq (.ops [0, 1]) (.seq (.ops [4]) .leaf)) (Try.f28.body.getD .skip) [a0, a1] w R by kernel_rfl) h)

/-! ### 29: handbill/hblref1.Put -/
def sh29 (a0 a1 : Value) (w : World) (R : Value → World → Prop) : Prop :=
 RunA Try.prog (bin .lss 3 (.tmp 8) (.const (.int .i64 1)) a1 (.int .i64 1)) fun t9_1 =>
 IfB t9_1 (
 R (.tuple #[(.slice none 0 0), (.int .i64 1)]) w) (
 RunA Try.prog (bin .gtr 3 (.tmp 11) (.const (.int .i64 6)) a1 (.int .i64 6)) fun t12_2 =>
 IfB t12_2 (
 R (.tuple #[(.slice none 0 0), (.int .i64 1)]) w) (
 RunA Try.prog (bin .lss 3 (.tmp 15) (.const (.int .i64 0)) a0 (.int .i64 0)) fun t16_3 =>
 IfB t16_3 (
 R (.tuple #[(.slice none 0 0), (.int .i64 1)]) w) (
 RunA Try.prog (bin .mul 3 (.const (.int .i64 8)) (.tmp 20) (.int .i64 8) a1) fun t21_4 =>
 RunV Try.prog (convert 3 78 t21_4) w fun t22_5 w =>
 RunA Try.prog (bin .shr 3 (.tmp 19) (.tmp 22) a0 t22_5) fun t23_6 =>
 RunA Try.prog (bin .gtr 3 (.tmp 23) (.const (.int .i64 0)) t23_6 (.int .i64 0)) fun t24_7 =>
 IfB t24_7 (
 R (.tuple #[(.slice none 0 0), (.int .i64 1)]) w) (
 RunA Try.prog (bin .sub 3 (.tmp 26) (.const (.int .i64 1)) a1 (.int .i64 1)) fun t27_8 =>
 lp 2 (fun n_11 t6_9 t7_10 w =>
 RunA Try.prog (bin .geq 3 (.tmp 28) (.const (.int .i64 0)) t7_10 (.int .i64 0)) fun t29_12 =>
 IfB t29_12 (
 RunA Try.prog (bin .mul 3 (.const (.int .i64 8)) (.tmp 34) (.int .i64 8) t7_10) fun t35_13 =>
 RunV Try.prog (convert 3 78 t35_13) w fun t36_14 w =>
 RunA Try.prog (bin .shr 3 (.tmp 33) (.tmp 36) a0 t36_14) fun t37_15 =>
 RunV Try.prog (convert 3 5 t37_15) w fun t38_16 w =>
 RunV Try.prog (Instr.buildSlice 22 1 #[(0, t38_16)]) w fun t39_17 w =>
 RunV Try.prog (Builtin.append_ #[22, 22] 22 #[t6_9, t39_17]) w fun t40_18 w =>
 RunA Try.prog (bin .sub 3 (.tmp 30) (.const (.int .i64 1)) t7_10 (.int .i64 1)) fun t31_19 =>
 (a0 : Value) = a0 ∧ (n_11 t40_18 t31_19 w)) (
 R (.tuple #[t6_9, (.int .i64 0)]) w)) [(.slice none 0 0), t27_8] w))))
theorem sh29_calls {a0 a1 : Value} {w : World} {R : Value → World → Prop} (h : sh29 a0 a1 w R) : CallF Try.prog 29 #[a0, a1] w R :=
  calls_of_denF (mk := false) (args := [a0, a1]) (an := (.seq (.ops [0, 1]) (.seq (.seq (.ops [0, 1, 25]) (.cond (.seq (.ops [4, 5]) .leaf) .leaf)) (.seq (.ops [0, 1, 6]) (.seq (.seq (.ops [0, 6, 7]) (.blk (.loop [0] [6, 7] (.seq (.seq (.ops [0, 6, 7, 29]) (.cond .leaf .leaf)) (.seq (.blk (.ops [0, 6, 7])) (.ops [0, 6, 7])))))) (.seq (.ops [4, 5]) .leaf)))))) (c := Try.f29.body.getD .skip) hent Try.func29 rfl (Nat.le_of_ble_eq_true (by kernel_rfl))
    (Eq.mp (show sh29 a0 a1 w R = denF Try.prog ent false Try.f29 (.seq (.ops [0, 1]) (.seq (.seq (.ops [0, 1, 25]) (.cond (.seq (.ops [4, 5]) .leaf) .leaf)) (.seq (.ops [0, 1, 6]) (.seq (.seq (.ops [0, 6, 7]) (.blk (.loop [0] [6, 7] (.seq (.seq (.ops [0, 6, 7, 29]) (.cond .leaf .leaf)) (.seq (.blk (.ops [0, 6, 7])) (.ops [0, 6, 7])))))) (.seq (.ops [4, 5]) .leaf))))) (Try.f29.body.getD .skip) [a0, a1] w R by kernel_rfl) h)

/-! ### 30: handbill/hblref1.Crc -/
def sh30 (a0 : Value) (w : World) (R : Value → World → Prop) : Prop :=
 lp 2 (fun n_3 t3_1 t4_2 w =>
 RunW Try.prog (Builtin.len_ #[22] 3 #[a0]) w fun t8_4 =>
 RunA Try.prog (bin .lss 3 (.tmp 6) (.tmp 8) t4_2 t8_4) fun t9_5 =>
 IfB t9_5 (
 RunA Try.prog (Instr.indexAt 22 a0 t4_2) fun t15_6 =>
 RunW Try.prog (Instr.loadAt 5 t15_6) w fun t16_7 =>
 RunV Try.prog (convert 5 57 t16_7) w fun t17_8 w =>
 RunA Try.prog (bin .xor 57 (.tmp 12) (.tmp 17) t3_1 t17_8) fun t18_9 =>
 lp 2 (fun n_12 t3_10 t5_11 w =>
 RunA Try.prog (bin .lss 3 (.tmp 19) (.const (.int .i64 8)) t5_11 (.int .i64 8)) fun t20_13 =>
 IfB t20_13 (
 jn 4 (fun t0_14 t3_15 t4_16 t5_17 w =>
 RunA Try.prog (bin .add 3 (.tmp 21) (.const (.int .i64 1)) t5_17 (.int .i64 1)) fun t22_19 =>
 (t0_14 : Value) = a0 ∧ ((t4_16 : Value) = t4_2 ∧ (n_12 t3_15 t22_19 w))) fun j_18 =>
 RunA Try.prog (bin .and 57 (.tmp 23) (.const (.int .u32 1)) t3_10 (.int .u32 1)) fun t24_20 =>
 RunW Try.prog (bin .eql 57 (.tmp 24) (.const (.int .u32 1)) t24_20 (.int .u32 1)) w fun t25_21 =>
 IfB t25_21 (
 RunA Try.prog (bin .shr 57 (.tmp 26) (.const (.int .u64 1)) t3_10 (.int .u64 1)) fun t27_22 =>
 RunA Try.prog (bin .xor 57 (.tmp 27) (.const (.int .u32 3988292384)) t27_22 (.int .u32 3988292384)) fun t28_23 =>
 j_18 a0 t28_23 t4_2 t5_11 w) (
 RunA Try.prog (bin .shr 57 (.tmp 29) (.const (.int .u64 1)) t3_10 (.int .u64 1)) fun t30_24 =>
 j_18 a0 t30_24 t4_2 t5_11 w)) (
 RunA Try.prog (bin .add 3 (.tmp 10) (.const (.int .i64 1)) t4_2 (.int .i64 1)) fun t11_25 =>
 (a0 : Value) = a0 ∧ (n_3 t3_10 t11_25 w))) [t18_9, (.int .i64 0)] w) (
 RunA Try.prog (Op.unary .xor t3_1) fun t32_26 =>
 R t32_26 w)) [(.int .u32 4294967295), (.int .i64 0)] w
theorem sh30_calls {a0 : Value} {w : World} {R : Value → World → Prop} (h : sh30 a0 w R) : CallF Try.prog 30 #[a0] w R :=
  calls_of_denF (mk := false) (args := [a0]) (an := (.seq (.ops [0]) (.seq (.ops [0, 3]) (.seq (.seq (.ops [0, 3, 4]) (.blk (.loop [0] [3, 4] (.seq (.seq (.ops [0, 3, 4, 9]) (.cond .leaf .leaf)) (.seq (.blk (.seq (.ops [0, 3, 4]) (.seq (.ops [0, 3, 4, 5]) (.blk (.loop [0, 4] [3, 5] (.seq (.seq (.ops [0, 3, 4, 5, 20]) (.cond .leaf .leaf)) (.seq (.blk (.join [0, 3, 4, 5] (.seq (.ops [0, 3, 4, 5, 25]) (.cond (.ops [0, 3, 4, 5]) (.ops [0, 3, 4, 5]))))) (.ops [0, 3, 4, 5])))))))) (.ops [0, 3, 4])))))) (.seq (.ops [2]) .leaf))))) (c := Try.f30.body.getD .skip) hent Try.func30 rfl (Nat.le_of_ble_eq_true (by kernel_rfl))
    (Eq.mp (show sh30 a0 w R = denF Try.prog ent false Try.f30 (.seq (.ops [0]) (.seq (.ops [0, 3]) (.seq (.seq (.ops [0, 3, 4]) (.blk (.loop [0] [3, 4] (.seq (.seq (.ops [0, 3, 4, 9]) (.cond .leaf .leaf)) (.seq (.blk (.seq (.ops [0, 3, 4]) (.seq (.ops [0, 3, 4, 5]) (.blk (.loop [0, 4] [3, 5] (.seq (.seq (.ops [0, 3, 4, 5, 20]) (.cond .leaf .leaf)) (.seq (.blk (.join [0, 3, 4, 5] (.seq (.ops [0, 3, 4, 5, 25]) (.cond (.ops [0, 3, 4, 5]) (.ops [0, 3, 4, 5]))))) (.ops [0, 3, 4, 5])))))))) (.ops [0, 3, 4])))))) (.seq (.ops [2]) .leaf)))) (Try.f30.body.getD .skip) [a0] w R by kernel_rfl) h)

/-! ### 31: handbill/hblref1.Get -/
def sh31 (a0 a1 a2 : Value) (w : World) (R : Value → World → Prop) : Prop :=
 RunA Try.prog (bin .lss 3 (.tmp 10) (.const (.int .i64 1)) a2 (.int .i64 1)) fun t11_1 =>
 IfB t11_1 (
 R (.tuple #[(.int .i64 0), (.int .i64 1)]) w) (
 RunA Try.prog (bin .gtr 3 (.tmp 13) (.const (.int .i64 6)) a2 (.int .i64 6)) fun t14_2 =>
 IfB t14_2 (
 R (.tuple #[(.int .i64 0), (.int .i64 1)]) w) (
 RunA Try.prog (bin .lss 3 (.tmp 17) (.const (.int .i64 0)) a1 (.int .i64 0)) fun t18_3 =>
 IfB t18_3 (
 R (.tuple #[(.int .i64 0), (.int .i64 1)]) w) (
 RunW Try.prog (Builtin.len_ #[22] 3 #[a0]) w fun t23_4 =>
 RunA Try.prog (bin .gtr 3 (.tmp 21) (.tmp 23) a1 t23_4) fun t24_5 =>
 IfB t24_5 (
 R (.tuple #[(.int .i64 0), (.int .i64 1)]) w) (
 RunW Try.prog (Builtin.len_ #[22] 3 #[a0]) w fun t27_6 =>
 RunA Try.prog (bin .sub 3 (.tmp 27) (.tmp 28) t27_6 a1) fun t29_7 =>
 RunA Try.prog (bin .lss 3 (.tmp 29) (.tmp 30) t29_7 a2) fun t31_8 =>
 IfB t31_8 (
 R (.tuple #[(.int .i64 0), (.int .i64 2)]) w) (
 lp 2 (fun n_11 t8_9 t9_10 w =>
 RunA Try.prog (bin .lss 3 (.tmp 32) (.tmp 33) t9_10 a2) fun t34_12 =>
 IfB t34_12 (
 RunA Try.prog (bin .shl 3 (.tmp 37) (.const (.int .u64 8)) t8_9 (.int .u64 8)) fun t38_13 =>
 RunA Try.prog (bin .add 3 (.tmp 40) (.tmp 41) a1 t9_10) fun t42_14 =>
 RunA Try.prog (Instr.indexAt 22 a0 t42_14) fun t43_15 =>
 RunW Try.prog (Instr.loadAt 5 t43_15) w fun t44_16 =>
 RunV Try.prog (convert 5 3 t44_16) w fun t45_17 w =>
 RunA Try.prog (bin .or 3 (.tmp 38) (.tmp 45) t38_13 t45_17) fun t46_18 =>
 RunA Try.prog (bin .add 3 (.tmp 35) (.const (.int .i64 1)) t9_10 (.int .i64 1)) fun t36_19 =>
 (a0 : Value) = a0 ∧ ((a1 : Value) = a1 ∧ ((a2 : Value) = a2 ∧ (n_11 t46_18 t36_19 w)))) (
 R (.tuple #[t8_9, (.int .i64 0)]) w)) [(.int .i64 0), (.int .i64 0)] w)))))
theorem sh31_calls {a0 a1 a2 : Value} {w : World} {R : Value → World → Prop} (h : sh31 a0 a1 a2 w R) : CallF Try.prog 31 #[a0, a1, a2] w R :=
  calls_of_denF (mk := false) (args := [a0, a1, a2]) (an := (.seq (.ops [0, 1, 2]) (.seq (.seq (.ops [0, 1, 2, 25]) (.cond (.seq (.ops [6, 7]) .leaf) .leaf)) (.seq (.seq (.ops [0, 1, 2, 31]) (.cond (.seq (.ops [6, 7]) .leaf) .leaf)) (.seq (.ops [0, 1, 2, 8]) (.seq (.seq (.ops [0, 1, 2, 8, 9]) (.blk (.loop [0, 1, 2] [8, 9] (.seq (.seq (.ops [0, 1, 2, 8, 9, 34]) (.cond .leaf .leaf)) (.seq (.blk (.ops [0, 1, 2, 8, 9])) (.ops [0, 1, 2, 8, 9])))))) (.seq (.ops [6, 7]) .leaf))))))) (c := Try.f31.body.getD .skip) hent Try.func31 rfl (Nat.le_of_ble_eq_true (by kernel_rfl))
    (Eq.mp (show sh31 a0 a1 a2 w R = denF Try.prog ent false Try.f31 (.seq (.ops [0, 1, 2]) (.seq (.seq (.ops [0, 1, 2, 25]) (.cond (.seq (.ops [6, 7]) .leaf) .leaf)) (.seq (.seq (.ops [0, 1, 2, 31]) (.cond (.seq (.ops [6, 7]) .leaf) .leaf)) (.seq (.ops [0, 1, 2, 8]) (.seq (.seq (.ops [0, 1, 2, 8, 9]) (.blk (.loop [0, 1, 2] [8, 9] (.seq (.seq (.ops [0, 1, 2, 8, 9, 34]) (.cond .leaf .leaf)) (.seq (.blk (.ops [0, 1, 2, 8, 9])) (.ops [0, 1, 2, 8, 9])))))) (.seq (.ops [6, 7]) .leaf)))))) (Try.f31.body.getD .skip) [a0, a1, a2] w R by kernel_rfl) h)

/-! ### 32: handbill/frame.Scan$1 -/
def sh32 (a0 a1 : Value) (w : World) (R : Value → World → Prop) : Prop :=
 lp 1 (fun n_2 t3_1 w =>
 RunW Try.prog (Instr.loadAt 22 a1) w fun t7_3 =>
 CallF Try.prog 33 #[t7_3, t3_1] w fun t9_4 w =>
 RunA Try.prog (Instr.extract t9_4 0) fun t10_5 =>
 RunA Try.prog (Instr.extract t9_4 1) fun t11_6 =>
 RunA Try.prog (Op.unary .not t11_6) fun t13_7 =>
 IfB t13_7 (
 R (.tuple #[]) w) (
 RunW Try.prog (Builtin.len_ #[22] 3 #[t10_5]) w fun t16_8 =>
 RunA Try.prog (bin .add 3 (.const (.int .i64 6)) (.tmp 16) (.int .i64 6) t16_8) fun t17_9 =>
 RunA Try.prog (bin .add 3 (.tmp 14) (.tmp 17) t3_1 t17_9) fun t18_10 =>
 CallF Try.prog 34 #[t10_5] w fun t22_11 w =>
 CallV Try.prog a0 #[t18_10, t22_11] w fun t23_12 w =>
 RunA Try.prog (Op.unary .not t23_12) fun t24_13 =>
 IfB t24_13 (
 R (.tuple #[]) w) (
 (a0 : Value) = a0 ∧ ((a1 : Value) = a1 ∧ (n_2 t18_10 w))))) [(.int .i64 0)] w
theorem sh32_calls {a0 a1 : Value} {w : World} {R : Value → World → Prop} (h : sh32 a0 a1 w R) : CallF Try.prog 32 #[a0, a1] w R :=
  calls_of_denF (mk := false) (args := [a0, a1]) (an := (.seq (.ops [0, 1, 3]) (.blk (.loop [0, 1] [3] (.blk (.seq (.ops [0, 1, 3, 4, 5]) (.seq (.seq (.ops [0, 1, 3, 4, 13]) (.cond .leaf .leaf)) (.seq (.ops [0, 1, 3, 4]) (.seq (.ops [0, 1, 3, 24]) (.cond .leaf .leaf)))))))))) (c := Try.f32.body.getD .skip) hent Try.func32 rfl (Nat.le_of_ble_eq_true (by kernel_rfl))
    (Eq.mp (show sh32 a0 a1 w R = denF Try.prog ent false Try.f32 (.seq (.ops [0, 1, 3]) (.blk (.loop [0, 1] [3] (.blk (.seq (.ops [0, 1, 3, 4, 5]) (.seq (.seq (.ops [0, 1, 3, 4, 13]) (.cond .leaf .leaf)) (.seq (.ops [0, 1, 3, 4]) (.seq (.ops [0, 1, 3, 24]) (.cond .leaf .leaf))))))))) (Try.f32.body.getD .skip) [a0, a1] w R by kernel_rfl) h)

/-! ### 33: handbill/frame.next -/
def sh33 (a0 a1 : Value) (w : World) (R : Value → World → Prop) : Prop :=
 CallF Try.prog 48 #[a0, a1, (.int .i64 2)] w fun t14_1 w =>
 RunA Try.prog (Instr.extract t14_1 0) fun t15_2 =>
 RunA Try.prog (Instr.extract t14_1 1) fun t16_3 =>
 RunW Try.prog (bin .neq 25 (.tmp 17) (.const (.int .i64 0)) t16_3 (.int .i64 0)) w fun t18_4 =>
 IfB t18_4 (
 R (.tuple #[(.slice none 0 0), (.bool false)]) w) (
 RunA Try.prog (bin .gtr 3 (.tmp 20) (.const (.int .i64 60000)) t15_2 (.int .i64 60000)) fun t21_5 =>
 IfB t21_5 (
 R (.tuple #[(.slice none 0 0), (.bool false)]) w) (
 RunW Try.prog (Builtin.len_ #[22] 3 #[a0]) w fun t25_6 =>
 RunA Try.prog (bin .sub 3 (.tmp 25) (.tmp 26) t25_6 a1) fun t27_7 =>
 RunA Try.prog (bin .sub 3 (.tmp 27) (.const (.int .i64 6)) t27_7 (.int .i64 6)) fun t28_8 =>
 RunA Try.prog (bin .lss 3 (.tmp 28) (.tmp 29) t28_8 t15_2) fun t30_9 =>
 IfB t30_9 (
 R (.tuple #[(.slice none 0 0), (.bool false)]) w) (
 RunA Try.prog (bin .add 3 (.tmp 34) (.const (.int .i64 2)) a1 (.int .i64 2)) fun t35_10 =>
 CallF Try.prog 48 #[a0, t35_10, (.int .i64 4)] w fun t36_11 w =>
 RunA Try.prog (Instr.extract t36_11 0) fun t37_12 =>
 RunA Try.prog (Instr.extract t36_11 1) fun t38_13 =>
 RunA Try.prog (bin .add 3 (.tmp 40) (.const (.int .i64 6)) a1 (.int .i64 6)) fun t41_14 =>
 RunA Try.prog (bin .add 3 (.tmp 42) (.const (.int .i64 6)) a1 (.int .i64 6)) fun t43_15 =>
 RunA Try.prog (bin .add 3 (.tmp 43) (.tmp 44) t43_15 t15_2) fun t45_16 =>
 RunA Try.prog (Instr.sliceAt 22 a0 (some t41_14) (some t45_16) none) fun t46_17 =>
 RunV Try.prog (convert 3 57 t37_12) w fun t49_18 w =>
 RunA Try.prog (bin .add 3 (.tmp 52) (.const (.int .i64 2)) a1 (.int .i64 2)) fun t53_19 =>
 RunA Try.prog (Instr.sliceAt 22 a0 (some a1) (some t53_19) none) fun t54_20 =>
 CallF Try.prog 28 #[t54_20, t46_17] w fun t56_21 w =>
 RunW Try.prog (bin .eql 57 (.tmp 49) (.tmp 56) t49_18 t56_21) w fun t57_22 =>
 R (.tuple #[t46_17, t57_22]) w)))
theorem sh33_calls {a0 a1 : Value} {w : World} {R : Value → World → Prop} (h : sh33 a0 a1 w R) : CallF Try.prog 33 #[a0, a1] w R :=
  calls_of_denF (mk := false) (args := [a0, a1]) (an := (.seq (.ops [0, 1]) (.seq (.ops [0, 1, 6, 7]) (.seq (.seq (.ops [0, 1, 6, 31]) (.cond (.seq (.ops [4, 5]) .leaf) .leaf)) (.seq (.ops [0, 1, 6, 8]) (.seq (.ops [0, 1, 8, 10]) (.seq (.ops [4, 5]) .leaf))))))) (c := Try.f33.body.getD .skip) hent Try.func33 rfl (Nat.le_of_ble_eq_true (by kernel_rfl))
    (Eq.mp (show sh33 a0 a1 w R = denF Try.prog ent false Try.f33 (.seq (.ops [0, 1]) (.seq (.ops [0, 1, 6, 7]) (.seq (.seq (.ops [0, 1, 6, 31]) (.cond (.seq (.ops [4, 5]) .leaf) .leaf)) (.seq (.ops [0, 1, 6, 8]) (.seq (.ops [0, 1, 8, 10]) (.seq (.ops [4, 5]) .leaf)))))) (Try.f33.body.getD .skip) [a0, a1] w R by kernel_rfl) h)

/-! ### 34: bytes.Clone -/
def sh34 (a0 : Value) (w : World) (R : Value → World → Prop) : Prop :=
 RunW Try.prog (bin .eql 22 (.tmp 3) (.const (.slice none 0 0)) a0 (.slice none 0 0)) w fun t4_1 =>
 IfB t4_1 (
 R (.slice none 0 0) w) (
 RunV Try.prog (Instr.buildSlice 22 0 #[]) w fun t5_2 w =>
 RunV Try.prog (Builtin.append_ #[22, 22] 22 #[t5_2, a0]) w fun t7_3 w =>
 R t7_3 w)
theorem sh34_calls {a0 : Value} {w : World} {R : Value → World → Prop} (h : sh34 a0 w R) : CallF Try.prog 34 #[a0] w R :=
  calls_of_denF (mk := false) (args := [a0]) (an := (.seq (.ops [0]) (.seq (.seq (.ops [0, 4]) (.cond (.seq (.ops [2]) .leaf) .leaf)) (.seq (.ops [2]) .leaf)))) (c := Try.f34.body.getD .skip) hent Try.func34 rfl (Nat.le_of_ble_eq_true (by kernel_rfl))
    (Eq.mp (show sh34 a0 w R = denF Try.prog ent false Try.f34 (.seq (.ops [0]) (.seq (.seq (.ops [0, 4]) (.cond (.seq (.ops [2]) .leaf) .leaf)) (.seq (.ops [2]) .leaf))) (Try.f34.body.getD .skip) [a0] w R by kernel_rfl) h)

/-! ### 35: handbill/token.text -/
def sh35 (a0 a1 : Value) (w : World) (R : Value → World → Prop) : Prop :=
 RunW Try.prog (Builtin.len_ #[9] 3 #[a1]) w fun t7_1 =>
 CallF Try.prog 36 #[a0, t7_1] w fun t8_2 w =>
 RunV Try.prog (Builtin.append_ #[22, 9] 22 #[t8_2, a1]) w fun t10_3 w =>
 R t10_3 w
theorem sh35_calls {a0 a1 : Value} {w : World} {R : Value → World → Prop} (h : sh35 a0 a1 w R) : CallF Try.prog 35 #[a0, a1] w R :=
  calls_of_denF (mk := false) (args := [a0, a1]) (an := (.seq (.ops [0, 1]) (.seq (.ops [4]) .leaf))) (c := Try.f35.body.getD .skip) hent Try.func35 rfl (Nat.le_of_ble_eq_true (by kernel_rfl))
    (Eq.mp (show sh35 a0 a1 w R = denF Try.prog ent false Try.f35 (.seq (.ops [0, 1]) (.seq (.ops [4]) .leaf)) (Try.f35.body.getD .skip) [a0, a1] w R by kernel_rfl) h)

/-! ### 36: handbill/token.number -/
def sh36 (a0 a1 : Value) (w : World) (R : Value → World → Prop) : Prop :=
 CallF Try.prog 49 #[a1] w fun t9_1 w =>
 RunA Try.prog (Instr.extract t9_1 0) fun t10_2 =>
 RunA Try.prog (Instr.extract t9_1 1) fun t11_3 =>
 RunV Try.prog (Builtin.append_ #[22, 22] 22 #[a0, t10_2]) w fun t14_4 w =>
 R t14_4 w
theorem sh36_calls {a0 a1 : Value} {w : World} {R : Value → World → Prop} (h : sh36 a0 a1 w R) : CallF Try.prog 36 #[a0, a1] w R :=
  calls_of_denF (mk := false) (args := [a0, a1]) (an := (.seq (.ops [0, 1]) (.seq (.ops [0, 5]) (.seq (.ops [4]) .leaf)))) (c := Try.f36.body.getD .skip) hent Try.func36 rfl (Nat.le_of_ble_eq_true (by kernel_rfl))
    (Eq.mp (show sh36 a0 a1 w R = denF Try.prog ent false Try.f36 (.seq (.ops [0, 1]) (.seq (.ops [0, 5]) (.seq (.ops [4]) .leaf))) (Try.f36.body.getD .skip) [a0, a1] w R by kernel_rfl) h)

/-! ### 37: handbill/num.Crc -/
def sh37 (a0 : Value) (w : World) (R : Value → World → Prop) : Prop :=
 RunW Try.prog (Builtin.len_ #[22] 3 #[a0]) w fun t8_1 =>
 lp 2 (fun n_4 t3_2 t9_3 w =>
 RunA Try.prog (bin .lss 3 (.tmp 9) (.tmp 8) t9_3 t8_1) fun t10_5 =>
 IfB t10_5 (
 RunA Try.prog (Instr.indexAt 22 a0 t9_3) fun t11_6 =>
 RunW Try.prog (Instr.loadAt 5 t11_6) w fun t12_7 =>
 RunV Try.prog (convert 5 57 t12_7) w fun t15_8 w =>
 RunA Try.prog (bin .xor 57 (.tmp 13) (.tmp 15) t3_2 t15_8) fun t16_9 =>
 lp 2 (fun n_12 t3_10 t17_11 w =>
 RunA Try.prog (bin .lss 3 (.tmp 17) (.const (.int .i64 8)) t17_11 (.int .i64 8)) fun t18_13 =>
 IfB t18_13 (
 RunA Try.prog (bin .and 57 (.tmp 19) (.const (.int .u32 1)) t3_10 (.int .u32 1)) fun t20_14 =>
 RunA Try.prog (bin .shr 57 (.tmp 21) (.const (.int .u64 1)) t3_10 (.int .u64 1)) fun t22_15 =>
 jn 5 (fun t3_16 t7_17 t8_18 t9_19 t17_20 w =>
 RunA Try.prog (bin .add 3 (.tmp 17) (.const (.int .i64 1)) t17_20 (.int .i64 1)) fun t27_22 =>
 (t7_17 : Value) = a0 ∧ ((t8_18 : Value) = t8_1 ∧ ((t9_19 : Value) = t9_3 ∧ (n_12 t3_16 t27_22 w)))) fun j_21 =>
 RunW Try.prog (bin .eql 57 (.tmp 23) (.const (.int .u32 1)) t20_14 (.int .u32 1)) w fun t24_23 =>
 IfB t24_23 (
 RunA Try.prog (bin .xor 57 (.tmp 25) (.const (.int .u32 3988292384)) t22_15 (.int .u32 3988292384)) fun t26_24 =>
 j_21 t26_24 a0 t8_1 t9_3 t17_11 w) (
 j_21 t22_15 a0 t8_1 t9_3 t17_11 w)) (
 RunA Try.prog (bin .add 3 (.tmp 9) (.const (.int .i64 1)) t9_3 (.int .i64 1)) fun t28_25 =>
 (a0 : Value) = a0 ∧ ((t8_1 : Value) = t8_1 ∧ (n_4 t3_10 t28_25 w)))) [t16_9, (.int .i64 0)] w) (
 RunA Try.prog (Op.unary .xor t3_2) fun t30_26 =>
 R t30_26 w)) [(.int .u32 4294967295), (.int .i64 0)] w
theorem sh37_calls {a0 : Value} {w : World} {R : Value → World → Prop} (h : sh37 a0 w R) : CallF Try.prog 37 #[a0] w R :=
  calls_of_denF (mk := false) (args := [a0]) (an := (.seq (.ops [0]) (.seq (.ops [0, 3]) (.seq (.seq (.ops [3, 7, 8, 9]) (.blk (.loop [7, 8] [3, 9] (.seq (.ops [3, 7, 8, 9, 10]) (.seq (.cond .leaf .leaf) (.seq (.blk (.seq (.ops [3, 5, 7, 8, 9]) (.seq (.ops [3, 7, 8, 9]) (.seq (.ops [3, 7, 8, 9, 17]) (.blk (.loop [7, 8, 9] [3, 17] (.seq (.ops [3, 7, 8, 9, 17, 18]) (.seq (.cond .leaf .leaf) (.seq (.blk (.seq (.ops [3, 6, 7, 8, 9, 17]) (.seq (.ops [3, 6, 7, 8, 9, 17]) (.join [3, 7, 8, 9, 17] (.seq (.ops [3, 7, 8, 9, 17, 24]) (.cond (.ops [3, 7, 8, 9, 17]) .leaf)))))) (.ops [3, 7, 8, 9, 17])))))))))) (.ops [3, 7, 8, 9]))))))) (.seq (.ops [2]) .leaf))))) (c := Try.f37.body.getD .skip) hent Try.func37 rfl (Nat.le_of_ble_eq_true (by kernel_rfl))
    (Eq.mp (show sh37 a0 w R = denF Try.prog ent false Try.f37 (.seq (.ops [0]) (.seq (.ops [0, 3]) (.seq (.seq (.ops [3, 7, 8, 9]) (.blk (.loop [7, 8] [3, 9] (.seq (.ops [3, 7, 8, 9, 10]) (.seq (.cond .leaf .leaf) (.seq (.blk (.seq (.ops [3, 5, 7, 8, 9]) (.seq (.ops [3, 7, 8, 9]) (.seq (.ops [3, 7, 8, 9, 17]) (.blk (.loop [7, 8, 9] [3, 17] (.seq (.ops [3, 7, 8, 9, 17, 18]) (.seq (.cond .leaf .leaf) (.seq (.blk (.seq (.ops [3, 6, 7, 8, 9, 17]) (.seq (.ops [3, 6, 7, 8, 9, 17]) (.join [3, 7, 8, 9, 17] (.seq (.ops [3, 7, 8, 9, 17, 24]) (.cond (.ops [3, 7, 8, 9, 17]) .leaf)))))) (.ops [3, 7, 8, 9, 17])))))))))) (.ops [3, 7, 8, 9]))))))) (.seq (.ops [2]) .leaf)))) (Try.f37.body.getD .skip) [a0] w R by kernel_rfl) h)

/-! ### 38: handbill/num.Hex -/
def sh38 (a0 : Value) (w : World) (R : Value → World → Prop) : Prop :=
 RunV Try.prog (Instr.alloc 82 true (.tuple #[])) w fun t3_1 w =>
 RunW Try.prog (Builtin.len_ #[22] 3 #[a0]) w fun t7_2 =>
 lp 1 (fun n_4 t8_3 w =>
 RunA Try.prog (bin .lss 3 (.tmp 8) (.tmp 7) t8_3 t7_2) fun t9_5 =>
 IfB t9_5 (
 RunA Try.prog (Instr.indexAt 22 a0 t8_3) fun t10_6 =>
 RunW Try.prog (Instr.loadAt 5 t10_6) w fun t11_7 =>
 RunA Try.prog (bin .shr 5 (.tmp 12) (.const (.int .u64 4)) t11_7 (.int .u64 4)) fun t13_8 =>
 RunA Try.prog (Instr.index 9 (.string ⟨#[48, 49, 50, 51, 52, 53, 54, 55, 56, 57, 97, 98, 99, 100, 101, 102]⟩) t13_8) fun t14_9 =>
 CallF Try.prog 50 #[t3_1, t14_9] w fun t15_10 w =>
 RunA Try.prog (bin .and 5 (.tmp 16) (.const (.int .u8 15)) t11_7 (.int .u8 15)) fun t17_11 =>
 RunA Try.prog (Instr.index 9 (.string ⟨#[48, 49, 50, 51, 52, 53, 54, 55, 56, 57, 97, 98, 99, 100, 101, 102]⟩) t17_11) fun t18_12 =>
 CallF Try.prog 50 #[t3_1, t18_12] w fun t19_13 w =>
 RunA Try.prog (bin .add 3 (.tmp 8) (.const (.int .i64 1)) t8_3 (.int .i64 1)) fun t20_14 =>
 (t3_1 : Value) = t3_1 ∧ ((a0 : Value) = a0 ∧ ((t7_2 : Value) = t7_2 ∧ (n_4 t20_14 w)))) (
 CallF Try.prog 51 #[t3_1] w fun t21_15 w =>
 R t21_15 w)) [(.int .i64 0)] w
theorem sh38_calls {a0 : Value} {w : World} {R : Value → World → Prop} (h : sh38 a0 w R) : CallF Try.prog 38 #[a0] w R :=
  calls_of_denF (mk := false) (args := [a0]) (an := (.seq (.ops [0]) (.seq (.ops [0, 3]) (.seq (.seq (.ops [3, 6, 7, 8]) (.blk (.loop [3, 6, 7] [8] (.seq (.ops [3, 6, 7, 8, 9]) (.seq (.cond .leaf .leaf) (.seq (.blk (.seq (.ops [3, 5, 6, 7, 8]) (.seq (.ops [3, 5, 6, 7, 8]) (.ops [3, 6, 7, 8])))) (.ops [3, 6, 7, 8]))))))) (.seq (.ops [2]) .leaf))))) (c := Try.f38.body.getD .skip) hent Try.func38 rfl (Nat.le_of_ble_eq_true (by kernel_rfl))
    (Eq.mp (show sh38 a0 w R = denF Try.prog ent false Try.f38 (.seq (.ops [0]) (.seq (.ops [0, 3]) (.seq (.seq (.ops [3, 6, 7, 8]) (.blk (.loop [3, 6, 7] [8] (.seq (.ops [3, 6, 7, 8, 9]) (.seq (.cond .leaf .leaf) (.seq (.blk (.seq (.ops [3, 5, 6, 7, 8]) (.seq (.ops [3, 5, 6, 7, 8]) (.ops [3, 6, 7, 8])))) (.ops [3, 6, 7, 8]))))))) (.seq (.ops [2]) .leaf)))) (Try.f38.body.getD .skip) [a0] w R by kernel_rfl) h)

/-! ### 39: handbill/keys.Name -/
def sh39 (a0 : Value) (w : World) (R : Value → World → Prop) : Prop :=
 RunW Try.prog (Builtin.len_ #[9] 3 #[a0]) w fun t6_1 =>
 lp 1 (fun n_3 t7_2 w =>
 RunA Try.prog (bin .lss 3 (.tmp 7) (.tmp 6) t7_2 t6_1) fun t8_4 =>
 IfB t8_4 (
 RunA Try.prog (Instr.index 9 a0 t7_2) fun t12_5 =>
 jn 3 (fun t0_6 t6_7 t7_8 w =>
 RunA Try.prog (bin .add 3 (.tmp 7) (.const (.int .i64 1)) t7_8 (.int .i64 1)) fun t32_10 =>
 (t0_6 : Value) = a0 ∧ ((t6_7 : Value) = t6_1 ∧ (n_3 t32_10 w))) fun j_9 =>
 RunA Try.prog (bin .geq 5 (.tmp 13) (.const (.int .u8 97)) t12_5 (.int .u8 97)) fun t14_11 =>
 IfB t14_11 (
 RunA Try.prog (bin .leq 5 (.tmp 16) (.const (.int .u8 122)) t12_5 (.int .u8 122)) fun t17_12 =>
 IfB t17_12 (
 RunA Try.prog (Op.unary .not (.bool true)) fun t31_13 =>
 IfB t31_13 (
 R (.bool false) w) (
 j_9 a0 t6_1 t7_2 w)) (
 RunA Try.prog (bin .geq 5 (.tmp 20) (.const (.int .u8 48)) t12_5 (.int .u8 48)) fun t21_14 =>
 IfB t21_14 (
 RunA Try.prog (bin .leq 5 (.tmp 23) (.const (.int .u8 57)) t12_5 (.int .u8 57)) fun t24_15 =>
 IfB t24_15 (
 RunA Try.prog (Op.unary .not (.bool true)) fun t31_16 =>
 IfB t31_16 (
 R (.bool false) w) (
 j_9 a0 t6_1 t7_2 w)) (
 RunW Try.prog (bin .eql 5 (.tmp 28) (.const (.int .u8 45)) t12_5 (.int .u8 45)) w fun t29_17 =>
 RunA Try.prog (Op.unary .not t29_17) fun t31_18 =>
 IfB t31_18 (
 R (.bool false) w) (
 j_9 a0 t6_1 t7_2 w))) (
 RunW Try.prog (bin .eql 5 (.tmp 28) (.const (.int .u8 45)) t12_5 (.int .u8 45)) w fun t29_19 =>
 RunA Try.prog (Op.unary .not t29_19) fun t31_20 =>
 IfB t31_20 (
 R (.bool false) w) (
 j_9 a0 t6_1 t7_2 w)))) (
 RunA Try.prog (bin .geq 5 (.tmp 20) (.const (.int .u8 48)) t12_5 (.int .u8 48)) fun t21_21 =>
 IfB t21_21 (
 RunA Try.prog (bin .leq 5 (.tmp 23) (.const (.int .u8 57)) t12_5 (.int .u8 57)) fun t24_22 =>
 IfB t24_22 (
 RunA Try.prog (Op.unary .not (.bool true)) fun t31_23 =>
 IfB t31_23 (
 R (.bool false) w) (
 j_9 a0 t6_1 t7_2 w)) (
 RunW Try.prog (bin .eql 5 (.tmp 28) (.const (.int .u8 45)) t12_5 (.int .u8 45)) w fun t29_24 =>
 RunA Try.prog (Op.unary .not t29_24) fun t31_25 =>
 IfB t31_25 (
 R (.bool false) w) (
 j_9 a0 t6_1 t7_2 w))) (
 RunW Try.prog (bin .eql 5 (.tmp 28) (.const (.int .u8 45)) t12_5 (.int .u8 45)) w fun t29_26 =>
 RunA Try.prog (Op.unary .not t29_26) fun t31_27 =>
 IfB t31_27 (
 R (.bool false) w) (
 j_9 a0 t6_1 t7_2 w)))) (
 RunW Try.prog (bin .neq 9 (.tmp 33) (.const (.string ⟨#[]⟩)) a0 (.string ⟨#[]⟩)) w fun t34_28 =>
 IfB t34_28 (
 RunW Try.prog (Builtin.len_ #[9] 3 #[a0]) w fun t37_29 =>
 RunA Try.prog (bin .leq 3 (.tmp 37) (.const (.int .i64 20)) t37_29 (.int .i64 20)) fun t38_30 =>
 R t38_30 w) (
 R (.bool false) w))) [(.int .i64 0)] w
theorem sh39_calls {a0 : Value} {w : World} {R : Value → World → Prop} (h : sh39 a0 w R) : CallF Try.prog 39 #[a0] w R :=
  calls_of_denF (mk := false) (args := [a0]) (an := (.seq (.ops [0]) (.seq (.seq (.ops [0, 6, 7]) (.blk (.loop [0, 6] [7] (.seq (.ops [0, 6, 7, 8]) (.seq (.cond .leaf .leaf) (.seq (.blk (.seq (.ops [0, 3, 6, 7]) (.seq (.ops [0, 4, 6, 7]) (.join [0, 6, 7] (.seq (.ops [0, 6, 7, 31]) (.cond (.seq (.ops [2]) .leaf) .leaf)))))) (.ops [0, 6, 7]))))))) (.seq (.ops [2]) .leaf)))) (c := Try.f39.body.getD .skip) hent Try.func39 rfl (Nat.le_of_ble_eq_true (by kernel_rfl))
    (Eq.mp (show sh39 a0 w R = denF Try.prog ent false Try.f39 (.seq (.ops [0]) (.seq (.seq (.ops [0, 6, 7]) (.blk (.loop [0, 6] [7] (.seq (.ops [0, 6, 7, 8]) (.seq (.cond .leaf .leaf) (.seq (.blk (.seq (.ops [0, 3, 6, 7]) (.seq (.ops [0, 4, 6, 7]) (.join [0, 6, 7] (.seq (.ops [0, 6, 7, 31]) (.cond (.seq (.ops [2]) .leaf) .leaf)))))) (.ops [0, 6, 7]))))))) (.seq (.ops [2]) .leaf))) (Try.f39.body.getD .skip) [a0] w R by kernel_rfl) h)

/-! ### 40: handbill/hblref20.num -/
def sh40 (a0 : Value) (w : World) (R : Value → World → Prop) : Prop :=
 CallF Try.prog 52 #[a0] w fun t7_1 w =>
 RunA Try.prog (Instr.extract t7_1 0) fun t8_2 =>
 RunA Try.prog (Instr.extract t7_1 1) fun t9_3 =>
 R t8_2 w
theorem sh40_calls {a0 : Value} {w : World} {R : Value → World → Prop} (h : sh40 a0 w R) : CallF Try.prog 40 #[a0] w R :=
  calls_of_denF (mk := false) (args := [a0]) (an := (.seq (.ops [0]) (.seq (.ops [3]) (.seq (.ops [2]) .leaf)))) (c := Try.f40.body.getD .skip) hent Try.func40 rfl (Nat.le_of_ble_eq_true (by kernel_rfl))
    (Eq.mp (show sh40 a0 w R = denF Try.prog ent false Try.f40 (.seq (.ops [0]) (.seq (.ops [3]) (.seq (.ops [2]) .leaf))) (Try.f40.body.getD .skip) [a0] w R by kernel_rfl) h)

/-! ### 41: handbill/hblref1.Hex -/
def sh41 (a0 : Value) (w : World) (R : Value → World → Prop) : Prop :=
 lp 2 (fun n_3 t4_1 t5_2 w =>
 RunW Try.prog (Builtin.len_ #[22] 3 #[a0]) w fun t8_4 =>
 RunA Try.prog (bin .lss 3 (.tmp 6) (.tmp 8) t5_2 t8_4) fun t9_5 =>
 IfB t9_5 (
 drw (fun S_6 w =>
 RunA Try.prog (Instr.indexAt 22 a0 t5_2) fun t16_7 =>
 RunS Try.prog S_6 (Instr.loadAt 5 t16_7) fun t17_8 =>
 RunA Try.prog (bin .shr 5 (.tmp 17) (.const (.int .u64 4)) t17_8 (.int .u64 4)) fun t18_9 =>
 RunA Try.prog (Instr.index 9 (.string ⟨#[48, 49, 50, 51, 52, 53, 54, 55, 56, 57, 97, 98, 99, 100, 101, 102]⟩) t18_9) fun t19_10 =>
 RunA Try.prog (Instr.indexAt 22 a0 t5_2) fun t23_11 =>
 RunS Try.prog S_6 (Instr.loadAt 5 t23_11) fun t24_12 =>
 RunA Try.prog (bin .and 5 (.tmp 24) (.const (.int .u8 15)) t24_12 (.int .u8 15)) fun t25_13 =>
 RunA Try.prog (Instr.index 9 (.string ⟨#[48, 49, 50, 51, 52, 53, 54, 55, 56, 57, 97, 98, 99, 100, 101, 102]⟩) t25_13) fun t26_14 =>
 RunV Try.prog (Instr.buildSlice 22 2 #[(0, t19_10), (1, t26_14)]) w fun t27_15 w =>
 RunV Try.prog (Builtin.append_ #[22, 22] 22 #[t4_1, t27_15]) w fun t28_16 w =>
 RunA Try.prog (bin .add 3 (.tmp 10) (.const (.int .i64 1)) t5_2 (.int .i64 1)) fun t11_17 =>
 (a0 : Value) = a0 ∧ (((.string ⟨#[48, 49, 50, 51, 52, 53, 54, 55, 56, 57, 97, 98, 99, 100, 101, 102]⟩) : Value) = (.string ⟨#[48, 49, 50, 51, 52, 53, 54, 55, 56, 57, 97, 98, 99, 100, 101, 102]⟩) ∧ (n_3 t28_16 t11_17 w))) w) (
 RunV Try.prog (convert 22 9 t4_1) w fun t30_18 w =>
 R t30_18 w)) [(.slice none 0 0), (.int .i64 0)] w
theorem sh41_calls {a0 : Value} {w : World} {R : Value → World → Prop} (h : sh41 a0 w R) : CallF Try.prog 41 #[a0] w R :=
  calls_of_denF (mk := false) (args := [a0]) (an := (.seq (.ops [0]) (.seq (.ops [0, 3]) (.seq (.ops [0, 3, 4]) (.seq (.seq (.ops [0, 3, 4, 5]) (.blk (.loop [0, 3] [4, 5] (.seq (.seq (.ops [0, 3, 4, 5, 9]) (.cond .leaf .leaf)) (.seq (.blk (.draw (.q 0 (.q 1 (.q 2 (.q 3 (.q 4 (.q 5 (.q 6 (.q 7 (.q 8 (.q 9 (.q 10 (.q 11 (.q 12 (.q 13 (.q 14 (.one 15 (.one 16 (.q 17 .fin)))))))))))))))))) [0, 3, 4, 5])) (.ops [0, 3, 4, 5])))))) (.seq (.ops [2]) .leaf)))))) (c := Try.f41.body.getD .skip) hent Try.func41 rfl (Nat.le_of_ble_eq_true (by kernel_rfl))
    (Eq.mp (show sh41 a0 w R = denF Try.prog ent false Try.f41 (.seq (.ops [0]) (.seq (.ops [0, 3]) (.seq (.ops [0, 3, 4]) (.seq (.seq (.ops [0, 3, 4, 5]) (.blk (.loop [0, 3] [4, 5] (.seq (.seq (.ops [0, 3, 4, 5, 9]) (.cond .leaf .leaf)) (.seq (.blk (.draw (.q 0 (.q 1 (.q 2 (.q 3 (.q 4 (.q 5 (.q 6 (.q 7 (.q 8 (.q 9 (.q 10 (.q 11 (.q 12 (.q 13 (.q 14 (.one 15 (.one 16 (.q 17 .fin)))))))))))))))))) [0, 3, 4, 5])) (.ops [0, 3, 4, 5])))))) (.seq (.ops [2]) .leaf))))) (Try.f41.body.getD .skip) [a0] w R by kernel_rfl) h)

/-! ### 42: handbill/num.Unhex -/
def sh42 (a0 : Value) (w : World) (R : Value → World → Prop) : Prop :=
 RunW Try.prog (Builtin.len_ #[9] 3 #[a0]) w fun t9_1 =>
 RunA Try.prog (bin .rem 3 (.tmp 9) (.const (.int .i64 2)) t9_1 (.int .i64 2)) fun t10_2 =>
 RunW Try.prog (bin .neq 3 (.tmp 10) (.const (.int .i64 0)) t10_2 (.int .i64 0)) w fun t11_3 =>
 IfB t11_3 (
 R (.tuple #[(.slice none 0 0), (.bool false)]) w) (
 lp 2 (fun n_6 t4_4 t5_5 w =>
 RunW Try.prog (Builtin.len_ #[9] 3 #[a0]) w fun t14_7 =>
 RunA Try.prog (bin .lss 3 (.tmp 12) (.tmp 14) t5_5 t14_7) fun t15_8 =>
 IfB t15_8 (
 drw (fun S_9 w =>
 RunA Try.prog (Instr.index 9 a0 t5_5) fun t20_10 =>
 RunA Try.prog (bin .add 3 (.tmp 23) (.const (.int .i64 1)) t5_5 (.int .i64 1)) fun t24_11 =>
 RunA Try.prog (Instr.index 9 a0 t24_11) fun t25_12 =>
 CallF Try.prog 53 #[(.string ⟨#[48, 49, 50, 51, 52, 53, 54, 55, 56, 57, 97, 98, 99, 100, 101, 102]⟩), t20_10] w fun t21_13 w =>
 CallF Try.prog 53 #[(.string ⟨#[48, 49, 50, 51, 52, 53, 54, 55, 56, 57, 97, 98, 99, 100, 101, 102]⟩), t25_12] w fun t26_14 w =>
 RunA Try.prog (bin .lss 3 (.tmp 27) (.const (.int .i64 0)) t21_13 (.int .i64 0)) fun t28_15 =>
 IfB t28_15 (
 R (.tuple #[(.slice none 0 0), (.bool false)]) w) (
 RunA Try.prog (bin .lss 3 (.tmp 30) (.const (.int .i64 0)) t26_14 (.int .i64 0)) fun t31_16 =>
 IfB t31_16 (
 R (.tuple #[(.slice none 0 0), (.bool false)]) w) (
 RunA Try.prog (bin .shl 3 (.tmp 34) (.const (.int .u64 4)) t21_13 (.int .u64 4)) fun t35_17 =>
 RunA Try.prog (bin .or 3 (.tmp 35) (.tmp 36) t35_17 t26_14) fun t37_18 =>
 RunV Try.prog (convert 3 5 t37_18) w fun t38_19 w =>
 RunV Try.prog (Instr.buildSlice 22 1 #[(0, t38_19)]) w fun t39_20 w =>
 RunV Try.prog (Builtin.append_ #[22, 22] 22 #[t4_4, t39_20]) w fun t40_21 w =>
 RunA Try.prog (bin .add 3 (.tmp 16) (.const (.int .i64 2)) t5_5 (.int .i64 2)) fun t17_22 =>
 (a0 : Value) = a0 ∧ (n_6 t40_21 t17_22 w)))) w) (
 R (.tuple #[t4_4, (.bool true)]) w)) [(.slice none 0 0), (.int .i64 0)] w)
theorem sh42_calls {a0 : Value} {w : World} {R : Value → World → Prop} (h : sh42 a0 w R) : CallF Try.prog 42 #[a0] w R :=
  calls_of_denF (mk := false) (args := [a0]) (an := (.seq (.ops [0]) (.seq (.seq (.ops [0, 11]) (.cond (.seq (.ops [2, 3]) .leaf) .leaf)) (.seq (.ops [0, 4]) (.seq (.seq (.ops [0, 4, 5]) (.blk (.loop [0] [4, 5] (.seq (.seq (.ops [0, 4, 5, 15]) (.cond .leaf .leaf)) (.seq (.blk (.seq (.draw (.q 0 (.q 1 (.q 2 (.q 4 (.q 5 (.q 6 (.q 7 (.one 3 (.one 8 (.q 9 (.q 10 .fin))))))))))) [0, 4, 5, 6, 7]) (.seq (.seq (.ops [0, 4, 5, 6, 7, 32]) (.cond (.seq (.ops [2, 3]) .leaf) .leaf)) (.ops [0, 4, 5])))) (.ops [0, 4, 5])))))) (.seq (.ops [2, 3]) .leaf)))))) (c := Try.f42.body.getD .skip) hent Try.func42 rfl (Nat.le_of_ble_eq_true (by kernel_rfl))
    (Eq.mp (show sh42 a0 w R = denF Try.prog ent false Try.f42 (.seq (.ops [0]) (.seq (.seq (.ops [0, 11]) (.cond (.seq (.ops [2, 3]) .leaf) .leaf)) (.seq (.ops [0, 4]) (.seq (.seq (.ops [0, 4, 5]) (.blk (.loop [0] [4, 5] (.seq (.seq (.ops [0, 4, 5, 15]) (.cond .leaf .leaf)) (.seq (.blk (.seq (.draw (.q 0 (.q 1 (.q 2 (.q 4 (.q 5 (.q 6 (.q 7 (.one 3 (.one 8 (.q 9 (.q 10 .fin))))))))))) [0, 4, 5, 6, 7]) (.seq (.seq (.ops [0, 4, 5, 6, 7, 32]) (.cond (.seq (.ops [2, 3]) .leaf) .leaf)) (.ops [0, 4, 5])))) (.ops [0, 4, 5])))))) (.seq (.ops [2, 3]) .leaf))))) (Try.f42.body.getD .skip) [a0] w R by kernel_rfl) h)

/-! ### 43: (*handbill/token.reader).number -/
def sh43 (a0 : Value) (w : World) (R : Value → World → Prop) : Prop :=
 RunA Try.prog (nilV a0) fun t7_1 =>
 RunA Try.prog (Instr.fieldAt 73 t7_1 2) fun t8_2 =>
 RunW Try.prog (Instr.loadAt 4 t8_2) w fun t9_3 =>
 IfB t9_3 (
 R (.int .i64 0) w) (
 drw (fun S_4 w =>
 RunA Try.prog (nilV a0) fun t12_5 =>
 RunA Try.prog (Instr.fieldAt 73 t12_5 0) fun t13_6 =>
 RunS Try.prog S_4 (Instr.loadAt 22 t13_6) fun t14_7 =>
 RunA Try.prog (nilV a0) fun t16_8 =>
 RunA Try.prog (Instr.fieldAt 73 t16_8 1) fun t17_9 =>
 RunS Try.prog S_4 (Instr.loadAt 3 t17_9) fun t18_10 =>
 CallF Try.prog 54 #[t14_7, t18_10] w fun t19_11 w =>
 RunA Try.prog (Instr.extract t19_11 0) fun t20_12 =>
 RunA Try.prog (Instr.extract t19_11 1) fun t21_13 =>
 RunA Try.prog (Instr.extract t19_11 2) fun t22_14 =>
 RunW Try.prog (bin .neq 25 (.tmp 26) (.const (.int .i64 0)) t22_14 (.int .i64 0)) w fun t27_15 =>
 RunA Try.prog (nilV a0) fun t28_16 =>
 RunA Try.prog (Instr.fieldAt 73 t28_16 1) fun t29_17 =>
 RunU Try.prog (Instr.storeAt 3 t29_17 t21_13) w fun w =>
 RunA Try.prog (nilV a0) fun t30_18 =>
 RunA Try.prog (Instr.fieldAt 73 t30_18 2) fun t31_19 =>
 RunU Try.prog (Instr.storeAt 4 t31_19 t27_15) w fun w =>
 R t20_12 w) w)
theorem sh43_calls {a0 : Value} {w : World} {R : Value → World → Prop} (h : sh43 a0 w R) : CallF Try.prog 43 #[a0] w R :=
  calls_of_denF (mk := false) (args := [a0]) (an := (.seq (.ops [0]) (.seq (.seq (.ops [0, 9]) (.cond (.seq (.ops [2]) .leaf) .leaf)) (.seq (.draw (.q 0 (.q 1 (.q 2 (.q 3 (.q 4 (.q 5 (.q 6 (.q 7 (.one 8 (.q 9 (.q 10 (.q 11 (.q 12 (.q 13 (.q 14 (.q 15 .fin)))))))))))))))) [0, 3, 4, 5]) (.seq (.ops [3]) (.seq (.ops [2]) .leaf)))))) (c := Try.f43.body.getD .skip) hent Try.func43 rfl (Nat.le_of_ble_eq_true (by kernel_rfl))
    (Eq.mp (show sh43 a0 w R = denF Try.prog ent false Try.f43 (.seq (.ops [0]) (.seq (.seq (.ops [0, 9]) (.cond (.seq (.ops [2]) .leaf) .leaf)) (.seq (.draw (.q 0 (.q 1 (.q 2 (.q 3 (.q 4 (.q 5 (.q 6 (.q 7 (.one 8 (.q 9 (.q 10 (.q 11 (.q 12 (.q 13 (.q 14 (.q 15 .fin)))))))))))))))) [0, 3, 4, 5]) (.seq (.ops [3]) (.seq (.ops [2]) .leaf))))) (Try.f43.body.getD .skip) [a0] w R by kernel_rfl) h)

/-! ### 44: (*handbill/token.reader).text -/
def sh44 (a0 : Value) (w : World) (R : Value → World → Prop) : Prop :=
 CallF Try.prog 43 #[a0] w fun t5_1 w =>
 drw (fun S_2 w =>
 RunA Try.prog (nilV a0) fun t7_3 =>
 RunA Try.prog (Instr.fieldAt 73 t7_3 2) fun t8_4 =>
 RunS Try.prog S_2 (Instr.loadAt 4 t8_4) fun t9_5 =>
 IfB t9_5 (
 RunA Try.prog (nilV a0) fun t25_6 =>
 RunA Try.prog (Instr.fieldAt 73 t25_6 2) fun t26_7 =>
 RunU Try.prog (Instr.storeAt 4 t26_7 (.bool true)) w fun w =>
 R (.string ⟨#[]⟩) w) (
 RunA Try.prog (nilV a0) fun t13_8 =>
 RunA Try.prog (Instr.fieldAt 73 t13_8 0) fun t14_9 =>
 RunS Try.prog S_2 (Instr.loadAt 22 t14_9) fun t15_10 =>
 RunS Try.prog S_2 (Builtin.len_ #[22] 3 #[t15_10]) fun t16_11 =>
 RunA Try.prog (nilV a0) fun t18_12 =>
 RunA Try.prog (Instr.fieldAt 73 t18_12 1) fun t19_13 =>
 RunS Try.prog S_2 (Instr.loadAt 3 t19_13) fun t20_14 =>
 RunA Try.prog (bin .sub 3 (.tmp 16) (.tmp 20) t16_11 t20_14) fun t21_15 =>
 RunA Try.prog (bin .gtr 3 (.tmp 11) (.tmp 21) t5_1 t21_15) fun t22_16 =>
 IfB t22_16 (
 RunA Try.prog (nilV a0) fun t25_17 =>
 RunA Try.prog (Instr.fieldAt 73 t25_17 2) fun t26_18 =>
 RunU Try.prog (Instr.storeAt 4 t26_18 (.bool true)) w fun w =>
 R (.string ⟨#[]⟩) w) (
 RunA Try.prog (nilV a0) fun t28_19 =>
 RunA Try.prog (Instr.fieldAt 73 t28_19 1) fun t29_20 =>
 RunW Try.prog (Instr.loadAt 3 t29_20) w fun t30_21 =>
 RunA Try.prog (bin .add 3 (.tmp 30) (.tmp 31) t30_21 t5_1) fun t32_22 =>
 RunA Try.prog (nilV a0) fun t33_23 =>
 RunA Try.prog (Instr.fieldAt 73 t33_23 1) fun t34_24 =>
 RunU Try.prog (Instr.storeAt 3 t34_24 t32_22) w fun w =>
 drw (fun S_25 w =>
 RunA Try.prog (nilV a0) fun t36_26 =>
 RunA Try.prog (Instr.fieldAt 73 t36_26 0) fun t37_27 =>
 RunS Try.prog S_25 (Instr.loadAt 22 t37_27) fun t38_28 =>
 RunA Try.prog (nilV a0) fun t40_29 =>
 RunA Try.prog (Instr.fieldAt 73 t40_29 1) fun t41_30 =>
 RunS Try.prog S_25 (Instr.loadAt 3 t41_30) fun t42_31 =>
 RunA Try.prog (bin .sub 3 (.tmp 42) (.tmp 43) t42_31 t5_1) fun t44_32 =>
 RunA Try.prog (nilV a0) fun t46_33 =>
 RunA Try.prog (Instr.fieldAt 73 t46_33 1) fun t47_34 =>
 RunS Try.prog S_25 (Instr.loadAt 3 t47_34) fun t48_35 =>
 RunA Try.prog (Instr.sliceAt 22 t38_28 (some t44_32) (some t48_35) none) fun t49_36 =>
 RunS Try.prog S_25 (convert 22 9 t49_36) fun t50_37 =>
 R t50_37 w) w))) w
theorem sh44_calls {a0 : Value} {w : World} {R : Value → World → Prop} (h : sh44 a0 w R) : CallF Try.prog 44 #[a0] w R :=
  calls_of_denF (mk := false) (args := [a0]) (an := (.seq (.ops [0]) (.seq (.ops [0, 3]) (.seq (.seq (.draw (.q 0 (.q 1 (.q 2 (.q 3 (.q 4 (.sp 5 (.q 5 (.q 6 (.q 7 (.q 8 (.q 9 (.q 10 (.q 11 (.q 12 (.q 13 (.q 14 (.q 15 (.q 16 (.q 17 .fin))))))))))))) (.q 5 (.q 6 (.q 7 (.q 8 (.q 9 (.q 10 (.q 11 (.q 12 (.q 13 (.q 14 (.q 15 (.q 16 (.q 17 .fin))))))))))))))))))) [0, 3, 23]) (.cond (.seq (.ops []) (.seq (.ops [2]) .leaf)) .leaf)) (.seq (.ops [0, 3]) (.seq (.draw (.q 0 (.q 1 (.q 2 (.q 3 (.q 4 (.q 5 (.q 6 (.q 7 (.q 8 (.q 9 (.q 10 (.q 11 (.q 12 (.q 13 (.q 14 (.q 15 (.q 16 .fin))))))))))))))))) [2]) .leaf)))))) (c := Try.f44.body.getD .skip) hent Try.func44 rfl (Nat.le_of_ble_eq_true (by kernel_rfl))
    (Eq.mp (show sh44 a0 w R = denF Try.prog ent false Try.f44 (.seq (.ops [0]) (.seq (.ops [0, 3]) (.seq (.seq (.draw (.q 0 (.q 1 (.q 2 (.q 3 (.q 4 (.sp 5 (.q 5 (.q 6 (.q 7 (.q 8 (.q 9 (.q 10 (.q 11 (.q 12 (.q 13 (.q 14 (.q 15 (.q 16 (.q 17 .fin))))))))))))) (.q 5 (.q 6 (.q 7 (.q 8 (.q 9 (.q 10 (.q 11 (.q 12 (.q 13 (.q 14 (.q 15 (.q 16 (.q 17 .fin))))))))))))))))))) [0, 3, 23]) (.cond (.seq (.ops []) (.seq (.ops [2]) .leaf)) .leaf)) (.seq (.ops [0, 3]) (.seq (.draw (.q 0 (.q 1 (.q 2 (.q 3 (.q 4 (.q 5 (.q 6 (.q 7 (.q 8 (.q 9 (.q 10 (.q 11 (.q 12 (.q 13 (.q 14 (.q 15 (.q 16 .fin))))))))))))))))) [2]) .leaf))))) (Try.f44.body.getD .skip) [a0] w R by kernel_rfl) h)

/-! ### 45: handbill/hblref1.Unhex -/
def sh45 (a0 : Value) (w : World) (R : Value → World → Prop) : Prop :=
 lp 2 (fun n_3 t4_1 t5_2 w =>
 RunA Try.prog (bin .add 3 (.tmp 8) (.const (.int .i64 1)) t5_2 (.int .i64 1)) fun t9_4 =>
 RunW Try.prog (Builtin.len_ #[9] 3 #[a0]) w fun t11_5 =>
 RunA Try.prog (bin .lss 3 (.tmp 9) (.tmp 11) t9_4 t11_5) fun t12_6 =>
 IfB t12_6 (
 drw (fun S_7 w =>
 RunA Try.prog (Instr.index 9 a0 t5_2) fun t17_8 =>
 RunA Try.prog (bin .add 3 (.tmp 20) (.const (.int .i64 1)) t5_2 (.int .i64 1)) fun t21_9 =>
 RunA Try.prog (Instr.index 9 a0 t21_9) fun t22_10 =>
 CallF Try.prog 55 #[t17_8] w fun t18_11 w =>
 CallF Try.prog 55 #[t22_10] w fun t23_12 w =>
 RunA Try.prog (bin .lss 3 (.tmp 24) (.const (.int .i64 0)) t18_11 (.int .i64 0)) fun t25_13 =>
 IfB t25_13 (
 R (.tuple #[(.slice none 0 0), (.bool false)]) w) (
 RunA Try.prog (bin .lss 3 (.tmp 27) (.const (.int .i64 0)) t23_12 (.int .i64 0)) fun t28_14 =>
 IfB t28_14 (
 R (.tuple #[(.slice none 0 0), (.bool false)]) w) (
 RunA Try.prog (bin .shl 3 (.tmp 31) (.const (.int .u64 4)) t18_11 (.int .u64 4)) fun t32_15 =>
 RunA Try.prog (bin .or 3 (.tmp 32) (.tmp 33) t32_15 t23_12) fun t34_16 =>
 RunV Try.prog (convert 3 5 t34_16) w fun t35_17 w =>
 RunV Try.prog (Instr.buildSlice 22 1 #[(0, t35_17)]) w fun t36_18 w =>
 RunV Try.prog (Builtin.append_ #[22, 22] 22 #[t4_1, t36_18]) w fun t37_19 w =>
 RunA Try.prog (bin .add 3 (.tmp 13) (.const (.int .i64 2)) t5_2 (.int .i64 2)) fun t14_20 =>
 (a0 : Value) = a0 ∧ (n_3 t37_19 t14_20 w)))) w) (
 CallF Try.prog 41 #[t4_1] w fun t39_21 w =>
 RunW Try.prog (bin .neq 9 (.tmp 39) (.tmp 40) t39_21 a0) w fun t41_22 =>
 IfB t41_22 (
 R (.tuple #[(.slice none 0 0), (.bool false)]) w) (
 R (.tuple #[t4_1, (.bool true)]) w))) [(.slice none 0 0), (.int .i64 0)] w
theorem sh45_calls {a0 : Value} {w : World} {R : Value → World → Prop} (h : sh45 a0 w R) : CallF Try.prog 45 #[a0] w R :=
  calls_of_denF (mk := false) (args := [a0]) (an := (.seq (.ops [0]) (.seq (.ops [0, 4]) (.seq (.seq (.ops [0, 4, 5]) (.blk (.loop [0] [4, 5] (.seq (.seq (.ops [0, 4, 5, 12]) (.cond .leaf .leaf)) (.seq (.blk (.seq (.draw (.q 0 (.q 1 (.q 2 (.q 4 (.q 5 (.q 6 (.q 7 (.one 3 (.one 8 (.q 9 (.q 10 .fin))))))))))) [0, 4, 5, 6, 7]) (.seq (.seq (.ops [0, 4, 5, 6, 7, 29]) (.cond (.seq (.ops [2, 3]) .leaf) .leaf)) (.ops [0, 4, 5])))) (.ops [0, 4, 5])))))) (.seq (.seq (.ops [4, 41]) (.cond (.seq (.ops [2, 3]) .leaf) .leaf)) (.seq (.ops [2, 3]) .leaf)))))) (c := Try.f45.body.getD .skip) hent Try.func45 rfl (Nat.le_of_ble_eq_true (by kernel_rfl))
    (Eq.mp (show sh45 a0 w R = denF Try.prog ent false Try.f45 (.seq (.ops [0]) (.seq (.ops [0, 4]) (.seq (.seq (.ops [0, 4, 5]) (.blk (.loop [0] [4, 5] (.seq (.seq (.ops [0, 4, 5, 12]) (.cond .leaf .leaf)) (.seq (.blk (.seq (.draw (.q 0 (.q 1 (.q 2 (.q 4 (.q 5 (.q 6 (.q 7 (.one 3 (.one 8 (.q 9 (.q 10 .fin))))))))))) [0, 4, 5, 6, 7]) (.seq (.seq (.ops [0, 4, 5, 6, 7, 29]) (.cond (.seq (.ops [2, 3]) .leaf) .leaf)) (.ops [0, 4, 5])))) (.ops [0, 4, 5])))))) (.seq (.seq (.ops [4, 41]) (.cond (.seq (.ops [2, 3]) .leaf) .leaf)) (.seq (.ops [2, 3]) .leaf))))) (Try.f45.body.getD .skip) [a0] w R by kernel_rfl) h)

/-! ### 46: handbill/hblref1.ReadVar -/
def sh46 (a0 a1 : Value) (w : World) (R : Value → World → Prop) : Prop :=
 RunA Try.prog (bin .lss 3 (.tmp 10) (.const (.int .i64 0)) a1 (.int .i64 0)) fun t11_1 =>
 IfB t11_1 (
 R (.tuple #[(.int .i64 0), (.int .i64 0), (.int .i64 1)]) w) (
 RunW Try.prog (Builtin.len_ #[22] 3 #[a0]) w fun t15_2 =>
 RunA Try.prog (bin .gtr 3 (.tmp 13) (.tmp 15) a1 t15_2) fun t16_3 =>
 IfB t16_3 (
 R (.tuple #[(.int .i64 0), (.int .i64 0), (.int .i64 1)]) w) (
 lp 2 (fun n_6 t7_4 t8_5 w =>
 RunA Try.prog (bin .lss 3 (.tmp 18) (.const (.int .i64 8)) t8_5 (.int .i64 8)) fun t19_7 =>
 IfB t19_7 (
 RunA Try.prog (bin .add 3 (.tmp 22) (.tmp 23) a1 t8_5) fun t24_8 =>
 RunW Try.prog (Builtin.len_ #[22] 3 #[a0]) w fun t26_9 =>
 RunA Try.prog (bin .geq 3 (.tmp 24) (.tmp 26) t24_8 t26_9) fun t27_10 =>
 IfB t27_10 (
 R (.tuple #[(.int .i64 0), (.int .i64 0), (.int .i64 2)]) w) (
 RunA Try.prog (bin .add 3 (.tmp 29) (.tmp 30) a1 t8_5) fun t31_11 =>
 RunA Try.prog (Instr.indexAt 22 a0 t31_11) fun t32_12 =>
 RunW Try.prog (Instr.loadAt 5 t32_12) w fun t33_13 =>
 RunV Try.prog (convert 5 3 t33_13) w fun t34_14 w =>
 RunA Try.prog (bin .and 3 (.tmp 36) (.const (.int .i64 127)) t34_14 (.int .i64 127)) fun t37_15 =>
 RunA Try.prog (bin .mul 3 (.const (.int .i64 7)) (.tmp 38) (.int .i64 7) t8_5) fun t39_16 =>
 RunV Try.prog (convert 3 78 t39_16) w fun t40_17 w =>
 RunA Try.prog (bin .shl 3 (.tmp 37) (.tmp 40) t37_15 t40_17) fun t41_18 =>
 RunA Try.prog (bin .or 3 (.tmp 35) (.tmp 41) t7_4 t41_18) fun t42_19 =>
 RunA Try.prog (bin .lss 3 (.tmp 43) (.const (.int .i64 128)) t34_14 (.int .i64 128)) fun t44_20 =>
 IfB t44_20 (
 jn 3 (fun t1_21 t7_22 t8_23 w =>
 RunA Try.prog (bin .add 3 (.tmp 52) (.tmp 53) t1_21 t8_23) fun t54_25 =>
 RunA Try.prog (bin .add 3 (.tmp 54) (.const (.int .i64 1)) t54_25 (.int .i64 1)) fun t55_26 =>
 R (.tuple #[t7_22, t55_26, (.int .i64 0)]) w) fun j_24 =>
 RunW Try.prog (bin .eql 3 (.tmp 45) (.const (.int .i64 0)) t34_14 (.int .i64 0)) w fun t46_27 =>
 IfB t46_27 (
 RunA Try.prog (bin .gtr 3 (.tmp 48) (.const (.int .i64 0)) t8_5 (.int .i64 0)) fun t49_28 =>
 IfB t49_28 (
 R (.tuple #[(.int .i64 0), (.int .i64 0), (.int .i64 4)]) w) (
 j_24 a1 t42_19 t8_5 w)) (
 j_24 a1 t42_19 t8_5 w)) (
 RunA Try.prog (bin .add 3 (.tmp 20) (.const (.int .i64 1)) t8_5 (.int .i64 1)) fun t21_29 =>
 (a0 : Value) = a0 ∧ ((a1 : Value) = a1 ∧ (n_6 t42_19 t21_29 w))))) (
 R (.tuple #[(.int .i64 0), (.int .i64 0), (.int .i64 4)]) w)) [(.int .i64 0), (.int .i64 0)] w))
theorem sh46_calls {a0 a1 : Value} {w : World} {R : Value → World → Prop} (h : sh46 a0 a1 w R) : CallF Try.prog 46 #[a0, a1] w R :=
  calls_of_denF (mk := false) (args := [a0, a1]) (an := (.seq (.ops [0, 1]) (.seq (.seq (.ops [0, 1, 17]) (.cond (.seq (.ops [4, 5, 6]) .leaf) .leaf)) (.seq (.ops [0, 1, 7]) (.seq (.seq (.ops [0, 1, 7, 8]) (.blk (.loop [0, 1] [7, 8] (.seq (.seq (.ops [0, 1, 7, 8, 19]) (.cond .leaf .leaf)) (.seq (.blk (.seq (.seq (.ops [0, 1, 7, 8, 27]) (.cond (.seq (.ops [4, 5, 6]) .leaf) .leaf)) (.seq (.ops [0, 1, 7, 8, 9]) (.seq (.ops [0, 1, 7, 8, 9]) (.seq (.ops [0, 1, 7, 8, 9, 44]) (.cond (.seq (.join [1, 7, 8] (.seq (.ops [1, 7, 8, 50]) (.cond (.seq (.ops [4, 5, 6]) .leaf) .leaf))) (.seq (.ops [4, 5, 6]) .leaf)) .leaf)))))) (.ops [0, 1, 7, 8])))))) (.seq (.ops [4, 5, 6]) .leaf)))))) (c := Try.f46.body.getD .skip) hent Try.func46 rfl (Nat.le_of_ble_eq_true (by kernel_rfl))
    (Eq.mp (show sh46 a0 a1 w R = denF Try.prog ent false Try.f46 (.seq (.ops [0, 1]) (.seq (.seq (.ops [0, 1, 17]) (.cond (.seq (.ops [4, 5, 6]) .leaf) .leaf)) (.seq (.ops [0, 1, 7]) (.seq (.seq (.ops [0, 1, 7, 8]) (.blk (.loop [0, 1] [7, 8] (.seq (.seq (.ops [0, 1, 7, 8, 19]) (.cond .leaf .leaf)) (.seq (.blk (.seq (.seq (.ops [0, 1, 7, 8, 27]) (.cond (.seq (.ops [4, 5, 6]) .leaf) .leaf)) (.seq (.ops [0, 1, 7, 8, 9]) (.seq (.ops [0, 1, 7, 8, 9]) (.seq (.ops [0, 1, 7, 8, 9, 44]) (.cond (.seq (.join [1, 7, 8] (.seq (.ops [1, 7, 8, 50]) (.cond (.seq (.ops [4, 5, 6]) .leaf) .leaf))) (.seq (.ops [4, 5, 6]) .leaf)) .leaf)))))) (.ops [0, 1, 7, 8])))))) (.seq (.ops [4, 5, 6]) .leaf))))) (Try.f46.body.getD .skip) [a0, a1] w R by kernel_rfl) h)

/-! ### 47: handbill/hblref14.Name -/
def sh47 (a0 : Value) (w : World) (R : Value → World → Prop) : Prop :=
 lp 1 (fun n_2 t3_1 w =>
 RunW Try.prog (Builtin.len_ #[9] 3 #[a0]) w fun t7_3 =>
 RunA Try.prog (bin .lss 3 (.tmp 5) (.tmp 7) t3_1 t7_3) fun t8_4 =>
 IfB t8_4 (
 RunA Try.prog (Instr.index 9 a0 t3_1) fun t13_5 =>
 jn 2 (fun t0_6 t3_7 w =>
 RunA Try.prog (bin .add 3 (.tmp 9) (.const (.int .i64 1)) t3_7 (.int .i64 1)) fun t10_9 =>
 (t0_6 : Value) = a0 ∧ (n_2 t10_9 w)) fun j_8 =>
 RunA Try.prog (bin .lss 5 (.tmp 14) (.const (.int .u8 97)) t13_5 (.int .u8 97)) fun t15_10 =>
 IfB t15_10 (
 RunA Try.prog (bin .lss 5 (.tmp 21) (.const (.int .u8 48)) t13_5 (.int .u8 48)) fun t22_11 =>
 IfB t22_11 (
 RunW Try.prog (bin .neq 5 (.tmp 29) (.const (.int .u8 45)) t13_5 (.int .u8 45)) w fun t30_12 =>
 IfB t30_12 (
 R (.bool false) w) (
 j_8 a0 t3_1 w)) (
 RunA Try.prog (bin .gtr 5 (.tmp 24) (.const (.int .u8 57)) t13_5 (.int .u8 57)) fun t25_13 =>
 IfB t25_13 (
 RunW Try.prog (bin .neq 5 (.tmp 29) (.const (.int .u8 45)) t13_5 (.int .u8 45)) w fun t30_14 =>
 IfB t30_14 (
 R (.bool false) w) (
 j_8 a0 t3_1 w)) (
 j_8 a0 t3_1 w))) (
 RunA Try.prog (bin .gtr 5 (.tmp 17) (.const (.int .u8 122)) t13_5 (.int .u8 122)) fun t18_15 =>
 IfB t18_15 (
 RunA Try.prog (bin .lss 5 (.tmp 21) (.const (.int .u8 48)) t13_5 (.int .u8 48)) fun t22_16 =>
 IfB t22_16 (
 RunW Try.prog (bin .neq 5 (.tmp 29) (.const (.int .u8 45)) t13_5 (.int .u8 45)) w fun t30_17 =>
 IfB t30_17 (
 R (.bool false) w) (
 j_8 a0 t3_1 w)) (
 RunA Try.prog (bin .gtr 5 (.tmp 24) (.const (.int .u8 57)) t13_5 (.int .u8 57)) fun t25_18 =>
 IfB t25_18 (
 RunW Try.prog (bin .neq 5 (.tmp 29) (.const (.int .u8 45)) t13_5 (.int .u8 45)) w fun t30_19 =>
 IfB t30_19 (
 R (.bool false) w) (
 j_8 a0 t3_1 w)) (
 j_8 a0 t3_1 w))) (
 j_8 a0 t3_1 w))) (
 RunW Try.prog (Builtin.len_ #[9] 3 #[a0]) w fun t33_20 =>
 RunA Try.prog (bin .geq 3 (.tmp 33) (.const (.int .i64 1)) t33_20 (.int .i64 1)) fun t34_21 =>
 IfB t34_21 (
 RunW Try.prog (Builtin.len_ #[9] 3 #[a0]) w fun t37_22 =>
 RunA Try.prog (bin .leq 3 (.tmp 37) (.const (.int .i64 20)) t37_22 (.int .i64 20)) fun t38_23 =>
 R t38_23 w) (
 R (.bool false) w))) [(.int .i64 0)] w
theorem sh47_calls {a0 : Value} {w : World} {R : Value → World → Prop} (h : sh47 a0 w R) : CallF Try.prog 47 #[a0] w R :=
  calls_of_denF (mk := false) (args := [a0]) (an := (.seq (.ops [0]) (.seq (.seq (.ops [0, 3]) (.blk (.loop [0] [3] (.seq (.seq (.ops [0, 3, 8]) (.cond .leaf .leaf)) (.seq (.blk (.seq (.ops [0, 3, 4]) (.join [0, 3] (.seq (.ops [0, 3, 31]) (.cond (.seq (.ops [2]) .leaf) .leaf))))) (.ops [0, 3])))))) (.seq (.ops [2]) .leaf)))) (c := Try.f47.body.getD .skip) hent Try.func47 rfl (Nat.le_of_ble_eq_true (by kernel_rfl))
    (Eq.mp (show sh47 a0 w R = denF Try.prog ent false Try.f47 (.seq (.ops [0]) (.seq (.seq (.ops [0, 3]) (.blk (.loop [0] [3] (.seq (.seq (.ops [0, 3, 8]) (.cond .leaf .leaf)) (.seq (.blk (.seq (.ops [0, 3, 4]) (.join [0, 3] (.seq (.ops [0, 3, 31]) (.cond (.seq (.ops [2]) .leaf) .leaf))))) (.ops [0, 3])))))) (.seq (.ops [2]) .leaf))) (Try.f47.body.getD .skip) [a0] w R by kernel_rfl) h)

/-! ### 48: handbill/num.Get -/
def sh48 (a0 a1 a2 : Value) (w : World) (R : Value → World → Prop) : Prop :=
 RunA Try.prog (bin .lss 3 (.tmp 12) (.const (.int .i64 1)) a2 (.int .i64 1)) fun t13_1 =>
 IfB t13_1 (
 R (.tuple #[(.int .i64 0), (.int .i64 1)]) w) (
 RunA Try.prog (bin .gtr 3 (.tmp 15) (.const (.int .i64 6)) a2 (.int .i64 6)) fun t16_2 =>
 IfB t16_2 (
 R (.tuple #[(.int .i64 0), (.int .i64 1)]) w) (
 RunA Try.prog (bin .lss 3 (.tmp 19) (.const (.int .i64 0)) a1 (.int .i64 0)) fun t20_3 =>
 IfB t20_3 (
 R (.tuple #[(.int .i64 0), (.int .i64 1)]) w) (
 RunW Try.prog (Builtin.len_ #[22] 3 #[a0]) w fun t25_4 =>
 RunA Try.prog (bin .gtr 3 (.tmp 23) (.tmp 25) a1 t25_4) fun t26_5 =>
 IfB t26_5 (
 R (.tuple #[(.int .i64 0), (.int .i64 1)]) w) (
 RunW Try.prog (Builtin.len_ #[22] 3 #[a0]) w fun t30_6 =>
 RunA Try.prog (bin .sub 3 (.tmp 30) (.tmp 31) t30_6 a1) fun t32_7 =>
 RunA Try.prog (bin .lss 3 (.tmp 32) (.tmp 33) t32_7 a2) fun t34_8 =>
 IfB t34_8 (
 R (.tuple #[(.int .i64 0), (.int .i64 2)]) w) (
 RunA Try.prog (bin .add 3 (.tmp 37) (.tmp 38) a1 a2) fun t39_9 =>
 RunA Try.prog (Instr.sliceAt 22 a0 (some a1) (some t39_9) none) fun t40_10 =>
 RunW Try.prog (Builtin.len_ #[22] 3 #[t40_10]) w fun t41_11 =>
 lp 2 (fun n_14 t8_12 t42_13 w =>
 RunA Try.prog (bin .lss 3 (.tmp 42) (.tmp 41) t42_13 t41_11) fun t43_15 =>
 IfB t43_15 (
 RunA Try.prog (Instr.indexAt 22 t40_10 t42_13) fun t44_16 =>
 RunW Try.prog (Instr.loadAt 5 t44_16) w fun t45_17 =>
 RunA Try.prog (bin .shl 3 (.tmp 46) (.const (.int .u64 8)) t8_12 (.int .u64 8)) fun t47_18 =>
 RunV Try.prog (convert 5 3 t45_17) w fun t49_19 w =>
 RunA Try.prog (bin .or 3 (.tmp 47) (.tmp 49) t47_18 t49_19) fun t50_20 =>
 RunA Try.prog (bin .add 3 (.tmp 42) (.const (.int .i64 1)) t42_13 (.int .i64 1)) fun t51_21 =>
 (t40_10 : Value) = t40_10 ∧ ((t41_11 : Value) = t41_11 ∧ (n_14 t50_20 t51_21 w))) (
 R (.tuple #[t8_12, (.int .i64 0)]) w)) [(.int .i64 0), (.int .i64 0)] w)))))
theorem sh48_calls {a0 a1 a2 : Value} {w : World} {R : Value → World → Prop} (h : sh48 a0 a1 a2 w R) : CallF Try.prog 48 #[a0, a1, a2] w R :=
  calls_of_denF (mk := false) (args := [a0, a1, a2]) (an := (.seq (.ops [0, 1, 2]) (.seq (.blk (.seq (.ops [0, 1, 2, 11]) (.cond (.seq (.ops [6, 7]) .leaf) (.seq (.ops [0, 1, 2, 28]) (.cond (.seq (.ops [6, 7]) .leaf) .leaf))))) (.seq (.ops [0, 1, 2, 8]) (.seq (.seq (.ops [8, 40, 41, 42]) (.blk (.loop [40, 41] [8, 42] (.seq (.ops [8, 40, 41, 42, 43]) (.seq (.cond .leaf .leaf) (.seq (.blk (.seq (.ops [8, 10, 40, 41, 42]) (.ops [8, 40, 41, 42]))) (.ops [8, 40, 41, 42]))))))) (.seq (.ops [6, 7]) .leaf)))))) (c := Try.f48.body.getD .skip) hent Try.func48 rfl (Nat.le_of_ble_eq_true (by kernel_rfl))
    (Eq.mp (show sh48 a0 a1 a2 w R = denF Try.prog ent false Try.f48 (.seq (.ops [0, 1, 2]) (.seq (.blk (.seq (.ops [0, 1, 2, 11]) (.cond (.seq (.ops [6, 7]) .leaf) (.seq (.ops [0, 1, 2, 28]) (.cond (.seq (.ops [6, 7]) .leaf) .leaf))))) (.seq (.ops [0, 1, 2, 8]) (.seq (.seq (.ops [8, 40, 41, 42]) (.blk (.loop [40, 41] [8, 42] (.seq (.ops [8, 40, 41, 42, 43]) (.seq (.cond .leaf .leaf) (.seq (.blk (.seq (.ops [8, 10, 40, 41, 42]) (.ops [8, 40, 41, 42]))) (.ops [8, 40, 41, 42]))))))) (.seq (.ops [6, 7]) .leaf))))) (Try.f48.body.getD .skip) [a0, a1, a2] w R by kernel_rfl) h)

/-! ### 49: handbill/num.Var -/
def sh49 (a0 : Value) (w : World) (R : Value → World → Prop) : Prop :=
 RunA Try.prog (bin .lss 3 (.tmp 5) (.const (.int .i64 0)) a0 (.int .i64 0)) fun t6_1 =>
 IfB t6_1 (
 R (.tuple #[(.slice none 0 0), (.int .i64 1)]) w) (
 RunA Try.prog (bin .shr 3 (.tmp 8) (.const (.int .u64 56)) a0 (.int .u64 56)) fun t9_2 =>
 RunA Try.prog (bin .gtr 3 (.tmp 9) (.const (.int .i64 0)) t9_2 (.int .i64 0)) fun t10_3 =>
 IfB t10_3 (
 R (.tuple #[(.slice none 0 0), (.int .i64 1)]) w) (
 lp 2 (fun n_6 t0_4 t4_5 w =>
 RunA Try.prog (bin .geq 3 (.tmp 12) (.const (.int .i64 128)) t0_4 (.int .i64 128)) fun t13_7 =>
 IfB t13_7 (
 RunV Try.prog (convert 3 5 t0_4) w fun t18_8 w =>
 RunA Try.prog (bin .or 5 (.tmp 18) (.const (.int .u8 128)) t18_8 (.int .u8 128)) fun t19_9 =>
 RunV Try.prog (Instr.buildSlice 22 1 #[(0, t19_9)]) w fun t20_10 w =>
 RunV Try.prog (Builtin.append_ #[22, 22] 22 #[t4_5, t20_10]) w fun t21_11 w =>
 RunA Try.prog (bin .shr 3 (.tmp 14) (.const (.int .u64 7)) t0_4 (.int .u64 7)) fun t15_12 =>
 n_6 t15_12 t21_11 w) (
 RunV Try.prog (convert 3 5 t0_4) w fun t24_13 w =>
 RunV Try.prog (Instr.buildSlice 22 1 #[(0, t24_13)]) w fun t25_14 w =>
 RunV Try.prog (Builtin.append_ #[22, 22] 22 #[t4_5, t25_14]) w fun t26_15 w =>
 R (.tuple #[t26_15, (.int .i64 0)]) w)) [a0, (.slice none 0 0)] w))
theorem sh49_calls {a0 : Value} {w : World} {R : Value → World → Prop} (h : sh49 a0 w R) : CallF Try.prog 49 #[a0] w R :=
  calls_of_denF (mk := false) (args := [a0]) (an := (.seq (.ops [0]) (.seq (.seq (.ops [0, 11]) (.cond (.seq (.ops [2, 3]) .leaf) .leaf)) (.seq (.ops [0, 4]) (.seq (.blk (.loop [] [0, 4] (.seq (.seq (.ops [0, 4, 13]) (.cond .leaf .leaf)) (.seq (.blk (.ops [0, 4])) (.ops [0, 4]))))) (.seq (.ops [2, 3]) .leaf)))))) (c := Try.f49.body.getD .skip) hent Try.func49 rfl (Nat.le_of_ble_eq_true (by kernel_rfl))
    (Eq.mp (show sh49 a0 w R = denF Try.prog ent false Try.f49 (.seq (.ops [0]) (.seq (.seq (.ops [0, 11]) (.cond (.seq (.ops [2, 3]) .leaf) .leaf)) (.seq (.ops [0, 4]) (.seq (.blk (.loop [] [0, 4] (.seq (.seq (.ops [0, 4, 13]) (.cond .leaf .leaf)) (.seq (.blk (.ops [0, 4])) (.ops [0, 4]))))) (.seq (.ops [2, 3]) .leaf))))) (Try.f49.body.getD .skip) [a0] w R by kernel_rfl) h)

/-! ### 50: (*strings.Builder).WriteByte -/
def sh50 (a0 a1 : Value) (w : World) (R : Value → World → Prop) : Prop :=
 CallF Try.prog 56 #[a0] w fun t6_1 w =>
 RunA Try.prog (nilV a0) fun t9_2 =>
 RunA Try.prog (Instr.fieldAt 82 t9_2 1) fun t10_3 =>
 RunW Try.prog (Instr.loadAt 22 t10_3) w fun t11_4 =>
 RunV Try.prog (Instr.buildSlice 22 1 #[(0, a1)]) w fun t13_5 w =>
 RunV Try.prog (Builtin.append_ #[22, 22] 22 #[t11_4, t13_5]) w fun t14_6 w =>
 RunA Try.prog (nilV a0) fun t15_7 =>
 RunA Try.prog (Instr.fieldAt 82 t15_7 1) fun t16_8 =>
 RunU Try.prog (Instr.storeAt 22 t16_8 t14_6) w fun w =>
 R (.nilIface) w
theorem sh50_calls {a0 a1 : Value} {w : World} {R : Value → World → Prop} (h : sh50 a0 a1 w R) : CallF Try.prog 50 #[a0, a1] w R :=
  calls_of_denF (mk := false) (args := [a0, a1]) (an := (.seq (.ops [0, 1]) (.seq (.ops [0, 1]) (.seq (.ops []) (.seq (.ops [4]) .leaf))))) (c := Try.f50.body.getD .skip) hent Try.func50 rfl (Nat.le_of_ble_eq_true (by kernel_rfl))
    (Eq.mp (show sh50 a0 a1 w R = denF Try.prog ent false Try.f50 (.seq (.ops [0, 1]) (.seq (.ops [0, 1]) (.seq (.ops []) (.seq (.ops [4]) .leaf)))) (Try.f50.body.getD .skip) [a0, a1] w R by kernel_rfl) h)

/-! ### 51: (*strings.Builder).String -/
def sh51 (a0 : Value) (w : World) (R : Value → World → Prop) : Prop :=
 drw (fun S_1 w =>
 RunA Try.prog (nilV a0) fun t4_2 =>
 RunA Try.prog (Instr.fieldAt 82 t4_2 1) fun t5_3 =>
 RunS Try.prog S_1 (Instr.loadAt 22 t5_3) fun t6_4 =>
 RunA Try.prog (nilV a0) fun t9_5 =>
 RunA Try.prog (Instr.fieldAt 82 t9_5 1) fun t10_6 =>
 RunS Try.prog S_1 (Instr.loadAt 22 t10_6) fun t11_7 =>
 RunS Try.prog S_1 (Builtin.len_ #[22] 3 #[t11_7]) fun t12_8 =>
 RunV Try.prog (Builtin.unsafeSliceData_ #[22] 88 #[t6_4]) w fun t7_9 w =>
 S_1 w ∧ (
 RunV Try.prog (Builtin.unsafeString_ #[88, 3] 9 #[t7_9, t12_8]) w fun t13_10 w =>
 R t13_10 w)) w
theorem sh51_calls {a0 : Value} {w : World} {R : Value → World → Prop} (h : sh51 a0 w R) : CallF Try.prog 51 #[a0] w R :=
  calls_of_denF (mk := false) (args := [a0]) (an := (.seq (.ops [0]) (.seq (.draw (.q 0 (.q 1 (.q 2 (.q 3 (.q 5 (.q 6 (.q 7 (.q 8 (.q 9 (.one 4 (.one 10 (.q 11 .fin)))))))))))) [2]) .leaf))) (c := Try.f51.body.getD .skip) hent Try.func51 rfl (Nat.le_of_ble_eq_true (by kernel_rfl))
    (Eq.mp (show sh51 a0 w R = denF Try.prog ent false Try.f51 (.seq (.ops [0]) (.seq (.draw (.q 0 (.q 1 (.q 2 (.q 3 (.q 5 (.q 6 (.q 7 (.q 8 (.q 9 (.one 4 (.one 10 (.q 11 .fin)))))))))))) [2]) .leaf)) (Try.f51.body.getD .skip) [a0] w R by kernel_rfl) h)

/-! ### 52: handbill/hblref1.Var -/
def sh52 (a0 : Value) (w : World) (R : Value → World → Prop) : Prop :=
 RunA Try.prog (bin .lss 3 (.tmp 5) (.const (.int .i64 0)) a0 (.int .i64 0)) fun t6_1 =>
 IfB t6_1 (
 R (.tuple #[(.slice none 0 0), (.int .i64 1)]) w) (
 RunA Try.prog (bin .geq 3 (.tmp 8) (.const (.int .i64 72057594037927936)) a0 (.int .i64 72057594037927936)) fun t9_2 =>
 IfB t9_2 (
 R (.tuple #[(.slice none 0 0), (.int .i64 1)]) w) (
 lp 2 (fun n_5 t0_3 t4_4 w =>
 RunA Try.prog (bin .geq 3 (.tmp 11) (.const (.int .i64 128)) t0_3 (.int .i64 128)) fun t12_6 =>
 IfB t12_6 (
 RunA Try.prog (bin .and 3 (.tmp 14) (.const (.int .i64 127)) t0_3 (.int .i64 127)) fun t15_7 =>
 RunA Try.prog (bin .or 3 (.tmp 15) (.const (.int .i64 128)) t15_7 (.int .i64 128)) fun t16_8 =>
 RunV Try.prog (convert 3 5 t16_8) w fun t17_9 w =>
 RunV Try.prog (Instr.buildSlice 22 1 #[(0, t17_9)]) w fun t18_10 w =>
 RunV Try.prog (Builtin.append_ #[22, 22] 22 #[t4_4, t18_10]) w fun t19_11 w =>
 RunA Try.prog (bin .shr 3 (.tmp 20) (.const (.int .u64 7)) t0_3 (.int .u64 7)) fun t21_12 =>
 n_5 t21_12 t19_11 w) (
 RunV Try.prog (convert 3 5 t0_3) w fun t24_13 w =>
 RunV Try.prog (Instr.buildSlice 22 1 #[(0, t24_13)]) w fun t25_14 w =>
 RunV Try.prog (Builtin.append_ #[22, 22] 22 #[t4_4, t25_14]) w fun t26_15 w =>
 R (.tuple #[t26_15, (.int .i64 0)]) w)) [a0, (.slice none 0 0)] w))
theorem sh52_calls {a0 : Value} {w : World} {R : Value → World → Prop} (h : sh52 a0 w R) : CallF Try.prog 52 #[a0] w R :=
  calls_of_denF (mk := false) (args := [a0]) (an := (.seq (.ops [0]) (.seq (.seq (.ops [0, 10]) (.cond (.seq (.ops [2, 3]) .leaf) .leaf)) (.seq (.ops [0, 4]) (.seq (.blk (.loop [] [0, 4] (.seq (.seq (.ops [0, 4, 12]) (.cond .leaf .leaf)) (.blk (.ops [0, 4]))))) (.seq (.ops [2, 3]) .leaf)))))) (c := Try.f52.body.getD .skip) hent Try.func52 rfl (Nat.le_of_ble_eq_true (by kernel_rfl))
    (Eq.mp (show sh52 a0 w R = denF Try.prog ent false Try.f52 (.seq (.ops [0]) (.seq (.seq (.ops [0, 10]) (.cond (.seq (.ops [2, 3]) .leaf) .leaf)) (.seq (.ops [0, 4]) (.seq (.blk (.loop [] [0, 4] (.seq (.seq (.ops [0, 4, 12]) (.cond .leaf .leaf)) (.blk (.ops [0, 4]))))) (.seq (.ops [2, 3]) .leaf))))) (Try.f52.body.getD .skip) [a0] w R by kernel_rfl) h)

/-! ### 53: strings.IndexByte -/
def sh53 (a0 a1 : Value) (w : World) (R : Value → World → Prop) : Prop :=
 CallF Try.prog 57 #[a0, a1] w fun t7_1 w =>
 R t7_1 w
theorem sh53_calls {a0 a1 : Value} {w : World} {R : Value → World → Prop} (h : sh53 a0 a1 w R) : CallF Try.prog 53 #[a0, a1] w R :=
  calls_of_denF (mk := false) (args := [a0, a1]) (an := (.seq (.ops [0, 1]) (.seq (.ops [4]) .leaf))) (c := Try.f53.body.getD .skip) hent Try.func53 rfl (Nat.le_of_ble_eq_true (by kernel_rfl))
    (Eq.mp (show sh53 a0 a1 w R = denF Try.prog ent false Try.f53 (.seq (.ops [0, 1]) (.seq (.ops [4]) .leaf)) (Try.f53.body.getD .skip) [a0, a1] w R by kernel_rfl) h)

/-! ### 54: handbill/num.ReadVar -/
def sh54 (a0 a1 : Value) (w : World) (R : Value → World → Prop) : Prop :=
 RunA Try.prog (bin .lss 3 (.tmp 10) (.const (.int .i64 0)) a1 (.int .i64 0)) fun t11_1 =>
 IfB t11_1 (
 R (.tuple #[(.int .i64 0), (.int .i64 0), (.int .i64 1)]) w) (
 RunW Try.prog (Builtin.len_ #[22] 3 #[a0]) w fun t15_2 =>
 RunA Try.prog (bin .gtr 3 (.tmp 13) (.tmp 15) a1 t15_2) fun t16_3 =>
 IfB t16_3 (
 R (.tuple #[(.int .i64 0), (.int .i64 0), (.int .i64 1)]) w) (
 RunA Try.prog (Instr.sliceAt 22 a0 (some a1) none none) fun t20_4 =>
 RunW Try.prog (Builtin.len_ #[22] 3 #[t20_4]) w fun t21_5 =>
 lp 2 (fun n_8 t7_6 t22_7 w =>
 RunA Try.prog (bin .lss 3 (.tmp 22) (.tmp 21) t22_7 t21_5) fun t23_9 =>
 IfB t23_9 (
 RunA Try.prog (Instr.indexAt 22 t20_4 t22_7) fun t25_10 =>
 RunW Try.prog (Instr.loadAt 5 t25_10) w fun t26_11 =>
 RunA Try.prog (bin .and 5 (.tmp 28) (.const (.int .u8 127)) t26_11 (.int .u8 127)) fun t29_12 =>
 RunV Try.prog (convert 5 3 t29_12) w fun t30_13 w =>
 RunA Try.prog (bin .mul 3 (.const (.int .i64 7)) (.tmp 31) (.int .i64 7) t22_7) fun t32_14 =>
 RunA Try.prog (bin .shl 3 (.tmp 30) (.tmp 32) t30_13 t32_14) fun t33_15 =>
 RunA Try.prog (bin .or 3 (.tmp 27) (.tmp 33) t7_6 t33_15) fun t34_16 =>
 jn 5 (fun t1_17 t7_18 t20_19 t21_20 t22_21 w =>
 RunA Try.prog (bin .add 3 (.tmp 22) (.const (.int .i64 1)) t22_21 (.int .i64 1)) fun t58_23 =>
 (t1_17 : Value) = a1 ∧ ((t20_19 : Value) = t20_4 ∧ ((t21_20 : Value) = t21_5 ∧ (n_8 t7_18 t58_23 w)))) fun j_22 =>
 RunA Try.prog (bin .lss 5 (.tmp 36) (.const (.int .u8 128)) t26_11 (.int .u8 128)) fun t37_24 =>
 IfB t37_24 (
 RunA Try.prog (bin .gtr 5 (.tmp 39) (.const (.int .u8 0)) t26_11 (.int .u8 0)) fun t40_25 =>
 IfB t40_25 (
 RunA Try.prog (bin .add 3 (.tmp 47) (.tmp 48) a1 t22_7) fun t49_26 =>
 RunA Try.prog (bin .add 3 (.tmp 49) (.const (.int .i64 1)) t49_26 (.int .i64 1)) fun t50_27 =>
 R (.tuple #[t34_16, t50_27, (.int .i64 0)]) w) (
 RunW Try.prog (bin .eql 3 (.tmp 42) (.const (.int .i64 0)) t22_7 (.int .i64 0)) w fun t43_28 =>
 IfB t43_28 (
 RunA Try.prog (bin .add 3 (.tmp 47) (.tmp 48) a1 t22_7) fun t49_29 =>
 RunA Try.prog (bin .add 3 (.tmp 49) (.const (.int .i64 1)) t49_29 (.int .i64 1)) fun t50_30 =>
 R (.tuple #[t34_16, t50_30, (.int .i64 0)]) w) (
 RunW Try.prog (bin .eql 5 (.tmp 52) (.const (.int .u8 0)) t26_11 (.int .u8 0)) w fun t53_31 =>
 IfB t53_31 (
 R (.tuple #[(.int .i64 0), (.int .i64 0), (.int .i64 4)]) w) (
 RunW Try.prog (bin .eql 3 (.tmp 55) (.const (.int .i64 7)) t22_7 (.int .i64 7)) w fun t56_32 =>
 IfB t56_32 (
 R (.tuple #[(.int .i64 0), (.int .i64 0), (.int .i64 4)]) w) (
 j_22 a1 t34_16 t20_4 t21_5 t22_7 w))))) (
 RunW Try.prog (bin .eql 5 (.tmp 52) (.const (.int .u8 0)) t26_11 (.int .u8 0)) w fun t53_33 =>
 IfB t53_33 (
 R (.tuple #[(.int .i64 0), (.int .i64 0), (.int .i64 4)]) w) (
 RunW Try.prog (bin .eql 3 (.tmp 55) (.const (.int .i64 7)) t22_7 (.int .i64 7)) w fun t56_34 =>
 IfB t56_34 (
 R (.tuple #[(.int .i64 0), (.int .i64 0), (.int .i64 4)]) w) (
 j_22 a1 t34_16 t20_4 t21_5 t22_7 w)))) (
 R (.tuple #[(.int .i64 0), (.int .i64 0), (.int .i64 2)]) w)) [(.int .i64 0), (.int .i64 0)] w))
theorem sh54_calls {a0 a1 : Value} {w : World} {R : Value → World → Prop} (h : sh54 a0 a1 w R) : CallF Try.prog 54 #[a0, a1] w R :=
  calls_of_denF (mk := false) (args := [a0, a1]) (an := (.seq (.ops [0, 1]) (.seq (.seq (.ops [0, 1, 17]) (.cond (.seq (.ops [4, 5, 6]) .leaf) .leaf)) (.seq (.ops [0, 1, 7]) (.seq (.seq (.ops [1, 7, 20, 21, 22]) (.blk (.loop [1, 20, 21] [7, 22] (.seq (.ops [1, 7, 20, 21, 22, 23]) (.seq (.cond .leaf .leaf) (.seq (.blk (.seq (.ops [1, 7, 8, 9, 20, 21, 22]) (.seq (.ops [1, 7, 8, 9, 20, 21, 22]) (.blk (.join [1, 7, 20, 21, 22] (.seq (.ops [1, 7, 8, 9, 20, 21, 22, 35]) (.cond (.seq (.ops [4, 5, 6]) .leaf) (.seq (.ops [1, 7, 20, 21, 22, 51]) (.cond (.seq (.ops [4, 5, 6]) .leaf) .leaf))))))))) (.ops [1, 7, 20, 21, 22]))))))) (.seq (.ops [4, 5, 6]) .leaf)))))) (c := Try.f54.body.getD .skip) hent Try.func54 rfl (Nat.le_of_ble_eq_true (by kernel_rfl))
    (Eq.mp (show sh54 a0 a1 w R = denF Try.prog ent false Try.f54 (.seq (.ops [0, 1]) (.seq (.seq (.ops [0, 1, 17]) (.cond (.seq (.ops [4, 5, 6]) .leaf) .leaf)) (.seq (.ops [0, 1, 7]) (.seq (.seq (.ops [1, 7, 20, 21, 22]) (.blk (.loop [1, 20, 21] [7, 22] (.seq (.ops [1, 7, 20, 21, 22, 23]) (.seq (.cond .leaf .leaf) (.seq (.blk (.seq (.ops [1, 7, 8, 9, 20, 21, 22]) (.seq (.ops [1, 7, 8, 9, 20, 21, 22]) (.blk (.join [1, 7, 20, 21, 22] (.seq (.ops [1, 7, 8, 9, 20, 21, 22, 35]) (.cond (.seq (.ops [4, 5, 6]) .leaf) (.seq (.ops [1, 7, 20, 21, 22, 51]) (.cond (.seq (.ops [4, 5, 6]) .leaf) .leaf))))))))) (.ops [1, 7, 20, 21, 22]))))))) (.seq (.ops [4, 5, 6]) .leaf))))) (Try.f54.body.getD .skip) [a0, a1] w R by kernel_rfl) h)

/-! ### 55: handbill/hblref1.Digit -/
def sh55 (a0 : Value) (w : World) (R : Value → World → Prop) : Prop :=
 jn 0 (fun w =>
 R (.int .i64 (-1)) w) fun j_1 =>
 RunA Try.prog (bin .geq 5 (.tmp 4) (.const (.int .u8 48)) a0 (.int .u8 48)) fun t5_2 =>
 IfB t5_2 (
 RunA Try.prog (bin .leq 5 (.tmp 7) (.const (.int .u8 57)) a0 (.int .u8 57)) fun t8_3 =>
 IfB t8_3 (
 RunA Try.prog (bin .sub 5 (.tmp 10) (.const (.int .u8 48)) a0 (.int .u8 48)) fun t11_4 =>
 RunV Try.prog (convert 5 3 t11_4) w fun t12_5 w =>
 R t12_5 w) (
 jn 0 (fun w =>
 j_1 w) fun j_6 =>
 RunA Try.prog (bin .geq 5 (.tmp 14) (.const (.int .u8 97)) a0 (.int .u8 97)) fun t15_7 =>
 IfB t15_7 (
 RunA Try.prog (bin .leq 5 (.tmp 17) (.const (.int .u8 102)) a0 (.int .u8 102)) fun t18_8 =>
 IfB t18_8 (
 RunA Try.prog (bin .sub 5 (.tmp 20) (.const (.int .u8 97)) a0 (.int .u8 97)) fun t21_9 =>
 RunV Try.prog (convert 5 3 t21_9) w fun t22_10 w =>
 RunA Try.prog (bin .add 3 (.tmp 22) (.const (.int .i64 10)) t22_10 (.int .i64 10)) fun t23_11 =>
 R t23_11 w) (
 jn 0 (fun w =>
 j_6 w) fun j_12 =>
 RunA Try.prog (bin .geq 5 (.tmp 25) (.const (.int .u8 65)) a0 (.int .u8 65)) fun t26_13 =>
 IfB t26_13 (
 RunA Try.prog (bin .leq 5 (.tmp 28) (.const (.int .u8 70)) a0 (.int .u8 70)) fun t29_14 =>
 IfB t29_14 (
 RunA Try.prog (bin .sub 5 (.tmp 31) (.const (.int .u8 65)) a0 (.int .u8 65)) fun t32_15 =>
 RunV Try.prog (convert 5 3 t32_15) w fun t33_16 w =>
 RunA Try.prog (bin .add 3 (.tmp 33) (.const (.int .i64 10)) t33_16 (.int .i64 10)) fun t34_17 =>
 R t34_17 w) (
 j_12 w)) (
 j_12 w))) (
 jn 0 (fun w =>
 j_6 w) fun j_18 =>
 RunA Try.prog (bin .geq 5 (.tmp 25) (.const (.int .u8 65)) a0 (.int .u8 65)) fun t26_19 =>
 IfB t26_19 (
 RunA Try.prog (bin .leq 5 (.tmp 28) (.const (.int .u8 70)) a0 (.int .u8 70)) fun t29_20 =>
 IfB t29_20 (
 RunA Try.prog (bin .sub 5 (.tmp 31) (.const (.int .u8 65)) a0 (.int .u8 65)) fun t32_21 =>
 RunV Try.prog (convert 5 3 t32_21) w fun t33_22 w =>
 RunA Try.prog (bin .add 3 (.tmp 33) (.const (.int .i64 10)) t33_22 (.int .i64 10)) fun t34_23 =>
 R t34_23 w) (
 j_18 w)) (
 j_18 w)))) (
 jn 0 (fun w =>
 j_1 w) fun j_24 =>
 RunA Try.prog (bin .geq 5 (.tmp 14) (.const (.int .u8 97)) a0 (.int .u8 97)) fun t15_25 =>
 IfB t15_25 (
 RunA Try.prog (bin .leq 5 (.tmp 17) (.const (.int .u8 102)) a0 (.int .u8 102)) fun t18_26 =>
 IfB t18_26 (
 RunA Try.prog (bin .sub 5 (.tmp 20) (.const (.int .u8 97)) a0 (.int .u8 97)) fun t21_27 =>
 RunV Try.prog (convert 5 3 t21_27) w fun t22_28 w =>
 RunA Try.prog (bin .add 3 (.tmp 22) (.const (.int .i64 10)) t22_28 (.int .i64 10)) fun t23_29 =>
 R t23_29 w) (
 jn 0 (fun w =>
 j_24 w) fun j_30 =>
 RunA Try.prog (bin .geq 5 (.tmp 25) (.const (.int .u8 65)) a0 (.int .u8 65)) fun t26_31 =>
 IfB t26_31 (
 RunA Try.prog (bin .leq 5 (.tmp 28) (.const (.int .u8 70)) a0 (.int .u8 70)) fun t29_32 =>
 IfB t29_32 (
 RunA Try.prog (bin .sub 5 (.tmp 31) (.const (.int .u8 65)) a0 (.int .u8 65)) fun t32_33 =>
 RunV Try.prog (convert 5 3 t32_33) w fun t33_34 w =>
 RunA Try.prog (bin .add 3 (.tmp 33) (.const (.int .i64 10)) t33_34 (.int .i64 10)) fun t34_35 =>
 R t34_35 w) (
 j_30 w)) (
 j_30 w))) (
 jn 0 (fun w =>
 j_24 w) fun j_36 =>
 RunA Try.prog (bin .geq 5 (.tmp 25) (.const (.int .u8 65)) a0 (.int .u8 65)) fun t26_37 =>
 IfB t26_37 (
 RunA Try.prog (bin .leq 5 (.tmp 28) (.const (.int .u8 70)) a0 (.int .u8 70)) fun t29_38 =>
 IfB t29_38 (
 RunA Try.prog (bin .sub 5 (.tmp 31) (.const (.int .u8 65)) a0 (.int .u8 65)) fun t32_39 =>
 RunV Try.prog (convert 5 3 t32_39) w fun t33_40 w =>
 RunA Try.prog (bin .add 3 (.tmp 33) (.const (.int .i64 10)) t33_40 (.int .i64 10)) fun t34_41 =>
 R t34_41 w) (
 j_36 w)) (
 j_36 w)))
theorem sh55_calls {a0 : Value} {w : World} {R : Value → World → Prop} (h : sh55 a0 w R) : CallF Try.prog 55 #[a0] w R :=
  calls_of_denF (mk := false) (args := [a0]) (an := (.seq (.ops [0]) (.seq (.blk (.join [] (.seq (.ops [0, 3]) (.cond (.seq (.ops [2]) .leaf) (.join [] (.seq (.ops [0, 13]) (.cond (.seq (.ops [2]) .leaf) (.join [] (.seq (.ops [0, 24]) (.cond (.seq (.ops [2]) .leaf) .leaf)))))))))) (.seq (.ops [2]) .leaf)))) (c := Try.f55.body.getD .skip) hent Try.func55 rfl (Nat.le_of_ble_eq_true (by kernel_rfl))
    (Eq.mp (show sh55 a0 w R = denF Try.prog ent false Try.f55 (.seq (.ops [0]) (.seq (.blk (.join [] (.seq (.ops [0, 3]) (.cond (.seq (.ops [2]) .leaf) (.join [] (.seq (.ops [0, 13]) (.cond (.seq (.ops [2]) .leaf) (.join [] (.seq (.ops [0, 24]) (.cond (.seq (.ops [2]) .leaf) .leaf)))))))))) (.seq (.ops [2]) .leaf))) (Try.f55.body.getD .skip) [a0] w R by kernel_rfl) h)

/-! ### 56: (*strings.Builder).copyCheck -/
def sh56 (a0 : Value) (w : World) (R : Value → World → Prop) : Prop :=
 RunA Try.prog (nilV a0) fun t3_1 =>
 RunA Try.prog (Instr.fieldAt 82 t3_1 0) fun t4_2 =>
 RunW Try.prog (Instr.loadAt 80 t4_2) w fun t5_3 =>
 RunW Try.prog (bin .eql 80 (.tmp 5) (.const (.pointer none)) t5_3 (.pointer none)) w fun t6_4 =>
 IfB t6_4 (
 RunV Try.prog (convert 80 89 a0) w fun t9_5 w =>
 RunO Try.prog (callFunc 58 #[t9_5]) w fun t10_6 w =>
 RunV Try.prog (convert 89 80 t10_6) w fun t11_7 w =>
 RunA Try.prog (nilV a0) fun t12_8 =>
 RunA Try.prog (Instr.fieldAt 82 t12_8 0) fun t13_9 =>
 RunU Try.prog (Instr.storeAt 80 t13_9 t11_7) w fun w =>
 R (.tuple #[]) w) (
 RunA Try.prog (nilV a0) fun t15_10 =>
 RunA Try.prog (Instr.fieldAt 82 t15_10 0) fun t16_11 =>
 RunW Try.prog (Instr.loadAt 80 t16_11) w fun t17_12 =>
 RunW Try.prog (bin .neq 80 (.tmp 17) (.tmp 18) t17_12 a0) w fun t19_13 =>
 IfB t19_13 (
 False) (
 R (.tuple #[]) w))
theorem sh56_calls {a0 : Value} {w : World} {R : Value → World → Prop} (h : sh56 a0 w R) : CallF Try.prog 56 #[a0] w R :=
  calls_of_denF (mk := false) (args := [a0]) (an := (.seq (.ops [0, 6]) (.cond (.ops []) (.seq (.ops [19]) (.cond .leaf .leaf))))) (c := Try.f56.body.getD .skip) hent Try.func56 rfl (Nat.le_of_ble_eq_true (by kernel_rfl))
    (Eq.mp (show sh56 a0 w R = denF Try.prog ent false Try.f56 (.seq (.ops [0, 6]) (.cond (.ops []) (.seq (.ops [19]) (.cond .leaf .leaf)))) (Try.f56.body.getD .skip) [a0] w R by kernel_rfl) h)

/-! ### 57: internal/stringslite.IndexByte -/
def sh57 (a0 a1 : Value) (w : World) (R : Value → World → Prop) : Prop :=
 RunO Try.prog (callFunc 59 #[a0, a1]) w fun t7_1 w =>
 R t7_1 w
theorem sh57_calls {a0 a1 : Value} {w : World} {R : Value → World → Prop} (h : sh57 a0 a1 w R) : CallF Try.prog 57 #[a0, a1] w R :=
  calls_of_denF (mk := false) (args := [a0, a1]) (an := (.seq (.ops [0, 1]) (.seq (.ops [4]) .leaf))) (c := Try.f57.body.getD .skip) hent Try.func57 rfl (Nat.le_of_ble_eq_true (by kernel_rfl))
    (Eq.mp (show sh57 a0 a1 w R = denF Try.prog ent false Try.f57 (.seq (.ops [0, 1]) (.seq (.ops [4]) .leaf)) (Try.f57.body.getD .skip) [a0, a1] w R by kernel_rfl) h)

end Go.Proofs.Ytknbnfpdcbpoeaa
