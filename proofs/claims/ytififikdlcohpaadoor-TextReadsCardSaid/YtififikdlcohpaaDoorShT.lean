/-
  The shallow forms of the functions, printed by a program (ez.py) out of Lean's print of the loaded functions; each is proved to imply the function's contract: the equations are the kernel's.
-/
import Derived.Test.YtififikdlcohpaaDoorProg
import Derived.Test.YtififikdlcohpaaDoorEzSound
namespace Go.Proofs.YtififikdlcohpaaDoor
open Go Go.Ez
set_option linter.unusedVariables false
set_option maxRecDepth 100000
def entT : List Nat := [13, 14, 15, 16, 17, 18, 19, 20, 21, 22, 23, 36, 37, 38, 39, 40, 41, 42, 43, 44, 45, 46, 47, 48, 49, 50, 76, 77, 79, 80, 81, 82, 83, 90, 92, 93, 99, 103]
theorem hentT : ∀ g, memN g entT = true → Enters Tryd.prog g := enters_all (by kernel_rfl)

/-! ### 3: handbill/hbllaw3.TextBack -/
def sh3 (a0 a1 a2 : Value) (w : World) (R : Value → World → Prop) : Prop :=
 CallF Tryd.prog 13 #[] w fun t16_1 w =>
 RunA Tryd.prog (Op.unary .not t16_1) fun t17_2 =>
 IfB t17_2 (
 R (.bool false) w) (
 RunW Tryd.prog (Builtin.len_ #[9] 3 #[a0]) w fun t19_3 =>
 RunA Tryd.prog (bin .gtr 3 (.tmp 19) (.const (.int .i64 4000)) t19_3 (.int .i64 4000)) fun t20_4 =>
 IfB t20_4 (
 CallF Tryd.prog 13 #[] w fun t31_5 w =>
 R t31_5 w) (
 RunW Tryd.prog (Builtin.len_ #[9] 3 #[a1]) w fun t23_6 =>
 RunA Tryd.prog (bin .gtr 3 (.tmp 23) (.const (.int .i64 4000)) t23_6 (.int .i64 4000)) fun t24_7 =>
 IfB t24_7 (
 CallF Tryd.prog 13 #[] w fun t31_8 w =>
 R t31_8 w) (
 RunW Tryd.prog (Builtin.len_ #[9] 3 #[a2]) w fun t28_9 =>
 RunA Tryd.prog (bin .gtr 3 (.tmp 28) (.const (.int .i64 4000)) t28_9 (.int .i64 4000)) fun t29_10 =>
 IfB t29_10 (
 CallF Tryd.prog 13 #[] w fun t31_11 w =>
 R t31_11 w) (
 CallF Tryd.prog 14 #[a0] w fun t34_12 w =>
 RunA Tryd.prog (Instr.extract t34_12 0) fun t35_13 =>
 RunA Tryd.prog (Instr.extract t34_12 1) fun t36_14 =>
 RunW Tryd.prog (bin .eql 23 (.tmp 37) (.const (.int .i64 0)) t36_14 (.int .i64 0)) w fun t38_15 =>
 CallF Tryd.prog 15 #[a0] w fun t40_16 w =>
 RunW Tryd.prog (bin .neq 4 (.tmp 38) (.tmp 40) t38_15 t40_16) w fun t41_17 =>
 IfB t41_17 (
 R (.bool false) w) (
 RunW Tryd.prog (bin .neq 23 (.tmp 42) (.const (.int .i64 0)) t36_14 (.int .i64 0)) w fun t43_18 =>
 IfB t43_18 (
 CallF Tryd.prog 13 #[] w fun t44_19 w =>
 IfB t44_19 (
 RunW Tryd.prog (bin .eql 9 (.tmp 46) (.const (.string ⟨#[]⟩)) t35_13 (.string ⟨#[]⟩)) w fun t47_20 =>
 IfB t47_20 (
 CallF Tryd.prog 16 #[a0] w fun t51_21 w =>
 RunW Tryd.prog (bin .eql 3 (.tmp 51) (.const (.int .i64 (-1))) t51_21 (.int .i64 (-1))) w fun t52_22 =>
 R t52_22 w) (
 R (.bool false) w)) (
 R (.bool false) w)) (
 RunW Tryd.prog (Builtin.len_ #[9] 3 #[t35_13]) w fun t55_23 =>
 RunA Tryd.prog (bin .lss 3 (.tmp 55) (.const (.int .i64 2)) t55_23 (.int .i64 2)) fun t56_24 =>
 IfB t56_24 (
 R (.bool false) w) (
 lp 1 (fun n_26 t9_25 w =>
 RunW Tryd.prog (Builtin.len_ #[9] 3 #[t35_13]) w fun t59_27 =>
 RunA Tryd.prog (bin .lss 3 (.tmp 57) (.tmp 59) t9_25 t59_27) fun t60_28 =>
 IfB t60_28 (
 RunA Tryd.prog (Instr.index 9 t35_13 t9_25) fun t65_29 =>
 RunA Tryd.prog (bin .lss 5 (.tmp 65) (.const (.int .u8 32)) t65_29 (.int .u8 32)) fun t66_30 =>
 IfB t66_30 (
 R (.bool false) w) (
 RunA Tryd.prog (bin .add 3 (.tmp 61) (.const (.int .i64 1)) t9_25 (.int .i64 1)) fun t62_31 =>
 (a0 : Value) = a0 ∧ ((a1 : Value) = a1 ∧ ((a2 : Value) = a2 ∧ ((t35_13 : Value) = t35_13 ∧ (n_26 t62_31 w)))))) (
 RunA Tryd.prog (bin .add 9 (.tmp 68) (.tmp 69) a1 t35_13) fun t70_32 =>
 RunA Tryd.prog (bin .add 9 (.tmp 70) (.tmp 71) t70_32 a2) fun t72_33 =>
 RunW Tryd.prog (Builtin.len_ #[9] 3 #[a1]) w fun t74_34 =>
 CallF Tryd.prog 17 #[t72_33, t74_34] w fun t75_35 w =>
 RunA Tryd.prog (Instr.extract t75_35 0) fun t76_36 =>
 RunA Tryd.prog (Instr.extract t75_35 1) fun t77_37 =>
 RunA Tryd.prog (Instr.extract t75_35 2) fun t78_38 =>
 RunW Tryd.prog (Builtin.len_ #[9] 3 #[t35_13]) w fun t82_39 =>
 RunA Tryd.prog (bin .sub 3 (.tmp 82) (.const (.int .i64 1)) t82_39 (.int .i64 1)) fun t83_40 =>
 RunA Tryd.prog (Instr.sliceAt 9 t35_13 none (some t83_40) none) fun t84_41 =>
 CallF Tryd.prog 17 #[t84_41, (.int .i64 0)] w fun t85_42 w =>
 RunA Tryd.prog (Instr.extract t85_42 0) fun t86_43 =>
 RunA Tryd.prog (Instr.extract t85_42 1) fun t87_44 =>
 RunA Tryd.prog (Instr.extract t85_42 2) fun t88_45 =>
 CallF Tryd.prog 13 #[] w fun t89_46 w =>
 IfB t89_46 (
 RunW Tryd.prog (bin .eql 23 (.tmp 91) (.const (.int .i64 0)) t78_38 (.int .i64 0)) w fun t92_47 =>
 IfB t92_47 (
 RunW Tryd.prog (bin .eql 9 (.tmp 95) (.tmp 96) t76_36 a0) w fun t97_48 =>
 IfB t97_48 (
 RunW Tryd.prog (Builtin.len_ #[9] 3 #[a1]) w fun t102_49 =>
 RunW Tryd.prog (Builtin.len_ #[9] 3 #[t35_13]) w fun t104_50 =>
 RunA Tryd.prog (bin .add 3 (.tmp 102) (.tmp 104) t102_49 t104_50) fun t105_51 =>
 RunW Tryd.prog (bin .eql 3 (.tmp 100) (.tmp 105) t77_37 t105_51) w fun t106_52 =>
 IfB t106_52 (
 RunW Tryd.prog (bin .eql 23 (.tmp 109) (.const (.int .i64 2)) t88_45 (.int .i64 2)) w fun t110_53 =>
 R t110_53 w) (
 R (.bool false) w)) (
 R (.bool false) w)) (
 R (.bool false) w)) (
 R (.bool false) w))) [(.int .i64 0)] w)))))))
theorem sh3_calls {a0 a1 a2 : Value} {w : World} {R : Value → World → Prop} (h : sh3 a0 a1 a2 w R) : CallF Tryd.prog 3 #[a0, a1, a2] w R :=
  calls_of_denF (mk := false) (args := [a0, a1, a2]) (an := (.seq (.ops [0, 1, 2]) (.seq (.seq (.ops [0, 1, 2, 17]) (.cond (.seq (.ops [6]) .leaf) .leaf)) (.seq (.seq (.ops [0, 1, 2, 30]) (.cond (.seq (.ops [6]) .leaf) .leaf)) (.seq (.ops [0, 1, 2, 7, 8]) (.seq (.seq (.ops [0, 1, 2, 7, 8, 41]) (.cond (.seq (.ops [6]) .leaf) .leaf)) (.seq (.seq (.ops [0, 1, 2, 7, 43]) (.cond (.seq (.ops [6]) .leaf) .leaf)) (.seq (.seq (.ops [0, 1, 2, 7, 56]) (.cond (.seq (.ops [6]) .leaf) .leaf)) (.seq (.seq (.ops [0, 1, 2, 7, 9]) (.blk (.loop [0, 1, 2, 7] [9] (.seq (.seq (.ops [0, 1, 2, 7, 9, 60]) (.cond .leaf .leaf)) (.seq (.blk (.seq (.ops [0, 1, 2, 7, 9, 66]) (.cond (.seq (.ops [6]) .leaf) .leaf))) (.ops [0, 1, 2, 7, 9])))))) (.seq (.ops [0, 1, 7, 10, 11, 12]) (.seq (.ops [0, 1, 7, 10, 11, 12, 15]) (.seq (.ops [6]) .leaf)))))))))))) (c := Tryd.f3.body.getD .skip) hentT Tryd.func3 rfl (Nat.le_of_ble_eq_true (by kernel_rfl))
    (Eq.mp (show sh3 a0 a1 a2 w R = denF Tryd.prog entT false Tryd.f3 (.seq (.ops [0, 1, 2]) (.seq (.seq (.ops [0, 1, 2, 17]) (.cond (.seq (.ops [6]) .leaf) .leaf)) (.seq (.seq (.ops [0, 1, 2, 30]) (.cond (.seq (.ops [6]) .leaf) .leaf)) (.seq (.ops [0, 1, 2, 7, 8]) (.seq (.seq (.ops [0, 1, 2, 7, 8, 41]) (.cond (.seq (.ops [6]) .leaf) .leaf)) (.seq (.seq (.ops [0, 1, 2, 7, 43]) (.cond (.seq (.ops [6]) .leaf) .leaf)) (.seq (.seq (.ops [0, 1, 2, 7, 56]) (.cond (.seq (.ops [6]) .leaf) .leaf)) (.seq (.seq (.ops [0, 1, 2, 7, 9]) (.blk (.loop [0, 1, 2, 7] [9] (.seq (.seq (.ops [0, 1, 2, 7, 9, 60]) (.cond .leaf .leaf)) (.seq (.blk (.seq (.ops [0, 1, 2, 7, 9, 66]) (.cond (.seq (.ops [6]) .leaf) .leaf))) (.ops [0, 1, 2, 7, 9])))))) (.seq (.ops [0, 1, 7, 10, 11, 12]) (.seq (.ops [0, 1, 7, 10, 11, 12, 15]) (.seq (.ops [6]) .leaf))))))))))) (Tryd.f3.body.getD .skip) [a0, a1, a2] w R by kernel_rfl) h)

/-! ### 4: handbill/hbllaw3.TextJoins -/
def sh4 (a0 a1 : Value) (w : World) (R : Value → World → Prop) : Prop :=
 CallF Tryd.prog 13 #[] w fun t11_1 w =>
 RunA Tryd.prog (Op.unary .not t11_1) fun t12_2 =>
 IfB t12_2 (
 R (.bool false) w) (
 RunW Tryd.prog (Builtin.len_ #[9] 3 #[a0]) w fun t14_3 =>
 RunA Tryd.prog (bin .gtr 3 (.tmp 14) (.const (.int .i64 4000)) t14_3 (.int .i64 4000)) fun t15_4 =>
 IfB t15_4 (
 CallF Tryd.prog 13 #[] w fun t21_5 w =>
 R t21_5 w) (
 RunW Tryd.prog (Builtin.len_ #[9] 3 #[a1]) w fun t18_6 =>
 RunA Tryd.prog (bin .gtr 3 (.tmp 18) (.const (.int .i64 4000)) t18_6 (.int .i64 4000)) fun t19_7 =>
 IfB t19_7 (
 CallF Tryd.prog 13 #[] w fun t21_8 w =>
 R t21_8 w) (
 CallF Tryd.prog 14 #[a0] w fun t24_9 w =>
 RunA Tryd.prog (Instr.extract t24_9 0) fun t25_10 =>
 RunA Tryd.prog (Instr.extract t24_9 1) fun t26_11 =>
 CallF Tryd.prog 14 #[a1] w fun t29_12 w =>
 RunA Tryd.prog (Instr.extract t29_12 0) fun t30_13 =>
 RunA Tryd.prog (Instr.extract t29_12 1) fun t31_14 =>
 RunA Tryd.prog (bin .add 9 (.tmp 33) (.tmp 34) a0 a1) fun t35_15 =>
 CallF Tryd.prog 14 #[t35_15] w fun t36_16 w =>
 RunA Tryd.prog (Instr.extract t36_16 0) fun t37_17 =>
 RunA Tryd.prog (Instr.extract t36_16 1) fun t38_18 =>
 RunW Tryd.prog (bin .neq 23 (.tmp 39) (.const (.int .i64 0)) t26_11 (.int .i64 0)) w fun t40_19 =>
 IfB t40_19 (
 CallF Tryd.prog 13 #[] w fun t45_20 w =>
 R t45_20 w) (
 RunW Tryd.prog (bin .neq 23 (.tmp 42) (.const (.int .i64 0)) t31_14 (.int .i64 0)) w fun t43_21 =>
 IfB t43_21 (
 CallF Tryd.prog 13 #[] w fun t45_22 w =>
 R t45_22 w) (
 RunW Tryd.prog (bin .neq 23 (.tmp 46) (.const (.int .i64 0)) t38_18 (.int .i64 0)) w fun t47_23 =>
 IfB t47_23 (
 R (.bool false) w) (
 RunW Tryd.prog (Builtin.len_ #[9] 3 #[t25_10]) w fun t50_24 =>
 RunA Tryd.prog (bin .lss 3 (.tmp 50) (.const (.int .i64 2)) t50_24 (.int .i64 2)) fun t51_25 =>
 IfB t51_25 (
 R (.bool false) w) (
 RunW Tryd.prog (Builtin.len_ #[9] 3 #[t30_13]) w fun t55_26 =>
 RunA Tryd.prog (bin .lss 3 (.tmp 55) (.const (.int .i64 2)) t55_26 (.int .i64 2)) fun t56_27 =>
 IfB t56_27 (
 R (.bool false) w) (
 drw (fun S_28 w =>
 CallF Tryd.prog 13 #[] w fun t58_29 w =>
 S_28 w ∧ (
 IfB t58_29 (
 RunS Tryd.prog S_28 (Builtin.len_ #[9] 3 #[t25_10]) fun t63_30 =>
 RunA Tryd.prog (bin .sub 3 (.tmp 63) (.const (.int .i64 1)) t63_30 (.int .i64 1)) fun t64_31 =>
 RunA Tryd.prog (Instr.sliceAt 9 t25_10 none (some t64_31) none) fun t65_32 =>
 RunA Tryd.prog (Instr.sliceAt 9 t30_13 (some (.int .i64 1)) none none) fun t67_33 =>
 RunA Tryd.prog (bin .add 9 (.tmp 65) (.tmp 67) t65_32 t67_33) fun t68_34 =>
 RunS Tryd.prog S_28 (bin .eql 9 (.tmp 60) (.tmp 68) t37_17 t68_34) fun t69_35 =>
 IfB t69_35 (
 RunA Tryd.prog (bin .add 9 (.tmp 72) (.tmp 73) a0 a1) fun t74_36 =>
 CallF Tryd.prog 16 #[t74_36] w fun t75_37 w =>
 S_28 w ∧ (
 CallF Tryd.prog 16 #[a0] w fun t77_38 w =>
 S_28 w ∧ (
 CallF Tryd.prog 16 #[a1] w fun t79_39 w =>
 S_28 w ∧ (
 RunA Tryd.prog (bin .add 3 (.tmp 77) (.tmp 79) t77_38 t79_39) fun t80_40 =>
 RunS Tryd.prog S_28 (bin .eql 3 (.tmp 75) (.tmp 80) t75_37 t80_40) fun t81_41 =>
 R t81_41 w)))) (
 R (.bool false) w)) (
 R (.bool false) w))) w))))))))
theorem sh4_calls {a0 a1 : Value} {w : World} {R : Value → World → Prop} (h : sh4 a0 a1 w R) : CallF Tryd.prog 4 #[a0, a1] w R :=
  calls_of_denF (mk := false) (args := [a0, a1]) (an := (.seq (.ops [0, 1]) (.seq (.seq (.ops [0, 1, 12]) (.cond (.seq (.ops [4]) .leaf) .leaf)) (.seq (.seq (.ops [0, 1, 20]) (.cond (.seq (.ops [4]) .leaf) .leaf)) (.seq (.ops [0, 1, 5, 6]) (.seq (.ops [0, 1, 5, 6, 7, 8]) (.seq (.ops [0, 1, 5, 6, 7, 8, 9, 10]) (.seq (.seq (.ops [0, 1, 5, 7, 9, 10, 44]) (.cond (.seq (.ops [4]) .leaf) .leaf)) (.seq (.seq (.ops [0, 1, 5, 7, 9, 57]) (.cond (.seq (.ops [4]) .leaf) .leaf)) (.seq (.draw (.one 0 (.q 1 (.sp 2 (.q 2 (.q 3 (.q 4 (.q 5 (.q 6 (.q 7 (.q 8 (.q 9 (.q 10 (.q 11 (.q 12 (.q 13 (.sp 14 (.q 14 (.q 15 (.q 16 (.q 18 (.q 20 (.one 17 (.one 19 (.one 21 (.q 22 (.q 23 (.q 24 (.q 25 .fin)))))))))))) (.q 14 (.q 15 (.q 16 (.q 17 (.q 18 (.q 19 (.q 20 (.q 21 (.q 22 (.q 23 (.q 24 (.q 25 .fin))))))))))))))))))))))))) (.q 2 (.q 3 (.q 4 (.q 5 (.q 6 (.q 7 (.q 8 (.q 9 (.q 10 (.q 11 (.q 12 (.q 13 (.q 14 (.q 15 (.q 16 (.q 17 (.q 18 (.q 19 (.q 20 (.q 21 (.q 22 (.q 23 (.q 24 (.q 25 .fin))))))))))))))))))))))))))) [4]) .leaf)))))))))) (c := Tryd.f4.body.getD .skip) hentT Tryd.func4 rfl (Nat.le_of_ble_eq_true (by kernel_rfl))
    (Eq.mp (show sh4 a0 a1 w R = denF Tryd.prog entT false Tryd.f4 (.seq (.ops [0, 1]) (.seq (.seq (.ops [0, 1, 12]) (.cond (.seq (.ops [4]) .leaf) .leaf)) (.seq (.seq (.ops [0, 1, 20]) (.cond (.seq (.ops [4]) .leaf) .leaf)) (.seq (.ops [0, 1, 5, 6]) (.seq (.ops [0, 1, 5, 6, 7, 8]) (.seq (.ops [0, 1, 5, 6, 7, 8, 9, 10]) (.seq (.seq (.ops [0, 1, 5, 7, 9, 10, 44]) (.cond (.seq (.ops [4]) .leaf) .leaf)) (.seq (.seq (.ops [0, 1, 5, 7, 9, 57]) (.cond (.seq (.ops [4]) .leaf) .leaf)) (.seq (.draw (.one 0 (.q 1 (.sp 2 (.q 2 (.q 3 (.q 4 (.q 5 (.q 6 (.q 7 (.q 8 (.q 9 (.q 10 (.q 11 (.q 12 (.q 13 (.sp 14 (.q 14 (.q 15 (.q 16 (.q 18 (.q 20 (.one 17 (.one 19 (.one 21 (.q 22 (.q 23 (.q 24 (.q 25 .fin)))))))))))) (.q 14 (.q 15 (.q 16 (.q 17 (.q 18 (.q 19 (.q 20 (.q 21 (.q 22 (.q 23 (.q 24 (.q 25 .fin))))))))))))))))))))))))) (.q 2 (.q 3 (.q 4 (.q 5 (.q 6 (.q 7 (.q 8 (.q 9 (.q 10 (.q 11 (.q 12 (.q 13 (.q 14 (.q 15 (.q 16 (.q 17 (.q 18 (.q 19 (.q 20 (.q 21 (.q 22 (.q 23 (.q 24 (.q 25 .fin))))))))))))))))))))))))))) [4]) .leaf))))))))) (Tryd.f4.body.getD .skip) [a0, a1] w R by kernel_rfl) h)

/-! ### 5: handbill/hbllaw3.TextEscapes -/
def sh5 (a0 a1 : Value) (w : World) (R : Value → World → Prop) : Prop :=
 CallF Tryd.prog 13 #[] w fun t19_1 w =>
 RunA Tryd.prog (Op.unary .not t19_1) fun t20_2 =>
 IfB t20_2 (
 R (.bool false) w) (
 RunW Tryd.prog (Builtin.len_ #[9] 3 #[a0]) w fun t22_3 =>
 RunA Tryd.prog (bin .gtr 3 (.tmp 22) (.const (.int .i64 4000)) t22_3 (.int .i64 4000)) fun t23_4 =>
 IfB t23_4 (
 CallF Tryd.prog 13 #[] w fun t24_5 w =>
 R t24_5 w) (
 CallF Tryd.prog 14 #[a0] w fun t27_6 w =>
 RunA Tryd.prog (Instr.extract t27_6 0) fun t28_7 =>
 RunA Tryd.prog (Instr.extract t27_6 1) fun t29_8 =>
 RunW Tryd.prog (bin .neq 23 (.tmp 30) (.const (.int .i64 0)) t29_8 (.int .i64 0)) w fun t31_9 =>
 IfB t31_9 (
 CallF Tryd.prog 13 #[] w fun t32_10 w =>
 IfB t32_10 (
 CallF Tryd.prog 15 #[a0] w fun t35_11 w =>
 RunA Tryd.prog (Op.unary .not t35_11) fun t36_12 =>
 R t36_12 w) (
 R (.bool false) w)) (
 lp 3 (fun n_16 t7_13 t8_14 t9_15 w =>
 RunW Tryd.prog (Builtin.len_ #[9] 3 #[a0]) w fun t40_17 =>
 RunA Tryd.prog (bin .lss 3 (.tmp 38) (.tmp 40) t9_15 t40_17) fun t41_18 =>
 IfB t41_18 (
 jn 6 (fun t0_19 t1_20 t5_21 t7_22 t8_23 t9_24 w =>
 RunA Tryd.prog (bin .add 3 (.tmp 42) (.const (.int .i64 1)) t9_24 (.int .i64 1)) fun t43_26 =>
 (t0_19 : Value) = a0 ∧ ((t1_20 : Value) = a1 ∧ ((t5_21 : Value) = t28_7 ∧ (n_16 t7_22 t8_23 t43_26 w)))) fun j_25 =>
 RunA Tryd.prog (Instr.index 9 a0 t9_15) fun t49_27 =>
 RunW Tryd.prog (bin .eql 5 (.tmp 49) (.const (.int .u8 34)) t49_27 (.int .u8 34)) w fun t50_28 =>
 IfB t50_28 (
 RunA Tryd.prog (bin .add 3 (.tmp 87) (.const (.int .i64 2)) t7_13 (.int .i64 2)) fun t88_29 =>
 RunA Tryd.prog (bin .add 3 (.tmp 89) (.const (.int .i64 1)) t8_14 (.int .i64 1)) fun t90_30 =>
 j_25 a0 a1 t28_7 t88_29 t90_30 t9_15 w) (
 RunA Tryd.prog (Instr.index 9 a0 t9_15) fun t54_31 =>
 RunW Tryd.prog (bin .eql 5 (.tmp 54) (.const (.int .u8 92)) t54_31 (.int .u8 92)) w fun t55_32 =>
 IfB t55_32 (
 RunA Tryd.prog (bin .add 3 (.tmp 87) (.const (.int .i64 2)) t7_13 (.int .i64 2)) fun t88_33 =>
 RunA Tryd.prog (bin .add 3 (.tmp 89) (.const (.int .i64 1)) t8_14 (.int .i64 1)) fun t90_34 =>
 j_25 a0 a1 t28_7 t88_33 t90_34 t9_15 w) (
 RunA Tryd.prog (Instr.index 9 a0 t9_15) fun t60_35 =>
 RunW Tryd.prog (bin .eql 5 (.tmp 60) (.const (.int .u8 8)) t60_35 (.int .u8 8)) w fun t61_36 =>
 IfB t61_36 (
 RunA Tryd.prog (bin .add 3 (.tmp 87) (.const (.int .i64 2)) t7_13 (.int .i64 2)) fun t88_37 =>
 RunA Tryd.prog (bin .add 3 (.tmp 89) (.const (.int .i64 1)) t8_14 (.int .i64 1)) fun t90_38 =>
 j_25 a0 a1 t28_7 t88_37 t90_38 t9_15 w) (
 RunA Tryd.prog (Instr.index 9 a0 t9_15) fun t66_39 =>
 RunW Tryd.prog (bin .eql 5 (.tmp 66) (.const (.int .u8 9)) t66_39 (.int .u8 9)) w fun t67_40 =>
 IfB t67_40 (
 RunA Tryd.prog (bin .add 3 (.tmp 87) (.const (.int .i64 2)) t7_13 (.int .i64 2)) fun t88_41 =>
 RunA Tryd.prog (bin .add 3 (.tmp 89) (.const (.int .i64 1)) t8_14 (.int .i64 1)) fun t90_42 =>
 j_25 a0 a1 t28_7 t88_41 t90_42 t9_15 w) (
 RunA Tryd.prog (Instr.index 9 a0 t9_15) fun t72_43 =>
 RunW Tryd.prog (bin .eql 5 (.tmp 72) (.const (.int .u8 10)) t72_43 (.int .u8 10)) w fun t73_44 =>
 IfB t73_44 (
 RunA Tryd.prog (bin .add 3 (.tmp 87) (.const (.int .i64 2)) t7_13 (.int .i64 2)) fun t88_45 =>
 RunA Tryd.prog (bin .add 3 (.tmp 89) (.const (.int .i64 1)) t8_14 (.int .i64 1)) fun t90_46 =>
 j_25 a0 a1 t28_7 t88_45 t90_46 t9_15 w) (
 RunA Tryd.prog (Instr.index 9 a0 t9_15) fun t78_47 =>
 RunW Tryd.prog (bin .eql 5 (.tmp 78) (.const (.int .u8 12)) t78_47 (.int .u8 12)) w fun t79_48 =>
 IfB t79_48 (
 RunA Tryd.prog (bin .add 3 (.tmp 87) (.const (.int .i64 2)) t7_13 (.int .i64 2)) fun t88_49 =>
 RunA Tryd.prog (bin .add 3 (.tmp 89) (.const (.int .i64 1)) t8_14 (.int .i64 1)) fun t90_50 =>
 j_25 a0 a1 t28_7 t88_49 t90_50 t9_15 w) (
 RunA Tryd.prog (Instr.index 9 a0 t9_15) fun t84_51 =>
 RunW Tryd.prog (bin .eql 5 (.tmp 84) (.const (.int .u8 13)) t84_51 (.int .u8 13)) w fun t85_52 =>
 IfB t85_52 (
 RunA Tryd.prog (bin .add 3 (.tmp 87) (.const (.int .i64 2)) t7_13 (.int .i64 2)) fun t88_53 =>
 RunA Tryd.prog (bin .add 3 (.tmp 89) (.const (.int .i64 1)) t8_14 (.int .i64 1)) fun t90_54 =>
 j_25 a0 a1 t28_7 t88_53 t90_54 t9_15 w) (
 jn 6 (fun t0_55 t1_56 t5_57 t7_58 t8_59 t9_60 w =>
 j_25 t0_55 t1_56 t5_57 t7_58 t8_59 t9_60 w) fun j_61 =>
 RunA Tryd.prog (Instr.index 9 a0 t9_15) fun t94_62 =>
 RunA Tryd.prog (bin .lss 5 (.tmp 94) (.const (.int .u8 32)) t94_62 (.int .u8 32)) fun t95_63 =>
 IfB t95_63 (
 RunA Tryd.prog (bin .add 3 (.tmp 96) (.const (.int .i64 6)) t7_13 (.int .i64 6)) fun t97_64 =>
 RunA Tryd.prog (bin .add 3 (.tmp 98) (.const (.int .i64 1)) t8_14 (.int .i64 1)) fun t99_65 =>
 j_61 a0 a1 t28_7 t97_64 t99_65 t9_15 w) (
 RunA Tryd.prog (bin .add 3 (.tmp 44) (.const (.int .i64 1)) t7_13 (.int .i64 1)) fun t45_66 =>
 j_61 a0 a1 t28_7 t45_66 t8_14 t9_15 w))))))))) (
 RunW Tryd.prog (Builtin.len_ #[9] 3 #[t28_7]) w fun t101_67 =>
 RunW Tryd.prog (bin .neq 3 (.tmp 101) (.tmp 102) t101_67 t7_13) w fun t103_68 =>
 IfB t103_68 (
 R (.bool false) w) (
 RunW Tryd.prog (bin .eql 3 (.tmp 105) (.const (.int .i64 0)) t8_14 (.int .i64 0)) w fun t106_69 =>
 RunA Tryd.prog (bin .add 9 (.const (.string ⟨#[34]⟩)) (.tmp 108) (.string ⟨#[34]⟩) a0) fun t109_70 =>
 RunA Tryd.prog (bin .add 9 (.tmp 109) (.const (.string ⟨#[34]⟩)) t109_70 (.string ⟨#[34]⟩)) fun t110_71 =>
 RunW Tryd.prog (bin .eql 9 (.tmp 107) (.tmp 110) t28_7 t110_71) w fun t111_72 =>
 RunW Tryd.prog (bin .neq 4 (.tmp 106) (.tmp 111) t106_69 t111_72) w fun t112_73 =>
 IfB t112_73 (
 R (.bool false) w) (
 RunA Tryd.prog (bin .lss 3 (.tmp 114) (.const (.int .i64 65536)) a1 (.int .i64 65536)) fun t115_74 =>
 IfB t115_74 (
 CallF Tryd.prog 13 #[] w fun t120_75 w =>
 R t120_75 w) (
 RunA Tryd.prog (bin .gtr 3 (.tmp 117) (.const (.int .i64 1114111)) a1 (.int .i64 1114111)) fun t118_76 =>
 IfB t118_76 (
 CallF Tryd.prog 13 #[] w fun t120_77 w =>
 R t120_77 w) (
 RunA Tryd.prog (bin .sub 3 (.tmp 121) (.const (.int .i64 65536)) a1 (.int .i64 65536)) fun t122_78 =>
 RunA Tryd.prog (bin .shr 3 (.tmp 122) (.const (.int .u64 10)) t122_78 (.int .u64 10)) fun t123_79 =>
 RunA Tryd.prog (bin .add 3 (.const (.int .i64 55296)) (.tmp 123) (.int .i64 55296) t123_79) fun t124_80 =>
 RunA Tryd.prog (bin .sub 3 (.tmp 125) (.const (.int .i64 65536)) a1 (.int .i64 65536)) fun t126_81 =>
 RunA Tryd.prog (bin .and 3 (.tmp 126) (.const (.int .i64 1023)) t126_81 (.int .i64 1023)) fun t127_82 =>
 RunA Tryd.prog (bin .add 3 (.const (.int .i64 56320)) (.tmp 127) (.int .i64 56320) t127_82) fun t128_83 =>
 drw (fun S_84 w =>
 RunA Tryd.prog (bin .shr 3 (.tmp 130) (.const (.int .u64 12)) t124_80 (.int .u64 12)) fun t131_85 =>
 RunA Tryd.prog (bin .shr 3 (.tmp 132) (.const (.int .u64 12)) t124_80 (.int .u64 12)) fun t133_86 =>
 RunA Tryd.prog (bin .add 3 (.tmp 133) (.const (.int .i64 1)) t133_86 (.int .i64 1)) fun t134_87 =>
 RunA Tryd.prog (Instr.sliceAt 9 (.string ⟨#[48, 49, 50, 51, 52, 53, 54, 55, 56, 57, 65, 66, 67, 68, 69, 70]⟩) (some t131_85) (some t134_87) none) fun t135_88 =>
 RunA Tryd.prog (bin .add 9 (.const (.string ⟨#[34, 92, 117]⟩)) (.tmp 135) (.string ⟨#[34, 92, 117]⟩) t135_88) fun t136_89 =>
 RunA Tryd.prog (bin .shr 3 (.tmp 138) (.const (.int .u64 8)) t124_80 (.int .u64 8)) fun t139_90 =>
 RunA Tryd.prog (bin .and 3 (.tmp 139) (.const (.int .i64 15)) t139_90 (.int .i64 15)) fun t140_91 =>
 RunA Tryd.prog (bin .shr 3 (.tmp 141) (.const (.int .u64 8)) t124_80 (.int .u64 8)) fun t142_92 =>
 RunA Tryd.prog (bin .and 3 (.tmp 142) (.const (.int .i64 15)) t142_92 (.int .i64 15)) fun t143_93 =>
 RunA Tryd.prog (bin .add 3 (.tmp 143) (.const (.int .i64 1)) t143_93 (.int .i64 1)) fun t144_94 =>
 RunA Tryd.prog (Instr.sliceAt 9 (.string ⟨#[48, 49, 50, 51, 52, 53, 54, 55, 56, 57, 65, 66, 67, 68, 69, 70]⟩) (some t140_91) (some t144_94) none) fun t145_95 =>
 RunA Tryd.prog (bin .add 9 (.tmp 136) (.tmp 145) t136_89 t145_95) fun t146_96 =>
 RunA Tryd.prog (bin .shr 3 (.tmp 148) (.const (.int .u64 4)) t124_80 (.int .u64 4)) fun t149_97 =>
 RunA Tryd.prog (bin .and 3 (.tmp 149) (.const (.int .i64 15)) t149_97 (.int .i64 15)) fun t150_98 =>
 RunA Tryd.prog (bin .shr 3 (.tmp 151) (.const (.int .u64 4)) t124_80 (.int .u64 4)) fun t152_99 =>
 RunA Tryd.prog (bin .and 3 (.tmp 152) (.const (.int .i64 15)) t152_99 (.int .i64 15)) fun t153_100 =>
 RunA Tryd.prog (bin .add 3 (.tmp 153) (.const (.int .i64 1)) t153_100 (.int .i64 1)) fun t154_101 =>
 RunA Tryd.prog (Instr.sliceAt 9 (.string ⟨#[48, 49, 50, 51, 52, 53, 54, 55, 56, 57, 65, 66, 67, 68, 69, 70]⟩) (some t150_98) (some t154_101) none) fun t155_102 =>
 RunA Tryd.prog (bin .add 9 (.tmp 146) (.tmp 155) t146_96 t155_102) fun t156_103 =>
 RunA Tryd.prog (bin .and 3 (.tmp 158) (.const (.int .i64 15)) t124_80 (.int .i64 15)) fun t159_104 =>
 RunA Tryd.prog (bin .and 3 (.tmp 160) (.const (.int .i64 15)) t124_80 (.int .i64 15)) fun t161_105 =>
 RunA Tryd.prog (bin .add 3 (.tmp 161) (.const (.int .i64 1)) t161_105 (.int .i64 1)) fun t162_106 =>
 RunA Tryd.prog (Instr.sliceAt 9 (.string ⟨#[48, 49, 50, 51, 52, 53, 54, 55, 56, 57, 65, 66, 67, 68, 69, 70]⟩) (some t159_104) (some t162_106) none) fun t163_107 =>
 RunA Tryd.prog (bin .add 9 (.tmp 156) (.tmp 163) t156_103 t163_107) fun t164_108 =>
 RunA Tryd.prog (bin .add 9 (.tmp 164) (.const (.string ⟨#[92, 117]⟩)) t164_108 (.string ⟨#[92, 117]⟩)) fun t165_109 =>
 RunA Tryd.prog (bin .shr 3 (.tmp 167) (.const (.int .u64 12)) t128_83 (.int .u64 12)) fun t168_110 =>
 RunA Tryd.prog (bin .shr 3 (.tmp 169) (.const (.int .u64 12)) t128_83 (.int .u64 12)) fun t170_111 =>
 RunA Tryd.prog (bin .add 3 (.tmp 170) (.const (.int .i64 1)) t170_111 (.int .i64 1)) fun t171_112 =>
 RunA Tryd.prog (Instr.sliceAt 9 (.string ⟨#[48, 49, 50, 51, 52, 53, 54, 55, 56, 57, 65, 66, 67, 68, 69, 70]⟩) (some t168_110) (some t171_112) none) fun t172_113 =>
 RunA Tryd.prog (bin .add 9 (.tmp 165) (.tmp 172) t165_109 t172_113) fun t173_114 =>
 RunA Tryd.prog (bin .shr 3 (.tmp 175) (.const (.int .u64 8)) t128_83 (.int .u64 8)) fun t176_115 =>
 RunA Tryd.prog (bin .and 3 (.tmp 176) (.const (.int .i64 15)) t176_115 (.int .i64 15)) fun t177_116 =>
 RunA Tryd.prog (bin .shr 3 (.tmp 178) (.const (.int .u64 8)) t128_83 (.int .u64 8)) fun t179_117 =>
 RunA Tryd.prog (bin .and 3 (.tmp 179) (.const (.int .i64 15)) t179_117 (.int .i64 15)) fun t180_118 =>
 RunA Tryd.prog (bin .add 3 (.tmp 180) (.const (.int .i64 1)) t180_118 (.int .i64 1)) fun t181_119 =>
 RunA Tryd.prog (Instr.sliceAt 9 (.string ⟨#[48, 49, 50, 51, 52, 53, 54, 55, 56, 57, 65, 66, 67, 68, 69, 70]⟩) (some t177_116) (some t181_119) none) fun t182_120 =>
 RunA Tryd.prog (bin .add 9 (.tmp 173) (.tmp 182) t173_114 t182_120) fun t183_121 =>
 RunA Tryd.prog (bin .shr 3 (.tmp 185) (.const (.int .u64 4)) t128_83 (.int .u64 4)) fun t186_122 =>
 RunA Tryd.prog (bin .and 3 (.tmp 186) (.const (.int .i64 15)) t186_122 (.int .i64 15)) fun t187_123 =>
 RunA Tryd.prog (bin .shr 3 (.tmp 188) (.const (.int .u64 4)) t128_83 (.int .u64 4)) fun t189_124 =>
 RunA Tryd.prog (bin .and 3 (.tmp 189) (.const (.int .i64 15)) t189_124 (.int .i64 15)) fun t190_125 =>
 RunA Tryd.prog (bin .add 3 (.tmp 190) (.const (.int .i64 1)) t190_125 (.int .i64 1)) fun t191_126 =>
 RunA Tryd.prog (Instr.sliceAt 9 (.string ⟨#[48, 49, 50, 51, 52, 53, 54, 55, 56, 57, 65, 66, 67, 68, 69, 70]⟩) (some t187_123) (some t191_126) none) fun t192_127 =>
 RunA Tryd.prog (bin .add 9 (.tmp 183) (.tmp 192) t183_121 t192_127) fun t193_128 =>
 RunA Tryd.prog (bin .and 3 (.tmp 195) (.const (.int .i64 15)) t128_83 (.int .i64 15)) fun t196_129 =>
 RunA Tryd.prog (bin .and 3 (.tmp 197) (.const (.int .i64 15)) t128_83 (.int .i64 15)) fun t198_130 =>
 RunA Tryd.prog (bin .add 3 (.tmp 198) (.const (.int .i64 1)) t198_130 (.int .i64 1)) fun t199_131 =>
 RunA Tryd.prog (Instr.sliceAt 9 (.string ⟨#[48, 49, 50, 51, 52, 53, 54, 55, 56, 57, 65, 66, 67, 68, 69, 70]⟩) (some t196_129) (some t199_131) none) fun t200_132 =>
 RunA Tryd.prog (bin .add 9 (.tmp 193) (.tmp 200) t193_128 t200_132) fun t201_133 =>
 RunA Tryd.prog (bin .add 9 (.tmp 201) (.const (.string ⟨#[34]⟩)) t201_133 (.string ⟨#[34]⟩)) fun t202_134 =>
 CallF Tryd.prog 17 #[t202_134, (.int .i64 0)] w fun t205_135 w =>
 RunA Tryd.prog (Instr.extract t205_135 0) fun t206_136 =>
 RunA Tryd.prog (Instr.extract t205_135 1) fun t207_137 =>
 RunA Tryd.prog (Instr.extract t205_135 2) fun t208_138 =>
 CallF Tryd.prog 18 #[a1] w fun t211_139 w =>
 RunA Tryd.prog (Instr.extract t211_139 0) fun t212_140 =>
 RunA Tryd.prog (Instr.extract t211_139 1) fun t213_141 =>
 CallF Tryd.prog 13 #[] w fun t214_142 w =>
 IfB t214_142 (
 RunW Tryd.prog (bin .eql 23 (.tmp 216) (.const (.int .i64 0)) t208_138 (.int .i64 0)) w fun t217_143 =>
 IfB t217_143 (
 IfB t213_141 (
 RunW Tryd.prog (bin .eql 9 (.tmp 223) (.tmp 224) t206_136 t212_140) w fun t225_144 =>
 IfB t225_144 (
 RunW Tryd.prog (bin .eql 3 (.tmp 228) (.const (.int .i64 14)) t207_137 (.int .i64 14)) w fun t229_145 =>
 R t229_145 w) (
 R (.bool false) w)) (
 R (.bool false) w)) (
 R (.bool false) w)) (
 R (.bool false) w)) w)))))) [(.int .i64 2), (.int .i64 0), (.int .i64 0)] w)))
theorem sh5_calls {a0 a1 : Value} {w : World} {R : Value → World → Prop} (h : sh5 a0 a1 w R) : CallF Tryd.prog 5 #[a0, a1] w R :=
  calls_of_denF (mk := false) (args := [a0, a1]) (an := (.seq (.ops [0, 1]) (.seq (.seq (.ops [0, 1, 20]) (.cond (.seq (.ops [4]) .leaf) .leaf)) (.seq (.seq (.ops [0, 1, 23]) (.cond (.seq (.ops [4]) .leaf) .leaf)) (.seq (.ops [0, 1, 5, 6]) (.seq (.seq (.ops [0, 1, 5, 31]) (.cond (.seq (.ops [4]) .leaf) .leaf)) (.seq (.ops [0, 1, 5, 7, 8]) (.seq (.seq (.ops [0, 1, 5, 7, 8, 9]) (.blk (.loop [0, 1, 5] [7, 8, 9] (.seq (.seq (.ops [0, 1, 5, 7, 8, 9, 41]) (.cond .leaf .leaf)) (.seq (.blk (.blk (.join [0, 1, 5, 7, 8, 9] (.seq (.ops [0, 1, 5, 7, 8, 9, 46]) (.cond (.ops [0, 1, 5, 7, 8, 9]) (.join [0, 1, 5, 7, 8, 9] (.seq (.ops [0, 1, 5, 7, 8, 9, 91]) (.cond (.ops [0, 1, 5, 7, 8, 9]) (.ops [0, 1, 5, 7, 8, 9]))))))))) (.ops [0, 1, 5, 7, 8, 9])))))) (.seq (.seq (.ops [1, 113]) (.cond (.seq (.ops [4]) .leaf) .leaf)) (.seq (.seq (.ops [1, 119]) (.cond (.seq (.ops [4]) .leaf) .leaf)) (.seq (.ops [1, 10]) (.seq (.ops [1, 10, 11, 12]) (.seq (.draw (.q 0 (.q 1 (.q 2 (.q 3 (.q 4 (.q 5 (.q 6 (.q 7 (.q 8 (.q 9 (.q 10 (.q 11 (.q 12 (.q 13 (.q 14 (.q 15 (.q 16 (.q 17 (.q 18 (.q 19 (.q 20 (.q 21 (.q 22 (.q 23 (.q 24 (.q 25 (.q 26 (.q 27 (.q 28 (.q 29 (.q 30 (.q 31 (.q 32 (.q 33 (.q 34 (.q 35 (.q 36 (.q 37 (.q 38 (.q 39 (.q 40 (.q 41 (.q 42 (.q 43 (.q 44 (.q 45 (.q 46 (.q 47 (.q 48 (.q 49 (.q 50 (.q 51 (.q 52 (.q 53 (.q 54 (.q 55 (.q 56 (.q 57 (.q 58 (.q 59 (.q 60 (.q 61 (.q 62 (.q 63 (.q 64 (.q 65 (.q 66 (.q 67 (.q 68 (.q 69 (.q 70 (.q 71 (.q 72 (.q 73 (.q 74 .fin))))))))))))))))))))))))))))))))))))))))))))))))))))))))))))))))))))))))))) [1, 13]) (.seq (.ops [1, 14, 15, 16]) (.seq (.ops [14, 15, 16, 17, 18]) (.seq (.ops [4]) .leaf)))))))))))))))) (c := Tryd.f5.body.getD .skip) hentT Tryd.func5 rfl (Nat.le_of_ble_eq_true (by kernel_rfl))
    (Eq.mp (show sh5 a0 a1 w R = denF Tryd.prog entT false Tryd.f5 (.seq (.ops [0, 1]) (.seq (.seq (.ops [0, 1, 20]) (.cond (.seq (.ops [4]) .leaf) .leaf)) (.seq (.seq (.ops [0, 1, 23]) (.cond (.seq (.ops [4]) .leaf) .leaf)) (.seq (.ops [0, 1, 5, 6]) (.seq (.seq (.ops [0, 1, 5, 31]) (.cond (.seq (.ops [4]) .leaf) .leaf)) (.seq (.ops [0, 1, 5, 7, 8]) (.seq (.seq (.ops [0, 1, 5, 7, 8, 9]) (.blk (.loop [0, 1, 5] [7, 8, 9] (.seq (.seq (.ops [0, 1, 5, 7, 8, 9, 41]) (.cond .leaf .leaf)) (.seq (.blk (.blk (.join [0, 1, 5, 7, 8, 9] (.seq (.ops [0, 1, 5, 7, 8, 9, 46]) (.cond (.ops [0, 1, 5, 7, 8, 9]) (.join [0, 1, 5, 7, 8, 9] (.seq (.ops [0, 1, 5, 7, 8, 9, 91]) (.cond (.ops [0, 1, 5, 7, 8, 9]) (.ops [0, 1, 5, 7, 8, 9]))))))))) (.ops [0, 1, 5, 7, 8, 9])))))) (.seq (.seq (.ops [1, 113]) (.cond (.seq (.ops [4]) .leaf) .leaf)) (.seq (.seq (.ops [1, 119]) (.cond (.seq (.ops [4]) .leaf) .leaf)) (.seq (.ops [1, 10]) (.seq (.ops [1, 10, 11, 12]) (.seq (.draw (.q 0 (.q 1 (.q 2 (.q 3 (.q 4 (.q 5 (.q 6 (.q 7 (.q 8 (.q 9 (.q 10 (.q 11 (.q 12 (.q 13 (.q 14 (.q 15 (.q 16 (.q 17 (.q 18 (.q 19 (.q 20 (.q 21 (.q 22 (.q 23 (.q 24 (.q 25 (.q 26 (.q 27 (.q 28 (.q 29 (.q 30 (.q 31 (.q 32 (.q 33 (.q 34 (.q 35 (.q 36 (.q 37 (.q 38 (.q 39 (.q 40 (.q 41 (.q 42 (.q 43 (.q 44 (.q 45 (.q 46 (.q 47 (.q 48 (.q 49 (.q 50 (.q 51 (.q 52 (.q 53 (.q 54 (.q 55 (.q 56 (.q 57 (.q 58 (.q 59 (.q 60 (.q 61 (.q 62 (.q 63 (.q 64 (.q 65 (.q 66 (.q 67 (.q 68 (.q 69 (.q 70 (.q 71 (.q 72 (.q 73 (.q 74 .fin))))))))))))))))))))))))))))))))))))))))))))))))))))))))))))))))))))))))))) [1, 13]) (.seq (.ops [1, 14, 15, 16]) (.seq (.ops [14, 15, 16, 17, 18]) (.seq (.ops [4]) .leaf))))))))))))))) (Tryd.f5.body.getD .skip) [a0, a1] w R by kernel_rfl) h)

/-! ### 6: handbill/hbllaw3.TextReads -/
def sh6 (a0 a1 a2 a3 : Value) (w : World) (R : Value → World → Prop) : Prop :=
 CallF Tryd.prog 13 #[] w fun t23_1 w =>
 RunA Tryd.prog (Op.unary .not t23_1) fun t24_2 =>
 IfB t24_2 (
 R (.bool false) w) (
 RunW Tryd.prog (Builtin.len_ #[9] 3 #[a0]) w fun t26_3 =>
 RunA Tryd.prog (bin .gtr 3 (.tmp 26) (.const (.int .i64 4000)) t26_3 (.int .i64 4000)) fun t27_4 =>
 IfB t27_4 (
 CallF Tryd.prog 13 #[] w fun t33_5 w =>
 R t33_5 w) (
 RunW Tryd.prog (Builtin.len_ #[9] 3 #[a1]) w fun t30_6 =>
 RunA Tryd.prog (bin .gtr 3 (.tmp 30) (.const (.int .i64 4000)) t30_6 (.int .i64 4000)) fun t31_7 =>
 IfB t31_7 (
 CallF Tryd.prog 13 #[] w fun t33_8 w =>
 R t33_8 w) (
 CallF Tryd.prog 14 #[a0] w fun t36_9 w =>
 RunA Tryd.prog (Instr.extract t36_9 0) fun t37_10 =>
 RunA Tryd.prog (Instr.extract t36_9 1) fun t38_11 =>
 CallF Tryd.prog 19 #[a0] w fun t41_12 w =>
 RunA Tryd.prog (Instr.extract t41_12 0) fun t42_13 =>
 RunA Tryd.prog (Instr.extract t41_12 1) fun t43_14 =>
 CallF Tryd.prog 17 #[a1, a2] w fun t47_15 w =>
 RunA Tryd.prog (Instr.extract t47_15 0) fun t48_16 =>
 RunA Tryd.prog (Instr.extract t47_15 1) fun t49_17 =>
 RunA Tryd.prog (Instr.extract t47_15 2) fun t50_18 =>
 CallF Tryd.prog 20 #[a1, a2] w fun t54_19 w =>
 RunA Tryd.prog (Instr.extract t54_19 0) fun t55_20 =>
 RunA Tryd.prog (Instr.extract t54_19 1) fun t56_21 =>
 RunA Tryd.prog (Instr.extract t54_19 2) fun t57_22 =>
 CallF Tryd.prog 18 #[a3] w fun t60_23 w =>
 RunA Tryd.prog (Instr.extract t60_23 0) fun t61_24 =>
 RunA Tryd.prog (Instr.extract t60_23 1) fun t62_25 =>
 CallF Tryd.prog 21 #[a3] w fun t65_26 w =>
 RunA Tryd.prog (Instr.extract t65_26 0) fun t66_27 =>
 RunA Tryd.prog (Instr.extract t65_26 1) fun t67_28 =>
 CallF Tryd.prog 13 #[] w fun t68_29 w =>
 IfB t68_29 (
 CallF Tryd.prog 15 #[a0] w fun t71_30 w =>
 CallF Tryd.prog 22 #[a0] w fun t73_31 w =>
 RunW Tryd.prog (bin .eql 4 (.tmp 71) (.tmp 73) t71_30 t73_31) w fun t74_32 =>
 IfB t74_32 (
 CallF Tryd.prog 16 #[a0] w fun t78_33 w =>
 CallF Tryd.prog 23 #[a0] w fun t80_34 w =>
 RunW Tryd.prog (bin .eql 3 (.tmp 78) (.tmp 80) t78_33 t80_34) w fun t81_35 =>
 IfB t81_35 (
 RunW Tryd.prog (bin .eql 9 (.tmp 84) (.tmp 85) t37_10 t42_13) w fun t86_36 =>
 IfB t86_36 (
 RunW Tryd.prog (bin .eql 23 (.tmp 89) (.tmp 90) t38_11 t43_14) w fun t91_37 =>
 IfB t91_37 (
 RunW Tryd.prog (bin .eql 9 (.tmp 94) (.tmp 95) t48_16 t55_20) w fun t96_38 =>
 IfB t96_38 (
 RunW Tryd.prog (bin .eql 3 (.tmp 99) (.tmp 100) t49_17 t56_21) w fun t101_39 =>
 IfB t101_39 (
 RunW Tryd.prog (bin .eql 23 (.tmp 104) (.tmp 105) t50_18 t57_22) w fun t106_40 =>
 IfB t106_40 (
 RunW Tryd.prog (bin .eql 9 (.tmp 109) (.tmp 110) t61_24 t66_27) w fun t111_41 =>
 IfB t111_41 (
 RunW Tryd.prog (bin .eql 4 (.tmp 114) (.tmp 115) t62_25 t67_28) w fun t116_42 =>
 R t116_42 w) (
 R (.bool false) w)) (
 R (.bool false) w)) (
 R (.bool false) w)) (
 R (.bool false) w)) (
 R (.bool false) w)) (
 R (.bool false) w)) (
 R (.bool false) w)) (
 R (.bool false) w)) (
 R (.bool false) w))))
theorem sh6_calls {a0 a1 a2 a3 : Value} {w : World} {R : Value → World → Prop} (h : sh6 a0 a1 a2 a3 w R) : CallF Tryd.prog 6 #[a0, a1, a2, a3] w R :=
  calls_of_denF (mk := false) (args := [a0, a1, a2, a3]) (an := (.seq (.ops [0, 1, 2, 3]) (.seq (.seq (.ops [0, 1, 2, 3, 24]) (.cond (.seq (.ops [8]) .leaf) .leaf)) (.seq (.seq (.ops [0, 1, 2, 3, 32]) (.cond (.seq (.ops [8]) .leaf) .leaf)) (.seq (.ops [0, 1, 2, 3, 9, 10]) (.seq (.ops [0, 1, 2, 3, 9, 10, 11, 12]) (.seq (.ops [0, 1, 2, 3, 9, 10, 11, 12, 13, 14, 15]) (.seq (.ops [0, 3, 9, 10, 11, 12, 13, 14, 15, 16, 17, 18]) (.seq (.ops [0, 3, 9, 10, 11, 12, 13, 14, 15, 16, 17, 18, 19, 20]) (.seq (.ops [0, 9, 10, 11, 12, 13, 14, 15, 16, 17, 18, 19, 20, 21, 22]) (.seq (.ops [8]) .leaf))))))))))) (c := Tryd.f6.body.getD .skip) hentT Tryd.func6 rfl (Nat.le_of_ble_eq_true (by kernel_rfl))
    (Eq.mp (show sh6 a0 a1 a2 a3 w R = denF Tryd.prog entT false Tryd.f6 (.seq (.ops [0, 1, 2, 3]) (.seq (.seq (.ops [0, 1, 2, 3, 24]) (.cond (.seq (.ops [8]) .leaf) .leaf)) (.seq (.seq (.ops [0, 1, 2, 3, 32]) (.cond (.seq (.ops [8]) .leaf) .leaf)) (.seq (.ops [0, 1, 2, 3, 9, 10]) (.seq (.ops [0, 1, 2, 3, 9, 10, 11, 12]) (.seq (.ops [0, 1, 2, 3, 9, 10, 11, 12, 13, 14, 15]) (.seq (.ops [0, 3, 9, 10, 11, 12, 13, 14, 15, 16, 17, 18]) (.seq (.ops [0, 3, 9, 10, 11, 12, 13, 14, 15, 16, 17, 18, 19, 20]) (.seq (.ops [0, 9, 10, 11, 12, 13, 14, 15, 16, 17, 18, 19, 20, 21, 22]) (.seq (.ops [8]) .leaf)))))))))) (Tryd.f6.body.getD .skip) [a0, a1, a2, a3] w R by kernel_rfl) h)

/-! ### 7: handbill/hbllaw3.TextSigns -/
def sh7 (a0 a1 : Value) (w : World) (R : Value → World → Prop) : Prop :=
 CallF Tryd.prog 13 #[] w fun t14_1 w =>
 RunA Tryd.prog (Op.unary .not t14_1) fun t15_2 =>
 IfB t15_2 (
 R (.bool false) w) (
 CallF Tryd.prog 18 #[a0] w fun t18_3 w =>
 RunA Tryd.prog (Instr.extract t18_3 0) fun t19_4 =>
 RunA Tryd.prog (Instr.extract t18_3 1) fun t20_5 =>
 CallF Tryd.prog 18 #[a1] w fun t23_6 w =>
 RunA Tryd.prog (Instr.extract t23_6 0) fun t24_7 =>
 RunA Tryd.prog (Instr.extract t23_6 1) fun t25_8 =>
 jn 7 (fun t0_9 t1_10 t5_11 t6_12 t7_13 t8_14 t9_15 w =>
 jn 6 (fun t0_17 t1_18 t5_19 t6_20 t7_21 t8_22 w =>
 RunA Tryd.prog (Op.unary .not t6_20) fun t79_24 =>
 IfB t79_24 (
 CallF Tryd.prog 13 #[] w fun t84_25 w =>
 R t84_25 w) (
 RunA Tryd.prog (Op.unary .not t8_22) fun t82_26 =>
 IfB t82_26 (
 CallF Tryd.prog 13 #[] w fun t84_27 w =>
 R t84_27 w) (
 jn 4 (fun t0_28 t1_29 t5_30 t7_31 w =>
 CallF Tryd.prog 13 #[] w fun t136_33 w =>
 IfB t136_33 (
 RunA Tryd.prog (bin .add 9 (.tmp 138) (.tmp 139) t5_30 t7_31) fun t140_34 =>
 CallF Tryd.prog 16 #[t140_34] w fun t141_35 w =>
 RunW Tryd.prog (bin .eql 3 (.tmp 141) (.const (.int .i64 2)) t141_35 (.int .i64 2)) w fun t142_36 =>
 IfB t142_36 (
 RunW Tryd.prog (bin .eql 9 (.tmp 145) (.tmp 146) t5_30 t7_31) w fun t147_37 =>
 RunW Tryd.prog (bin .eql 3 (.tmp 148) (.tmp 149) t0_28 t1_29) w fun t150_38 =>
 RunW Tryd.prog (bin .eql 4 (.tmp 147) (.tmp 150) t147_37 t150_38) w fun t151_39 =>
 R t151_39 w) (
 R (.bool false) w)) (
 R (.bool false) w)) fun j_32 =>
 RunA Tryd.prog (bin .lss 3 (.tmp 85) (.const (.int .i64 65536)) t0_17 (.int .i64 65536)) fun t86_40 =>
 IfB t86_40 (
 drw (fun S_41 w =>
 RunA Tryd.prog (bin .shr 3 (.tmp 89) (.const (.int .u64 12)) t0_17 (.int .u64 12)) fun t90_42 =>
 RunA Tryd.prog (bin .shr 3 (.tmp 91) (.const (.int .u64 12)) t0_17 (.int .u64 12)) fun t92_43 =>
 RunA Tryd.prog (bin .add 3 (.tmp 92) (.const (.int .i64 1)) t92_43 (.int .i64 1)) fun t93_44 =>
 RunA Tryd.prog (Instr.sliceAt 9 (.string ⟨#[48, 49, 50, 51, 52, 53, 54, 55, 56, 57, 97, 98, 99, 100, 101, 102]⟩) (some t90_42) (some t93_44) none) fun t94_45 =>
 RunA Tryd.prog (bin .add 9 (.const (.string ⟨#[34, 92, 117]⟩)) (.tmp 94) (.string ⟨#[34, 92, 117]⟩) t94_45) fun t95_46 =>
 RunA Tryd.prog (bin .shr 3 (.tmp 97) (.const (.int .u64 8)) t0_17 (.int .u64 8)) fun t98_47 =>
 RunA Tryd.prog (bin .and 3 (.tmp 98) (.const (.int .i64 15)) t98_47 (.int .i64 15)) fun t99_48 =>
 RunA Tryd.prog (bin .shr 3 (.tmp 100) (.const (.int .u64 8)) t0_17 (.int .u64 8)) fun t101_49 =>
 RunA Tryd.prog (bin .and 3 (.tmp 101) (.const (.int .i64 15)) t101_49 (.int .i64 15)) fun t102_50 =>
 RunA Tryd.prog (bin .add 3 (.tmp 102) (.const (.int .i64 1)) t102_50 (.int .i64 1)) fun t103_51 =>
 RunA Tryd.prog (Instr.sliceAt 9 (.string ⟨#[48, 49, 50, 51, 52, 53, 54, 55, 56, 57, 97, 98, 99, 100, 101, 102]⟩) (some t99_48) (some t103_51) none) fun t104_52 =>
 RunA Tryd.prog (bin .add 9 (.tmp 95) (.tmp 104) t95_46 t104_52) fun t105_53 =>
 RunA Tryd.prog (bin .shr 3 (.tmp 107) (.const (.int .u64 4)) t0_17 (.int .u64 4)) fun t108_54 =>
 RunA Tryd.prog (bin .and 3 (.tmp 108) (.const (.int .i64 15)) t108_54 (.int .i64 15)) fun t109_55 =>
 RunA Tryd.prog (bin .shr 3 (.tmp 110) (.const (.int .u64 4)) t0_17 (.int .u64 4)) fun t111_56 =>
 RunA Tryd.prog (bin .and 3 (.tmp 111) (.const (.int .i64 15)) t111_56 (.int .i64 15)) fun t112_57 =>
 RunA Tryd.prog (bin .add 3 (.tmp 112) (.const (.int .i64 1)) t112_57 (.int .i64 1)) fun t113_58 =>
 RunA Tryd.prog (Instr.sliceAt 9 (.string ⟨#[48, 49, 50, 51, 52, 53, 54, 55, 56, 57, 97, 98, 99, 100, 101, 102]⟩) (some t109_55) (some t113_58) none) fun t114_59 =>
 RunA Tryd.prog (bin .add 9 (.tmp 105) (.tmp 114) t105_53 t114_59) fun t115_60 =>
 RunA Tryd.prog (bin .and 3 (.tmp 117) (.const (.int .i64 15)) t0_17 (.int .i64 15)) fun t118_61 =>
 RunA Tryd.prog (bin .and 3 (.tmp 119) (.const (.int .i64 15)) t0_17 (.int .i64 15)) fun t120_62 =>
 RunA Tryd.prog (bin .add 3 (.tmp 120) (.const (.int .i64 1)) t120_62 (.int .i64 1)) fun t121_63 =>
 RunA Tryd.prog (Instr.sliceAt 9 (.string ⟨#[48, 49, 50, 51, 52, 53, 54, 55, 56, 57, 97, 98, 99, 100, 101, 102]⟩) (some t118_61) (some t121_63) none) fun t122_64 =>
 RunA Tryd.prog (bin .add 9 (.tmp 115) (.tmp 122) t115_60 t122_64) fun t123_65 =>
 RunA Tryd.prog (bin .add 9 (.tmp 123) (.const (.string ⟨#[34]⟩)) t123_65 (.string ⟨#[34]⟩)) fun t124_66 =>
 CallF Tryd.prog 17 #[t124_66, (.int .i64 0)] w fun t125_67 w =>
 RunA Tryd.prog (Instr.extract t125_67 0) fun t126_68 =>
 RunA Tryd.prog (Instr.extract t125_67 1) fun t127_69 =>
 RunA Tryd.prog (Instr.extract t125_67 2) fun t128_70 =>
 RunW Tryd.prog (bin .neq 23 (.tmp 129) (.const (.int .i64 0)) t128_70 (.int .i64 0)) w fun t130_71 =>
 IfB t130_71 (
 R (.bool false) w) (
 RunW Tryd.prog (bin .neq 9 (.tmp 132) (.tmp 133) t126_68 t5_19) w fun t134_72 =>
 IfB t134_72 (
 R (.bool false) w) (
 j_32 t0_17 t1_18 t5_19 t7_21 w))) w) (
 j_32 t0_17 t1_18 t5_19 t7_21 w)))) fun j_23 =>
 RunW Tryd.prog (bin .neq 4 (.tmp 40) (.tmp 41) t6_12 t9_15) w fun t42_73 =>
 IfB t42_73 (
 R (.bool false) w) (
 RunA Tryd.prog (Op.unary .not t6_12) fun t45_74 =>
 IfB t45_74 (
 RunW Tryd.prog (bin .neq 9 (.tmp 47) (.const (.string ⟨#[]⟩)) t5_11 (.string ⟨#[]⟩)) w fun t48_75 =>
 IfB t48_75 (
 R (.bool false) w) (
 IfB t6_12 (
 CallF Tryd.prog 16 #[t5_11] w fun t55_76 w =>
 RunW Tryd.prog (bin .neq 3 (.tmp 55) (.const (.int .i64 1)) t55_76 (.int .i64 1)) w fun t56_77 =>
 IfB t56_77 (
 R (.bool false) w) (
 RunW Tryd.prog (Builtin.len_ #[9] 3 #[t5_11]) w fun t59_78 =>
 RunA Tryd.prog (bin .lss 3 (.tmp 59) (.const (.int .i64 1)) t59_78 (.int .i64 1)) fun t60_79 =>
 IfB t60_79 (
 R (.bool false) w) (
 RunW Tryd.prog (Builtin.len_ #[9] 3 #[t5_11]) w fun t64_80 =>
 RunA Tryd.prog (bin .gtr 3 (.tmp 64) (.const (.int .i64 4)) t64_80 (.int .i64 4)) fun t65_81 =>
 IfB t65_81 (
 R (.bool false) w) (
 RunV Tryd.prog (convert 9 37 t5_11) w fun t69_82 w =>
 RunA Tryd.prog (Instr.indexAt 37 t69_82 (.int .i64 0)) fun t70_83 =>
 RunW Tryd.prog (Instr.loadAt 21 t70_83) w fun t71_84 =>
 RunV Tryd.prog (convert 3 21 t0_9) w fun t73_85 w =>
 RunW Tryd.prog (bin .neq 21 (.tmp 71) (.tmp 73) t71_84 t73_85) w fun t74_86 =>
 IfB t74_86 (
 R (.bool false) w) (
 j_23 t0_9 t1_10 t5_11 t6_12 t7_13 t8_14 w))))) (
 j_23 t0_9 t1_10 t5_11 t6_12 t7_13 t8_14 w))) (
 IfB t6_12 (
 CallF Tryd.prog 16 #[t5_11] w fun t55_87 w =>
 RunW Tryd.prog (bin .neq 3 (.tmp 55) (.const (.int .i64 1)) t55_87 (.int .i64 1)) w fun t56_88 =>
 IfB t56_88 (
 R (.bool false) w) (
 RunW Tryd.prog (Builtin.len_ #[9] 3 #[t5_11]) w fun t59_89 =>
 RunA Tryd.prog (bin .lss 3 (.tmp 59) (.const (.int .i64 1)) t59_89 (.int .i64 1)) fun t60_90 =>
 IfB t60_90 (
 R (.bool false) w) (
 RunW Tryd.prog (Builtin.len_ #[9] 3 #[t5_11]) w fun t64_91 =>
 RunA Tryd.prog (bin .gtr 3 (.tmp 64) (.const (.int .i64 4)) t64_91 (.int .i64 4)) fun t65_92 =>
 IfB t65_92 (
 R (.bool false) w) (
 RunV Tryd.prog (convert 9 37 t5_11) w fun t69_93 w =>
 RunA Tryd.prog (Instr.indexAt 37 t69_93 (.int .i64 0)) fun t70_94 =>
 RunW Tryd.prog (Instr.loadAt 21 t70_94) w fun t71_95 =>
 RunV Tryd.prog (convert 3 21 t0_9) w fun t73_96 w =>
 RunW Tryd.prog (bin .neq 21 (.tmp 71) (.tmp 73) t71_95 t73_96) w fun t74_97 =>
 IfB t74_97 (
 R (.bool false) w) (
 j_23 t0_9 t1_10 t5_11 t6_12 t7_13 t8_14 w))))) (
 j_23 t0_9 t1_10 t5_11 t6_12 t7_13 t8_14 w)))) fun j_16 =>
 RunA Tryd.prog (bin .geq 3 (.tmp 26) (.const (.int .i64 0)) a0 (.int .i64 0)) fun t27_98 =>
 IfB t27_98 (
 RunA Tryd.prog (bin .leq 3 (.tmp 29) (.const (.int .i64 1114111)) a0 (.int .i64 1114111)) fun t30_99 =>
 IfB t30_99 (
 RunA Tryd.prog (bin .lss 3 (.tmp 33) (.const (.int .i64 55296)) a0 (.int .i64 55296)) fun t34_100 =>
 IfB t34_100 (
 j_16 a0 a1 t19_4 t20_5 t24_7 t25_8 (.bool true) w) (
 RunA Tryd.prog (bin .gtr 3 (.tmp 36) (.const (.int .i64 57343)) a0 (.int .i64 57343)) fun t37_101 =>
 j_16 a0 a1 t19_4 t20_5 t24_7 t25_8 t37_101 w)) (
 j_16 a0 a1 t19_4 t20_5 t24_7 t25_8 (.bool false) w)) (
 j_16 a0 a1 t19_4 t20_5 t24_7 t25_8 (.bool false) w))
theorem sh7_calls {a0 a1 : Value} {w : World} {R : Value → World → Prop} (h : sh7 a0 a1 w R) : CallF Tryd.prog 7 #[a0, a1] w R :=
  calls_of_denF (mk := false) (args := [a0, a1]) (an := (.seq (.ops [0, 1]) (.seq (.seq (.ops [0, 1, 15]) (.cond (.seq (.ops [4]) .leaf) .leaf)) (.seq (.ops [0, 1, 5, 6]) (.seq (.ops [0, 1, 5, 6, 7, 8]) (.seq (.join [0, 1, 5, 6, 7, 8, 9] (.ops [0, 1, 5, 6, 7, 8, 9])) (.seq (.join [0, 1, 5, 6, 7, 8] (.seq (.ops [0, 1, 5, 6, 7, 8, 77]) (.cond (.seq (.ops [4]) .leaf) .leaf))) (.seq (.seq (.ops [0, 1, 5, 7, 83]) (.cond (.seq (.ops [4]) .leaf) .leaf)) (.seq (.ops [0, 1, 5, 7, 10]) (.seq (.join [0, 1, 5, 7] (.seq (.ops [0, 1, 5, 7, 10, 86]) (.cond (.seq (.draw (.q 0 (.q 1 (.q 2 (.q 3 (.q 4 (.q 5 (.q 6 (.q 7 (.q 8 (.q 9 (.q 10 (.q 11 (.q 12 (.q 13 (.q 14 (.q 15 (.q 16 (.q 17 (.q 18 (.q 19 (.q 20 (.q 21 (.q 22 (.q 23 (.q 24 (.q 25 (.q 26 (.q 27 (.q 28 (.q 29 (.q 30 (.q 31 (.q 32 (.q 33 (.q 34 (.q 35 (.q 36 (.one 37 (.q 38 (.q 39 (.q 40 (.q 41 (.q 42 (.q 43 (.q 44 .fin))))))))))))))))))))))))))))))))))))))))))))) [0, 1, 5, 7, 11, 13]) (.seq (.ops [0, 1, 5, 7, 135]) (.cond (.seq (.ops [4]) .leaf) .leaf))) .leaf))) (.seq (.ops [4]) .leaf))))))))))) (c := Tryd.f7.body.getD .skip) hentT Tryd.func7 rfl (Nat.le_of_ble_eq_true (by kernel_rfl))
    (Eq.mp (show sh7 a0 a1 w R = denF Tryd.prog entT false Tryd.f7 (.seq (.ops [0, 1]) (.seq (.seq (.ops [0, 1, 15]) (.cond (.seq (.ops [4]) .leaf) .leaf)) (.seq (.ops [0, 1, 5, 6]) (.seq (.ops [0, 1, 5, 6, 7, 8]) (.seq (.join [0, 1, 5, 6, 7, 8, 9] (.ops [0, 1, 5, 6, 7, 8, 9])) (.seq (.join [0, 1, 5, 6, 7, 8] (.seq (.ops [0, 1, 5, 6, 7, 8, 77]) (.cond (.seq (.ops [4]) .leaf) .leaf))) (.seq (.seq (.ops [0, 1, 5, 7, 83]) (.cond (.seq (.ops [4]) .leaf) .leaf)) (.seq (.ops [0, 1, 5, 7, 10]) (.seq (.join [0, 1, 5, 7] (.seq (.ops [0, 1, 5, 7, 10, 86]) (.cond (.seq (.draw (.q 0 (.q 1 (.q 2 (.q 3 (.q 4 (.q 5 (.q 6 (.q 7 (.q 8 (.q 9 (.q 10 (.q 11 (.q 12 (.q 13 (.q 14 (.q 15 (.q 16 (.q 17 (.q 18 (.q 19 (.q 20 (.q 21 (.q 22 (.q 23 (.q 24 (.q 25 (.q 26 (.q 27 (.q 28 (.q 29 (.q 30 (.q 31 (.q 32 (.q 33 (.q 34 (.q 35 (.q 36 (.one 37 (.q 38 (.q 39 (.q 40 (.q 41 (.q 42 (.q 43 (.q 44 .fin))))))))))))))))))))))))))))))))))))))))))))) [0, 1, 5, 7, 11, 13]) (.seq (.ops [0, 1, 5, 7, 135]) (.cond (.seq (.ops [4]) .leaf) .leaf))) .leaf))) (.seq (.ops [4]) .leaf)))))))))) (Tryd.f7.body.getD .skip) [a0, a1] w R by kernel_rfl) h)

/-! ### 13: handbill/hbllaw3.first -/
def sh13 (w : World) (R : Value → World → Prop) : Prop :=
 CallF Tryd.prog 14 #[(.string ⟨#[97, 10, 34]⟩)] w fun t7_1 w =>
 RunA Tryd.prog (Instr.extract t7_1 0) fun t8_2 =>
 RunA Tryd.prog (Instr.extract t7_1 1) fun t9_3 =>
 CallF Tryd.prog 17 #[(.string ⟨#[34, 92, 117, 48, 48, 101, 57, 34]⟩), (.int .i64 0)] w fun t11_4 w =>
 RunA Tryd.prog (Instr.extract t11_4 0) fun t12_5 =>
 RunA Tryd.prog (Instr.extract t11_4 1) fun t13_6 =>
 RunA Tryd.prog (Instr.extract t11_4 2) fun t14_7 =>
 RunW Tryd.prog (bin .eql 23 (.tmp 15) (.const (.int .i64 0)) t9_3 (.int .i64 0)) w fun t16_8 =>
 IfB t16_8 (
 RunW Tryd.prog (bin .eql 9 (.tmp 18) (.const (.string ⟨#[34, 97, 92, 110, 92, 34, 34]⟩)) t8_2 (.string ⟨#[34, 97, 92, 110, 92, 34, 34]⟩)) w fun t19_9 =>
 IfB t19_9 (
 RunW Tryd.prog (bin .eql 23 (.tmp 22) (.const (.int .i64 0)) t14_7 (.int .i64 0)) w fun t23_10 =>
 IfB t23_10 (
 RunW Tryd.prog (bin .eql 9 (.tmp 26) (.const (.string ⟨#[195, 169]⟩)) t12_5 (.string ⟨#[195, 169]⟩)) w fun t27_11 =>
 IfB t27_11 (
 RunW Tryd.prog (bin .eql 3 (.tmp 30) (.const (.int .i64 8)) t13_6 (.int .i64 8)) w fun t31_12 =>
 R t31_12 w) (
 R (.bool false) w)) (
 R (.bool false) w)) (
 R (.bool false) w)) (
 R (.bool false) w)
theorem sh13_calls {w : World} {R : Value → World → Prop} (h : sh13  w R) : CallF Tryd.prog 13 #[] w R :=
  calls_of_denF (mk := false) (args := []) (an := (.seq (.ops []) (.seq (.ops [1, 2]) (.seq (.ops [1, 2, 3, 4, 5]) (.seq (.ops [0]) .leaf))))) (c := Tryd.f13.body.getD .skip) hentT Tryd.func13 rfl (Nat.le_of_ble_eq_true (by kernel_rfl))
    (Eq.mp (show sh13  w R = denF Tryd.prog entT false Tryd.f13 (.seq (.ops []) (.seq (.ops [1, 2]) (.seq (.ops [1, 2, 3, 4, 5]) (.seq (.ops [0]) .leaf)))) (Tryd.f13.body.getD .skip) [] w R by kernel_rfl) h)

/-! ### 14: handbill/text.Quote -/
def sh14 (a0 : Value) (w : World) (R : Value → World → Prop) : Prop :=
 CallF Tryd.prog 15 #[a0] w fun t9_1 w =>
 RunA Tryd.prog (Op.unary .not t9_1) fun t10_2 =>
 IfB t10_2 (
 R (.tuple #[(.string ⟨#[]⟩), (.int .i64 4)]) w) (
 RunV Tryd.prog (Instr.alloc 53 true (.tuple #[])) w fun t4_3 w =>
 CallF Tryd.prog 36 #[t4_3, (.int .u8 34)] w fun t11_4 w =>
 RunV Tryd.prog (Instr.range 9 a0) w fun t13_5 w =>
 lp 0 (fun n_6 w =>
 RunV Tryd.prog (Instr.next t13_5 true 0) w fun t14_7 w =>
 RunA Tryd.prog (Instr.extract t14_7 0) fun t15_8 =>
 IfB t15_8 (
 RunA Tryd.prog (Instr.extract t14_7 2) fun t16_9 =>
 CallF Tryd.prog 37 #[t16_9] w fun t18_10 w =>
 jn 2 (fun t4_11 t13_12 w =>
 (t4_11 : Value) = t4_3 ∧ ((t13_12 : Value) = t13_5 ∧ (n_6 w))) fun j_13 =>
 RunW Tryd.prog (bin .neq 5 (.tmp 22) (.const (.int .u8 0)) t18_10 (.int .u8 0)) w fun t23_14 =>
 IfB t23_14 (
 CallF Tryd.prog 36 #[t4_3, (.int .u8 92)] w fun t24_15 w =>
 CallF Tryd.prog 36 #[t4_3, t18_10] w fun t26_16 w =>
 j_13 t4_3 t13_5 w) (
 jn 2 (fun t4_17 t13_18 w =>
 j_13 t4_17 t13_18 w) fun j_19 =>
 RunA Tryd.prog (bin .lss 21 (.tmp 28) (.const (.int .i32 32)) t16_9 (.int .i32 32)) fun t29_20 =>
 IfB t29_20 (
 CallF Tryd.prog 38 #[t4_3, (.string ⟨#[92, 117, 48, 48]⟩)] w fun t30_21 w =>
 RunA Tryd.prog (bin .shr 21 (.tmp 31) (.const (.int .u64 4)) t16_9 (.int .u64 4)) fun t32_22 =>
 RunA Tryd.prog (Instr.index 9 (.string ⟨#[48, 49, 50, 51, 52, 53, 54, 55, 56, 57, 97, 98, 99, 100, 101, 102]⟩) t32_22) fun t33_23 =>
 CallF Tryd.prog 36 #[t4_3, t33_23] w fun t34_24 w =>
 RunA Tryd.prog (bin .and 21 (.tmp 35) (.const (.int .i32 15)) t16_9 (.int .i32 15)) fun t36_25 =>
 RunA Tryd.prog (Instr.index 9 (.string ⟨#[48, 49, 50, 51, 52, 53, 54, 55, 56, 57, 97, 98, 99, 100, 101, 102]⟩) t36_25) fun t37_26 =>
 CallF Tryd.prog 36 #[t4_3, t37_26] w fun t38_27 w =>
 j_19 t4_3 t13_5 w) (
 CallF Tryd.prog 39 #[t4_3, t16_9] w fun t20_28 w =>
 j_19 t4_3 t13_5 w))) (
 CallF Tryd.prog 36 #[t4_3, (.int .u8 34)] w fun t39_29 w =>
 CallF Tryd.prog 40 #[t4_3] w fun t40_30 w =>
 R (.tuple #[t40_30, (.int .i64 0)]) w)) [] w)
theorem sh14_calls {a0 : Value} {w : World} {R : Value → World → Prop} (h : sh14 a0 w R) : CallF Tryd.prog 14 #[a0] w R :=
  calls_of_denF (mk := false) (args := [a0]) (an := (.seq (.ops [0]) (.seq (.seq (.ops [0, 10]) (.cond (.seq (.ops [2, 3]) .leaf) .leaf)) (.seq (.ops [0, 4]) (.seq (.ops [0, 4]) (.seq (.seq (.ops [4, 13]) (.blk (.loop [4, 13] [] (.seq (.ops [4, 13, 14, 15]) (.seq (.cond .leaf .leaf) (.blk (.seq (.ops [4, 6, 13]) (.seq (.ops [4, 6, 7, 13]) (.blk (.join [4, 13] (.seq (.ops [4, 6, 7, 13, 21]) (.cond (.seq (.ops [4, 7, 13]) (.ops [4, 13])) (.join [4, 13] (.seq (.ops [4, 6, 13, 27]) (.cond (.seq (.ops [4, 6, 13]) (.seq (.ops [4, 6, 13]) (.ops [4, 13]))) (.ops [4, 13])))))))))))))))) (.seq (.ops [4]) (.seq (.ops [2, 3]) .leaf)))))))) (c := Tryd.f14.body.getD .skip) hentT Tryd.func14 rfl (Nat.le_of_ble_eq_true (by kernel_rfl))
    (Eq.mp (show sh14 a0 w R = denF Tryd.prog entT false Tryd.f14 (.seq (.ops [0]) (.seq (.seq (.ops [0, 10]) (.cond (.seq (.ops [2, 3]) .leaf) .leaf)) (.seq (.ops [0, 4]) (.seq (.ops [0, 4]) (.seq (.seq (.ops [4, 13]) (.blk (.loop [4, 13] [] (.seq (.ops [4, 13, 14, 15]) (.seq (.cond .leaf .leaf) (.blk (.seq (.ops [4, 6, 13]) (.seq (.ops [4, 6, 7, 13]) (.blk (.join [4, 13] (.seq (.ops [4, 6, 7, 13, 21]) (.cond (.seq (.ops [4, 7, 13]) (.ops [4, 13])) (.join [4, 13] (.seq (.ops [4, 6, 13, 27]) (.cond (.seq (.ops [4, 6, 13]) (.seq (.ops [4, 6, 13]) (.ops [4, 13]))) (.ops [4, 13])))))))))))))))) (.seq (.ops [4]) (.seq (.ops [2, 3]) .leaf))))))) (Tryd.f14.body.getD .skip) [a0] w R by kernel_rfl) h)

/-! ### 15: handbill/text.Valid -/
def sh15 (a0 : Value) (w : World) (R : Value → World → Prop) : Prop :=
 CallF Tryd.prog 41 #[a0] w fun t4_1 w =>
 R t4_1 w
theorem sh15_calls {a0 : Value} {w : World} {R : Value → World → Prop} (h : sh15 a0 w R) : CallF Tryd.prog 15 #[a0] w R :=
  calls_of_denF (mk := false) (args := [a0]) (an := (.seq (.ops [0]) (.seq (.ops [2]) .leaf))) (c := Tryd.f15.body.getD .skip) hentT Tryd.func15 rfl (Nat.le_of_ble_eq_true (by kernel_rfl))
    (Eq.mp (show sh15 a0 w R = denF Tryd.prog entT false Tryd.f15 (.seq (.ops [0]) (.seq (.ops [2]) .leaf)) (Tryd.f15.body.getD .skip) [a0] w R by kernel_rfl) h)

/-! ### 16: handbill/text.Count -/
def sh16 (a0 : Value) (w : World) (R : Value → World → Prop) : Prop :=
 CallF Tryd.prog 15 #[a0] w fun t4_1 w =>
 RunA Tryd.prog (Op.unary .not t4_1) fun t5_2 =>
 IfB t5_2 (
 R (.int .i64 (-1)) w) (
 CallF Tryd.prog 42 #[a0] w fun t7_3 w =>
 R t7_3 w)
theorem sh16_calls {a0 : Value} {w : World} {R : Value → World → Prop} (h : sh16 a0 w R) : CallF Tryd.prog 16 #[a0] w R :=
  calls_of_denF (mk := false) (args := [a0]) (an := (.seq (.ops [0]) (.seq (.seq (.ops [0, 5]) (.cond (.seq (.ops [2]) .leaf) .leaf)) (.seq (.ops [2]) .leaf)))) (c := Tryd.f16.body.getD .skip) hentT Tryd.func16 rfl (Nat.le_of_ble_eq_true (by kernel_rfl))
    (Eq.mp (show sh16 a0 w R = denF Tryd.prog entT false Tryd.f16 (.seq (.ops [0]) (.seq (.seq (.ops [0, 5]) (.cond (.seq (.ops [2]) .leaf) .leaf)) (.seq (.ops [2]) .leaf))) (Tryd.f16.body.getD .skip) [a0] w R by kernel_rfl) h)

/-! ### 17: handbill/text.Unquote -/
def sh17 (a0 a1 : Value) (w : World) (R : Value → World → Prop) : Prop :=
 RunA Tryd.prog (bin .lss 3 (.tmp 10) (.const (.int .i64 0)) a1 (.int .i64 0)) fun t11_1 =>
 IfB t11_1 (
 R (.tuple #[(.string ⟨#[]⟩), (.int .i64 0), (.int .i64 1)]) w) (
 RunW Tryd.prog (Builtin.len_ #[9] 3 #[a0]) w fun t15_2 =>
 RunA Tryd.prog (bin .gtr 3 (.tmp 13) (.tmp 15) a1 t15_2) fun t16_3 =>
 IfB t16_3 (
 R (.tuple #[(.string ⟨#[]⟩), (.int .i64 0), (.int .i64 1)]) w) (
 RunV Tryd.prog (Instr.build 64 #[(0, a0), (1, a1)]) w fun t20_4 w =>
 RunV Tryd.prog (Instr.box 64 t20_4) w fun t21_5 w =>
 CallF Tryd.prog 43 #[t21_5, (.int .u8 34)] w fun t23_6 w =>
 RunV Tryd.prog (Instr.alloc 53 true (.tuple #[])) w fun t8_7 w =>
 lp 0 (fun n_8 w =>
 RunA Tryd.prog (nilV t21_5) fun t25_9 =>
 RunA Tryd.prog (Instr.fieldAt 64 t25_9 2) fun t26_10 =>
 RunW Tryd.prog (Instr.loadAt 23 t26_10) w fun t27_11 =>
 RunW Tryd.prog (bin .eql 23 (.tmp 27) (.const (.int .i64 0)) t27_11 (.int .i64 0)) w fun t28_12 =>
 IfB t28_12 (
 CallF Tryd.prog 44 #[t21_5] w fun t30_13 w =>
 jn 2 (fun t7_14 t8_15 w =>
 (t7_14 : Value) = t21_5 ∧ ((t8_15 : Value) = t8_7 ∧ (n_8 w))) fun j_16 =>
 RunA Tryd.prog (nilV t21_5) fun t35_17 =>
 RunA Tryd.prog (Instr.fieldAt 64 t35_17 2) fun t36_18 =>
 RunW Tryd.prog (Instr.loadAt 23 t36_18) w fun t37_19 =>
 RunW Tryd.prog (bin .neq 23 (.tmp 37) (.const (.int .i64 0)) t37_19 (.int .i64 0)) w fun t38_20 =>
 IfB t38_20 (
 j_16 t21_5 t8_7 w) (
 RunW Tryd.prog (bin .eql 21 (.tmp 40) (.const (.int .i32 34)) t30_13 (.int .i32 34)) w fun t41_21 =>
 IfB t41_21 (
 drw (fun S_22 w =>
 RunA Tryd.prog (nilV t21_5) fun t44_23 =>
 RunA Tryd.prog (Instr.fieldAt 64 t44_23 1) fun t45_24 =>
 RunS Tryd.prog S_22 (Instr.loadAt 3 t45_24) fun t46_25 =>
 CallF Tryd.prog 40 #[t8_7] w fun t42_26 w =>
 S_22 w ∧ (
 R (.tuple #[t42_26, t46_25, (.int .i64 0)]) w)) w) (
 jn 2 (fun t7_27 t8_28 w =>
 j_16 t7_27 t8_28 w) fun j_29 =>
 RunW Tryd.prog (bin .eql 21 (.tmp 48) (.const (.int .i32 92)) t30_13 (.int .i32 92)) w fun t49_30 =>
 IfB t49_30 (
 CallF Tryd.prog 45 #[t21_5] w fun t51_31 w =>
 CallF Tryd.prog 39 #[t8_7, t51_31] w fun t52_32 w =>
 j_29 t21_5 t8_7 w) (
 CallF Tryd.prog 39 #[t8_7, t30_13] w fun t32_33 w =>
 j_29 t21_5 t8_7 w)))) (
 drw (fun S_34 w =>
 RunA Tryd.prog (nilV t21_5) fun t54_35 =>
 RunA Tryd.prog (Instr.fieldAt 64 t54_35 2) fun t55_36 =>
 RunS Tryd.prog S_34 (Instr.loadAt 23 t55_36) fun t56_37 =>
 R (.tuple #[(.string ⟨#[]⟩), (.int .i64 0), t56_37]) w) w)) [] w))
theorem sh17_calls {a0 a1 : Value} {w : World} {R : Value → World → Prop} (h : sh17 a0 a1 w R) : CallF Tryd.prog 17 #[a0, a1] w R :=
  calls_of_denF (mk := false) (args := [a0, a1]) (an := (.seq (.ops [0, 1]) (.seq (.seq (.ops [0, 1, 17]) (.cond (.seq (.ops [4, 5, 6]) .leaf) .leaf)) (.seq (.ops [7]) (.seq (.ops [7]) (.seq (.ops [7, 8]) (.seq (.blk (.loop [7, 8] [] (.seq (.seq (.ops [7, 8, 28]) (.cond .leaf .leaf)) (.blk (.seq (.ops [7, 8, 9]) (.blk (.join [7, 8] (.seq (.ops [7, 8, 9, 33]) (.cond .leaf (.seq (.ops [7, 8, 9, 39]) (.cond (.seq (.draw (.q 1 (.q 2 (.q 3 (.q 4 (.one 0 (.q 5 (.q 6 (.q 7 .fin)))))))) [4, 5, 6]) .leaf) (.join [7, 8] (.seq (.ops [7, 8, 9, 47]) (.cond (.ops [7, 8]) (.ops [7, 8]))))))))))))))) (.seq (.draw (.q 0 (.q 1 (.q 2 (.q 3 (.q 4 (.q 5 (.q 6 .fin))))))) [4, 5, 6]) .leaf)))))))) (c := Tryd.f17.body.getD .skip) hentT Tryd.func17 rfl (Nat.le_of_ble_eq_true (by kernel_rfl))
    (Eq.mp (show sh17 a0 a1 w R = denF Tryd.prog entT false Tryd.f17 (.seq (.ops [0, 1]) (.seq (.seq (.ops [0, 1, 17]) (.cond (.seq (.ops [4, 5, 6]) .leaf) .leaf)) (.seq (.ops [7]) (.seq (.ops [7]) (.seq (.ops [7, 8]) (.seq (.blk (.loop [7, 8] [] (.seq (.seq (.ops [7, 8, 28]) (.cond .leaf .leaf)) (.blk (.seq (.ops [7, 8, 9]) (.blk (.join [7, 8] (.seq (.ops [7, 8, 9, 33]) (.cond .leaf (.seq (.ops [7, 8, 9, 39]) (.cond (.seq (.draw (.q 1 (.q 2 (.q 3 (.q 4 (.one 0 (.q 5 (.q 6 (.q 7 .fin)))))))) [4, 5, 6]) .leaf) (.join [7, 8] (.seq (.ops [7, 8, 9, 47]) (.cond (.ops [7, 8]) (.ops [7, 8]))))))))))))))) (.seq (.draw (.q 0 (.q 1 (.q 2 (.q 3 (.q 4 (.q 5 (.q 6 .fin))))))) [4, 5, 6]) .leaf))))))) (Tryd.f17.body.getD .skip) [a0, a1] w R by kernel_rfl) h)

/-! ### 18: handbill/text.Sign -/
def sh18 (a0 : Value) (w : World) (R : Value → World → Prop) : Prop :=
 RunA Tryd.prog (bin .lss 3 (.tmp 4) (.const (.int .i64 0)) a0 (.int .i64 0)) fun t5_1 =>
 IfB t5_1 (
 R (.tuple #[(.string ⟨#[]⟩), (.bool false)]) w) (
 RunA Tryd.prog (bin .gtr 3 (.tmp 7) (.const (.int .i64 1114111)) a0 (.int .i64 1114111)) fun t8_2 =>
 IfB t8_2 (
 R (.tuple #[(.string ⟨#[]⟩), (.bool false)]) w) (
 RunV Tryd.prog (convert 3 21 a0) w fun t12_3 w =>
 CallF Tryd.prog 46 #[t12_3] w fun t13_4 w =>
 RunA Tryd.prog (Op.unary .not t13_4) fun t14_5 =>
 IfB t14_5 (
 R (.tuple #[(.string ⟨#[]⟩), (.bool false)]) w) (
 RunV Tryd.prog (convert 3 21 a0) w fun t17_6 w =>
 RunV Tryd.prog (convert 21 9 t17_6) w fun t18_7 w =>
 R (.tuple #[t18_7, (.bool true)]) w)))
theorem sh18_calls {a0 : Value} {w : World} {R : Value → World → Prop} (h : sh18 a0 w R) : CallF Tryd.prog 18 #[a0] w R :=
  calls_of_denF (mk := false) (args := [a0]) (an := (.seq (.ops [0]) (.seq (.seq (.ops [0, 15]) (.cond (.seq (.ops [2, 3]) .leaf) .leaf)) (.seq (.ops [2, 3]) .leaf)))) (c := Tryd.f18.body.getD .skip) hentT Tryd.func18 rfl (Nat.le_of_ble_eq_true (by kernel_rfl))
    (Eq.mp (show sh18 a0 w R = denF Tryd.prog entT false Tryd.f18 (.seq (.ops [0]) (.seq (.seq (.ops [0, 15]) (.cond (.seq (.ops [2, 3]) .leaf) .leaf)) (.seq (.ops [2, 3]) .leaf))) (Tryd.f18.body.getD .skip) [a0] w R by kernel_rfl) h)

/-! ### 19: handbill/hblref1.Quote -/
def sh19 (a0 : Value) (w : World) (R : Value → World → Prop) : Prop :=
 CallF Tryd.prog 22 #[a0] w fun t8_1 w =>
 RunA Tryd.prog (Op.unary .not t8_1) fun t9_2 =>
 IfB t9_2 (
 R (.tuple #[(.string ⟨#[]⟩), (.int .i64 4)]) w) (
 RunV Tryd.prog (Instr.buildSlice 49 1 #[(0, (.int .u8 34))]) w fun t10_3 w =>
 lp 2 (fun n_6 t4_4 t5_5 w =>
 RunW Tryd.prog (Builtin.len_ #[9] 3 #[a0]) w fun t13_7 =>
 RunA Tryd.prog (bin .lss 3 (.tmp 11) (.tmp 13) t5_5 t13_7) fun t14_8 =>
 IfB t14_8 (
 RunA Tryd.prog (Instr.index 9 a0 t5_5) fun t19_9 =>
 jn 3 (fun t0_10 t4_11 t5_12 w =>
 RunA Tryd.prog (bin .add 3 (.tmp 15) (.const (.int .i64 1)) t5_12 (.int .i64 1)) fun t16_14 =>
 (t0_10 : Value) = a0 ∧ (n_6 t4_11 t16_14 w)) fun j_13 =>
 CallF Tryd.prog 47 #[t19_9] w fun t26_15 w =>
 RunW Tryd.prog (bin .neq 5 (.tmp 26) (.const (.int .u8 0)) t26_15 (.int .u8 0)) w fun t27_16 =>
 IfB t27_16 (
 CallF Tryd.prog 47 #[t19_9] w fun t30_17 w =>
 RunV Tryd.prog (Instr.buildSlice 49 2 #[(0, (.int .u8 92)), (1, t30_17)]) w fun t31_18 w =>
 RunV Tryd.prog (Builtin.append_ #[49, 49] 49 #[t4_4, t31_18]) w fun t32_19 w =>
 j_13 a0 t32_19 t5_5 w) (
 jn 3 (fun t0_20 t4_21 t5_22 w =>
 j_13 t0_20 t4_21 t5_22 w) fun j_23 =>
 RunA Tryd.prog (bin .lss 5 (.tmp 34) (.const (.int .u8 32)) t19_9 (.int .u8 32)) fun t35_24 =>
 IfB t35_24 (
 RunV Tryd.prog (Instr.buildSlice 49 1 #[(0, t19_9)]) w fun t38_25 w =>
 CallF Tryd.prog 48 #[t38_25] w fun t39_26 w =>
 RunA Tryd.prog (bin .add 9 (.const (.string ⟨#[92, 117, 48, 48]⟩)) (.tmp 39) (.string ⟨#[92, 117, 48, 48]⟩) t39_26) fun t40_27 =>
 RunV Tryd.prog (Builtin.append_ #[49, 9] 49 #[t4_4, t40_27]) w fun t41_28 w =>
 j_23 a0 t41_28 t5_5 w) (
 RunV Tryd.prog (Instr.buildSlice 49 1 #[(0, t19_9)]) w fun t22_29 w =>
 RunV Tryd.prog (Builtin.append_ #[49, 49] 49 #[t4_4, t22_29]) w fun t23_30 w =>
 j_23 a0 t23_30 t5_5 w))) (
 RunV Tryd.prog (Instr.buildSlice 49 1 #[(0, (.int .u8 34))]) w fun t43_31 w =>
 RunV Tryd.prog (Builtin.append_ #[49, 49] 49 #[t4_4, t43_31]) w fun t44_32 w =>
 RunV Tryd.prog (convert 49 9 t44_32) w fun t45_33 w =>
 R (.tuple #[t45_33, (.int .i64 0)]) w)) [t10_3, (.int .i64 0)] w)
theorem sh19_calls {a0 : Value} {w : World} {R : Value → World → Prop} (h : sh19 a0 w R) : CallF Tryd.prog 19 #[a0] w R :=
  calls_of_denF (mk := false) (args := [a0]) (an := (.seq (.ops [0]) (.seq (.seq (.ops [0, 9]) (.cond (.seq (.ops [2, 3]) .leaf) .leaf)) (.seq (.ops [0, 4]) (.seq (.seq (.ops [0, 4, 5]) (.blk (.loop [0] [4, 5] (.seq (.seq (.ops [0, 4, 5, 14]) (.cond .leaf .leaf)) (.seq (.blk (.seq (.ops [0, 4, 5, 6]) (.blk (.join [0, 4, 5] (.seq (.ops [0, 4, 5, 6, 24]) (.cond (.ops [0, 4, 5]) (.join [0, 4, 5] (.seq (.ops [0, 4, 5, 6, 33]) (.cond (.ops [0, 4, 5]) (.ops [0, 4, 5])))))))))) (.ops [0, 4, 5])))))) (.seq (.ops [2, 3]) .leaf)))))) (c := Tryd.f19.body.getD .skip) hentT Tryd.func19 rfl (Nat.le_of_ble_eq_true (by kernel_rfl))
    (Eq.mp (show sh19 a0 w R = denF Tryd.prog entT false Tryd.f19 (.seq (.ops [0]) (.seq (.seq (.ops [0, 9]) (.cond (.seq (.ops [2, 3]) .leaf) .leaf)) (.seq (.ops [0, 4]) (.seq (.seq (.ops [0, 4, 5]) (.blk (.loop [0] [4, 5] (.seq (.seq (.ops [0, 4, 5, 14]) (.cond .leaf .leaf)) (.seq (.blk (.seq (.ops [0, 4, 5, 6]) (.blk (.join [0, 4, 5] (.seq (.ops [0, 4, 5, 6, 24]) (.cond (.ops [0, 4, 5]) (.join [0, 4, 5] (.seq (.ops [0, 4, 5, 6, 33]) (.cond (.ops [0, 4, 5]) (.ops [0, 4, 5])))))))))) (.ops [0, 4, 5])))))) (.seq (.ops [2, 3]) .leaf))))) (Tryd.f19.body.getD .skip) [a0] w R by kernel_rfl) h)

/-! ### 20: handbill/hblref1.Unquote -/
def sh20 (a0 a1 : Value) (w : World) (R : Value → World → Prop) : Prop :=
 RunA Tryd.prog (bin .lss 3 (.tmp 15) (.const (.int .i64 0)) a1 (.int .i64 0)) fun t16_1 =>
 IfB t16_1 (
 R (.tuple #[(.string ⟨#[]⟩), (.int .i64 0), (.int .i64 1)]) w) (
 RunW Tryd.prog (Builtin.len_ #[9] 3 #[a0]) w fun t20_2 =>
 RunA Tryd.prog (bin .gtr 3 (.tmp 18) (.tmp 20) a1 t20_2) fun t21_3 =>
 IfB t21_3 (
 R (.tuple #[(.string ⟨#[]⟩), (.int .i64 0), (.int .i64 1)]) w) (
 RunW Tryd.prog (Builtin.len_ #[9] 3 #[a0]) w fun t26_4 =>
 RunW Tryd.prog (bin .eql 3 (.tmp 24) (.tmp 26) a1 t26_4) w fun t27_5 =>
 IfB t27_5 (
 R (.tuple #[(.string ⟨#[]⟩), (.int .i64 0), (.int .i64 2)]) w) (
 RunA Tryd.prog (Instr.index 9 a0 a1) fun t31_6 =>
 RunW Tryd.prog (bin .neq 5 (.tmp 31) (.const (.int .u8 34)) t31_6 (.int .u8 34)) w fun t32_7 =>
 IfB t32_7 (
 R (.tuple #[(.string ⟨#[]⟩), (.int .i64 0), (.int .i64 4)]) w) (
 RunA Tryd.prog (bin .add 3 (.tmp 33) (.const (.int .i64 1)) a1 (.int .i64 1)) fun t34_8 =>
 lp 2 (fun n_11 t1_9 t7_10 w =>
 RunW Tryd.prog (Builtin.len_ #[9] 3 #[a0]) w fun t37_12 =>
 RunA Tryd.prog (bin .lss 3 (.tmp 35) (.tmp 37) t1_9 t37_12) fun t38_13 =>
 IfB t38_13 (
 jn 3 (fun t0_14 t1_15 t7_16 w =>
 (t0_14 : Value) = a0 ∧ (n_11 t1_15 t7_16 w)) fun j_17 =>
 RunA Tryd.prog (Instr.index 9 a0 t1_9) fun t42_18 =>
 RunW Tryd.prog (bin .eql 5 (.tmp 42) (.const (.int .u8 34)) t42_18 (.int .u8 34)) w fun t43_19 =>
 IfB t43_19 (
 RunA Tryd.prog (bin .add 3 (.tmp 45) (.const (.int .i64 1)) t1_9 (.int .i64 1)) fun t46_20 =>
 R (.tuple #[t7_10, t46_20, (.int .i64 0)]) w) (
 RunA Tryd.prog (Instr.index 9 a0 t1_9) fun t50_21 =>
 RunW Tryd.prog (bin .eql 5 (.tmp 50) (.const (.int .u8 92)) t50_21 (.int .u8 92)) w fun t51_22 =>
 IfB t51_22 (
 CallF Tryd.prog 49 #[a0, t1_9] w fun t55_23 w =>
 RunA Tryd.prog (Instr.extract t55_23 0) fun t56_24 =>
 RunA Tryd.prog (Instr.extract t55_23 1) fun t57_25 =>
 RunA Tryd.prog (Instr.extract t55_23 2) fun t58_26 =>
 RunW Tryd.prog (bin .neq 23 (.tmp 59) (.const (.int .i64 0)) t58_26 (.int .i64 0)) w fun t60_27 =>
 IfB t60_27 (
 R (.tuple #[(.string ⟨#[]⟩), (.int .i64 0), t58_26]) w) (
 RunA Tryd.prog (bin .add 9 (.tmp 62) (.tmp 63) t7_10 t56_24) fun t64_28 =>
 j_17 a0 t57_25 t64_28 w)) (
 CallF Tryd.prog 50 #[a0, t1_9] w fun t69_29 w =>
 RunA Tryd.prog (Instr.extract t69_29 0) fun t70_30 =>
 RunA Tryd.prog (Instr.extract t69_29 1) fun t71_31 =>
 RunA Tryd.prog (Instr.extract t69_29 2) fun t72_32 =>
 RunA Tryd.prog (Op.unary .not t72_32) fun t74_33 =>
 IfB t74_33 (
 R (.tuple #[(.string ⟨#[]⟩), (.int .i64 0), (.int .i64 4)]) w) (
 RunA Tryd.prog (Instr.index 9 a0 t1_9) fun t78_34 =>
 RunA Tryd.prog (bin .lss 5 (.tmp 78) (.const (.int .u8 32)) t78_34 (.int .u8 32)) fun t79_35 =>
 IfB t79_35 (
 R (.tuple #[(.string ⟨#[]⟩), (.int .i64 0), (.int .i64 4)]) w) (
 RunA Tryd.prog (bin .add 3 (.tmp 84) (.tmp 85) t1_9 t71_31) fun t86_36 =>
 RunA Tryd.prog (Instr.sliceAt 9 a0 (some t1_9) (some t86_36) none) fun t87_37 =>
 RunA Tryd.prog (bin .add 9 (.tmp 81) (.tmp 87) t7_10 t87_37) fun t88_38 =>
 RunA Tryd.prog (bin .add 3 (.tmp 89) (.tmp 90) t1_9 t71_31) fun t91_39 =>
 j_17 a0 t91_39 t88_38 w))))) (
 R (.tuple #[(.string ⟨#[]⟩), (.int .i64 0), (.int .i64 2)]) w)) [t34_8, (.string ⟨#[]⟩)] w))))
theorem sh20_calls {a0 a1 : Value} {w : World} {R : Value → World → Prop} (h : sh20 a0 a1 w R) : CallF Tryd.prog 20 #[a0, a1] w R :=
  calls_of_denF (mk := false) (args := [a0, a1]) (an := (.seq (.ops [0, 1]) (.seq (.blk (.seq (.ops [0, 1, 14]) (.cond (.seq (.ops [4, 5, 6]) .leaf) (.seq (.ops [0, 1, 23]) (.cond (.seq (.ops [4, 5, 6]) .leaf) (.seq (.ops [0, 1, 28]) (.cond (.seq (.ops [4, 5, 6]) .leaf) .leaf))))))) (.seq (.ops [0, 1, 7]) (.seq (.ops [0, 1, 7]) (.seq (.blk (.loop [0] [1, 7] (.seq (.seq (.ops [0, 1, 7, 38]) (.cond .leaf .leaf)) (.join [0, 1, 7] (.blk (.seq (.blk (.seq (.ops [0, 1, 7, 39]) (.cond (.seq (.ops [4, 5, 6]) .leaf) (.seq (.ops [0, 1, 7, 47]) (.cond (.seq (.ops [0, 7, 8, 9, 10]) (.seq (.seq (.ops [0, 7, 8, 9, 10, 60]) (.cond (.seq (.ops [4, 5, 6]) .leaf) .leaf)) (.seq (.ops [0, 1, 7]) .leaf))) .leaf))))) (.seq (.ops [0, 1, 7, 12, 13]) (.seq (.seq (.ops [0, 1, 7, 12, 80]) (.cond (.seq (.ops [4, 5, 6]) .leaf) .leaf)) (.ops [0, 1, 7]))))))))) (.seq (.ops [4, 5, 6]) .leaf))))))) (c := Tryd.f20.body.getD .skip) hentT Tryd.func20 rfl (Nat.le_of_ble_eq_true (by kernel_rfl))
    (Eq.mp (show sh20 a0 a1 w R = denF Tryd.prog entT false Tryd.f20 (.seq (.ops [0, 1]) (.seq (.blk (.seq (.ops [0, 1, 14]) (.cond (.seq (.ops [4, 5, 6]) .leaf) (.seq (.ops [0, 1, 23]) (.cond (.seq (.ops [4, 5, 6]) .leaf) (.seq (.ops [0, 1, 28]) (.cond (.seq (.ops [4, 5, 6]) .leaf) .leaf))))))) (.seq (.ops [0, 1, 7]) (.seq (.ops [0, 1, 7]) (.seq (.blk (.loop [0] [1, 7] (.seq (.seq (.ops [0, 1, 7, 38]) (.cond .leaf .leaf)) (.join [0, 1, 7] (.blk (.seq (.blk (.seq (.ops [0, 1, 7, 39]) (.cond (.seq (.ops [4, 5, 6]) .leaf) (.seq (.ops [0, 1, 7, 47]) (.cond (.seq (.ops [0, 7, 8, 9, 10]) (.seq (.seq (.ops [0, 7, 8, 9, 10, 60]) (.cond (.seq (.ops [4, 5, 6]) .leaf) .leaf)) (.seq (.ops [0, 1, 7]) .leaf))) .leaf))))) (.seq (.ops [0, 1, 7, 12, 13]) (.seq (.seq (.ops [0, 1, 7, 12, 80]) (.cond (.seq (.ops [4, 5, 6]) .leaf) .leaf)) (.ops [0, 1, 7]))))))))) (.seq (.ops [4, 5, 6]) .leaf)))))) (Tryd.f20.body.getD .skip) [a0, a1] w R by kernel_rfl) h)

/-! ### 21: handbill/hblref1.Text -/
def sh21 (a0 : Value) (w : World) (R : Value → World → Prop) : Prop :=
 jn 1 (fun t0_1 w =>
 RunA Tryd.prog (bin .shr 3 (.tmp 57) (.const (.int .u64 18)) t0_1 (.int .u64 18)) fun t58_3 =>
 RunA Tryd.prog (bin .or 3 (.const (.int .i64 240)) (.tmp 58) (.int .i64 240) t58_3) fun t59_4 =>
 RunV Tryd.prog (convert 3 5 t59_4) w fun t60_5 w =>
 RunA Tryd.prog (bin .shr 3 (.tmp 61) (.const (.int .u64 12)) t0_1 (.int .u64 12)) fun t62_6 =>
 RunA Tryd.prog (bin .and 3 (.tmp 62) (.const (.int .i64 63)) t62_6 (.int .i64 63)) fun t63_7 =>
 RunA Tryd.prog (bin .or 3 (.const (.int .i64 128)) (.tmp 63) (.int .i64 128) t63_7) fun t64_8 =>
 RunV Tryd.prog (convert 3 5 t64_8) w fun t65_9 w =>
 RunA Tryd.prog (bin .shr 3 (.tmp 66) (.const (.int .u64 6)) t0_1 (.int .u64 6)) fun t67_10 =>
 RunA Tryd.prog (bin .and 3 (.tmp 67) (.const (.int .i64 63)) t67_10 (.int .i64 63)) fun t68_11 =>
 RunA Tryd.prog (bin .or 3 (.const (.int .i64 128)) (.tmp 68) (.int .i64 128) t68_11) fun t69_12 =>
 RunV Tryd.prog (convert 3 5 t69_12) w fun t70_13 w =>
 RunA Tryd.prog (bin .and 3 (.tmp 71) (.const (.int .i64 63)) t0_1 (.int .i64 63)) fun t72_14 =>
 RunA Tryd.prog (bin .or 3 (.const (.int .i64 128)) (.tmp 72) (.int .i64 128) t72_14) fun t73_15 =>
 RunV Tryd.prog (convert 3 5 t73_15) w fun t74_16 w =>
 RunV Tryd.prog (Instr.buildSlice 49 4 #[(0, t60_5), (1, t65_9), (2, t70_13), (3, t74_16)]) w fun t75_17 w =>
 RunV Tryd.prog (convert 49 9 t75_17) w fun t76_18 w =>
 R (.tuple #[t76_18, (.bool true)]) w) fun j_2 =>
 RunA Tryd.prog (bin .lss 3 (.tmp 5) (.const (.int .i64 0)) a0 (.int .i64 0)) fun t6_19 =>
 IfB t6_19 (
 R (.tuple #[(.string ⟨#[]⟩), (.bool false)]) w) (
 RunA Tryd.prog (bin .gtr 3 (.tmp 8) (.const (.int .i64 1114111)) a0 (.int .i64 1114111)) fun t9_20 =>
 IfB t9_20 (
 R (.tuple #[(.string ⟨#[]⟩), (.bool false)]) w) (
 RunA Tryd.prog (bin .geq 3 (.tmp 12) (.const (.int .i64 55296)) a0 (.int .i64 55296)) fun t13_21 =>
 IfB t13_21 (
 RunA Tryd.prog (bin .leq 3 (.tmp 15) (.const (.int .i64 57343)) a0 (.int .i64 57343)) fun t16_22 =>
 IfB t16_22 (
 R (.tuple #[(.string ⟨#[]⟩), (.bool false)]) w) (
 RunA Tryd.prog (bin .lss 3 (.tmp 20) (.const (.int .i64 128)) a0 (.int .i64 128)) fun t21_23 =>
 IfB t21_23 (
 RunV Tryd.prog (convert 3 5 a0) w fun t23_24 w =>
 RunV Tryd.prog (Instr.buildSlice 49 1 #[(0, t23_24)]) w fun t24_25 w =>
 RunV Tryd.prog (convert 49 9 t24_25) w fun t25_26 w =>
 R (.tuple #[t25_26, (.bool true)]) w) (
 RunA Tryd.prog (bin .lss 3 (.tmp 27) (.const (.int .i64 2048)) a0 (.int .i64 2048)) fun t28_27 =>
 IfB t28_27 (
 RunA Tryd.prog (bin .shr 3 (.tmp 29) (.const (.int .u64 6)) a0 (.int .u64 6)) fun t30_28 =>
 RunA Tryd.prog (bin .or 3 (.const (.int .i64 192)) (.tmp 30) (.int .i64 192) t30_28) fun t31_29 =>
 RunV Tryd.prog (convert 3 5 t31_29) w fun t32_30 w =>
 RunA Tryd.prog (bin .and 3 (.tmp 33) (.const (.int .i64 63)) a0 (.int .i64 63)) fun t34_31 =>
 RunA Tryd.prog (bin .or 3 (.const (.int .i64 128)) (.tmp 34) (.int .i64 128) t34_31) fun t35_32 =>
 RunV Tryd.prog (convert 3 5 t35_32) w fun t36_33 w =>
 RunV Tryd.prog (Instr.buildSlice 49 2 #[(0, t32_30), (1, t36_33)]) w fun t37_34 w =>
 RunV Tryd.prog (convert 49 9 t37_34) w fun t38_35 w =>
 R (.tuple #[t38_35, (.bool true)]) w) (
 RunA Tryd.prog (bin .lss 3 (.tmp 40) (.const (.int .i64 65536)) a0 (.int .i64 65536)) fun t41_36 =>
 IfB t41_36 (
 RunA Tryd.prog (bin .shr 3 (.tmp 42) (.const (.int .u64 12)) a0 (.int .u64 12)) fun t43_37 =>
 RunA Tryd.prog (bin .or 3 (.const (.int .i64 224)) (.tmp 43) (.int .i64 224) t43_37) fun t44_38 =>
 RunV Tryd.prog (convert 3 5 t44_38) w fun t45_39 w =>
 RunA Tryd.prog (bin .shr 3 (.tmp 46) (.const (.int .u64 6)) a0 (.int .u64 6)) fun t47_40 =>
 RunA Tryd.prog (bin .and 3 (.tmp 47) (.const (.int .i64 63)) t47_40 (.int .i64 63)) fun t48_41 =>
 RunA Tryd.prog (bin .or 3 (.const (.int .i64 128)) (.tmp 48) (.int .i64 128) t48_41) fun t49_42 =>
 RunV Tryd.prog (convert 3 5 t49_42) w fun t50_43 w =>
 RunA Tryd.prog (bin .and 3 (.tmp 51) (.const (.int .i64 63)) a0 (.int .i64 63)) fun t52_44 =>
 RunA Tryd.prog (bin .or 3 (.const (.int .i64 128)) (.tmp 52) (.int .i64 128) t52_44) fun t53_45 =>
 RunV Tryd.prog (convert 3 5 t53_45) w fun t54_46 w =>
 RunV Tryd.prog (Instr.buildSlice 49 3 #[(0, t45_39), (1, t50_43), (2, t54_46)]) w fun t55_47 w =>
 RunV Tryd.prog (convert 49 9 t55_47) w fun t56_48 w =>
 R (.tuple #[t56_48, (.bool true)]) w) (
 j_2 a0 w))))) (
 RunA Tryd.prog (bin .lss 3 (.tmp 20) (.const (.int .i64 128)) a0 (.int .i64 128)) fun t21_49 =>
 IfB t21_49 (
 RunV Tryd.prog (convert 3 5 a0) w fun t23_50 w =>
 RunV Tryd.prog (Instr.buildSlice 49 1 #[(0, t23_50)]) w fun t24_51 w =>
 RunV Tryd.prog (convert 49 9 t24_51) w fun t25_52 w =>
 R (.tuple #[t25_52, (.bool true)]) w) (
 RunA Tryd.prog (bin .lss 3 (.tmp 27) (.const (.int .i64 2048)) a0 (.int .i64 2048)) fun t28_53 =>
 IfB t28_53 (
 RunA Tryd.prog (bin .shr 3 (.tmp 29) (.const (.int .u64 6)) a0 (.int .u64 6)) fun t30_54 =>
 RunA Tryd.prog (bin .or 3 (.const (.int .i64 192)) (.tmp 30) (.int .i64 192) t30_54) fun t31_55 =>
 RunV Tryd.prog (convert 3 5 t31_55) w fun t32_56 w =>
 RunA Tryd.prog (bin .and 3 (.tmp 33) (.const (.int .i64 63)) a0 (.int .i64 63)) fun t34_57 =>
 RunA Tryd.prog (bin .or 3 (.const (.int .i64 128)) (.tmp 34) (.int .i64 128) t34_57) fun t35_58 =>
 RunV Tryd.prog (convert 3 5 t35_58) w fun t36_59 w =>
 RunV Tryd.prog (Instr.buildSlice 49 2 #[(0, t32_56), (1, t36_59)]) w fun t37_60 w =>
 RunV Tryd.prog (convert 49 9 t37_60) w fun t38_61 w =>
 R (.tuple #[t38_61, (.bool true)]) w) (
 RunA Tryd.prog (bin .lss 3 (.tmp 40) (.const (.int .i64 65536)) a0 (.int .i64 65536)) fun t41_62 =>
 IfB t41_62 (
 RunA Tryd.prog (bin .shr 3 (.tmp 42) (.const (.int .u64 12)) a0 (.int .u64 12)) fun t43_63 =>
 RunA Tryd.prog (bin .or 3 (.const (.int .i64 224)) (.tmp 43) (.int .i64 224) t43_63) fun t44_64 =>
 RunV Tryd.prog (convert 3 5 t44_64) w fun t45_65 w =>
 RunA Tryd.prog (bin .shr 3 (.tmp 46) (.const (.int .u64 6)) a0 (.int .u64 6)) fun t47_66 =>
 RunA Tryd.prog (bin .and 3 (.tmp 47) (.const (.int .i64 63)) t47_66 (.int .i64 63)) fun t48_67 =>
 RunA Tryd.prog (bin .or 3 (.const (.int .i64 128)) (.tmp 48) (.int .i64 128) t48_67) fun t49_68 =>
 RunV Tryd.prog (convert 3 5 t49_68) w fun t50_69 w =>
 RunA Tryd.prog (bin .and 3 (.tmp 51) (.const (.int .i64 63)) a0 (.int .i64 63)) fun t52_70 =>
 RunA Tryd.prog (bin .or 3 (.const (.int .i64 128)) (.tmp 52) (.int .i64 128) t52_70) fun t53_71 =>
 RunV Tryd.prog (convert 3 5 t53_71) w fun t54_72 w =>
 RunV Tryd.prog (Instr.buildSlice 49 3 #[(0, t45_65), (1, t50_69), (2, t54_72)]) w fun t55_73 w =>
 RunV Tryd.prog (convert 49 9 t55_73) w fun t56_74 w =>
 R (.tuple #[t56_74, (.bool true)]) w) (
 j_2 a0 w))))))
theorem sh21_calls {a0 : Value} {w : World} {R : Value → World → Prop} (h : sh21 a0 w R) : CallF Tryd.prog 21 #[a0] w R :=
  calls_of_denF (mk := false) (args := [a0]) (an := (.seq (.ops [0]) (.seq (.blk (.join [0] (.seq (.ops [0, 4]) (.cond (.seq (.ops [2, 3]) .leaf) (.seq (.ops [0, 19]) (.cond (.seq (.ops [2, 3]) .leaf) (.seq (.ops [0, 26]) (.cond (.seq (.ops [2, 3]) .leaf) (.seq (.ops [0, 39]) (.cond (.seq (.ops [2, 3]) .leaf) .leaf)))))))))) (.seq (.ops [2, 3]) .leaf)))) (c := Tryd.f21.body.getD .skip) hentT Tryd.func21 rfl (Nat.le_of_ble_eq_true (by kernel_rfl))
    (Eq.mp (show sh21 a0 w R = denF Tryd.prog entT false Tryd.f21 (.seq (.ops [0]) (.seq (.blk (.join [0] (.seq (.ops [0, 4]) (.cond (.seq (.ops [2, 3]) .leaf) (.seq (.ops [0, 19]) (.cond (.seq (.ops [2, 3]) .leaf) (.seq (.ops [0, 26]) (.cond (.seq (.ops [2, 3]) .leaf) (.seq (.ops [0, 39]) (.cond (.seq (.ops [2, 3]) .leaf) .leaf)))))))))) (.seq (.ops [2, 3]) .leaf))) (Tryd.f21.body.getD .skip) [a0] w R by kernel_rfl) h)

/-! ### 22: handbill/hblref1.Valid -/
def sh22 (a0 : Value) (w : World) (R : Value → World → Prop) : Prop :=
 CallF Tryd.prog 23 #[a0] w fun t4_1 w =>
 RunA Tryd.prog (bin .geq 3 (.tmp 4) (.const (.int .i64 0)) t4_1 (.int .i64 0)) fun t5_2 =>
 R t5_2 w
theorem sh22_calls {a0 : Value} {w : World} {R : Value → World → Prop} (h : sh22 a0 w R) : CallF Tryd.prog 22 #[a0] w R :=
  calls_of_denF (mk := false) (args := [a0]) (an := (.seq (.ops [0]) (.seq (.ops [2]) .leaf))) (c := Tryd.f22.body.getD .skip) hentT Tryd.func22 rfl (Nat.le_of_ble_eq_true (by kernel_rfl))
    (Eq.mp (show sh22 a0 w R = denF Tryd.prog entT false Tryd.f22 (.seq (.ops [0]) (.seq (.ops [2]) .leaf)) (Tryd.f22.body.getD .skip) [a0] w R by kernel_rfl) h)

/-! ### 23: handbill/hblref1.Count -/
def sh23 (a0 : Value) (w : World) (R : Value → World → Prop) : Prop :=
 lp 2 (fun n_3 t3_1 t4_2 w =>
 RunW Tryd.prog (Builtin.len_ #[9] 3 #[a0]) w fun t10_4 =>
 RunA Tryd.prog (bin .lss 3 (.tmp 8) (.tmp 10) t4_2 t10_4) fun t11_5 =>
 IfB t11_5 (
 CallF Tryd.prog 50 #[a0, t4_2] w fun t17_6 w =>
 RunA Tryd.prog (Instr.extract t17_6 0) fun t18_7 =>
 RunA Tryd.prog (Instr.extract t17_6 1) fun t19_8 =>
 RunA Tryd.prog (Instr.extract t17_6 2) fun t20_9 =>
 RunA Tryd.prog (Op.unary .not t20_9) fun t22_10 =>
 IfB t22_10 (
 R (.int .i64 (-1)) w) (
 RunA Tryd.prog (bin .add 3 (.tmp 23) (.tmp 24) t4_2 t19_8) fun t25_11 =>
 RunA Tryd.prog (bin .add 3 (.tmp 12) (.const (.int .i64 1)) t3_1 (.int .i64 1)) fun t13_12 =>
 (a0 : Value) = a0 ∧ (n_3 t13_12 t25_11 w))) (
 R t3_1 w)) [(.int .i64 0), (.int .i64 0)] w
theorem sh23_calls {a0 : Value} {w : World} {R : Value → World → Prop} (h : sh23 a0 w R) : CallF Tryd.prog 23 #[a0] w R :=
  calls_of_denF (mk := false) (args := [a0]) (an := (.seq (.ops [0]) (.seq (.ops [0, 3]) (.seq (.seq (.ops [0, 3, 4]) (.blk (.loop [0] [3, 4] (.seq (.seq (.ops [0, 3, 4, 11]) (.cond .leaf .leaf)) (.seq (.blk (.seq (.ops [0, 3, 4, 6, 7]) (.seq (.seq (.ops [0, 3, 4, 6, 22]) (.cond (.seq (.ops [2]) .leaf) .leaf)) (.ops [0, 3, 4])))) (.ops [0, 3, 4])))))) (.seq (.ops [2]) .leaf))))) (c := Tryd.f23.body.getD .skip) hentT Tryd.func23 rfl (Nat.le_of_ble_eq_true (by kernel_rfl))
    (Eq.mp (show sh23 a0 w R = denF Tryd.prog entT false Tryd.f23 (.seq (.ops [0]) (.seq (.ops [0, 3]) (.seq (.seq (.ops [0, 3, 4]) (.blk (.loop [0] [3, 4] (.seq (.seq (.ops [0, 3, 4, 11]) (.cond .leaf .leaf)) (.seq (.blk (.seq (.ops [0, 3, 4, 6, 7]) (.seq (.seq (.ops [0, 3, 4, 6, 22]) (.cond (.seq (.ops [2]) .leaf) .leaf)) (.ops [0, 3, 4])))) (.ops [0, 3, 4])))))) (.seq (.ops [2]) .leaf)))) (Tryd.f23.body.getD .skip) [a0] w R by kernel_rfl) h)

/-! ### 36: (*strings.Builder).WriteByte -/
def sh36 (a0 a1 : Value) (w : World) (R : Value → World → Prop) : Prop :=
 CallF Tryd.prog 76 #[a0] w fun t6_1 w =>
 RunA Tryd.prog (nilV a0) fun t9_2 =>
 RunA Tryd.prog (Instr.fieldAt 53 t9_2 1) fun t10_3 =>
 RunW Tryd.prog (Instr.loadAt 49 t10_3) w fun t11_4 =>
 RunV Tryd.prog (Instr.buildSlice 49 1 #[(0, a1)]) w fun t13_5 w =>
 RunV Tryd.prog (Builtin.append_ #[49, 49] 49 #[t11_4, t13_5]) w fun t14_6 w =>
 RunA Tryd.prog (nilV a0) fun t15_7 =>
 RunA Tryd.prog (Instr.fieldAt 53 t15_7 1) fun t16_8 =>
 RunU Tryd.prog (Instr.storeAt 49 t16_8 t14_6) w fun w =>
 R (.nilIface) w
theorem sh36_calls {a0 a1 : Value} {w : World} {R : Value → World → Prop} (h : sh36 a0 a1 w R) : CallF Tryd.prog 36 #[a0, a1] w R :=
  calls_of_denF (mk := false) (args := [a0, a1]) (an := (.seq (.ops [0, 1]) (.seq (.ops [0, 1]) (.seq (.ops []) (.seq (.ops [4]) .leaf))))) (c := Tryd.f36.body.getD .skip) hentT Tryd.func36 rfl (Nat.le_of_ble_eq_true (by kernel_rfl))
    (Eq.mp (show sh36 a0 a1 w R = denF Tryd.prog entT false Tryd.f36 (.seq (.ops [0, 1]) (.seq (.ops [0, 1]) (.seq (.ops []) (.seq (.ops [4]) .leaf)))) (Tryd.f36.body.getD .skip) [a0, a1] w R by kernel_rfl) h)

/-! ### 37: handbill/text.letter -/
def sh37 (a0 : Value) (w : World) (R : Value → World → Prop) : Prop :=
 lp 1 (fun n_2 t3_1 w =>
 RunA Tryd.prog (bin .lss 3 (.tmp 4) (.const (.int .i64 14)) t3_1 (.int .i64 14)) fun t5_3 =>
 IfB t5_3 (
 RunA Tryd.prog (Instr.index 9 (.string ⟨#[34, 34, 92, 92, 8, 98, 12, 102, 10, 110, 13, 114, 9, 116]⟩) t3_1) fun t9_4 =>
 RunV Tryd.prog (convert 5 21 t9_4) w fun t10_5 w =>
 RunW Tryd.prog (bin .eql 21 (.tmp 10) (.tmp 11) t10_5 a0) w fun t12_6 =>
 IfB t12_6 (
 RunA Tryd.prog (bin .add 3 (.tmp 13) (.const (.int .i64 1)) t3_1 (.int .i64 1)) fun t14_7 =>
 RunA Tryd.prog (Instr.index 9 (.string ⟨#[34, 34, 92, 92, 8, 98, 12, 102, 10, 110, 13, 114, 9, 116]⟩) t14_7) fun t15_8 =>
 R t15_8 w) (
 RunA Tryd.prog (bin .add 3 (.tmp 6) (.const (.int .i64 2)) t3_1 (.int .i64 2)) fun t7_9 =>
 (a0 : Value) = a0 ∧ (n_2 t7_9 w))) (
 R (.int .u8 0) w)) [(.int .i64 0)] w
theorem sh37_calls {a0 : Value} {w : World} {R : Value → World → Prop} (h : sh37 a0 w R) : CallF Tryd.prog 37 #[a0] w R :=
  calls_of_denF (mk := false) (args := [a0]) (an := (.seq (.ops [0]) (.seq (.seq (.ops [0, 3]) (.blk (.loop [0] [3] (.seq (.seq (.ops [0, 3, 5]) (.cond .leaf .leaf)) (.seq (.blk (.seq (.ops [0, 3, 12]) (.cond (.seq (.ops [2]) .leaf) .leaf))) (.ops [0, 3])))))) (.seq (.ops [2]) .leaf)))) (c := Tryd.f37.body.getD .skip) hentT Tryd.func37 rfl (Nat.le_of_ble_eq_true (by kernel_rfl))
    (Eq.mp (show sh37 a0 w R = denF Tryd.prog entT false Tryd.f37 (.seq (.ops [0]) (.seq (.seq (.ops [0, 3]) (.blk (.loop [0] [3] (.seq (.seq (.ops [0, 3, 5]) (.cond .leaf .leaf)) (.seq (.blk (.seq (.ops [0, 3, 12]) (.cond (.seq (.ops [2]) .leaf) .leaf))) (.ops [0, 3])))))) (.seq (.ops [2]) .leaf))) (Tryd.f37.body.getD .skip) [a0] w R by kernel_rfl) h)

/-! ### 38: (*strings.Builder).WriteString -/
def sh38 (a0 a1 : Value) (w : World) (R : Value → World → Prop) : Prop :=
 CallF Tryd.prog 76 #[a0] w fun t7_1 w =>
 RunA Tryd.prog (nilV a0) fun t10_2 =>
 RunA Tryd.prog (Instr.fieldAt 53 t10_2 1) fun t11_3 =>
 RunW Tryd.prog (Instr.loadAt 49 t11_3) w fun t12_4 =>
 RunV Tryd.prog (Builtin.append_ #[49, 9] 49 #[t12_4, a1]) w fun t14_5 w =>
 RunA Tryd.prog (nilV a0) fun t15_6 =>
 RunA Tryd.prog (Instr.fieldAt 53 t15_6 1) fun t16_7 =>
 RunU Tryd.prog (Instr.storeAt 49 t16_7 t14_5) w fun w =>
 RunW Tryd.prog (Builtin.len_ #[9] 3 #[a1]) w fun t18_8 =>
 R (.tuple #[t18_8, (.nilIface)]) w
theorem sh38_calls {a0 a1 : Value} {w : World} {R : Value → World → Prop} (h : sh38 a0 a1 w R) : CallF Tryd.prog 38 #[a0, a1] w R :=
  calls_of_denF (mk := false) (args := [a0, a1]) (an := (.seq (.ops [0, 1]) (.seq (.ops [0, 1]) (.seq (.ops [1]) (.seq (.ops [4, 5]) .leaf))))) (c := Tryd.f38.body.getD .skip) hentT Tryd.func38 rfl (Nat.le_of_ble_eq_true (by kernel_rfl))
    (Eq.mp (show sh38 a0 a1 w R = denF Tryd.prog entT false Tryd.f38 (.seq (.ops [0, 1]) (.seq (.ops [0, 1]) (.seq (.ops [1]) (.seq (.ops [4, 5]) .leaf)))) (Tryd.f38.body.getD .skip) [a0, a1] w R by kernel_rfl) h)

/-! ### 39: (*strings.Builder).WriteRune -/
def sh39 (a0 a1 : Value) (w : World) (R : Value → World → Prop) : Prop :=
 CallF Tryd.prog 76 #[a0] w fun t8_1 w =>
 RunA Tryd.prog (nilV a0) fun t10_2 =>
 RunA Tryd.prog (Instr.fieldAt 53 t10_2 1) fun t11_3 =>
 RunW Tryd.prog (Instr.loadAt 49 t11_3) w fun t12_4 =>
 RunW Tryd.prog (Builtin.len_ #[49] 3 #[t12_4]) w fun t13_5 =>
 RunA Tryd.prog (nilV a0) fun t16_6 =>
 RunA Tryd.prog (Instr.fieldAt 53 t16_6 1) fun t17_7 =>
 RunW Tryd.prog (Instr.loadAt 49 t17_7) w fun t18_8 =>
 CallF Tryd.prog 77 #[t18_8, a1] w fun t20_9 w =>
 RunA Tryd.prog (nilV a0) fun t21_10 =>
 RunA Tryd.prog (Instr.fieldAt 53 t21_10 1) fun t22_11 =>
 RunU Tryd.prog (Instr.storeAt 49 t22_11 t20_9) w fun w =>
 RunA Tryd.prog (nilV a0) fun t24_12 =>
 RunA Tryd.prog (Instr.fieldAt 53 t24_12 1) fun t25_13 =>
 RunW Tryd.prog (Instr.loadAt 49 t25_13) w fun t26_14 =>
 RunW Tryd.prog (Builtin.len_ #[49] 3 #[t26_14]) w fun t27_15 =>
 RunA Tryd.prog (bin .sub 3 (.tmp 27) (.tmp 28) t27_15 t13_5) fun t29_16 =>
 R (.tuple #[t29_16, (.nilIface)]) w
theorem sh39_calls {a0 a1 : Value} {w : World} {R : Value → World → Prop} (h : sh39 a0 a1 w R) : CallF Tryd.prog 39 #[a0, a1] w R :=
  calls_of_denF (mk := false) (args := [a0, a1]) (an := (.seq (.ops [0, 1]) (.seq (.ops [0, 1]) (.seq (.ops [0, 1, 6]) (.seq (.ops [0, 6]) (.seq (.ops [4, 5]) .leaf)))))) (c := Tryd.f39.body.getD .skip) hentT Tryd.func39 rfl (Nat.le_of_ble_eq_true (by kernel_rfl))
    (Eq.mp (show sh39 a0 a1 w R = denF Tryd.prog entT false Tryd.f39 (.seq (.ops [0, 1]) (.seq (.ops [0, 1]) (.seq (.ops [0, 1, 6]) (.seq (.ops [0, 6]) (.seq (.ops [4, 5]) .leaf))))) (Tryd.f39.body.getD .skip) [a0, a1] w R by kernel_rfl) h)

/-! ### 40: (*strings.Builder).String -/
def sh40 (a0 : Value) (w : World) (R : Value → World → Prop) : Prop :=
 drw (fun S_1 w =>
 RunA Tryd.prog (nilV a0) fun t4_2 =>
 RunA Tryd.prog (Instr.fieldAt 53 t4_2 1) fun t5_3 =>
 RunS Tryd.prog S_1 (Instr.loadAt 49 t5_3) fun t6_4 =>
 RunA Tryd.prog (nilV a0) fun t9_5 =>
 RunA Tryd.prog (Instr.fieldAt 53 t9_5 1) fun t10_6 =>
 RunS Tryd.prog S_1 (Instr.loadAt 49 t10_6) fun t11_7 =>
 RunS Tryd.prog S_1 (Builtin.len_ #[49] 3 #[t11_7]) fun t12_8 =>
 RunV Tryd.prog (Builtin.unsafeSliceData_ #[49] 93 #[t6_4]) w fun t7_9 w =>
 S_1 w ∧ (
 RunV Tryd.prog (Builtin.unsafeString_ #[93, 3] 9 #[t7_9, t12_8]) w fun t13_10 w =>
 R t13_10 w)) w
theorem sh40_calls {a0 : Value} {w : World} {R : Value → World → Prop} (h : sh40 a0 w R) : CallF Tryd.prog 40 #[a0] w R :=
  calls_of_denF (mk := false) (args := [a0]) (an := (.seq (.ops [0]) (.seq (.draw (.q 0 (.q 1 (.q 2 (.q 3 (.q 5 (.q 6 (.q 7 (.q 8 (.q 9 (.one 4 (.one 10 (.q 11 .fin)))))))))))) [2]) .leaf))) (c := Tryd.f40.body.getD .skip) hentT Tryd.func40 rfl (Nat.le_of_ble_eq_true (by kernel_rfl))
    (Eq.mp (show sh40 a0 w R = denF Tryd.prog entT false Tryd.f40 (.seq (.ops [0]) (.seq (.draw (.q 0 (.q 1 (.q 2 (.q 3 (.q 5 (.q 6 (.q 7 (.q 8 (.q 9 (.one 4 (.one 10 (.q 11 .fin)))))))))))) [2]) .leaf)) (Tryd.f40.body.getD .skip) [a0] w R by kernel_rfl) h)

/-! ### 43: (*handbill/text.reader).wants -/
def sh43 (a0 a1 : Value) (w : World) (R : Value → World → Prop) : Prop :=
 CallF Tryd.prog 79 #[a0] w fun t6_1 w =>
 RunA Tryd.prog (nilV a0) fun t8_2 =>
 RunA Tryd.prog (Instr.fieldAt 64 t8_2 2) fun t9_3 =>
 RunW Tryd.prog (Instr.loadAt 23 t9_3) w fun t10_4 =>
 RunW Tryd.prog (bin .eql 23 (.tmp 10) (.const (.int .i64 0)) t10_4 (.int .i64 0)) w fun t11_5 =>
 IfB t11_5 (
 RunW Tryd.prog (bin .neq 5 (.tmp 13) (.tmp 14) t6_1 a1) w fun t15_6 =>
 IfB t15_6 (
 CallF Tryd.prog 80 #[a0, (.int .i64 4)] w fun t18_7 w =>
 R (.tuple #[]) w) (
 R (.tuple #[]) w)) (
 R (.tuple #[]) w)
theorem sh43_calls {a0 a1 : Value} {w : World} {R : Value → World → Prop} (h : sh43 a0 a1 w R) : CallF Tryd.prog 43 #[a0, a1] w R :=
  calls_of_denF (mk := false) (args := [a0, a1]) (an := (.seq (.ops [0, 1, 4]) (.seq (.ops [0, 16]) (.cond (.ops []) .leaf)))) (c := Tryd.f43.body.getD .skip) hentT Tryd.func43 rfl (Nat.le_of_ble_eq_true (by kernel_rfl))
    (Eq.mp (show sh43 a0 a1 w R = denF Tryd.prog entT false Tryd.f43 (.seq (.ops [0, 1, 4]) (.seq (.ops [0, 16]) (.cond (.ops []) .leaf))) (Tryd.f43.body.getD .skip) [a0, a1] w R by kernel_rfl) h)

/-! ### 44: (*handbill/text.reader).sign -/
def sh44 (a0 : Value) (w : World) (R : Value → World → Prop) : Prop :=
 drw (fun S_1 w =>
 RunA Tryd.prog (nilV a0) fun t6_2 =>
 RunA Tryd.prog (Instr.fieldAt 64 t6_2 1) fun t7_3 =>
 RunS Tryd.prog S_1 (Instr.loadAt 3 t7_3) fun t8_4 =>
 RunA Tryd.prog (nilV a0) fun t10_5 =>
 RunA Tryd.prog (Instr.fieldAt 64 t10_5 0) fun t11_6 =>
 RunS Tryd.prog S_1 (Instr.loadAt 9 t11_6) fun t12_7 =>
 RunS Tryd.prog S_1 (Builtin.len_ #[9] 3 #[t12_7]) fun t13_8 =>
 RunA Tryd.prog (bin .geq 3 (.tmp 8) (.tmp 13) t8_4 t13_8) fun t14_9 =>
 IfB t14_9 (
 CallF Tryd.prog 80 #[a0, (.int .i64 2)] w fun t16_10 w =>
 R (.int .i32 0) w) (
 drw (fun S_11 w =>
 RunA Tryd.prog (nilV a0) fun t19_12 =>
 RunA Tryd.prog (Instr.fieldAt 64 t19_12 0) fun t20_13 =>
 RunS Tryd.prog S_11 (Instr.loadAt 9 t20_13) fun t21_14 =>
 RunA Tryd.prog (nilV a0) fun t23_15 =>
 RunA Tryd.prog (Instr.fieldAt 64 t23_15 1) fun t24_16 =>
 RunS Tryd.prog S_11 (Instr.loadAt 3 t24_16) fun t25_17 =>
 RunA Tryd.prog (Instr.sliceAt 9 t21_14 (some t25_17) none none) fun t26_18 =>
 CallF Tryd.prog 81 #[t26_18] w fun t27_19 w =>
 RunA Tryd.prog (Instr.extract t27_19 0) fun t28_20 =>
 RunA Tryd.prog (Instr.extract t27_19 1) fun t29_21 =>
 jn 3 (fun t0_22 t3_23 t4_24 w =>
 RunA Tryd.prog (nilV t0_22) fun t43_26 =>
 RunA Tryd.prog (Instr.fieldAt 64 t43_26 1) fun t44_27 =>
 RunW Tryd.prog (Instr.loadAt 3 t44_27) w fun t45_28 =>
 RunA Tryd.prog (bin .add 3 (.tmp 45) (.tmp 46) t45_28 t4_24) fun t47_29 =>
 RunA Tryd.prog (nilV t0_22) fun t48_30 =>
 RunA Tryd.prog (Instr.fieldAt 64 t48_30 1) fun t49_31 =>
 RunU Tryd.prog (Instr.storeAt 3 t49_31 t47_29) w fun w =>
 R t3_23 w) fun j_25 =>
 RunA Tryd.prog (bin .lss 21 (.tmp 30) (.const (.int .i32 32)) t28_20 (.int .i32 32)) fun t31_32 =>
 IfB t31_32 (
 CallF Tryd.prog 80 #[a0, (.int .i64 4)] w fun t41_33 w =>
 R (.int .i32 0) w) (
 RunW Tryd.prog (bin .eql 21 (.tmp 33) (.const (.int .i32 65533)) t28_20 (.int .i32 65533)) w fun t34_34 =>
 IfB t34_34 (
 RunA Tryd.prog (bin .lss 3 (.tmp 36) (.const (.int .i64 2)) t29_21 (.int .i64 2)) fun t37_35 =>
 IfB t37_35 (
 CallF Tryd.prog 80 #[a0, (.int .i64 4)] w fun t41_36 w =>
 R (.int .i32 0) w) (
 j_25 a0 t28_20 t29_21 w)) (
 j_25 a0 t28_20 t29_21 w))) w)) w
theorem sh44_calls {a0 : Value} {w : World} {R : Value → World → Prop} (h : sh44 a0 w R) : CallF Tryd.prog 44 #[a0] w R :=
  calls_of_denF (mk := false) (args := [a0]) (an := (.seq (.ops [0]) (.seq (.seq (.draw (.q 0 (.q 1 (.q 2 (.q 3 (.q 4 (.q 5 (.q 6 (.q 7 (.q 8 (.q 9 .fin)))))))))) [0, 14]) (.cond (.seq (.ops []) (.seq (.ops [2]) .leaf)) .leaf)) (.seq (.draw (.q 0 (.q 1 (.q 2 (.q 3 (.q 4 (.q 5 (.q 6 (.q 7 (.q 8 (.one 9 (.q 10 (.q 11 (.q 12 (.q 13 (.q 14 .fin))))))))))))))) [0, 3, 4]) (.seq (.join [0, 3, 4] (.seq (.ops [0, 3, 4, 39]) (.cond (.seq (.ops []) (.seq (.ops [2]) .leaf)) .leaf))) (.seq (.ops [3]) (.seq (.ops [2]) .leaf))))))) (c := Tryd.f44.body.getD .skip) hentT Tryd.func44 rfl (Nat.le_of_ble_eq_true (by kernel_rfl))
    (Eq.mp (show sh44 a0 w R = denF Tryd.prog entT false Tryd.f44 (.seq (.ops [0]) (.seq (.seq (.draw (.q 0 (.q 1 (.q 2 (.q 3 (.q 4 (.q 5 (.q 6 (.q 7 (.q 8 (.q 9 .fin)))))))))) [0, 14]) (.cond (.seq (.ops []) (.seq (.ops [2]) .leaf)) .leaf)) (.seq (.draw (.q 0 (.q 1 (.q 2 (.q 3 (.q 4 (.q 5 (.q 6 (.q 7 (.q 8 (.one 9 (.q 10 (.q 11 (.q 12 (.q 13 (.q 14 .fin))))))))))))))) [0, 3, 4]) (.seq (.join [0, 3, 4] (.seq (.ops [0, 3, 4, 39]) (.cond (.seq (.ops []) (.seq (.ops [2]) .leaf)) .leaf))) (.seq (.ops [3]) (.seq (.ops [2]) .leaf)))))) (Tryd.f44.body.getD .skip) [a0] w R by kernel_rfl) h)

/-! ### 45: (*handbill/text.reader).escape -/
def sh45 (a0 : Value) (w : World) (R : Value → World → Prop) : Prop :=
 CallF Tryd.prog 79 #[a0] w fun t6_1 w =>
 RunA Tryd.prog (nilV a0) fun t9_2 =>
 RunA Tryd.prog (Instr.fieldAt 64 t9_2 2) fun t10_3 =>
 RunW Tryd.prog (Instr.loadAt 23 t10_3) w fun t11_4 =>
 RunW Tryd.prog (bin .neq 23 (.tmp 11) (.const (.int .i64 0)) t11_4 (.int .i64 0)) w fun t12_5 =>
 IfB t12_5 (
 R (.int .i32 0) w) (
 RunW Tryd.prog (bin .eql 5 (.tmp 14) (.const (.int .u8 117)) t6_1 (.int .u8 117)) w fun t15_6 =>
 IfB t15_6 (
 CallF Tryd.prog 82 #[a0] w fun t17_7 w =>
 R t17_7 w) (
 RunW Tryd.prog (bin .eql 5 (.tmp 19) (.const (.int .u8 47)) t6_1 (.int .u8 47)) w fun t20_8 =>
 IfB t20_8 (
 R (.int .i32 47) w) (
 lp 1 (fun n_10 t4_9 w =>
 RunA Tryd.prog (bin .lss 3 (.tmp 21) (.const (.int .i64 14)) t4_9 (.int .i64 14)) fun t22_11 =>
 IfB t22_11 (
 RunA Tryd.prog (bin .add 3 (.tmp 25) (.const (.int .i64 1)) t4_9 (.int .i64 1)) fun t26_12 =>
 RunA Tryd.prog (Instr.index 9 (.string ⟨#[34, 34, 92, 92, 8, 98, 12, 102, 10, 110, 13, 114, 9, 116]⟩) t26_12) fun t27_13 =>
 RunW Tryd.prog (bin .eql 5 (.tmp 27) (.tmp 28) t27_13 t6_1) w fun t29_14 =>
 IfB t29_14 (
 RunA Tryd.prog (Instr.index 9 (.string ⟨#[34, 34, 92, 92, 8, 98, 12, 102, 10, 110, 13, 114, 9, 116]⟩) t4_9) fun t31_15 =>
 RunV Tryd.prog (convert 5 21 t31_15) w fun t32_16 w =>
 R t32_16 w) (
 RunA Tryd.prog (bin .add 3 (.tmp 23) (.const (.int .i64 2)) t4_9 (.int .i64 2)) fun t24_17 =>
 (a0 : Value) = a0 ∧ ((t6_1 : Value) = t6_1 ∧ (n_10 t24_17 w)))) (
 CallF Tryd.prog 80 #[a0, (.int .i64 4)] w fun t34_18 w =>
 R (.int .i32 0) w)) [(.int .i64 0)] w)))
theorem sh45_calls {a0 : Value} {w : World} {R : Value → World → Prop} (h : sh45 a0 w R) : CallF Tryd.prog 45 #[a0] w R :=
  calls_of_denF (mk := false) (args := [a0]) (an := (.seq (.ops [0]) (.seq (.ops [0, 3]) (.seq (.blk (.seq (.ops [0, 3, 7]) (.cond (.seq (.ops [2]) .leaf) (.seq (.ops [0, 3, 13]) (.cond (.seq (.ops [2]) .leaf) (.seq (.ops [0, 3, 18]) (.cond (.seq (.ops [2]) .leaf) .leaf))))))) (.seq (.seq (.ops [0, 3, 4]) (.blk (.loop [0, 3] [4] (.seq (.seq (.ops [0, 3, 4, 22]) (.cond .leaf .leaf)) (.seq (.blk (.seq (.ops [0, 3, 4, 29]) (.cond (.seq (.ops [2]) .leaf) .leaf))) (.ops [0, 3, 4])))))) (.seq (.ops []) (.seq (.ops [2]) .leaf))))))) (c := Tryd.f45.body.getD .skip) hentT Tryd.func45 rfl (Nat.le_of_ble_eq_true (by kernel_rfl))
    (Eq.mp (show sh45 a0 w R = denF Tryd.prog entT false Tryd.f45 (.seq (.ops [0]) (.seq (.ops [0, 3]) (.seq (.blk (.seq (.ops [0, 3, 7]) (.cond (.seq (.ops [2]) .leaf) (.seq (.ops [0, 3, 13]) (.cond (.seq (.ops [2]) .leaf) (.seq (.ops [0, 3, 18]) (.cond (.seq (.ops [2]) .leaf) .leaf))))))) (.seq (.seq (.ops [0, 3, 4]) (.blk (.loop [0, 3] [4] (.seq (.seq (.ops [0, 3, 4, 22]) (.cond .leaf .leaf)) (.seq (.blk (.seq (.ops [0, 3, 4, 29]) (.cond (.seq (.ops [2]) .leaf) .leaf))) (.ops [0, 3, 4])))))) (.seq (.ops []) (.seq (.ops [2]) .leaf)))))) (Tryd.f45.body.getD .skip) [a0] w R by kernel_rfl) h)

/-! ### 46: unicode/utf8.ValidRune -/
def sh46 (a0 : Value) (w : World) (R : Value → World → Prop) : Prop :=
 jn 0 (fun w =>
 R (.bool false) w) fun j_1 =>
 RunA Tryd.prog (bin .leq 21 (.const (.int .i32 0)) (.tmp 4) (.int .i32 0) a0) fun t5_2 =>
 IfB t5_2 (
 RunA Tryd.prog (bin .lss 21 (.tmp 7) (.const (.int .i32 55296)) a0 (.int .i32 55296)) fun t8_3 =>
 IfB t8_3 (
 R (.bool true) w) (
 jn 0 (fun w =>
 j_1 w) fun j_4 =>
 RunA Tryd.prog (bin .lss 21 (.const (.int .i32 57343)) (.tmp 11) (.int .i32 57343) a0) fun t12_5 =>
 IfB t12_5 (
 RunA Tryd.prog (bin .leq 21 (.tmp 14) (.const (.int .i32 1114111)) a0 (.int .i32 1114111)) fun t15_6 =>
 IfB t15_6 (
 R (.bool true) w) (
 j_4 w)) (
 j_4 w))) (
 jn 0 (fun w =>
 j_1 w) fun j_7 =>
 RunA Tryd.prog (bin .lss 21 (.const (.int .i32 57343)) (.tmp 11) (.int .i32 57343) a0) fun t12_8 =>
 IfB t12_8 (
 RunA Tryd.prog (bin .leq 21 (.tmp 14) (.const (.int .i32 1114111)) a0 (.int .i32 1114111)) fun t15_9 =>
 IfB t15_9 (
 R (.bool true) w) (
 j_7 w)) (
 j_7 w))
theorem sh46_calls {a0 : Value} {w : World} {R : Value → World → Prop} (h : sh46 a0 w R) : CallF Tryd.prog 46 #[a0] w R :=
  calls_of_denF (mk := false) (args := [a0]) (an := (.seq (.ops [0]) (.seq (.blk (.join [] (.seq (.ops [0, 3]) (.cond (.seq (.ops [2]) .leaf) (.join [] (.seq (.ops [10]) (.cond (.seq (.ops [2]) .leaf) .leaf))))))) (.seq (.ops [2]) .leaf)))) (c := Tryd.f46.body.getD .skip) hentT Tryd.func46 rfl (Nat.le_of_ble_eq_true (by kernel_rfl))
    (Eq.mp (show sh46 a0 w R = denF Tryd.prog entT false Tryd.f46 (.seq (.ops [0]) (.seq (.blk (.join [] (.seq (.ops [0, 3]) (.cond (.seq (.ops [2]) .leaf) (.join [] (.seq (.ops [10]) (.cond (.seq (.ops [2]) .leaf) .leaf))))))) (.seq (.ops [2]) .leaf))) (Tryd.f46.body.getD .skip) [a0] w R by kernel_rfl) h)

/-! ### 47: handbill/hblref1.short -/
def sh47 (a0 : Value) (w : World) (R : Value → World → Prop) : Prop :=
 jn 3 (fun t0_1 t3_2 t4_3 w =>
 IfB t4_3 (
 R t0_1 w) (
 RunW Tryd.prog (bin .eql 5 (.tmp 3) (.const (.int .u8 8)) t3_2 (.int .u8 8)) w fun t9_5 =>
 IfB t9_5 (
 R (.int .u8 98) w) (
 RunW Tryd.prog (bin .eql 5 (.tmp 3) (.const (.int .u8 12)) t3_2 (.int .u8 12)) w fun t11_6 =>
 IfB t11_6 (
 R (.int .u8 102) w) (
 RunW Tryd.prog (bin .eql 5 (.tmp 3) (.const (.int .u8 10)) t3_2 (.int .u8 10)) w fun t13_7 =>
 IfB t13_7 (
 R (.int .u8 110) w) (
 RunW Tryd.prog (bin .eql 5 (.tmp 3) (.const (.int .u8 13)) t3_2 (.int .u8 13)) w fun t15_8 =>
 IfB t15_8 (
 R (.int .u8 114) w) (
 RunW Tryd.prog (bin .eql 5 (.tmp 3) (.const (.int .u8 9)) t3_2 (.int .u8 9)) w fun t17_9 =>
 IfB t17_9 (
 R (.int .u8 116) w) (
 R (.int .u8 0) w))))))) fun j_4 =>
 RunW Tryd.prog (bin .eql 5 (.tmp 3) (.const (.int .u8 34)) a0 (.int .u8 34)) w fun t5_10 =>
 IfB t5_10 (
 j_4 a0 a0 t5_10 w) (
 RunW Tryd.prog (bin .eql 5 (.tmp 3) (.const (.int .u8 92)) a0 (.int .u8 92)) w fun t6_11 =>
 j_4 a0 a0 t6_11 w)
theorem sh47_calls {a0 : Value} {w : World} {R : Value → World → Prop} (h : sh47 a0 w R) : CallF Tryd.prog 47 #[a0] w R :=
  calls_of_denF (mk := false) (args := [a0]) (an := (.seq (.ops [0]) (.seq (.seq (.ops [0, 3]) (.blk (.seq (.join [0, 3, 4] (.seq (.ops [0, 3, 4]) (.cond .leaf (.ops [0, 3, 4])))) (.cond (.seq (.ops [2]) .leaf) (.seq (.ops [3, 8]) (.cond (.seq (.ops [2]) .leaf) (.seq (.ops [3, 10]) (.cond (.seq (.ops [2]) .leaf) (.seq (.ops [3, 12]) (.cond (.seq (.ops [2]) .leaf) (.seq (.ops [3, 14]) (.cond (.seq (.ops [2]) .leaf) (.seq (.ops [16]) (.cond (.seq (.ops [2]) .leaf) .leaf)))))))))))))) (.seq (.ops [2]) .leaf)))) (c := Tryd.f47.body.getD .skip) hentT Tryd.func47 rfl (Nat.le_of_ble_eq_true (by kernel_rfl))
    (Eq.mp (show sh47 a0 w R = denF Tryd.prog entT false Tryd.f47 (.seq (.ops [0]) (.seq (.seq (.ops [0, 3]) (.blk (.seq (.join [0, 3, 4] (.seq (.ops [0, 3, 4]) (.cond .leaf (.ops [0, 3, 4])))) (.cond (.seq (.ops [2]) .leaf) (.seq (.ops [3, 8]) (.cond (.seq (.ops [2]) .leaf) (.seq (.ops [3, 10]) (.cond (.seq (.ops [2]) .leaf) (.seq (.ops [3, 12]) (.cond (.seq (.ops [2]) .leaf) (.seq (.ops [3, 14]) (.cond (.seq (.ops [2]) .leaf) (.seq (.ops [16]) (.cond (.seq (.ops [2]) .leaf) .leaf)))))))))))))) (.seq (.ops [2]) .leaf))) (Tryd.f47.body.getD .skip) [a0] w R by kernel_rfl) h)

/-! ### 48: handbill/hblref1.Hex -/
def sh48 (a0 : Value) (w : World) (R : Value → World → Prop) : Prop :=
 lp 2 (fun n_3 t4_1 t5_2 w =>
 RunW Tryd.prog (Builtin.len_ #[49] 3 #[a0]) w fun t8_4 =>
 RunA Tryd.prog (bin .lss 3 (.tmp 6) (.tmp 8) t5_2 t8_4) fun t9_5 =>
 IfB t9_5 (
 drw (fun S_6 w =>
 RunA Tryd.prog (Instr.indexAt 49 a0 t5_2) fun t16_7 =>
 RunS Tryd.prog S_6 (Instr.loadAt 5 t16_7) fun t17_8 =>
 RunA Tryd.prog (bin .shr 5 (.tmp 17) (.const (.int .u64 4)) t17_8 (.int .u64 4)) fun t18_9 =>
 RunA Tryd.prog (Instr.index 9 (.string ⟨#[48, 49, 50, 51, 52, 53, 54, 55, 56, 57, 97, 98, 99, 100, 101, 102]⟩) t18_9) fun t19_10 =>
 RunA Tryd.prog (Instr.indexAt 49 a0 t5_2) fun t23_11 =>
 RunS Tryd.prog S_6 (Instr.loadAt 5 t23_11) fun t24_12 =>
 RunA Tryd.prog (bin .and 5 (.tmp 24) (.const (.int .u8 15)) t24_12 (.int .u8 15)) fun t25_13 =>
 RunA Tryd.prog (Instr.index 9 (.string ⟨#[48, 49, 50, 51, 52, 53, 54, 55, 56, 57, 97, 98, 99, 100, 101, 102]⟩) t25_13) fun t26_14 =>
 RunV Tryd.prog (Instr.buildSlice 49 2 #[(0, t19_10), (1, t26_14)]) w fun t27_15 w =>
 RunV Tryd.prog (Builtin.append_ #[49, 49] 49 #[t4_1, t27_15]) w fun t28_16 w =>
 RunA Tryd.prog (bin .add 3 (.tmp 10) (.const (.int .i64 1)) t5_2 (.int .i64 1)) fun t11_17 =>
 (a0 : Value) = a0 ∧ (((.string ⟨#[48, 49, 50, 51, 52, 53, 54, 55, 56, 57, 97, 98, 99, 100, 101, 102]⟩) : Value) = (.string ⟨#[48, 49, 50, 51, 52, 53, 54, 55, 56, 57, 97, 98, 99, 100, 101, 102]⟩) ∧ (n_3 t28_16 t11_17 w))) w) (
 RunV Tryd.prog (convert 49 9 t4_1) w fun t30_18 w =>
 R t30_18 w)) [(.slice none 0 0), (.int .i64 0)] w
theorem sh48_calls {a0 : Value} {w : World} {R : Value → World → Prop} (h : sh48 a0 w R) : CallF Tryd.prog 48 #[a0] w R :=
  calls_of_denF (mk := false) (args := [a0]) (an := (.seq (.ops [0]) (.seq (.ops [0, 3]) (.seq (.ops [0, 3, 4]) (.seq (.seq (.ops [0, 3, 4, 5]) (.blk (.loop [0, 3] [4, 5] (.seq (.seq (.ops [0, 3, 4, 5, 9]) (.cond .leaf .leaf)) (.seq (.blk (.draw (.q 0 (.q 1 (.q 2 (.q 3 (.q 4 (.q 5 (.q 6 (.q 7 (.q 8 (.q 9 (.q 10 (.q 11 (.q 12 (.q 13 (.q 14 (.one 15 (.one 16 (.q 17 .fin)))))))))))))))))) [0, 3, 4, 5])) (.ops [0, 3, 4, 5])))))) (.seq (.ops [2]) .leaf)))))) (c := Tryd.f48.body.getD .skip) hentT Tryd.func48 rfl (Nat.le_of_ble_eq_true (by kernel_rfl))
    (Eq.mp (show sh48 a0 w R = denF Tryd.prog entT false Tryd.f48 (.seq (.ops [0]) (.seq (.ops [0, 3]) (.seq (.ops [0, 3, 4]) (.seq (.seq (.ops [0, 3, 4, 5]) (.blk (.loop [0, 3] [4, 5] (.seq (.seq (.ops [0, 3, 4, 5, 9]) (.cond .leaf .leaf)) (.seq (.blk (.draw (.q 0 (.q 1 (.q 2 (.q 3 (.q 4 (.q 5 (.q 6 (.q 7 (.q 8 (.q 9 (.q 10 (.q 11 (.q 12 (.q 13 (.q 14 (.one 15 (.one 16 (.q 17 .fin)))))))))))))))))) [0, 3, 4, 5])) (.ops [0, 3, 4, 5])))))) (.seq (.ops [2]) .leaf))))) (Tryd.f48.body.getD .skip) [a0] w R by kernel_rfl) h)

/-! ### 49: handbill/hblref1.escape -/
def sh49 (a0 a1 : Value) (w : World) (R : Value → World → Prop) : Prop :=
 RunA Tryd.prog (bin .add 3 (.tmp 15) (.const (.int .i64 1)) a1 (.int .i64 1)) fun t16_1 =>
 RunW Tryd.prog (Builtin.len_ #[9] 3 #[a0]) w fun t18_2 =>
 RunA Tryd.prog (bin .geq 3 (.tmp 16) (.tmp 18) t16_1 t18_2) fun t19_3 =>
 IfB t19_3 (
 R (.tuple #[(.string ⟨#[]⟩), (.int .i64 0), (.int .i64 2)]) w) (
 RunA Tryd.prog (bin .add 3 (.tmp 21) (.const (.int .i64 1)) a1 (.int .i64 1)) fun t22_4 =>
 RunA Tryd.prog (Instr.index 9 a0 t22_4) fun t23_5 =>
 lp 1 (fun n_7 t8_6 w =>
 RunA Tryd.prog (bin .lss 3 (.tmp 24) (.const (.int .i64 128)) t8_6 (.int .i64 128)) fun t25_8 =>
 IfB t25_8 (
 jn 4 (fun t0_9 t1_10 t7_11 t8_12 w =>
 RunA Tryd.prog (bin .add 3 (.tmp 26) (.const (.int .i64 1)) t8_12 (.int .i64 1)) fun t27_14 =>
 (t0_9 : Value) = a0 ∧ ((t1_10 : Value) = a1 ∧ ((t7_11 : Value) = t23_5 ∧ (n_7 t27_14 w)))) fun j_13 =>
 RunW Tryd.prog (bin .neq 5 (.tmp 28) (.const (.int .u8 0)) t23_5 (.int .u8 0)) w fun t29_15 =>
 IfB t29_15 (
 RunV Tryd.prog (convert 3 5 t8_6) w fun t32_16 w =>
 CallF Tryd.prog 47 #[t32_16] w fun t33_17 w =>
 RunW Tryd.prog (bin .eql 5 (.tmp 33) (.tmp 34) t33_17 t23_5) w fun t35_18 =>
 IfB t35_18 (
 RunV Tryd.prog (convert 3 5 t8_6) w fun t38_19 w =>
 RunV Tryd.prog (Instr.buildSlice 49 1 #[(0, t38_19)]) w fun t39_20 w =>
 RunV Tryd.prog (convert 49 9 t39_20) w fun t40_21 w =>
 RunA Tryd.prog (bin .add 3 (.tmp 41) (.const (.int .i64 2)) a1 (.int .i64 2)) fun t42_22 =>
 R (.tuple #[t40_21, t42_22, (.int .i64 0)]) w) (
 j_13 a0 a1 t23_5 t8_6 w)) (
 j_13 a0 a1 t23_5 t8_6 w)) (
 RunW Tryd.prog (bin .eql 5 (.tmp 43) (.const (.int .u8 47)) t23_5 (.int .u8 47)) w fun t44_23 =>
 IfB t44_23 (
 RunA Tryd.prog (bin .add 3 (.tmp 45) (.const (.int .i64 2)) a1 (.int .i64 2)) fun t46_24 =>
 R (.tuple #[(.string ⟨#[47]⟩), t46_24, (.int .i64 0)]) w) (
 RunW Tryd.prog (bin .neq 5 (.tmp 47) (.const (.int .u8 117)) t23_5 (.int .u8 117)) w fun t48_25 =>
 IfB t48_25 (
 R (.tuple #[(.string ⟨#[]⟩), (.int .i64 0), (.int .i64 4)]) w) (
 RunA Tryd.prog (bin .add 3 (.tmp 51) (.const (.int .i64 2)) a1 (.int .i64 2)) fun t52_26 =>
 CallF Tryd.prog 83 #[a0, t52_26] w fun t53_27 w =>
 RunA Tryd.prog (Instr.extract t53_27 0) fun t54_28 =>
 RunA Tryd.prog (Instr.extract t53_27 1) fun t55_29 =>
 RunW Tryd.prog (bin .neq 23 (.tmp 56) (.const (.int .i64 0)) t55_29 (.int .i64 0)) w fun t57_30 =>
 IfB t57_30 (
 R (.tuple #[(.string ⟨#[]⟩), (.int .i64 0), t55_29]) w) (
 RunA Tryd.prog (bin .add 3 (.tmp 59) (.const (.int .i64 6)) a1 (.int .i64 6)) fun t60_31 =>
 jn 2 (fun t1_32 t9_33 w =>
 CallF Tryd.prog 21 #[t9_33] w fun t122_35 w =>
 RunA Tryd.prog (Instr.extract t122_35 0) fun t123_36 =>
 RunA Tryd.prog (Instr.extract t122_35 1) fun t124_37 =>
 RunA Tryd.prog (Op.unary .not t124_37) fun t126_38 =>
 IfB t126_38 (
 R (.tuple #[(.string ⟨#[]⟩), (.int .i64 0), (.int .i64 4)]) w) (
 R (.tuple #[t123_36, t1_32, (.int .i64 0)]) w)) fun j_34 =>
 RunA Tryd.prog (bin .geq 3 (.tmp 61) (.const (.int .i64 55296)) t54_28 (.int .i64 55296)) fun t62_39 =>
 IfB t62_39 (
 RunA Tryd.prog (bin .leq 3 (.tmp 64) (.const (.int .i64 56319)) t54_28 (.int .i64 56319)) fun t65_40 =>
 IfB t65_40 (
 jn 3 (fun t0_41 t1_42 t9_43 w =>
 RunA Tryd.prog (Instr.index 9 t0_41 t1_42) fun t86_45 =>
 RunW Tryd.prog (bin .neq 5 (.tmp 86) (.const (.int .u8 92)) t86_45 (.int .u8 92)) w fun t87_46 =>
 IfB t87_46 (
 R (.tuple #[(.string ⟨#[]⟩), (.int .i64 0), (.int .i64 4)]) w) (
 RunA Tryd.prog (bin .add 3 (.tmp 90) (.const (.int .i64 1)) t1_42 (.int .i64 1)) fun t91_47 =>
 RunA Tryd.prog (Instr.index 9 t0_41 t91_47) fun t92_48 =>
 RunW Tryd.prog (bin .neq 5 (.tmp 92) (.const (.int .u8 117)) t92_48 (.int .u8 117)) w fun t93_49 =>
 IfB t93_49 (
 R (.tuple #[(.string ⟨#[]⟩), (.int .i64 0), (.int .i64 4)]) w) (
 RunA Tryd.prog (bin .add 3 (.tmp 97) (.const (.int .i64 2)) t1_42 (.int .i64 2)) fun t98_50 =>
 CallF Tryd.prog 83 #[t0_41, t98_50] w fun t99_51 w =>
 RunA Tryd.prog (Instr.extract t99_51 0) fun t100_52 =>
 RunA Tryd.prog (Instr.extract t99_51 1) fun t101_53 =>
 RunW Tryd.prog (bin .neq 23 (.tmp 102) (.const (.int .i64 0)) t101_53 (.int .i64 0)) w fun t103_54 =>
 IfB t103_54 (
 R (.tuple #[(.string ⟨#[]⟩), (.int .i64 0), t101_53]) w) (
 RunA Tryd.prog (bin .lss 3 (.tmp 105) (.const (.int .i64 56320)) t100_52 (.int .i64 56320)) fun t106_55 =>
 IfB t106_55 (
 R (.tuple #[(.string ⟨#[]⟩), (.int .i64 0), (.int .i64 4)]) w) (
 RunA Tryd.prog (bin .gtr 3 (.tmp 108) (.const (.int .i64 57343)) t100_52 (.int .i64 57343)) fun t109_56 =>
 IfB t109_56 (
 R (.tuple #[(.string ⟨#[]⟩), (.int .i64 0), (.int .i64 4)]) w) (
 RunA Tryd.prog (bin .sub 3 (.tmp 111) (.const (.int .i64 55296)) t9_43 (.int .i64 55296)) fun t112_57 =>
 RunA Tryd.prog (bin .shl 3 (.tmp 112) (.const (.int .u64 10)) t112_57 (.int .u64 10)) fun t113_58 =>
 RunA Tryd.prog (bin .add 3 (.const (.int .i64 65536)) (.tmp 113) (.int .i64 65536) t113_58) fun t114_59 =>
 RunA Tryd.prog (bin .sub 3 (.tmp 115) (.const (.int .i64 56320)) t100_52 (.int .i64 56320)) fun t116_60 =>
 RunA Tryd.prog (bin .add 3 (.tmp 114) (.tmp 116) t114_59 t116_60) fun t117_61 =>
 RunA Tryd.prog (bin .add 3 (.tmp 118) (.const (.int .i64 6)) t1_42 (.int .i64 6)) fun t119_62 =>
 j_34 t119_62 t117_61 w)))))) fun j_44 =>
 RunW Tryd.prog (Builtin.len_ #[9] 3 #[a0]) w fun t69_63 =>
 RunA Tryd.prog (bin .geq 3 (.tmp 67) (.tmp 69) t60_31 t69_63) fun t70_64 =>
 IfB t70_64 (
 R (.tuple #[(.string ⟨#[]⟩), (.int .i64 0), (.int .i64 2)]) w) (
 RunA Tryd.prog (bin .add 3 (.tmp 72) (.const (.int .i64 1)) t60_31 (.int .i64 1)) fun t73_65 =>
 RunW Tryd.prog (Builtin.len_ #[9] 3 #[a0]) w fun t75_66 =>
 RunA Tryd.prog (bin .geq 3 (.tmp 73) (.tmp 75) t73_65 t75_66) fun t76_67 =>
 IfB t76_67 (
 RunA Tryd.prog (Instr.index 9 a0 t60_31) fun t80_68 =>
 RunW Tryd.prog (bin .eql 5 (.tmp 80) (.const (.int .u8 92)) t80_68 (.int .u8 92)) w fun t81_69 =>
 IfB t81_69 (
 R (.tuple #[(.string ⟨#[]⟩), (.int .i64 0), (.int .i64 2)]) w) (
 j_44 a0 t60_31 t54_28 w)) (
 j_44 a0 t60_31 t54_28 w))) (
 j_34 t60_31 t54_28 w)) (
 j_34 t60_31 t54_28 w)))))) [(.int .i64 0)] w)
theorem sh49_calls {a0 a1 : Value} {w : World} {R : Value → World → Prop} (h : sh49 a0 a1 w R) : CallF Tryd.prog 49 #[a0, a1] w R :=
  calls_of_denF (mk := false) (args := [a0, a1]) (an := (.seq (.ops [0, 1]) (.seq (.seq (.ops [0, 1, 19]) (.cond (.seq (.ops [4, 5, 6]) .leaf) .leaf)) (.seq (.ops [0, 1, 7]) (.seq (.seq (.ops [0, 1, 7, 8]) (.blk (.loop [0, 1, 7] [8] (.seq (.seq (.ops [0, 1, 7, 8, 25]) (.cond .leaf .leaf)) (.seq (.blk (.join [0, 1, 7, 8] (.seq (.ops [0, 1, 7, 8, 36]) (.cond (.seq (.ops [4, 5, 6]) .leaf) .leaf)))) (.ops [0, 1, 7, 8])))))) (.seq (.seq (.ops [0, 1, 7, 44]) (.cond (.seq (.ops [4, 5, 6]) .leaf) .leaf)) (.seq (.seq (.ops [0, 1, 48]) (.cond (.seq (.ops [4, 5, 6]) .leaf) .leaf)) (.seq (.ops [0, 1, 9, 10]) (.seq (.seq (.ops [0, 1, 9, 10, 57]) (.cond (.seq (.ops [4, 5, 6]) .leaf) .leaf)) (.seq (.ops [0, 1, 9]) (.seq (.join [1, 9] (.seq (.ops [0, 1, 9, 66]) (.cond (.seq (.join [0, 1, 9] (.seq (.ops [0, 1, 9, 83]) (.cond (.seq (.ops [4, 5, 6]) .leaf) .leaf))) (.seq (.seq (.ops [0, 1, 9, 94]) (.cond (.seq (.ops [4, 5, 6]) .leaf) .leaf)) (.seq (.ops [1, 9, 11, 12]) (.seq (.seq (.ops [1, 9, 11, 12, 103]) (.cond (.seq (.ops [4, 5, 6]) .leaf) .leaf)) (.seq (.seq (.ops [1, 9, 11, 110]) (.cond (.seq (.ops [4, 5, 6]) .leaf) .leaf)) (.ops [1, 9])))))) .leaf))) (.seq (.ops [1, 13, 14]) (.seq (.seq (.ops [1, 13, 126]) (.cond (.seq (.ops [4, 5, 6]) .leaf) .leaf)) (.seq (.ops [4, 5, 6]) .leaf)))))))))))))) (c := Tryd.f49.body.getD .skip) hentT Tryd.func49 rfl (Nat.le_of_ble_eq_true (by kernel_rfl))
    (Eq.mp (show sh49 a0 a1 w R = denF Tryd.prog entT false Tryd.f49 (.seq (.ops [0, 1]) (.seq (.seq (.ops [0, 1, 19]) (.cond (.seq (.ops [4, 5, 6]) .leaf) .leaf)) (.seq (.ops [0, 1, 7]) (.seq (.seq (.ops [0, 1, 7, 8]) (.blk (.loop [0, 1, 7] [8] (.seq (.seq (.ops [0, 1, 7, 8, 25]) (.cond .leaf .leaf)) (.seq (.blk (.join [0, 1, 7, 8] (.seq (.ops [0, 1, 7, 8, 36]) (.cond (.seq (.ops [4, 5, 6]) .leaf) .leaf)))) (.ops [0, 1, 7, 8])))))) (.seq (.seq (.ops [0, 1, 7, 44]) (.cond (.seq (.ops [4, 5, 6]) .leaf) .leaf)) (.seq (.seq (.ops [0, 1, 48]) (.cond (.seq (.ops [4, 5, 6]) .leaf) .leaf)) (.seq (.ops [0, 1, 9, 10]) (.seq (.seq (.ops [0, 1, 9, 10, 57]) (.cond (.seq (.ops [4, 5, 6]) .leaf) .leaf)) (.seq (.ops [0, 1, 9]) (.seq (.join [1, 9] (.seq (.ops [0, 1, 9, 66]) (.cond (.seq (.join [0, 1, 9] (.seq (.ops [0, 1, 9, 83]) (.cond (.seq (.ops [4, 5, 6]) .leaf) .leaf))) (.seq (.seq (.ops [0, 1, 9, 94]) (.cond (.seq (.ops [4, 5, 6]) .leaf) .leaf)) (.seq (.ops [1, 9, 11, 12]) (.seq (.seq (.ops [1, 9, 11, 12, 103]) (.cond (.seq (.ops [4, 5, 6]) .leaf) .leaf)) (.seq (.seq (.ops [1, 9, 11, 110]) (.cond (.seq (.ops [4, 5, 6]) .leaf) .leaf)) (.ops [1, 9])))))) .leaf))) (.seq (.ops [1, 13, 14]) (.seq (.seq (.ops [1, 13, 126]) (.cond (.seq (.ops [4, 5, 6]) .leaf) .leaf)) (.seq (.ops [4, 5, 6]) .leaf))))))))))))) (Tryd.f49.body.getD .skip) [a0, a1] w R by kernel_rfl) h)

/-! ### 50: handbill/hblref1.Sign -/
def sh50 (a0 a1 : Value) (w : World) (R : Value → World → Prop) : Prop :=
 RunA Tryd.prog (Instr.index 9 a0 a1) fun t14_1 =>
 RunV Tryd.prog (convert 5 3 t14_1) w fun t15_2 w =>
 RunA Tryd.prog (bin .lss 3 (.tmp 17) (.const (.int .i64 128)) t15_2 (.int .i64 128)) fun t18_3 =>
 IfB t18_3 (
 R (.tuple #[t15_2, (.int .i64 1), (.bool true)]) w) (
 jn 5 (fun t0_4 t1_5 t8_6 t9_7 t10_8 w =>
 lp 2 (fun n_12 t9_10 t11_11 w =>
 RunA Tryd.prog (bin .leq 3 (.tmp 47) (.tmp 48) t11_11 t8_6) fun t49_13 =>
 IfB t49_13 (
 RunA Tryd.prog (bin .add 3 (.tmp 52) (.tmp 53) t1_5 t11_11) fun t54_14 =>
 RunW Tryd.prog (Builtin.len_ #[9] 3 #[t0_4]) w fun t56_15 =>
 RunA Tryd.prog (bin .geq 3 (.tmp 54) (.tmp 56) t54_14 t56_15) fun t57_16 =>
 IfB t57_16 (
 R (.tuple #[(.int .i64 0), (.int .i64 0), (.bool false)]) w) (
 RunA Tryd.prog (bin .add 3 (.tmp 60) (.tmp 61) t1_5 t11_11) fun t62_17 =>
 RunA Tryd.prog (Instr.index 9 t0_4 t62_17) fun t63_18 =>
 RunA Tryd.prog (bin .shr 5 (.tmp 63) (.const (.int .u64 6)) t63_18 (.int .u64 6)) fun t64_19 =>
 RunW Tryd.prog (bin .neq 5 (.tmp 64) (.const (.int .u8 2)) t64_19 (.int .u8 2)) w fun t65_20 =>
 IfB t65_20 (
 R (.tuple #[(.int .i64 0), (.int .i64 0), (.bool false)]) w) (
 RunA Tryd.prog (bin .shl 3 (.tmp 67) (.const (.int .u64 6)) t9_10 (.int .u64 6)) fun t68_21 =>
 RunA Tryd.prog (bin .add 3 (.tmp 70) (.tmp 71) t1_5 t11_11) fun t72_22 =>
 RunA Tryd.prog (Instr.index 9 t0_4 t72_22) fun t73_23 =>
 RunA Tryd.prog (bin .and 5 (.tmp 73) (.const (.int .u8 63)) t73_23 (.int .u8 63)) fun t74_24 =>
 RunV Tryd.prog (convert 5 3 t74_24) w fun t75_25 w =>
 RunA Tryd.prog (bin .or 3 (.tmp 68) (.tmp 75) t68_21 t75_25) fun t76_26 =>
 RunA Tryd.prog (bin .add 3 (.tmp 50) (.const (.int .i64 1)) t11_11 (.int .i64 1)) fun t51_27 =>
 (t0_4 : Value) = t0_4 ∧ ((t1_5 : Value) = t1_5 ∧ ((t8_6 : Value) = t8_6 ∧ ((t10_8 : Value) = t10_8 ∧ (n_12 t76_26 t51_27 w))))))) (
 jn 2 (fun t8_28 t9_29 w =>
 RunA Tryd.prog (bin .add 3 (.tmp 93) (.const (.int .i64 1)) t8_28 (.int .i64 1)) fun t94_31 =>
 R (.tuple #[t9_29, t94_31, (.bool true)]) w) fun j_30 =>
 RunA Tryd.prog (bin .lss 3 (.tmp 77) (.tmp 78) t9_10 t10_8) fun t79_32 =>
 IfB t79_32 (
 R (.tuple #[(.int .i64 0), (.int .i64 0), (.bool false)]) w) (
 RunA Tryd.prog (bin .gtr 3 (.tmp 81) (.const (.int .i64 1114111)) t9_10 (.int .i64 1114111)) fun t82_33 =>
 IfB t82_33 (
 R (.tuple #[(.int .i64 0), (.int .i64 0), (.bool false)]) w) (
 RunA Tryd.prog (bin .geq 3 (.tmp 85) (.const (.int .i64 55296)) t9_10 (.int .i64 55296)) fun t86_34 =>
 IfB t86_34 (
 RunA Tryd.prog (bin .leq 3 (.tmp 88) (.const (.int .i64 57343)) t9_10 (.int .i64 57343)) fun t89_35 =>
 IfB t89_35 (
 R (.tuple #[(.int .i64 0), (.int .i64 0), (.bool false)]) w) (
 j_30 t8_6 t9_10 w)) (
 j_30 t8_6 t9_10 w))))) [t9_7, (.int .i64 1)] w) fun j_9 =>
 RunA Tryd.prog (bin .geq 3 (.tmp 21) (.const (.int .i64 192)) t15_2 (.int .i64 192)) fun t22_36 =>
 IfB t22_36 (
 RunA Tryd.prog (bin .leq 3 (.tmp 24) (.const (.int .i64 223)) t15_2 (.int .i64 223)) fun t25_37 =>
 IfB t25_37 (
 RunA Tryd.prog (bin .and 3 (.tmp 27) (.const (.int .i64 31)) t15_2 (.int .i64 31)) fun t28_38 =>
 j_9 a0 a1 (.int .i64 1) t28_38 (.int .i64 128) w) (
 jn 5 (fun t0_39 t1_40 t8_41 t9_42 t10_43 w =>
 j_9 t0_39 t1_40 t8_41 t9_42 t10_43 w) fun j_44 =>
 RunA Tryd.prog (bin .geq 3 (.tmp 30) (.const (.int .i64 224)) t15_2 (.int .i64 224)) fun t31_45 =>
 IfB t31_45 (
 RunA Tryd.prog (bin .leq 3 (.tmp 33) (.const (.int .i64 239)) t15_2 (.int .i64 239)) fun t34_46 =>
 IfB t34_46 (
 RunA Tryd.prog (bin .and 3 (.tmp 36) (.const (.int .i64 15)) t15_2 (.int .i64 15)) fun t37_47 =>
 j_44 a0 a1 (.int .i64 2) t37_47 (.int .i64 2048) w) (
 RunA Tryd.prog (bin .geq 3 (.tmp 39) (.const (.int .i64 240)) t15_2 (.int .i64 240)) fun t40_48 =>
 IfB t40_48 (
 RunA Tryd.prog (bin .leq 3 (.tmp 42) (.const (.int .i64 247)) t15_2 (.int .i64 247)) fun t43_49 =>
 IfB t43_49 (
 RunA Tryd.prog (bin .and 3 (.tmp 45) (.const (.int .i64 7)) t15_2 (.int .i64 7)) fun t46_50 =>
 j_44 a0 a1 (.int .i64 3) t46_50 (.int .i64 65536) w) (
 R (.tuple #[(.int .i64 0), (.int .i64 0), (.bool false)]) w)) (
 R (.tuple #[(.int .i64 0), (.int .i64 0), (.bool false)]) w))) (
 RunA Tryd.prog (bin .geq 3 (.tmp 39) (.const (.int .i64 240)) t15_2 (.int .i64 240)) fun t40_51 =>
 IfB t40_51 (
 RunA Tryd.prog (bin .leq 3 (.tmp 42) (.const (.int .i64 247)) t15_2 (.int .i64 247)) fun t43_52 =>
 IfB t43_52 (
 RunA Tryd.prog (bin .and 3 (.tmp 45) (.const (.int .i64 7)) t15_2 (.int .i64 7)) fun t46_53 =>
 j_44 a0 a1 (.int .i64 3) t46_53 (.int .i64 65536) w) (
 R (.tuple #[(.int .i64 0), (.int .i64 0), (.bool false)]) w)) (
 R (.tuple #[(.int .i64 0), (.int .i64 0), (.bool false)]) w)))) (
 jn 5 (fun t0_54 t1_55 t8_56 t9_57 t10_58 w =>
 j_9 t0_54 t1_55 t8_56 t9_57 t10_58 w) fun j_59 =>
 RunA Tryd.prog (bin .geq 3 (.tmp 30) (.const (.int .i64 224)) t15_2 (.int .i64 224)) fun t31_60 =>
 IfB t31_60 (
 RunA Tryd.prog (bin .leq 3 (.tmp 33) (.const (.int .i64 239)) t15_2 (.int .i64 239)) fun t34_61 =>
 IfB t34_61 (
 RunA Tryd.prog (bin .and 3 (.tmp 36) (.const (.int .i64 15)) t15_2 (.int .i64 15)) fun t37_62 =>
 j_59 a0 a1 (.int .i64 2) t37_62 (.int .i64 2048) w) (
 RunA Tryd.prog (bin .geq 3 (.tmp 39) (.const (.int .i64 240)) t15_2 (.int .i64 240)) fun t40_63 =>
 IfB t40_63 (
 RunA Tryd.prog (bin .leq 3 (.tmp 42) (.const (.int .i64 247)) t15_2 (.int .i64 247)) fun t43_64 =>
 IfB t43_64 (
 RunA Tryd.prog (bin .and 3 (.tmp 45) (.const (.int .i64 7)) t15_2 (.int .i64 7)) fun t46_65 =>
 j_59 a0 a1 (.int .i64 3) t46_65 (.int .i64 65536) w) (
 R (.tuple #[(.int .i64 0), (.int .i64 0), (.bool false)]) w)) (
 R (.tuple #[(.int .i64 0), (.int .i64 0), (.bool false)]) w))) (
 RunA Tryd.prog (bin .geq 3 (.tmp 39) (.const (.int .i64 240)) t15_2 (.int .i64 240)) fun t40_66 =>
 IfB t40_66 (
 RunA Tryd.prog (bin .leq 3 (.tmp 42) (.const (.int .i64 247)) t15_2 (.int .i64 247)) fun t43_67 =>
 IfB t43_67 (
 RunA Tryd.prog (bin .and 3 (.tmp 45) (.const (.int .i64 7)) t15_2 (.int .i64 7)) fun t46_68 =>
 j_59 a0 a1 (.int .i64 3) t46_68 (.int .i64 65536) w) (
 R (.tuple #[(.int .i64 0), (.int .i64 0), (.bool false)]) w)) (
 R (.tuple #[(.int .i64 0), (.int .i64 0), (.bool false)]) w))))
theorem sh50_calls {a0 a1 : Value} {w : World} {R : Value → World → Prop} (h : sh50 a0 a1 w R) : CallF Tryd.prog 50 #[a0, a1] w R :=
  calls_of_denF (mk := false) (args := [a0, a1]) (an := (.seq (.ops [0, 1]) (.seq (.ops [0, 1, 7]) (.seq (.ops [0, 1, 7]) (.seq (.blk (.seq (.ops [0, 1, 7, 16]) (.cond (.seq (.ops [4, 5, 6]) .leaf) (.join [0, 1, 8, 9, 10] (.seq (.ops [0, 1, 7, 20]) (.cond (.ops [0, 1, 8, 9, 10]) (.join [0, 1, 8, 9, 10] (.seq (.ops [0, 1, 7, 29]) (.cond (.ops [0, 1, 8, 9, 10]) (.seq (.ops [0, 1, 7, 38]) (.cond (.ops [0, 1, 8, 9, 10]) (.seq (.ops [4, 5, 6]) .leaf)))))))))))) (.seq (.seq (.ops [0, 1, 8, 9, 10, 11]) (.blk (.loop [0, 1, 8, 10] [9, 11] (.seq (.seq (.ops [0, 1, 8, 9, 10, 11, 49]) (.cond .leaf .leaf)) (.seq (.blk (.seq (.seq (.ops [0, 1, 8, 9, 10, 11, 66]) (.cond (.seq (.ops [4, 5, 6]) .leaf) .leaf)) (.ops [0, 1, 8, 9, 10, 11]))) (.ops [0, 1, 8, 9, 10, 11])))))) (.seq (.join [8, 9] (.seq (.ops [8, 9, 91]) (.cond (.seq (.ops [4, 5, 6]) .leaf) .leaf))) (.seq (.ops [4, 5, 6]) .leaf)))))))) (c := Tryd.f50.body.getD .skip) hentT Tryd.func50 rfl (Nat.le_of_ble_eq_true (by kernel_rfl))
    (Eq.mp (show sh50 a0 a1 w R = denF Tryd.prog entT false Tryd.f50 (.seq (.ops [0, 1]) (.seq (.ops [0, 1, 7]) (.seq (.ops [0, 1, 7]) (.seq (.blk (.seq (.ops [0, 1, 7, 16]) (.cond (.seq (.ops [4, 5, 6]) .leaf) (.join [0, 1, 8, 9, 10] (.seq (.ops [0, 1, 7, 20]) (.cond (.ops [0, 1, 8, 9, 10]) (.join [0, 1, 8, 9, 10] (.seq (.ops [0, 1, 7, 29]) (.cond (.ops [0, 1, 8, 9, 10]) (.seq (.ops [0, 1, 7, 38]) (.cond (.ops [0, 1, 8, 9, 10]) (.seq (.ops [4, 5, 6]) .leaf)))))))))))) (.seq (.seq (.ops [0, 1, 8, 9, 10, 11]) (.blk (.loop [0, 1, 8, 10] [9, 11] (.seq (.seq (.ops [0, 1, 8, 9, 10, 11, 49]) (.cond .leaf .leaf)) (.seq (.blk (.seq (.seq (.ops [0, 1, 8, 9, 10, 11, 66]) (.cond (.seq (.ops [4, 5, 6]) .leaf) .leaf)) (.ops [0, 1, 8, 9, 10, 11]))) (.ops [0, 1, 8, 9, 10, 11])))))) (.seq (.join [8, 9] (.seq (.ops [8, 9, 91]) (.cond (.seq (.ops [4, 5, 6]) .leaf) .leaf))) (.seq (.ops [4, 5, 6]) .leaf))))))) (Tryd.f50.body.getD .skip) [a0, a1] w R by kernel_rfl) h)

/-! ### 76: (*strings.Builder).copyCheck -/
def sh76 (a0 : Value) (w : World) (R : Value → World → Prop) : Prop :=
 RunA Tryd.prog (nilV a0) fun t3_1 =>
 RunA Tryd.prog (Instr.fieldAt 53 t3_1 0) fun t4_2 =>
 RunW Tryd.prog (Instr.loadAt 51 t4_2) w fun t5_3 =>
 RunW Tryd.prog (bin .eql 51 (.tmp 5) (.const (.pointer none)) t5_3 (.pointer none)) w fun t6_4 =>
 IfB t6_4 (
 RunV Tryd.prog (convert 51 107 a0) w fun t9_5 w =>
 RunO Tryd.prog (callFunc 89 #[t9_5]) w fun t10_6 w =>
 RunV Tryd.prog (convert 107 51 t10_6) w fun t11_7 w =>
 RunA Tryd.prog (nilV a0) fun t12_8 =>
 RunA Tryd.prog (Instr.fieldAt 53 t12_8 0) fun t13_9 =>
 RunU Tryd.prog (Instr.storeAt 51 t13_9 t11_7) w fun w =>
 R (.tuple #[]) w) (
 RunA Tryd.prog (nilV a0) fun t15_10 =>
 RunA Tryd.prog (Instr.fieldAt 53 t15_10 0) fun t16_11 =>
 RunW Tryd.prog (Instr.loadAt 51 t16_11) w fun t17_12 =>
 RunW Tryd.prog (bin .neq 51 (.tmp 17) (.tmp 18) t17_12 a0) w fun t19_13 =>
 IfB t19_13 (
 False) (
 R (.tuple #[]) w))
theorem sh76_calls {a0 : Value} {w : World} {R : Value → World → Prop} (h : sh76 a0 w R) : CallF Tryd.prog 76 #[a0] w R :=
  calls_of_denF (mk := false) (args := [a0]) (an := (.seq (.ops [0, 6]) (.cond (.ops []) (.seq (.ops [19]) (.cond .leaf .leaf))))) (c := Tryd.f76.body.getD .skip) hentT Tryd.func76 rfl (Nat.le_of_ble_eq_true (by kernel_rfl))
    (Eq.mp (show sh76 a0 w R = denF Tryd.prog entT false Tryd.f76 (.seq (.ops [0, 6]) (.cond (.ops []) (.seq (.ops [19]) (.cond .leaf .leaf)))) (Tryd.f76.body.getD .skip) [a0] w R by kernel_rfl) h)

/-! ### 79: (*handbill/text.reader).next -/
def sh79 (a0 : Value) (w : World) (R : Value → World → Prop) : Prop :=
 RunA Tryd.prog (nilV a0) fun t4_1 =>
 RunA Tryd.prog (Instr.fieldAt 64 t4_1 2) fun t5_2 =>
 RunW Tryd.prog (Instr.loadAt 23 t5_2) w fun t6_3 =>
 RunW Tryd.prog (bin .neq 23 (.tmp 6) (.const (.int .i64 0)) t6_3 (.int .i64 0)) w fun t7_4 =>
 IfB t7_4 (
 R (.int .u8 0) w) (
 drw (fun S_5 w =>
 RunA Tryd.prog (nilV a0) fun t9_6 =>
 RunA Tryd.prog (Instr.fieldAt 64 t9_6 1) fun t10_7 =>
 RunS Tryd.prog S_5 (Instr.loadAt 3 t10_7) fun t11_8 =>
 RunA Tryd.prog (nilV a0) fun t13_9 =>
 RunA Tryd.prog (Instr.fieldAt 64 t13_9 0) fun t14_10 =>
 RunS Tryd.prog S_5 (Instr.loadAt 9 t14_10) fun t15_11 =>
 RunS Tryd.prog S_5 (Builtin.len_ #[9] 3 #[t15_11]) fun t16_12 =>
 RunA Tryd.prog (bin .geq 3 (.tmp 11) (.tmp 16) t11_8 t16_12) fun t17_13 =>
 IfB t17_13 (
 CallF Tryd.prog 80 #[a0, (.int .i64 2)] w fun t19_14 w =>
 R (.int .u8 0) w) (
 RunA Tryd.prog (nilV a0) fun t21_15 =>
 RunA Tryd.prog (Instr.fieldAt 64 t21_15 1) fun t22_16 =>
 RunW Tryd.prog (Instr.loadAt 3 t22_16) w fun t23_17 =>
 RunA Tryd.prog (bin .add 3 (.tmp 23) (.const (.int .i64 1)) t23_17 (.int .i64 1)) fun t24_18 =>
 RunA Tryd.prog (nilV a0) fun t25_19 =>
 RunA Tryd.prog (Instr.fieldAt 64 t25_19 1) fun t26_20 =>
 RunU Tryd.prog (Instr.storeAt 3 t26_20 t24_18) w fun w =>
 drw (fun S_21 w =>
 RunA Tryd.prog (nilV a0) fun t28_22 =>
 RunA Tryd.prog (Instr.fieldAt 64 t28_22 0) fun t29_23 =>
 RunS Tryd.prog S_21 (Instr.loadAt 9 t29_23) fun t30_24 =>
 RunA Tryd.prog (nilV a0) fun t32_25 =>
 RunA Tryd.prog (Instr.fieldAt 64 t32_25 1) fun t33_26 =>
 RunS Tryd.prog S_21 (Instr.loadAt 3 t33_26) fun t34_27 =>
 RunA Tryd.prog (bin .sub 3 (.tmp 34) (.const (.int .i64 1)) t34_27 (.int .i64 1)) fun t35_28 =>
 RunA Tryd.prog (Instr.index 9 t30_24 t35_28) fun t36_29 =>
 R t36_29 w) w)) w)
theorem sh79_calls {a0 : Value} {w : World} {R : Value → World → Prop} (h : sh79 a0 w R) : CallF Tryd.prog 79 #[a0] w R :=
  calls_of_denF (mk := false) (args := [a0]) (an := (.seq (.ops [0]) (.seq (.seq (.ops [0, 7]) (.cond (.seq (.ops [2]) .leaf) .leaf)) (.seq (.seq (.draw (.q 0 (.q 1 (.q 2 (.q 3 (.q 4 (.q 5 (.q 6 (.q 7 (.q 8 (.q 9 .fin)))))))))) [0, 17]) (.cond (.seq (.ops []) (.seq (.ops [2]) .leaf)) .leaf)) (.seq (.ops [0]) (.seq (.draw (.q 0 (.q 1 (.q 2 (.q 3 (.q 4 (.q 5 (.q 6 (.q 7 (.q 8 (.q 9 (.q 10 .fin))))))))))) [2]) .leaf)))))) (c := Tryd.f79.body.getD .skip) hentT Tryd.func79 rfl (Nat.le_of_ble_eq_true (by kernel_rfl))
    (Eq.mp (show sh79 a0 w R = denF Tryd.prog entT false Tryd.f79 (.seq (.ops [0]) (.seq (.seq (.ops [0, 7]) (.cond (.seq (.ops [2]) .leaf) .leaf)) (.seq (.seq (.draw (.q 0 (.q 1 (.q 2 (.q 3 (.q 4 (.q 5 (.q 6 (.q 7 (.q 8 (.q 9 .fin)))))))))) [0, 17]) (.cond (.seq (.ops []) (.seq (.ops [2]) .leaf)) .leaf)) (.seq (.ops [0]) (.seq (.draw (.q 0 (.q 1 (.q 2 (.q 3 (.q 4 (.q 5 (.q 6 (.q 7 (.q 8 (.q 9 (.q 10 .fin))))))))))) [2]) .leaf))))) (Tryd.f79.body.getD .skip) [a0] w R by kernel_rfl) h)

/-! ### 80: (*handbill/text.reader).fail -/
def sh80 (a0 a1 : Value) (w : World) (R : Value → World → Prop) : Prop :=
 RunA Tryd.prog (nilV a0) fun t5_1 =>
 RunA Tryd.prog (Instr.fieldAt 64 t5_1 2) fun t6_2 =>
 RunW Tryd.prog (Instr.loadAt 23 t6_2) w fun t7_3 =>
 RunW Tryd.prog (bin .eql 23 (.tmp 7) (.const (.int .i64 0)) t7_3 (.int .i64 0)) w fun t8_4 =>
 IfB t8_4 (
 RunA Tryd.prog (nilV a0) fun t11_5 =>
 RunA Tryd.prog (Instr.fieldAt 64 t11_5 2) fun t12_6 =>
 RunU Tryd.prog (Instr.storeAt 23 t12_6 a1) w fun w =>
 R (.tuple #[]) w) (
 R (.tuple #[]) w)
theorem sh80_calls {a0 a1 : Value} {w : World} {R : Value → World → Prop} (h : sh80 a0 a1 w R) : CallF Tryd.prog 80 #[a0, a1] w R :=
  calls_of_denF (mk := false) (args := [a0, a1]) (an := (.seq (.ops [0, 1, 8]) (.cond (.ops []) .leaf))) (c := Tryd.f80.body.getD .skip) hentT Tryd.func80 rfl (Nat.le_of_ble_eq_true (by kernel_rfl))
    (Eq.mp (show sh80 a0 a1 w R = denF Tryd.prog entT false Tryd.f80 (.seq (.ops [0, 1, 8]) (.cond (.ops []) .leaf)) (Tryd.f80.body.getD .skip) [a0, a1] w R by kernel_rfl) h)

/-! ### 82: (*handbill/text.reader).unit -/
def sh82 (a0 : Value) (w : World) (R : Value → World → Prop) : Prop :=
 CallF Tryd.prog 92 #[a0] w fun t6_1 w =>
 RunA Tryd.prog (nilV a0) fun t8_2 =>
 RunA Tryd.prog (Instr.fieldAt 64 t8_2 2) fun t9_3 =>
 RunW Tryd.prog (Instr.loadAt 23 t9_3) w fun t10_4 =>
 RunW Tryd.prog (bin .neq 23 (.tmp 10) (.const (.int .i64 0)) t10_4 (.int .i64 0)) w fun t11_5 =>
 IfB t11_5 (
 R t6_1 w) (
 RunA Tryd.prog (bin .lss 21 (.tmp 13) (.const (.int .i32 55296)) t6_1 (.int .i32 55296)) fun t14_6 =>
 IfB t14_6 (
 R t6_1 w) (
 RunA Tryd.prog (bin .gtr 21 (.tmp 17) (.const (.int .i32 57343)) t6_1 (.int .i32 57343)) fun t18_7 =>
 IfB t18_7 (
 R t6_1 w) (
 RunA Tryd.prog (bin .geq 21 (.tmp 21) (.const (.int .i32 56320)) t6_1 (.int .i32 56320)) fun t22_8 =>
 IfB t22_8 (
 CallF Tryd.prog 80 #[a0, (.int .i64 4)] w fun t24_9 w =>
 R (.int .i32 0) w) (
 CallF Tryd.prog 43 #[a0, (.int .u8 92)] w fun t26_10 w =>
 CallF Tryd.prog 43 #[a0, (.int .u8 117)] w fun t28_11 w =>
 CallF Tryd.prog 92 #[a0] w fun t30_12 w =>
 jn 2 (fun t3_13 t4_14 w =>
 RunA Tryd.prog (bin .sub 21 (.tmp 39) (.const (.int .i32 55296)) t3_13 (.int .i32 55296)) fun t40_16 =>
 RunA Tryd.prog (bin .shl 21 (.tmp 40) (.const (.int .u64 10)) t40_16 (.int .u64 10)) fun t41_17 =>
 RunA Tryd.prog (bin .add 21 (.const (.int .i32 65536)) (.tmp 41) (.int .i32 65536) t41_17) fun t42_18 =>
 RunA Tryd.prog (bin .add 21 (.tmp 42) (.tmp 43) t42_18 t4_14) fun t44_19 =>
 RunA Tryd.prog (bin .sub 21 (.tmp 44) (.const (.int .i32 56320)) t44_19 (.int .i32 56320)) fun t45_20 =>
 R t45_20 w) fun j_15 =>
 RunA Tryd.prog (bin .lss 21 (.tmp 31) (.const (.int .i32 56320)) t30_12 (.int .i32 56320)) fun t32_21 =>
 IfB t32_21 (
 CallF Tryd.prog 80 #[a0, (.int .i64 4)] w fun t38_22 w =>
 j_15 t6_1 t30_12 w) (
 RunA Tryd.prog (bin .gtr 21 (.tmp 34) (.const (.int .i32 57343)) t30_12 (.int .i32 57343)) fun t35_23 =>
 IfB t35_23 (
 CallF Tryd.prog 80 #[a0, (.int .i64 4)] w fun t38_24 w =>
 j_15 t6_1 t30_12 w) (
 j_15 t6_1 t30_12 w))))))
theorem sh82_calls {a0 : Value} {w : World} {R : Value → World → Prop} (h : sh82 a0 w R) : CallF Tryd.prog 82 #[a0] w R :=
  calls_of_denF (mk := false) (args := [a0]) (an := (.seq (.ops [0]) (.seq (.ops [0, 3]) (.seq (.seq (.ops [0, 3, 19]) (.cond (.seq (.ops [2]) .leaf) .leaf)) (.seq (.seq (.ops [0, 3, 22]) (.cond (.seq (.ops []) (.seq (.ops [2]) .leaf)) .leaf)) (.seq (.ops [0, 3]) (.seq (.ops [0, 3]) (.seq (.ops [0, 3, 4]) (.seq (.join [3, 4] (.seq (.ops [0, 3, 4, 36]) (.cond (.ops [3, 4]) .leaf))) (.seq (.ops [2]) .leaf)))))))))) (c := Tryd.f82.body.getD .skip) hentT Tryd.func82 rfl (Nat.le_of_ble_eq_true (by kernel_rfl))
    (Eq.mp (show sh82 a0 w R = denF Tryd.prog entT false Tryd.f82 (.seq (.ops [0]) (.seq (.ops [0, 3]) (.seq (.seq (.ops [0, 3, 19]) (.cond (.seq (.ops [2]) .leaf) .leaf)) (.seq (.seq (.ops [0, 3, 22]) (.cond (.seq (.ops []) (.seq (.ops [2]) .leaf)) .leaf)) (.seq (.ops [0, 3]) (.seq (.ops [0, 3]) (.seq (.ops [0, 3, 4]) (.seq (.join [3, 4] (.seq (.ops [0, 3, 4, 36]) (.cond (.ops [3, 4]) .leaf))) (.seq (.ops [2]) .leaf))))))))) (Tryd.f82.body.getD .skip) [a0] w R by kernel_rfl) h)

/-! ### 83: handbill/hblref1.four -/
def sh83 (a0 a1 : Value) (w : World) (R : Value → World → Prop) : Prop :=
 lp 2 (fun n_3 t6_1 t7_2 w =>
 RunA Tryd.prog (bin .lss 3 (.tmp 9) (.const (.int .i64 4)) t7_2 (.int .i64 4)) fun t10_4 =>
 IfB t10_4 (
 RunA Tryd.prog (bin .add 3 (.tmp 13) (.tmp 14) a1 t7_2) fun t15_5 =>
 RunW Tryd.prog (Builtin.len_ #[9] 3 #[a0]) w fun t17_6 =>
 RunA Tryd.prog (bin .geq 3 (.tmp 15) (.tmp 17) t15_5 t17_6) fun t18_7 =>
 IfB t18_7 (
 R (.tuple #[(.int .i64 0), (.int .i64 2)]) w) (
 RunA Tryd.prog (bin .add 3 (.tmp 20) (.tmp 21) a1 t7_2) fun t22_8 =>
 RunA Tryd.prog (Instr.index 9 a0 t22_8) fun t23_9 =>
 CallF Tryd.prog 93 #[t23_9] w fun t24_10 w =>
 RunA Tryd.prog (bin .lss 3 (.tmp 25) (.const (.int .i64 0)) t24_10 (.int .i64 0)) fun t26_11 =>
 IfB t26_11 (
 R (.tuple #[(.int .i64 0), (.int .i64 4)]) w) (
 RunA Tryd.prog (bin .shl 3 (.tmp 27) (.const (.int .u64 4)) t6_1 (.int .u64 4)) fun t28_12 =>
 RunA Tryd.prog (bin .or 3 (.tmp 28) (.tmp 29) t28_12 t24_10) fun t30_13 =>
 RunA Tryd.prog (bin .add 3 (.tmp 11) (.const (.int .i64 1)) t7_2 (.int .i64 1)) fun t12_14 =>
 (a0 : Value) = a0 ∧ ((a1 : Value) = a1 ∧ (n_3 t30_13 t12_14 w))))) (
 R (.tuple #[t6_1, (.int .i64 0)]) w)) [(.int .i64 0), (.int .i64 0)] w
theorem sh83_calls {a0 a1 : Value} {w : World} {R : Value → World → Prop} (h : sh83 a0 a1 w R) : CallF Tryd.prog 83 #[a0, a1] w R :=
  calls_of_denF (mk := false) (args := [a0, a1]) (an := (.seq (.ops [0, 1]) (.seq (.ops [0, 1, 6]) (.seq (.seq (.ops [0, 1, 6, 7]) (.blk (.loop [0, 1] [6, 7] (.seq (.seq (.ops [0, 1, 6, 7, 10]) (.cond .leaf .leaf)) (.seq (.blk (.seq (.seq (.ops [0, 1, 6, 7, 18]) (.cond (.seq (.ops [4, 5]) .leaf) .leaf)) (.seq (.ops [0, 1, 6, 7, 8]) (.seq (.seq (.ops [0, 1, 6, 7, 8, 26]) (.cond (.seq (.ops [4, 5]) .leaf) .leaf)) (.ops [0, 1, 6, 7]))))) (.ops [0, 1, 6, 7])))))) (.seq (.ops [4, 5]) .leaf))))) (c := Tryd.f83.body.getD .skip) hentT Tryd.func83 rfl (Nat.le_of_ble_eq_true (by kernel_rfl))
    (Eq.mp (show sh83 a0 a1 w R = denF Tryd.prog entT false Tryd.f83 (.seq (.ops [0, 1]) (.seq (.ops [0, 1, 6]) (.seq (.seq (.ops [0, 1, 6, 7]) (.blk (.loop [0, 1] [6, 7] (.seq (.seq (.ops [0, 1, 6, 7, 10]) (.cond .leaf .leaf)) (.seq (.blk (.seq (.seq (.ops [0, 1, 6, 7, 18]) (.cond (.seq (.ops [4, 5]) .leaf) .leaf)) (.seq (.ops [0, 1, 6, 7, 8]) (.seq (.seq (.ops [0, 1, 6, 7, 8, 26]) (.cond (.seq (.ops [4, 5]) .leaf) .leaf)) (.ops [0, 1, 6, 7]))))) (.ops [0, 1, 6, 7])))))) (.seq (.ops [4, 5]) .leaf)))) (Tryd.f83.body.getD .skip) [a0, a1] w R by kernel_rfl) h)

/-! ### 92: (*handbill/text.reader).four -/
def sh92 (a0 : Value) (w : World) (R : Value → World → Prop) : Prop :=
 lp 2 (fun n_3 t3_1 t6_2 w =>
 RunA Tryd.prog (bin .lss 3 (.tmp 6) (.const (.int .i64 4)) t6_2 (.int .i64 4)) fun t7_4 =>
 IfB t7_4 (
 CallF Tryd.prog 79 #[a0] w fun t9_5 w =>
 jn 4 (fun t0_6 t3_7 t4_8 t6_9 w =>
 CallF Tryd.prog 99 #[(.string ⟨#[48, 49, 50, 51, 52, 53, 54, 55, 56, 57, 97, 98, 99, 100, 101, 102]⟩), t4_8] w fun t19_11 w =>
 RunA Tryd.prog (bin .lss 3 (.tmp 20) (.const (.int .i64 0)) t19_11 (.int .i64 0)) fun t21_12 =>
 IfB t21_12 (
 CallF Tryd.prog 80 #[t0_6, (.int .i64 4)] w fun t23_13 w =>
 R (.int .i32 0) w) (
 RunA Tryd.prog (bin .shl 21 (.tmp 24) (.const (.int .u64 4)) t3_7 (.int .u64 4)) fun t25_14 =>
 RunV Tryd.prog (convert 3 21 t19_11) w fun t27_15 w =>
 RunA Tryd.prog (bin .or 21 (.tmp 25) (.tmp 27) t25_14 t27_15) fun t28_16 =>
 RunA Tryd.prog (bin .add 3 (.tmp 6) (.const (.int .i64 1)) t6_9 (.int .i64 1)) fun t29_17 =>
 (t0_6 : Value) = a0 ∧ (n_3 t28_16 t29_17 w))) fun j_10 =>
 RunA Tryd.prog (bin .geq 5 (.tmp 10) (.const (.int .u8 65)) t9_5 (.int .u8 65)) fun t11_18 =>
 IfB t11_18 (
 RunA Tryd.prog (bin .leq 5 (.tmp 13) (.const (.int .u8 70)) t9_5 (.int .u8 70)) fun t14_19 =>
 IfB t14_19 (
 RunA Tryd.prog (bin .add 5 (.tmp 16) (.const (.int .u8 32)) t9_5 (.int .u8 32)) fun t17_20 =>
 j_10 a0 t3_1 t17_20 t6_2 w) (
 j_10 a0 t3_1 t9_5 t6_2 w)) (
 j_10 a0 t3_1 t9_5 t6_2 w)) (
 R t3_1 w)) [(.int .i32 0), (.int .i64 0)] w
theorem sh92_calls {a0 : Value} {w : World} {R : Value → World → Prop} (h : sh92 a0 w R) : CallF Tryd.prog 92 #[a0] w R :=
  calls_of_denF (mk := false) (args := [a0]) (an := (.seq (.ops [0]) (.seq (.ops [0, 3]) (.seq (.seq (.ops [0, 3, 6]) (.blk (.loop [0] [3, 6] (.seq (.ops [0, 3, 6, 7]) (.seq (.cond .leaf .leaf) (.seq (.blk (.seq (.ops [0, 3, 4, 6]) (.seq (.join [0, 3, 4, 6] (.seq (.ops [0, 3, 4, 6, 15]) (.cond (.ops [0, 3, 4, 6]) .leaf))) (.seq (.ops [0, 3, 5, 6]) (.seq (.seq (.ops [0, 3, 5, 6, 21]) (.cond (.seq (.ops []) (.seq (.ops [2]) .leaf)) .leaf)) (.ops [0, 3, 6])))))) (.ops [0, 3, 6]))))))) (.seq (.ops [2]) .leaf))))) (c := Tryd.f92.body.getD .skip) hentT Tryd.func92 rfl (Nat.le_of_ble_eq_true (by kernel_rfl))
    (Eq.mp (show sh92 a0 w R = denF Tryd.prog entT false Tryd.f92 (.seq (.ops [0]) (.seq (.ops [0, 3]) (.seq (.seq (.ops [0, 3, 6]) (.blk (.loop [0] [3, 6] (.seq (.ops [0, 3, 6, 7]) (.seq (.cond .leaf .leaf) (.seq (.blk (.seq (.ops [0, 3, 4, 6]) (.seq (.join [0, 3, 4, 6] (.seq (.ops [0, 3, 4, 6, 15]) (.cond (.ops [0, 3, 4, 6]) .leaf))) (.seq (.ops [0, 3, 5, 6]) (.seq (.seq (.ops [0, 3, 5, 6, 21]) (.cond (.seq (.ops []) (.seq (.ops [2]) .leaf)) .leaf)) (.ops [0, 3, 6])))))) (.ops [0, 3, 6]))))))) (.seq (.ops [2]) .leaf)))) (Tryd.f92.body.getD .skip) [a0] w R by kernel_rfl) h)

/-! ### 93: handbill/hblref1.Digit -/
def sh93 (a0 : Value) (w : World) (R : Value → World → Prop) : Prop :=
 jn 0 (fun w =>
 R (.int .i64 (-1)) w) fun j_1 =>
 RunA Tryd.prog (bin .geq 5 (.tmp 4) (.const (.int .u8 48)) a0 (.int .u8 48)) fun t5_2 =>
 IfB t5_2 (
 RunA Tryd.prog (bin .leq 5 (.tmp 7) (.const (.int .u8 57)) a0 (.int .u8 57)) fun t8_3 =>
 IfB t8_3 (
 RunA Tryd.prog (bin .sub 5 (.tmp 10) (.const (.int .u8 48)) a0 (.int .u8 48)) fun t11_4 =>
 RunV Tryd.prog (convert 5 3 t11_4) w fun t12_5 w =>
 R t12_5 w) (
 jn 0 (fun w =>
 j_1 w) fun j_6 =>
 RunA Tryd.prog (bin .geq 5 (.tmp 14) (.const (.int .u8 97)) a0 (.int .u8 97)) fun t15_7 =>
 IfB t15_7 (
 RunA Tryd.prog (bin .leq 5 (.tmp 17) (.const (.int .u8 102)) a0 (.int .u8 102)) fun t18_8 =>
 IfB t18_8 (
 RunA Tryd.prog (bin .sub 5 (.tmp 20) (.const (.int .u8 97)) a0 (.int .u8 97)) fun t21_9 =>
 RunV Tryd.prog (convert 5 3 t21_9) w fun t22_10 w =>
 RunA Tryd.prog (bin .add 3 (.tmp 22) (.const (.int .i64 10)) t22_10 (.int .i64 10)) fun t23_11 =>
 R t23_11 w) (
 jn 0 (fun w =>
 j_6 w) fun j_12 =>
 RunA Tryd.prog (bin .geq 5 (.tmp 25) (.const (.int .u8 65)) a0 (.int .u8 65)) fun t26_13 =>
 IfB t26_13 (
 RunA Tryd.prog (bin .leq 5 (.tmp 28) (.const (.int .u8 70)) a0 (.int .u8 70)) fun t29_14 =>
 IfB t29_14 (
 RunA Tryd.prog (bin .sub 5 (.tmp 31) (.const (.int .u8 65)) a0 (.int .u8 65)) fun t32_15 =>
 RunV Tryd.prog (convert 5 3 t32_15) w fun t33_16 w =>
 RunA Tryd.prog (bin .add 3 (.tmp 33) (.const (.int .i64 10)) t33_16 (.int .i64 10)) fun t34_17 =>
 R t34_17 w) (
 j_12 w)) (
 j_12 w))) (
 jn 0 (fun w =>
 j_6 w) fun j_18 =>
 RunA Tryd.prog (bin .geq 5 (.tmp 25) (.const (.int .u8 65)) a0 (.int .u8 65)) fun t26_19 =>
 IfB t26_19 (
 RunA Tryd.prog (bin .leq 5 (.tmp 28) (.const (.int .u8 70)) a0 (.int .u8 70)) fun t29_20 =>
 IfB t29_20 (
 RunA Tryd.prog (bin .sub 5 (.tmp 31) (.const (.int .u8 65)) a0 (.int .u8 65)) fun t32_21 =>
 RunV Tryd.prog (convert 5 3 t32_21) w fun t33_22 w =>
 RunA Tryd.prog (bin .add 3 (.tmp 33) (.const (.int .i64 10)) t33_22 (.int .i64 10)) fun t34_23 =>
 R t34_23 w) (
 j_18 w)) (
 j_18 w)))) (
 jn 0 (fun w =>
 j_1 w) fun j_24 =>
 RunA Tryd.prog (bin .geq 5 (.tmp 14) (.const (.int .u8 97)) a0 (.int .u8 97)) fun t15_25 =>
 IfB t15_25 (
 RunA Tryd.prog (bin .leq 5 (.tmp 17) (.const (.int .u8 102)) a0 (.int .u8 102)) fun t18_26 =>
 IfB t18_26 (
 RunA Tryd.prog (bin .sub 5 (.tmp 20) (.const (.int .u8 97)) a0 (.int .u8 97)) fun t21_27 =>
 RunV Tryd.prog (convert 5 3 t21_27) w fun t22_28 w =>
 RunA Tryd.prog (bin .add 3 (.tmp 22) (.const (.int .i64 10)) t22_28 (.int .i64 10)) fun t23_29 =>
 R t23_29 w) (
 jn 0 (fun w =>
 j_24 w) fun j_30 =>
 RunA Tryd.prog (bin .geq 5 (.tmp 25) (.const (.int .u8 65)) a0 (.int .u8 65)) fun t26_31 =>
 IfB t26_31 (
 RunA Tryd.prog (bin .leq 5 (.tmp 28) (.const (.int .u8 70)) a0 (.int .u8 70)) fun t29_32 =>
 IfB t29_32 (
 RunA Tryd.prog (bin .sub 5 (.tmp 31) (.const (.int .u8 65)) a0 (.int .u8 65)) fun t32_33 =>
 RunV Tryd.prog (convert 5 3 t32_33) w fun t33_34 w =>
 RunA Tryd.prog (bin .add 3 (.tmp 33) (.const (.int .i64 10)) t33_34 (.int .i64 10)) fun t34_35 =>
 R t34_35 w) (
 j_30 w)) (
 j_30 w))) (
 jn 0 (fun w =>
 j_24 w) fun j_36 =>
 RunA Tryd.prog (bin .geq 5 (.tmp 25) (.const (.int .u8 65)) a0 (.int .u8 65)) fun t26_37 =>
 IfB t26_37 (
 RunA Tryd.prog (bin .leq 5 (.tmp 28) (.const (.int .u8 70)) a0 (.int .u8 70)) fun t29_38 =>
 IfB t29_38 (
 RunA Tryd.prog (bin .sub 5 (.tmp 31) (.const (.int .u8 65)) a0 (.int .u8 65)) fun t32_39 =>
 RunV Tryd.prog (convert 5 3 t32_39) w fun t33_40 w =>
 RunA Tryd.prog (bin .add 3 (.tmp 33) (.const (.int .i64 10)) t33_40 (.int .i64 10)) fun t34_41 =>
 R t34_41 w) (
 j_36 w)) (
 j_36 w)))
theorem sh93_calls {a0 : Value} {w : World} {R : Value → World → Prop} (h : sh93 a0 w R) : CallF Tryd.prog 93 #[a0] w R :=
  calls_of_denF (mk := false) (args := [a0]) (an := (.seq (.ops [0]) (.seq (.blk (.join [] (.seq (.ops [0, 3]) (.cond (.seq (.ops [2]) .leaf) (.join [] (.seq (.ops [0, 13]) (.cond (.seq (.ops [2]) .leaf) (.join [] (.seq (.ops [0, 24]) (.cond (.seq (.ops [2]) .leaf) .leaf)))))))))) (.seq (.ops [2]) .leaf)))) (c := Tryd.f93.body.getD .skip) hentT Tryd.func93 rfl (Nat.le_of_ble_eq_true (by kernel_rfl))
    (Eq.mp (show sh93 a0 w R = denF Tryd.prog entT false Tryd.f93 (.seq (.ops [0]) (.seq (.blk (.join [] (.seq (.ops [0, 3]) (.cond (.seq (.ops [2]) .leaf) (.join [] (.seq (.ops [0, 13]) (.cond (.seq (.ops [2]) .leaf) (.join [] (.seq (.ops [0, 24]) (.cond (.seq (.ops [2]) .leaf) .leaf)))))))))) (.seq (.ops [2]) .leaf))) (Tryd.f93.body.getD .skip) [a0] w R by kernel_rfl) h)

/-! ### 99: strings.IndexByte -/
def sh99 (a0 a1 : Value) (w : World) (R : Value → World → Prop) : Prop :=
 CallF Tryd.prog 103 #[a0, a1] w fun t7_1 w =>
 R t7_1 w
theorem sh99_calls {a0 a1 : Value} {w : World} {R : Value → World → Prop} (h : sh99 a0 a1 w R) : CallF Tryd.prog 99 #[a0, a1] w R :=
  calls_of_denF (mk := false) (args := [a0, a1]) (an := (.seq (.ops [0, 1]) (.seq (.ops [4]) .leaf))) (c := Tryd.f99.body.getD .skip) hentT Tryd.func99 rfl (Nat.le_of_ble_eq_true (by kernel_rfl))
    (Eq.mp (show sh99 a0 a1 w R = denF Tryd.prog entT false Tryd.f99 (.seq (.ops [0, 1]) (.seq (.ops [4]) .leaf)) (Tryd.f99.body.getD .skip) [a0, a1] w R by kernel_rfl) h)

/-! ### 103: internal/stringslite.IndexByte -/
def sh103 (a0 a1 : Value) (w : World) (R : Value → World → Prop) : Prop :=
 RunO Tryd.prog (callFunc 105 #[a0, a1]) w fun t7_1 w =>
 R t7_1 w
theorem sh103_calls {a0 a1 : Value} {w : World} {R : Value → World → Prop} (h : sh103 a0 a1 w R) : CallF Tryd.prog 103 #[a0, a1] w R :=
  calls_of_denF (mk := false) (args := [a0, a1]) (an := (.seq (.ops [0, 1]) (.seq (.ops [4]) .leaf))) (c := Tryd.f103.body.getD .skip) hentT Tryd.func103 rfl (Nat.le_of_ble_eq_true (by kernel_rfl))
    (Eq.mp (show sh103 a0 a1 w R = denF Tryd.prog entT false Tryd.f103 (.seq (.ops [0, 1]) (.seq (.ops [4]) .leaf)) (Tryd.f103.body.getD .skip) [a0, a1] w R by kernel_rfl) h)

/-! ### 77: unicode/utf8.AppendRune -/
def sh77 (a0 a1 : Value) (w : World) (R : Value → World → Prop) : Prop :=
 RunV Tryd.prog (convert 21 109 a1) w fun t6_1 w =>
 RunA Tryd.prog (bin .leq 109 (.tmp 6) (.const (.int .u32 127)) t6_1 (.int .u32 127)) fun t7_2 =>
 IfB t7_2 (
 RunV Tryd.prog (convert 21 5 a1) w fun t10_3 w =>
 RunV Tryd.prog (Instr.buildSlice 49 1 #[(0, t10_3)]) w fun t11_4 w =>
 RunV Tryd.prog (Builtin.append_ #[49, 49] 49 #[a0, t11_4]) w fun t12_5 w =>
 R t12_5 w) (
 CallF Tryd.prog 90 #[a0, a1] w fun t15_6 w =>
 R t15_6 w)
theorem sh77_calls {a0 a1 : Value} {w : World} {R : Value → World → Prop} (h : sh77 a0 a1 w R) : CallF Tryd.prog 77 #[a0, a1] w R :=
  calls_of_denF (mk := false) (args := [a0, a1]) (an := (.seq (.ops [0, 1]) (.seq (.seq (.ops [0, 1, 7]) (.cond (.seq (.ops [4]) .leaf) .leaf)) (.seq (.ops [4]) .leaf)))) (c := Tryd.f77.body.getD .skip) hentT Tryd.func77 rfl (Nat.le_of_ble_eq_true (by kernel_rfl))
    (Eq.mp (show sh77 a0 a1 w R = denF Tryd.prog entT false Tryd.f77 (.seq (.ops [0, 1]) (.seq (.seq (.ops [0, 1, 7]) (.cond (.seq (.ops [4]) .leaf) .leaf)) (.seq (.ops [4]) .leaf))) (Tryd.f77.body.getD .skip) [a0, a1] w R by kernel_rfl) h)

/-! ### 90: unicode/utf8.appendRuneNonASCII -/
def sh90 (a0 a1 : Value) (w : World) (R : Value → World → Prop) : Prop :=
 RunV Tryd.prog (convert 21 109 a1) w fun t7_1 w =>
 RunA Tryd.prog (bin .leq 109 (.tmp 12) (.const (.int .u32 2047)) t7_1 (.int .u32 2047)) fun t13_2 =>
 IfB t13_2 (
 RunA Tryd.prog (bin .shr 21 (.tmp 15) (.const (.int .u64 6)) a1 (.int .u64 6)) fun t16_3 =>
 RunV Tryd.prog (convert 21 5 t16_3) w fun t17_4 w =>
 RunA Tryd.prog (bin .or 5 (.const (.int .u8 192)) (.tmp 17) (.int .u8 192) t17_4) fun t18_5 =>
 RunV Tryd.prog (convert 21 5 a1) w fun t20_6 w =>
 RunA Tryd.prog (bin .and 5 (.tmp 20) (.const (.int .u8 63)) t20_6 (.int .u8 63)) fun t21_7 =>
 RunA Tryd.prog (bin .or 5 (.const (.int .u8 128)) (.tmp 21) (.int .u8 128) t21_7) fun t22_8 =>
 RunV Tryd.prog (Instr.buildSlice 49 2 #[(0, t18_5), (1, t22_8)]) w fun t23_9 w =>
 RunV Tryd.prog (Builtin.append_ #[49, 49] 49 #[a0, t23_9]) w fun t24_10 w =>
 R t24_10 w) (
 jn 4 (fun t0_11 t1_12 t5_13 t25_14 w =>
 IfB t25_14 (
 RunA Tryd.prog (bin .shr 21 (.tmp 35) (.const (.int .u64 12)) t1_12 (.int .u64 12)) fun t36_16 =>
 RunV Tryd.prog (convert 21 5 t36_16) w fun t37_17 w =>
 RunA Tryd.prog (bin .or 5 (.const (.int .u8 224)) (.tmp 37) (.int .u8 224) t37_17) fun t38_18 =>
 RunA Tryd.prog (bin .shr 21 (.tmp 39) (.const (.int .u64 6)) t1_12 (.int .u64 6)) fun t40_19 =>
 RunV Tryd.prog (convert 21 5 t40_19) w fun t41_20 w =>
 RunA Tryd.prog (bin .and 5 (.tmp 41) (.const (.int .u8 63)) t41_20 (.int .u8 63)) fun t42_21 =>
 RunA Tryd.prog (bin .or 5 (.const (.int .u8 128)) (.tmp 42) (.int .u8 128) t42_21) fun t43_22 =>
 RunV Tryd.prog (convert 21 5 t1_12) w fun t45_23 w =>
 RunA Tryd.prog (bin .and 5 (.tmp 45) (.const (.int .u8 63)) t45_23 (.int .u8 63)) fun t46_24 =>
 RunA Tryd.prog (bin .or 5 (.const (.int .u8 128)) (.tmp 46) (.int .u8 128) t46_24) fun t47_25 =>
 RunV Tryd.prog (Instr.buildSlice 49 3 #[(0, t38_18), (1, t43_22), (2, t47_25)]) w fun t48_26 w =>
 RunV Tryd.prog (Builtin.append_ #[49, 49] 49 #[t0_11, t48_26]) w fun t49_27 w =>
 R t49_27 w) (
 RunA Tryd.prog (bin .gtr 109 (.tmp 51) (.const (.int .u32 65535)) t5_13 (.int .u32 65535)) fun t52_28 =>
 IfB t52_28 (
 RunA Tryd.prog (bin .leq 109 (.tmp 54) (.const (.int .u32 1114111)) t5_13 (.int .u32 1114111)) fun t55_29 =>
 IfB t55_29 (
 RunA Tryd.prog (bin .shr 21 (.tmp 58) (.const (.int .u64 18)) t1_12 (.int .u64 18)) fun t59_30 =>
 RunV Tryd.prog (convert 21 5 t59_30) w fun t60_31 w =>
 RunA Tryd.prog (bin .or 5 (.const (.int .u8 240)) (.tmp 60) (.int .u8 240) t60_31) fun t61_32 =>
 RunA Tryd.prog (bin .shr 21 (.tmp 62) (.const (.int .u64 12)) t1_12 (.int .u64 12)) fun t63_33 =>
 RunV Tryd.prog (convert 21 5 t63_33) w fun t64_34 w =>
 RunA Tryd.prog (bin .and 5 (.tmp 64) (.const (.int .u8 63)) t64_34 (.int .u8 63)) fun t65_35 =>
 RunA Tryd.prog (bin .or 5 (.const (.int .u8 128)) (.tmp 65) (.int .u8 128) t65_35) fun t66_36 =>
 RunA Tryd.prog (bin .shr 21 (.tmp 67) (.const (.int .u64 6)) t1_12 (.int .u64 6)) fun t68_37 =>
 RunV Tryd.prog (convert 21 5 t68_37) w fun t69_38 w =>
 RunA Tryd.prog (bin .and 5 (.tmp 69) (.const (.int .u8 63)) t69_38 (.int .u8 63)) fun t70_39 =>
 RunA Tryd.prog (bin .or 5 (.const (.int .u8 128)) (.tmp 70) (.int .u8 128) t70_39) fun t71_40 =>
 RunV Tryd.prog (convert 21 5 t1_12) w fun t73_41 w =>
 RunA Tryd.prog (bin .and 5 (.tmp 73) (.const (.int .u8 63)) t73_41 (.int .u8 63)) fun t74_42 =>
 RunA Tryd.prog (bin .or 5 (.const (.int .u8 128)) (.tmp 74) (.int .u8 128) t74_42) fun t75_43 =>
 RunV Tryd.prog (Instr.buildSlice 49 4 #[(0, t61_32), (1, t66_36), (2, t71_40), (3, t75_43)]) w fun t76_44 w =>
 RunV Tryd.prog (Builtin.append_ #[49, 49] 49 #[t0_11, t76_44]) w fun t77_45 w =>
 R t77_45 w) (
 RunV Tryd.prog (Instr.buildSlice 49 3 #[(0, (.int .u8 239)), (1, (.int .u8 191)), (2, (.int .u8 189))]) w fun t9_46 w =>
 RunV Tryd.prog (Builtin.append_ #[49, 49] 49 #[t0_11, t9_46]) w fun t10_47 w =>
 R t10_47 w)) (
 RunV Tryd.prog (Instr.buildSlice 49 3 #[(0, (.int .u8 239)), (1, (.int .u8 191)), (2, (.int .u8 189))]) w fun t9_48 w =>
 RunV Tryd.prog (Builtin.append_ #[49, 49] 49 #[t0_11, t9_48]) w fun t10_49 w =>
 R t10_49 w))) fun j_15 =>
 RunA Tryd.prog (bin .lss 109 (.tmp 26) (.const (.int .u32 55296)) t7_1 (.int .u32 55296)) fun t27_50 =>
 IfB t27_50 (
 j_15 a0 a1 t7_1 t27_50 w) (
 jn 4 (fun t0_51 t1_52 t5_53 t25_54 w =>
 j_15 t0_51 t1_52 t5_53 t25_54 w) fun j_55 =>
 RunA Tryd.prog (bin .lss 109 (.const (.int .u32 57343)) (.tmp 28) (.int .u32 57343) t7_1) fun t29_56 =>
 IfB t29_56 (
 RunA Tryd.prog (bin .leq 109 (.tmp 31) (.const (.int .u32 65535)) t7_1 (.int .u32 65535)) fun t32_57 =>
 j_55 a0 a1 t7_1 t32_57 w) (
 j_55 a0 a1 t7_1 (.bool false) w)))
theorem sh90_calls {a0 a1 : Value} {w : World} {R : Value → World → Prop} (h : sh90 a0 a1 w R) : CallF Tryd.prog 90 #[a0, a1] w R :=
  calls_of_denF (mk := false) (args := [a0, a1]) (an := (.seq (.ops [0, 1]) (.seq (.ops [0, 1, 5]) (.blk (.seq (.ops [0, 1, 5, 11]) (.cond (.seq (.ops [4]) .leaf) (.seq (.join [0, 1, 5, 25] (.seq (.ops [0, 1, 5, 25]) (.cond .leaf (.join [0, 1, 5, 25] (.ops [0, 1, 5, 25]))))) (.cond (.seq (.ops [4]) .leaf) (.seq (.ops [0, 1, 50]) (.cond (.seq (.ops [4]) .leaf) (.seq (.ops [4]) .leaf))))))))))) (c := Tryd.f90.body.getD .skip) hentT Tryd.func90 rfl (Nat.le_of_ble_eq_true (by kernel_rfl))
    (Eq.mp (show sh90 a0 a1 w R = denF Tryd.prog entT false Tryd.f90 (.seq (.ops [0, 1]) (.seq (.ops [0, 1, 5]) (.blk (.seq (.ops [0, 1, 5, 11]) (.cond (.seq (.ops [4]) .leaf) (.seq (.join [0, 1, 5, 25] (.seq (.ops [0, 1, 5, 25]) (.cond .leaf (.join [0, 1, 5, 25] (.ops [0, 1, 5, 25]))))) (.cond (.seq (.ops [4]) .leaf) (.seq (.ops [0, 1, 50]) (.cond (.seq (.ops [4]) .leaf) (.seq (.ops [4]) .leaf)))))))))) (Tryd.f90.body.getD .skip) [a0, a1] w R by kernel_rfl) h)

end Go.Proofs.YtififikdlcohpaaDoor
