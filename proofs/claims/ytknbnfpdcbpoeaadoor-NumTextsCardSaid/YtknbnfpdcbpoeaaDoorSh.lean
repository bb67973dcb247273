/-
  The shallow forms of the functions, printed by a program (ez.py) out of Lean's print of the loaded functions; each is proved to imply the function's contract: the equations are the kernel's.
-/
import Derived.Test.YtknbnfpdcbpoeaaDoorProg
import Derived.Test.YtknbnfpdcbpoeaaDoorEzSound
namespace Go.Proofs.YtknbnfpdcbpoeaaDoor
open Go Go.Ez
set_option linter.unusedVariables false
set_option maxRecDepth 100000
def ent : List Nat := [9, 10, 11, 12, 13, 14, 15, 16, 17, 18, 19, 20, 21, 22, 23, 24, 25, 26, 27, 28, 35, 36]
theorem hent : ∀ g, memN g ent = true → Enters Tryd.prog g := enters_all (by kernel_rfl)

/-! ### 3: handbill/hbllaw1.NumOrder -/
def sh3 (a0 a1 a2 : Value) (w : World) (R : Value → World → Prop) : Prop :=
 CallF Tryd.prog 9 #[] w fun t15_1 w =>
 RunA Tryd.prog (Op.unary .not t15_1) fun t16_2 =>
 IfB t16_2 (
 R (.bool false) w) (
 CallF Tryd.prog 10 #[a0, a2] w fun t20_3 w =>
 RunA Tryd.prog (Instr.extract t20_3 0) fun t21_4 =>
 RunA Tryd.prog (Instr.extract t20_3 1) fun t22_5 =>
 CallF Tryd.prog 10 #[a1, a2] w fun t26_6 w =>
 RunA Tryd.prog (Instr.extract t26_6 0) fun t27_7 =>
 RunA Tryd.prog (Instr.extract t26_6 1) fun t28_8 =>
 CallF Tryd.prog 11 #[a0] w fun t31_9 w =>
 RunA Tryd.prog (Instr.extract t31_9 0) fun t32_10 =>
 RunA Tryd.prog (Instr.extract t31_9 1) fun t33_11 =>
 CallF Tryd.prog 11 #[a1] w fun t36_12 w =>
 RunA Tryd.prog (Instr.extract t36_12 0) fun t37_13 =>
 RunA Tryd.prog (Instr.extract t36_12 1) fun t38_14 =>
 jn 7 (fun t0_15 t1_16 t2_17 t7_18 t8_19 t9_20 t10_21 w =>
 RunA Tryd.prog (Op.unary .not t8_19) fun t58_23 =>
 IfB t58_23 (
 CallF Tryd.prog 9 #[] w fun t63_24 w =>
 IfB t63_24 (
 IfB t8_19 (
 IfB t10_21 (
 R (.bool true) w) (
 RunW Tryd.prog (bin .eql 9 (.tmp 74) (.const (.string ⟨#[]⟩)) t9_20 (.string ⟨#[]⟩)) w fun t75_25 =>
 R t75_25 w)) (
 RunW Tryd.prog (bin .eql 9 (.tmp 67) (.const (.string ⟨#[]⟩)) t7_18 (.string ⟨#[]⟩)) w fun t68_26 =>
 IfB t68_26 (
 IfB t10_21 (
 R (.bool true) w) (
 RunW Tryd.prog (bin .eql 9 (.tmp 74) (.const (.string ⟨#[]⟩)) t9_20 (.string ⟨#[]⟩)) w fun t75_27 =>
 R t75_27 w)) (
 R (.bool false) w))) (
 R (.bool false) w)) (
 RunA Tryd.prog (Op.unary .not t10_21) fun t61_28 =>
 IfB t61_28 (
 CallF Tryd.prog 9 #[] w fun t63_29 w =>
 IfB t63_29 (
 IfB t8_19 (
 IfB t10_21 (
 R (.bool true) w) (
 RunW Tryd.prog (bin .eql 9 (.tmp 74) (.const (.string ⟨#[]⟩)) t9_20 (.string ⟨#[]⟩)) w fun t75_30 =>
 R t75_30 w)) (
 RunW Tryd.prog (bin .eql 9 (.tmp 67) (.const (.string ⟨#[]⟩)) t7_18 (.string ⟨#[]⟩)) w fun t68_31 =>
 IfB t68_31 (
 IfB t10_21 (
 R (.bool true) w) (
 RunW Tryd.prog (bin .eql 9 (.tmp 74) (.const (.string ⟨#[]⟩)) t9_20 (.string ⟨#[]⟩)) w fun t75_32 =>
 R t75_32 w)) (
 R (.bool false) w))) (
 R (.bool false) w)) (
 CallF Tryd.prog 9 #[] w fun t78_33 w =>
 IfB t78_33 (
 RunW Tryd.prog (Builtin.len_ #[9] 3 #[t7_18]) w fun t81_34 =>
 RunW Tryd.prog (bin .eql 3 (.tmp 81) (.tmp 82) t81_34 t2_17) w fun t83_35 =>
 IfB t83_35 (
 RunW Tryd.prog (Builtin.len_ #[9] 3 #[t9_20]) w fun t87_36 =>
 RunW Tryd.prog (bin .eql 3 (.tmp 87) (.tmp 88) t87_36 t2_17) w fun t89_37 =>
 IfB t89_37 (
 RunA Tryd.prog (bin .lss 3 (.tmp 92) (.tmp 93) t0_15 t1_16) fun t94_38 =>
 RunA Tryd.prog (bin .lss 9 (.tmp 95) (.tmp 96) t7_18 t9_20) fun t97_39 =>
 RunW Tryd.prog (bin .eql 4 (.tmp 94) (.tmp 97) t94_38 t97_39) w fun t98_40 =>
 IfB t98_40 (
 RunW Tryd.prog (bin .eql 3 (.tmp 101) (.tmp 102) t0_15 t1_16) w fun t103_41 =>
 RunW Tryd.prog (bin .eql 9 (.tmp 104) (.tmp 105) t7_18 t9_20) w fun t106_42 =>
 RunW Tryd.prog (bin .eql 4 (.tmp 103) (.tmp 106) t103_41 t106_42) w fun t107_43 =>
 R t107_43 w) (
 R (.bool false) w)) (
 R (.bool false) w)) (
 R (.bool false) w)) (
 R (.bool false) w)))) fun j_22 =>
 RunW Tryd.prog (bin .eql 26 (.tmp 39) (.const (.int .i64 0)) t33_11 (.int .i64 0)) w fun t40_44 =>
 IfB t40_44 (
 RunW Tryd.prog (bin .eql 26 (.tmp 42) (.const (.int .i64 0)) t38_14 (.int .i64 0)) w fun t43_45 =>
 IfB t43_45 (
 RunA Tryd.prog (bin .lss 3 (.tmp 46) (.tmp 47) a0 a1) fun t48_46 =>
 IfB t48_46 (
 RunW Tryd.prog (Builtin.len_ #[25] 3 #[t32_10]) w fun t52_47 =>
 RunW Tryd.prog (Builtin.len_ #[25] 3 #[t37_13]) w fun t54_48 =>
 RunA Tryd.prog (bin .gtr 3 (.tmp 52) (.tmp 54) t52_47 t54_48) fun t55_49 =>
 IfB t55_49 (
 R (.bool false) w) (
 j_22 a0 a1 a2 t21_4 t22_5 t27_7 t28_8 w)) (
 j_22 a0 a1 a2 t21_4 t22_5 t27_7 t28_8 w)) (
 j_22 a0 a1 a2 t21_4 t22_5 t27_7 t28_8 w)) (
 j_22 a0 a1 a2 t21_4 t22_5 t27_7 t28_8 w))
theorem sh3_calls {a0 a1 a2 : Value} {w : World} {R : Value → World → Prop} (h : sh3 a0 a1 a2 w R) : CallF Tryd.prog 3 #[a0, a1, a2] w R :=
  calls_of_denF (mk := false) (args := [a0, a1, a2]) (an := (.seq (.ops [0, 1, 2]) (.seq (.seq (.ops [0, 1, 2, 16]) (.cond (.seq (.ops [6]) .leaf) .leaf)) (.seq (.ops [0, 1, 2, 7, 8]) (.seq (.ops [0, 1, 2, 7, 8, 9, 10]) (.seq (.ops [0, 1, 2, 7, 8, 9, 10, 11, 12]) (.seq (.ops [0, 1, 2, 7, 8, 9, 10, 11, 12, 13, 14]) (.seq (.join [0, 1, 2, 7, 8, 9, 10] (.seq (.ops [0, 1, 2, 7, 8, 9, 10, 56]) (.cond (.seq (.ops [6]) .leaf) .leaf))) (.seq (.seq (.ops [0, 1, 2, 7, 8, 9, 10, 62]) (.cond (.seq (.ops [6]) .leaf) .leaf)) (.seq (.ops [6]) .leaf)))))))))) (c := Tryd.f3.body.getD .skip) hent Tryd.func3 rfl (Nat.le_of_ble_eq_true (by kernel_rfl))
    (Eq.mp (show sh3 a0 a1 a2 w R = denF Tryd.prog ent false Tryd.f3 (.seq (.ops [0, 1, 2]) (.seq (.seq (.ops [0, 1, 2, 16]) (.cond (.seq (.ops [6]) .leaf) .leaf)) (.seq (.ops [0, 1, 2, 7, 8]) (.seq (.ops [0, 1, 2, 7, 8, 9, 10]) (.seq (.ops [0, 1, 2, 7, 8, 9, 10, 11, 12]) (.seq (.ops [0, 1, 2, 7, 8, 9, 10, 11, 12, 13, 14]) (.seq (.join [0, 1, 2, 7, 8, 9, 10] (.seq (.ops [0, 1, 2, 7, 8, 9, 10, 56]) (.cond (.seq (.ops [6]) .leaf) .leaf))) (.seq (.seq (.ops [0, 1, 2, 7, 8, 9, 10, 62]) (.cond (.seq (.ops [6]) .leaf) .leaf)) (.seq (.ops [6]) .leaf))))))))) (Tryd.f3.body.getD .skip) [a0, a1, a2] w R by kernel_rfl) h)

/-! ### 4: handbill/hbllaw1.NumGets -/
def sh4 (a0 a1 a2 : Value) (w : World) (R : Value → World → Prop) : Prop :=
 CallF Tryd.prog 9 #[] w fun t11_1 w =>
 RunA Tryd.prog (Op.unary .not t11_1) fun t12_2 =>
 IfB t12_2 (
 R (.bool false) w) (
 RunW Tryd.prog (Builtin.len_ #[25] 3 #[a0]) w fun t14_3 =>
 RunA Tryd.prog (bin .gtr 3 (.tmp 14) (.const (.int .i64 8000)) t14_3 (.int .i64 8000)) fun t15_4 =>
 IfB t15_4 (
 CallF Tryd.prog 9 #[] w fun t16_5 w =>
 R t16_5 w) (
 CallF Tryd.prog 12 #[a0, a1, a2] w fun t21_6 w =>
 RunA Tryd.prog (Instr.extract t21_6 0) fun t22_7 =>
 RunA Tryd.prog (Instr.extract t21_6 1) fun t23_8 =>
 RunW Tryd.prog (bin .neq 26 (.tmp 24) (.const (.int .i64 0)) t23_8 (.int .i64 0)) w fun t25_9 =>
 IfB t25_9 (
 CallF Tryd.prog 9 #[] w fun t26_10 w =>
 IfB t26_10 (
 RunW Tryd.prog (bin .eql 3 (.tmp 28) (.const (.int .i64 0)) t22_7 (.int .i64 0)) w fun t29_11 =>
 IfB t29_11 (
 RunW Tryd.prog (bin .eql 26 (.tmp 32) (.const (.int .i64 1)) t23_8 (.int .i64 1)) w fun t33_12 =>
 RunA Tryd.prog (bin .lss 3 (.tmp 34) (.const (.int .i64 1)) a2 (.int .i64 1)) fun t35_13 =>
 IfB t35_13 (
 RunW Tryd.prog (bin .eql 4 (.tmp 33) (.tmp 49) t33_12 (.bool true)) w fun t50_14 =>
 R t50_14 w) (
 RunA Tryd.prog (bin .gtr 3 (.tmp 37) (.const (.int .i64 6)) a2 (.int .i64 6)) fun t38_15 =>
 IfB t38_15 (
 RunW Tryd.prog (bin .eql 4 (.tmp 33) (.tmp 49) t33_12 (.bool true)) w fun t50_16 =>
 R t50_16 w) (
 RunA Tryd.prog (bin .lss 3 (.tmp 41) (.const (.int .i64 0)) a1 (.int .i64 0)) fun t42_17 =>
 IfB t42_17 (
 RunW Tryd.prog (bin .eql 4 (.tmp 33) (.tmp 49) t33_12 (.bool true)) w fun t50_18 =>
 R t50_18 w) (
 RunW Tryd.prog (Builtin.len_ #[25] 3 #[a0]) w fun t47_19 =>
 RunA Tryd.prog (bin .gtr 3 (.tmp 45) (.tmp 47) a1 t47_19) fun t48_20 =>
 RunW Tryd.prog (bin .eql 4 (.tmp 33) (.tmp 49) t33_12 t48_20) w fun t50_21 =>
 R t50_21 w)))) (
 R (.bool false) w)) (
 R (.bool false) w)) (
 RunA Tryd.prog (bin .lss 3 (.tmp 52) (.const (.int .i64 1)) a2 (.int .i64 1)) fun t53_22 =>
 IfB t53_22 (
 R (.bool false) w) (
 RunA Tryd.prog (bin .gtr 3 (.tmp 55) (.const (.int .i64 6)) a2 (.int .i64 6)) fun t56_23 =>
 IfB t56_23 (
 R (.bool false) w) (
 RunA Tryd.prog (bin .lss 3 (.tmp 59) (.const (.int .i64 0)) a1 (.int .i64 0)) fun t60_24 =>
 IfB t60_24 (
 R (.bool false) w) (
 RunW Tryd.prog (Builtin.len_ #[25] 3 #[a0]) w fun t65_25 =>
 RunA Tryd.prog (bin .sub 3 (.tmp 65) (.tmp 66) t65_25 a2) fun t67_26 =>
 RunA Tryd.prog (bin .gtr 3 (.tmp 63) (.tmp 67) a1 t67_26) fun t68_27 =>
 IfB t68_27 (
 R (.bool false) w) (
 CallF Tryd.prog 13 #[t22_7, a2] w fun t73_28 w =>
 RunA Tryd.prog (Instr.extract t73_28 0) fun t74_29 =>
 RunA Tryd.prog (Instr.extract t73_28 1) fun t75_30 =>
 CallF Tryd.prog 9 #[] w fun t76_31 w =>
 IfB t76_31 (
 RunW Tryd.prog (bin .eql 26 (.tmp 78) (.const (.int .i64 0)) t75_30 (.int .i64 0)) w fun t79_32 =>
 IfB t79_32 (
 RunA Tryd.prog (bin .add 3 (.tmp 85) (.tmp 86) a1 a2) fun t87_33 =>
 RunA Tryd.prog (Instr.sliceAt 25 a0 (some a1) (some t87_33) none) fun t88_34 =>
 CallF Tryd.prog 14 #[t74_29, t88_34] w fun t89_35 w =>
 IfB t89_35 (
 RunA Tryd.prog (bin .mul 3 (.const (.int .i64 8)) (.tmp 93) (.int .i64 8) a2) fun t94_36 =>
 RunV Tryd.prog (convert 3 34 t94_36) w fun t95_37 w =>
 RunA Tryd.prog (bin .shr 3 (.tmp 92) (.tmp 95) t22_7 t95_37) fun t96_38 =>
 RunW Tryd.prog (bin .eql 3 (.tmp 96) (.const (.int .i64 0)) t96_38 (.int .i64 0)) w fun t97_39 =>
 R t97_39 w) (
 R (.bool false) w)) (
 R (.bool false) w)) (
 R (.bool false) w))))))))
theorem sh4_calls {a0 a1 a2 : Value} {w : World} {R : Value → World → Prop} (h : sh4 a0 a1 a2 w R) : CallF Tryd.prog 4 #[a0, a1, a2] w R :=
  calls_of_denF (mk := false) (args := [a0, a1, a2]) (an := (.seq (.ops [0, 1, 2]) (.seq (.seq (.ops [0, 1, 2, 12]) (.cond (.seq (.ops [6]) .leaf) .leaf)) (.seq (.seq (.ops [0, 1, 2, 15]) (.cond (.seq (.ops [6]) .leaf) .leaf)) (.seq (.ops [0, 1, 2, 7, 8]) (.seq (.seq (.ops [0, 1, 2, 7, 8, 25]) (.cond (.seq (.ops [6]) .leaf) .leaf)) (.seq (.seq (.ops [0, 1, 2, 7, 69]) (.cond (.seq (.ops [6]) .leaf) .leaf)) (.seq (.ops [0, 1, 2, 7, 9, 10]) (.seq (.ops [6]) .leaf))))))))) (c := Tryd.f4.body.getD .skip) hent Tryd.func4 rfl (Nat.le_of_ble_eq_true (by kernel_rfl))
    (Eq.mp (show sh4 a0 a1 a2 w R = denF Tryd.prog ent false Tryd.f4 (.seq (.ops [0, 1, 2]) (.seq (.seq (.ops [0, 1, 2, 12]) (.cond (.seq (.ops [6]) .leaf) .leaf)) (.seq (.seq (.ops [0, 1, 2, 15]) (.cond (.seq (.ops [6]) .leaf) .leaf)) (.seq (.ops [0, 1, 2, 7, 8]) (.seq (.seq (.ops [0, 1, 2, 7, 8, 25]) (.cond (.seq (.ops [6]) .leaf) .leaf)) (.seq (.seq (.ops [0, 1, 2, 7, 69]) (.cond (.seq (.ops [6]) .leaf) .leaf)) (.seq (.ops [0, 1, 2, 7, 9, 10]) (.seq (.ops [6]) .leaf)))))))) (Tryd.f4.body.getD .skip) [a0, a1, a2] w R by kernel_rfl) h)

/-! ### 5: handbill/hbllaw1.NumSums -/
def sh5 (a0 a1 a2 a3 a4 : Value) (w : World) (R : Value → World → Prop) : Prop :=
 CallF Tryd.prog 9 #[] w fun t14_1 w =>
 RunA Tryd.prog (Op.unary .not t14_1) fun t15_2 =>
 IfB t15_2 (
 R (.bool false) w) (
 RunW Tryd.prog (Builtin.len_ #[25] 3 #[a0]) w fun t17_3 =>
 RunA Tryd.prog (bin .gtr 3 (.tmp 17) (.const (.int .i64 8000)) t17_3 (.int .i64 8000)) fun t18_4 =>
 IfB t18_4 (
 CallF Tryd.prog 9 #[] w fun t33_5 w =>
 R t33_5 w) (
 RunW Tryd.prog (Builtin.len_ #[25] 3 #[a1]) w fun t21_6 =>
 RunW Tryd.prog (Builtin.len_ #[25] 3 #[a0]) w fun t23_7 =>
 RunW Tryd.prog (bin .neq 3 (.tmp 21) (.tmp 23) t21_6 t23_7) w fun t24_8 =>
 IfB t24_8 (
 CallF Tryd.prog 9 #[] w fun t33_9 w =>
 R t33_9 w) (
 RunW Tryd.prog (Builtin.len_ #[25] 3 #[a2]) w fun t28_10 =>
 RunW Tryd.prog (Builtin.len_ #[25] 3 #[a0]) w fun t30_11 =>
 RunW Tryd.prog (bin .neq 3 (.tmp 28) (.tmp 30) t28_10 t30_11) w fun t31_12 =>
 IfB t31_12 (
 CallF Tryd.prog 9 #[] w fun t33_13 w =>
 R t33_13 w) (
 jn 7 (fun t0_14 t1_15 t2_16 t3_17 t4_18 t11_19 t12_20 w =>
 lp 1 (fun n_23 t13_22 w =>
 RunW Tryd.prog (Builtin.len_ #[25] 3 #[t0_14]) w fun t41_24 =>
 RunA Tryd.prog (bin .lss 3 (.tmp 39) (.tmp 41) t13_22 t41_24) fun t42_25 =>
 IfB t42_25 (
 drw (fun S_26 w =>
 RunA Tryd.prog (Instr.indexAt 25 t0_14 t13_22) fun t49_27 =>
 RunS Tryd.prog S_26 (Instr.loadAt 5 t49_27) fun t50_28 =>
 RunA Tryd.prog (Instr.indexAt 25 t1_15 t13_22) fun t53_29 =>
 RunS Tryd.prog S_26 (Instr.loadAt 5 t53_29) fun t54_30 =>
 RunA Tryd.prog (bin .xor 5 (.tmp 50) (.tmp 54) t50_28 t54_30) fun t55_31 =>
 RunA Tryd.prog (Instr.indexAt 25 t2_16 t13_22) fun t58_32 =>
 RunS Tryd.prog S_26 (Instr.loadAt 5 t58_32) fun t59_33 =>
 RunA Tryd.prog (bin .xor 5 (.tmp 55) (.tmp 59) t55_31 t59_33) fun t60_34 =>
 RunA Tryd.prog (Instr.indexAt 25 t11_19 t13_22) fun t61_35 =>
 RunU Tryd.prog (Instr.storeAt 5 t61_35 t60_34) w fun w =>
 RunA Tryd.prog (bin .add 3 (.tmp 43) (.const (.int .i64 1)) t13_22 (.int .i64 1)) fun t44_36 =>
 (t0_14 : Value) = t0_14 ∧ ((t1_15 : Value) = t1_15 ∧ ((t2_16 : Value) = t2_16 ∧ ((t3_17 : Value) = t3_17 ∧ ((t4_18 : Value) = t4_18 ∧ ((t11_19 : Value) = t11_19 ∧ ((t12_20 : Value) = t12_20 ∧ (n_23 t44_36 w)))))))) w) (
 CallF Tryd.prog 16 #[t11_19] w fun t63_37 w =>
 CallF Tryd.prog 16 #[t0_14] w fun t65_38 w =>
 CallF Tryd.prog 16 #[t1_15] w fun t67_39 w =>
 RunA Tryd.prog (bin .xor 37 (.tmp 65) (.tmp 67) t65_38 t67_39) fun t68_40 =>
 CallF Tryd.prog 16 #[t2_16] w fun t70_41 w =>
 RunA Tryd.prog (bin .xor 37 (.tmp 68) (.tmp 70) t68_40 t70_41) fun t71_42 =>
 RunW Tryd.prog (bin .neq 37 (.tmp 63) (.tmp 71) t63_37 t71_42) w fun t72_43 =>
 IfB t72_43 (
 R (.bool false) w) (
 RunA Tryd.prog (bin .lss 3 (.tmp 73) (.const (.int .i64 0)) t3_17 (.int .i64 0)) fun t74_44 =>
 IfB t74_44 (
 CallF Tryd.prog 9 #[] w fun t85_45 w =>
 R t85_45 w) (
 RunW Tryd.prog (Builtin.len_ #[25] 3 #[t0_14]) w fun t78_46 =>
 RunA Tryd.prog (bin .geq 3 (.tmp 76) (.tmp 78) t3_17 t78_46) fun t79_47 =>
 IfB t79_47 (
 CallF Tryd.prog 9 #[] w fun t85_48 w =>
 R t85_48 w) (
 RunW Tryd.prog (bin .eql 5 (.tmp 82) (.const (.int .u8 0)) t4_18 (.int .u8 0)) w fun t83_49 =>
 IfB t83_49 (
 CallF Tryd.prog 9 #[] w fun t85_50 w =>
 R t85_50 w) (
 RunA Tryd.prog (Instr.indexAt 25 t12_20 t3_17) fun t90_51 =>
 RunW Tryd.prog (Instr.loadAt 5 t90_51) w fun t91_52 =>
 RunA Tryd.prog (bin .xor 5 (.tmp 91) (.tmp 92) t91_52 t4_18) fun t93_53 =>
 RunA Tryd.prog (Instr.indexAt 25 t12_20 t3_17) fun t94_54 =>
 RunU Tryd.prog (Instr.storeAt 5 t94_54 t93_53) w fun w =>
 CallF Tryd.prog 9 #[] w fun t95_55 w =>
 IfB t95_55 (
 CallF Tryd.prog 16 #[t12_20] w fun t98_56 w =>
 CallF Tryd.prog 16 #[t0_14] w fun t100_57 w =>
 RunW Tryd.prog (bin .neq 37 (.tmp 98) (.tmp 100) t98_56 t100_57) w fun t101_58 =>
 R t101_58 w) (
 R (.bool false) w))))))) [(.int .i64 0)] w) fun j_21 =>
 drw (fun S_59 w =>
 RunS Tryd.prog S_59 (Builtin.len_ #[25] 3 #[a0]) fun t35_60 =>
 (RunV Tryd.prog (Instr.makeSlice 25 t35_60 t35_60) w fun t36_61 w =>
 CallF Tryd.prog 15 #[a0] w fun t38_62 w =>
 j_21 a0 a1 a2 a3 a4 t36_61 t38_62 w) ∧ (
 (CallF Tryd.prog 15 #[a0] w fun t38_63 w =>
 S_59 w ∧ (
 RunV Tryd.prog (Instr.makeSlice 25 t35_60 t35_60) w fun t36_64 w =>
 j_21 a0 a1 a2 a3 a4 t36_64 t38_63 w)) ∧ (
 True))) w))))
theorem sh5_calls {a0 a1 a2 a3 a4 : Value} {w : World} {R : Value → World → Prop} (h : sh5 a0 a1 a2 a3 a4 w R) : CallF Tryd.prog 5 #[a0, a1, a2, a3, a4] w R :=
  calls_of_denF (mk := false) (args := [a0, a1, a2, a3, a4]) (an := (.seq (.ops [0, 1, 2, 3, 4]) (.seq (.seq (.ops [0, 1, 2, 3, 4, 15]) (.cond (.seq (.ops [10]) .leaf) .leaf)) (.seq (.seq (.ops [0, 1, 2, 3, 4, 32]) (.cond (.seq (.ops [10]) .leaf) .leaf)) (.seq (.join [0, 1, 2, 3, 4, 11, 12] (.draw (.q 0 (.q 1 (.q 3 (.alt 2 (.one 4 (.q 5 (.q 6 .fin))) (.alt 4 (.one 2 (.q 5 (.q 6 .fin))) .fin))))) [0, 1, 2, 3, 4, 11, 12])) (.seq (.seq (.ops [0, 1, 2, 3, 4, 11, 12, 13]) (.blk (.loop [0, 1, 2, 3, 4, 11, 12] [13] (.seq (.seq (.ops [0, 1, 2, 3, 4, 11, 12, 13, 42]) (.cond .leaf .leaf)) (.seq (.blk (.draw (.q 0 (.q 1 (.q 2 (.q 3 (.q 4 (.q 5 (.q 6 (.q 7 (.q 8 (.q 9 (.q 10 (.q 11 (.q 12 (.q 13 (.q 14 (.q 15 (.q 16 (.one 17 .fin)))))))))))))))))) [0, 1, 2, 3, 4, 11, 12, 13])) (.ops [0, 1, 2, 3, 4, 11, 12, 13])))))) (.seq (.seq (.ops [0, 3, 4, 12, 72]) (.cond (.seq (.ops [10]) .leaf) .leaf)) (.seq (.seq (.ops [0, 3, 4, 12, 84]) (.cond (.seq (.ops [10]) .leaf) .leaf)) (.seq (.ops [0, 12]) (.seq (.ops [10]) .leaf)))))))))) (c := Tryd.f5.body.getD .skip) hent Tryd.func5 rfl (Nat.le_of_ble_eq_true (by kernel_rfl))
    (Eq.mp (show sh5 a0 a1 a2 a3 a4 w R = denF Tryd.prog ent false Tryd.f5 (.seq (.ops [0, 1, 2, 3, 4]) (.seq (.seq (.ops [0, 1, 2, 3, 4, 15]) (.cond (.seq (.ops [10]) .leaf) .leaf)) (.seq (.seq (.ops [0, 1, 2, 3, 4, 32]) (.cond (.seq (.ops [10]) .leaf) .leaf)) (.seq (.join [0, 1, 2, 3, 4, 11, 12] (.draw (.q 0 (.q 1 (.q 3 (.alt 2 (.one 4 (.q 5 (.q 6 .fin))) (.alt 4 (.one 2 (.q 5 (.q 6 .fin))) .fin))))) [0, 1, 2, 3, 4, 11, 12])) (.seq (.seq (.ops [0, 1, 2, 3, 4, 11, 12, 13]) (.blk (.loop [0, 1, 2, 3, 4, 11, 12] [13] (.seq (.seq (.ops [0, 1, 2, 3, 4, 11, 12, 13, 42]) (.cond .leaf .leaf)) (.seq (.blk (.draw (.q 0 (.q 1 (.q 2 (.q 3 (.q 4 (.q 5 (.q 6 (.q 7 (.q 8 (.q 9 (.q 10 (.q 11 (.q 12 (.q 13 (.q 14 (.q 15 (.q 16 (.one 17 .fin)))))))))))))))))) [0, 1, 2, 3, 4, 11, 12, 13])) (.ops [0, 1, 2, 3, 4, 11, 12, 13])))))) (.seq (.seq (.ops [0, 3, 4, 12, 72]) (.cond (.seq (.ops [10]) .leaf) .leaf)) (.seq (.seq (.ops [0, 3, 4, 12, 84]) (.cond (.seq (.ops [10]) .leaf) .leaf)) (.seq (.ops [0, 12]) (.seq (.ops [10]) .leaf))))))))) (Tryd.f5.body.getD .skip) [a0, a1, a2, a3, a4] w R by kernel_rfl) h)

/-! ### 6: handbill/hbllaw1.NumVars -/
def sh6 (a0 a1 a2 : Value) (w : World) (R : Value → World → Prop) : Prop :=
 CallF Tryd.prog 9 #[] w fun t18_1 w =>
 RunA Tryd.prog (Op.unary .not t18_1) fun t19_2 =>
 IfB t19_2 (
 R (.bool false) w) (
 CallF Tryd.prog 11 #[a0] w fun t22_3 w =>
 RunA Tryd.prog (Instr.extract t22_3 0) fun t23_4 =>
 RunA Tryd.prog (Instr.extract t22_3 1) fun t24_5 =>
 CallF Tryd.prog 11 #[a1] w fun t27_6 w =>
 RunA Tryd.prog (Instr.extract t27_6 0) fun t28_7 =>
 RunA Tryd.prog (Instr.extract t27_6 1) fun t29_8 =>
 jn 8 (fun t0_9 t1_10 t2_11 t7_12 t8_13 t9_14 t10_15 t49_16 w =>
 IfB t49_16 (
 CallF Tryd.prog 9 #[] w fun t50_18 w =>
 IfB t50_18 (
 RunW Tryd.prog (bin .eql 26 (.tmp 52) (.const (.int .i64 0)) t8_13 (.int .i64 0)) w fun t53_19 =>
 RunA Tryd.prog (bin .geq 3 (.tmp 54) (.const (.int .i64 0)) t0_9 (.int .i64 0)) fun t55_20 =>
 IfB t55_20 (
 RunA Tryd.prog (bin .lss 3 (.tmp 57) (.const (.int .i64 72057594037927936)) t0_9 (.int .i64 72057594037927936)) fun t58_21 =>
 RunW Tryd.prog (bin .eql 4 (.tmp 53) (.tmp 59) t53_19 t58_21) w fun t60_22 =>
 IfB t60_22 (
 RunW Tryd.prog (bin .eql 26 (.tmp 63) (.const (.int .i64 0)) t10_15 (.int .i64 0)) w fun t64_23 =>
 RunA Tryd.prog (bin .geq 3 (.tmp 65) (.const (.int .i64 0)) t1_10 (.int .i64 0)) fun t66_24 =>
 IfB t66_24 (
 RunA Tryd.prog (bin .lss 3 (.tmp 68) (.const (.int .i64 72057594037927936)) t1_10 (.int .i64 72057594037927936)) fun t69_25 =>
 RunW Tryd.prog (bin .eql 4 (.tmp 64) (.tmp 70) t64_23 t69_25) w fun t71_26 =>
 IfB t71_26 (
 RunW Tryd.prog (bin .neq 26 (.tmp 74) (.const (.int .i64 0)) t8_13 (.int .i64 0)) w fun t75_27 =>
 IfB t75_27 (
 RunW Tryd.prog (bin .neq 26 (.tmp 83) (.const (.int .i64 0)) t10_15 (.int .i64 0)) w fun t84_28 =>
 IfB t84_28 (
 R (.bool true) w) (
 RunW Tryd.prog (Builtin.len_ #[25] 3 #[t9_14]) w fun t87_29 =>
 RunA Tryd.prog (bin .gtr 3 (.tmp 87) (.const (.int .i64 0)) t87_29 (.int .i64 0)) fun t88_30 =>
 R t88_30 w)) (
 RunW Tryd.prog (Builtin.len_ #[25] 3 #[t7_12]) w fun t78_31 =>
 RunA Tryd.prog (bin .gtr 3 (.tmp 78) (.const (.int .i64 0)) t78_31 (.int .i64 0)) fun t79_32 =>
 IfB t79_32 (
 RunW Tryd.prog (bin .neq 26 (.tmp 83) (.const (.int .i64 0)) t10_15 (.int .i64 0)) w fun t84_33 =>
 IfB t84_33 (
 R (.bool true) w) (
 RunW Tryd.prog (Builtin.len_ #[25] 3 #[t9_14]) w fun t87_34 =>
 RunA Tryd.prog (bin .gtr 3 (.tmp 87) (.const (.int .i64 0)) t87_34 (.int .i64 0)) fun t88_35 =>
 R t88_35 w)) (
 R (.bool false) w))) (
 R (.bool false) w)) (
 RunW Tryd.prog (bin .eql 4 (.tmp 64) (.tmp 70) t64_23 (.bool false)) w fun t71_36 =>
 IfB t71_36 (
 RunW Tryd.prog (bin .neq 26 (.tmp 74) (.const (.int .i64 0)) t8_13 (.int .i64 0)) w fun t75_37 =>
 IfB t75_37 (
 RunW Tryd.prog (bin .neq 26 (.tmp 83) (.const (.int .i64 0)) t10_15 (.int .i64 0)) w fun t84_38 =>
 IfB t84_38 (
 R (.bool true) w) (
 RunW Tryd.prog (Builtin.len_ #[25] 3 #[t9_14]) w fun t87_39 =>
 RunA Tryd.prog (bin .gtr 3 (.tmp 87) (.const (.int .i64 0)) t87_39 (.int .i64 0)) fun t88_40 =>
 R t88_40 w)) (
 RunW Tryd.prog (Builtin.len_ #[25] 3 #[t7_12]) w fun t78_41 =>
 RunA Tryd.prog (bin .gtr 3 (.tmp 78) (.const (.int .i64 0)) t78_41 (.int .i64 0)) fun t79_42 =>
 IfB t79_42 (
 RunW Tryd.prog (bin .neq 26 (.tmp 83) (.const (.int .i64 0)) t10_15 (.int .i64 0)) w fun t84_43 =>
 IfB t84_43 (
 R (.bool true) w) (
 RunW Tryd.prog (Builtin.len_ #[25] 3 #[t9_14]) w fun t87_44 =>
 RunA Tryd.prog (bin .gtr 3 (.tmp 87) (.const (.int .i64 0)) t87_44 (.int .i64 0)) fun t88_45 =>
 R t88_45 w)) (
 R (.bool false) w))) (
 R (.bool false) w))) (
 R (.bool false) w)) (
 RunW Tryd.prog (bin .eql 4 (.tmp 53) (.tmp 59) t53_19 (.bool false)) w fun t60_46 =>
 IfB t60_46 (
 RunW Tryd.prog (bin .eql 26 (.tmp 63) (.const (.int .i64 0)) t10_15 (.int .i64 0)) w fun t64_47 =>
 RunA Tryd.prog (bin .geq 3 (.tmp 65) (.const (.int .i64 0)) t1_10 (.int .i64 0)) fun t66_48 =>
 IfB t66_48 (
 RunA Tryd.prog (bin .lss 3 (.tmp 68) (.const (.int .i64 72057594037927936)) t1_10 (.int .i64 72057594037927936)) fun t69_49 =>
 RunW Tryd.prog (bin .eql 4 (.tmp 64) (.tmp 70) t64_47 t69_49) w fun t71_50 =>
 IfB t71_50 (
 RunW Tryd.prog (bin .neq 26 (.tmp 74) (.const (.int .i64 0)) t8_13 (.int .i64 0)) w fun t75_51 =>
 IfB t75_51 (
 RunW Tryd.prog (bin .neq 26 (.tmp 83) (.const (.int .i64 0)) t10_15 (.int .i64 0)) w fun t84_52 =>
 IfB t84_52 (
 R (.bool true) w) (
 RunW Tryd.prog (Builtin.len_ #[25] 3 #[t9_14]) w fun t87_53 =>
 RunA Tryd.prog (bin .gtr 3 (.tmp 87) (.const (.int .i64 0)) t87_53 (.int .i64 0)) fun t88_54 =>
 R t88_54 w)) (
 RunW Tryd.prog (Builtin.len_ #[25] 3 #[t7_12]) w fun t78_55 =>
 RunA Tryd.prog (bin .gtr 3 (.tmp 78) (.const (.int .i64 0)) t78_55 (.int .i64 0)) fun t79_56 =>
 IfB t79_56 (
 RunW Tryd.prog (bin .neq 26 (.tmp 83) (.const (.int .i64 0)) t10_15 (.int .i64 0)) w fun t84_57 =>
 IfB t84_57 (
 R (.bool true) w) (
 RunW Tryd.prog (Builtin.len_ #[25] 3 #[t9_14]) w fun t87_58 =>
 RunA Tryd.prog (bin .gtr 3 (.tmp 87) (.const (.int .i64 0)) t87_58 (.int .i64 0)) fun t88_59 =>
 R t88_59 w)) (
 R (.bool false) w))) (
 R (.bool false) w)) (
 RunW Tryd.prog (bin .eql 4 (.tmp 64) (.tmp 70) t64_47 (.bool false)) w fun t71_60 =>
 IfB t71_60 (
 RunW Tryd.prog (bin .neq 26 (.tmp 74) (.const (.int .i64 0)) t8_13 (.int .i64 0)) w fun t75_61 =>
 IfB t75_61 (
 RunW Tryd.prog (bin .neq 26 (.tmp 83) (.const (.int .i64 0)) t10_15 (.int .i64 0)) w fun t84_62 =>
 IfB t84_62 (
 R (.bool true) w) (
 RunW Tryd.prog (Builtin.len_ #[25] 3 #[t9_14]) w fun t87_63 =>
 RunA Tryd.prog (bin .gtr 3 (.tmp 87) (.const (.int .i64 0)) t87_63 (.int .i64 0)) fun t88_64 =>
 R t88_64 w)) (
 RunW Tryd.prog (Builtin.len_ #[25] 3 #[t7_12]) w fun t78_65 =>
 RunA Tryd.prog (bin .gtr 3 (.tmp 78) (.const (.int .i64 0)) t78_65 (.int .i64 0)) fun t79_66 =>
 IfB t79_66 (
 RunW Tryd.prog (bin .neq 26 (.tmp 83) (.const (.int .i64 0)) t10_15 (.int .i64 0)) w fun t84_67 =>
 IfB t84_67 (
 R (.bool true) w) (
 RunW Tryd.prog (Builtin.len_ #[25] 3 #[t9_14]) w fun t87_68 =>
 RunA Tryd.prog (bin .gtr 3 (.tmp 87) (.const (.int .i64 0)) t87_68 (.int .i64 0)) fun t88_69 =>
 R t88_69 w)) (
 R (.bool false) w))) (
 R (.bool false) w))) (
 R (.bool false) w))) (
 R (.bool false) w)) (
 jn 2 (fun t2_70 t7_71 w =>
 RunW Tryd.prog (Builtin.len_ #[25] 3 #[t7_71]) w fun t115_73 =>
 RunA Tryd.prog (bin .rem 3 (.tmp 113) (.tmp 115) t2_70 t115_73) fun t116_74 =>
 RunA Tryd.prog (Instr.sliceAt 25 t7_71 none (some t116_74) none) fun t117_75 =>
 CallF Tryd.prog 17 #[t117_75, (.int .i64 0)] w fun t118_76 w =>
 RunA Tryd.prog (Instr.extract t118_76 0) fun t119_77 =>
 RunA Tryd.prog (Instr.extract t118_76 1) fun t120_78 =>
 RunA Tryd.prog (Instr.extract t118_76 2) fun t121_79 =>
 jn 2 (fun t13_80 t14_81 w =>
 CallF Tryd.prog 17 #[t14_81, (.int .i64 0)] w fun t141_83 w =>
 RunA Tryd.prog (Instr.extract t141_83 0) fun t142_84 =>
 RunA Tryd.prog (Instr.extract t141_83 1) fun t143_85 =>
 RunA Tryd.prog (Instr.extract t141_83 2) fun t144_86 =>
 CallF Tryd.prog 9 #[] w fun t145_87 w =>
 IfB t145_87 (
 RunW Tryd.prog (bin .eql 26 (.tmp 147) (.const (.int .i64 2)) t13_80 (.int .i64 2)) w fun t148_88 =>
 IfB t148_88 (
 RunW Tryd.prog (bin .eql 26 (.tmp 151) (.const (.int .i64 4)) t144_86 (.int .i64 4)) w fun t152_89 =>
 R t152_89 w) (
 R (.bool false) w)) (
 R (.bool false) w)) fun j_82 =>
 drw (fun S_90 w =>
 RunS Tryd.prog S_90 (Builtin.len_ #[25] 3 #[t7_71]) fun t124_91 =>
 RunA Tryd.prog (bin .sub 3 (.tmp 124) (.const (.int .i64 1)) t124_91 (.int .i64 1)) fun t125_92 =>
 RunA Tryd.prog (Instr.sliceAt 25 t7_71 none (some t125_92) none) fun t126_93 =>
 RunS Tryd.prog S_90 (Builtin.len_ #[25] 3 #[t7_71]) fun t130_94 =>
 RunA Tryd.prog (bin .sub 3 (.tmp 130) (.const (.int .i64 1)) t130_94 (.int .i64 1)) fun t131_95 =>
 RunA Tryd.prog (Instr.indexAt 25 t7_71 t131_95) fun t132_96 =>
 RunS Tryd.prog S_90 (Instr.loadAt 5 t132_96) fun t133_97 =>
 RunA Tryd.prog (bin .or 5 (.tmp 133) (.const (.int .u8 128)) t133_97 (.int .u8 128)) fun t134_98 =>
 (CallF Tryd.prog 15 #[t126_93] w fun t127_99 w =>
 S_90 w ∧ (
 (RunV Tryd.prog (Instr.buildSlice 25 1 #[(0, t134_98)]) w fun t135_100 w =>
 (RunV Tryd.prog (Builtin.append_ #[25, 25] 25 #[t127_99, t135_100]) w fun t136_101 w =>
 RunV Tryd.prog (Instr.buildSlice 25 1 #[(0, (.int .u8 0))]) w fun t137_102 w =>
 RunV Tryd.prog (Builtin.append_ #[25, 25] 25 #[t136_101, t137_102]) w fun t138_103 w =>
 j_82 t121_79 t138_103 w) ∧ (
 (RunV Tryd.prog (Instr.buildSlice 25 1 #[(0, (.int .u8 0))]) w fun t137_104 w =>
 RunV Tryd.prog (Builtin.append_ #[25, 25] 25 #[t127_99, t135_100]) w fun t136_105 w =>
 RunV Tryd.prog (Builtin.append_ #[25, 25] 25 #[t136_105, t137_104]) w fun t138_106 w =>
 j_82 t121_79 t138_106 w) ∧ (
 True))) ∧ (
 (RunV Tryd.prog (Instr.buildSlice 25 1 #[(0, (.int .u8 0))]) w fun t137_107 w =>
 S_90 w ∧ (
 RunV Tryd.prog (Instr.buildSlice 25 1 #[(0, t134_98)]) w fun t135_108 w =>
 RunV Tryd.prog (Builtin.append_ #[25, 25] 25 #[t127_99, t135_108]) w fun t136_109 w =>
 RunV Tryd.prog (Builtin.append_ #[25, 25] 25 #[t136_109, t137_107]) w fun t138_110 w =>
 j_82 t121_79 t138_110 w)) ∧ (
 True)))) ∧ (
 (RunV Tryd.prog (Instr.buildSlice 25 1 #[(0, t134_98)]) w fun t135_111 w =>
 S_90 w ∧ (
 (CallF Tryd.prog 15 #[t126_93] w fun t127_112 w =>
 (RunV Tryd.prog (Builtin.append_ #[25, 25] 25 #[t127_112, t135_111]) w fun t136_113 w =>
 RunV Tryd.prog (Instr.buildSlice 25 1 #[(0, (.int .u8 0))]) w fun t137_114 w =>
 RunV Tryd.prog (Builtin.append_ #[25, 25] 25 #[t136_113, t137_114]) w fun t138_115 w =>
 j_82 t121_79 t138_115 w) ∧ (
 (RunV Tryd.prog (Instr.buildSlice 25 1 #[(0, (.int .u8 0))]) w fun t137_116 w =>
 RunV Tryd.prog (Builtin.append_ #[25, 25] 25 #[t127_112, t135_111]) w fun t136_117 w =>
 RunV Tryd.prog (Builtin.append_ #[25, 25] 25 #[t136_117, t137_116]) w fun t138_118 w =>
 j_82 t121_79 t138_118 w) ∧ (
 True))) ∧ (
 (RunV Tryd.prog (Instr.buildSlice 25 1 #[(0, (.int .u8 0))]) w fun t137_119 w =>
 S_90 w ∧ (
 CallF Tryd.prog 15 #[t126_93] w fun t127_120 w =>
 RunV Tryd.prog (Builtin.append_ #[25, 25] 25 #[t127_120, t135_111]) w fun t136_121 w =>
 RunV Tryd.prog (Builtin.append_ #[25, 25] 25 #[t136_121, t137_119]) w fun t138_122 w =>
 j_82 t121_79 t138_122 w)) ∧ (
 True)))) ∧ (
 (RunV Tryd.prog (Instr.buildSlice 25 1 #[(0, (.int .u8 0))]) w fun t137_123 w =>
 S_90 w ∧ (
 (CallF Tryd.prog 15 #[t126_93] w fun t127_124 w =>
 S_90 w ∧ (
 RunV Tryd.prog (Instr.buildSlice 25 1 #[(0, t134_98)]) w fun t135_125 w =>
 RunV Tryd.prog (Builtin.append_ #[25, 25] 25 #[t127_124, t135_125]) w fun t136_126 w =>
 RunV Tryd.prog (Builtin.append_ #[25, 25] 25 #[t136_126, t137_123]) w fun t138_127 w =>
 j_82 t121_79 t138_127 w)) ∧ (
 (RunV Tryd.prog (Instr.buildSlice 25 1 #[(0, t134_98)]) w fun t135_128 w =>
 S_90 w ∧ (
 CallF Tryd.prog 15 #[t126_93] w fun t127_129 w =>
 RunV Tryd.prog (Builtin.append_ #[25, 25] 25 #[t127_129, t135_128]) w fun t136_130 w =>
 RunV Tryd.prog (Builtin.append_ #[25, 25] 25 #[t136_130, t137_123]) w fun t138_131 w =>
 j_82 t121_79 t138_131 w)) ∧ (
 True)))) ∧ (
 True)))) w) fun j_72 =>
 drw (fun S_132 w =>
 RunS Tryd.prog S_132 (bin .neq 3 (.tmp 91) (.tmp 92) t0_9 t1_10) fun t93_133 =>
 IfB t93_133 (
 RunS Tryd.prog S_132 (Builtin.len_ #[25] 3 #[t7_12]) fun t96_134 =>
 RunS Tryd.prog S_132 (Builtin.len_ #[25] 3 #[t9_14]) fun t98_135 =>
 RunA Tryd.prog (bin .leq 3 (.tmp 96) (.tmp 98) t96_134 t98_135) fun t99_136 =>
 IfB t99_136 (
 RunS Tryd.prog S_132 (Builtin.len_ #[25] 3 #[t7_12]) fun t104_137 =>
 RunA Tryd.prog (Instr.sliceAt 25 t9_14 none (some t104_137) none) fun t105_138 =>
 RunS Tryd.prog S_132 (convert 25 9 t105_138) fun t106_139 =>
 RunS Tryd.prog S_132 (convert 25 9 t7_12) fun t108_140 =>
 RunS Tryd.prog S_132 (bin .eql 9 (.tmp 106) (.tmp 108) t106_139 t108_140) fun t109_141 =>
 IfB t109_141 (
 R (.bool false) w) (
 j_72 t2_11 t7_12 w)) (
 j_72 t2_11 t7_12 w)) (
 j_72 t2_11 t7_12 w)) w)) fun j_17 =>
 RunW Tryd.prog (bin .neq 26 (.tmp 30) (.const (.int .i64 0)) t24_5 (.int .i64 0)) w fun t31_142 =>
 IfB t31_142 (
 j_17 a0 a1 a2 t23_4 t24_5 t28_7 t29_8 (.bool true) w) (
 RunW Tryd.prog (bin .neq 26 (.tmp 33) (.const (.int .i64 0)) t29_8 (.int .i64 0)) w fun t34_143 =>
 IfB t34_143 (
 j_17 a0 a1 a2 t23_4 t24_5 t28_7 t29_8 (.bool true) w) (
 RunA Tryd.prog (bin .lss 3 (.tmp 37) (.const (.int .i64 0)) a2 (.int .i64 0)) fun t38_144 =>
 IfB t38_144 (
 j_17 a0 a1 a2 t23_4 t24_5 t28_7 t29_8 (.bool true) w) (
 RunW Tryd.prog (Builtin.len_ #[25] 3 #[t23_4]) w fun t42_145 =>
 RunA Tryd.prog (bin .lss 3 (.tmp 42) (.const (.int .i64 1)) t42_145 (.int .i64 1)) fun t43_146 =>
 IfB t43_146 (
 j_17 a0 a1 a2 t23_4 t24_5 t28_7 t29_8 (.bool true) w) (
 RunW Tryd.prog (Builtin.len_ #[25] 3 #[t28_7]) w fun t47_147 =>
 RunA Tryd.prog (bin .lss 3 (.tmp 47) (.const (.int .i64 1)) t47_147 (.int .i64 1)) fun t48_148 =>
 j_17 a0 a1 a2 t23_4 t24_5 t28_7 t29_8 t48_148 w)))))
theorem sh6_calls {a0 a1 a2 : Value} {w : World} {R : Value → World → Prop} (h : sh6 a0 a1 a2 w R) : CallF Tryd.prog 6 #[a0, a1, a2] w R :=
  calls_of_denF (mk := false) (args := [a0, a1, a2]) (an := (.seq (.ops [0, 1, 2]) (.seq (.seq (.ops [0, 1, 2, 19]) (.cond (.seq (.ops [6]) .leaf) .leaf)) (.seq (.ops [0, 1, 2, 7, 8]) (.seq (.ops [0, 1, 2, 7, 8, 9, 10]) (.seq (.seq (.join [0, 1, 2, 7, 8, 9, 10, 49] (.ops [0, 1, 2, 7, 8, 9, 10, 49])) (.cond (.seq (.ops [6]) .leaf) .leaf)) (.seq (.join [2, 7] (.seq (.draw (.q 0 (.q 1 (.q 2 (.q 3 (.sp 4 (.q 4 (.q 5 (.q 6 (.q 7 (.q 8 (.q 9 (.q 10 (.sp 11 (.q 11 (.q 12 (.q 13 (.q 14 (.q 15 (.q 16 (.q 17 (.q 18 (.q 19 .fin))))))))) (.q 11 (.q 12 (.q 13 (.q 14 (.q 15 (.q 16 (.q 17 (.q 18 (.q 19 .fin))))))))))))))))) (.q 4 (.q 5 (.q 6 (.q 7 (.q 8 (.q 9 (.q 10 (.q 11 (.q 12 (.q 13 (.q 14 (.q 15 (.q 16 (.q 17 (.q 18 (.q 19 .fin))))))))))))))))))))) [2, 7, 110]) (.cond (.seq (.ops [6]) .leaf) .leaf))) (.seq (.ops [7, 13]) (.seq (.join [13, 14] (.draw (.q 0 (.q 1 (.q 2 (.q 3 (.q 4 (.q 6 (.q 7 (.q 8 (.q 9 (.q 10 (.q 11 (.q 12 (.alt 5 (.alt 13 (.alt 14 (.one 15 (.one 16 (.q 17 .fin))) (.alt 15 (.one 14 (.one 16 (.q 17 .fin))) .fin)) (.alt 15 (.one 13 (.one 14 (.one 16 (.q 17 .fin)))) .fin)) (.alt 13 (.alt 5 (.alt 14 (.one 15 (.one 16 (.q 17 .fin))) (.alt 15 (.one 14 (.one 16 (.q 17 .fin))) .fin)) (.alt 15 (.one 5 (.one 14 (.one 16 (.q 17 .fin)))) .fin)) (.alt 15 (.alt 5 (.one 13 (.one 14 (.one 16 (.q 17 .fin)))) (.alt 13 (.one 5 (.one 14 (.one 16 (.q 17 .fin)))) .fin)) .fin))))))))))))))) [13, 14])) (.seq (.ops [13, 17]) (.seq (.ops [6]) .leaf))))))))))) (c := Tryd.f6.body.getD .skip) hent Tryd.func6 rfl (Nat.le_of_ble_eq_true (by kernel_rfl))
    (Eq.mp (show sh6 a0 a1 a2 w R = denF Tryd.prog ent false Tryd.f6 (.seq (.ops [0, 1, 2]) (.seq (.seq (.ops [0, 1, 2, 19]) (.cond (.seq (.ops [6]) .leaf) .leaf)) (.seq (.ops [0, 1, 2, 7, 8]) (.seq (.ops [0, 1, 2, 7, 8, 9, 10]) (.seq (.seq (.join [0, 1, 2, 7, 8, 9, 10, 49] (.ops [0, 1, 2, 7, 8, 9, 10, 49])) (.cond (.seq (.ops [6]) .leaf) .leaf)) (.seq (.join [2, 7] (.seq (.draw (.q 0 (.q 1 (.q 2 (.q 3 (.sp 4 (.q 4 (.q 5 (.q 6 (.q 7 (.q 8 (.q 9 (.q 10 (.sp 11 (.q 11 (.q 12 (.q 13 (.q 14 (.q 15 (.q 16 (.q 17 (.q 18 (.q 19 .fin))))))))) (.q 11 (.q 12 (.q 13 (.q 14 (.q 15 (.q 16 (.q 17 (.q 18 (.q 19 .fin))))))))))))))))) (.q 4 (.q 5 (.q 6 (.q 7 (.q 8 (.q 9 (.q 10 (.q 11 (.q 12 (.q 13 (.q 14 (.q 15 (.q 16 (.q 17 (.q 18 (.q 19 .fin))))))))))))))))))))) [2, 7, 110]) (.cond (.seq (.ops [6]) .leaf) .leaf))) (.seq (.ops [7, 13]) (.seq (.join [13, 14] (.draw (.q 0 (.q 1 (.q 2 (.q 3 (.q 4 (.q 6 (.q 7 (.q 8 (.q 9 (.q 10 (.q 11 (.q 12 (.alt 5 (.alt 13 (.alt 14 (.one 15 (.one 16 (.q 17 .fin))) (.alt 15 (.one 14 (.one 16 (.q 17 .fin))) .fin)) (.alt 15 (.one 13 (.one 14 (.one 16 (.q 17 .fin)))) .fin)) (.alt 13 (.alt 5 (.alt 14 (.one 15 (.one 16 (.q 17 .fin))) (.alt 15 (.one 14 (.one 16 (.q 17 .fin))) .fin)) (.alt 15 (.one 5 (.one 14 (.one 16 (.q 17 .fin)))) .fin)) (.alt 15 (.alt 5 (.one 13 (.one 14 (.one 16 (.q 17 .fin)))) (.alt 13 (.one 5 (.one 14 (.one 16 (.q 17 .fin)))) .fin)) .fin))))))))))))))) [13, 14])) (.seq (.ops [13, 17]) (.seq (.ops [6]) .leaf)))))))))) (Tryd.f6.body.getD .skip) [a0, a1, a2] w R by kernel_rfl) h)

/-! ### 7: handbill/hbllaw1.NumTexts -/
def sh7 (a0 a1 : Value) (w : World) (R : Value → World → Prop) : Prop :=
 CallF Tryd.prog 9 #[] w fun t9_1 w =>
 RunA Tryd.prog (Op.unary .not t9_1) fun t10_2 =>
 IfB t10_2 (
 R (.bool false) w) (
 RunW Tryd.prog (Builtin.len_ #[25] 3 #[a0]) w fun t12_3 =>
 RunA Tryd.prog (bin .gtr 3 (.tmp 12) (.const (.int .i64 8000)) t12_3 (.int .i64 8000)) fun t13_4 =>
 IfB t13_4 (
 CallF Tryd.prog 9 #[] w fun t19_5 w =>
 R t19_5 w) (
 RunW Tryd.prog (Builtin.len_ #[9] 3 #[a1]) w fun t16_6 =>
 RunA Tryd.prog (bin .gtr 3 (.tmp 16) (.const (.int .i64 8000)) t16_6 (.int .i64 8000)) fun t17_7 =>
 IfB t17_7 (
 CallF Tryd.prog 9 #[] w fun t19_8 w =>
 R t19_8 w) (
 CallF Tryd.prog 18 #[a1] w fun t22_9 w =>
 RunA Tryd.prog (Instr.extract t22_9 0) fun t23_10 =>
 RunA Tryd.prog (Instr.extract t22_9 1) fun t24_11 =>
 CallF Tryd.prog 19 #[a1] w fun t27_12 w =>
 RunA Tryd.prog (Instr.extract t27_12 0) fun t28_13 =>
 RunA Tryd.prog (Instr.extract t27_12 1) fun t29_14 =>
 CallF Tryd.prog 9 #[] w fun t30_15 w =>
 IfB t30_15 (
 CallF Tryd.prog 20 #[a0] w fun t33_16 w =>
 CallF Tryd.prog 21 #[a0] w fun t35_17 w =>
 RunW Tryd.prog (bin .eql 9 (.tmp 33) (.tmp 35) t33_16 t35_17) w fun t36_18 =>
 IfB t36_18 (
 CallF Tryd.prog 14 #[t23_10, t28_13] w fun t41_19 w =>
 IfB t41_19 (
 RunW Tryd.prog (bin .eql 4 (.tmp 44) (.tmp 45) t24_11 t29_14) w fun t46_20 =>
 IfB t46_20 (
 CallF Tryd.prog 16 #[a0] w fun t50_21 w =>
 CallF Tryd.prog 22 #[a0] w fun t52_22 w =>
 RunW Tryd.prog (bin .eql 37 (.tmp 50) (.tmp 52) t50_21 t52_22) w fun t53_23 =>
 R t53_23 w) (
 R (.bool false) w)) (
 R (.bool false) w)) (
 R (.bool false) w)) (
 R (.bool false) w))))
theorem sh7_calls {a0 a1 : Value} {w : World} {R : Value → World → Prop} (h : sh7 a0 a1 w R) : CallF Tryd.prog 7 #[a0, a1] w R :=
  calls_of_denF (mk := false) (args := [a0, a1]) (an := (.seq (.ops [0, 1]) (.seq (.seq (.ops [0, 1, 10]) (.cond (.seq (.ops [4]) .leaf) .leaf)) (.seq (.seq (.ops [0, 1, 18]) (.cond (.seq (.ops [4]) .leaf) .leaf)) (.seq (.ops [0, 1, 5, 6]) (.seq (.ops [0, 5, 6, 7, 8]) (.seq (.ops [4]) .leaf))))))) (c := Tryd.f7.body.getD .skip) hent Tryd.func7 rfl (Nat.le_of_ble_eq_true (by kernel_rfl))
    (Eq.mp (show sh7 a0 a1 w R = denF Tryd.prog ent false Tryd.f7 (.seq (.ops [0, 1]) (.seq (.seq (.ops [0, 1, 10]) (.cond (.seq (.ops [4]) .leaf) .leaf)) (.seq (.seq (.ops [0, 1, 18]) (.cond (.seq (.ops [4]) .leaf) .leaf)) (.seq (.ops [0, 1, 5, 6]) (.seq (.ops [0, 5, 6, 7, 8]) (.seq (.ops [4]) .leaf)))))) (Tryd.f7.body.getD .skip) [a0, a1] w R by kernel_rfl) h)

/-! ### 8: handbill/hbllaw1.NumBack -/
def sh8 (a0 a1 a2 : Value) (w : World) (R : Value → World → Prop) : Prop :=
 CallF Tryd.prog 9 #[] w fun t18_1 w =>
 RunA Tryd.prog (Op.unary .not t18_1) fun t19_2 =>
 IfB t19_2 (
 R (.bool false) w) (
 RunW Tryd.prog (Builtin.len_ #[25] 3 #[a2]) w fun t21_3 =>
 RunA Tryd.prog (bin .gtr 3 (.tmp 21) (.const (.int .i64 8000)) t21_3 (.int .i64 8000)) fun t22_4 =>
 IfB t22_4 (
 CallF Tryd.prog 9 #[] w fun t23_5 w =>
 R t23_5 w) (
 CallF Tryd.prog 20 #[a2] w fun t26_6 w =>
 CallF Tryd.prog 18 #[t26_6] w fun t27_7 w =>
 RunA Tryd.prog (Instr.extract t27_7 0) fun t28_8 =>
 RunA Tryd.prog (Instr.extract t27_7 1) fun t29_9 =>
 CallF Tryd.prog 13 #[a0, a1] w fun t33_10 w =>
 RunA Tryd.prog (Instr.extract t33_10 0) fun t34_11 =>
 RunA Tryd.prog (Instr.extract t33_10 1) fun t35_12 =>
 CallF Tryd.prog 11 #[a0] w fun t38_13 w =>
 RunA Tryd.prog (Instr.extract t38_13 0) fun t39_14 =>
 RunA Tryd.prog (Instr.extract t38_13 1) fun t40_15 =>
 jn 7 (fun t0_16 t1_17 t2_18 t9_19 t10_20 t11_21 t12_22 w =>
 CallF Tryd.prog 15 #[t2_18] w fun t62_24 w =>
 RunV Tryd.prog (Builtin.append_ #[25, 25] 25 #[t62_24, t9_19]) w fun t64_25 w =>
 RunW Tryd.prog (Builtin.len_ #[25] 3 #[t2_18]) w fun t66_26 =>
 CallF Tryd.prog 12 #[t64_25, t66_26, t1_17] w fun t68_27 w =>
 RunA Tryd.prog (Instr.extract t68_27 0) fun t69_28 =>
 RunA Tryd.prog (Instr.extract t68_27 1) fun t70_29 =>
 CallF Tryd.prog 15 #[t2_18] w fun t73_30 w =>
 RunV Tryd.prog (Builtin.append_ #[25, 25] 25 #[t73_30, t11_21]) w fun t75_31 w =>
 RunV Tryd.prog (Instr.buildSlice 25 1 #[(0, (.int .u8 7))]) w fun t76_32 w =>
 RunV Tryd.prog (Builtin.append_ #[25, 25] 25 #[t75_31, t76_32]) w fun t77_33 w =>
 RunW Tryd.prog (Builtin.len_ #[25] 3 #[t2_18]) w fun t79_34 =>
 CallF Tryd.prog 17 #[t77_33, t79_34] w fun t80_35 w =>
 RunA Tryd.prog (Instr.extract t80_35 0) fun t81_36 =>
 RunA Tryd.prog (Instr.extract t80_35 1) fun t82_37 =>
 RunA Tryd.prog (Instr.extract t80_35 2) fun t83_38 =>
 jn 6 (fun t0_39 t1_40 t9_41 t10_42 t13_43 t14_44 w =>
 CallF Tryd.prog 9 #[] w fun t114_46 w =>
 IfB t114_46 (
 RunW Tryd.prog (bin .neq 26 (.tmp 116) (.const (.int .i64 0)) t10_42 (.int .i64 0)) w fun t117_47 =>
 IfB t117_47 (
 R (.bool true) w) (
 RunW Tryd.prog (bin .eql 26 (.tmp 119) (.const (.int .i64 0)) t14_44 (.int .i64 0)) w fun t120_48 =>
 IfB t120_48 (
 RunW Tryd.prog (bin .eql 3 (.tmp 122) (.tmp 123) t13_43 t0_39) w fun t124_49 =>
 IfB t124_49 (
 RunW Tryd.prog (Builtin.len_ #[25] 3 #[t9_41]) w fun t128_50 =>
 RunW Tryd.prog (bin .eql 3 (.tmp 128) (.tmp 129) t128_50 t1_40) w fun t130_51 =>
 R t130_51 w) (
 R (.bool false) w)) (
 R (.bool false) w))) (
 R (.bool false) w)) fun j_45 =>
 RunW Tryd.prog (bin .eql 26 (.tmp 84) (.const (.int .i64 0)) t12_22 (.int .i64 0)) w fun t85_52 =>
 IfB t85_52 (
 RunW Tryd.prog (bin .neq 26 (.tmp 87) (.const (.int .i64 0)) t83_38 (.int .i64 0)) w fun t88_53 =>
 IfB t88_53 (
 R (.bool false) w) (
 RunW Tryd.prog (bin .neq 3 (.tmp 90) (.tmp 91) t81_36 t0_16) w fun t92_54 =>
 IfB t92_54 (
 R (.bool false) w) (
 RunW Tryd.prog (Builtin.len_ #[25] 3 #[t2_18]) w fun t97_55 =>
 RunW Tryd.prog (Builtin.len_ #[25] 3 #[t11_21]) w fun t99_56 =>
 RunA Tryd.prog (bin .add 3 (.tmp 97) (.tmp 99) t97_55 t99_56) fun t100_57 =>
 RunW Tryd.prog (bin .neq 3 (.tmp 95) (.tmp 100) t82_37 t100_57) w fun t101_58 =>
 IfB t101_58 (
 R (.bool false) w) (
 RunW Tryd.prog (Builtin.len_ #[25] 3 #[t11_21]) w fun t105_59 =>
 RunA Tryd.prog (bin .lss 3 (.tmp 105) (.const (.int .i64 1)) t105_59 (.int .i64 1)) fun t106_60 =>
 IfB t106_60 (
 R (.bool false) w) (
 RunW Tryd.prog (Builtin.len_ #[25] 3 #[t11_21]) w fun t110_61 =>
 RunA Tryd.prog (bin .gtr 3 (.tmp 110) (.const (.int .i64 8)) t110_61 (.int .i64 8)) fun t111_62 =>
 IfB t111_62 (
 R (.bool false) w) (
 j_45 t0_16 t1_17 t9_19 t10_20 t69_28 t70_29 w)))))) (
 j_45 t0_16 t1_17 t9_19 t10_20 t69_28 t70_29 w)) fun j_23 =>
 RunA Tryd.prog (Op.unary .not t29_9) fun t42_63 =>
 IfB t42_63 (
 R (.bool false) w) (
 CallF Tryd.prog 14 #[t28_8, a2] w fun t46_64 w =>
 RunA Tryd.prog (Op.unary .not t46_64) fun t47_65 =>
 IfB t47_65 (
 R (.bool false) w) (
 RunW Tryd.prog (bin .eql 26 (.tmp 50) (.const (.int .i64 0)) t40_15 (.int .i64 0)) w fun t51_66 =>
 RunA Tryd.prog (bin .geq 3 (.tmp 52) (.const (.int .i64 0)) a0 (.int .i64 0)) fun t53_67 =>
 IfB t53_67 (
 RunA Tryd.prog (bin .lss 3 (.tmp 55) (.const (.int .i64 72057594037927936)) a0 (.int .i64 72057594037927936)) fun t56_68 =>
 RunW Tryd.prog (bin .neq 4 (.tmp 51) (.tmp 57) t51_66 t56_68) w fun t58_69 =>
 IfB t58_69 (
 R (.bool false) w) (
 j_23 a0 a1 a2 t34_11 t35_12 t39_14 t40_15 w)) (
 RunW Tryd.prog (bin .neq 4 (.tmp 51) (.tmp 57) t51_66 (.bool false)) w fun t58_70 =>
 IfB t58_70 (
 R (.bool false) w) (
 j_23 a0 a1 a2 t34_11 t35_12 t39_14 t40_15 w))))))
theorem sh8_calls {a0 a1 a2 : Value} {w : World} {R : Value → World → Prop} (h : sh8 a0 a1 a2 w R) : CallF Tryd.prog 8 #[a0, a1, a2] w R :=
  calls_of_denF (mk := false) (args := [a0, a1, a2]) (an := (.seq (.ops [0, 1, 2]) (.seq (.seq (.ops [0, 1, 2, 19]) (.cond (.seq (.ops [6]) .leaf) .leaf)) (.seq (.seq (.ops [0, 1, 2, 22]) (.cond (.seq (.ops [6]) .leaf) .leaf)) (.seq (.ops [0, 1, 2, 7, 8]) (.seq (.ops [0, 1, 2, 7, 8, 9, 10]) (.seq (.ops [0, 1, 2, 7, 8, 9, 10, 11, 12]) (.seq (.join [0, 1, 2, 9, 10, 11, 12] (.seq (.ops [0, 1, 2, 9, 10, 11, 12, 59]) (.cond (.seq (.ops [6]) .leaf) .leaf))) (.seq (.ops [0, 1, 2, 9, 10, 11, 12, 13, 14]) (.seq (.ops [0, 1, 2, 9, 10, 11, 12, 13, 14, 15, 16, 17]) (.seq (.join [0, 1, 9, 10, 13, 14] (.seq (.ops [0, 1, 9, 10, 13, 14, 113]) (.cond (.seq (.ops [6]) .leaf) .leaf))) (.seq (.ops [6]) .leaf)))))))))))) (c := Tryd.f8.body.getD .skip) hent Tryd.func8 rfl (Nat.le_of_ble_eq_true (by kernel_rfl))
    (Eq.mp (show sh8 a0 a1 a2 w R = denF Tryd.prog ent false Tryd.f8 (.seq (.ops [0, 1, 2]) (.seq (.seq (.ops [0, 1, 2, 19]) (.cond (.seq (.ops [6]) .leaf) .leaf)) (.seq (.seq (.ops [0, 1, 2, 22]) (.cond (.seq (.ops [6]) .leaf) .leaf)) (.seq (.ops [0, 1, 2, 7, 8]) (.seq (.ops [0, 1, 2, 7, 8, 9, 10]) (.seq (.ops [0, 1, 2, 7, 8, 9, 10, 11, 12]) (.seq (.join [0, 1, 2, 9, 10, 11, 12] (.seq (.ops [0, 1, 2, 9, 10, 11, 12, 59]) (.cond (.seq (.ops [6]) .leaf) .leaf))) (.seq (.ops [0, 1, 2, 9, 10, 11, 12, 13, 14]) (.seq (.ops [0, 1, 2, 9, 10, 11, 12, 13, 14, 15, 16, 17]) (.seq (.join [0, 1, 9, 10, 13, 14] (.seq (.ops [0, 1, 9, 10, 13, 14, 113]) (.cond (.seq (.ops [6]) .leaf) .leaf))) (.seq (.ops [6]) .leaf))))))))))) (Tryd.f8.body.getD .skip) [a0, a1, a2] w R by kernel_rfl) h)

/-! ### 9: handbill/hbllaw1.first -/
def sh9 (w : World) (R : Value → World → Prop) : Prop :=
 CallF Tryd.prog 13 #[(.int .i64 258), (.int .i64 2)] w fun t8_1 w =>
 RunA Tryd.prog (Instr.extract t8_1 0) fun t9_2 =>
 RunA Tryd.prog (Instr.extract t8_1 1) fun t10_3 =>
 CallF Tryd.prog 11 #[(.int .i64 300)] w fun t12_4 w =>
 RunA Tryd.prog (Instr.extract t12_4 0) fun t13_5 =>
 RunA Tryd.prog (Instr.extract t12_4 1) fun t14_6 =>
 CallF Tryd.prog 10 #[(.int .i64 7), (.int .i64 3)] w fun t16_7 w =>
 RunA Tryd.prog (Instr.extract t16_7 0) fun t17_8 =>
 RunA Tryd.prog (Instr.extract t16_7 1) fun t18_9 =>
 RunW Tryd.prog (bin .eql 26 (.tmp 19) (.const (.int .i64 0)) t10_3 (.int .i64 0)) w fun t20_10 =>
 IfB t20_10 (
 RunV Tryd.prog (convert 25 9 t9_2) w fun t23_11 w =>
 RunW Tryd.prog (bin .eql 9 (.tmp 23) (.const (.string ⟨#[1, 2]⟩)) t23_11 (.string ⟨#[1, 2]⟩)) w fun t24_12 =>
 IfB t24_12 (
 RunW Tryd.prog (bin .eql 26 (.tmp 27) (.const (.int .i64 0)) t14_6 (.int .i64 0)) w fun t28_13 =>
 IfB t28_13 (
 RunV Tryd.prog (convert 25 9 t13_5) w fun t32_14 w =>
 RunW Tryd.prog (bin .eql 9 (.tmp 32) (.const (.string ⟨#[172, 2]⟩)) t32_14 (.string ⟨#[172, 2]⟩)) w fun t33_15 =>
 IfB t33_15 (
 IfB t18_9 (
 RunW Tryd.prog (bin .eql 9 (.tmp 39) (.const (.string ⟨#[48, 48, 55]⟩)) t17_8 (.string ⟨#[48, 48, 55]⟩)) w fun t40_16 =>
 R t40_16 w) (
 R (.bool false) w)) (
 R (.bool false) w)) (
 R (.bool false) w)) (
 R (.bool false) w)) (
 R (.bool false) w)
theorem sh9_calls {w : World} {R : Value → World → Prop} (h : sh9  w R) : CallF Tryd.prog 9 #[] w R :=
  calls_of_denF (mk := false) (args := []) (an := (.seq (.ops []) (.seq (.ops [1, 2]) (.seq (.ops [1, 2, 3, 4]) (.seq (.ops [1, 2, 3, 4, 5, 6]) (.seq (.ops [0]) .leaf)))))) (c := Tryd.f9.body.getD .skip) hent Tryd.func9 rfl (Nat.le_of_ble_eq_true (by kernel_rfl))
    (Eq.mp (show sh9  w R = denF Tryd.prog ent false Tryd.f9 (.seq (.ops []) (.seq (.ops [1, 2]) (.seq (.ops [1, 2, 3, 4]) (.seq (.ops [1, 2, 3, 4, 5, 6]) (.seq (.ops [0]) .leaf))))) (Tryd.f9.body.getD .skip) [] w R by kernel_rfl) h)

/-! ### 10: handbill/num.Digits -/
def sh10 (a0 a1 : Value) (w : World) (R : Value → World → Prop) : Prop :=
 RunA Tryd.prog (bin .lss 3 (.tmp 7) (.const (.int .i64 0)) a0 (.int .i64 0)) fun t8_1 =>
 IfB t8_1 (
 R (.tuple #[(.string ⟨#[]⟩), (.bool false)]) w) (
 RunA Tryd.prog (bin .lss 3 (.tmp 10) (.const (.int .i64 1)) a1 (.int .i64 1)) fun t11_2 =>
 IfB t11_2 (
 R (.tuple #[(.string ⟨#[]⟩), (.bool false)]) w) (
 RunA Tryd.prog (bin .gtr 3 (.tmp 14) (.const (.int .i64 18)) a1 (.int .i64 18)) fun t15_3 =>
 IfB t15_3 (
 R (.tuple #[(.string ⟨#[]⟩), (.bool false)]) w) (
 CallF Tryd.prog 23 #[a0] w fun t18_4 w =>
 RunW Tryd.prog (Builtin.len_ #[9] 3 #[t18_4]) w fun t20_5 =>
 RunA Tryd.prog (bin .gtr 3 (.tmp 20) (.tmp 21) t20_5 a1) fun t22_6 =>
 IfB t22_6 (
 R (.tuple #[(.string ⟨#[]⟩), (.bool false)]) w) (
 RunW Tryd.prog (Builtin.len_ #[9] 3 #[t18_4]) w fun t25_7 =>
 RunA Tryd.prog (bin .sub 3 (.tmp 23) (.tmp 25) a1 t25_7) fun t26_8 =>
 CallF Tryd.prog 24 #[(.string ⟨#[48]⟩), t26_8] w fun t27_9 w =>
 RunA Tryd.prog (bin .add 9 (.tmp 27) (.tmp 28) t27_9 t18_4) fun t29_10 =>
 R (.tuple #[t29_10, (.bool true)]) w))))
theorem sh10_calls {a0 a1 : Value} {w : World} {R : Value → World → Prop} (h : sh10 a0 a1 w R) : CallF Tryd.prog 10 #[a0, a1] w R :=
  calls_of_denF (mk := false) (args := [a0, a1]) (an := (.seq (.ops [0, 1]) (.seq (.seq (.ops [0, 1, 16]) (.cond (.seq (.ops [4, 5]) .leaf) .leaf)) (.seq (.ops [1, 6]) (.seq (.seq (.ops [1, 6, 22]) (.cond (.seq (.ops [4, 5]) .leaf) .leaf)) (.seq (.ops [4, 5]) .leaf)))))) (c := Tryd.f10.body.getD .skip) hent Tryd.func10 rfl (Nat.le_of_ble_eq_true (by kernel_rfl))
    (Eq.mp (show sh10 a0 a1 w R = denF Tryd.prog ent false Tryd.f10 (.seq (.ops [0, 1]) (.seq (.seq (.ops [0, 1, 16]) (.cond (.seq (.ops [4, 5]) .leaf) .leaf)) (.seq (.ops [1, 6]) (.seq (.seq (.ops [1, 6, 22]) (.cond (.seq (.ops [4, 5]) .leaf) .leaf)) (.seq (.ops [4, 5]) .leaf))))) (Tryd.f10.body.getD .skip) [a0, a1] w R by kernel_rfl) h)

/-! ### 11: handbill/num.Var -/
def sh11 (a0 : Value) (w : World) (R : Value → World → Prop) : Prop :=
 RunA Tryd.prog (bin .lss 3 (.tmp 5) (.const (.int .i64 0)) a0 (.int .i64 0)) fun t6_1 =>
 IfB t6_1 (
 R (.tuple #[(.slice none 0 0), (.int .i64 1)]) w) (
 RunA Tryd.prog (bin .shr 3 (.tmp 8) (.const (.int .u64 56)) a0 (.int .u64 56)) fun t9_2 =>
 RunA Tryd.prog (bin .gtr 3 (.tmp 9) (.const (.int .i64 0)) t9_2 (.int .i64 0)) fun t10_3 =>
 IfB t10_3 (
 R (.tuple #[(.slice none 0 0), (.int .i64 1)]) w) (
 lp 2 (fun n_6 t0_4 t4_5 w =>
 RunA Tryd.prog (bin .geq 3 (.tmp 12) (.const (.int .i64 128)) t0_4 (.int .i64 128)) fun t13_7 =>
 IfB t13_7 (
 RunV Tryd.prog (convert 3 5 t0_4) w fun t18_8 w =>
 RunA Tryd.prog (bin .or 5 (.tmp 18) (.const (.int .u8 128)) t18_8 (.int .u8 128)) fun t19_9 =>
 RunV Tryd.prog (Instr.buildSlice 25 1 #[(0, t19_9)]) w fun t20_10 w =>
 RunV Tryd.prog (Builtin.append_ #[25, 25] 25 #[t4_5, t20_10]) w fun t21_11 w =>
 RunA Tryd.prog (bin .shr 3 (.tmp 14) (.const (.int .u64 7)) t0_4 (.int .u64 7)) fun t15_12 =>
 n_6 t15_12 t21_11 w) (
 RunV Tryd.prog (convert 3 5 t0_4) w fun t24_13 w =>
 RunV Tryd.prog (Instr.buildSlice 25 1 #[(0, t24_13)]) w fun t25_14 w =>
 RunV Tryd.prog (Builtin.append_ #[25, 25] 25 #[t4_5, t25_14]) w fun t26_15 w =>
 R (.tuple #[t26_15, (.int .i64 0)]) w)) [a0, (.slice none 0 0)] w))
theorem sh11_calls {a0 : Value} {w : World} {R : Value → World → Prop} (h : sh11 a0 w R) : CallF Tryd.prog 11 #[a0] w R :=
  calls_of_denF (mk := false) (args := [a0]) (an := (.seq (.ops [0]) (.seq (.seq (.ops [0, 11]) (.cond (.seq (.ops [2, 3]) .leaf) .leaf)) (.seq (.ops [0, 4]) (.seq (.blk (.loop [] [0, 4] (.seq (.seq (.ops [0, 4, 13]) (.cond .leaf .leaf)) (.seq (.blk (.ops [0, 4])) (.ops [0, 4]))))) (.seq (.ops [2, 3]) .leaf)))))) (c := Tryd.f11.body.getD .skip) hent Tryd.func11 rfl (Nat.le_of_ble_eq_true (by kernel_rfl))
    (Eq.mp (show sh11 a0 w R = denF Tryd.prog ent false Tryd.f11 (.seq (.ops [0]) (.seq (.seq (.ops [0, 11]) (.cond (.seq (.ops [2, 3]) .leaf) .leaf)) (.seq (.ops [0, 4]) (.seq (.blk (.loop [] [0, 4] (.seq (.seq (.ops [0, 4, 13]) (.cond .leaf .leaf)) (.seq (.blk (.ops [0, 4])) (.ops [0, 4]))))) (.seq (.ops [2, 3]) .leaf))))) (Tryd.f11.body.getD .skip) [a0] w R by kernel_rfl) h)

/-! ### 12: handbill/num.Get -/
def sh12 (a0 a1 a2 : Value) (w : World) (R : Value → World → Prop) : Prop :=
 RunA Tryd.prog (bin .lss 3 (.tmp 12) (.const (.int .i64 1)) a2 (.int .i64 1)) fun t13_1 =>
 IfB t13_1 (
 R (.tuple #[(.int .i64 0), (.int .i64 1)]) w) (
 RunA Tryd.prog (bin .gtr 3 (.tmp 15) (.const (.int .i64 6)) a2 (.int .i64 6)) fun t16_2 =>
 IfB t16_2 (
 R (.tuple #[(.int .i64 0), (.int .i64 1)]) w) (
 RunA Tryd.prog (bin .lss 3 (.tmp 19) (.const (.int .i64 0)) a1 (.int .i64 0)) fun t20_3 =>
 IfB t20_3 (
 R (.tuple #[(.int .i64 0), (.int .i64 1)]) w) (
 RunW Tryd.prog (Builtin.len_ #[25] 3 #[a0]) w fun t25_4 =>
 RunA Tryd.prog (bin .gtr 3 (.tmp 23) (.tmp 25) a1 t25_4) fun t26_5 =>
 IfB t26_5 (
 R (.tuple #[(.int .i64 0), (.int .i64 1)]) w) (
 RunW Tryd.prog (Builtin.len_ #[25] 3 #[a0]) w fun t30_6 =>
 RunA Tryd.prog (bin .sub 3 (.tmp 30) (.tmp 31) t30_6 a1) fun t32_7 =>
 RunA Tryd.prog (bin .lss 3 (.tmp 32) (.tmp 33) t32_7 a2) fun t34_8 =>
 IfB t34_8 (
 R (.tuple #[(.int .i64 0), (.int .i64 2)]) w) (
 RunA Tryd.prog (bin .add 3 (.tmp 37) (.tmp 38) a1 a2) fun t39_9 =>
 RunA Tryd.prog (Instr.sliceAt 25 a0 (some a1) (some t39_9) none) fun t40_10 =>
 RunW Tryd.prog (Builtin.len_ #[25] 3 #[t40_10]) w fun t41_11 =>
 lp 2 (fun n_14 t8_12 t42_13 w =>
 RunA Tryd.prog (bin .lss 3 (.tmp 42) (.tmp 41) t42_13 t41_11) fun t43_15 =>
 IfB t43_15 (
 RunA Tryd.prog (Instr.indexAt 25 t40_10 t42_13) fun t44_16 =>
 RunW Tryd.prog (Instr.loadAt 5 t44_16) w fun t45_17 =>
 RunA Tryd.prog (bin .shl 3 (.tmp 46) (.const (.int .u64 8)) t8_12 (.int .u64 8)) fun t47_18 =>
 RunV Tryd.prog (convert 5 3 t45_17) w fun t49_19 w =>
 RunA Tryd.prog (bin .or 3 (.tmp 47) (.tmp 49) t47_18 t49_19) fun t50_20 =>
 RunA Tryd.prog (bin .add 3 (.tmp 42) (.const (.int .i64 1)) t42_13 (.int .i64 1)) fun t51_21 =>
 (t40_10 : Value) = t40_10 ∧ ((t41_11 : Value) = t41_11 ∧ (n_14 t50_20 t51_21 w))) (
 R (.tuple #[t8_12, (.int .i64 0)]) w)) [(.int .i64 0), (.int .i64 0)] w)))))
theorem sh12_calls {a0 a1 a2 : Value} {w : World} {R : Value → World → Prop} (h : sh12 a0 a1 a2 w R) : CallF Tryd.prog 12 #[a0, a1, a2] w R :=
  calls_of_denF (mk := false) (args := [a0, a1, a2]) (an := (.seq (.ops [0, 1, 2]) (.seq (.blk (.seq (.ops [0, 1, 2, 11]) (.cond (.seq (.ops [6, 7]) .leaf) (.seq (.ops [0, 1, 2, 28]) (.cond (.seq (.ops [6, 7]) .leaf) .leaf))))) (.seq (.ops [0, 1, 2, 8]) (.seq (.seq (.ops [8, 40, 41, 42]) (.blk (.loop [40, 41] [8, 42] (.seq (.ops [8, 40, 41, 42, 43]) (.seq (.cond .leaf .leaf) (.seq (.blk (.seq (.ops [8, 10, 40, 41, 42]) (.ops [8, 40, 41, 42]))) (.ops [8, 40, 41, 42]))))))) (.seq (.ops [6, 7]) .leaf)))))) (c := Tryd.f12.body.getD .skip) hent Tryd.func12 rfl (Nat.le_of_ble_eq_true (by kernel_rfl))
    (Eq.mp (show sh12 a0 a1 a2 w R = denF Tryd.prog ent false Tryd.f12 (.seq (.ops [0, 1, 2]) (.seq (.blk (.seq (.ops [0, 1, 2, 11]) (.cond (.seq (.ops [6, 7]) .leaf) (.seq (.ops [0, 1, 2, 28]) (.cond (.seq (.ops [6, 7]) .leaf) .leaf))))) (.seq (.ops [0, 1, 2, 8]) (.seq (.seq (.ops [8, 40, 41, 42]) (.blk (.loop [40, 41] [8, 42] (.seq (.ops [8, 40, 41, 42, 43]) (.seq (.cond .leaf .leaf) (.seq (.blk (.seq (.ops [8, 10, 40, 41, 42]) (.ops [8, 40, 41, 42]))) (.ops [8, 40, 41, 42]))))))) (.seq (.ops [6, 7]) .leaf))))) (Tryd.f12.body.getD .skip) [a0, a1, a2] w R by kernel_rfl) h)

/-! ### 13: handbill/num.Put -/
def sh13 (a0 a1 : Value) (w : World) (R : Value → World → Prop) : Prop :=
 RunA Tryd.prog (bin .lss 3 (.tmp 8) (.const (.int .i64 1)) a1 (.int .i64 1)) fun t9_1 =>
 IfB t9_1 (
 R (.tuple #[(.slice none 0 0), (.int .i64 1)]) w) (
 RunA Tryd.prog (bin .gtr 3 (.tmp 11) (.const (.int .i64 6)) a1 (.int .i64 6)) fun t12_2 =>
 IfB t12_2 (
 R (.tuple #[(.slice none 0 0), (.int .i64 1)]) w) (
 RunA Tryd.prog (bin .lss 3 (.tmp 15) (.const (.int .i64 0)) a0 (.int .i64 0)) fun t16_3 =>
 IfB t16_3 (
 R (.tuple #[(.slice none 0 0), (.int .i64 1)]) w) (
 RunA Tryd.prog (bin .mul 3 (.const (.int .i64 8)) (.tmp 20) (.int .i64 8) a1) fun t21_4 =>
 RunA Tryd.prog (bin .shr 3 (.tmp 19) (.tmp 21) a0 t21_4) fun t22_5 =>
 RunA Tryd.prog (bin .gtr 3 (.tmp 22) (.const (.int .i64 0)) t22_5 (.int .i64 0)) fun t23_6 =>
 IfB t23_6 (
 R (.tuple #[(.slice none 0 0), (.int .i64 1)]) w) (
 RunA Tryd.prog (bin .sub 3 (.tmp 25) (.const (.int .i64 1)) a1 (.int .i64 1)) fun t26_7 =>
 lp 2 (fun n_10 t6_8 t7_9 w =>
 RunA Tryd.prog (bin .geq 3 (.tmp 27) (.const (.int .i64 0)) t7_9 (.int .i64 0)) fun t28_11 =>
 IfB t28_11 (
 RunA Tryd.prog (bin .mul 3 (.const (.int .i64 8)) (.tmp 33) (.int .i64 8) t7_9) fun t34_12 =>
 RunA Tryd.prog (bin .shr 3 (.tmp 32) (.tmp 34) a0 t34_12) fun t35_13 =>
 RunV Tryd.prog (convert 3 5 t35_13) w fun t36_14 w =>
 RunV Tryd.prog (Instr.buildSlice 25 1 #[(0, t36_14)]) w fun t37_15 w =>
 RunV Tryd.prog (Builtin.append_ #[25, 25] 25 #[t6_8, t37_15]) w fun t38_16 w =>
 RunA Tryd.prog (bin .sub 3 (.tmp 29) (.const (.int .i64 1)) t7_9 (.int .i64 1)) fun t30_17 =>
 (a0 : Value) = a0 ∧ (n_10 t38_16 t30_17 w)) (
 R (.tuple #[t6_8, (.int .i64 0)]) w)) [(.slice none 0 0), t26_7] w))))
theorem sh13_calls {a0 a1 : Value} {w : World} {R : Value → World → Prop} (h : sh13 a0 a1 w R) : CallF Tryd.prog 13 #[a0, a1] w R :=
  calls_of_denF (mk := false) (args := [a0, a1]) (an := (.seq (.ops [0, 1]) (.seq (.seq (.ops [0, 1, 24]) (.cond (.seq (.ops [4, 5]) .leaf) .leaf)) (.seq (.ops [0, 1, 6]) (.seq (.seq (.ops [0, 6, 7]) (.blk (.loop [0] [6, 7] (.seq (.seq (.ops [0, 6, 7, 28]) (.cond .leaf .leaf)) (.seq (.blk (.ops [0, 6, 7])) (.ops [0, 6, 7])))))) (.seq (.ops [4, 5]) .leaf)))))) (c := Tryd.f13.body.getD .skip) hent Tryd.func13 rfl (Nat.le_of_ble_eq_true (by kernel_rfl))
    (Eq.mp (show sh13 a0 a1 w R = denF Tryd.prog ent false Tryd.f13 (.seq (.ops [0, 1]) (.seq (.seq (.ops [0, 1, 24]) (.cond (.seq (.ops [4, 5]) .leaf) .leaf)) (.seq (.ops [0, 1, 6]) (.seq (.seq (.ops [0, 6, 7]) (.blk (.loop [0] [6, 7] (.seq (.seq (.ops [0, 6, 7, 28]) (.cond .leaf .leaf)) (.seq (.blk (.ops [0, 6, 7])) (.ops [0, 6, 7])))))) (.seq (.ops [4, 5]) .leaf))))) (Tryd.f13.body.getD .skip) [a0, a1] w R by kernel_rfl) h)

/-! ### 14: handbill/hblref.Bytes -/
def sh14 (a0 a1 : Value) (w : World) (R : Value → World → Prop) : Prop :=
 RunV Tryd.prog (convert 25 9 a0) w fun t6_1 w =>
 RunV Tryd.prog (convert 25 9 a1) w fun t8_2 w =>
 RunW Tryd.prog (bin .eql 9 (.tmp 6) (.tmp 8) t6_1 t8_2) w fun t9_3 =>
 R t9_3 w
theorem sh14_calls {a0 a1 : Value} {w : World} {R : Value → World → Prop} (h : sh14 a0 a1 w R) : CallF Tryd.prog 14 #[a0, a1] w R :=
  calls_of_denF (mk := false) (args := [a0, a1]) (an := (.seq (.ops [0, 1]) (.seq (.ops [4]) .leaf))) (c := Tryd.f14.body.getD .skip) hent Tryd.func14 rfl (Nat.le_of_ble_eq_true (by kernel_rfl))
    (Eq.mp (show sh14 a0 a1 w R = denF Tryd.prog ent false Tryd.f14 (.seq (.ops [0, 1]) (.seq (.ops [4]) .leaf)) (Tryd.f14.body.getD .skip) [a0, a1] w R by kernel_rfl) h)

/-! ### 15: handbill/hblref.CopyBytes -/
def sh15 (a0 : Value) (w : World) (R : Value → World → Prop) : Prop :=
 RunV Tryd.prog (Instr.buildSlice 25 0 #[]) w fun t3_1 w =>
 RunV Tryd.prog (Builtin.append_ #[25, 25] 25 #[t3_1, a0]) w fun t5_2 w =>
 R t5_2 w
theorem sh15_calls {a0 : Value} {w : World} {R : Value → World → Prop} (h : sh15 a0 w R) : CallF Tryd.prog 15 #[a0] w R :=
  calls_of_denF (mk := false) (args := [a0]) (an := (.seq (.ops [0]) (.seq (.ops [2]) .leaf))) (c := Tryd.f15.body.getD .skip) hent Tryd.func15 rfl (Nat.le_of_ble_eq_true (by kernel_rfl))
    (Eq.mp (show sh15 a0 w R = denF Tryd.prog ent false Tryd.f15 (.seq (.ops [0]) (.seq (.ops [2]) .leaf)) (Tryd.f15.body.getD .skip) [a0] w R by kernel_rfl) h)

/-! ### 16: handbill/num.Crc -/
def sh16 (a0 : Value) (w : World) (R : Value → World → Prop) : Prop :=
 RunW Tryd.prog (Builtin.len_ #[25] 3 #[a0]) w fun t8_1 =>
 lp 2 (fun n_4 t3_2 t9_3 w =>
 RunA Tryd.prog (bin .lss 3 (.tmp 9) (.tmp 8) t9_3 t8_1) fun t10_5 =>
 IfB t10_5 (
 RunA Tryd.prog (Instr.indexAt 25 a0 t9_3) fun t11_6 =>
 RunW Tryd.prog (Instr.loadAt 5 t11_6) w fun t12_7 =>
 RunV Tryd.prog (convert 5 37 t12_7) w fun t15_8 w =>
 RunA Tryd.prog (bin .xor 37 (.tmp 13) (.tmp 15) t3_2 t15_8) fun t16_9 =>
 lp 2 (fun n_12 t3_10 t17_11 w =>
 RunA Tryd.prog (bin .lss 3 (.tmp 17) (.const (.int .i64 8)) t17_11 (.int .i64 8)) fun t18_13 =>
 IfB t18_13 (
 RunA Tryd.prog (bin .and 37 (.tmp 19) (.const (.int .u32 1)) t3_10 (.int .u32 1)) fun t20_14 =>
 RunA Tryd.prog (bin .shr 37 (.tmp 21) (.const (.int .u64 1)) t3_10 (.int .u64 1)) fun t22_15 =>
 jn 5 (fun t3_16 t7_17 t8_18 t9_19 t17_20 w =>
 RunA Tryd.prog (bin .add 3 (.tmp 17) (.const (.int .i64 1)) t17_20 (.int .i64 1)) fun t27_22 =>
 (t7_17 : Value) = a0 ∧ ((t8_18 : Value) = t8_1 ∧ ((t9_19 : Value) = t9_3 ∧ (n_12 t3_16 t27_22 w)))) fun j_21 =>
 RunW Tryd.prog (bin .eql 37 (.tmp 23) (.const (.int .u32 1)) t20_14 (.int .u32 1)) w fun t24_23 =>
 IfB t24_23 (
 RunA Tryd.prog (bin .xor 37 (.tmp 25) (.const (.int .u32 3988292384)) t22_15 (.int .u32 3988292384)) fun t26_24 =>
 j_21 t26_24 a0 t8_1 t9_3 t17_11 w) (
 j_21 t22_15 a0 t8_1 t9_3 t17_11 w)) (
 RunA Tryd.prog (bin .add 3 (.tmp 9) (.const (.int .i64 1)) t9_3 (.int .i64 1)) fun t28_25 =>
 (a0 : Value) = a0 ∧ ((t8_1 : Value) = t8_1 ∧ (n_4 t3_10 t28_25 w)))) [t16_9, (.int .i64 0)] w) (
 RunA Tryd.prog (Op.unary .xor t3_2) fun t30_26 =>
 R t30_26 w)) [(.int .u32 4294967295), (.int .i64 0)] w
theorem sh16_calls {a0 : Value} {w : World} {R : Value → World → Prop} (h : sh16 a0 w R) : CallF Tryd.prog 16 #[a0] w R :=
  calls_of_denF (mk := false) (args := [a0]) (an := (.seq (.ops [0]) (.seq (.ops [0, 3]) (.seq (.seq (.ops [3, 7, 8, 9]) (.blk (.loop [7, 8] [3, 9] (.seq (.ops [3, 7, 8, 9, 10]) (.seq (.cond .leaf .leaf) (.seq (.blk (.seq (.ops [3, 5, 7, 8, 9]) (.seq (.ops [3, 7, 8, 9]) (.seq (.ops [3, 7, 8, 9, 17]) (.blk (.loop [7, 8, 9] [3, 17] (.seq (.ops [3, 7, 8, 9, 17, 18]) (.seq (.cond .leaf .leaf) (.seq (.blk (.seq (.ops [3, 6, 7, 8, 9, 17]) (.seq (.ops [3, 6, 7, 8, 9, 17]) (.join [3, 7, 8, 9, 17] (.seq (.ops [3, 7, 8, 9, 17, 24]) (.cond (.ops [3, 7, 8, 9, 17]) .leaf)))))) (.ops [3, 7, 8, 9, 17])))))))))) (.ops [3, 7, 8, 9]))))))) (.seq (.ops [2]) .leaf))))) (c := Tryd.f16.body.getD .skip) hent Tryd.func16 rfl (Nat.le_of_ble_eq_true (by kernel_rfl))
    (Eq.mp (show sh16 a0 w R = denF Tryd.prog ent false Tryd.f16 (.seq (.ops [0]) (.seq (.ops [0, 3]) (.seq (.seq (.ops [3, 7, 8, 9]) (.blk (.loop [7, 8] [3, 9] (.seq (.ops [3, 7, 8, 9, 10]) (.seq (.cond .leaf .leaf) (.seq (.blk (.seq (.ops [3, 5, 7, 8, 9]) (.seq (.ops [3, 7, 8, 9]) (.seq (.ops [3, 7, 8, 9, 17]) (.blk (.loop [7, 8, 9] [3, 17] (.seq (.ops [3, 7, 8, 9, 17, 18]) (.seq (.cond .leaf .leaf) (.seq (.blk (.seq (.ops [3, 6, 7, 8, 9, 17]) (.seq (.ops [3, 6, 7, 8, 9, 17]) (.join [3, 7, 8, 9, 17] (.seq (.ops [3, 7, 8, 9, 17, 24]) (.cond (.ops [3, 7, 8, 9, 17]) .leaf)))))) (.ops [3, 7, 8, 9, 17])))))))))) (.ops [3, 7, 8, 9]))))))) (.seq (.ops [2]) .leaf)))) (Tryd.f16.body.getD .skip) [a0] w R by kernel_rfl) h)

/-! ### 17: handbill/num.ReadVar -/
def sh17 (a0 a1 : Value) (w : World) (R : Value → World → Prop) : Prop :=
 RunA Tryd.prog (bin .lss 3 (.tmp 10) (.const (.int .i64 0)) a1 (.int .i64 0)) fun t11_1 =>
 IfB t11_1 (
 R (.tuple #[(.int .i64 0), (.int .i64 0), (.int .i64 1)]) w) (
 RunW Tryd.prog (Builtin.len_ #[25] 3 #[a0]) w fun t15_2 =>
 RunA Tryd.prog (bin .gtr 3 (.tmp 13) (.tmp 15) a1 t15_2) fun t16_3 =>
 IfB t16_3 (
 R (.tuple #[(.int .i64 0), (.int .i64 0), (.int .i64 1)]) w) (
 RunA Tryd.prog (Instr.sliceAt 25 a0 (some a1) none none) fun t20_4 =>
 RunW Tryd.prog (Builtin.len_ #[25] 3 #[t20_4]) w fun t21_5 =>
 lp 2 (fun n_8 t7_6 t22_7 w =>
 RunA Tryd.prog (bin .lss 3 (.tmp 22) (.tmp 21) t22_7 t21_5) fun t23_9 =>
 IfB t23_9 (
 RunA Tryd.prog (Instr.indexAt 25 t20_4 t22_7) fun t25_10 =>
 RunW Tryd.prog (Instr.loadAt 5 t25_10) w fun t26_11 =>
 RunA Tryd.prog (bin .and 5 (.tmp 28) (.const (.int .u8 127)) t26_11 (.int .u8 127)) fun t29_12 =>
 RunV Tryd.prog (convert 5 3 t29_12) w fun t30_13 w =>
 RunA Tryd.prog (bin .mul 3 (.const (.int .i64 7)) (.tmp 31) (.int .i64 7) t22_7) fun t32_14 =>
 RunA Tryd.prog (bin .shl 3 (.tmp 30) (.tmp 32) t30_13 t32_14) fun t33_15 =>
 RunA Tryd.prog (bin .or 3 (.tmp 27) (.tmp 33) t7_6 t33_15) fun t34_16 =>
 jn 5 (fun t1_17 t7_18 t20_19 t21_20 t22_21 w =>
 RunA Tryd.prog (bin .add 3 (.tmp 22) (.const (.int .i64 1)) t22_21 (.int .i64 1)) fun t58_23 =>
 (t1_17 : Value) = a1 ∧ ((t20_19 : Value) = t20_4 ∧ ((t21_20 : Value) = t21_5 ∧ (n_8 t7_18 t58_23 w)))) fun j_22 =>
 RunA Tryd.prog (bin .lss 5 (.tmp 36) (.const (.int .u8 128)) t26_11 (.int .u8 128)) fun t37_24 =>
 IfB t37_24 (
 RunA Tryd.prog (bin .gtr 5 (.tmp 39) (.const (.int .u8 0)) t26_11 (.int .u8 0)) fun t40_25 =>
 IfB t40_25 (
 RunA Tryd.prog (bin .add 3 (.tmp 47) (.tmp 48) a1 t22_7) fun t49_26 =>
 RunA Tryd.prog (bin .add 3 (.tmp 49) (.const (.int .i64 1)) t49_26 (.int .i64 1)) fun t50_27 =>
 R (.tuple #[t34_16, t50_27, (.int .i64 0)]) w) (
 RunW Tryd.prog (bin .eql 3 (.tmp 42) (.const (.int .i64 0)) t22_7 (.int .i64 0)) w fun t43_28 =>
 IfB t43_28 (
 RunA Tryd.prog (bin .add 3 (.tmp 47) (.tmp 48) a1 t22_7) fun t49_29 =>
 RunA Tryd.prog (bin .add 3 (.tmp 49) (.const (.int .i64 1)) t49_29 (.int .i64 1)) fun t50_30 =>
 R (.tuple #[t34_16, t50_30, (.int .i64 0)]) w) (
 RunW Tryd.prog (bin .eql 5 (.tmp 52) (.const (.int .u8 0)) t26_11 (.int .u8 0)) w fun t53_31 =>
 IfB t53_31 (
 R (.tuple #[(.int .i64 0), (.int .i64 0), (.int .i64 4)]) w) (
 RunW Tryd.prog (bin .eql 3 (.tmp 55) (.const (.int .i64 7)) t22_7 (.int .i64 7)) w fun t56_32 =>
 IfB t56_32 (
 R (.tuple #[(.int .i64 0), (.int .i64 0), (.int .i64 4)]) w) (
 j_22 a1 t34_16 t20_4 t21_5 t22_7 w))))) (
 RunW Tryd.prog (bin .eql 5 (.tmp 52) (.const (.int .u8 0)) t26_11 (.int .u8 0)) w fun t53_33 =>
 IfB t53_33 (
 R (.tuple #[(.int .i64 0), (.int .i64 0), (.int .i64 4)]) w) (
 RunW Tryd.prog (bin .eql 3 (.tmp 55) (.const (.int .i64 7)) t22_7 (.int .i64 7)) w fun t56_34 =>
 IfB t56_34 (
 R (.tuple #[(.int .i64 0), (.int .i64 0), (.int .i64 4)]) w) (
 j_22 a1 t34_16 t20_4 t21_5 t22_7 w)))) (
 R (.tuple #[(.int .i64 0), (.int .i64 0), (.int .i64 2)]) w)) [(.int .i64 0), (.int .i64 0)] w))
theorem sh17_calls {a0 a1 : Value} {w : World} {R : Value → World → Prop} (h : sh17 a0 a1 w R) : CallF Tryd.prog 17 #[a0, a1] w R :=
  calls_of_denF (mk := false) (args := [a0, a1]) (an := (.seq (.ops [0, 1]) (.seq (.seq (.ops [0, 1, 17]) (.cond (.seq (.ops [4, 5, 6]) .leaf) .leaf)) (.seq (.ops [0, 1, 7]) (.seq (.seq (.ops [1, 7, 20, 21, 22]) (.blk (.loop [1, 20, 21] [7, 22] (.seq (.ops [1, 7, 20, 21, 22, 23]) (.seq (.cond .leaf .leaf) (.seq (.blk (.seq (.ops [1, 7, 8, 9, 20, 21, 22]) (.seq (.ops [1, 7, 8, 9, 20, 21, 22]) (.blk (.join [1, 7, 20, 21, 22] (.seq (.ops [1, 7, 8, 9, 20, 21, 22, 35]) (.cond (.seq (.ops [4, 5, 6]) .leaf) (.seq (.ops [1, 7, 20, 21, 22, 51]) (.cond (.seq (.ops [4, 5, 6]) .leaf) .leaf))))))))) (.ops [1, 7, 20, 21, 22]))))))) (.seq (.ops [4, 5, 6]) .leaf)))))) (c := Tryd.f17.body.getD .skip) hent Tryd.func17 rfl (Nat.le_of_ble_eq_true (by kernel_rfl))
    (Eq.mp (show sh17 a0 a1 w R = denF Tryd.prog ent false Tryd.f17 (.seq (.ops [0, 1]) (.seq (.seq (.ops [0, 1, 17]) (.cond (.seq (.ops [4, 5, 6]) .leaf) .leaf)) (.seq (.ops [0, 1, 7]) (.seq (.seq (.ops [1, 7, 20, 21, 22]) (.blk (.loop [1, 20, 21] [7, 22] (.seq (.ops [1, 7, 20, 21, 22, 23]) (.seq (.cond .leaf .leaf) (.seq (.blk (.seq (.ops [1, 7, 8, 9, 20, 21, 22]) (.seq (.ops [1, 7, 8, 9, 20, 21, 22]) (.blk (.join [1, 7, 20, 21, 22] (.seq (.ops [1, 7, 8, 9, 20, 21, 22, 35]) (.cond (.seq (.ops [4, 5, 6]) .leaf) (.seq (.ops [1, 7, 20, 21, 22, 51]) (.cond (.seq (.ops [4, 5, 6]) .leaf) .leaf))))))))) (.ops [1, 7, 20, 21, 22]))))))) (.seq (.ops [4, 5, 6]) .leaf))))) (Tryd.f17.body.getD .skip) [a0, a1] w R by kernel_rfl) h)

/-! ### 18: handbill/num.Unhex -/
def sh18 (a0 : Value) (w : World) (R : Value → World → Prop) : Prop :=
 RunW Tryd.prog (Builtin.len_ #[9] 3 #[a0]) w fun t9_1 =>
 RunA Tryd.prog (bin .rem 3 (.tmp 9) (.const (.int .i64 2)) t9_1 (.int .i64 2)) fun t10_2 =>
 RunW Tryd.prog (bin .neq 3 (.tmp 10) (.const (.int .i64 0)) t10_2 (.int .i64 0)) w fun t11_3 =>
 IfB t11_3 (
 R (.tuple #[(.slice none 0 0), (.bool false)]) w) (
 lp 2 (fun n_6 t4_4 t5_5 w =>
 RunW Tryd.prog (Builtin.len_ #[9] 3 #[a0]) w fun t14_7 =>
 RunA Tryd.prog (bin .lss 3 (.tmp 12) (.tmp 14) t5_5 t14_7) fun t15_8 =>
 IfB t15_8 (
 drw (fun S_9 w =>
 RunA Tryd.prog (Instr.index 9 a0 t5_5) fun t20_10 =>
 RunA Tryd.prog (bin .add 3 (.tmp 23) (.const (.int .i64 1)) t5_5 (.int .i64 1)) fun t24_11 =>
 RunA Tryd.prog (Instr.index 9 a0 t24_11) fun t25_12 =>
 CallF Tryd.prog 25 #[(.string ⟨#[48, 49, 50, 51, 52, 53, 54, 55, 56, 57, 97, 98, 99, 100, 101, 102]⟩), t20_10] w fun t21_13 w =>
 CallF Tryd.prog 25 #[(.string ⟨#[48, 49, 50, 51, 52, 53, 54, 55, 56, 57, 97, 98, 99, 100, 101, 102]⟩), t25_12] w fun t26_14 w =>
 RunA Tryd.prog (bin .lss 3 (.tmp 27) (.const (.int .i64 0)) t21_13 (.int .i64 0)) fun t28_15 =>
 IfB t28_15 (
 R (.tuple #[(.slice none 0 0), (.bool false)]) w) (
 RunA Tryd.prog (bin .lss 3 (.tmp 30) (.const (.int .i64 0)) t26_14 (.int .i64 0)) fun t31_16 =>
 IfB t31_16 (
 R (.tuple #[(.slice none 0 0), (.bool false)]) w) (
 RunA Tryd.prog (bin .shl 3 (.tmp 34) (.const (.int .u64 4)) t21_13 (.int .u64 4)) fun t35_17 =>
 RunA Tryd.prog (bin .or 3 (.tmp 35) (.tmp 36) t35_17 t26_14) fun t37_18 =>
 RunV Tryd.prog (convert 3 5 t37_18) w fun t38_19 w =>
 RunV Tryd.prog (Instr.buildSlice 25 1 #[(0, t38_19)]) w fun t39_20 w =>
 RunV Tryd.prog (Builtin.append_ #[25, 25] 25 #[t4_4, t39_20]) w fun t40_21 w =>
 RunA Tryd.prog (bin .add 3 (.tmp 16) (.const (.int .i64 2)) t5_5 (.int .i64 2)) fun t17_22 =>
 (a0 : Value) = a0 ∧ (n_6 t40_21 t17_22 w)))) w) (
 R (.tuple #[t4_4, (.bool true)]) w)) [(.slice none 0 0), (.int .i64 0)] w)
theorem sh18_calls {a0 : Value} {w : World} {R : Value → World → Prop} (h : sh18 a0 w R) : CallF Tryd.prog 18 #[a0] w R :=
  calls_of_denF (mk := false) (args := [a0]) (an := (.seq (.ops [0]) (.seq (.seq (.ops [0, 11]) (.cond (.seq (.ops [2, 3]) .leaf) .leaf)) (.seq (.ops [0, 4]) (.seq (.seq (.ops [0, 4, 5]) (.blk (.loop [0] [4, 5] (.seq (.seq (.ops [0, 4, 5, 15]) (.cond .leaf .leaf)) (.seq (.blk (.seq (.draw (.q 0 (.q 1 (.q 2 (.q 4 (.q 5 (.q 6 (.q 7 (.one 3 (.one 8 (.q 9 (.q 10 .fin))))))))))) [0, 4, 5, 6, 7]) (.seq (.seq (.ops [0, 4, 5, 6, 7, 32]) (.cond (.seq (.ops [2, 3]) .leaf) .leaf)) (.ops [0, 4, 5])))) (.ops [0, 4, 5])))))) (.seq (.ops [2, 3]) .leaf)))))) (c := Tryd.f18.body.getD .skip) hent Tryd.func18 rfl (Nat.le_of_ble_eq_true (by kernel_rfl))
    (Eq.mp (show sh18 a0 w R = denF Tryd.prog ent false Tryd.f18 (.seq (.ops [0]) (.seq (.seq (.ops [0, 11]) (.cond (.seq (.ops [2, 3]) .leaf) .leaf)) (.seq (.ops [0, 4]) (.seq (.seq (.ops [0, 4, 5]) (.blk (.loop [0] [4, 5] (.seq (.seq (.ops [0, 4, 5, 15]) (.cond .leaf .leaf)) (.seq (.blk (.seq (.draw (.q 0 (.q 1 (.q 2 (.q 4 (.q 5 (.q 6 (.q 7 (.one 3 (.one 8 (.q 9 (.q 10 .fin))))))))))) [0, 4, 5, 6, 7]) (.seq (.seq (.ops [0, 4, 5, 6, 7, 32]) (.cond (.seq (.ops [2, 3]) .leaf) .leaf)) (.ops [0, 4, 5])))) (.ops [0, 4, 5])))))) (.seq (.ops [2, 3]) .leaf))))) (Tryd.f18.body.getD .skip) [a0] w R by kernel_rfl) h)

/-! ### 19: handbill/hblref1.Unhex -/
def sh19 (a0 : Value) (w : World) (R : Value → World → Prop) : Prop :=
 lp 2 (fun n_3 t4_1 t5_2 w =>
 RunA Tryd.prog (bin .add 3 (.tmp 8) (.const (.int .i64 1)) t5_2 (.int .i64 1)) fun t9_4 =>
 RunW Tryd.prog (Builtin.len_ #[9] 3 #[a0]) w fun t11_5 =>
 RunA Tryd.prog (bin .lss 3 (.tmp 9) (.tmp 11) t9_4 t11_5) fun t12_6 =>
 IfB t12_6 (
 drw (fun S_7 w =>
 RunA Tryd.prog (Instr.index 9 a0 t5_2) fun t17_8 =>
 RunA Tryd.prog (bin .add 3 (.tmp 20) (.const (.int .i64 1)) t5_2 (.int .i64 1)) fun t21_9 =>
 RunA Tryd.prog (Instr.index 9 a0 t21_9) fun t22_10 =>
 CallF Tryd.prog 26 #[t17_8] w fun t18_11 w =>
 CallF Tryd.prog 26 #[t22_10] w fun t23_12 w =>
 RunA Tryd.prog (bin .lss 3 (.tmp 24) (.const (.int .i64 0)) t18_11 (.int .i64 0)) fun t25_13 =>
 IfB t25_13 (
 R (.tuple #[(.slice none 0 0), (.bool false)]) w) (
 RunA Tryd.prog (bin .lss 3 (.tmp 27) (.const (.int .i64 0)) t23_12 (.int .i64 0)) fun t28_14 =>
 IfB t28_14 (
 R (.tuple #[(.slice none 0 0), (.bool false)]) w) (
 RunA Tryd.prog (bin .shl 3 (.tmp 31) (.const (.int .u64 4)) t18_11 (.int .u64 4)) fun t32_15 =>
 RunA Tryd.prog (bin .or 3 (.tmp 32) (.tmp 33) t32_15 t23_12) fun t34_16 =>
 RunV Tryd.prog (convert 3 5 t34_16) w fun t35_17 w =>
 RunV Tryd.prog (Instr.buildSlice 25 1 #[(0, t35_17)]) w fun t36_18 w =>
 RunV Tryd.prog (Builtin.append_ #[25, 25] 25 #[t4_1, t36_18]) w fun t37_19 w =>
 RunA Tryd.prog (bin .add 3 (.tmp 13) (.const (.int .i64 2)) t5_2 (.int .i64 2)) fun t14_20 =>
 (a0 : Value) = a0 ∧ (n_3 t37_19 t14_20 w)))) w) (
 CallF Tryd.prog 21 #[t4_1] w fun t39_21 w =>
 RunW Tryd.prog (bin .neq 9 (.tmp 39) (.tmp 40) t39_21 a0) w fun t41_22 =>
 IfB t41_22 (
 R (.tuple #[(.slice none 0 0), (.bool false)]) w) (
 R (.tuple #[t4_1, (.bool true)]) w))) [(.slice none 0 0), (.int .i64 0)] w
theorem sh19_calls {a0 : Value} {w : World} {R : Value → World → Prop} (h : sh19 a0 w R) : CallF Tryd.prog 19 #[a0] w R :=
  calls_of_denF (mk := false) (args := [a0]) (an := (.seq (.ops [0]) (.seq (.ops [0, 4]) (.seq (.seq (.ops [0, 4, 5]) (.blk (.loop [0] [4, 5] (.seq (.seq (.ops [0, 4, 5, 12]) (.cond .leaf .leaf)) (.seq (.blk (.seq (.draw (.q 0 (.q 1 (.q 2 (.q 4 (.q 5 (.q 6 (.q 7 (.one 3 (.one 8 (.q 9 (.q 10 .fin))))))))))) [0, 4, 5, 6, 7]) (.seq (.seq (.ops [0, 4, 5, 6, 7, 29]) (.cond (.seq (.ops [2, 3]) .leaf) .leaf)) (.ops [0, 4, 5])))) (.ops [0, 4, 5])))))) (.seq (.seq (.ops [4, 41]) (.cond (.seq (.ops [2, 3]) .leaf) .leaf)) (.seq (.ops [2, 3]) .leaf)))))) (c := Tryd.f19.body.getD .skip) hent Tryd.func19 rfl (Nat.le_of_ble_eq_true (by kernel_rfl))
    (Eq.mp (show sh19 a0 w R = denF Tryd.prog ent false Tryd.f19 (.seq (.ops [0]) (.seq (.ops [0, 4]) (.seq (.seq (.ops [0, 4, 5]) (.blk (.loop [0] [4, 5] (.seq (.seq (.ops [0, 4, 5, 12]) (.cond .leaf .leaf)) (.seq (.blk (.seq (.draw (.q 0 (.q 1 (.q 2 (.q 4 (.q 5 (.q 6 (.q 7 (.one 3 (.one 8 (.q 9 (.q 10 .fin))))))))))) [0, 4, 5, 6, 7]) (.seq (.seq (.ops [0, 4, 5, 6, 7, 29]) (.cond (.seq (.ops [2, 3]) .leaf) .leaf)) (.ops [0, 4, 5])))) (.ops [0, 4, 5])))))) (.seq (.seq (.ops [4, 41]) (.cond (.seq (.ops [2, 3]) .leaf) .leaf)) (.seq (.ops [2, 3]) .leaf))))) (Tryd.f19.body.getD .skip) [a0] w R by kernel_rfl) h)

/-! ### 20: handbill/num.Hex -/
def sh20 (a0 : Value) (w : World) (R : Value → World → Prop) : Prop :=
 RunV Tryd.prog (Instr.alloc 53 true (.tuple #[])) w fun t3_1 w =>
 RunW Tryd.prog (Builtin.len_ #[25] 3 #[a0]) w fun t7_2 =>
 lp 1 (fun n_4 t8_3 w =>
 RunA Tryd.prog (bin .lss 3 (.tmp 8) (.tmp 7) t8_3 t7_2) fun t9_5 =>
 IfB t9_5 (
 RunA Tryd.prog (Instr.indexAt 25 a0 t8_3) fun t10_6 =>
 RunW Tryd.prog (Instr.loadAt 5 t10_6) w fun t11_7 =>
 RunA Tryd.prog (bin .shr 5 (.tmp 12) (.const (.int .u64 4)) t11_7 (.int .u64 4)) fun t13_8 =>
 RunA Tryd.prog (Instr.index 9 (.string ⟨#[48, 49, 50, 51, 52, 53, 54, 55, 56, 57, 97, 98, 99, 100, 101, 102]⟩) t13_8) fun t14_9 =>
 CallF Tryd.prog 27 #[t3_1, t14_9] w fun t15_10 w =>
 RunA Tryd.prog (bin .and 5 (.tmp 16) (.const (.int .u8 15)) t11_7 (.int .u8 15)) fun t17_11 =>
 RunA Tryd.prog (Instr.index 9 (.string ⟨#[48, 49, 50, 51, 52, 53, 54, 55, 56, 57, 97, 98, 99, 100, 101, 102]⟩) t17_11) fun t18_12 =>
 CallF Tryd.prog 27 #[t3_1, t18_12] w fun t19_13 w =>
 RunA Tryd.prog (bin .add 3 (.tmp 8) (.const (.int .i64 1)) t8_3 (.int .i64 1)) fun t20_14 =>
 (t3_1 : Value) = t3_1 ∧ ((a0 : Value) = a0 ∧ ((t7_2 : Value) = t7_2 ∧ (n_4 t20_14 w)))) (
 CallF Tryd.prog 28 #[t3_1] w fun t21_15 w =>
 R t21_15 w)) [(.int .i64 0)] w
theorem sh20_calls {a0 : Value} {w : World} {R : Value → World → Prop} (h : sh20 a0 w R) : CallF Tryd.prog 20 #[a0] w R :=
  calls_of_denF (mk := false) (args := [a0]) (an := (.seq (.ops [0]) (.seq (.ops [0, 3]) (.seq (.seq (.ops [3, 6, 7, 8]) (.blk (.loop [3, 6, 7] [8] (.seq (.ops [3, 6, 7, 8, 9]) (.seq (.cond .leaf .leaf) (.seq (.blk (.seq (.ops [3, 5, 6, 7, 8]) (.seq (.ops [3, 5, 6, 7, 8]) (.ops [3, 6, 7, 8])))) (.ops [3, 6, 7, 8]))))))) (.seq (.ops [2]) .leaf))))) (c := Tryd.f20.body.getD .skip) hent Tryd.func20 rfl (Nat.le_of_ble_eq_true (by kernel_rfl))
    (Eq.mp (show sh20 a0 w R = denF Tryd.prog ent false Tryd.f20 (.seq (.ops [0]) (.seq (.ops [0, 3]) (.seq (.seq (.ops [3, 6, 7, 8]) (.blk (.loop [3, 6, 7] [8] (.seq (.ops [3, 6, 7, 8, 9]) (.seq (.cond .leaf .leaf) (.seq (.blk (.seq (.ops [3, 5, 6, 7, 8]) (.seq (.ops [3, 5, 6, 7, 8]) (.ops [3, 6, 7, 8])))) (.ops [3, 6, 7, 8]))))))) (.seq (.ops [2]) .leaf)))) (Tryd.f20.body.getD .skip) [a0] w R by kernel_rfl) h)

/-! ### 21: handbill/hblref1.Hex -/
def sh21 (a0 : Value) (w : World) (R : Value → World → Prop) : Prop :=
 lp 2 (fun n_3 t4_1 t5_2 w =>
 RunW Tryd.prog (Builtin.len_ #[25] 3 #[a0]) w fun t8_4 =>
 RunA Tryd.prog (bin .lss 3 (.tmp 6) (.tmp 8) t5_2 t8_4) fun t9_5 =>
 IfB t9_5 (
 drw (fun S_6 w =>
 RunA Tryd.prog (Instr.indexAt 25 a0 t5_2) fun t16_7 =>
 RunS Tryd.prog S_6 (Instr.loadAt 5 t16_7) fun t17_8 =>
 RunA Tryd.prog (bin .shr 5 (.tmp 17) (.const (.int .u64 4)) t17_8 (.int .u64 4)) fun t18_9 =>
 RunA Tryd.prog (Instr.index 9 (.string ⟨#[48, 49, 50, 51, 52, 53, 54, 55, 56, 57, 97, 98, 99, 100, 101, 102]⟩) t18_9) fun t19_10 =>
 RunA Tryd.prog (Instr.indexAt 25 a0 t5_2) fun t23_11 =>
 RunS Tryd.prog S_6 (Instr.loadAt 5 t23_11) fun t24_12 =>
 RunA Tryd.prog (bin .and 5 (.tmp 24) (.const (.int .u8 15)) t24_12 (.int .u8 15)) fun t25_13 =>
 RunA Tryd.prog (Instr.index 9 (.string ⟨#[48, 49, 50, 51, 52, 53, 54, 55, 56, 57, 97, 98, 99, 100, 101, 102]⟩) t25_13) fun t26_14 =>
 RunV Tryd.prog (Instr.buildSlice 25 2 #[(0, t19_10), (1, t26_14)]) w fun t27_15 w =>
 RunV Tryd.prog (Builtin.append_ #[25, 25] 25 #[t4_1, t27_15]) w fun t28_16 w =>
 RunA Tryd.prog (bin .add 3 (.tmp 10) (.const (.int .i64 1)) t5_2 (.int .i64 1)) fun t11_17 =>
 (a0 : Value) = a0 ∧ (((.string ⟨#[48, 49, 50, 51, 52, 53, 54, 55, 56, 57, 97, 98, 99, 100, 101, 102]⟩) : Value) = (.string ⟨#[48, 49, 50, 51, 52, 53, 54, 55, 56, 57, 97, 98, 99, 100, 101, 102]⟩) ∧ (n_3 t28_16 t11_17 w))) w) (
 RunV Tryd.prog (convert 25 9 t4_1) w fun t30_18 w =>
 R t30_18 w)) [(.slice none 0 0), (.int .i64 0)] w
theorem sh21_calls {a0 : Value} {w : World} {R : Value → World → Prop} (h : sh21 a0 w R) : CallF Tryd.prog 21 #[a0] w R :=
  calls_of_denF (mk := false) (args := [a0]) (an := (.seq (.ops [0]) (.seq (.ops [0, 3]) (.seq (.ops [0, 3, 4]) (.seq (.seq (.ops [0, 3, 4, 5]) (.blk (.loop [0, 3] [4, 5] (.seq (.seq (.ops [0, 3, 4, 5, 9]) (.cond .leaf .leaf)) (.seq (.blk (.draw (.q 0 (.q 1 (.q 2 (.q 3 (.q 4 (.q 5 (.q 6 (.q 7 (.q 8 (.q 9 (.q 10 (.q 11 (.q 12 (.q 13 (.q 14 (.one 15 (.one 16 (.q 17 .fin)))))))))))))))))) [0, 3, 4, 5])) (.ops [0, 3, 4, 5])))))) (.seq (.ops [2]) .leaf)))))) (c := Tryd.f21.body.getD .skip) hent Tryd.func21 rfl (Nat.le_of_ble_eq_true (by kernel_rfl))
    (Eq.mp (show sh21 a0 w R = denF Tryd.prog ent false Tryd.f21 (.seq (.ops [0]) (.seq (.ops [0, 3]) (.seq (.ops [0, 3, 4]) (.seq (.seq (.ops [0, 3, 4, 5]) (.blk (.loop [0, 3] [4, 5] (.seq (.seq (.ops [0, 3, 4, 5, 9]) (.cond .leaf .leaf)) (.seq (.blk (.draw (.q 0 (.q 1 (.q 2 (.q 3 (.q 4 (.q 5 (.q 6 (.q 7 (.q 8 (.q 9 (.q 10 (.q 11 (.q 12 (.q 13 (.q 14 (.one 15 (.one 16 (.q 17 .fin)))))))))))))))))) [0, 3, 4, 5])) (.ops [0, 3, 4, 5])))))) (.seq (.ops [2]) .leaf))))) (Tryd.f21.body.getD .skip) [a0] w R by kernel_rfl) h)

/-! ### 22: handbill/hblref1.Crc -/
def sh22 (a0 : Value) (w : World) (R : Value → World → Prop) : Prop :=
 lp 2 (fun n_3 t3_1 t4_2 w =>
 RunW Tryd.prog (Builtin.len_ #[25] 3 #[a0]) w fun t8_4 =>
 RunA Tryd.prog (bin .lss 3 (.tmp 6) (.tmp 8) t4_2 t8_4) fun t9_5 =>
 IfB t9_5 (
 RunA Tryd.prog (Instr.indexAt 25 a0 t4_2) fun t15_6 =>
 RunW Tryd.prog (Instr.loadAt 5 t15_6) w fun t16_7 =>
 RunV Tryd.prog (convert 5 37 t16_7) w fun t17_8 w =>
 RunA Tryd.prog (bin .xor 37 (.tmp 12) (.tmp 17) t3_1 t17_8) fun t18_9 =>
 lp 2 (fun n_12 t3_10 t5_11 w =>
 RunA Tryd.prog (bin .lss 3 (.tmp 19) (.const (.int .i64 8)) t5_11 (.int .i64 8)) fun t20_13 =>
 IfB t20_13 (
 jn 4 (fun t0_14 t3_15 t4_16 t5_17 w =>
 RunA Tryd.prog (bin .add 3 (.tmp 21) (.const (.int .i64 1)) t5_17 (.int .i64 1)) fun t22_19 =>
 (t0_14 : Value) = a0 ∧ ((t4_16 : Value) = t4_2 ∧ (n_12 t3_15 t22_19 w))) fun j_18 =>
 RunA Tryd.prog (bin .and 37 (.tmp 23) (.const (.int .u32 1)) t3_10 (.int .u32 1)) fun t24_20 =>
 RunW Tryd.prog (bin .eql 37 (.tmp 24) (.const (.int .u32 1)) t24_20 (.int .u32 1)) w fun t25_21 =>
 IfB t25_21 (
 RunA Tryd.prog (bin .shr 37 (.tmp 26) (.const (.int .u64 1)) t3_10 (.int .u64 1)) fun t27_22 =>
 RunA Tryd.prog (bin .xor 37 (.tmp 27) (.const (.int .u32 3988292384)) t27_22 (.int .u32 3988292384)) fun t28_23 =>
 j_18 a0 t28_23 t4_2 t5_11 w) (
 RunA Tryd.prog (bin .shr 37 (.tmp 29) (.const (.int .u64 1)) t3_10 (.int .u64 1)) fun t30_24 =>
 j_18 a0 t30_24 t4_2 t5_11 w)) (
 RunA Tryd.prog (bin .add 3 (.tmp 10) (.const (.int .i64 1)) t4_2 (.int .i64 1)) fun t11_25 =>
 (a0 : Value) = a0 ∧ (n_3 t3_10 t11_25 w))) [t18_9, (.int .i64 0)] w) (
 RunA Tryd.prog (Op.unary .xor t3_1) fun t32_26 =>
 R t32_26 w)) [(.int .u32 4294967295), (.int .i64 0)] w
theorem sh22_calls {a0 : Value} {w : World} {R : Value → World → Prop} (h : sh22 a0 w R) : CallF Tryd.prog 22 #[a0] w R :=
  calls_of_denF (mk := false) (args := [a0]) (an := (.seq (.ops [0]) (.seq (.ops [0, 3]) (.seq (.seq (.ops [0, 3, 4]) (.blk (.loop [0] [3, 4] (.seq (.seq (.ops [0, 3, 4, 9]) (.cond .leaf .leaf)) (.seq (.blk (.seq (.ops [0, 3, 4]) (.seq (.ops [0, 3, 4, 5]) (.blk (.loop [0, 4] [3, 5] (.seq (.seq (.ops [0, 3, 4, 5, 20]) (.cond .leaf .leaf)) (.seq (.blk (.join [0, 3, 4, 5] (.seq (.ops [0, 3, 4, 5, 25]) (.cond (.ops [0, 3, 4, 5]) (.ops [0, 3, 4, 5]))))) (.ops [0, 3, 4, 5])))))))) (.ops [0, 3, 4])))))) (.seq (.ops [2]) .leaf))))) (c := Tryd.f22.body.getD .skip) hent Tryd.func22 rfl (Nat.le_of_ble_eq_true (by kernel_rfl))
    (Eq.mp (show sh22 a0 w R = denF Tryd.prog ent false Tryd.f22 (.seq (.ops [0]) (.seq (.ops [0, 3]) (.seq (.seq (.ops [0, 3, 4]) (.blk (.loop [0] [3, 4] (.seq (.seq (.ops [0, 3, 4, 9]) (.cond .leaf .leaf)) (.seq (.blk (.seq (.ops [0, 3, 4]) (.seq (.ops [0, 3, 4, 5]) (.blk (.loop [0, 4] [3, 5] (.seq (.seq (.ops [0, 3, 4, 5, 20]) (.cond .leaf .leaf)) (.seq (.blk (.join [0, 3, 4, 5] (.seq (.ops [0, 3, 4, 5, 25]) (.cond (.ops [0, 3, 4, 5]) (.ops [0, 3, 4, 5]))))) (.ops [0, 3, 4, 5])))))))) (.ops [0, 3, 4])))))) (.seq (.ops [2]) .leaf)))) (Tryd.f22.body.getD .skip) [a0] w R by kernel_rfl) h)

/-! ### 25: strings.IndexByte -/
def sh25 (a0 a1 : Value) (w : World) (R : Value → World → Prop) : Prop :=
 CallF Tryd.prog 35 #[a0, a1] w fun t7_1 w =>
 R t7_1 w
theorem sh25_calls {a0 a1 : Value} {w : World} {R : Value → World → Prop} (h : sh25 a0 a1 w R) : CallF Tryd.prog 25 #[a0, a1] w R :=
  calls_of_denF (mk := false) (args := [a0, a1]) (an := (.seq (.ops [0, 1]) (.seq (.ops [4]) .leaf))) (c := Tryd.f25.body.getD .skip) hent Tryd.func25 rfl (Nat.le_of_ble_eq_true (by kernel_rfl))
    (Eq.mp (show sh25 a0 a1 w R = denF Tryd.prog ent false Tryd.f25 (.seq (.ops [0, 1]) (.seq (.ops [4]) .leaf)) (Tryd.f25.body.getD .skip) [a0, a1] w R by kernel_rfl) h)

/-! ### 26: handbill/hblref1.Digit -/
def sh26 (a0 : Value) (w : World) (R : Value → World → Prop) : Prop :=
 jn 0 (fun w =>
 R (.int .i64 (-1)) w) fun j_1 =>
 RunA Tryd.prog (bin .geq 5 (.tmp 4) (.const (.int .u8 48)) a0 (.int .u8 48)) fun t5_2 =>
 IfB t5_2 (
 RunA Tryd.prog (bin .leq 5 (.tmp 7) (.const (.int .u8 57)) a0 (.int .u8 57)) fun t8_3 =>
 IfB t8_3 (
 RunA Tryd.prog (bin .sub 5 (.tmp 10) (.const (.int .u8 48)) a0 (.int .u8 48)) fun t11_4 =>
 RunV Tryd.prog (convert 5 3 t11_4) w fun t12_5 w =>
 R t12_5 w) (
 jn 0 (fun w =>
 j_1 w) fun j_6 =>
 RunA Tryd.prog (bin .geq 5 (.tmp 14) (.const (.int .u8 97)) a0 (.int .u8 97)) fun t15_7 =>
 IfB t15_7 (
 RunA Tryd.prog (bin .leq 5 (.tmp 17) (.const (.int .u8 102)) a0 (.int .u8 102)) fun t18_8 =>
 IfB t18_8 (
 RunA Tryd.prog (bin .sub 5 (.tmp 20) (.const (.int .u8 97)) a0 (.int .u8 97)) fun t21_9 =>
 RunV Tryd.prog (convert 5 3 t21_9) w fun t22_10 w =>
 RunA Tryd.prog (bin .add 3 (.tmp 22) (.const (.int .i64 10)) t22_10 (.int .i64 10)) fun t23_11 =>
 R t23_11 w) (
 jn 0 (fun w =>
 j_6 w) fun j_12 =>
 RunA Tryd.prog (bin .geq 5 (.tmp 25) (.const (.int .u8 65)) a0 (.int .u8 65)) fun t26_13 =>
 IfB t26_13 (
 RunA Tryd.prog (bin .leq 5 (.tmp 28) (.const (.int .u8 70)) a0 (.int .u8 70)) fun t29_14 =>
 IfB t29_14 (
 RunA Tryd.prog (bin .sub 5 (.tmp 31) (.const (.int .u8 65)) a0 (.int .u8 65)) fun t32_15 =>
 RunV Tryd.prog (convert 5 3 t32_15) w fun t33_16 w =>
 RunA Tryd.prog (bin .add 3 (.tmp 33) (.const (.int .i64 10)) t33_16 (.int .i64 10)) fun t34_17 =>
 R t34_17 w) (
 j_12 w)) (
 j_12 w))) (
 jn 0 (fun w =>
 j_6 w) fun j_18 =>
 RunA Tryd.prog (bin .geq 5 (.tmp 25) (.const (.int .u8 65)) a0 (.int .u8 65)) fun t26_19 =>
 IfB t26_19 (
 RunA Tryd.prog (bin .leq 5 (.tmp 28) (.const (.int .u8 70)) a0 (.int .u8 70)) fun t29_20 =>
 IfB t29_20 (
 RunA Tryd.prog (bin .sub 5 (.tmp 31) (.const (.int .u8 65)) a0 (.int .u8 65)) fun t32_21 =>
 RunV Tryd.prog (convert 5 3 t32_21) w fun t33_22 w =>
 RunA Tryd.prog (bin .add 3 (.tmp 33) (.const (.int .i64 10)) t33_22 (.int .i64 10)) fun t34_23 =>
 R t34_23 w) (
 j_18 w)) (
 j_18 w)))) (
 jn 0 (fun w =>
 j_1 w) fun j_24 =>
 RunA Tryd.prog (bin .geq 5 (.tmp 14) (.const (.int .u8 97)) a0 (.int .u8 97)) fun t15_25 =>
 IfB t15_25 (
 RunA Tryd.prog (bin .leq 5 (.tmp 17) (.const (.int .u8 102)) a0 (.int .u8 102)) fun t18_26 =>
 IfB t18_26 (
 RunA Tryd.prog (bin .sub 5 (.tmp 20) (.const (.int .u8 97)) a0 (.int .u8 97)) fun t21_27 =>
 RunV Tryd.prog (convert 5 3 t21_27) w fun t22_28 w =>
 RunA Tryd.prog (bin .add 3 (.tmp 22) (.const (.int .i64 10)) t22_28 (.int .i64 10)) fun t23_29 =>
 R t23_29 w) (
 jn 0 (fun w =>
 j_24 w) fun j_30 =>
 RunA Tryd.prog (bin .geq 5 (.tmp 25) (.const (.int .u8 65)) a0 (.int .u8 65)) fun t26_31 =>
 IfB t26_31 (
 RunA Tryd.prog (bin .leq 5 (.tmp 28) (.const (.int .u8 70)) a0 (.int .u8 70)) fun t29_32 =>
 IfB t29_32 (
 RunA Tryd.prog (bin .sub 5 (.tmp 31) (.const (.int .u8 65)) a0 (.int .u8 65)) fun t32_33 =>
 RunV Tryd.prog (convert 5 3 t32_33) w fun t33_34 w =>
 RunA Tryd.prog (bin .add 3 (.tmp 33) (.const (.int .i64 10)) t33_34 (.int .i64 10)) fun t34_35 =>
 R t34_35 w) (
 j_30 w)) (
 j_30 w))) (
 jn 0 (fun w =>
 j_24 w) fun j_36 =>
 RunA Tryd.prog (bin .geq 5 (.tmp 25) (.const (.int .u8 65)) a0 (.int .u8 65)) fun t26_37 =>
 IfB t26_37 (
 RunA Tryd.prog (bin .leq 5 (.tmp 28) (.const (.int .u8 70)) a0 (.int .u8 70)) fun t29_38 =>
 IfB t29_38 (
 RunA Tryd.prog (bin .sub 5 (.tmp 31) (.const (.int .u8 65)) a0 (.int .u8 65)) fun t32_39 =>
 RunV Tryd.prog (convert 5 3 t32_39) w fun t33_40 w =>
 RunA Tryd.prog (bin .add 3 (.tmp 33) (.const (.int .i64 10)) t33_40 (.int .i64 10)) fun t34_41 =>
 R t34_41 w) (
 j_36 w)) (
 j_36 w)))
theorem sh26_calls {a0 : Value} {w : World} {R : Value → World → Prop} (h : sh26 a0 w R) : CallF Tryd.prog 26 #[a0] w R :=
  calls_of_denF (mk := false) (args := [a0]) (an := (.seq (.ops [0]) (.seq (.blk (.join [] (.seq (.ops [0, 3]) (.cond (.seq (.ops [2]) .leaf) (.join [] (.seq (.ops [0, 13]) (.cond (.seq (.ops [2]) .leaf) (.join [] (.seq (.ops [0, 24]) (.cond (.seq (.ops [2]) .leaf) .leaf)))))))))) (.seq (.ops [2]) .leaf)))) (c := Tryd.f26.body.getD .skip) hent Tryd.func26 rfl (Nat.le_of_ble_eq_true (by kernel_rfl))
    (Eq.mp (show sh26 a0 w R = denF Tryd.prog ent false Tryd.f26 (.seq (.ops [0]) (.seq (.blk (.join [] (.seq (.ops [0, 3]) (.cond (.seq (.ops [2]) .leaf) (.join [] (.seq (.ops [0, 13]) (.cond (.seq (.ops [2]) .leaf) (.join [] (.seq (.ops [0, 24]) (.cond (.seq (.ops [2]) .leaf) .leaf)))))))))) (.seq (.ops [2]) .leaf))) (Tryd.f26.body.getD .skip) [a0] w R by kernel_rfl) h)

/-! ### 27: (*strings.Builder).WriteByte -/
def sh27 (a0 a1 : Value) (w : World) (R : Value → World → Prop) : Prop :=
 CallF Tryd.prog 36 #[a0] w fun t6_1 w =>
 RunA Tryd.prog (nilV a0) fun t9_2 =>
 RunA Tryd.prog (Instr.fieldAt 53 t9_2 1) fun t10_3 =>
 RunW Tryd.prog (Instr.loadAt 25 t10_3) w fun t11_4 =>
 RunV Tryd.prog (Instr.buildSlice 25 1 #[(0, a1)]) w fun t13_5 w =>
 RunV Tryd.prog (Builtin.append_ #[25, 25] 25 #[t11_4, t13_5]) w fun t14_6 w =>
 RunA Tryd.prog (nilV a0) fun t15_7 =>
 RunA Tryd.prog (Instr.fieldAt 53 t15_7 1) fun t16_8 =>
 RunU Tryd.prog (Instr.storeAt 25 t16_8 t14_6) w fun w =>
 R (.nilIface) w
theorem sh27_calls {a0 a1 : Value} {w : World} {R : Value → World → Prop} (h : sh27 a0 a1 w R) : CallF Tryd.prog 27 #[a0, a1] w R :=
  calls_of_denF (mk := false) (args := [a0, a1]) (an := (.seq (.ops [0, 1]) (.seq (.ops [0, 1]) (.seq (.ops []) (.seq (.ops [4]) .leaf))))) (c := Tryd.f27.body.getD .skip) hent Tryd.func27 rfl (Nat.le_of_ble_eq_true (by kernel_rfl))
    (Eq.mp (show sh27 a0 a1 w R = denF Tryd.prog ent false Tryd.f27 (.seq (.ops [0, 1]) (.seq (.ops [0, 1]) (.seq (.ops []) (.seq (.ops [4]) .leaf)))) (Tryd.f27.body.getD .skip) [a0, a1] w R by kernel_rfl) h)

/-! ### 28: (*strings.Builder).String -/
def sh28 (a0 : Value) (w : World) (R : Value → World → Prop) : Prop :=
 drw (fun S_1 w =>
 RunA Tryd.prog (nilV a0) fun t4_2 =>
 RunA Tryd.prog (Instr.fieldAt 53 t4_2 1) fun t5_3 =>
 RunS Tryd.prog S_1 (Instr.loadAt 25 t5_3) fun t6_4 =>
 RunA Tryd.prog (nilV a0) fun t9_5 =>
 RunA Tryd.prog (Instr.fieldAt 53 t9_5 1) fun t10_6 =>
 RunS Tryd.prog S_1 (Instr.loadAt 25 t10_6) fun t11_7 =>
 RunS Tryd.prog S_1 (Builtin.len_ #[25] 3 #[t11_7]) fun t12_8 =>
 RunV Tryd.prog (Builtin.unsafeSliceData_ #[25] 65 #[t6_4]) w fun t7_9 w =>
 S_1 w ∧ (
 RunV Tryd.prog (Builtin.unsafeString_ #[65, 3] 9 #[t7_9, t12_8]) w fun t13_10 w =>
 R t13_10 w)) w
theorem sh28_calls {a0 : Value} {w : World} {R : Value → World → Prop} (h : sh28 a0 w R) : CallF Tryd.prog 28 #[a0] w R :=
  calls_of_denF (mk := false) (args := [a0]) (an := (.seq (.ops [0]) (.seq (.draw (.q 0 (.q 1 (.q 2 (.q 3 (.q 5 (.q 6 (.q 7 (.q 8 (.q 9 (.one 4 (.one 10 (.q 11 .fin)))))))))))) [2]) .leaf))) (c := Tryd.f28.body.getD .skip) hent Tryd.func28 rfl (Nat.le_of_ble_eq_true (by kernel_rfl))
    (Eq.mp (show sh28 a0 w R = denF Tryd.prog ent false Tryd.f28 (.seq (.ops [0]) (.seq (.draw (.q 0 (.q 1 (.q 2 (.q 3 (.q 5 (.q 6 (.q 7 (.q 8 (.q 9 (.one 4 (.one 10 (.q 11 .fin)))))))))))) [2]) .leaf)) (Tryd.f28.body.getD .skip) [a0] w R by kernel_rfl) h)

/-! ### 35: internal/stringslite.IndexByte -/
def sh35 (a0 a1 : Value) (w : World) (R : Value → World → Prop) : Prop :=
 RunO Tryd.prog (callFunc 42 #[a0, a1]) w fun t7_1 w =>
 R t7_1 w
theorem sh35_calls {a0 a1 : Value} {w : World} {R : Value → World → Prop} (h : sh35 a0 a1 w R) : CallF Tryd.prog 35 #[a0, a1] w R :=
  calls_of_denF (mk := false) (args := [a0, a1]) (an := (.seq (.ops [0, 1]) (.seq (.ops [4]) .leaf))) (c := Tryd.f35.body.getD .skip) hent Tryd.func35 rfl (Nat.le_of_ble_eq_true (by kernel_rfl))
    (Eq.mp (show sh35 a0 a1 w R = denF Tryd.prog ent false Tryd.f35 (.seq (.ops [0, 1]) (.seq (.ops [4]) .leaf)) (Tryd.f35.body.getD .skip) [a0, a1] w R by kernel_rfl) h)

/-! ### 36: (*strings.Builder).copyCheck -/
def sh36 (a0 : Value) (w : World) (R : Value → World → Prop) : Prop :=
 RunA Tryd.prog (nilV a0) fun t3_1 =>
 RunA Tryd.prog (Instr.fieldAt 53 t3_1 0) fun t4_2 =>
 RunW Tryd.prog (Instr.loadAt 51 t4_2) w fun t5_3 =>
 RunW Tryd.prog (bin .eql 51 (.tmp 5) (.const (.pointer none)) t5_3 (.pointer none)) w fun t6_4 =>
 IfB t6_4 (
 RunV Tryd.prog (convert 51 72 a0) w fun t9_5 w =>
 RunO Tryd.prog (callFunc 43 #[t9_5]) w fun t10_6 w =>
 RunV Tryd.prog (convert 72 51 t10_6) w fun t11_7 w =>
 RunA Tryd.prog (nilV a0) fun t12_8 =>
 RunA Tryd.prog (Instr.fieldAt 53 t12_8 0) fun t13_9 =>
 RunU Tryd.prog (Instr.storeAt 51 t13_9 t11_7) w fun w =>
 R (.tuple #[]) w) (
 RunA Tryd.prog (nilV a0) fun t15_10 =>
 RunA Tryd.prog (Instr.fieldAt 53 t15_10 0) fun t16_11 =>
 RunW Tryd.prog (Instr.loadAt 51 t16_11) w fun t17_12 =>
 RunW Tryd.prog (bin .neq 51 (.tmp 17) (.tmp 18) t17_12 a0) w fun t19_13 =>
 IfB t19_13 (
 False) (
 R (.tuple #[]) w))
theorem sh36_calls {a0 : Value} {w : World} {R : Value → World → Prop} (h : sh36 a0 w R) : CallF Tryd.prog 36 #[a0] w R :=
  calls_of_denF (mk := false) (args := [a0]) (an := (.seq (.ops [0, 6]) (.cond (.ops []) (.seq (.ops [19]) (.cond .leaf .leaf))))) (c := Tryd.f36.body.getD .skip) hent Tryd.func36 rfl (Nat.le_of_ble_eq_true (by kernel_rfl))
    (Eq.mp (show sh36 a0 w R = denF Tryd.prog ent false Tryd.f36 (.seq (.ops [0, 6]) (.cond (.ops []) (.seq (.ops [19]) (.cond .leaf .leaf)))) (Tryd.f36.body.getD .skip) [a0] w R by kernel_rfl) h)

end Go.Proofs.YtknbnfpdcbpoeaaDoor
