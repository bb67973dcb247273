/-
  The shallow forms of the functions, printed by a program (ez.py) out of Lean's print of the loaded functions; each is proved to imply the function's contract: the equations are the kernel's.
-/
import Derived.Test.YtdjgchofnkancaaProg
import Derived.Test.YtdjgchofnkancaaEzSound
namespace Go.Proofs.Ytdjgchofnkancaa
open Go Go.Ez
set_option linter.unusedVariables false
set_option maxRecDepth 100000
def entD : List Nat := [15, 16, 19, 21, 23, 42, 43, 44, 52, 53, 54, 55, 56, 57, 58, 59, 60, 61, 62, 63, 64, 65, 66, 84, 87, 88, 89, 90, 91, 92, 93, 94, 95, 96, 99, 111, 112, 113, 114, 117, 118, 119, 120, 121, 122, 123, 124, 125, 131, 132, 133, 135, 136, 138]
theorem hentD : ∀ g, memN g entD = true → Enters Try.prog g := enters_all (by kernel_rfl)

/-! ### 7: handbill/hbllaw21.DiffNumbers -/
def sh7 (a0 a1 : Value) (w : World) (R : Value → World → Prop) : Prop :=
 CallF Try.prog 42 #[] w fun t16_1 w =>
 RunA Try.prog (Op.unary .not t16_1) fun t17_2 =>
 IfB t17_2 (
 R (.bool false) w) (
 CallF Try.prog 15 #[] w fun t18_3 w =>
 CallF Try.prog 15 #[] w fun t19_4 w =>
 RunW Try.prog (bin .eql 24 (.tmp 20) (.const (.pointer none)) t18_3 (.pointer none)) w fun t21_5 =>
 IfB t21_5 (
 RunW Try.prog (bin .neq 24 (.tmp 36) (.const (.pointer none)) t18_3 (.pointer none)) w fun t37_6 =>
 IfB t37_6 (
 RunW Try.prog (bin .neq 24 (.tmp 39) (.const (.pointer none)) t19_4 (.pointer none)) w fun t40_7 =>
 IfB t40_7 (
 CallF Try.prog 42 #[] w fun t43_8 w =>
 R t43_8 w) (
 R (.bool false) w)) (
 R (.bool false) w)) (
 RunW Try.prog (bin .eql 24 (.tmp 23) (.const (.pointer none)) t19_4 (.pointer none)) w fun t24_9 =>
 IfB t24_9 (
 RunW Try.prog (bin .neq 24 (.tmp 36) (.const (.pointer none)) t18_3 (.pointer none)) w fun t37_10 =>
 IfB t37_10 (
 RunW Try.prog (bin .neq 24 (.tmp 39) (.const (.pointer none)) t19_4 (.pointer none)) w fun t40_11 =>
 IfB t40_11 (
 CallF Try.prog 42 #[] w fun t43_12 w =>
 R t43_12 w) (
 R (.bool false) w)) (
 R (.bool false) w)) (
 RunW Try.prog (Builtin.len_ #[22] 3 #[a0]) w fun t28_13 =>
 RunA Try.prog (bin .gtr 3 (.tmp 28) (.const (.int .i64 200)) t28_13 (.int .i64 200)) fun t29_14 =>
 IfB t29_14 (
 RunW Try.prog (bin .neq 24 (.tmp 36) (.const (.pointer none)) t18_3 (.pointer none)) w fun t37_15 =>
 IfB t37_15 (
 RunW Try.prog (bin .neq 24 (.tmp 39) (.const (.pointer none)) t19_4 (.pointer none)) w fun t40_16 =>
 IfB t40_16 (
 CallF Try.prog 42 #[] w fun t43_17 w =>
 R t43_17 w) (
 R (.bool false) w)) (
 R (.bool false) w)) (
 RunW Try.prog (Builtin.len_ #[22] 3 #[a1]) w fun t33_18 =>
 RunA Try.prog (bin .gtr 3 (.tmp 33) (.const (.int .i64 200)) t33_18 (.int .i64 200)) fun t34_19 =>
 IfB t34_19 (
 RunW Try.prog (bin .neq 24 (.tmp 36) (.const (.pointer none)) t18_3 (.pointer none)) w fun t37_20 =>
 IfB t37_20 (
 RunW Try.prog (bin .neq 24 (.tmp 39) (.const (.pointer none)) t19_4 (.pointer none)) w fun t40_21 =>
 IfB t40_21 (
 CallF Try.prog 42 #[] w fun t43_22 w =>
 R t43_22 w) (
 R (.bool false) w)) (
 R (.bool false) w)) (
 lp 1 (fun n_24 t7_23 w =>
 RunW Try.prog (Builtin.len_ #[22] 3 #[a0]) w fun t47_25 =>
 RunA Try.prog (bin .lss 3 (.tmp 45) (.tmp 47) t7_23 t47_25) fun t48_26 =>
 IfB t48_26 (
 RunA Try.prog (Instr.indexAt 22 a0 t7_23) fun t54_27 =>
 RunW Try.prog (Instr.loadAt 9 t54_27) w fun t55_28 =>
 RunA Try.prog (bin .rem 3 (.tmp 56) (.const (.int .i64 3)) t7_23 (.int .i64 3)) fun t57_29 =>
 CallF Try.prog 16 #[t18_3, t55_28, t57_29] w fun t58_30 w =>
 RunA Try.prog (bin .add 3 (.tmp 49) (.const (.int .i64 1)) t7_23 (.int .i64 1)) fun t50_31 =>
 (a0 : Value) = a0 ∧ ((a1 : Value) = a1 ∧ ((t18_3 : Value) = t18_3 ∧ ((t19_4 : Value) = t19_4 ∧ (n_24 t50_31 w))))) (
 lp 1 (fun n_33 t8_32 w =>
 RunW Try.prog (Builtin.len_ #[22] 3 #[a1]) w fun t61_34 =>
 RunA Try.prog (bin .lss 3 (.tmp 59) (.tmp 61) t8_32 t61_34) fun t62_35 =>
 IfB t62_35 (
 RunA Try.prog (Instr.indexAt 22 a1 t8_32) fun t68_36 =>
 RunW Try.prog (Instr.loadAt 9 t68_36) w fun t69_37 =>
 RunA Try.prog (bin .rem 3 (.tmp 70) (.const (.int .i64 3)) t8_32 (.int .i64 3)) fun t71_38 =>
 CallF Try.prog 16 #[t19_4, t69_37, t71_38] w fun t72_39 w =>
 RunA Try.prog (bin .add 3 (.tmp 63) (.const (.int .i64 1)) t8_32 (.int .i64 1)) fun t64_40 =>
 (a0 : Value) = a0 ∧ ((a1 : Value) = a1 ∧ ((t18_3 : Value) = t18_3 ∧ ((t19_4 : Value) = t19_4 ∧ (n_33 t64_40 w))))) (
 CallF Try.prog 43 #[a0] w fun t74_41 w =>
 RunV Try.prog (Builtin.append_ #[22, 22] 22 #[t74_41, a1]) w fun t76_42 w =>
 CallF Try.prog 21 #[t76_42] w fun t77_43 w =>
 lp 2 (fun n_46 t9_44 t11_45 w =>
 RunW Try.prog (Builtin.len_ #[22] 3 #[t77_43]) w fun t80_47 =>
 RunA Try.prog (bin .lss 3 (.tmp 78) (.tmp 80) t11_45 t80_47) fun t81_48 =>
 IfB t81_48 (
 RunA Try.prog (Instr.indexAt 22 t77_43 t11_45) fun t88_49 =>
 RunW Try.prog (Instr.loadAt 9 t88_49) w fun t89_50 =>
 CallF Try.prog 23 #[t18_3, t89_50] w fun t90_51 w =>
 RunA Try.prog (Instr.extract t90_51 0) fun t91_52 =>
 RunA Try.prog (Instr.extract t90_51 1) fun t92_53 =>
 RunA Try.prog (Instr.indexAt 22 t77_43 t11_45) fun t97_54 =>
 RunW Try.prog (Instr.loadAt 9 t97_54) w fun t98_55 =>
 CallF Try.prog 23 #[t19_4, t98_55] w fun t99_56 w =>
 RunA Try.prog (Instr.extract t99_56 0) fun t100_57 =>
 RunA Try.prog (Instr.extract t99_56 1) fun t101_58 =>
 jn 5 (fun t5_59 t6_60 t9_61 t10_62 t11_63 w =>
 RunA Try.prog (bin .add 3 (.tmp 82) (.const (.int .i64 1)) t11_63 (.int .i64 1)) fun t83_65 =>
 (t5_59 : Value) = t18_3 ∧ ((t6_60 : Value) = t19_4 ∧ ((t10_62 : Value) = t77_43 ∧ (n_46 t9_61 t83_65 w)))) fun j_64 =>
 RunW Try.prog (bin .neq 4 (.tmp 102) (.tmp 103) t92_53 t101_58) w fun t104_66 =>
 IfB t104_66 (
 RunA Try.prog (bin .add 3 (.tmp 110) (.const (.int .i64 1)) t9_44 (.int .i64 1)) fun t111_67 =>
 j_64 t18_3 t19_4 t111_67 t77_43 t11_45 w) (
 RunW Try.prog (bin .neq 3 (.tmp 106) (.tmp 107) t91_52 t100_57) w fun t108_68 =>
 IfB t108_68 (
 RunA Try.prog (bin .add 3 (.tmp 110) (.const (.int .i64 1)) t9_44 (.int .i64 1)) fun t111_69 =>
 j_64 t18_3 t19_4 t111_69 t77_43 t11_45 w) (
 j_64 t18_3 t19_4 t9_44 t77_43 t11_45 w))) (
 CallF Try.prog 42 #[] w fun t112_70 w =>
 IfB t112_70 (
 CallF Try.prog 44 #[t18_3, t19_4] w fun t116_71 w =>
 RunW Try.prog (bin .eql 3 (.tmp 116) (.tmp 117) t116_71 t9_44) w fun t118_72 =>
 IfB t118_72 (
 CallF Try.prog 44 #[t19_4, t18_3] w fun t123_73 w =>
 RunW Try.prog (bin .eql 3 (.tmp 123) (.tmp 124) t123_73 t9_44) w fun t125_74 =>
 R t125_74 w) (
 R (.bool false) w)) (
 R (.bool false) w))) [(.int .i64 0), (.int .i64 0)] w)) [(.int .i64 0)] w)) [(.int .i64 0)] w)))))
theorem sh7_calls {a0 a1 : Value} {w : World} {R : Value → World → Prop} (h : sh7 a0 a1 w R) : CallF Try.prog 7 #[a0, a1] w R :=
  calls_of_denF (mk := false) (args := [a0, a1]) (an := (.seq (.ops [0, 1]) (.seq (.seq (.ops [0, 1, 17]) (.cond (.seq (.ops [4]) .leaf) .leaf)) (.seq (.ops [0, 1, 5, 6]) (.seq (.seq (.ops [0, 1, 5, 6, 35]) (.cond (.seq (.ops [4]) .leaf) .leaf)) (.seq (.seq (.ops [0, 1, 5, 6, 7]) (.blk (.loop [0, 1, 5, 6] [7] (.seq (.seq (.ops [0, 1, 5, 6, 7, 48]) (.cond .leaf .leaf)) (.seq (.blk (.ops [0, 1, 5, 6, 7])) (.ops [0, 1, 5, 6, 7])))))) (.seq (.seq (.ops [0, 1, 5, 6, 8]) (.blk (.loop [0, 1, 5, 6] [8] (.seq (.seq (.ops [0, 1, 5, 6, 8, 62]) (.cond .leaf .leaf)) (.seq (.blk (.ops [0, 1, 5, 6, 8])) (.ops [0, 1, 5, 6, 8])))))) (.seq (.ops [0, 1, 5, 6, 9]) (.seq (.ops [5, 6, 9, 10]) (.seq (.seq (.ops [5, 6, 9, 10, 11]) (.blk (.loop [5, 6, 10] [9, 11] (.seq (.seq (.ops [5, 6, 9, 10, 11, 81]) (.cond .leaf .leaf)) (.seq (.blk (.seq (.ops [5, 6, 9, 10, 11, 12, 13]) (.seq (.ops [5, 6, 9, 10, 11, 12, 13, 14, 15]) (.join [5, 6, 9, 10, 11] (.seq (.ops [5, 6, 9, 10, 11, 109]) (.cond (.ops [5, 6, 9, 10, 11]) .leaf)))))) (.ops [5, 6, 9, 10, 11])))))) (.seq (.ops [4]) .leaf))))))))))) (c := Try.f7.body.getD .skip) hentD Try.func7 rfl (Nat.le_of_ble_eq_true (by kernel_rfl))
    (Eq.mp (show sh7 a0 a1 w R = denF Try.prog entD false Try.f7 (.seq (.ops [0, 1]) (.seq (.seq (.ops [0, 1, 17]) (.cond (.seq (.ops [4]) .leaf) .leaf)) (.seq (.ops [0, 1, 5, 6]) (.seq (.seq (.ops [0, 1, 5, 6, 35]) (.cond (.seq (.ops [4]) .leaf) .leaf)) (.seq (.seq (.ops [0, 1, 5, 6, 7]) (.blk (.loop [0, 1, 5, 6] [7] (.seq (.seq (.ops [0, 1, 5, 6, 7, 48]) (.cond .leaf .leaf)) (.seq (.blk (.ops [0, 1, 5, 6, 7])) (.ops [0, 1, 5, 6, 7])))))) (.seq (.seq (.ops [0, 1, 5, 6, 8]) (.blk (.loop [0, 1, 5, 6] [8] (.seq (.seq (.ops [0, 1, 5, 6, 8, 62]) (.cond .leaf .leaf)) (.seq (.blk (.ops [0, 1, 5, 6, 8])) (.ops [0, 1, 5, 6, 8])))))) (.seq (.ops [0, 1, 5, 6, 9]) (.seq (.ops [5, 6, 9, 10]) (.seq (.seq (.ops [5, 6, 9, 10, 11]) (.blk (.loop [5, 6, 10] [9, 11] (.seq (.seq (.ops [5, 6, 9, 10, 11, 81]) (.cond .leaf .leaf)) (.seq (.blk (.seq (.ops [5, 6, 9, 10, 11, 12, 13]) (.seq (.ops [5, 6, 9, 10, 11, 12, 13, 14, 15]) (.join [5, 6, 9, 10, 11] (.seq (.ops [5, 6, 9, 10, 11, 109]) (.cond (.ops [5, 6, 9, 10, 11]) .leaf)))))) (.ops [5, 6, 9, 10, 11])))))) (.seq (.ops [4]) .leaf)))))))))) (Try.f7.body.getD .skip) [a0, a1] w R by kernel_rfl) h)

/-! ### 10: handbill/hbllaw21.DiffTakes -/
def sh10 (a0 a1 a2 : Value) (w : World) (R : Value → World → Prop) : Prop :=
 CallF Try.prog 42 #[] w fun t15_1 w =>
 RunA Try.prog (Op.unary .not t15_1) fun t16_2 =>
 IfB t16_2 (
 R (.bool false) w) (
 CallF Try.prog 52 #[a0] w fun t18_3 w =>
 RunA Try.prog (Op.unary .not t18_3) fun t19_4 =>
 IfB t19_4 (
 CallF Try.prog 42 #[] w fun t25_5 w =>
 R t25_5 w) (
 CallF Try.prog 52 #[a1] w fun t22_6 w =>
 RunA Try.prog (Op.unary .not t22_6) fun t23_7 =>
 IfB t23_7 (
 CallF Try.prog 42 #[] w fun t25_8 w =>
 R t25_8 w) (
 CallF Try.prog 53 #[a0] w fun t27_9 w =>
 CallF Try.prog 53 #[a1] w fun t29_10 w =>
 RunW Try.prog (bin .eql 85 (.tmp 30) (.const (.pointer none)) t27_9 (.pointer none)) w fun t31_11 =>
 IfB t31_11 (
 R (.bool false) w) (
 RunW Try.prog (bin .eql 85 (.tmp 33) (.const (.pointer none)) t29_10 (.pointer none)) w fun t34_12 =>
 IfB t34_12 (
 R (.bool false) w) (
 CallF Try.prog 54 #[t27_9, t29_10] w fun t38_13 w =>
 CallF Try.prog 56 #[t38_13, (.int .i64 1048576)] w fun t40_14 w =>
 CallF Try.prog 55 #[t40_14] w fun t41_15 w =>
 CallF Try.prog 56 #[t38_13, (.int .i64 1048576)] w fun t43_16 w =>
 CallF Try.prog 55 #[t43_16] w fun t44_17 w =>
 CallF Try.prog 57 #[t38_13, a2] w fun t48_18 w =>
 RunA Try.prog (Instr.extract t48_18 0) fun t49_19 =>
 RunA Try.prog (Instr.extract t48_18 1) fun t50_20 =>
 RunW Try.prog (Builtin.max_ #[3, 3] 3 #[a2, (.int .i64 0)]) w fun t52_21 =>
 RunW Try.prog (Builtin.len_ #[90] 3 #[t41_15]) w fun t54_22 =>
 RunW Try.prog (Builtin.min_ #[3, 3] 3 #[t52_21, t54_22]) w fun t55_23 =>
 drw (fun S_24 w =>
 CallF Try.prog 58 #[t41_15, t44_17] w fun t58_25 w =>
 S_24 w ∧ (
 RunA Try.prog (Op.unary .not t58_25) fun t59_26 =>
 IfB t59_26 (
 R (.bool false) w) (
 RunA Try.prog (Instr.sliceAt 90 t41_15 none (some t55_23) none) fun t65_27 =>
 CallF Try.prog 55 #[t49_19] w fun t62_28 w =>
 S_24 w ∧ (
 CallF Try.prog 58 #[t62_28, t65_27] w fun t66_29 w =>
 S_24 w ∧ (
 RunA Try.prog (Op.unary .not t66_29) fun t67_30 =>
 IfB t67_30 (
 R (.bool false) w) (
 RunS Try.prog S_24 (Builtin.len_ #[90] 3 #[t41_15]) fun t73_31 =>
 RunA Try.prog (bin .lss 3 (.tmp 71) (.tmp 73) t55_23 t73_31) fun t74_32 =>
 RunS Try.prog S_24 (bin .neq 4 (.tmp 70) (.tmp 74) t50_20 t74_32) fun t75_33 =>
 IfB t75_33 (
 R (.bool false) w) (
 RunS Try.prog S_24 (Builtin.len_ #[90] 3 #[t41_15]) fun t82_34 =>
 CallF Try.prog 59 #[t27_9, t29_10] w fun t80_35 w =>
 S_24 w ∧ (
 RunS Try.prog S_24 (bin .neq 3 (.tmp 80) (.tmp 82) t80_35 t82_34) fun t83_36 =>
 IfB t83_36 (
 R (.bool false) w) (
 RunW Try.prog (Builtin.len_ #[90] 3 #[t41_15]) w fun t86_37 =>
 RunW Try.prog (bin .eql 3 (.tmp 86) (.const (.int .i64 0)) t86_37 (.int .i64 0)) w fun t87_38 =>
 IfB t87_38 (
 CallF Try.prog 42 #[] w fun t88_39 w =>
 IfB t88_39 (
 CallF Try.prog 61 #[t27_9] w fun t91_40 w =>
 CallF Try.prog 61 #[t29_10] w fun t93_41 w =>
 CallF Try.prog 60 #[t91_40, t93_41] w fun t94_42 w =>
 R t94_42 w) (
 R (.bool false) w)) (
 CallF Try.prog 42 #[] w fun t96_43 w =>
 IfB t96_43 (
 RunW Try.prog (Builtin.len_ #[90] 3 #[t41_15]) w fun t101_44 =>
 RunA Try.prog (bin .sub 3 (.tmp 101) (.const (.int .i64 1)) t101_44 (.int .i64 1)) fun t102_45 =>
 RunA Try.prog (Instr.indexAt 90 t41_15 t102_45) fun t103_46 =>
 RunA Try.prog (Instr.fieldAt 102 t103_46 0) fun t104_47 =>
 RunW Try.prog (Instr.loadAt 9 t104_47) w fun t105_48 =>
 CallF Try.prog 62 #[t38_13, t105_48] w fun t106_49 w =>
 CallF Try.prog 56 #[t106_49, (.int .i64 9)] w fun t107_50 w =>
 RunW Try.prog (Builtin.len_ #[92] 3 #[t107_50]) w fun t108_51 =>
 RunW Try.prog (bin .eql 3 (.tmp 108) (.const (.int .i64 0)) t108_51 (.int .i64 0)) w fun t109_52 =>
 R t109_52 w) (
 R (.bool false) w))))))))))) w)))))
theorem sh10_calls {a0 a1 a2 : Value} {w : World} {R : Value → World → Prop} (h : sh10 a0 a1 a2 w R) : CallF Try.prog 10 #[a0, a1, a2] w R :=
  calls_of_denF (mk := false) (args := [a0, a1, a2]) (an := (.seq (.ops [0, 1, 2]) (.seq (.seq (.ops [0, 1, 2, 16]) (.cond (.seq (.ops [6]) .leaf) .leaf)) (.seq (.seq (.ops [0, 1, 2, 24]) (.cond (.seq (.ops [6]) .leaf) .leaf)) (.seq (.ops [2, 7, 8]) (.seq (.seq (.ops [2, 7, 8, 35]) (.cond (.seq (.ops [6]) .leaf) .leaf)) (.seq (.ops [2, 7, 8, 9]) (.seq (.ops [2, 7, 8, 9, 10, 11]) (.seq (.ops [2, 7, 8, 9, 10, 11, 12, 13]) (.seq (.ops [7, 8, 9, 10, 11, 12, 13, 14]) (.seq (.seq (.draw (.q 0 (.q 1 (.one 2 (.q 3 (.q 4 (.sp 5 (.q 5 (.q 6 (.q 7 (.q 8 (.q 9 (.q 10 (.q 11 (.q 12 (.q 13 (.q 14 (.q 15 (.q 16 (.q 17 (.q 18 (.q 19 (.q 20 (.q 21 (.q 22 (.q 23 (.q 24 (.q 25 (.q 26 (.q 27 (.q 28 .fin)))))))))))))))))))))))) (.q 5 (.q 7 (.q 8 (.q 9 (.one 6 (.one 10 (.q 11 (.q 12 (.q 13 (.sp 14 (.q 14 (.q 15 (.q 16 (.q 17 (.q 18 (.q 19 (.q 20 (.q 21 (.q 22 (.q 23 (.q 24 (.q 25 (.q 26 (.q 27 (.q 28 .fin))))))))))))))) (.q 14 (.q 15 (.q 16 (.q 17 (.q 18 (.q 19 (.q 20 (.q 21 (.sp 22 (.q 22 (.q 23 (.q 24 (.q 25 (.q 26 (.q 27 (.q 28 .fin))))))) (.q 22 (.q 23 (.q 25 (.q 26 (.one 24 (.q 27 (.q 28 .fin)))))))))))))))))))))))))))))))) [7, 8, 9, 10, 84]) (.cond (.seq (.ops [6]) .leaf) .leaf)) (.seq (.seq (.ops [7, 8, 9, 10, 87]) (.cond (.seq (.ops [6]) .leaf) .leaf)) (.seq (.ops [6]) .leaf))))))))))))) (c := Try.f10.body.getD .skip) hentD Try.func10 rfl (Nat.le_of_ble_eq_true (by kernel_rfl))
    (Eq.mp (show sh10 a0 a1 a2 w R = denF Try.prog entD false Try.f10 (.seq (.ops [0, 1, 2]) (.seq (.seq (.ops [0, 1, 2, 16]) (.cond (.seq (.ops [6]) .leaf) .leaf)) (.seq (.seq (.ops [0, 1, 2, 24]) (.cond (.seq (.ops [6]) .leaf) .leaf)) (.seq (.ops [2, 7, 8]) (.seq (.seq (.ops [2, 7, 8, 35]) (.cond (.seq (.ops [6]) .leaf) .leaf)) (.seq (.ops [2, 7, 8, 9]) (.seq (.ops [2, 7, 8, 9, 10, 11]) (.seq (.ops [2, 7, 8, 9, 10, 11, 12, 13]) (.seq (.ops [7, 8, 9, 10, 11, 12, 13, 14]) (.seq (.seq (.draw (.q 0 (.q 1 (.one 2 (.q 3 (.q 4 (.sp 5 (.q 5 (.q 6 (.q 7 (.q 8 (.q 9 (.q 10 (.q 11 (.q 12 (.q 13 (.q 14 (.q 15 (.q 16 (.q 17 (.q 18 (.q 19 (.q 20 (.q 21 (.q 22 (.q 23 (.q 24 (.q 25 (.q 26 (.q 27 (.q 28 .fin)))))))))))))))))))))))) (.q 5 (.q 7 (.q 8 (.q 9 (.one 6 (.one 10 (.q 11 (.q 12 (.q 13 (.sp 14 (.q 14 (.q 15 (.q 16 (.q 17 (.q 18 (.q 19 (.q 20 (.q 21 (.q 22 (.q 23 (.q 24 (.q 25 (.q 26 (.q 27 (.q 28 .fin))))))))))))))) (.q 14 (.q 15 (.q 16 (.q 17 (.q 18 (.q 19 (.q 20 (.q 21 (.sp 22 (.q 22 (.q 23 (.q 24 (.q 25 (.q 26 (.q 27 (.q 28 .fin))))))) (.q 22 (.q 23 (.q 25 (.q 26 (.one 24 (.q 27 (.q 28 .fin)))))))))))))))))))))))))))))))) [7, 8, 9, 10, 84]) (.cond (.seq (.ops [6]) .leaf) .leaf)) (.seq (.seq (.ops [7, 8, 9, 10, 87]) (.cond (.seq (.ops [6]) .leaf) .leaf)) (.seq (.ops [6]) .leaf)))))))))))) (Try.f10.body.getD .skip) [a0, a1, a2] w R by kernel_rfl) h)

/-! ### 11: handbill/hbllaw21.DiffSteps -/
def sh11 (a0 a1 a2 : Value) (w : World) (R : Value → World → Prop) : Prop :=
 CallF Try.prog 42 #[] w fun t16_1 w =>
 RunA Try.prog (Op.unary .not t16_1) fun t17_2 =>
 IfB t17_2 (
 R (.bool false) w) (
 CallF Try.prog 52 #[a0] w fun t19_3 w =>
 RunA Try.prog (Op.unary .not t19_3) fun t20_4 =>
 IfB t20_4 (
 CallF Try.prog 42 #[] w fun t31_5 w =>
 R t31_5 w) (
 CallF Try.prog 52 #[a1] w fun t23_6 w =>
 RunA Try.prog (Op.unary .not t23_6) fun t24_7 =>
 IfB t24_7 (
 CallF Try.prog 42 #[] w fun t31_8 w =>
 R t31_8 w) (
 CallF Try.prog 52 #[a2] w fun t28_9 w =>
 RunA Try.prog (Op.unary .not t28_9) fun t29_10 =>
 IfB t29_10 (
 CallF Try.prog 42 #[] w fun t31_11 w =>
 R t31_11 w) (
 CallF Try.prog 53 #[a0] w fun t33_12 w =>
 CallF Try.prog 53 #[a1] w fun t35_13 w =>
 CallF Try.prog 53 #[a2] w fun t37_14 w =>
 RunW Try.prog (bin .eql 85 (.tmp 38) (.const (.pointer none)) t33_12 (.pointer none)) w fun t39_15 =>
 IfB t39_15 (
 R (.bool false) w) (
 RunW Try.prog (bin .eql 85 (.tmp 41) (.const (.pointer none)) t35_13 (.pointer none)) w fun t42_16 =>
 IfB t42_16 (
 R (.bool false) w) (
 RunW Try.prog (bin .eql 85 (.tmp 45) (.const (.pointer none)) t37_14 (.pointer none)) w fun t46_17 =>
 IfB t46_17 (
 R (.bool false) w) (
 CallF Try.prog 54 #[t33_12, t35_13] w fun t50_18 w =>
 CallF Try.prog 56 #[t50_18, (.int .i64 1048576)] w fun t51_19 w =>
 CallF Try.prog 54 #[t35_13, t37_14] w fun t54_20 w =>
 CallF Try.prog 56 #[t54_20, (.int .i64 1048576)] w fun t55_21 w =>
 CallF Try.prog 54 #[t33_12, t37_14] w fun t58_22 w =>
 CallF Try.prog 56 #[t58_22, (.int .i64 1048576)] w fun t59_23 w =>
 RunV Try.prog (Instr.buildSlice 92 0 #[]) w fun t61_24 w =>
 RunV Try.prog (Builtin.append_ #[92, 92] 92 #[t61_24, t51_19]) w fun t63_25 w =>
 RunV Try.prog (Builtin.append_ #[92, 92] 92 #[t63_25, t55_21]) w fun t65_26 w =>
 CallF Try.prog 63 #[t33_12, t65_26] w fun t66_27 w =>
 CallF Try.prog 61 #[t66_27] w fun t67_28 w =>
 CallF Try.prog 63 #[t33_12, t59_23] w fun t71_29 w =>
 CallF Try.prog 61 #[t71_29] w fun t72_30 w =>
 CallF Try.prog 60 #[t67_28, t72_30] w fun t73_31 w =>
 RunA Try.prog (Op.unary .not t73_31) fun t74_32 =>
 IfB t74_32 (
 R (.bool false) w) (
 RunW Try.prog (Builtin.len_ #[92] 3 #[t59_23]) w fun t77_33 =>
 RunW Try.prog (Builtin.len_ #[92] 3 #[t51_19]) w fun t79_34 =>
 RunW Try.prog (Builtin.len_ #[92] 3 #[t55_21]) w fun t81_35 =>
 RunA Try.prog (bin .add 3 (.tmp 79) (.tmp 81) t79_34 t81_35) fun t82_36 =>
 RunA Try.prog (bin .gtr 3 (.tmp 77) (.tmp 82) t77_33 t82_36) fun t83_37 =>
 IfB t83_37 (
 R (.bool false) w) (
 lp 1 (fun n_39 t14_38 w =>
 RunW Try.prog (Builtin.len_ #[92] 3 #[t59_23]) w fun t87_40 =>
 RunA Try.prog (bin .lss 3 (.tmp 85) (.tmp 87) t14_38 t87_40) fun t88_41 =>
 IfB t88_41 (
 drw (fun S_42 w =>
 RunA Try.prog (Instr.indexAt 92 t59_23 t14_38) fun t93_43 =>
 RunA Try.prog (Instr.fieldAt 105 t93_43 0) fun t94_44 =>
 RunS Try.prog S_42 (Instr.loadAt 9 t94_44) fun t95_45 =>
 RunA Try.prog (bin .sub 3 (.tmp 97) (.const (.int .i64 1)) t14_38 (.int .i64 1)) fun t98_46 =>
 RunA Try.prog (Instr.indexAt 92 t59_23 t98_46) fun t99_47 =>
 RunA Try.prog (Instr.fieldAt 105 t99_47 0) fun t100_48 =>
 RunS Try.prog S_42 (Instr.loadAt 9 t100_48) fun t101_49 =>
 RunA Try.prog (bin .leq 9 (.tmp 95) (.tmp 101) t95_45 t101_49) fun t102_50 =>
 IfB t102_50 (
 R (.bool false) w) (
 RunA Try.prog (bin .add 3 (.tmp 89) (.const (.int .i64 1)) t14_38 (.int .i64 1)) fun t90_51 =>
 (t59_23 : Value) = t59_23 ∧ (n_39 t90_51 w))) w) (
 lp 1 (fun n_53 t15_52 w =>
 RunW Try.prog (Builtin.len_ #[92] 3 #[t59_23]) w fun t105_54 =>
 RunA Try.prog (bin .lss 3 (.tmp 103) (.tmp 105) t15_52 t105_54) fun t106_55 =>
 IfB t106_55 (
 jn 2 (fun t12_56 t15_57 w =>
 RunA Try.prog (bin .add 3 (.tmp 107) (.const (.int .i64 1)) t15_57 (.int .i64 1)) fun t108_59 =>
 (t12_56 : Value) = t59_23 ∧ (n_53 t108_59 w)) fun j_58 =>
 RunA Try.prog (Instr.indexAt 92 t59_23 t15_52) fun t111_60 =>
 RunA Try.prog (Instr.fieldAt 105 t111_60 2) fun t112_61 =>
 RunW Try.prog (Instr.loadAt 4 t112_61) w fun t113_62 =>
 IfB t113_62 (
 RunA Try.prog (Instr.indexAt 92 t59_23 t15_52) fun t117_63 =>
 RunA Try.prog (Instr.fieldAt 105 t117_63 1) fun t118_64 =>
 RunW Try.prog (Instr.loadAt 9 t118_64) w fun t119_65 =>
 RunW Try.prog (bin .neq 9 (.tmp 119) (.const (.string ⟨#[]⟩)) t119_65 (.string ⟨#[]⟩)) w fun t120_66 =>
 IfB t120_66 (
 R (.bool false) w) (
 j_58 t59_23 t15_52 w)) (
 j_58 t59_23 t15_52 w)) (
 CallF Try.prog 42 #[] w fun t122_67 w =>
 R t122_67 w)) [(.int .i64 0)] w)) [(.int .i64 1)] w)))))))))
theorem sh11_calls {a0 a1 a2 : Value} {w : World} {R : Value → World → Prop} (h : sh11 a0 a1 a2 w R) : CallF Try.prog 11 #[a0, a1, a2] w R :=
  calls_of_denF (mk := false) (args := [a0, a1, a2]) (an := (.seq (.ops [0, 1, 2]) (.seq (.seq (.ops [0, 1, 2, 17]) (.cond (.seq (.ops [6]) .leaf) .leaf)) (.seq (.seq (.ops [0, 1, 2, 30]) (.cond (.seq (.ops [6]) .leaf) .leaf)) (.seq (.ops [7, 8, 9]) (.seq (.seq (.ops [7, 8, 9, 47]) (.cond (.seq (.ops [6]) .leaf) .leaf)) (.seq (.ops [7, 10, 11, 12]) (.seq (.ops [7, 10, 11, 12, 13]) (.seq (.seq (.ops [12, 84]) (.cond (.seq (.ops [6]) .leaf) .leaf)) (.seq (.seq (.ops [12, 14]) (.blk (.loop [12] [14] (.seq (.seq (.ops [12, 14, 88]) (.cond .leaf .leaf)) (.seq (.blk (.seq (.draw (.q 0 (.q 1 (.q 2 (.q 3 (.q 4 (.q 5 (.q 6 (.q 7 (.q 8 (.q 9 (.q 10 (.q 11 .fin)))))))))))) [12, 14, 102]) (.cond (.seq (.ops [6]) .leaf) .leaf))) (.ops [12, 14])))))) (.seq (.seq (.ops [12, 15]) (.blk (.loop [12] [15] (.seq (.seq (.ops [12, 15, 106]) (.cond .leaf .leaf)) (.seq (.blk (.join [12, 15] (.seq (.ops [12, 15, 121]) (.cond (.seq (.ops [6]) .leaf) .leaf)))) (.ops [12, 15])))))) (.seq (.ops [6]) .leaf)))))))))))) (c := Try.f11.body.getD .skip) hentD Try.func11 rfl (Nat.le_of_ble_eq_true (by kernel_rfl))
    (Eq.mp (show sh11 a0 a1 a2 w R = denF Try.prog entD false Try.f11 (.seq (.ops [0, 1, 2]) (.seq (.seq (.ops [0, 1, 2, 17]) (.cond (.seq (.ops [6]) .leaf) .leaf)) (.seq (.seq (.ops [0, 1, 2, 30]) (.cond (.seq (.ops [6]) .leaf) .leaf)) (.seq (.ops [7, 8, 9]) (.seq (.seq (.ops [7, 8, 9, 47]) (.cond (.seq (.ops [6]) .leaf) .leaf)) (.seq (.ops [7, 10, 11, 12]) (.seq (.ops [7, 10, 11, 12, 13]) (.seq (.seq (.ops [12, 84]) (.cond (.seq (.ops [6]) .leaf) .leaf)) (.seq (.seq (.ops [12, 14]) (.blk (.loop [12] [14] (.seq (.seq (.ops [12, 14, 88]) (.cond .leaf .leaf)) (.seq (.blk (.seq (.draw (.q 0 (.q 1 (.q 2 (.q 3 (.q 4 (.q 5 (.q 6 (.q 7 (.q 8 (.q 9 (.q 10 (.q 11 .fin)))))))))))) [12, 14, 102]) (.cond (.seq (.ops [6]) .leaf) .leaf))) (.ops [12, 14])))))) (.seq (.seq (.ops [12, 15]) (.blk (.loop [12] [15] (.seq (.seq (.ops [12, 15, 106]) (.cond .leaf .leaf)) (.seq (.blk (.join [12, 15] (.seq (.ops [12, 15, 121]) (.cond (.seq (.ops [6]) .leaf) .leaf)))) (.ops [12, 15])))))) (.seq (.ops [6]) .leaf))))))))))) (Try.f11.body.getD .skip) [a0, a1, a2] w R by kernel_rfl) h)

/-! ### 12: handbill/hbllaw21.DiffReads -/
def sh12 (a0 a1 a2 a3 a4 : Value) (w : World) (R : Value → World → Prop) : Prop :=
 CallF Try.prog 42 #[] w fun t23_1 w =>
 RunA Try.prog (Op.unary .not t23_1) fun t24_2 =>
 IfB t24_2 (
 R (.bool false) w) (
 CallF Try.prog 52 #[a0] w fun t26_3 w =>
 RunA Try.prog (Op.unary .not t26_3) fun t27_4 =>
 IfB t27_4 (
 CallF Try.prog 42 #[] w fun t43_5 w =>
 R t43_5 w) (
 CallF Try.prog 52 #[a1] w fun t30_6 w =>
 RunA Try.prog (Op.unary .not t30_6) fun t31_7 =>
 IfB t31_7 (
 CallF Try.prog 42 #[] w fun t43_8 w =>
 R t43_8 w) (
 CallF Try.prog 52 #[a2] w fun t35_9 w =>
 RunA Try.prog (Op.unary .not t35_9) fun t36_10 =>
 IfB t36_10 (
 CallF Try.prog 42 #[] w fun t43_11 w =>
 R t43_11 w) (
 RunW Try.prog (Builtin.len_ #[9] 3 #[a3]) w fun t40_12 =>
 RunA Try.prog (bin .gtr 3 (.tmp 40) (.const (.int .i64 1000)) t40_12 (.int .i64 1000)) fun t41_13 =>
 IfB t41_13 (
 CallF Try.prog 42 #[] w fun t43_14 w =>
 R t43_14 w) (
 CallF Try.prog 53 #[a0] w fun t45_15 w =>
 CallF Try.prog 53 #[a1] w fun t47_16 w =>
 CallF Try.prog 53 #[a2] w fun t49_17 w =>
 RunW Try.prog (bin .eql 85 (.tmp 50) (.const (.pointer none)) t45_15 (.pointer none)) w fun t51_18 =>
 IfB t51_18 (
 R (.bool false) w) (
 RunW Try.prog (bin .eql 85 (.tmp 53) (.const (.pointer none)) t47_16 (.pointer none)) w fun t54_19 =>
 IfB t54_19 (
 R (.bool false) w) (
 RunW Try.prog (bin .eql 85 (.tmp 57) (.const (.pointer none)) t49_17 (.pointer none)) w fun t58_20 =>
 IfB t58_20 (
 R (.bool false) w) (
 CallF Try.prog 65 #[a0] w fun t61_21 w =>
 CallF Try.prog 65 #[a1] w fun t63_22 w =>
 CallF Try.prog 64 #[t61_21, t63_22] w fun t64_23 w =>
 lp 2 (fun n_26 t15_24 t16_25 w =>
 RunW Try.prog (Builtin.len_ #[90] 3 #[t64_23]) w fun t67_27 =>
 RunA Try.prog (bin .lss 3 (.tmp 65) (.tmp 67) t16_25 t67_27) fun t68_28 =>
 IfB t68_28 (
 jn 11 (fun t0_29 t1_30 t2_31 t3_32 t4_33 t11_34 t12_35 t13_36 t14_37 t15_38 t16_39 w =>
 RunA Try.prog (bin .add 3 (.tmp 69) (.const (.int .i64 1)) t16_39 (.int .i64 1)) fun t70_41 =>
 (t0_29 : Value) = a0 ∧ ((t1_30 : Value) = a1 ∧ ((t2_31 : Value) = a2 ∧ ((t3_32 : Value) = a3 ∧ ((t4_33 : Value) = a4 ∧ ((t11_34 : Value) = t45_15 ∧ ((t12_35 : Value) = t47_16 ∧ ((t13_36 : Value) = t49_17 ∧ ((t14_37 : Value) = t64_23 ∧ (n_26 t15_38 t70_41 w)))))))))) fun j_40 =>
 RunA Try.prog (Instr.indexAt 90 t64_23 t16_25) fun t73_42 =>
 RunA Try.prog (Instr.fieldAt 102 t73_42 0) fun t74_43 =>
 RunW Try.prog (Instr.loadAt 9 t74_43) w fun t75_44 =>
 RunA Try.prog (bin .gtr 9 (.tmp 75) (.tmp 76) t75_44 a3) fun t77_45 =>
 IfB t77_45 (
 RunA Try.prog (Instr.indexAt 90 t64_23 t16_25) fun t81_46 =>
 RunW Try.prog (Instr.loadAt 102 t81_46) w fun t82_47 =>
 RunV Try.prog (Instr.buildSlice 90 1 #[(0, t82_47)]) w fun t83_48 w =>
 RunV Try.prog (Builtin.append_ #[90, 90] 90 #[t15_24, t83_48]) w fun t84_49 w =>
 j_40 a0 a1 a2 a3 a4 t45_15 t47_16 t49_17 t64_23 t84_49 t16_25 w) (
 j_40 a0 a1 a2 a3 a4 t45_15 t47_16 t49_17 t64_23 t15_24 t16_25 w)) (
 RunW Try.prog (Builtin.max_ #[3, 3] 3 #[a4, (.int .i64 0)]) w fun t86_50 =>
 RunW Try.prog (Builtin.len_ #[90] 3 #[t64_23]) w fun t88_51 =>
 RunW Try.prog (Builtin.min_ #[3, 3] 3 #[t86_50, t88_51]) w fun t89_52 =>
 CallF Try.prog 54 #[t45_15, t47_16] w fun t92_53 w =>
 CallF Try.prog 56 #[t92_53, (.int .i64 1048576)] w fun t94_54 w =>
 CallF Try.prog 57 #[t92_53, a4] w fun t98_55 w =>
 RunA Try.prog (Instr.extract t98_55 0) fun t99_56 =>
 RunA Try.prog (Instr.extract t98_55 1) fun t100_57 =>
 drw (fun S_58 w =>
 CallF Try.prog 55 #[t94_54] w fun t102_59 w =>
 S_58 w ∧ (
 CallF Try.prog 58 #[t102_59, t64_23] w fun t104_60 w =>
 S_58 w ∧ (
 RunA Try.prog (Op.unary .not t104_60) fun t105_61 =>
 IfB t105_61 (
 R (.bool false) w) (
 RunA Try.prog (Instr.sliceAt 90 t64_23 none (some t89_52) none) fun t111_62 =>
 CallF Try.prog 55 #[t99_56] w fun t108_63 w =>
 S_58 w ∧ (
 CallF Try.prog 58 #[t108_63, t111_62] w fun t112_64 w =>
 S_58 w ∧ (
 RunA Try.prog (Op.unary .not t112_64) fun t113_65 =>
 IfB t113_65 (
 R (.bool false) w) (
 RunS Try.prog S_58 (Builtin.len_ #[90] 3 #[t64_23]) fun t118_66 =>
 RunA Try.prog (bin .gtr 3 (.tmp 118) (.tmp 119) t118_66 t89_52) fun t120_67 =>
 RunS Try.prog S_58 (bin .neq 4 (.tmp 116) (.tmp 120) t100_57 t120_67) fun t121_68 =>
 IfB t121_68 (
 R (.bool false) w) (
 RunA Try.prog (Instr.sliceAt 90 t64_23 none (some t89_52) none) fun t130_69 =>
 CallF Try.prog 56 #[t92_53, a4] w fun t126_70 w =>
 S_58 w ∧ (
 CallF Try.prog 55 #[t126_70] w fun t127_71 w =>
 S_58 w ∧ (
 CallF Try.prog 58 #[t127_71, t130_69] w fun t131_72 w =>
 S_58 w ∧ (
 RunA Try.prog (Op.unary .not t131_72) fun t132_73 =>
 IfB t132_73 (
 R (.bool false) w) (
 RunS Try.prog S_58 (Builtin.len_ #[90] 3 #[t64_23]) fun t139_74 =>
 CallF Try.prog 59 #[t45_15, t47_16] w fun t137_75 w =>
 S_58 w ∧ (
 RunS Try.prog S_58 (bin .neq 3 (.tmp 137) (.tmp 139) t137_75 t139_74) fun t140_76 =>
 IfB t140_76 (
 R (.bool false) w) (
 CallF Try.prog 62 #[t92_53, a3] w fun t145_77 w =>
 S_58 w ∧ (
 CallF Try.prog 56 #[t145_77, (.int .i64 1048576)] w fun t146_78 w =>
 S_58 w ∧ (
 CallF Try.prog 55 #[t146_78] w fun t147_79 w =>
 S_58 w ∧ (
 CallF Try.prog 58 #[t147_79, t15_24] w fun t149_80 w =>
 S_58 w ∧ (
 RunA Try.prog (Op.unary .not t149_80) fun t150_81 =>
 IfB t150_81 (
 R (.bool false) w) (
 CallF Try.prog 63 #[t49_17, t94_54] w fun t154_82 w =>
 CallF Try.prog 42 #[] w fun t155_83 w =>
 IfB t155_83 (
 CallF Try.prog 61 #[t154_82] w fun t158_84 w =>
 CallF Try.prog 65 #[a2] w fun t160_85 w =>
 CallF Try.prog 66 #[t160_85, t64_23] w fun t162_86 w =>
 CallF Try.prog 60 #[t158_84, t162_86] w fun t163_87 w =>
 IfB t163_87 (
 CallF Try.prog 61 #[t49_17] w fun t167_88 w =>
 CallF Try.prog 65 #[a2] w fun t169_89 w =>
 CallF Try.prog 60 #[t167_88, t169_89] w fun t170_90 w =>
 IfB t170_90 (
 CallF Try.prog 61 #[t45_15] w fun t174_91 w =>
 CallF Try.prog 65 #[a0] w fun t176_92 w =>
 CallF Try.prog 60 #[t174_91, t176_92] w fun t177_93 w =>
 IfB t177_93 (
 CallF Try.prog 61 #[t47_16] w fun t181_94 w =>
 CallF Try.prog 65 #[a1] w fun t183_95 w =>
 CallF Try.prog 60 #[t181_94, t183_95] w fun t184_96 w =>
 R t184_96 w) (
 R (.bool false) w)) (
 R (.bool false) w)) (
 R (.bool false) w)) (
 R (.bool false) w)))))))))))))))))))) w)) [(.slice none 0 0), (.int .i64 0)] w))))))))
theorem sh12_calls {a0 a1 a2 a3 a4 : Value} {w : World} {R : Value → World → Prop} (h : sh12 a0 a1 a2 a3 a4 w R) : CallF Try.prog 12 #[a0, a1, a2, a3, a4] w R :=
  calls_of_denF (mk := false) (args := [a0, a1, a2, a3, a4]) (an := (.seq (.ops [0, 1, 2, 3, 4]) (.seq (.seq (.ops [0, 1, 2, 3, 4, 24]) (.cond (.seq (.ops [10]) .leaf) .leaf)) (.seq (.seq (.ops [0, 1, 2, 3, 4, 42]) (.cond (.seq (.ops [10]) .leaf) .leaf)) (.seq (.ops [0, 1, 2, 3, 4, 11, 12, 13]) (.seq (.seq (.ops [0, 1, 2, 3, 4, 11, 12, 13, 59]) (.cond (.seq (.ops [10]) .leaf) .leaf)) (.seq (.ops [0, 1, 2, 3, 4, 11, 12, 13, 14]) (.seq (.ops [0, 1, 2, 3, 4, 11, 12, 13, 14, 15]) (.seq (.seq (.ops [0, 1, 2, 3, 4, 11, 12, 13, 14, 15, 16]) (.blk (.loop [0, 1, 2, 3, 4, 11, 12, 13, 14] [15, 16] (.seq (.seq (.ops [0, 1, 2, 3, 4, 11, 12, 13, 14, 15, 16, 68]) (.cond .leaf .leaf)) (.seq (.blk (.join [0, 1, 2, 3, 4, 11, 12, 13, 14, 15, 16] (.seq (.ops [0, 1, 2, 3, 4, 11, 12, 13, 14, 15, 16, 77]) (.cond (.ops [0, 1, 2, 3, 4, 11, 12, 13, 14, 15, 16]) .leaf)))) (.ops [0, 1, 2, 3, 4, 11, 12, 13, 14, 15, 16])))))) (.seq (.ops [0, 1, 2, 3, 4, 11, 12, 13, 14, 15, 17]) (.seq (.ops [0, 1, 2, 3, 4, 11, 12, 13, 14, 15, 17, 18]) (.seq (.ops [0, 1, 2, 3, 4, 11, 12, 13, 14, 15, 17, 18, 19]) (.seq (.ops [0, 1, 2, 3, 4, 11, 12, 13, 14, 15, 17, 18, 19, 20, 21]) (.seq (.seq (.draw (.q 0 (.q 2 (.one 1 (.one 3 (.q 4 (.q 5 (.sp 6 (.q 6 (.q 7 (.q 8 (.q 9 (.q 10 (.q 11 (.q 12 (.q 13 (.q 14 (.q 15 (.q 16 (.q 17 (.q 18 (.q 19 (.q 20 (.q 21 (.q 22 (.q 23 (.q 24 (.q 25 (.q 26 (.q 27 (.q 28 (.q 29 (.q 30 (.q 31 (.q 32 (.q 33 (.q 34 (.q 35 (.q 36 (.q 37 (.q 38 (.q 39 (.q 40 (.q 41 (.q 42 (.q 43 (.q 44 (.q 45 (.q 46 (.q 47 (.q 48 (.q 49 (.q 50 .fin))))))))))))))))))))))))))))))))))))))))))))) (.q 6 (.q 8 (.q 9 (.q 10 (.one 7 (.one 11 (.q 12 (.q 13 (.q 14 (.sp 15 (.q 15 (.q 16 (.q 17 (.q 18 (.q 19 (.q 20 (.q 21 (.q 22 (.q 23 (.q 24 (.q 25 (.q 26 (.q 27 (.q 28 (.q 29 (.q 30 (.q 31 (.q 32 (.q 33 (.q 34 (.q 35 (.q 36 (.q 37 (.q 38 (.q 39 (.q 40 (.q 41 (.q 42 (.q 43 (.q 44 (.q 45 (.q 46 (.q 47 (.q 48 (.q 49 (.q 50 .fin)))))))))))))))))))))))))))))))))))) (.q 15 (.q 16 (.q 17 (.q 18 (.q 19 (.q 20 (.q 21 (.q 22 (.sp 23 (.q 23 (.q 24 (.q 25 (.q 26 (.q 27 (.q 28 (.q 29 (.q 30 (.q 31 (.q 32 (.q 33 (.q 34 (.q 35 (.q 36 (.q 37 (.q 38 (.q 39 (.q 40 (.q 41 (.q 42 (.q 43 (.q 44 (.q 45 (.q 46 (.q 47 (.q 48 (.q 49 (.q 50 .fin)))))))))))))))))))))))))))) (.q 23 (.q 24 (.q 27 (.q 28 (.q 29 (.one 25 (.one 26 (.one 30 (.q 31 (.q 32 (.q 33 (.sp 34 (.q 34 (.q 35 (.q 36 (.q 37 (.q 38 (.q 39 (.q 40 (.q 41 (.q 42 (.q 43 (.q 44 (.q 45 (.q 46 (.q 47 (.q 48 (.q 49 (.q 50 .fin))))))))))))))))) (.q 34 (.q 35 (.q 37 (.q 38 (.one 36 (.q 39 (.q 40 (.q 41 (.sp 42 (.q 42 (.q 43 (.q 44 (.q 45 (.q 46 (.q 47 (.q 48 (.q 49 (.q 50 .fin))))))))) (.q 42 (.q 43 (.q 47 (.one 44 (.one 45 (.one 46 (.one 48 (.q 49 (.q 50 .fin)))))))))))))))))))))))))))))))))))))))))))))))))))))))) [0, 1, 2, 11, 12, 13, 14, 19, 151]) (.cond (.seq (.ops [10]) .leaf) .leaf)) (.seq (.ops [0, 1, 2, 11, 12, 13, 14, 22]) (.seq (.ops [10]) .leaf)))))))))))))))) (c := Try.f12.body.getD .skip) hentD Try.func12 rfl (Nat.le_of_ble_eq_true (by kernel_rfl))
    (Eq.mp (show sh12 a0 a1 a2 a3 a4 w R = denF Try.prog entD false Try.f12 (.seq (.ops [0, 1, 2, 3, 4]) (.seq (.seq (.ops [0, 1, 2, 3, 4, 24]) (.cond (.seq (.ops [10]) .leaf) .leaf)) (.seq (.seq (.ops [0, 1, 2, 3, 4, 42]) (.cond (.seq (.ops [10]) .leaf) .leaf)) (.seq (.ops [0, 1, 2, 3, 4, 11, 12, 13]) (.seq (.seq (.ops [0, 1, 2, 3, 4, 11, 12, 13, 59]) (.cond (.seq (.ops [10]) .leaf) .leaf)) (.seq (.ops [0, 1, 2, 3, 4, 11, 12, 13, 14]) (.seq (.ops [0, 1, 2, 3, 4, 11, 12, 13, 14, 15]) (.seq (.seq (.ops [0, 1, 2, 3, 4, 11, 12, 13, 14, 15, 16]) (.blk (.loop [0, 1, 2, 3, 4, 11, 12, 13, 14] [15, 16] (.seq (.seq (.ops [0, 1, 2, 3, 4, 11, 12, 13, 14, 15, 16, 68]) (.cond .leaf .leaf)) (.seq (.blk (.join [0, 1, 2, 3, 4, 11, 12, 13, 14, 15, 16] (.seq (.ops [0, 1, 2, 3, 4, 11, 12, 13, 14, 15, 16, 77]) (.cond (.ops [0, 1, 2, 3, 4, 11, 12, 13, 14, 15, 16]) .leaf)))) (.ops [0, 1, 2, 3, 4, 11, 12, 13, 14, 15, 16])))))) (.seq (.ops [0, 1, 2, 3, 4, 11, 12, 13, 14, 15, 17]) (.seq (.ops [0, 1, 2, 3, 4, 11, 12, 13, 14, 15, 17, 18]) (.seq (.ops [0, 1, 2, 3, 4, 11, 12, 13, 14, 15, 17, 18, 19]) (.seq (.ops [0, 1, 2, 3, 4, 11, 12, 13, 14, 15, 17, 18, 19, 20, 21]) (.seq (.seq (.draw (.q 0 (.q 2 (.one 1 (.one 3 (.q 4 (.q 5 (.sp 6 (.q 6 (.q 7 (.q 8 (.q 9 (.q 10 (.q 11 (.q 12 (.q 13 (.q 14 (.q 15 (.q 16 (.q 17 (.q 18 (.q 19 (.q 20 (.q 21 (.q 22 (.q 23 (.q 24 (.q 25 (.q 26 (.q 27 (.q 28 (.q 29 (.q 30 (.q 31 (.q 32 (.q 33 (.q 34 (.q 35 (.q 36 (.q 37 (.q 38 (.q 39 (.q 40 (.q 41 (.q 42 (.q 43 (.q 44 (.q 45 (.q 46 (.q 47 (.q 48 (.q 49 (.q 50 .fin))))))))))))))))))))))))))))))))))))))))))))) (.q 6 (.q 8 (.q 9 (.q 10 (.one 7 (.one 11 (.q 12 (.q 13 (.q 14 (.sp 15 (.q 15 (.q 16 (.q 17 (.q 18 (.q 19 (.q 20 (.q 21 (.q 22 (.q 23 (.q 24 (.q 25 (.q 26 (.q 27 (.q 28 (.q 29 (.q 30 (.q 31 (.q 32 (.q 33 (.q 34 (.q 35 (.q 36 (.q 37 (.q 38 (.q 39 (.q 40 (.q 41 (.q 42 (.q 43 (.q 44 (.q 45 (.q 46 (.q 47 (.q 48 (.q 49 (.q 50 .fin)))))))))))))))))))))))))))))))))))) (.q 15 (.q 16 (.q 17 (.q 18 (.q 19 (.q 20 (.q 21 (.q 22 (.sp 23 (.q 23 (.q 24 (.q 25 (.q 26 (.q 27 (.q 28 (.q 29 (.q 30 (.q 31 (.q 32 (.q 33 (.q 34 (.q 35 (.q 36 (.q 37 (.q 38 (.q 39 (.q 40 (.q 41 (.q 42 (.q 43 (.q 44 (.q 45 (.q 46 (.q 47 (.q 48 (.q 49 (.q 50 .fin)))))))))))))))))))))))))))) (.q 23 (.q 24 (.q 27 (.q 28 (.q 29 (.one 25 (.one 26 (.one 30 (.q 31 (.q 32 (.q 33 (.sp 34 (.q 34 (.q 35 (.q 36 (.q 37 (.q 38 (.q 39 (.q 40 (.q 41 (.q 42 (.q 43 (.q 44 (.q 45 (.q 46 (.q 47 (.q 48 (.q 49 (.q 50 .fin))))))))))))))))) (.q 34 (.q 35 (.q 37 (.q 38 (.one 36 (.q 39 (.q 40 (.q 41 (.sp 42 (.q 42 (.q 43 (.q 44 (.q 45 (.q 46 (.q 47 (.q 48 (.q 49 (.q 50 .fin))))))))) (.q 42 (.q 43 (.q 47 (.one 44 (.one 45 (.one 46 (.one 48 (.q 49 (.q 50 .fin)))))))))))))))))))))))))))))))))))))))))))))))))))))))) [0, 1, 2, 11, 12, 13, 14, 19, 151]) (.cond (.seq (.ops [10]) .leaf) .leaf)) (.seq (.ops [0, 1, 2, 11, 12, 13, 14, 22]) (.seq (.ops [10]) .leaf))))))))))))))) (Try.f12.body.getD .skip) [a0, a1, a2, a3, a4] w R by kernel_rfl) h)

/-! ### 13: handbill/hbllaw21.DiffBack -/
def sh13 (a0 a1 a2 : Value) (w : World) (R : Value → World → Prop) : Prop :=
 CallF Try.prog 42 #[] w fun t18_1 w =>
 RunA Try.prog (Op.unary .not t18_1) fun t19_2 =>
 IfB t19_2 (
 R (.bool false) w) (
 CallF Try.prog 52 #[a0] w fun t21_3 w =>
 RunA Try.prog (Op.unary .not t21_3) fun t22_4 =>
 IfB t22_4 (
 CallF Try.prog 42 #[] w fun t36_5 w =>
 R t36_5 w) (
 CallF Try.prog 52 #[a1] w fun t25_6 w =>
 RunA Try.prog (Op.unary .not t25_6) fun t26_7 =>
 IfB t26_7 (
 CallF Try.prog 42 #[] w fun t36_8 w =>
 R t36_8 w) (
 RunA Try.prog (bin .lss 3 (.tmp 29) (.const (.int .i64 1)) a2 (.int .i64 1)) fun t30_9 =>
 IfB t30_9 (
 CallF Try.prog 42 #[] w fun t36_10 w =>
 R t36_10 w) (
 RunA Try.prog (bin .gtr 3 (.tmp 33) (.const (.int .i64 100)) a2 (.int .i64 100)) fun t34_11 =>
 IfB t34_11 (
 CallF Try.prog 42 #[] w fun t36_12 w =>
 R t36_12 w) (
 CallF Try.prog 53 #[a0] w fun t38_13 w =>
 CallF Try.prog 53 #[a1] w fun t40_14 w =>
 RunW Try.prog (bin .eql 85 (.tmp 41) (.const (.pointer none)) t38_13 (.pointer none)) w fun t42_15 =>
 IfB t42_15 (
 R (.bool false) w) (
 RunW Try.prog (bin .eql 85 (.tmp 44) (.const (.pointer none)) t40_14 (.pointer none)) w fun t45_16 =>
 IfB t45_16 (
 R (.bool false) w) (
 CallF Try.prog 61 #[t40_14] w fun t48_17 w =>
 CallF Try.prog 54 #[t38_13, t40_14] w fun t52_18 w =>
 CallF Try.prog 56 #[t52_18, (.int .i64 1048576)] w fun t53_19 w =>
 CallF Try.prog 63 #[t38_13, t53_19] w fun t54_20 w =>
 CallF Try.prog 61 #[t54_20] w fun t56_21 w =>
 CallF Try.prog 60 #[t56_21, t48_17] w fun t58_22 w =>
 RunA Try.prog (Op.unary .not t58_22) fun t59_23 =>
 IfB t59_23 (
 R (.bool false) w) (
 CallF Try.prog 59 #[t38_13, t38_13] w fun t63_24 w =>
 RunW Try.prog (bin .neq 3 (.tmp 63) (.const (.int .i64 0)) t63_24 (.int .i64 0)) w fun t64_25 =>
 IfB t64_25 (
 R (.bool false) w) (
 CallF Try.prog 59 #[t40_14, t40_14] w fun t69_26 w =>
 RunW Try.prog (bin .neq 3 (.tmp 69) (.const (.int .i64 0)) t69_26 (.int .i64 0)) w fun t70_27 =>
 IfB t70_27 (
 R (.bool false) w) (
 jn 4 (fun t7_28 t8_29 t9_30 t11_31 w =>
 CallF Try.prog 54 #[(.pointer none), t8_29] w fun t107_33 w =>
 CallF Try.prog 56 #[t107_33, (.int .i64 1048576)] w fun t108_34 w =>
 CallF Try.prog 63 #[(.pointer none), t108_34] w fun t109_35 w =>
 CallF Try.prog 42 #[] w fun t110_36 w =>
 IfB t110_36 (
 CallF Try.prog 61 #[t11_31] w fun t113_37 w =>
 CallF Try.prog 60 #[t113_37, t9_30] w fun t115_38 w =>
 IfB t115_38 (
 CallF Try.prog 61 #[t109_35] w fun t119_39 w =>
 CallF Try.prog 60 #[t119_39, t9_30] w fun t121_40 w =>
 IfB t121_40 (
 CallF Try.prog 59 #[t7_28, (.pointer none)] w fun t125_41 w =>
 CallF Try.prog 61 #[t7_28] w fun t127_42 w =>
 RunW Try.prog (Builtin.len_ #[83] 3 #[t127_42]) w fun t128_43 =>
 RunW Try.prog (bin .eql 3 (.tmp 125) (.tmp 128) t125_41 t128_43) w fun t129_44 =>
 R t129_44 w) (
 R (.bool false) w)) (
 R (.bool false) w)) (
 R (.bool false) w)) fun j_32 =>
 lp 3 (fun n_48 t11_45 t12_46 t13_47 w =>
 RunA Try.prog (bin .lss 3 (.tmp 73) (.const (.int .i64 500)) t13_47 (.int .i64 500)) fun t74_49 =>
 IfB t74_49 (
 CallF Try.prog 54 #[t38_13, t40_14] w fun t79_50 w =>
 jn 7 (fun t2_51 t7_52 t8_53 t9_54 t11_55 t13_56 t14_57 w =>
 CallF Try.prog 57 #[t14_57, t2_51] w fun t88_59 w =>
 RunA Try.prog (Instr.extract t88_59 0) fun t89_60 =>
 RunA Try.prog (Instr.extract t88_59 1) fun t90_61 =>
 CallF Try.prog 63 #[t11_55, t89_60] w fun t93_62 w =>
 RunA Try.prog (Op.unary .not t90_61) fun t95_63 =>
 IfB t95_63 (
 j_32 t7_52 t8_53 t9_54 t93_62 w) (
 RunW Try.prog (Builtin.len_ #[92] 3 #[t89_60]) w fun t97_64 =>
 RunW Try.prog (bin .neq 3 (.tmp 97) (.tmp 98) t97_64 t2_51) w fun t99_65 =>
 IfB t99_65 (
 R (.bool false) w) (
 RunA Try.prog (bin .sub 3 (.tmp 101) (.const (.int .i64 1)) t2_51 (.int .i64 1)) fun t102_66 =>
 RunA Try.prog (Instr.indexAt 92 t89_60 t102_66) fun t103_67 =>
 RunA Try.prog (Instr.fieldAt 105 t103_67 0) fun t104_68 =>
 RunW Try.prog (Instr.loadAt 9 t104_68) w fun t105_69 =>
 RunA Try.prog (bin .add 3 (.tmp 75) (.const (.int .i64 1)) t13_56 (.int .i64 1)) fun t76_70 =>
 (t2_51 : Value) = a2 ∧ ((t7_52 : Value) = t38_13 ∧ ((t8_53 : Value) = t40_14 ∧ ((t9_54 : Value) = t48_17 ∧ (n_48 t93_62 t105_69 t76_70 w))))))) fun j_58 =>
 RunA Try.prog (bin .gtr 3 (.tmp 80) (.const (.int .i64 0)) t13_47 (.int .i64 0)) fun t81_71 =>
 IfB t81_71 (
 CallF Try.prog 62 #[t79_50, t12_46] w fun t84_72 w =>
 j_58 a2 t38_13 t40_14 t48_17 t11_45 t13_47 t84_72 w) (
 j_58 a2 t38_13 t40_14 t48_17 t11_45 t13_47 t79_50 w)) (
 j_32 t38_13 t40_14 t48_17 t11_45 w)) [t38_13, (.string ⟨#[]⟩), (.int .i64 0)] w))))))))))
theorem sh13_calls {a0 a1 a2 : Value} {w : World} {R : Value → World → Prop} (h : sh13 a0 a1 a2 w R) : CallF Try.prog 13 #[a0, a1, a2] w R :=
  calls_of_denF (mk := false) (args := [a0, a1, a2]) (an := (.seq (.ops [0, 1, 2]) (.seq (.seq (.ops [0, 1, 2, 19]) (.cond (.seq (.ops [6]) .leaf) .leaf)) (.seq (.seq (.ops [0, 1, 2, 35]) (.cond (.seq (.ops [6]) .leaf) .leaf)) (.seq (.ops [2, 7, 8]) (.seq (.seq (.ops [2, 7, 8, 46]) (.cond (.seq (.ops [6]) .leaf) .leaf)) (.seq (.ops [2, 7, 8, 9]) (.seq (.ops [2, 7, 8, 9, 10]) (.seq (.seq (.ops [2, 7, 8, 9, 71]) (.cond (.seq (.ops [6]) .leaf) .leaf)) (.seq (.ops [2, 7, 8, 9, 11]) (.seq (.ops [2, 7, 8, 9, 11, 12]) (.seq (.seq (.ops [2, 7, 8, 9, 11, 12, 13]) (.join [7, 8, 9, 11] (.blk (.loop [2, 7, 8, 9] [11, 12, 13] (.seq (.seq (.ops [2, 7, 8, 9, 11, 12, 13, 74]) (.cond .leaf .leaf)) (.seq (.blk (.seq (.ops [2, 7, 8, 9, 11, 12, 13, 14]) (.seq (.join [2, 7, 8, 9, 11, 13, 14] (.seq (.ops [2, 7, 8, 9, 11, 12, 13, 14, 81]) (.cond (.ops [2, 7, 8, 9, 11, 13, 14]) .leaf))) (.seq (.ops [2, 7, 8, 9, 11, 13, 15, 16]) (.seq (.ops [2, 7, 8, 9, 11, 13, 15, 16]) (.seq (.seq (.ops [2, 7, 8, 9, 11, 13, 15, 95]) (.cond .leaf .leaf)) (.seq (.seq (.ops [2, 7, 8, 9, 11, 13, 15, 99]) (.cond (.seq (.ops [6]) .leaf) .leaf)) (.ops [2, 7, 8, 9, 11, 12, 13])))))))) (.ops [2, 7, 8, 9, 11, 12, 13]))))))) (.seq (.ops [7, 9, 11, 17]) (.seq (.ops [6]) .leaf)))))))))))))) (c := Try.f13.body.getD .skip) hentD Try.func13 rfl (Nat.le_of_ble_eq_true (by kernel_rfl))
    (Eq.mp (show sh13 a0 a1 a2 w R = denF Try.prog entD false Try.f13 (.seq (.ops [0, 1, 2]) (.seq (.seq (.ops [0, 1, 2, 19]) (.cond (.seq (.ops [6]) .leaf) .leaf)) (.seq (.seq (.ops [0, 1, 2, 35]) (.cond (.seq (.ops [6]) .leaf) .leaf)) (.seq (.ops [2, 7, 8]) (.seq (.seq (.ops [2, 7, 8, 46]) (.cond (.seq (.ops [6]) .leaf) .leaf)) (.seq (.ops [2, 7, 8, 9]) (.seq (.ops [2, 7, 8, 9, 10]) (.seq (.seq (.ops [2, 7, 8, 9, 71]) (.cond (.seq (.ops [6]) .leaf) .leaf)) (.seq (.ops [2, 7, 8, 9, 11]) (.seq (.ops [2, 7, 8, 9, 11, 12]) (.seq (.seq (.ops [2, 7, 8, 9, 11, 12, 13]) (.join [7, 8, 9, 11] (.blk (.loop [2, 7, 8, 9] [11, 12, 13] (.seq (.seq (.ops [2, 7, 8, 9, 11, 12, 13, 74]) (.cond .leaf .leaf)) (.seq (.blk (.seq (.ops [2, 7, 8, 9, 11, 12, 13, 14]) (.seq (.join [2, 7, 8, 9, 11, 13, 14] (.seq (.ops [2, 7, 8, 9, 11, 12, 13, 14, 81]) (.cond (.ops [2, 7, 8, 9, 11, 13, 14]) .leaf))) (.seq (.ops [2, 7, 8, 9, 11, 13, 15, 16]) (.seq (.ops [2, 7, 8, 9, 11, 13, 15, 16]) (.seq (.seq (.ops [2, 7, 8, 9, 11, 13, 15, 95]) (.cond .leaf .leaf)) (.seq (.seq (.ops [2, 7, 8, 9, 11, 13, 15, 99]) (.cond (.seq (.ops [6]) .leaf) .leaf)) (.ops [2, 7, 8, 9, 11, 12, 13])))))))) (.ops [2, 7, 8, 9, 11, 12, 13]))))))) (.seq (.ops [7, 9, 11, 17]) (.seq (.ops [6]) .leaf))))))))))))) (Try.f13.body.getD .skip) [a0, a1, a2] w R by kernel_rfl) h)

/-! ### 42: handbill/hbllaw21.first -/
def sh42 (w : World) (R : Value → World → Prop) : Prop :=
 RunV Try.prog (Instr.build 136 #[(0, (.string ⟨#[97]⟩)), (1, (.string ⟨#[49]⟩))]) w fun t4_1 w =>
 RunV Try.prog (Instr.build 136 #[(0, (.string ⟨#[98]⟩)), (1, (.string ⟨#[50]⟩))]) w fun t5_2 w =>
 RunV Try.prog (Instr.buildSlice 83 2 #[(0, t4_1), (1, t5_2)]) w fun t6_3 w =>
 CallF Try.prog 53 #[t6_3] w fun t7_4 w =>
 RunV Try.prog (Instr.build 136 #[(0, (.string ⟨#[98]⟩)), (1, (.string ⟨#[51]⟩))]) w fun t8_5 w =>
 RunV Try.prog (Instr.buildSlice 83 1 #[(0, t8_5)]) w fun t9_6 w =>
 CallF Try.prog 53 #[t9_6] w fun t10_7 w =>
 CallF Try.prog 54 #[t7_4, t10_7] w fun t13_8 w =>
 CallF Try.prog 56 #[t13_8, (.int .i64 9)] w fun t14_9 w =>
 CallF Try.prog 55 #[t14_9] w fun t15_10 w =>
 RunV Try.prog (Instr.build 102 #[(0, (.string ⟨#[97]⟩)), (2, (.bool true))]) w fun t17_11 w =>
 RunV Try.prog (Instr.build 102 #[(0, (.string ⟨#[98]⟩)), (1, (.string ⟨#[51]⟩))]) w fun t18_12 w =>
 RunV Try.prog (Instr.buildSlice 90 2 #[(0, t17_11), (1, t18_12)]) w fun t19_13 w =>
 CallF Try.prog 58 #[t15_10, t19_13] w fun t20_14 w =>
 R t20_14 w
theorem sh42_calls {w : World} {R : Value → World → Prop} (h : sh42  w R) : CallF Try.prog 42 #[] w R :=
  calls_of_denF (mk := false) (args := []) (an := (.seq (.ops []) (.seq (.ops [1, 2]) (.seq (.ops [3]) (.seq (.ops [0]) .leaf))))) (c := Try.f42.body.getD .skip) hentD Try.func42 rfl (Nat.le_of_ble_eq_true (by kernel_rfl))
    (Eq.mp (show sh42  w R = denF Try.prog entD false Try.f42 (.seq (.ops []) (.seq (.ops [1, 2]) (.seq (.ops [3]) (.seq (.ops [0]) .leaf)))) (Try.f42.body.getD .skip) [] w R by kernel_rfl) h)

/-! ### 43: handbill/hblref.CopyTexts -/
def sh43 (a0 : Value) (w : World) (R : Value → World → Prop) : Prop :=
 RunV Try.prog (Instr.buildSlice 22 0 #[]) w fun t3_1 w =>
 RunV Try.prog (Builtin.append_ #[22, 22] 22 #[t3_1, a0]) w fun t5_2 w =>
 R t5_2 w
theorem sh43_calls {a0 : Value} {w : World} {R : Value → World → Prop} (h : sh43 a0 w R) : CallF Try.prog 43 #[a0] w R :=
  calls_of_denF (mk := false) (args := [a0]) (an := (.seq (.ops [0]) (.seq (.ops [2]) .leaf))) (c := Try.f43.body.getD .skip) hentD Try.func43 rfl (Nat.le_of_ble_eq_true (by kernel_rfl))
    (Eq.mp (show sh43 a0 w R = denF Try.prog entD false Try.f43 (.seq (.ops [0]) (.seq (.ops [2]) .leaf)) (Try.f43.body.getD .skip) [a0] w R by kernel_rfl) h)

/-! ### 44: handbill/diff.Count[int] -/
def sh44 (a0 a1 : Value) (w : World) (R : Value → World → Prop) : Prop :=
 RunV Try.prog (Instr.alloc 3 true (.tuple #[])) w fun t5_1 w =>
 RunU Try.prog (Instr.storeAt 3 t5_1 (.int .i64 0)) w fun w =>
 CallF Try.prog 84 #[a0, a1] w fun t8_2 w =>
 rngP Try.prog none 1 1 (fun l_3 K_4 t9_10 w =>
 K_4 t5_1 w) (fun l_3 kn_5 ks_6 t5_11 w =>
 RunW Try.prog (Instr.loadAt 3 t5_11) w fun t10_12 =>
 RunA Try.prog (bin .add 3 (.tmp 10) (.const (.int .i64 1)) t10_12 (.int .i64 1)) fun t11_13 =>
 RunU Try.prog (Instr.storeAt 3 t5_11 t11_13) w fun w =>
 kn_5 w) t8_2 w (fun D_7 w =>
 RunW Try.prog (Instr.loadAt 3 t5_1) w fun t12_14 =>
 (w).heap[D_7]? = some (.deferred (some [])) ∧ (
 R t12_14 (w.putObj D_7 (.deferred none)))) (fun D_7 c_8 w => jumpK (fun i_9 w =>
 bif Nat.beq i_9 0 then (
 RunW Try.prog (Instr.loadAt 3 t5_1) w fun t12_15 =>
 (w).heap[D_7]? = some (.deferred (some [])) ∧ (
 R t12_15 (w.putObj D_7 (.deferred none)))) else (
 False)) (fun w =>
 (w).heap[D_7]? = some (.deferred (some [])) ∧ (
 False)) c_8 w)
theorem sh44_calls {a0 a1 : Value} {w : World} {R : Value → World → Prop} (h : sh44 a0 a1 w R) : CallF Try.prog 44 #[a0, a1] w R :=
  calls_of_denF (mk := true) (args := [a0, a1]) (an := (.seq (.ops [0, 1]) (.seq (.ops [0, 1, 5]) (.seq (.seq (.ops [5, 8]) (.blk (.rng [5] .leaf (.blk (.ops []))))) (.seq (.ops [4]) .leaf))))) (c := Try.f44.body.getD .skip) hentD Try.func44 rfl (Nat.le_of_ble_eq_true (by kernel_rfl))
    (Eq.mp (show sh44 a0 a1 w R = denF Try.prog entD true Try.f44 (.seq (.ops [0, 1]) (.seq (.ops [0, 1, 5]) (.seq (.seq (.ops [5, 8]) (.blk (.rng [5] .leaf (.blk (.ops []))))) (.seq (.ops [4]) .leaf)))) (Try.f44.body.getD .skip) [a0, a1] w R by kernel_rfl) h)

/-! ### 52: handbill/hbllaw21.few -/
def sh52 (a0 : Value) (w : World) (R : Value → World → Prop) : Prop :=
 jn 1 (fun t0_1 w =>
 RunW Try.prog (Builtin.len_ #[83] 3 #[t0_1]) w fun t35_3 =>
 RunA Try.prog (bin .leq 3 (.tmp 35) (.const (.int .i64 200)) t35_3 (.int .i64 200)) fun t36_4 =>
 R t36_4 w) fun j_2 =>
 lp 2 (fun n_7 t3_5 t4_6 w =>
 RunW Try.prog (Builtin.len_ #[83] 3 #[a0]) w fun t7_8 =>
 RunA Try.prog (bin .lss 3 (.tmp 5) (.tmp 7) t4_6 t7_8) fun t8_9 =>
 IfB t8_9 (
 RunA Try.prog (bin .lss 3 (.tmp 10) (.const (.int .i64 200)) t4_6 (.int .i64 200)) fun t11_10 =>
 IfB t11_10 (
 drw (fun S_11 w =>
 RunA Try.prog (Instr.indexAt 83 a0 t4_6) fun t18_12 =>
 RunA Try.prog (Instr.fieldAt 136 t18_12 0) fun t19_13 =>
 RunS Try.prog S_11 (Instr.loadAt 9 t19_13) fun t20_14 =>
 RunS Try.prog S_11 (Builtin.len_ #[9] 3 #[t20_14]) fun t21_15 =>
 RunS Try.prog S_11 (Builtin.min_ #[3, 3] 3 #[t21_15, (.int .i64 20001)]) fun t22_16 =>
 RunA Try.prog (bin .add 3 (.tmp 15) (.tmp 22) t3_5 t22_16) fun t23_17 =>
 RunA Try.prog (Instr.indexAt 83 a0 t4_6) fun t26_18 =>
 RunA Try.prog (Instr.fieldAt 136 t26_18 1) fun t27_19 =>
 RunS Try.prog S_11 (Instr.loadAt 9 t27_19) fun t28_20 =>
 RunS Try.prog S_11 (Builtin.len_ #[9] 3 #[t28_20]) fun t29_21 =>
 RunS Try.prog S_11 (Builtin.min_ #[3, 3] 3 #[t29_21, (.int .i64 20001)]) fun t30_22 =>
 RunA Try.prog (bin .add 3 (.tmp 23) (.tmp 30) t23_17 t30_22) fun t31_23 =>
 RunA Try.prog (bin .gtr 3 (.tmp 32) (.const (.int .i64 20000)) t31_23 (.int .i64 20000)) fun t33_24 =>
 IfB t33_24 (
 R (.bool false) w) (
 RunA Try.prog (bin .add 3 (.tmp 13) (.const (.int .i64 1)) t4_6 (.int .i64 1)) fun t14_25 =>
 (a0 : Value) = a0 ∧ (n_7 t31_23 t14_25 w))) w) (
 j_2 a0 w)) (
 j_2 a0 w)) [(.int .i64 0), (.int .i64 0)] w
theorem sh52_calls {a0 : Value} {w : World} {R : Value → World → Prop} (h : sh52 a0 w R) : CallF Try.prog 52 #[a0] w R :=
  calls_of_denF (mk := false) (args := [a0]) (an := (.seq (.ops [0]) (.seq (.ops [0, 3]) (.seq (.seq (.ops [0, 3, 4]) (.join [0] (.blk (.loop [0] [3, 4] (.seq (.seq (.ops [0, 3, 4, 12]) (.cond .leaf .leaf)) (.seq (.blk (.seq (.draw (.q 0 (.q 1 (.q 2 (.q 3 (.q 4 (.q 5 (.q 6 (.q 7 (.q 8 (.q 9 (.q 10 (.q 11 (.q 12 (.q 13 (.q 14 (.q 15 (.q 16 (.q 17 .fin)))))))))))))))))) [0, 3, 4]) (.seq (.ops [0, 3, 4, 33]) (.cond (.seq (.ops [2]) .leaf) .leaf)))) (.ops [0, 3, 4]))))))) (.seq (.ops [2]) .leaf))))) (c := Try.f52.body.getD .skip) hentD Try.func52 rfl (Nat.le_of_ble_eq_true (by kernel_rfl))
    (Eq.mp (show sh52 a0 w R = denF Try.prog entD false Try.f52 (.seq (.ops [0]) (.seq (.ops [0, 3]) (.seq (.seq (.ops [0, 3, 4]) (.join [0] (.blk (.loop [0] [3, 4] (.seq (.seq (.ops [0, 3, 4, 12]) (.cond .leaf .leaf)) (.seq (.blk (.seq (.draw (.q 0 (.q 1 (.q 2 (.q 3 (.q 4 (.q 5 (.q 6 (.q 7 (.q 8 (.q 9 (.q 10 (.q 11 (.q 12 (.q 13 (.q 14 (.q 15 (.q 16 (.q 17 .fin)))))))))))))))))) [0, 3, 4]) (.seq (.ops [0, 3, 4, 33]) (.cond (.seq (.ops [2]) .leaf) .leaf)))) (.ops [0, 3, 4]))))))) (.seq (.ops [2]) .leaf)))) (Try.f52.body.getD .skip) [a0] w R by kernel_rfl) h)

/-! ### 53: handbill/hbllaw21.Map -/
def sh53 (a0 : Value) (w : World) (R : Value → World → Prop) : Prop :=
 CallF Try.prog 87 #[] w fun t5_1 w =>
 RunW Try.prog (bin .eql 85 (.tmp 6) (.const (.pointer none)) t5_1 (.pointer none)) w fun t7_2 =>
 IfB t7_2 (
 R (.pointer none) w) (
 lp 1 (fun n_4 t4_3 w =>
 RunW Try.prog (Builtin.len_ #[83] 3 #[a0]) w fun t10_5 =>
 RunA Try.prog (bin .lss 3 (.tmp 8) (.tmp 10) t4_3 t10_5) fun t11_6 =>
 IfB t11_6 (
 drw (fun S_7 w =>
 RunA Try.prog (Instr.indexAt 83 a0 t4_3) fun t17_8 =>
 RunA Try.prog (Instr.fieldAt 136 t17_8 0) fun t18_9 =>
 RunS Try.prog S_7 (Instr.loadAt 9 t18_9) fun t19_10 =>
 RunA Try.prog (Instr.indexAt 83 a0 t4_3) fun t22_11 =>
 RunA Try.prog (Instr.fieldAt 136 t22_11 1) fun t23_12 =>
 RunS Try.prog S_7 (Instr.loadAt 9 t23_12) fun t24_13 =>
 CallF Try.prog 88 #[t5_1, t19_10, t24_13] w fun t25_14 w =>
 RunA Try.prog (bin .add 3 (.tmp 12) (.const (.int .i64 1)) t4_3 (.int .i64 1)) fun t13_15 =>
 (a0 : Value) = a0 ∧ ((t5_1 : Value) = t5_1 ∧ (n_4 t13_15 w))) w) (
 R t5_1 w)) [(.int .i64 0)] w)
theorem sh53_calls {a0 : Value} {w : World} {R : Value → World → Prop} (h : sh53 a0 w R) : CallF Try.prog 53 #[a0] w R :=
  calls_of_denF (mk := false) (args := [a0]) (an := (.seq (.ops [0]) (.seq (.ops [0, 3]) (.seq (.seq (.ops [0, 3, 7]) (.cond (.seq (.ops [2]) .leaf) .leaf)) (.seq (.seq (.ops [0, 3, 4]) (.blk (.loop [0, 3] [4] (.seq (.seq (.ops [0, 3, 4, 11]) (.cond .leaf .leaf)) (.seq (.blk (.draw (.q 0 (.q 1 (.q 2 (.q 3 (.q 4 (.q 5 (.q 6 (.q 7 (.q 8 (.q 9 (.q 10 (.one 11 .fin)))))))))))) [0, 3, 4])) (.ops [0, 3, 4])))))) (.seq (.ops [2]) .leaf)))))) (c := Try.f53.body.getD .skip) hentD Try.func53 rfl (Nat.le_of_ble_eq_true (by kernel_rfl))
    (Eq.mp (show sh53 a0 w R = denF Try.prog entD false Try.f53 (.seq (.ops [0]) (.seq (.ops [0, 3]) (.seq (.seq (.ops [0, 3, 7]) (.cond (.seq (.ops [2]) .leaf) .leaf)) (.seq (.seq (.ops [0, 3, 4]) (.blk (.loop [0, 3] [4] (.seq (.seq (.ops [0, 3, 4, 11]) (.cond .leaf .leaf)) (.seq (.blk (.draw (.q 0 (.q 1 (.q 2 (.q 3 (.q 4 (.q 5 (.q 6 (.q 7 (.q 8 (.q 9 (.q 10 (.one 11 .fin)))))))))))) [0, 3, 4])) (.ops [0, 3, 4])))))) (.seq (.ops [2]) .leaf))))) (Try.f53.body.getD .skip) [a0] w R by kernel_rfl) h)

/-! ### 54: handbill/diff.Of[string] -/
def sh54 (a0 a1 : Value) (w : World) (R : Value → World → Prop) : Prop :=
 RunV Try.prog (Instr.box 85 a0) w fun t2_1 w =>
 RunV Try.prog (Instr.box 85 a1) w fun t3_2 w =>
 RunV Try.prog (Instr.makeFunc (Go.Fn.func 89) #[] #[t2_1, t3_2]) w fun t5_3 w =>
 R t5_3 w
theorem sh54_calls {a0 a1 : Value} {w : World} {R : Value → World → Prop} (h : sh54 a0 a1 w R) : CallF Try.prog 54 #[a0, a1] w R :=
  calls_of_denF (mk := false) (args := [a0, a1]) (an := (.seq (.ops [2, 3]) (.seq (.ops [4]) .leaf))) (c := Try.f54.body.getD .skip) hentD Try.func54 rfl (Nat.le_of_ble_eq_true (by kernel_rfl))
    (Eq.mp (show sh54 a0 a1 w R = denF Try.prog entD false Try.f54 (.seq (.ops [2, 3]) (.seq (.ops [4]) .leaf)) (Try.f54.body.getD .skip) [a0, a1] w R by kernel_rfl) h)

/-! ### 55: handbill/hbllaw21.Changes -/
def sh55 (a0 : Value) (w : World) (R : Value → World → Prop) : Prop :=
 lp 2 (fun n_3 t3_1 t4_2 w =>
 RunW Try.prog (Builtin.len_ #[92] 3 #[a0]) w fun t7_4 =>
 RunA Try.prog (bin .lss 3 (.tmp 5) (.tmp 7) t4_2 t7_4) fun t8_5 =>
 IfB t8_5 (
 drw (fun S_6 w =>
 RunA Try.prog (Instr.indexAt 92 a0 t4_2) fun t14_7 =>
 RunA Try.prog (Instr.fieldAt 105 t14_7 0) fun t15_8 =>
 RunS Try.prog S_6 (Instr.loadAt 9 t15_8) fun t16_9 =>
 RunA Try.prog (Instr.indexAt 92 a0 t4_2) fun t19_10 =>
 RunA Try.prog (Instr.fieldAt 105 t19_10 1) fun t20_11 =>
 RunS Try.prog S_6 (Instr.loadAt 9 t20_11) fun t21_12 =>
 RunA Try.prog (Instr.indexAt 92 a0 t4_2) fun t24_13 =>
 RunA Try.prog (Instr.fieldAt 105 t24_13 2) fun t25_14 =>
 RunS Try.prog S_6 (Instr.loadAt 4 t25_14) fun t26_15 =>
 RunV Try.prog (Instr.build 102 #[(0, t16_9), (1, t21_12), (2, t26_15)]) w fun t27_16 w =>
 RunV Try.prog (Instr.buildSlice 90 1 #[(0, t27_16)]) w fun t28_17 w =>
 RunV Try.prog (Builtin.append_ #[90, 90] 90 #[t3_1, t28_17]) w fun t29_18 w =>
 RunA Try.prog (bin .add 3 (.tmp 9) (.const (.int .i64 1)) t4_2 (.int .i64 1)) fun t10_19 =>
 (a0 : Value) = a0 ∧ (n_3 t29_18 t10_19 w)) w) (
 R t3_1 w)) [(.slice none 0 0), (.int .i64 0)] w
theorem sh55_calls {a0 : Value} {w : World} {R : Value → World → Prop} (h : sh55 a0 w R) : CallF Try.prog 55 #[a0] w R :=
  calls_of_denF (mk := false) (args := [a0]) (an := (.seq (.ops [0]) (.seq (.ops [0, 3]) (.seq (.seq (.ops [0, 3, 4]) (.blk (.loop [0] [3, 4] (.seq (.seq (.ops [0, 3, 4, 8]) (.cond .leaf .leaf)) (.seq (.blk (.draw (.q 0 (.q 1 (.q 2 (.q 3 (.q 4 (.q 5 (.q 6 (.q 7 (.q 8 (.q 9 (.q 10 (.q 11 (.q 12 (.q 13 (.q 14 (.q 15 (.one 16 (.one 17 (.one 18 (.q 19 .fin)))))))))))))))))))) [0, 3, 4])) (.ops [0, 3, 4])))))) (.seq (.ops [2]) .leaf))))) (c := Try.f55.body.getD .skip) hentD Try.func55 rfl (Nat.le_of_ble_eq_true (by kernel_rfl))
    (Eq.mp (show sh55 a0 w R = denF Try.prog entD false Try.f55 (.seq (.ops [0]) (.seq (.ops [0, 3]) (.seq (.seq (.ops [0, 3, 4]) (.blk (.loop [0] [3, 4] (.seq (.seq (.ops [0, 3, 4, 8]) (.cond .leaf .leaf)) (.seq (.blk (.draw (.q 0 (.q 1 (.q 2 (.q 3 (.q 4 (.q 5 (.q 6 (.q 7 (.q 8 (.q 9 (.q 10 (.q 11 (.q 12 (.q 13 (.q 14 (.q 15 (.one 16 (.one 17 (.one 18 (.q 19 .fin)))))))))))))))))))) [0, 3, 4])) (.ops [0, 3, 4])))))) (.seq (.ops [2]) .leaf)))) (Try.f55.body.getD .skip) [a0] w R by kernel_rfl) h)

/-! ### 56: handbill/hbllaw21.ranged -/
def sh56 (a0 a1 : Value) (w : World) (R : Value → World → Prop) : Prop :=
 RunV Try.prog (Instr.box 3 a1) w fun t3_1 w =>
 RunV Try.prog (Instr.alloc 92 true (.tuple #[])) w fun t5_2 w =>
 RunW Try.prog (bin .eql 88 (.tmp 7) (.const (.nilFunc)) a0 (.nilFunc)) w fun t8_3 =>
 IfB t8_3 (
 R (.slice none 0 0) w) (
 RunW Try.prog (Instr.loadAt 3 t3_1) w fun t10_4 =>
 RunA Try.prog (bin .lss 3 (.tmp 10) (.const (.int .i64 1)) t10_4 (.int .i64 1)) fun t11_5 =>
 IfB t11_5 (
 R (.slice none 0 0) w) (
 rngP Try.prog none 1 3 (fun l_6 K_7 t14_13 w =>
 RunV Try.prog (Instr.alloc 105 true (.tuple #[])) w fun t6_17 w =>
 RunU Try.prog (Instr.storeAt 105 t6_17 t14_13) w fun w =>
 K_7 t3_1 t5_2 t6_17 w) (fun l_6 kn_8 ks_9 t3_14 t5_15 t6_16 w =>
 RunW Try.prog (Instr.loadAt 92 t5_15) w fun t15_18 =>
 RunW Try.prog (Instr.loadAt 105 t6_16) w fun t16_19 =>
 RunV Try.prog (Instr.buildSlice 92 1 #[(0, t16_19)]) w fun t17_20 w =>
 RunV Try.prog (Builtin.append_ #[92, 92] 92 #[t15_18, t17_20]) w fun t18_21 w =>
 RunU Try.prog (Instr.storeAt 92 t5_15 t18_21) w fun w =>
 RunW Try.prog (Instr.loadAt 92 t5_15) w fun t19_22 =>
 RunW Try.prog (Builtin.len_ #[92] 3 #[t19_22]) w fun t20_23 =>
 RunW Try.prog (Instr.loadAt 3 t3_14) w fun t21_24 =>
 RunW Try.prog (bin .eql 3 (.tmp 20) (.tmp 21) t20_23 t21_24) w fun t22_25 =>
 IfB t22_25 (
 ks_9 (.exit 0) w) (
 kn_8 w)) a0 w (fun D_10 w =>
 RunW Try.prog (Instr.loadAt 92 t5_2) w fun t23_26 =>
 (w).heap[D_10]? = some (.deferred (some [])) ∧ (
 R t23_26 (w.putObj D_10 (.deferred none)))) (fun D_10 c_11 w => jumpK (fun i_12 w =>
 bif Nat.beq i_12 0 then (
 RunW Try.prog (Instr.loadAt 92 t5_2) w fun t23_27 =>
 (w).heap[D_10]? = some (.deferred (some [])) ∧ (
 R t23_27 (w.putObj D_10 (.deferred none)))) else (
 False)) (fun w =>
 (w).heap[D_10]? = some (.deferred (some [])) ∧ (
 False)) c_11 w)))
theorem sh56_calls {a0 a1 : Value} {w : World} {R : Value → World → Prop} (h : sh56 a0 a1 w R) : CallF Try.prog 56 #[a0, a1] w R :=
  calls_of_denF (mk := true) (args := [a0, a1]) (an := (.seq (.ops [0, 3]) (.seq (.ops [0, 3, 5]) (.seq (.seq (.ops [0, 3, 5, 12]) (.cond (.seq (.ops [4]) .leaf) .leaf)) (.seq (.seq (.ops [3, 5, 13]) (.blk (.rng [3, 5, 6] (.ops [3, 5, 6]) (.blk (.seq (.ops [3, 5]) (.seq (.ops [22]) (.cond .leaf .leaf))))))) (.seq (.ops [4]) .leaf)))))) (c := Try.f56.body.getD .skip) hentD Try.func56 rfl (Nat.le_of_ble_eq_true (by kernel_rfl))
    (Eq.mp (show sh56 a0 a1 w R = denF Try.prog entD true Try.f56 (.seq (.ops [0, 3]) (.seq (.ops [0, 3, 5]) (.seq (.seq (.ops [0, 3, 5, 12]) (.cond (.seq (.ops [4]) .leaf) .leaf)) (.seq (.seq (.ops [3, 5, 13]) (.blk (.rng [3, 5, 6] (.ops [3, 5, 6]) (.blk (.seq (.ops [3, 5]) (.seq (.ops [22]) (.cond .leaf .leaf))))))) (.seq (.ops [4]) .leaf))))) (Try.f56.body.getD .skip) [a0, a1] w R by kernel_rfl) h)

/-! ### 57: handbill/diff.Some[string] -/
def sh57 (a0 a1 : Value) (w : World) (R : Value → World → Prop) : Prop :=
 RunV Try.prog (Instr.box 3 a1) w fun t3_1 w =>
 RunV Try.prog (Instr.alloc 92 true (.tuple #[])) w fun t4_2 w =>
 RunV Try.prog (Instr.alloc 4 true (.tuple #[])) w fun t5_3 w =>
 RunW Try.prog (Instr.loadAt 3 t3_1) w fun t8_4 =>
 RunW Try.prog (Builtin.max_ #[3, 3] 3 #[t8_4, (.int .i64 0)]) w fun t9_5 =>
 RunU Try.prog (Instr.storeAt 3 t3_1 t9_5) w fun w =>
 RunV Try.prog (Instr.alloc 92 true (.tuple #[])) w fun t6_6 w =>
 RunW Try.prog (bin .eql 88 (.tmp 10) (.const (.nilFunc)) a0 (.nilFunc)) w fun t11_7 =>
 IfB t11_7 (
 RunU Try.prog (Instr.storeAt 92 t4_2 (.slice none 0 0)) w fun w =>
 RunU Try.prog (Instr.storeAt 4 t5_3 (.bool false)) w fun w =>
 RunW Try.prog (Instr.loadAt 92 t4_2) w fun t4_8 =>
 RunW Try.prog (Instr.loadAt 4 t5_3) w fun t5_9 =>
 R (.tuple #[t4_8, t5_9]) w) (
 rngP Try.prog none 1 5 (fun l_10 K_11 t13_17 w =>
 RunV Try.prog (Instr.alloc 105 true (.tuple #[])) w fun t7_23 w =>
 RunU Try.prog (Instr.storeAt 105 t7_23 t13_17) w fun w =>
 K_11 t3_1 t4_2 t5_3 t6_6 t7_23 w) (fun l_10 kn_12 ks_13 t3_18 t4_19 t5_20 t6_21 t7_22 w =>
 RunW Try.prog (Instr.loadAt 92 t6_21) w fun t14_24 =>
 RunW Try.prog (Builtin.len_ #[92] 3 #[t14_24]) w fun t15_25 =>
 RunW Try.prog (Instr.loadAt 3 t3_18) w fun t16_26 =>
 RunW Try.prog (bin .eql 3 (.tmp 15) (.tmp 16) t15_25 t16_26) w fun t17_27 =>
 IfB t17_27 (
 RunW Try.prog (Instr.loadAt 92 t6_21) w fun t18_28 =>
 RunU Try.prog (Instr.storeAt 92 t4_19 t18_28) w fun w =>
 RunU Try.prog (Instr.storeAt 4 t5_20 (.bool true)) w fun w =>
 ks_13 .ret w) (
 RunW Try.prog (Instr.loadAt 92 t6_21) w fun t19_29 =>
 RunW Try.prog (Instr.loadAt 105 t7_22) w fun t20_30 =>
 RunV Try.prog (Instr.buildSlice 92 1 #[(0, t20_30)]) w fun t21_31 w =>
 RunV Try.prog (Builtin.append_ #[92, 92] 92 #[t19_29, t21_31]) w fun t22_32 w =>
 RunU Try.prog (Instr.storeAt 92 t6_21 t22_32) w fun w =>
 kn_12 w)) a0 w (fun D_14 w =>
 RunW Try.prog (Instr.loadAt 92 t6_6) w fun t23_33 =>
 RunU Try.prog (Instr.storeAt 92 t4_2 t23_33) w fun w =>
 RunU Try.prog (Instr.storeAt 4 t5_3 (.bool false)) w fun w =>
 (w).heap[D_14]? = some (.deferred (some [])) ∧ (
 RunW Try.prog (Instr.loadAt 92 t4_2) (w.putObj D_14 (.deferred none)) fun t4_34 =>
 RunW Try.prog (Instr.loadAt 4 t5_3) (w.putObj D_14 (.deferred none)) fun t5_35 =>
 R (.tuple #[t4_34, t5_35]) (w.putObj D_14 (.deferred none)))) (fun D_14 c_15 w => jumpK (fun i_16 w =>
 bif Nat.beq i_16 0 then (
 RunW Try.prog (Instr.loadAt 92 t6_6) w fun t23_36 =>
 RunU Try.prog (Instr.storeAt 92 t4_2 t23_36) w fun w =>
 RunU Try.prog (Instr.storeAt 4 t5_3 (.bool false)) w fun w =>
 (w).heap[D_14]? = some (.deferred (some [])) ∧ (
 RunW Try.prog (Instr.loadAt 92 t4_2) (w.putObj D_14 (.deferred none)) fun t4_37 =>
 RunW Try.prog (Instr.loadAt 4 t5_3) (w.putObj D_14 (.deferred none)) fun t5_38 =>
 R (.tuple #[t4_37, t5_38]) (w.putObj D_14 (.deferred none)))) else (
 False)) (fun w =>
 (w).heap[D_14]? = some (.deferred (some [])) ∧ (
 RunW Try.prog (Instr.loadAt 92 t4_2) (w.putObj D_14 (.deferred none)) fun t4_39 =>
 RunW Try.prog (Instr.loadAt 4 t5_3) (w.putObj D_14 (.deferred none)) fun t5_40 =>
 R (.tuple #[t4_39, t5_40]) (w.putObj D_14 (.deferred none)))) c_15 w))
theorem sh57_calls {a0 a1 : Value} {w : World} {R : Value → World → Prop} (h : sh57 a0 a1 w R) : CallF Try.prog 57 #[a0, a1] w R :=
  calls_of_denF (mk := true) (args := [a0, a1]) (an := (.seq (.ops [0, 3, 4, 5]) (.seq (.ops [0, 3, 4, 5]) (.seq (.ops [0, 3, 4, 5, 6]) (.seq (.seq (.ops [0, 3, 4, 5, 6, 11]) (.cond (.seq (.ops [4, 5]) .leaf) .leaf)) (.seq (.seq (.ops [3, 4, 5, 6, 12]) (.blk (.rng [3, 4, 5, 6, 7] (.ops [3, 4, 5, 6, 7]) (.blk (.seq (.seq (.ops [4, 5, 6, 7, 17]) (.cond (.seq (.ops []) .leaf) .leaf)) (.ops [])))))) (.seq (.ops [4, 5]) .leaf))))))) (c := Try.f57.body.getD .skip) hentD Try.func57 rfl (Nat.le_of_ble_eq_true (by kernel_rfl))
    (Eq.mp (show sh57 a0 a1 w R = denF Try.prog entD true Try.f57 (.seq (.ops [0, 3, 4, 5]) (.seq (.ops [0, 3, 4, 5]) (.seq (.ops [0, 3, 4, 5, 6]) (.seq (.seq (.ops [0, 3, 4, 5, 6, 11]) (.cond (.seq (.ops [4, 5]) .leaf) .leaf)) (.seq (.seq (.ops [3, 4, 5, 6, 12]) (.blk (.rng [3, 4, 5, 6, 7] (.ops [3, 4, 5, 6, 7]) (.blk (.seq (.seq (.ops [4, 5, 6, 7, 17]) (.cond (.seq (.ops []) .leaf) .leaf)) (.ops [])))))) (.seq (.ops [4, 5]) .leaf)))))) (Try.f57.body.getD .skip) [a0, a1] w R by kernel_rfl) h)

/-! ### 58: handbill/hblref20.SameChanges -/
def sh58 (a0 a1 : Value) (w : World) (R : Value → World → Prop) : Prop :=
 RunW Try.prog (Builtin.len_ #[90] 3 #[a0]) w fun t7_1 =>
 RunW Try.prog (Builtin.len_ #[90] 3 #[a1]) w fun t9_2 =>
 RunW Try.prog (bin .neq 3 (.tmp 7) (.tmp 9) t7_1 t9_2) w fun t10_3 =>
 IfB t10_3 (
 R (.bool false) w) (
 lp 1 (fun n_5 t5_4 w =>
 RunW Try.prog (Builtin.len_ #[90] 3 #[a0]) w fun t13_6 =>
 RunA Try.prog (bin .lss 3 (.tmp 11) (.tmp 13) t5_4 t13_6) fun t14_7 =>
 IfB t14_7 (
 drw (fun S_8 w =>
 RunA Try.prog (Instr.indexAt 90 a0 t5_4) fun t19_9 =>
 RunS Try.prog S_8 (Instr.loadAt 102 t19_9) fun t20_10 =>
 RunA Try.prog (Instr.indexAt 90 a1 t5_4) fun t23_11 =>
 RunS Try.prog S_8 (Instr.loadAt 102 t23_11) fun t24_12 =>
 RunS Try.prog S_8 (bin .neq 102 (.tmp 20) (.tmp 24) t20_10 t24_12) fun t25_13 =>
 IfB t25_13 (
 R (.bool false) w) (
 RunA Try.prog (bin .add 3 (.tmp 15) (.const (.int .i64 1)) t5_4 (.int .i64 1)) fun t16_14 =>
 (a0 : Value) = a0 ∧ ((a1 : Value) = a1 ∧ (n_5 t16_14 w)))) w) (
 R (.bool true) w)) [(.int .i64 0)] w)
theorem sh58_calls {a0 a1 : Value} {w : World} {R : Value → World → Prop} (h : sh58 a0 a1 w R) : CallF Try.prog 58 #[a0, a1] w R :=
  calls_of_denF (mk := false) (args := [a0, a1]) (an := (.seq (.ops [0, 1]) (.seq (.seq (.ops [0, 1, 10]) (.cond (.seq (.ops [4]) .leaf) .leaf)) (.seq (.seq (.ops [0, 1, 5]) (.blk (.loop [0, 1] [5] (.seq (.seq (.ops [0, 1, 5, 14]) (.cond .leaf .leaf)) (.seq (.blk (.seq (.draw (.q 0 (.q 1 (.q 2 (.q 3 (.q 4 (.q 5 (.q 6 (.q 7 (.q 8 .fin))))))))) [0, 1, 5, 25]) (.cond (.seq (.ops [4]) .leaf) .leaf))) (.ops [0, 1, 5])))))) (.seq (.ops [4]) .leaf))))) (c := Try.f58.body.getD .skip) hentD Try.func58 rfl (Nat.le_of_ble_eq_true (by kernel_rfl))
    (Eq.mp (show sh58 a0 a1 w R = denF Try.prog entD false Try.f58 (.seq (.ops [0, 1]) (.seq (.seq (.ops [0, 1, 10]) (.cond (.seq (.ops [4]) .leaf) .leaf)) (.seq (.seq (.ops [0, 1, 5]) (.blk (.loop [0, 1] [5] (.seq (.seq (.ops [0, 1, 5, 14]) (.cond .leaf .leaf)) (.seq (.blk (.seq (.draw (.q 0 (.q 1 (.q 2 (.q 3 (.q 4 (.q 5 (.q 6 (.q 7 (.q 8 .fin))))))))) [0, 1, 5, 25]) (.cond (.seq (.ops [4]) .leaf) .leaf))) (.ops [0, 1, 5])))))) (.seq (.ops [4]) .leaf)))) (Try.f58.body.getD .skip) [a0, a1] w R by kernel_rfl) h)

/-! ### 59: handbill/diff.Count[string] -/
def sh59 (a0 a1 : Value) (w : World) (R : Value → World → Prop) : Prop :=
 RunV Try.prog (Instr.alloc 3 true (.tuple #[])) w fun t5_1 w =>
 RunU Try.prog (Instr.storeAt 3 t5_1 (.int .i64 0)) w fun w =>
 CallF Try.prog 54 #[a0, a1] w fun t8_2 w =>
 rngP Try.prog none 1 1 (fun l_3 K_4 t9_10 w =>
 K_4 t5_1 w) (fun l_3 kn_5 ks_6 t5_11 w =>
 RunW Try.prog (Instr.loadAt 3 t5_11) w fun t10_12 =>
 RunA Try.prog (bin .add 3 (.tmp 10) (.const (.int .i64 1)) t10_12 (.int .i64 1)) fun t11_13 =>
 RunU Try.prog (Instr.storeAt 3 t5_11 t11_13) w fun w =>
 kn_5 w) t8_2 w (fun D_7 w =>
 RunW Try.prog (Instr.loadAt 3 t5_1) w fun t12_14 =>
 (w).heap[D_7]? = some (.deferred (some [])) ∧ (
 R t12_14 (w.putObj D_7 (.deferred none)))) (fun D_7 c_8 w => jumpK (fun i_9 w =>
 bif Nat.beq i_9 0 then (
 RunW Try.prog (Instr.loadAt 3 t5_1) w fun t12_15 =>
 (w).heap[D_7]? = some (.deferred (some [])) ∧ (
 R t12_15 (w.putObj D_7 (.deferred none)))) else (
 False)) (fun w =>
 (w).heap[D_7]? = some (.deferred (some [])) ∧ (
 False)) c_8 w)
theorem sh59_calls {a0 a1 : Value} {w : World} {R : Value → World → Prop} (h : sh59 a0 a1 w R) : CallF Try.prog 59 #[a0, a1] w R :=
  calls_of_denF (mk := true) (args := [a0, a1]) (an := (.seq (.ops [0, 1]) (.seq (.ops [0, 1, 5]) (.seq (.seq (.ops [5, 8]) (.blk (.rng [5] .leaf (.blk (.ops []))))) (.seq (.ops [4]) .leaf))))) (c := Try.f59.body.getD .skip) hentD Try.func59 rfl (Nat.le_of_ble_eq_true (by kernel_rfl))
    (Eq.mp (show sh59 a0 a1 w R = denF Try.prog entD true Try.f59 (.seq (.ops [0, 1]) (.seq (.ops [0, 1, 5]) (.seq (.seq (.ops [5, 8]) (.blk (.rng [5] .leaf (.blk (.ops []))))) (.seq (.ops [4]) .leaf)))) (Try.f59.body.getD .skip) [a0, a1] w R by kernel_rfl) h)

/-! ### 60: handbill/hblref.Pairs -/
def sh60 (a0 a1 : Value) (w : World) (R : Value → World → Prop) : Prop :=
 RunW Try.prog (Builtin.len_ #[83] 3 #[a0]) w fun t7_1 =>
 RunW Try.prog (Builtin.len_ #[83] 3 #[a1]) w fun t9_2 =>
 RunW Try.prog (bin .neq 3 (.tmp 7) (.tmp 9) t7_1 t9_2) w fun t10_3 =>
 IfB t10_3 (
 R (.bool false) w) (
 lp 1 (fun n_5 t5_4 w =>
 RunW Try.prog (Builtin.len_ #[83] 3 #[a0]) w fun t13_6 =>
 RunA Try.prog (bin .lss 3 (.tmp 11) (.tmp 13) t5_4 t13_6) fun t14_7 =>
 IfB t14_7 (
 drw (fun S_8 w =>
 RunA Try.prog (Instr.indexAt 83 a0 t5_4) fun t19_9 =>
 RunA Try.prog (Instr.fieldAt 136 t19_9 0) fun t20_10 =>
 RunS Try.prog S_8 (Instr.loadAt 9 t20_10) fun t21_11 =>
 RunA Try.prog (Instr.indexAt 83 a1 t5_4) fun t24_12 =>
 RunA Try.prog (Instr.fieldAt 136 t24_12 0) fun t25_13 =>
 RunS Try.prog S_8 (Instr.loadAt 9 t25_13) fun t26_14 =>
 RunS Try.prog S_8 (bin .neq 9 (.tmp 21) (.tmp 26) t21_11 t26_14) fun t27_15 =>
 IfB t27_15 (
 R (.bool false) w) (
 RunA Try.prog (Instr.indexAt 83 a0 t5_4) fun t31_16 =>
 RunA Try.prog (Instr.fieldAt 136 t31_16 1) fun t32_17 =>
 RunS Try.prog S_8 (Instr.loadAt 9 t32_17) fun t33_18 =>
 RunA Try.prog (Instr.indexAt 83 a1 t5_4) fun t36_19 =>
 RunA Try.prog (Instr.fieldAt 136 t36_19 1) fun t37_20 =>
 RunS Try.prog S_8 (Instr.loadAt 9 t37_20) fun t38_21 =>
 RunS Try.prog S_8 (bin .neq 9 (.tmp 33) (.tmp 38) t33_18 t38_21) fun t39_22 =>
 IfB t39_22 (
 R (.bool false) w) (
 RunA Try.prog (bin .add 3 (.tmp 15) (.const (.int .i64 1)) t5_4 (.int .i64 1)) fun t16_23 =>
 (a0 : Value) = a0 ∧ ((a1 : Value) = a1 ∧ (n_5 t16_23 w))))) w) (
 R (.bool true) w)) [(.int .i64 0)] w)
theorem sh60_calls {a0 a1 : Value} {w : World} {R : Value → World → Prop} (h : sh60 a0 a1 w R) : CallF Try.prog 60 #[a0, a1] w R :=
  calls_of_denF (mk := false) (args := [a0, a1]) (an := (.seq (.ops [0, 1]) (.seq (.seq (.ops [0, 1, 10]) (.cond (.seq (.ops [4]) .leaf) .leaf)) (.seq (.seq (.ops [0, 1, 5]) (.blk (.loop [0, 1] [5] (.seq (.seq (.ops [0, 1, 5, 14]) (.cond .leaf .leaf)) (.seq (.blk (.seq (.draw (.q 0 (.q 1 (.q 2 (.q 3 (.q 4 (.q 5 (.q 6 (.q 7 (.q 8 (.q 9 (.q 10 (.q 11 (.sp 12 (.q 12 (.q 13 (.q 14 (.q 15 (.q 16 (.q 17 (.q 18 (.q 19 (.q 20 (.q 21 (.q 22 (.q 23 .fin)))))))))))) (.q 12 (.q 13 (.q 14 (.q 15 (.q 16 (.q 17 (.q 18 (.q 19 (.q 20 (.q 21 (.q 22 (.q 23 .fin))))))))))))))))))))))))) [0, 1, 5, 40]) (.cond (.seq (.ops [4]) .leaf) .leaf))) (.ops [0, 1, 5])))))) (.seq (.ops [4]) .leaf))))) (c := Try.f60.body.getD .skip) hentD Try.func60 rfl (Nat.le_of_ble_eq_true (by kernel_rfl))
    (Eq.mp (show sh60 a0 a1 w R = denF Try.prog entD false Try.f60 (.seq (.ops [0, 1]) (.seq (.seq (.ops [0, 1, 10]) (.cond (.seq (.ops [4]) .leaf) .leaf)) (.seq (.seq (.ops [0, 1, 5]) (.blk (.loop [0, 1] [5] (.seq (.seq (.ops [0, 1, 5, 14]) (.cond .leaf .leaf)) (.seq (.blk (.seq (.draw (.q 0 (.q 1 (.q 2 (.q 3 (.q 4 (.q 5 (.q 6 (.q 7 (.q 8 (.q 9 (.q 10 (.q 11 (.sp 12 (.q 12 (.q 13 (.q 14 (.q 15 (.q 16 (.q 17 (.q 18 (.q 19 (.q 20 (.q 21 (.q 22 (.q 23 .fin)))))))))))) (.q 12 (.q 13 (.q 14 (.q 15 (.q 16 (.q 17 (.q 18 (.q 19 (.q 20 (.q 21 (.q 22 (.q 23 .fin))))))))))))))))))))))))) [0, 1, 5, 40]) (.cond (.seq (.ops [4]) .leaf) .leaf))) (.ops [0, 1, 5])))))) (.seq (.ops [4]) .leaf)))) (Try.f60.body.getD .skip) [a0, a1] w R by kernel_rfl) h)

/-! ### 61: handbill/hbllaw21.Pairs -/
def sh61 (a0 : Value) (w : World) (R : Value → World → Prop) : Prop :=
 RunV Try.prog (Instr.alloc 83 true (.tuple #[])) w fun t3_1 w =>
 RunW Try.prog (bin .eql 85 (.tmp 7) (.const (.pointer none)) a0 (.pointer none)) w fun t8_2 =>
 IfB t8_2 (
 R (.slice none 0 0) w) (
 CallF Try.prog 93 #[a0] w fun t10_3 w =>
 RunW Try.prog (bin .eql 145 (.tmp 11) (.const (.nilFunc)) t10_3 (.nilFunc)) w fun t12_4 =>
 IfB t12_4 (
 R (.slice none 0 0) w) (
 rngP Try.prog none 2 3 (fun l_5 K_6 t14_12 t15_13 w =>
 K_6 t3_1 t14_12 t15_13 w) (fun l_5 kn_7 ks_8 t3_14 t5_15 t6_16 w =>
 RunW Try.prog (Instr.loadAt 83 t3_14) w fun t16_17 =>
 RunV Try.prog (Instr.build 136 #[(0, t5_15), (1, t6_16)]) w fun t19_18 w =>
 RunV Try.prog (Instr.buildSlice 83 1 #[(0, t19_18)]) w fun t20_19 w =>
 RunV Try.prog (Builtin.append_ #[83, 83] 83 #[t16_17, t20_19]) w fun t21_20 w =>
 RunU Try.prog (Instr.storeAt 83 t3_14 t21_20) w fun w =>
 kn_7 w) t10_3 w (fun D_9 w =>
 RunW Try.prog (Instr.loadAt 83 t3_1) w fun t22_21 =>
 (w).heap[D_9]? = some (.deferred (some [])) ∧ (
 R t22_21 (w.putObj D_9 (.deferred none)))) (fun D_9 c_10 w => jumpK (fun i_11 w =>
 bif Nat.beq i_11 0 then (
 RunW Try.prog (Instr.loadAt 83 t3_1) w fun t22_22 =>
 (w).heap[D_9]? = some (.deferred (some [])) ∧ (
 R t22_22 (w.putObj D_9 (.deferred none)))) else (
 False)) (fun w =>
 (w).heap[D_9]? = some (.deferred (some [])) ∧ (
 False)) c_10 w)))
theorem sh61_calls {a0 : Value} {w : World} {R : Value → World → Prop} (h : sh61 a0 w R) : CallF Try.prog 61 #[a0] w R :=
  calls_of_denF (mk := true) (args := [a0]) (an := (.seq (.ops [0]) (.seq (.ops [0, 3]) (.seq (.seq (.ops [0, 3, 8]) (.cond (.seq (.ops [2]) .leaf) .leaf)) (.seq (.ops [3, 4]) (.seq (.seq (.ops [3, 4, 12]) (.cond (.seq (.ops [2]) .leaf) .leaf)) (.seq (.seq (.ops [3, 13]) (.blk (.rng [3, 5, 6] (.seq (.ops [3, 5, 15]) (.ops [3, 5, 6])) (.blk (.ops []))))) (.seq (.ops [2]) .leaf)))))))) (c := Try.f61.body.getD .skip) hentD Try.func61 rfl (Nat.le_of_ble_eq_true (by kernel_rfl))
    (Eq.mp (show sh61 a0 w R = denF Try.prog entD true Try.f61 (.seq (.ops [0]) (.seq (.ops [0, 3]) (.seq (.seq (.ops [0, 3, 8]) (.cond (.seq (.ops [2]) .leaf) .leaf)) (.seq (.ops [3, 4]) (.seq (.seq (.ops [3, 4, 12]) (.cond (.seq (.ops [2]) .leaf) .leaf)) (.seq (.seq (.ops [3, 13]) (.blk (.rng [3, 5, 6] (.seq (.ops [3, 5, 15]) (.ops [3, 5, 6])) (.blk (.ops []))))) (.seq (.ops [2]) .leaf))))))) (Try.f61.body.getD .skip) [a0] w R by kernel_rfl) h)

/-! ### 62: handbill/diff.After[string] -/
def sh62 (a0 a1 : Value) (w : World) (R : Value → World → Prop) : Prop :=
 RunV Try.prog (Instr.box 88 a0) w fun t2_1 w =>
 RunV Try.prog (Instr.box 9 a1) w fun t3_2 w =>
 RunV Try.prog (Instr.makeFunc (Go.Fn.func 94) #[] #[t2_1, t3_2]) w fun t5_3 w =>
 R t5_3 w
theorem sh62_calls {a0 a1 : Value} {w : World} {R : Value → World → Prop} (h : sh62 a0 a1 w R) : CallF Try.prog 62 #[a0, a1] w R :=
  calls_of_denF (mk := false) (args := [a0, a1]) (an := (.seq (.ops [2, 3]) (.seq (.ops [4]) .leaf))) (c := Try.f62.body.getD .skip) hentD Try.func62 rfl (Nat.le_of_ble_eq_true (by kernel_rfl))
    (Eq.mp (show sh62 a0 a1 w R = denF Try.prog entD false Try.f62 (.seq (.ops [2, 3]) (.seq (.ops [4]) .leaf)) (Try.f62.body.getD .skip) [a0, a1] w R by kernel_rfl) h)

/-! ### 63: handbill/diff.Fold[string] -/
def sh63 (a0 a1 : Value) (w : World) (R : Value → World → Prop) : Prop :=
 CallF Try.prog 87 #[] w fun t8_1 w =>
 jn 2 (fun t1_2 t5_3 w =>
 RunW Try.prog (Builtin.len_ #[92] 3 #[t1_2]) w fun t14_5 =>
 lp 1 (fun n_7 t15_6 w =>
 RunA Try.prog (bin .lss 3 (.tmp 15) (.tmp 14) t15_6 t14_5) fun t16_8 =>
 IfB t16_8 (
 RunA Try.prog (Instr.indexAt 92 t1_2 t15_6) fun t17_9 =>
 RunW Try.prog (Instr.loadAt 105 t17_9) w fun t18_10 =>
 RunV Try.prog (Instr.alloc 105 true (.tuple #[])) w fun t7_11 w =>
 RunU Try.prog (Instr.storeAt 105 t7_11 t18_10) w fun w =>
 jn 4 (fun t5_12 t13_13 t14_14 t15_15 w =>
 RunA Try.prog (bin .add 3 (.tmp 15) (.const (.int .i64 1)) t15_15 (.int .i64 1)) fun t31_17 =>
 (t5_12 : Value) = t5_3 ∧ ((t13_13 : Value) = t1_2 ∧ ((t14_14 : Value) = t14_5 ∧ (n_7 t31_17 w)))) fun j_16 =>
 RunA Try.prog (Instr.fieldAt 105 t7_11 2) fun t19_18 =>
 RunW Try.prog (Instr.loadAt 4 t19_18) w fun t20_19 =>
 IfB t20_19 (
 RunA Try.prog (Instr.fieldAt 105 t7_11 0) fun t22_20 =>
 RunW Try.prog (Instr.loadAt 9 t22_20) w fun t23_21 =>
 CallF Try.prog 96 #[t5_3, t23_21] w fun t24_22 w =>
 j_16 t5_3 t1_2 t14_5 t15_6 w) (
 RunA Try.prog (Instr.fieldAt 105 t7_11 0) fun t26_23 =>
 RunW Try.prog (Instr.loadAt 9 t26_23) w fun t27_24 =>
 RunA Try.prog (Instr.fieldAt 105 t7_11 1) fun t28_25 =>
 RunW Try.prog (Instr.loadAt 9 t28_25) w fun t29_26 =>
 CallF Try.prog 88 #[t5_3, t27_24, t29_26] w fun t30_27 w =>
 j_16 t5_3 t1_2 t14_5 t15_6 w)) (
 R t5_3 w)) [(.int .i64 0)] w) fun j_4 =>
 RunW Try.prog (bin .neq 85 (.tmp 9) (.const (.pointer none)) a0 (.pointer none)) w fun t10_28 =>
 IfB t10_28 (
 CallF Try.prog 95 #[a0] w fun t12_29 w =>
 j_4 a1 t12_29 w) (
 j_4 a1 t8_1 w)
theorem sh63_calls {a0 a1 : Value} {w : World} {R : Value → World → Prop} (h : sh63 a0 a1 w R) : CallF Try.prog 63 #[a0, a1] w R :=
  calls_of_denF (mk := false) (args := [a0, a1]) (an := (.seq (.ops [0, 1]) (.seq (.ops [0, 1, 5]) (.seq (.join [1, 5] (.seq (.ops [0, 1, 5, 10]) (.cond (.ops [1, 5]) .leaf))) (.seq (.seq (.ops [5, 13, 14, 15]) (.blk (.loop [5, 13, 14] [15] (.seq (.ops [5, 13, 14, 15, 16]) (.seq (.cond .leaf .leaf) (.seq (.blk (.seq (.ops [5, 7, 13, 14, 15]) (.join [5, 13, 14, 15] (.seq (.ops [5, 7, 13, 14, 15, 20]) (.cond (.ops [5, 13, 14, 15]) (.ops [5, 13, 14, 15])))))) (.ops [5, 13, 14, 15]))))))) (.seq (.ops [4]) .leaf)))))) (c := Try.f63.body.getD .skip) hentD Try.func63 rfl (Nat.le_of_ble_eq_true (by kernel_rfl))
    (Eq.mp (show sh63 a0 a1 w R = denF Try.prog entD false Try.f63 (.seq (.ops [0, 1]) (.seq (.ops [0, 1, 5]) (.seq (.join [1, 5] (.seq (.ops [0, 1, 5, 10]) (.cond (.ops [1, 5]) .leaf))) (.seq (.seq (.ops [5, 13, 14, 15]) (.blk (.loop [5, 13, 14] [15] (.seq (.ops [5, 13, 14, 15, 16]) (.seq (.cond .leaf .leaf) (.seq (.blk (.seq (.ops [5, 7, 13, 14, 15]) (.join [5, 13, 14, 15] (.seq (.ops [5, 7, 13, 14, 15, 20]) (.cond (.ops [5, 13, 14, 15]) (.ops [5, 13, 14, 15])))))) (.ops [5, 13, 14, 15]))))))) (.seq (.ops [4]) .leaf))))) (Try.f63.body.getD .skip) [a0, a1] w R by kernel_rfl) h)

/-! ### 64: handbill/hblref20.Diff -/
def sh64 (a0 a1 : Value) (w : World) (R : Value → World → Prop) : Prop :=
 lp 3 (fun n_4 t5_1 t6_2 t7_3 w =>
 jn 5 (fun t0_5 t1_6 t5_7 t6_8 t7_9 w =>
 jn 6 (fun t0_11 t1_12 t5_13 t6_14 t7_15 t47_16 w =>
 jn 5 (fun t0_18 t1_19 t5_20 t6_21 t7_22 w =>
 (t0_18 : Value) = a0 ∧ ((t1_19 : Value) = a1 ∧ (n_4 t5_20 t6_21 t7_22 w))) fun j_23 =>
 IfB t47_16 (
 RunA Try.prog (Instr.indexAt 83 t0_11 t6_14) fun t74_24 =>
 RunA Try.prog (Instr.fieldAt 136 t74_24 0) fun t75_25 =>
 RunW Try.prog (Instr.loadAt 9 t75_25) w fun t76_26 =>
 RunV Try.prog (Instr.build 102 #[(0, t76_26), (2, (.bool true))]) w fun t77_27 w =>
 RunV Try.prog (Instr.buildSlice 90 1 #[(0, t77_27)]) w fun t78_28 w =>
 RunV Try.prog (Builtin.append_ #[90, 90] 90 #[t5_13, t78_28]) w fun t79_29 w =>
 RunA Try.prog (bin .add 3 (.tmp 80) (.const (.int .i64 1)) t6_14 (.int .i64 1)) fun t81_30 =>
 j_23 t0_11 t1_12 t79_29 t81_30 t7_15 w) (
 jn 5 (fun t0_31 t1_32 t5_33 t6_34 t7_35 w =>
 j_23 t0_31 t1_32 t5_33 t6_34 t7_35 w) fun j_36 =>
 drw (fun S_37 w =>
 RunS Try.prog S_37 (Builtin.len_ #[83] 3 #[t0_11]) fun t85_38 =>
 RunS Try.prog S_37 (bin .eql 3 (.tmp 83) (.tmp 85) t6_14 t85_38) fun t86_39 =>
 IfB t86_39 (
 drw (fun S_40 w =>
 RunA Try.prog (Instr.indexAt 83 t1_12 t7_15) fun t103_41 =>
 RunA Try.prog (Instr.fieldAt 136 t103_41 0) fun t104_42 =>
 RunS Try.prog S_40 (Instr.loadAt 9 t104_42) fun t105_43 =>
 RunA Try.prog (Instr.indexAt 83 t1_12 t7_15) fun t108_44 =>
 RunA Try.prog (Instr.fieldAt 136 t108_44 1) fun t109_45 =>
 RunS Try.prog S_40 (Instr.loadAt 9 t109_45) fun t110_46 =>
 RunA Try.prog (bin .add 3 (.tmp 114) (.const (.int .i64 1)) t7_15 (.int .i64 1)) fun t115_47 =>
 RunV Try.prog (Instr.build 102 #[(0, t105_43), (1, t110_46)]) w fun t111_48 w =>
 RunV Try.prog (Instr.buildSlice 90 1 #[(0, t111_48)]) w fun t112_49 w =>
 RunV Try.prog (Builtin.append_ #[90, 90] 90 #[t5_13, t112_49]) w fun t113_50 w =>
 j_36 t0_11 t1_12 t113_50 t6_14 t115_47 w) w) (
 RunA Try.prog (Instr.indexAt 83 t1_12 t7_15) fun t90_51 =>
 RunA Try.prog (Instr.fieldAt 136 t90_51 0) fun t91_52 =>
 RunS Try.prog S_37 (Instr.loadAt 9 t91_52) fun t92_53 =>
 RunA Try.prog (Instr.indexAt 83 t0_11 t6_14) fun t95_54 =>
 RunA Try.prog (Instr.fieldAt 136 t95_54 0) fun t96_55 =>
 RunS Try.prog S_37 (Instr.loadAt 9 t96_55) fun t97_56 =>
 RunA Try.prog (bin .lss 9 (.tmp 92) (.tmp 97) t92_53 t97_56) fun t98_57 =>
 IfB t98_57 (
 drw (fun S_58 w =>
 RunA Try.prog (Instr.indexAt 83 t1_12 t7_15) fun t103_59 =>
 RunA Try.prog (Instr.fieldAt 136 t103_59 0) fun t104_60 =>
 RunS Try.prog S_58 (Instr.loadAt 9 t104_60) fun t105_61 =>
 RunA Try.prog (Instr.indexAt 83 t1_12 t7_15) fun t108_62 =>
 RunA Try.prog (Instr.fieldAt 136 t108_62 1) fun t109_63 =>
 RunS Try.prog S_58 (Instr.loadAt 9 t109_63) fun t110_64 =>
 RunA Try.prog (bin .add 3 (.tmp 114) (.const (.int .i64 1)) t7_15 (.int .i64 1)) fun t115_65 =>
 RunV Try.prog (Instr.build 102 #[(0, t105_61), (1, t110_64)]) w fun t111_66 w =>
 RunV Try.prog (Instr.buildSlice 90 1 #[(0, t111_66)]) w fun t112_67 w =>
 RunV Try.prog (Builtin.append_ #[90, 90] 90 #[t5_13, t112_67]) w fun t113_68 w =>
 j_36 t0_11 t1_12 t113_68 t6_14 t115_65 w) w) (
 jn 5 (fun t0_69 t1_70 t5_71 t6_72 t7_73 w =>
 RunA Try.prog (bin .add 3 (.tmp 43) (.const (.int .i64 1)) t6_72 (.int .i64 1)) fun t44_75 =>
 RunA Try.prog (bin .add 3 (.tmp 45) (.const (.int .i64 1)) t7_73 (.int .i64 1)) fun t46_76 =>
 j_36 t0_69 t1_70 t5_71 t44_75 t46_76 w) fun j_74 =>
 drw (fun S_77 w =>
 RunA Try.prog (Instr.indexAt 83 t0_11 t6_14) fun t20_78 =>
 RunA Try.prog (Instr.fieldAt 136 t20_78 1) fun t21_79 =>
 RunS Try.prog S_77 (Instr.loadAt 9 t21_79) fun t22_80 =>
 RunA Try.prog (Instr.indexAt 83 t1_12 t7_15) fun t25_81 =>
 RunA Try.prog (Instr.fieldAt 136 t25_81 1) fun t26_82 =>
 RunS Try.prog S_77 (Instr.loadAt 9 t26_82) fun t27_83 =>
 RunS Try.prog S_77 (bin .neq 9 (.tmp 22) (.tmp 27) t22_80 t27_83) fun t28_84 =>
 IfB t28_84 (
 drw (fun S_85 w =>
 RunA Try.prog (Instr.indexAt 83 t1_12 t7_15) fun t32_86 =>
 RunA Try.prog (Instr.fieldAt 136 t32_86 0) fun t33_87 =>
 RunS Try.prog S_85 (Instr.loadAt 9 t33_87) fun t34_88 =>
 RunA Try.prog (Instr.indexAt 83 t1_12 t7_15) fun t37_89 =>
 RunA Try.prog (Instr.fieldAt 136 t37_89 1) fun t38_90 =>
 RunS Try.prog S_85 (Instr.loadAt 9 t38_90) fun t39_91 =>
 RunV Try.prog (Instr.build 102 #[(0, t34_88), (1, t39_91)]) w fun t40_92 w =>
 RunV Try.prog (Instr.buildSlice 90 1 #[(0, t40_92)]) w fun t41_93 w =>
 RunV Try.prog (Builtin.append_ #[90, 90] 90 #[t5_13, t41_93]) w fun t42_94 w =>
 j_74 t0_11 t1_12 t42_94 t6_14 t7_15 w) w) (
 j_74 t0_11 t1_12 t5_13 t6_14 t7_15 w)) w))) w)) fun j_17 =>
 drw (fun S_95 w =>
 RunS Try.prog S_95 (Builtin.len_ #[83] 3 #[t1_6]) fun t50_96 =>
 RunS Try.prog S_95 (bin .eql 3 (.tmp 48) (.tmp 50) t7_9 t50_96) fun t51_97 =>
 IfB t51_97 (
 j_17 t0_5 t1_6 t5_7 t6_8 t7_9 (.bool true) w) (
 RunS Try.prog S_95 (Builtin.len_ #[83] 3 #[t0_5]) fun t55_98 =>
 RunA Try.prog (bin .lss 3 (.tmp 53) (.tmp 55) t6_8 t55_98) fun t56_99 =>
 IfB t56_99 (
 RunA Try.prog (Instr.indexAt 83 t0_5 t6_8) fun t60_100 =>
 RunA Try.prog (Instr.fieldAt 136 t60_100 0) fun t61_101 =>
 RunS Try.prog S_95 (Instr.loadAt 9 t61_101) fun t62_102 =>
 RunA Try.prog (Instr.indexAt 83 t1_6 t7_9) fun t65_103 =>
 RunA Try.prog (Instr.fieldAt 136 t65_103 0) fun t66_104 =>
 RunS Try.prog S_95 (Instr.loadAt 9 t66_104) fun t67_105 =>
 RunA Try.prog (bin .lss 9 (.tmp 62) (.tmp 67) t62_102 t67_105) fun t68_106 =>
 j_17 t0_5 t1_6 t5_7 t6_8 t7_9 t68_106 w) (
 j_17 t0_5 t1_6 t5_7 t6_8 t7_9 (.bool false) w))) w) fun j_10 =>
 RunW Try.prog (Builtin.len_ #[83] 3 #[a0]) w fun t10_107 =>
 RunA Try.prog (bin .lss 3 (.tmp 8) (.tmp 10) t6_2 t10_107) fun t11_108 =>
 IfB t11_108 (
 j_10 a0 a1 t5_1 t6_2 t7_3 w) (
 RunW Try.prog (Builtin.len_ #[83] 3 #[a1]) w fun t15_109 =>
 RunA Try.prog (bin .lss 3 (.tmp 13) (.tmp 15) t7_3 t15_109) fun t16_110 =>
 IfB t16_110 (
 j_10 a0 a1 t5_1 t6_2 t7_3 w) (
 R t5_1 w))) [(.slice none 0 0), (.int .i64 0), (.int .i64 0)] w
theorem sh64_calls {a0 a1 : Value} {w : World} {R : Value → World → Prop} (h : sh64 a0 a1 w R) : CallF Try.prog 64 #[a0, a1] w R :=
  calls_of_denF (mk := false) (args := [a0, a1]) (an := (.seq (.ops [0, 1]) (.seq (.ops [0, 1, 5]) (.seq (.ops [0, 1, 5, 6, 7]) (.seq (.blk (.loop [0, 1] [5, 6, 7] (.seq (.join [0, 1, 5, 6, 7] (.seq (.ops [0, 1, 5, 6, 7, 17]) (.cond .leaf .leaf))) (.blk (.blk (.seq (.join [0, 1, 5, 6, 7, 47] (.draw (.q 0 (.q 1 (.q 2 (.q 3 (.q 4 (.sp 5 (.q 5 (.q 6 (.q 7 (.q 8 (.q 9 (.q 10 (.q 11 (.q 12 (.q 13 (.q 14 (.q 15 (.q 16 (.q 17 (.q 18 (.q 19 (.q 20 (.q 21 (.q 22 (.q 23 .fin))))))))))))))))))) (.q 5 (.q 6 (.q 7 (.q 8 (.q 9 (.sp 10 (.q 10 (.q 11 (.q 12 (.q 13 (.q 14 (.q 15 (.q 16 (.q 17 (.q 18 (.q 19 (.q 20 (.q 21 (.q 22 (.q 23 .fin)))))))))))))) (.q 10 (.q 11 (.q 12 (.q 13 (.q 14 (.q 15 (.q 16 (.q 17 (.q 18 (.q 19 (.q 20 (.q 21 (.q 22 (.q 23 .fin)))))))))))))))))))))))))) [0, 1, 5, 6, 7, 47])) (.join [0, 1, 5, 6, 7] (.cond (.ops [0, 1, 5, 6, 7]) (.join [0, 1, 5, 6, 7] (.seq (.draw (.q 0 (.q 1 (.q 2 (.q 3 (.q 4 (.sp 5 (.q 5 (.q 6 (.q 7 (.q 8 (.q 9 (.q 10 (.q 11 (.q 12 (.q 13 (.q 14 (.q 15 (.q 16 (.q 17 .fin))))))))))))) (.q 5 (.q 6 (.q 7 (.q 8 (.q 9 (.q 10 (.q 11 (.q 12 (.q 13 (.q 14 (.q 15 (.q 16 (.q 17 .fin))))))))))))))))))) [0, 1, 5, 6, 7, 82]) (.cond (.draw (.q 0 (.q 1 (.q 2 (.q 3 (.q 4 (.q 5 (.q 6 (.q 7 (.q 8 (.q 9 (.q 10 (.q 14 (.q 15 (.one 11 (.one 12 (.one 13 (.q 16 (.q 17 .fin)))))))))))))))))) [0, 1, 5, 6, 7]) (.seq (.join [0, 1, 5, 6, 7] (.seq (.draw (.q 0 (.q 1 (.q 2 (.q 3 (.q 4 (.q 5 (.q 6 (.q 7 (.q 8 (.q 9 (.q 10 .fin))))))))))) [0, 1, 5, 6, 7, 28]) (.cond (.draw (.q 0 (.q 1 (.q 2 (.q 3 (.q 4 (.q 5 (.q 6 (.q 7 (.q 8 (.q 9 (.q 10 (.one 11 (.one 12 (.one 13 (.q 14 .fin))))))))))))))) [0, 1, 5, 6, 7]) .leaf))) (.ops [0, 1, 5, 6, 7]))))))))))))) (.seq (.ops [4]) .leaf)))))) (c := Try.f64.body.getD .skip) hentD Try.func64 rfl (Nat.le_of_ble_eq_true (by kernel_rfl))
    (Eq.mp (show sh64 a0 a1 w R = denF Try.prog entD false Try.f64 (.seq (.ops [0, 1]) (.seq (.ops [0, 1, 5]) (.seq (.ops [0, 1, 5, 6, 7]) (.seq (.blk (.loop [0, 1] [5, 6, 7] (.seq (.join [0, 1, 5, 6, 7] (.seq (.ops [0, 1, 5, 6, 7, 17]) (.cond .leaf .leaf))) (.blk (.blk (.seq (.join [0, 1, 5, 6, 7, 47] (.draw (.q 0 (.q 1 (.q 2 (.q 3 (.q 4 (.sp 5 (.q 5 (.q 6 (.q 7 (.q 8 (.q 9 (.q 10 (.q 11 (.q 12 (.q 13 (.q 14 (.q 15 (.q 16 (.q 17 (.q 18 (.q 19 (.q 20 (.q 21 (.q 22 (.q 23 .fin))))))))))))))))))) (.q 5 (.q 6 (.q 7 (.q 8 (.q 9 (.sp 10 (.q 10 (.q 11 (.q 12 (.q 13 (.q 14 (.q 15 (.q 16 (.q 17 (.q 18 (.q 19 (.q 20 (.q 21 (.q 22 (.q 23 .fin)))))))))))))) (.q 10 (.q 11 (.q 12 (.q 13 (.q 14 (.q 15 (.q 16 (.q 17 (.q 18 (.q 19 (.q 20 (.q 21 (.q 22 (.q 23 .fin)))))))))))))))))))))))))) [0, 1, 5, 6, 7, 47])) (.join [0, 1, 5, 6, 7] (.cond (.ops [0, 1, 5, 6, 7]) (.join [0, 1, 5, 6, 7] (.seq (.draw (.q 0 (.q 1 (.q 2 (.q 3 (.q 4 (.sp 5 (.q 5 (.q 6 (.q 7 (.q 8 (.q 9 (.q 10 (.q 11 (.q 12 (.q 13 (.q 14 (.q 15 (.q 16 (.q 17 .fin))))))))))))) (.q 5 (.q 6 (.q 7 (.q 8 (.q 9 (.q 10 (.q 11 (.q 12 (.q 13 (.q 14 (.q 15 (.q 16 (.q 17 .fin))))))))))))))))))) [0, 1, 5, 6, 7, 82]) (.cond (.draw (.q 0 (.q 1 (.q 2 (.q 3 (.q 4 (.q 5 (.q 6 (.q 7 (.q 8 (.q 9 (.q 10 (.q 14 (.q 15 (.one 11 (.one 12 (.one 13 (.q 16 (.q 17 .fin)))))))))))))))))) [0, 1, 5, 6, 7]) (.seq (.join [0, 1, 5, 6, 7] (.seq (.draw (.q 0 (.q 1 (.q 2 (.q 3 (.q 4 (.q 5 (.q 6 (.q 7 (.q 8 (.q 9 (.q 10 .fin))))))))))) [0, 1, 5, 6, 7, 28]) (.cond (.draw (.q 0 (.q 1 (.q 2 (.q 3 (.q 4 (.q 5 (.q 6 (.q 7 (.q 8 (.q 9 (.q 10 (.one 11 (.one 12 (.one 13 (.q 14 .fin))))))))))))))) [0, 1, 5, 6, 7]) .leaf))) (.ops [0, 1, 5, 6, 7]))))))))))))) (.seq (.ops [4]) .leaf))))) (Try.f64.body.getD .skip) [a0, a1] w R by kernel_rfl) h)

/-! ### 65: handbill/hbllaw21.plain -/
def sh65 (a0 : Value) (w : World) (R : Value → World → Prop) : Prop :=
 lp 2 (fun n_3 t3_1 t4_2 w =>
 RunW Try.prog (Builtin.len_ #[83] 3 #[a0]) w fun t7_4 =>
 RunA Try.prog (bin .lss 3 (.tmp 5) (.tmp 7) t4_2 t7_4) fun t8_5 =>
 IfB t8_5 (
 drw (fun S_6 w =>
 RunA Try.prog (Instr.indexAt 83 a0 t4_2) fun t14_7 =>
 RunA Try.prog (Instr.fieldAt 136 t14_7 0) fun t15_8 =>
 RunS Try.prog S_6 (Instr.loadAt 9 t15_8) fun t16_9 =>
 RunA Try.prog (Instr.indexAt 83 a0 t4_2) fun t19_10 =>
 RunA Try.prog (Instr.fieldAt 136 t19_10 1) fun t20_11 =>
 RunS Try.prog S_6 (Instr.loadAt 9 t20_11) fun t21_12 =>
 RunV Try.prog (Instr.build 102 #[(0, t16_9), (1, t21_12)]) w fun t22_13 w =>
 RunV Try.prog (Instr.buildSlice 90 1 #[(0, t22_13)]) w fun t23_14 w =>
 RunV Try.prog (Builtin.append_ #[90, 90] 90 #[t3_1, t23_14]) w fun t24_15 w =>
 RunA Try.prog (bin .add 3 (.tmp 9) (.const (.int .i64 1)) t4_2 (.int .i64 1)) fun t10_16 =>
 (a0 : Value) = a0 ∧ (n_3 t24_15 t10_16 w)) w) (
 CallF Try.prog 66 #[(.slice none 0 0), t3_1] w fun t26_17 w =>
 R t26_17 w)) [(.slice none 0 0), (.int .i64 0)] w
theorem sh65_calls {a0 : Value} {w : World} {R : Value → World → Prop} (h : sh65 a0 w R) : CallF Try.prog 65 #[a0] w R :=
  calls_of_denF (mk := false) (args := [a0]) (an := (.seq (.ops [0]) (.seq (.ops [0, 3]) (.seq (.seq (.ops [0, 3, 4]) (.blk (.loop [0] [3, 4] (.seq (.seq (.ops [0, 3, 4, 8]) (.cond .leaf .leaf)) (.seq (.blk (.draw (.q 0 (.q 1 (.q 2 (.q 3 (.q 4 (.q 5 (.q 6 (.q 7 (.q 8 (.q 9 (.q 10 (.one 11 (.one 12 (.one 13 (.q 14 .fin))))))))))))))) [0, 3, 4])) (.ops [0, 3, 4])))))) (.seq (.ops [2]) .leaf))))) (c := Try.f65.body.getD .skip) hentD Try.func65 rfl (Nat.le_of_ble_eq_true (by kernel_rfl))
    (Eq.mp (show sh65 a0 w R = denF Try.prog entD false Try.f65 (.seq (.ops [0]) (.seq (.ops [0, 3]) (.seq (.seq (.ops [0, 3, 4]) (.blk (.loop [0] [3, 4] (.seq (.seq (.ops [0, 3, 4, 8]) (.cond .leaf .leaf)) (.seq (.blk (.draw (.q 0 (.q 1 (.q 2 (.q 3 (.q 4 (.q 5 (.q 6 (.q 7 (.q 8 (.q 9 (.q 10 (.one 11 (.one 12 (.one 13 (.q 14 .fin))))))))))))))) [0, 3, 4])) (.ops [0, 3, 4])))))) (.seq (.ops [2]) .leaf)))) (Try.f65.body.getD .skip) [a0] w R by kernel_rfl) h)

/-! ### 66: handbill/hblref20.Fold -/
def sh66 (a0 a1 : Value) (w : World) (R : Value → World → Prop) : Prop :=
 RunV Try.prog (Instr.buildSlice 83 0 #[]) w fun t9_1 w =>
 RunV Try.prog (Builtin.append_ #[83, 83] 83 #[t9_1, a0]) w fun t11_2 w =>
 lp 2 (fun n_5 t5_3 t6_4 w =>
 RunW Try.prog (Builtin.len_ #[90] 3 #[a1]) w fun t14_6 =>
 RunA Try.prog (bin .lss 3 (.tmp 12) (.tmp 14) t6_4 t14_6) fun t15_7 =>
 IfB t15_7 (
 jn 4 (fun t1_8 t5_9 t6_10 t7_11 w =>
 jn 5 (fun t1_13 t5_14 t6_15 t7_16 t8_17 w =>
 jn 3 (fun t1_19 t5_20 t6_21 w =>
 RunA Try.prog (bin .add 3 (.tmp 16) (.const (.int .i64 1)) t6_21 (.int .i64 1)) fun t17_23 =>
 (t1_19 : Value) = a1 ∧ (n_5 t5_20 t17_23 w)) fun j_22 =>
 RunA Try.prog (Instr.indexAt 90 t1_13 t6_15) fun t77_24 =>
 RunA Try.prog (Instr.fieldAt 102 t77_24 2) fun t78_25 =>
 RunW Try.prog (Instr.loadAt 4 t78_25) w fun t79_26 =>
 IfB t79_26 (
 IfB t8_17 (
 drw (fun S_27 w =>
 RunA Try.prog (Instr.sliceAt 83 t5_14 none (some t7_16) none) fun t85_28 =>
 RunA Try.prog (bin .add 3 (.tmp 87) (.const (.int .i64 1)) t7_16 (.int .i64 1)) fun t88_29 =>
 RunA Try.prog (Instr.sliceAt 83 t5_14 (some t88_29) none none) fun t89_30 =>
 RunV Try.prog (Builtin.append_ #[83, 83] 83 #[t85_28, t89_30]) w fun t90_31 w =>
 j_22 t1_13 t90_31 t6_15 w) w) (
 jn 3 (fun t1_32 t5_33 t6_34 w =>
 j_22 t1_32 t5_33 t6_34 w) fun j_35 =>
 RunA Try.prog (Instr.indexAt 90 t1_13 t6_15) fun t94_36 =>
 RunA Try.prog (Instr.fieldAt 102 t94_36 2) fun t95_37 =>
 RunW Try.prog (Instr.loadAt 4 t95_37) w fun t96_38 =>
 IfB t96_38 (
 j_35 t1_13 t5_14 t6_15 w) (
 jn 3 (fun t1_39 t5_40 t6_41 w =>
 j_35 t1_39 t5_40 t6_41 w) fun j_42 =>
 IfB t8_17 (
 RunA Try.prog (Instr.indexAt 90 t1_13 t6_15) fun t103_43 =>
 RunA Try.prog (Instr.fieldAt 102 t103_43 1) fun t104_44 =>
 RunW Try.prog (Instr.loadAt 9 t104_44) w fun t105_45 =>
 RunA Try.prog (Instr.indexAt 83 t5_14 t7_16) fun t106_46 =>
 RunA Try.prog (Instr.fieldAt 136 t106_46 1) fun t107_47 =>
 RunU Try.prog (Instr.storeAt 9 t107_47 t105_45) w fun w =>
 j_42 t1_13 t5_14 t6_15 w) (
 drw (fun S_48 w =>
 RunA Try.prog (Instr.sliceAt 83 t5_14 none (some t7_16) none) fun t56_49 =>
 RunA Try.prog (Instr.indexAt 90 t1_13 t6_15) fun t59_50 =>
 RunA Try.prog (Instr.fieldAt 102 t59_50 0) fun t60_51 =>
 RunS Try.prog S_48 (Instr.loadAt 9 t60_51) fun t61_52 =>
 RunA Try.prog (Instr.indexAt 90 t1_13 t6_15) fun t64_53 =>
 RunA Try.prog (Instr.fieldAt 102 t64_53 1) fun t65_54 =>
 RunS Try.prog S_48 (Instr.loadAt 9 t65_54) fun t66_55 =>
 RunA Try.prog (Instr.sliceAt 83 t5_14 (some t7_16) none none) fun t71_56 =>
 RunV Try.prog (Instr.build 136 #[(0, t61_52), (1, t66_55)]) w fun t67_57 w =>
 RunV Try.prog (Instr.buildSlice 83 1 #[(0, t67_57)]) w fun t68_58 w =>
 RunV Try.prog (Builtin.append_ #[83, 83] 83 #[t68_58, t71_56]) w fun t72_59 w =>
 RunV Try.prog (Builtin.append_ #[83, 83] 83 #[t56_49, t72_59]) w fun t73_60 w =>
 j_42 t1_13 t73_60 t6_15 w) w)))) (
 jn 3 (fun t1_61 t5_62 t6_63 w =>
 j_22 t1_61 t5_62 t6_63 w) fun j_64 =>
 RunA Try.prog (Instr.indexAt 90 t1_13 t6_15) fun t94_65 =>
 RunA Try.prog (Instr.fieldAt 102 t94_65 2) fun t95_66 =>
 RunW Try.prog (Instr.loadAt 4 t95_66) w fun t96_67 =>
 IfB t96_67 (
 j_64 t1_13 t5_14 t6_15 w) (
 jn 3 (fun t1_68 t5_69 t6_70 w =>
 j_64 t1_68 t5_69 t6_70 w) fun j_71 =>
 IfB t8_17 (
 RunA Try.prog (Instr.indexAt 90 t1_13 t6_15) fun t103_72 =>
 RunA Try.prog (Instr.fieldAt 102 t103_72 1) fun t104_73 =>
 RunW Try.prog (Instr.loadAt 9 t104_73) w fun t105_74 =>
 RunA Try.prog (Instr.indexAt 83 t5_14 t7_16) fun t106_75 =>
 RunA Try.prog (Instr.fieldAt 136 t106_75 1) fun t107_76 =>
 RunU Try.prog (Instr.storeAt 9 t107_76 t105_74) w fun w =>
 j_71 t1_13 t5_14 t6_15 w) (
 drw (fun S_77 w =>
 RunA Try.prog (Instr.sliceAt 83 t5_14 none (some t7_16) none) fun t56_78 =>
 RunA Try.prog (Instr.indexAt 90 t1_13 t6_15) fun t59_79 =>
 RunA Try.prog (Instr.fieldAt 102 t59_79 0) fun t60_80 =>
 RunS Try.prog S_77 (Instr.loadAt 9 t60_80) fun t61_81 =>
 RunA Try.prog (Instr.indexAt 90 t1_13 t6_15) fun t64_82 =>
 RunA Try.prog (Instr.fieldAt 102 t64_82 1) fun t65_83 =>
 RunS Try.prog S_77 (Instr.loadAt 9 t65_83) fun t66_84 =>
 RunA Try.prog (Instr.sliceAt 83 t5_14 (some t7_16) none none) fun t71_85 =>
 RunV Try.prog (Instr.build 136 #[(0, t61_81), (1, t66_84)]) w fun t67_86 w =>
 RunV Try.prog (Instr.buildSlice 83 1 #[(0, t67_86)]) w fun t68_87 w =>
 RunV Try.prog (Builtin.append_ #[83, 83] 83 #[t68_87, t71_85]) w fun t72_88 w =>
 RunV Try.prog (Builtin.append_ #[83, 83] 83 #[t56_78, t72_88]) w fun t73_89 w =>
 j_71 t1_13 t73_89 t6_15 w) w)))) fun j_18 =>
 drw (fun S_90 w =>
 RunS Try.prog S_90 (Builtin.len_ #[83] 3 #[t5_9]) fun t39_91 =>
 RunA Try.prog (bin .lss 3 (.tmp 37) (.tmp 39) t7_11 t39_91) fun t40_92 =>
 IfB t40_92 (
 RunA Try.prog (Instr.indexAt 83 t5_9 t7_11) fun t44_93 =>
 RunA Try.prog (Instr.fieldAt 136 t44_93 0) fun t45_94 =>
 RunS Try.prog S_90 (Instr.loadAt 9 t45_94) fun t46_95 =>
 RunA Try.prog (Instr.indexAt 90 t1_8 t6_10) fun t49_96 =>
 RunA Try.prog (Instr.fieldAt 102 t49_96 0) fun t50_97 =>
 RunS Try.prog S_90 (Instr.loadAt 9 t50_97) fun t51_98 =>
 RunS Try.prog S_90 (bin .eql 9 (.tmp 46) (.tmp 51) t46_95 t51_98) fun t52_99 =>
 j_18 t1_8 t5_9 t6_10 t7_11 t52_99 w) (
 j_18 t1_8 t5_9 t6_10 t7_11 (.bool false) w)) w) fun j_12 =>
 lp 1 (fun n_101 t7_100 w =>
 drw (fun S_102 w =>
 RunS Try.prog S_102 (Builtin.len_ #[83] 3 #[t5_3]) fun t20_103 =>
 RunA Try.prog (bin .lss 3 (.tmp 18) (.tmp 20) t7_100 t20_103) fun t21_104 =>
 IfB t21_104 (
 RunA Try.prog (Instr.indexAt 83 t5_3 t7_100) fun t25_105 =>
 RunA Try.prog (Instr.fieldAt 136 t25_105 0) fun t26_106 =>
 RunS Try.prog S_102 (Instr.loadAt 9 t26_106) fun t27_107 =>
 RunA Try.prog (Instr.indexAt 90 a1 t6_4) fun t30_108 =>
 RunA Try.prog (Instr.fieldAt 102 t30_108 0) fun t31_109 =>
 RunS Try.prog S_102 (Instr.loadAt 9 t31_109) fun t32_110 =>
 RunA Try.prog (bin .lss 9 (.tmp 27) (.tmp 32) t27_107 t32_110) fun t33_111 =>
 IfB t33_111 (
 RunA Try.prog (bin .add 3 (.tmp 35) (.const (.int .i64 1)) t7_100 (.int .i64 1)) fun t36_112 =>
 (a1 : Value) = a1 ∧ ((t5_3 : Value) = t5_3 ∧ ((t6_4 : Value) = t6_4 ∧ (n_101 t36_112 w)))) (
 j_12 a1 t5_3 t6_4 t7_100 w)) (
 j_12 a1 t5_3 t6_4 t7_100 w)) w) [(.int .i64 0)] w) (
 R t5_3 w)) [t11_2, (.int .i64 0)] w
theorem sh66_calls {a0 a1 : Value} {w : World} {R : Value → World → Prop} (h : sh66 a0 a1 w R) : CallF Try.prog 66 #[a0, a1] w R :=
  calls_of_denF (mk := false) (args := [a0, a1]) (an := (.seq (.ops [0, 1]) (.seq (.ops [1, 5]) (.seq (.seq (.ops [1, 5, 6]) (.blk (.loop [1] [5, 6] (.seq (.seq (.ops [1, 5, 6, 15]) (.cond .leaf .leaf)) (.seq (.blk (.seq (.ops [1, 5, 6, 7]) (.seq (.join [1, 5, 6, 7] (.blk (.loop [1, 5, 6] [7] (.seq (.seq (.draw (.q 0 (.q 1 (.q 2 (.q 3 (.q 4 (.sp 5 (.q 5 (.q 6 (.q 7 (.q 8 (.q 9 (.q 10 (.q 11 (.q 12 (.q 13 (.q 14 (.q 15 (.q 16 .fin)))))))))))) (.q 5 (.q 6 (.q 7 (.q 8 (.q 9 (.q 10 (.q 11 (.q 12 (.q 13 (.q 14 (.q 15 (.q 16 .fin)))))))))))))))))) [1, 5, 6, 7, 34]) (.cond .leaf .leaf)) (.blk (.ops [1, 5, 6, 7])))))) (.seq (.join [1, 5, 6, 7, 8] (.draw (.q 0 (.q 1 (.q 2 (.q 3 (.q 4 (.sp 5 (.q 5 (.q 6 (.q 7 (.q 8 (.q 9 (.q 10 (.q 11 (.q 12 (.q 13 (.q 14 (.q 15 (.q 16 (.q 17 .fin))))))))))))) (.q 5 (.q 6 (.q 7 (.q 8 (.q 9 (.q 10 (.q 11 (.q 12 (.q 13 (.q 14 (.q 15 (.q 16 (.q 17 .fin))))))))))))))))))) [1, 5, 6, 7, 8])) (.blk (.join [1, 5, 6] (.seq (.ops [1, 5, 6, 7, 8, 74]) (.cond (.draw (.q 0 (.q 1 (.q 2 (.q 3 (.q 4 (.q 5 (.q 6 (.one 7 (.q 8 .fin))))))))) [1, 5, 6]) (.join [1, 5, 6] (.seq (.ops [1, 5, 6, 7, 8, 91]) (.cond .leaf (.join [1, 5, 6] (.seq (.ops [1, 5, 6, 7, 97]) (.cond (.ops [1, 5, 6]) (.draw (.q 0 (.q 1 (.q 2 (.q 3 (.q 4 (.q 5 (.q 6 (.q 7 (.q 8 (.q 9 (.q 10 (.q 11 (.q 12 (.q 15 (.q 16 (.q 17 (.one 13 (.one 14 (.one 18 (.one 19 (.q 20 .fin))))))))))))))))))))) [1, 5, 6]))))))))))))))) (.ops [1, 5, 6])))))) (.seq (.ops [4]) .leaf))))) (c := Try.f66.body.getD .skip) hentD Try.func66 rfl (Nat.le_of_ble_eq_true (by kernel_rfl))
    (Eq.mp (show sh66 a0 a1 w R = denF Try.prog entD false Try.f66 (.seq (.ops [0, 1]) (.seq (.ops [1, 5]) (.seq (.seq (.ops [1, 5, 6]) (.blk (.loop [1] [5, 6] (.seq (.seq (.ops [1, 5, 6, 15]) (.cond .leaf .leaf)) (.seq (.blk (.seq (.ops [1, 5, 6, 7]) (.seq (.join [1, 5, 6, 7] (.blk (.loop [1, 5, 6] [7] (.seq (.seq (.draw (.q 0 (.q 1 (.q 2 (.q 3 (.q 4 (.sp 5 (.q 5 (.q 6 (.q 7 (.q 8 (.q 9 (.q 10 (.q 11 (.q 12 (.q 13 (.q 14 (.q 15 (.q 16 .fin)))))))))))) (.q 5 (.q 6 (.q 7 (.q 8 (.q 9 (.q 10 (.q 11 (.q 12 (.q 13 (.q 14 (.q 15 (.q 16 .fin)))))))))))))))))) [1, 5, 6, 7, 34]) (.cond .leaf .leaf)) (.blk (.ops [1, 5, 6, 7])))))) (.seq (.join [1, 5, 6, 7, 8] (.draw (.q 0 (.q 1 (.q 2 (.q 3 (.q 4 (.sp 5 (.q 5 (.q 6 (.q 7 (.q 8 (.q 9 (.q 10 (.q 11 (.q 12 (.q 13 (.q 14 (.q 15 (.q 16 (.q 17 .fin))))))))))))) (.q 5 (.q 6 (.q 7 (.q 8 (.q 9 (.q 10 (.q 11 (.q 12 (.q 13 (.q 14 (.q 15 (.q 16 (.q 17 .fin))))))))))))))))))) [1, 5, 6, 7, 8])) (.blk (.join [1, 5, 6] (.seq (.ops [1, 5, 6, 7, 8, 74]) (.cond (.draw (.q 0 (.q 1 (.q 2 (.q 3 (.q 4 (.q 5 (.q 6 (.one 7 (.q 8 .fin))))))))) [1, 5, 6]) (.join [1, 5, 6] (.seq (.ops [1, 5, 6, 7, 8, 91]) (.cond .leaf (.join [1, 5, 6] (.seq (.ops [1, 5, 6, 7, 97]) (.cond (.ops [1, 5, 6]) (.draw (.q 0 (.q 1 (.q 2 (.q 3 (.q 4 (.q 5 (.q 6 (.q 7 (.q 8 (.q 9 (.q 10 (.q 11 (.q 12 (.q 15 (.q 16 (.q 17 (.one 13 (.one 14 (.one 18 (.one 19 (.q 20 .fin))))))))))))))))))))) [1, 5, 6]))))))))))))))) (.ops [1, 5, 6])))))) (.seq (.ops [4]) .leaf)))) (Try.f66.body.getD .skip) [a0, a1] w R by kernel_rfl) h)

/-! ### 84: handbill/diff.Of[int] -/
def sh84 (a0 a1 : Value) (w : World) (R : Value → World → Prop) : Prop :=
 RunV Try.prog (Instr.box 24 a0) w fun t2_1 w =>
 RunV Try.prog (Instr.box 24 a1) w fun t3_2 w =>
 RunV Try.prog (Instr.makeFunc (Go.Fn.func 111) #[] #[t2_1, t3_2]) w fun t5_3 w =>
 R t5_3 w
theorem sh84_calls {a0 a1 : Value} {w : World} {R : Value → World → Prop} (h : sh84 a0 a1 w R) : CallF Try.prog 84 #[a0, a1] w R :=
  calls_of_denF (mk := false) (args := [a0, a1]) (an := (.seq (.ops [2, 3]) (.seq (.ops [4]) .leaf))) (c := Try.f84.body.getD .skip) hentD Try.func84 rfl (Nat.le_of_ble_eq_true (by kernel_rfl))
    (Eq.mp (show sh84 a0 a1 w R = denF Try.prog entD false Try.f84 (.seq (.ops [2, 3]) (.seq (.ops [4]) .leaf)) (Try.f84.body.getD .skip) [a0, a1] w R by kernel_rfl) h)

/-! ### 87: handbill/omap.New[string,string] -/
def sh87 (w : World) (R : Value → World → Prop) : Prop :=
 RunV Try.prog (Instr.build 175 #[]) w fun t1_1 w =>
 RunV Try.prog (Instr.box 175 t1_1) w fun t2_2 w =>
 R t2_2 w
theorem sh87_calls {w : World} {R : Value → World → Prop} (h : sh87  w R) : CallF Try.prog 87 #[] w R :=
  calls_of_denF (mk := false) (args := []) (an := (.seq (.ops []) (.seq (.ops [0]) .leaf))) (c := Try.f87.body.getD .skip) hentD Try.func87 rfl (Nat.le_of_ble_eq_true (by kernel_rfl))
    (Eq.mp (show sh87  w R = denF Try.prog entD false Try.f87 (.seq (.ops []) (.seq (.ops [0]) .leaf)) (Try.f87.body.getD .skip) [] w R by kernel_rfl) h)

/-! ### 88: (*handbill/omap.Map[string, string]).Put -/
def sh88 (a0 a1 a2 : Value) (w : World) (R : Value → World → Prop) : Prop :=
 CallF Try.prog 117 #[a0, a1] w fun t12_1 w =>
 RunA Try.prog (Instr.extract t12_1 0) fun t13_2 =>
 RunA Try.prog (Instr.extract t12_1 1) fun t14_3 =>
 jn 1 (fun t8_4 w =>
 RunA Try.prog (Op.unary .not t8_4) fun t38_6 =>
 R t38_6 w) fun j_5 =>
 IfB t14_3 (
 RunA Try.prog (nilV a0) fun t17_7 =>
 RunA Try.prog (Instr.fieldAt 175 t17_7 0) fun t18_8 =>
 RunW Try.prog (Instr.loadAt 173 t18_8) w fun t19_9 =>
 RunA Try.prog (Instr.indexAt 173 t19_9 t13_2) fun t22_10 =>
 RunA Try.prog (Instr.fieldAt 177 t22_10 1) fun t23_11 =>
 RunU Try.prog (Instr.storeAt 9 t23_11 a2) w fun w =>
 j_5 t14_3 w) (
 RunA Try.prog (nilV a0) fun t26_12 =>
 RunA Try.prog (Instr.fieldAt 175 t26_12 0) fun t27_13 =>
 RunW Try.prog (Instr.loadAt 173 t27_13) w fun t28_14 =>
 RunV Try.prog (Instr.build 177 #[(0, a1), (1, a2)]) w fun t32_15 w =>
 RunV Try.prog (Instr.buildSlice 173 1 #[(0, t32_15)]) w fun t33_16 w =>
 CallF Try.prog 118 #[t28_14, t13_2, t33_16] w fun t34_17 w =>
 RunA Try.prog (nilV a0) fun t35_18 =>
 RunA Try.prog (Instr.fieldAt 175 t35_18 0) fun t36_19 =>
 RunU Try.prog (Instr.storeAt 173 t36_19 t34_17) w fun w =>
 j_5 t14_3 w)
theorem sh88_calls {a0 a1 a2 : Value} {w : World} {R : Value → World → Prop} (h : sh88 a0 a1 a2 w R) : CallF Try.prog 88 #[a0, a1, a2] w R :=
  calls_of_denF (mk := false) (args := [a0, a1, a2]) (an := (.seq (.ops [0, 1, 2]) (.seq (.ops [0, 1, 2, 7, 8]) (.seq (.join [8] (.seq (.ops [0, 1, 2, 7, 8, 15]) (.cond (.ops [8]) (.ops [8])))) (.seq (.ops [6]) .leaf))))) (c := Try.f88.body.getD .skip) hentD Try.func88 rfl (Nat.le_of_ble_eq_true (by kernel_rfl))
    (Eq.mp (show sh88 a0 a1 a2 w R = denF Try.prog entD false Try.f88 (.seq (.ops [0, 1, 2]) (.seq (.ops [0, 1, 2, 7, 8]) (.seq (.join [8] (.seq (.ops [0, 1, 2, 7, 8, 15]) (.cond (.ops [8]) (.ops [8])))) (.seq (.ops [6]) .leaf)))) (Try.f88.body.getD .skip) [a0, a1, a2] w R by kernel_rfl) h)

/-! ### 89: handbill/diff.Of[string]$1 -/
def sh89 (a0 a1 a2 : Value) (w : World) (R : Value → World → Prop) : Prop :=
 RunV Try.prog (Instr.box 143 a0) w fun t3_1 w =>
 drw (fun S_2 w =>
 RunS Try.prog S_2 (Instr.loadAt 85 a1) fun t9_3 =>
 RunS Try.prog S_2 (Instr.loadAt 85 a2) fun t11_4 =>
 CallF Try.prog 91 #[t9_3] w fun t10_5 w =>
 S_2 w ∧ (
 CallF Try.prog 91 #[t11_4] w fun t12_6 w =>
 CallF Try.prog 90 #[t10_5, t12_6] w fun t13_7 w =>
 rngP Try.prog none 2 4 (fun l_8 K_9 t14_15 t15_16 w =>
 K_9 a1 a2 t3_1 t14_15 w) (fun l_8 kn_10 ks_11 t1_17 t2_18 t3_19 t4_20 w =>
 jn 0 (fun w =>
 kn_10 w) fun j_21 =>
 RunW Try.prog (Instr.loadAt 85 t1_17) w fun t17_22 =>
 CallF Try.prog 92 #[t17_22, t4_20] w fun t19_23 w =>
 RunA Try.prog (Instr.extract t19_23 0) fun t20_24 =>
 RunA Try.prog (Instr.extract t19_23 1) fun t21_25 =>
 RunW Try.prog (Instr.loadAt 85 t2_18) w fun t23_26 =>
 CallF Try.prog 92 #[t23_26, t4_20] w fun t25_27 w =>
 RunA Try.prog (Instr.extract t25_27 0) fun t26_28 =>
 RunA Try.prog (Instr.extract t25_27 1) fun t27_29 =>
 jn 4 (fun t3_30 t4_31 t7_32 t8_33 w =>
 RunW Try.prog (Instr.loadAt 143 t3_30) w fun t36_35 =>
 RunA Try.prog (Op.unary .not t8_33) fun t40_36 =>
 RunV Try.prog (Instr.build 105 #[(0, t4_31), (1, t7_32), (2, t40_36)]) w fun t41_37 w =>
 CallV Try.prog t36_35 #[t41_37] w fun t42_38 w =>
 RunA Try.prog (Op.unary .not t42_38) fun t43_39 =>
 IfB t43_39 (
 ks_11 .ret w) (
 j_21 w)) fun j_34 =>
 RunW Try.prog (bin .eql 4 (.tmp 28) (.tmp 29) t21_25 t27_29) w fun t30_40 =>
 IfB t30_40 (
 RunW Try.prog (bin .eql 9 (.tmp 32) (.tmp 33) t20_24 t26_28) w fun t34_41 =>
 IfB t34_41 (
 j_21 w) (
 j_34 t3_19 t4_20 t26_28 t27_29 w)) (
 j_34 t3_19 t4_20 t26_28 t27_29 w)) t13_7 w (fun D_12 w =>
 (w).heap[D_12]? = some (.deferred (some [])) ∧ (
 R (.tuple #[]) (w.putObj D_12 (.deferred none)))) (fun D_12 c_13 w => jumpK (fun i_14 w =>
 bif Nat.beq i_14 0 then (
 (w).heap[D_12]? = some (.deferred (some [])) ∧ (
 R (.tuple #[]) (w.putObj D_12 (.deferred none)))) else (
 False)) (fun w =>
 (w).heap[D_12]? = some (.deferred (some [])) ∧ (
 R (.tuple #[]) (w.putObj D_12 (.deferred none)))) c_13 w))) w
theorem sh89_calls {a0 a1 a2 : Value} {w : World} {R : Value → World → Prop} (h : sh89 a0 a1 a2 w R) : CallF Try.prog 89 #[a0, a1, a2] w R :=
  calls_of_denF (mk := true) (args := [a0, a1, a2]) (an := (.seq (.ops [1, 2, 3]) (.seq (.draw (.q 0 (.q 2 (.one 1 (.one 3 (.one 4 .fin))))) [1, 2, 3, 13]) (.blk (.rng [1, 2, 3, 4] (.ops [1, 2, 3, 4]) (.join [] (.blk (.seq (.ops [2, 3, 4, 5, 6]) (.seq (.ops [3, 4, 5, 6, 7, 8]) (.seq (.join [3, 4, 7, 8] (.seq (.ops [3, 4, 7, 8, 35]) (.cond .leaf .leaf))) (.seq (.ops [43]) (.cond .leaf .leaf)))))))))))) (c := Try.f89.body.getD .skip) hentD Try.func89 rfl (Nat.le_of_ble_eq_true (by kernel_rfl))
    (Eq.mp (show sh89 a0 a1 a2 w R = denF Try.prog entD true Try.f89 (.seq (.ops [1, 2, 3]) (.seq (.draw (.q 0 (.q 2 (.one 1 (.one 3 (.one 4 .fin))))) [1, 2, 3, 13]) (.blk (.rng [1, 2, 3, 4] (.ops [1, 2, 3, 4]) (.join [] (.blk (.seq (.ops [2, 3, 4, 5, 6]) (.seq (.ops [3, 4, 5, 6, 7, 8]) (.seq (.join [3, 4, 7, 8] (.seq (.ops [3, 4, 7, 8, 35]) (.cond .leaf .leaf))) (.seq (.ops [43]) (.cond .leaf .leaf))))))))))) (Try.f89.body.getD .skip) [a0, a1, a2] w R by kernel_rfl) h)

/-! ### 90: handbill/omap.Merge[string,string] -/
def sh90 (a0 a1 : Value) (w : World) (R : Value → World → Prop) : Prop :=
 RunV Try.prog (Instr.box 145 a0) w fun t2_1 w =>
 RunV Try.prog (Instr.box 145 a1) w fun t3_2 w =>
 RunV Try.prog (Instr.makeFunc (Go.Fn.func 119) #[] #[t2_1, t3_2]) w fun t5_3 w =>
 R t5_3 w
theorem sh90_calls {a0 a1 : Value} {w : World} {R : Value → World → Prop} (h : sh90 a0 a1 w R) : CallF Try.prog 90 #[a0, a1] w R :=
  calls_of_denF (mk := false) (args := [a0, a1]) (an := (.seq (.ops [2, 3]) (.seq (.ops [4]) .leaf))) (c := Try.f90.body.getD .skip) hentD Try.func90 rfl (Nat.le_of_ble_eq_true (by kernel_rfl))
    (Eq.mp (show sh90 a0 a1 w R = denF Try.prog entD false Try.f90 (.seq (.ops [2, 3]) (.seq (.ops [4]) .leaf)) (Try.f90.body.getD .skip) [a0, a1] w R by kernel_rfl) h)

/-! ### 91: handbill/diff.all[string] -/
def sh91 (a0 : Value) (w : World) (R : Value → World → Prop) : Prop :=
 RunW Try.prog (bin .eql 85 (.tmp 3) (.const (.pointer none)) a0 (.pointer none)) w fun t4_1 =>
 IfB t4_1 (
 R (.func (.func 121) #[] #[]) w) (
 CallF Try.prog 93 #[a0] w fun t6_2 w =>
 R t6_2 w)
theorem sh91_calls {a0 : Value} {w : World} {R : Value → World → Prop} (h : sh91 a0 w R) : CallF Try.prog 91 #[a0] w R :=
  calls_of_denF (mk := false) (args := [a0]) (an := (.seq (.ops [0]) (.seq (.seq (.ops [0, 4]) (.cond (.seq (.ops [2]) .leaf) .leaf)) (.seq (.ops [2]) .leaf)))) (c := Try.f91.body.getD .skip) hentD Try.func91 rfl (Nat.le_of_ble_eq_true (by kernel_rfl))
    (Eq.mp (show sh91 a0 w R = denF Try.prog entD false Try.f91 (.seq (.ops [0]) (.seq (.seq (.ops [0, 4]) (.cond (.seq (.ops [2]) .leaf) .leaf)) (.seq (.ops [2]) .leaf))) (Try.f91.body.getD .skip) [a0] w R by kernel_rfl) h)

/-! ### 92: handbill/diff.get[string] -/
def sh92 (a0 a1 : Value) (w : World) (R : Value → World → Prop) : Prop :=
 RunW Try.prog (bin .eql 85 (.tmp 7) (.const (.pointer none)) a0 (.pointer none)) w fun t8_1 =>
 IfB t8_1 (
 R (.tuple #[(.string ⟨#[]⟩), (.bool false)]) w) (
 CallF Try.prog 122 #[a0, a1] w fun t12_2 w =>
 RunA Try.prog (Instr.extract t12_2 0) fun t13_3 =>
 RunA Try.prog (Instr.extract t12_2 1) fun t14_4 =>
 R (.tuple #[t13_3, t14_4]) w)
theorem sh92_calls {a0 a1 : Value} {w : World} {R : Value → World → Prop} (h : sh92 a0 a1 w R) : CallF Try.prog 92 #[a0, a1] w R :=
  calls_of_denF (mk := false) (args := [a0, a1]) (an := (.seq (.ops [0, 1]) (.seq (.seq (.ops [0, 1, 8]) (.cond (.seq (.ops [6]) (.seq (.ops [4, 5]) .leaf)) .leaf)) (.seq (.ops [4, 5]) .leaf)))) (c := Try.f92.body.getD .skip) hentD Try.func92 rfl (Nat.le_of_ble_eq_true (by kernel_rfl))
    (Eq.mp (show sh92 a0 a1 w R = denF Try.prog entD false Try.f92 (.seq (.ops [0, 1]) (.seq (.seq (.ops [0, 1, 8]) (.cond (.seq (.ops [6]) (.seq (.ops [4, 5]) .leaf)) .leaf)) (.seq (.ops [4, 5]) .leaf))) (Try.f92.body.getD .skip) [a0, a1] w R by kernel_rfl) h)

/-! ### 93: (*handbill/omap.Map[string, string]).All -/
def sh93 (a0 : Value) (w : World) (R : Value → World → Prop) : Prop :=
 RunV Try.prog (Instr.box 85 a0) w fun t1_1 w =>
 RunV Try.prog (Instr.makeFunc (Go.Fn.func 123) #[] #[t1_1]) w fun t3_2 w =>
 R t3_2 w
theorem sh93_calls {a0 : Value} {w : World} {R : Value → World → Prop} (h : sh93 a0 w R) : CallF Try.prog 93 #[a0] w R :=
  calls_of_denF (mk := false) (args := [a0]) (an := (.seq (.ops [1]) (.seq (.ops [2]) .leaf))) (c := Try.f93.body.getD .skip) hentD Try.func93 rfl (Nat.le_of_ble_eq_true (by kernel_rfl))
    (Eq.mp (show sh93 a0 w R = denF Try.prog entD false Try.f93 (.seq (.ops [1]) (.seq (.ops [2]) .leaf)) (Try.f93.body.getD .skip) [a0] w R by kernel_rfl) h)

/-! ### 94: handbill/diff.After[string]$1 -/
def sh94 (a0 a1 a2 : Value) (w : World) (R : Value → World → Prop) : Prop :=
 RunV Try.prog (Instr.box 143 a0) w fun t3_1 w =>
 RunW Try.prog (Instr.loadAt 88 a1) w fun t5_2 =>
 RunW Try.prog (bin .eql 88 (.tmp 5) (.const (.nilFunc)) t5_2 (.nilFunc)) w fun t6_3 =>
 IfB t6_3 (
 R (.tuple #[]) w) (
 RunW Try.prog (Instr.loadAt 88 a1) w fun t7_4 =>
 rngP Try.prog none 1 3 (fun l_5 K_6 t8_12 w =>
 RunV Try.prog (Instr.alloc 105 true (.tuple #[])) w fun t4_16 w =>
 RunU Try.prog (Instr.storeAt 105 t4_16 t8_12) w fun w =>
 K_6 a2 t3_1 t4_16 w) (fun l_5 kn_7 ks_8 t2_13 t3_14 t4_15 w =>
 jn 0 (fun w =>
 kn_7 w) fun j_17 =>
 RunA Try.prog (Instr.fieldAt 105 t4_15 0) fun t9_18 =>
 RunW Try.prog (Instr.loadAt 9 t9_18) w fun t10_19 =>
 RunW Try.prog (Instr.loadAt 9 t2_13) w fun t11_20 =>
 RunA Try.prog (bin .gtr 9 (.tmp 10) (.tmp 11) t10_19 t11_20) fun t12_21 =>
 IfB t12_21 (
 RunW Try.prog (Instr.loadAt 143 t3_14) w fun t14_22 =>
 RunW Try.prog (Instr.loadAt 105 t4_15) w fun t15_23 =>
 CallV Try.prog t14_22 #[t15_23] w fun t16_24 w =>
 RunA Try.prog (Op.unary .not t16_24) fun t17_25 =>
 IfB t17_25 (
 ks_8 .ret w) (
 j_17 w)) (
 j_17 w)) t7_4 w (fun D_9 w =>
 (w).heap[D_9]? = some (.deferred (some [])) ∧ (
 R (.tuple #[]) (w.putObj D_9 (.deferred none)))) (fun D_9 c_10 w => jumpK (fun i_11 w =>
 bif Nat.beq i_11 0 then (
 (w).heap[D_9]? = some (.deferred (some [])) ∧ (
 R (.tuple #[]) (w.putObj D_9 (.deferred none)))) else (
 False)) (fun w =>
 (w).heap[D_9]? = some (.deferred (some [])) ∧ (
 R (.tuple #[]) (w.putObj D_9 (.deferred none)))) c_10 w))
theorem sh94_calls {a0 a1 a2 : Value} {w : World} {R : Value → World → Prop} (h : sh94 a0 a1 a2 w R) : CallF Try.prog 94 #[a0, a1, a2] w R :=
  calls_of_denF (mk := true) (args := [a0, a1, a2]) (an := (.seq (.ops [1, 2, 3]) (.seq (.seq (.ops [1, 2, 3, 6]) (.cond .leaf .leaf)) (.seq (.ops [2, 3, 7]) (.blk (.rng [2, 3, 4] (.ops [2, 3, 4]) (.blk (.join [] (.seq (.ops [18]) (.cond .leaf .leaf)))))))))) (c := Try.f94.body.getD .skip) hentD Try.func94 rfl (Nat.le_of_ble_eq_true (by kernel_rfl))
    (Eq.mp (show sh94 a0 a1 a2 w R = denF Try.prog entD true Try.f94 (.seq (.ops [1, 2, 3]) (.seq (.seq (.ops [1, 2, 3, 6]) (.cond .leaf .leaf)) (.seq (.ops [2, 3, 7]) (.blk (.rng [2, 3, 4] (.ops [2, 3, 4]) (.blk (.join [] (.seq (.ops [18]) (.cond .leaf .leaf))))))))) (Try.f94.body.getD .skip) [a0, a1, a2] w R by kernel_rfl) h)

/-! ### 95: (*handbill/omap.Map[string, string]).Copy -/
def sh95 (a0 : Value) (w : World) (R : Value → World → Prop) : Prop :=
 RunA Try.prog (nilV a0) fun t4_1 =>
 RunA Try.prog (Instr.fieldAt 175 t4_1 0) fun t5_2 =>
 RunW Try.prog (Instr.loadAt 173 t5_2) w fun t6_3 =>
 CallF Try.prog 124 #[t6_3] w fun t7_4 w =>
 RunV Try.prog (Instr.build 175 #[(0, t7_4)]) w fun t8_5 w =>
 RunV Try.prog (Instr.box 175 t8_5) w fun t9_6 w =>
 R t9_6 w
theorem sh95_calls {a0 : Value} {w : World} {R : Value → World → Prop} (h : sh95 a0 w R) : CallF Try.prog 95 #[a0] w R :=
  calls_of_denF (mk := false) (args := [a0]) (an := (.seq (.ops [0]) (.seq (.ops [2]) .leaf))) (c := Try.f95.body.getD .skip) hentD Try.func95 rfl (Nat.le_of_ble_eq_true (by kernel_rfl))
    (Eq.mp (show sh95 a0 w R = denF Try.prog entD false Try.f95 (.seq (.ops [0]) (.seq (.ops [2]) .leaf)) (Try.f95.body.getD .skip) [a0] w R by kernel_rfl) h)

/-! ### 96: (*handbill/omap.Map[string, string]).Delete -/
def sh96 (a0 a1 : Value) (w : World) (R : Value → World → Prop) : Prop :=
 CallF Try.prog 117 #[a0, a1] w fun t10_1 w =>
 RunA Try.prog (Instr.extract t10_1 0) fun t11_2 =>
 RunA Try.prog (Instr.extract t10_1 1) fun t12_3 =>
 jn 1 (fun t6_4 w =>
 R t6_4 w) fun j_5 =>
 IfB t12_3 (
 RunA Try.prog (nilV a0) fun t16_6 =>
 RunA Try.prog (Instr.fieldAt 175 t16_6 0) fun t17_7 =>
 RunW Try.prog (Instr.loadAt 173 t17_7) w fun t18_8 =>
 RunA Try.prog (bin .add 3 (.tmp 20) (.const (.int .i64 1)) t11_2 (.int .i64 1)) fun t21_9 =>
 CallF Try.prog 125 #[t18_8, t11_2, t21_9] w fun t22_10 w =>
 RunA Try.prog (nilV a0) fun t23_11 =>
 RunA Try.prog (Instr.fieldAt 175 t23_11 0) fun t24_12 =>
 RunU Try.prog (Instr.storeAt 173 t24_12 t22_10) w fun w =>
 j_5 t12_3 w) (
 j_5 t12_3 w)
theorem sh96_calls {a0 a1 : Value} {w : World} {R : Value → World → Prop} (h : sh96 a0 a1 w R) : CallF Try.prog 96 #[a0, a1] w R :=
  calls_of_denF (mk := false) (args := [a0, a1]) (an := (.seq (.ops [0, 1]) (.seq (.ops [0, 5, 6]) (.seq (.join [6] (.seq (.ops [0, 5, 6, 13]) (.cond (.ops [6]) .leaf))) (.seq (.ops [4]) .leaf))))) (c := Try.f96.body.getD .skip) hentD Try.func96 rfl (Nat.le_of_ble_eq_true (by kernel_rfl))
    (Eq.mp (show sh96 a0 a1 w R = denF Try.prog entD false Try.f96 (.seq (.ops [0, 1]) (.seq (.ops [0, 5, 6]) (.seq (.join [6] (.seq (.ops [0, 5, 6, 13]) (.cond (.ops [6]) .leaf))) (.seq (.ops [4]) .leaf)))) (Try.f96.body.getD .skip) [a0, a1] w R by kernel_rfl) h)

/-! ### 111: handbill/diff.Of[int]$1 -/
def sh111 (a0 a1 a2 : Value) (w : World) (R : Value → World → Prop) : Prop :=
 RunV Try.prog (Instr.box 164 a0) w fun t3_1 w =>
 drw (fun S_2 w =>
 RunS Try.prog S_2 (Instr.loadAt 24 a1) fun t9_3 =>
 RunS Try.prog S_2 (Instr.loadAt 24 a2) fun t11_4 =>
 CallF Try.prog 113 #[t9_3] w fun t10_5 w =>
 S_2 w ∧ (
 CallF Try.prog 113 #[t11_4] w fun t12_6 w =>
 CallF Try.prog 112 #[t10_5, t12_6] w fun t13_7 w =>
 rngP Try.prog none 2 4 (fun l_8 K_9 t14_15 t15_16 w =>
 K_9 a1 a2 t3_1 t14_15 w) (fun l_8 kn_10 ks_11 t1_17 t2_18 t3_19 t4_20 w =>
 jn 0 (fun w =>
 kn_10 w) fun j_21 =>
 RunW Try.prog (Instr.loadAt 24 t1_17) w fun t17_22 =>
 CallF Try.prog 114 #[t17_22, t4_20] w fun t19_23 w =>
 RunA Try.prog (Instr.extract t19_23 0) fun t20_24 =>
 RunA Try.prog (Instr.extract t19_23 1) fun t21_25 =>
 RunW Try.prog (Instr.loadAt 24 t2_18) w fun t23_26 =>
 CallF Try.prog 114 #[t23_26, t4_20] w fun t25_27 w =>
 RunA Try.prog (Instr.extract t25_27 0) fun t26_28 =>
 RunA Try.prog (Instr.extract t25_27 1) fun t27_29 =>
 jn 4 (fun t3_30 t4_31 t7_32 t8_33 w =>
 RunW Try.prog (Instr.loadAt 164 t3_30) w fun t36_35 =>
 RunA Try.prog (Op.unary .not t8_33) fun t40_36 =>
 RunV Try.prog (Instr.build 169 #[(0, t4_31), (1, t7_32), (2, t40_36)]) w fun t41_37 w =>
 CallV Try.prog t36_35 #[t41_37] w fun t42_38 w =>
 RunA Try.prog (Op.unary .not t42_38) fun t43_39 =>
 IfB t43_39 (
 ks_11 .ret w) (
 j_21 w)) fun j_34 =>
 RunW Try.prog (bin .eql 4 (.tmp 28) (.tmp 29) t21_25 t27_29) w fun t30_40 =>
 IfB t30_40 (
 RunW Try.prog (bin .eql 3 (.tmp 32) (.tmp 33) t20_24 t26_28) w fun t34_41 =>
 IfB t34_41 (
 j_21 w) (
 j_34 t3_19 t4_20 t26_28 t27_29 w)) (
 j_34 t3_19 t4_20 t26_28 t27_29 w)) t13_7 w (fun D_12 w =>
 (w).heap[D_12]? = some (.deferred (some [])) ∧ (
 R (.tuple #[]) (w.putObj D_12 (.deferred none)))) (fun D_12 c_13 w => jumpK (fun i_14 w =>
 bif Nat.beq i_14 0 then (
 (w).heap[D_12]? = some (.deferred (some [])) ∧ (
 R (.tuple #[]) (w.putObj D_12 (.deferred none)))) else (
 False)) (fun w =>
 (w).heap[D_12]? = some (.deferred (some [])) ∧ (
 R (.tuple #[]) (w.putObj D_12 (.deferred none)))) c_13 w))) w
theorem sh111_calls {a0 a1 a2 : Value} {w : World} {R : Value → World → Prop} (h : sh111 a0 a1 a2 w R) : CallF Try.prog 111 #[a0, a1, a2] w R :=
  calls_of_denF (mk := true) (args := [a0, a1, a2]) (an := (.seq (.ops [1, 2, 3]) (.seq (.draw (.q 0 (.q 2 (.one 1 (.one 3 (.one 4 .fin))))) [1, 2, 3, 13]) (.blk (.rng [1, 2, 3, 4] (.ops [1, 2, 3, 4]) (.join [] (.blk (.seq (.ops [2, 3, 4, 5, 6]) (.seq (.ops [3, 4, 5, 6, 7, 8]) (.seq (.join [3, 4, 7, 8] (.seq (.ops [3, 4, 7, 8, 35]) (.cond .leaf .leaf))) (.seq (.ops [43]) (.cond .leaf .leaf)))))))))))) (c := Try.f111.body.getD .skip) hentD Try.func111 rfl (Nat.le_of_ble_eq_true (by kernel_rfl))
    (Eq.mp (show sh111 a0 a1 a2 w R = denF Try.prog entD true Try.f111 (.seq (.ops [1, 2, 3]) (.seq (.draw (.q 0 (.q 2 (.one 1 (.one 3 (.one 4 .fin))))) [1, 2, 3, 13]) (.blk (.rng [1, 2, 3, 4] (.ops [1, 2, 3, 4]) (.join [] (.blk (.seq (.ops [2, 3, 4, 5, 6]) (.seq (.ops [3, 4, 5, 6, 7, 8]) (.seq (.join [3, 4, 7, 8] (.seq (.ops [3, 4, 7, 8, 35]) (.cond .leaf .leaf))) (.seq (.ops [43]) (.cond .leaf .leaf))))))))))) (Try.f111.body.getD .skip) [a0, a1, a2] w R by kernel_rfl) h)

/-! ### 112: handbill/omap.Merge[string,int] -/
def sh112 (a0 a1 : Value) (w : World) (R : Value → World → Prop) : Prop :=
 RunV Try.prog (Instr.box 32 a0) w fun t2_1 w =>
 RunV Try.prog (Instr.box 32 a1) w fun t3_2 w =>
 RunV Try.prog (Instr.makeFunc (Go.Fn.func 131) #[] #[t2_1, t3_2]) w fun t5_3 w =>
 R t5_3 w
theorem sh112_calls {a0 a1 : Value} {w : World} {R : Value → World → Prop} (h : sh112 a0 a1 w R) : CallF Try.prog 112 #[a0, a1] w R :=
  calls_of_denF (mk := false) (args := [a0, a1]) (an := (.seq (.ops [2, 3]) (.seq (.ops [4]) .leaf))) (c := Try.f112.body.getD .skip) hentD Try.func112 rfl (Nat.le_of_ble_eq_true (by kernel_rfl))
    (Eq.mp (show sh112 a0 a1 w R = denF Try.prog entD false Try.f112 (.seq (.ops [2, 3]) (.seq (.ops [4]) .leaf)) (Try.f112.body.getD .skip) [a0, a1] w R by kernel_rfl) h)

/-! ### 113: handbill/diff.all[int] -/
def sh113 (a0 : Value) (w : World) (R : Value → World → Prop) : Prop :=
 RunW Try.prog (bin .eql 24 (.tmp 3) (.const (.pointer none)) a0 (.pointer none)) w fun t4_1 =>
 IfB t4_1 (
 R (.func (.func 133) #[] #[]) w) (
 CallF Try.prog 19 #[a0] w fun t6_2 w =>
 R t6_2 w)
theorem sh113_calls {a0 : Value} {w : World} {R : Value → World → Prop} (h : sh113 a0 w R) : CallF Try.prog 113 #[a0] w R :=
  calls_of_denF (mk := false) (args := [a0]) (an := (.seq (.ops [0]) (.seq (.seq (.ops [0, 4]) (.cond (.seq (.ops [2]) .leaf) .leaf)) (.seq (.ops [2]) .leaf)))) (c := Try.f113.body.getD .skip) hentD Try.func113 rfl (Nat.le_of_ble_eq_true (by kernel_rfl))
    (Eq.mp (show sh113 a0 w R = denF Try.prog entD false Try.f113 (.seq (.ops [0]) (.seq (.seq (.ops [0, 4]) (.cond (.seq (.ops [2]) .leaf) .leaf)) (.seq (.ops [2]) .leaf))) (Try.f113.body.getD .skip) [a0] w R by kernel_rfl) h)

/-! ### 114: handbill/diff.get[int] -/
def sh114 (a0 a1 : Value) (w : World) (R : Value → World → Prop) : Prop :=
 RunW Try.prog (bin .eql 24 (.tmp 7) (.const (.pointer none)) a0 (.pointer none)) w fun t8_1 =>
 IfB t8_1 (
 R (.tuple #[(.int .i64 0), (.bool false)]) w) (
 CallF Try.prog 23 #[a0, a1] w fun t12_2 w =>
 RunA Try.prog (Instr.extract t12_2 0) fun t13_3 =>
 RunA Try.prog (Instr.extract t12_2 1) fun t14_4 =>
 R (.tuple #[t13_3, t14_4]) w)
theorem sh114_calls {a0 a1 : Value} {w : World} {R : Value → World → Prop} (h : sh114 a0 a1 w R) : CallF Try.prog 114 #[a0, a1] w R :=
  calls_of_denF (mk := false) (args := [a0, a1]) (an := (.seq (.ops [0, 1]) (.seq (.seq (.ops [0, 1, 8]) (.cond (.seq (.ops [6]) (.seq (.ops [4, 5]) .leaf)) .leaf)) (.seq (.ops [4, 5]) .leaf)))) (c := Try.f114.body.getD .skip) hentD Try.func114 rfl (Nat.le_of_ble_eq_true (by kernel_rfl))
    (Eq.mp (show sh114 a0 a1 w R = denF Try.prog entD false Try.f114 (.seq (.ops [0, 1]) (.seq (.seq (.ops [0, 1, 8]) (.cond (.seq (.ops [6]) (.seq (.ops [4, 5]) .leaf)) .leaf)) (.seq (.ops [4, 5]) .leaf))) (Try.f114.body.getD .skip) [a0, a1] w R by kernel_rfl) h)

/-! ### 117: (*handbill/omap.Map[string, string]).find -/
def sh117 (a0 a1 : Value) (w : World) (R : Value → World → Prop) : Prop :=
 RunA Try.prog (nilV a0) fun t7_1 =>
 RunA Try.prog (Instr.fieldAt 175 t7_1 0) fun t8_2 =>
 RunW Try.prog (Instr.loadAt 173 t8_2) w fun t9_3 =>
 CallF Try.prog 135 #[t9_3, a1, (.func (.func 136) #[] #[])] w fun t11_4 w =>
 RunA Try.prog (Instr.extract t11_4 0) fun t12_5 =>
 RunA Try.prog (Instr.extract t11_4 1) fun t13_6 =>
 R (.tuple #[t12_5, t13_6]) w
theorem sh117_calls {a0 a1 : Value} {w : World} {R : Value → World → Prop} (h : sh117 a0 a1 w R) : CallF Try.prog 117 #[a0, a1] w R :=
  calls_of_denF (mk := false) (args := [a0, a1]) (an := (.seq (.ops [0, 1]) (.seq (.ops [4, 5]) .leaf))) (c := Try.f117.body.getD .skip) hentD Try.func117 rfl (Nat.le_of_ble_eq_true (by kernel_rfl))
    (Eq.mp (show sh117 a0 a1 w R = denF Try.prog entD false Try.f117 (.seq (.ops [0, 1]) (.seq (.ops [4, 5]) .leaf)) (Try.f117.body.getD .skip) [a0, a1] w R by kernel_rfl) h)

/-! ### 118: slices.Insert[[]handbill/omap.pair[string, string],handbill/omap.pair[string, string]] -/
def sh118 (a0 a1 a2 : Value) (w : World) (R : Value → World → Prop) : Prop :=
 RunA Try.prog (Instr.sliceAt 173 a0 (some a1) none none) fun t12_1 =>
 RunW Try.prog (Builtin.len_ #[173] 3 #[a2]) w fun t14_2 =>
 RunW Try.prog (bin .eql 3 (.tmp 15) (.const (.int .i64 0)) t14_2 (.int .i64 0)) w fun t16_3 =>
 IfB t16_3 (
 R a0 w) (
 RunW Try.prog (Builtin.len_ #[173] 3 #[a0]) w fun t19_4 =>
 RunW Try.prog (bin .eql 3 (.tmp 20) (.tmp 21) a1 t19_4) w fun t22_5 =>
 IfB t22_5 (
 RunV Try.prog (Builtin.append_ #[173, 173] 173 #[a0, a2]) w fun t25_6 w =>
 R t25_6 w) (
 RunA Try.prog (bin .add 3 (.tmp 26) (.tmp 27) t19_4 t14_2) fun t28_7 =>
 RunW Try.prog (Builtin.cap_ #[173] 3 #[a0]) w fun t30_8 =>
 RunA Try.prog (bin .gtr 3 (.tmp 28) (.tmp 30) t28_7 t30_8) fun t31_9 =>
 IfB t31_9 (
 RunA Try.prog (Instr.sliceAt 173 a0 none (some a1) none) fun t34_10 =>
 RunA Try.prog (bin .add 3 (.tmp 35) (.tmp 36) t19_4 t14_2) fun t37_11 =>
 RunA Try.prog (bin .sub 3 (.tmp 37) (.tmp 38) t37_11 a1) fun t39_12 =>
 RunV Try.prog (Builtin.append_ #[173, 3] 173 #[t34_10, t39_12]) w fun t40_13 w =>
 RunA Try.prog (Instr.sliceAt 173 t40_13 (some a1) none none) fun t43_14 =>
 RunV Try.prog (Builtin.copy_ #[173, 173] 3 #[t43_14, a2]) w fun t45_15 w =>
 drw (fun S_16 w =>
 RunA Try.prog (bin .add 3 (.tmp 47) (.tmp 48) a1 t14_2) fun t49_17 =>
 RunA Try.prog (Instr.sliceAt 173 t40_13 (some t49_17) none none) fun t50_18 =>
 RunA Try.prog (Instr.sliceAt 173 a0 (some a1) none none) fun t53_19 =>
 RunV Try.prog (Builtin.copy_ #[173, 173] 3 #[t50_18, t53_19]) w fun t54_20 w =>
 R t40_13 w) w) (
 RunA Try.prog (bin .add 3 (.tmp 57) (.tmp 58) t19_4 t14_2) fun t59_21 =>
 RunA Try.prog (Instr.sliceAt 173 a0 none (some t59_21) none) fun t60_22 =>
 RunA Try.prog (bin .add 3 (.tmp 63) (.tmp 64) a1 t14_2) fun t65_23 =>
 RunA Try.prog (Instr.sliceAt 173 t60_22 (some t65_23) none none) fun t66_24 =>
 RunO Try.prog (callFunc 137 #[a2, t66_24]) w fun t67_25 w =>
 RunA Try.prog (Op.unary .not t67_25) fun t68_26 =>
 IfB t68_26 (
 drw (fun S_27 w =>
 RunA Try.prog (bin .add 3 (.tmp 70) (.tmp 71) a1 t14_2) fun t72_28 =>
 RunA Try.prog (Instr.sliceAt 173 t60_22 (some t72_28) none none) fun t73_29 =>
 RunA Try.prog (Instr.sliceAt 173 t60_22 (some a1) none none) fun t76_30 =>
 RunV Try.prog (Builtin.copy_ #[173, 173] 3 #[t73_29, t76_30]) w fun t77_31 w =>
 RunA Try.prog (Instr.sliceAt 173 t60_22 (some a1) none none) fun t80_32 =>
 RunV Try.prog (Builtin.copy_ #[173, 173] 3 #[t80_32, a2]) w fun t82_33 w =>
 R t60_22 w) w) (
 RunA Try.prog (Instr.sliceAt 173 t60_22 (some t19_4) none none) fun t86_34 =>
 RunV Try.prog (Builtin.copy_ #[173, 173] 3 #[t86_34, a2]) w fun t88_35 w =>
 RunA Try.prog (Instr.sliceAt 173 t60_22 (some a1) none none) fun t91_36 =>
 CallF Try.prog 138 #[t91_36, t14_2] w fun t93_37 w =>
 R t60_22 w))))
theorem sh118_calls {a0 a1 a2 : Value} {w : World} {R : Value → World → Prop} (h : sh118 a0 a1 a2 w R) : CallF Try.prog 118 #[a0, a1, a2] w R :=
  calls_of_denF (mk := false) (args := [a0, a1, a2]) (an := (.seq (.ops [0, 1, 2]) (.seq (.ops [0, 1, 2]) (.seq (.ops [0, 1, 2, 7]) (.seq (.seq (.ops [0, 1, 2, 7, 16]) (.cond (.seq (.ops [6]) .leaf) .leaf)) (.seq (.ops [0, 1, 2, 7, 8]) (.seq (.seq (.ops [0, 1, 2, 7, 8, 22]) (.cond (.seq (.ops [6]) .leaf) .leaf)) (.seq (.seq (.ops [0, 1, 2, 7, 8, 31]) (.cond (.seq (.ops [0, 1, 2, 7, 9]) (.seq (.ops [0, 1, 7, 9]) (.seq (.draw (.q 0 (.q 1 (.q 2 (.q 3 (.q 4 (.q 5 (.q 6 (.q 7 (.one 8 .fin))))))))) [9]) (.seq (.ops [6]) .leaf)))) .leaf)) (.seq (.ops [0, 1, 2, 7, 8]) (.seq (.seq (.ops [0, 1, 2, 7, 8, 68]) (.cond (.seq (.draw (.q 0 (.q 1 (.q 2 (.q 3 (.q 4 (.q 5 (.q 6 (.q 7 (.one 8 .fin))))))))) [0, 1, 2]) (.seq (.ops [0]) (.seq (.ops [6]) .leaf))) .leaf)) (.seq (.ops [0, 1, 7]) (.seq (.ops [0]) (.seq (.ops [6]) .leaf))))))))))))) (c := Try.f118.body.getD .skip) hentD Try.func118 rfl (Nat.le_of_ble_eq_true (by kernel_rfl))
    (Eq.mp (show sh118 a0 a1 a2 w R = denF Try.prog entD false Try.f118 (.seq (.ops [0, 1, 2]) (.seq (.ops [0, 1, 2]) (.seq (.ops [0, 1, 2, 7]) (.seq (.seq (.ops [0, 1, 2, 7, 16]) (.cond (.seq (.ops [6]) .leaf) .leaf)) (.seq (.ops [0, 1, 2, 7, 8]) (.seq (.seq (.ops [0, 1, 2, 7, 8, 22]) (.cond (.seq (.ops [6]) .leaf) .leaf)) (.seq (.seq (.ops [0, 1, 2, 7, 8, 31]) (.cond (.seq (.ops [0, 1, 2, 7, 9]) (.seq (.ops [0, 1, 7, 9]) (.seq (.draw (.q 0 (.q 1 (.q 2 (.q 3 (.q 4 (.q 5 (.q 6 (.q 7 (.one 8 .fin))))))))) [9]) (.seq (.ops [6]) .leaf)))) .leaf)) (.seq (.ops [0, 1, 2, 7, 8]) (.seq (.seq (.ops [0, 1, 2, 7, 8, 68]) (.cond (.seq (.draw (.q 0 (.q 1 (.q 2 (.q 3 (.q 4 (.q 5 (.q 6 (.q 7 (.one 8 .fin))))))))) [0, 1, 2]) (.seq (.ops [0]) (.seq (.ops [6]) .leaf))) .leaf)) (.seq (.ops [0, 1, 7]) (.seq (.ops [0]) (.seq (.ops [6]) .leaf)))))))))))) (Try.f118.body.getD .skip) [a0, a1, a2] w R by kernel_rfl) h)

/-! ### 119: handbill/omap.Merge[string,string]$1 -/
def sh119 (a0 a1 a2 : Value) (w : World) (R : Value → World → Prop) : Prop :=
 drw (fun S_1 w =>
 RunS Try.prog S_1 (Instr.loadAt 145 a1) fun t7_2 =>
 RunS Try.prog S_1 (Instr.loadAt 145 a2) fun t9_3 =>
 CallF Try.prog 120 #[t7_2] w fun t8_4 w =>
 S_1 w ∧ (
 CallF Try.prog 120 #[t9_3] w fun t10_5 w =>
 lp 2 (fun n_8 t4_6 t5_7 w =>
 RunW Try.prog (Builtin.len_ #[173] 3 #[t4_6]) w fun t12_9 =>
 RunW Try.prog (Builtin.len_ #[173] 3 #[t5_7]) w fun t14_10 =>
 RunA Try.prog (bin .add 3 (.tmp 12) (.tmp 14) t12_9 t14_10) fun t15_11 =>
 RunA Try.prog (bin .gtr 3 (.tmp 15) (.const (.int .i64 0)) t15_11 (.int .i64 0)) fun t16_12 =>
 IfB t16_12 (
 RunV Try.prog (Instr.alloc 177 true (.tuple #[])) w fun t6_13 w =>
 jn 4 (fun t0_14 t4_15 t5_16 t6_17 w =>
 RunA Try.prog (Instr.fieldAt 177 t6_17 0) fun t70_19 =>
 RunW Try.prog (Instr.loadAt 9 t70_19) w fun t71_20 =>
 RunA Try.prog (Instr.fieldAt 177 t6_17 1) fun t72_21 =>
 RunW Try.prog (Instr.loadAt 9 t72_21) w fun t73_22 =>
 CallV Try.prog t0_14 #[t71_20, t73_22] w fun t74_23 w =>
 RunA Try.prog (Op.unary .not t74_23) fun t75_24 =>
 IfB t75_24 (
 R (.tuple #[]) w) (
 (t0_14 : Value) = a0 ∧ (n_8 t4_15 t5_16 w))) fun j_18 =>
 drw (fun S_25 w =>
 RunS Try.prog S_25 (Builtin.len_ #[173] 3 #[t5_7]) fun t24_26 =>
 RunS Try.prog S_25 (bin .eql 3 (.tmp 24) (.const (.int .i64 0)) t24_26 (.int .i64 0)) fun t25_27 =>
 IfB t25_27 (
 drw (fun S_28 w =>
 RunA Try.prog (Instr.indexAt 173 t4_6 (.int .i64 0)) fun t43_29 =>
 RunS Try.prog S_28 (Instr.loadAt 177 t43_29) fun t44_30 =>
 RunA Try.prog (Instr.sliceAt 173 t4_6 (some (.int .i64 1)) none none) fun t46_31 =>
 RunU Try.prog (Instr.storeAt 177 t6_13 t44_30) w fun w =>
 j_18 a0 t46_31 t5_7 t6_13 w) w) (
 RunS Try.prog S_25 (Builtin.len_ #[173] 3 #[t4_6]) fun t28_32 =>
 RunA Try.prog (bin .gtr 3 (.tmp 28) (.const (.int .i64 0)) t28_32 (.int .i64 0)) fun t29_33 =>
 IfB t29_33 (
 RunA Try.prog (Instr.indexAt 173 t4_6 (.int .i64 0)) fun t32_34 =>
 RunA Try.prog (Instr.fieldAt 177 t32_34 0) fun t33_35 =>
 RunS Try.prog S_25 (Instr.loadAt 9 t33_35) fun t34_36 =>
 RunA Try.prog (Instr.indexAt 173 t5_7 (.int .i64 0)) fun t36_37 =>
 RunA Try.prog (Instr.fieldAt 177 t36_37 0) fun t37_38 =>
 RunS Try.prog S_25 (Instr.loadAt 9 t37_38) fun t38_39 =>
 RunA Try.prog (bin .lss 9 (.tmp 34) (.tmp 38) t34_36 t38_39) fun t39_40 =>
 IfB t39_40 (
 drw (fun S_41 w =>
 RunA Try.prog (Instr.indexAt 173 t4_6 (.int .i64 0)) fun t43_42 =>
 RunS Try.prog S_41 (Instr.loadAt 177 t43_42) fun t44_43 =>
 RunA Try.prog (Instr.sliceAt 173 t4_6 (some (.int .i64 1)) none none) fun t46_44 =>
 RunU Try.prog (Instr.storeAt 177 t6_13 t44_43) w fun w =>
 j_18 a0 t46_44 t5_7 t6_13 w) w) (
 jn 4 (fun t0_45 t4_46 t5_47 t6_48 w =>
 j_18 t0_45 t4_46 t5_47 t6_48 w) fun j_49 =>
 drw (fun S_50 w =>
 RunS Try.prog S_50 (Builtin.len_ #[173] 3 #[t4_6]) fun t49_51 =>
 RunA Try.prog (bin .gtr 3 (.tmp 49) (.const (.int .i64 0)) t49_51 (.int .i64 0)) fun t50_52 =>
 IfB t50_52 (
 RunA Try.prog (Instr.indexAt 173 t4_6 (.int .i64 0)) fun t53_53 =>
 RunA Try.prog (Instr.fieldAt 177 t53_53 0) fun t54_54 =>
 RunS Try.prog S_50 (Instr.loadAt 9 t54_54) fun t55_55 =>
 RunA Try.prog (Instr.indexAt 173 t5_7 (.int .i64 0)) fun t57_56 =>
 RunA Try.prog (Instr.fieldAt 177 t57_56 0) fun t58_57 =>
 RunS Try.prog S_50 (Instr.loadAt 9 t58_57) fun t59_58 =>
 RunS Try.prog S_50 (bin .eql 9 (.tmp 55) (.tmp 59) t55_55 t59_58) fun t60_59 =>
 IfB t60_59 (
 drw (fun S_60 w =>
 RunA Try.prog (Instr.indexAt 173 t5_7 (.int .i64 0)) fun t63_61 =>
 RunS Try.prog S_60 (Instr.loadAt 177 t63_61) fun t64_62 =>
 RunA Try.prog (Instr.sliceAt 173 t4_6 (some (.int .i64 1)) none none) fun t66_63 =>
 RunA Try.prog (Instr.sliceAt 173 t5_7 (some (.int .i64 1)) none none) fun t68_64 =>
 RunU Try.prog (Instr.storeAt 177 t6_13 t64_62) w fun w =>
 j_49 a0 t66_63 t68_64 t6_13 w) w) (
 drw (fun S_65 w =>
 RunA Try.prog (Instr.indexAt 173 t5_7 (.int .i64 0)) fun t18_66 =>
 RunS Try.prog S_65 (Instr.loadAt 177 t18_66) fun t19_67 =>
 RunA Try.prog (Instr.sliceAt 173 t5_7 (some (.int .i64 1)) none none) fun t21_68 =>
 RunU Try.prog (Instr.storeAt 177 t6_13 t19_67) w fun w =>
 j_49 a0 t4_6 t21_68 t6_13 w) w)) (
 drw (fun S_69 w =>
 RunA Try.prog (Instr.indexAt 173 t5_7 (.int .i64 0)) fun t18_70 =>
 RunS Try.prog S_69 (Instr.loadAt 177 t18_70) fun t19_71 =>
 RunA Try.prog (Instr.sliceAt 173 t5_7 (some (.int .i64 1)) none none) fun t21_72 =>
 RunU Try.prog (Instr.storeAt 177 t6_13 t19_71) w fun w =>
 j_49 a0 t4_6 t21_72 t6_13 w) w)) w)) (
 jn 4 (fun t0_73 t4_74 t5_75 t6_76 w =>
 j_18 t0_73 t4_74 t5_75 t6_76 w) fun j_77 =>
 drw (fun S_78 w =>
 RunS Try.prog S_78 (Builtin.len_ #[173] 3 #[t4_6]) fun t49_79 =>
 RunA Try.prog (bin .gtr 3 (.tmp 49) (.const (.int .i64 0)) t49_79 (.int .i64 0)) fun t50_80 =>
 IfB t50_80 (
 RunA Try.prog (Instr.indexAt 173 t4_6 (.int .i64 0)) fun t53_81 =>
 RunA Try.prog (Instr.fieldAt 177 t53_81 0) fun t54_82 =>
 RunS Try.prog S_78 (Instr.loadAt 9 t54_82) fun t55_83 =>
 RunA Try.prog (Instr.indexAt 173 t5_7 (.int .i64 0)) fun t57_84 =>
 RunA Try.prog (Instr.fieldAt 177 t57_84 0) fun t58_85 =>
 RunS Try.prog S_78 (Instr.loadAt 9 t58_85) fun t59_86 =>
 RunS Try.prog S_78 (bin .eql 9 (.tmp 55) (.tmp 59) t55_83 t59_86) fun t60_87 =>
 IfB t60_87 (
 drw (fun S_88 w =>
 RunA Try.prog (Instr.indexAt 173 t5_7 (.int .i64 0)) fun t63_89 =>
 RunS Try.prog S_88 (Instr.loadAt 177 t63_89) fun t64_90 =>
 RunA Try.prog (Instr.sliceAt 173 t4_6 (some (.int .i64 1)) none none) fun t66_91 =>
 RunA Try.prog (Instr.sliceAt 173 t5_7 (some (.int .i64 1)) none none) fun t68_92 =>
 RunU Try.prog (Instr.storeAt 177 t6_13 t64_90) w fun w =>
 j_77 a0 t66_91 t68_92 t6_13 w) w) (
 drw (fun S_93 w =>
 RunA Try.prog (Instr.indexAt 173 t5_7 (.int .i64 0)) fun t18_94 =>
 RunS Try.prog S_93 (Instr.loadAt 177 t18_94) fun t19_95 =>
 RunA Try.prog (Instr.sliceAt 173 t5_7 (some (.int .i64 1)) none none) fun t21_96 =>
 RunU Try.prog (Instr.storeAt 177 t6_13 t19_95) w fun w =>
 j_77 a0 t4_6 t21_96 t6_13 w) w)) (
 drw (fun S_97 w =>
 RunA Try.prog (Instr.indexAt 173 t5_7 (.int .i64 0)) fun t18_98 =>
 RunS Try.prog S_97 (Instr.loadAt 177 t18_98) fun t19_99 =>
 RunA Try.prog (Instr.sliceAt 173 t5_7 (some (.int .i64 1)) none none) fun t21_100 =>
 RunU Try.prog (Instr.storeAt 177 t6_13 t19_99) w fun w =>
 j_77 a0 t4_6 t21_100 t6_13 w) w)) w))) w) (
 R (.tuple #[]) w)) [t8_4, t10_5] w)) w
theorem sh119_calls {a0 a1 a2 : Value} {w : World} {R : Value → World → Prop} (h : sh119 a0 a1 a2 w R) : CallF Try.prog 119 #[a0, a1, a2] w R :=
  calls_of_denF (mk := false) (args := [a0, a1, a2]) (an := (.seq (.draw (.q 0 (.q 2 (.one 1 (.one 3 (.q 4 (.q 5 .fin)))))) [0, 4, 5]) (.blk (.loop [0] [4, 5] (.seq (.seq (.ops [0, 4, 5, 16]) (.cond .leaf .leaf)) (.blk (.seq (.ops [0, 4, 5, 6]) (.seq (.blk (.join [0, 4, 5, 6] (.seq (.draw (.q 0 (.q 1 (.q 2 (.q 3 (.sp 4 (.q 4 (.q 5 (.q 6 (.q 7 (.q 8 (.q 9 (.q 10 (.q 11 (.q 12 (.q 13 (.q 14 (.q 15 (.q 16 (.q 17 (.q 18 (.q 19 .fin)))))))))))))))) (.q 4 (.q 5 (.q 6 (.q 7 (.sp 8 (.q 8 (.q 9 (.q 10 (.q 11 (.q 12 (.q 13 (.q 14 (.q 15 (.q 16 (.q 17 (.q 18 (.q 19 .fin)))))))))))) (.q 8 (.q 9 (.q 10 (.q 11 (.q 12 (.q 13 (.q 14 (.q 15 (.q 16 (.q 17 (.q 18 (.q 19 .fin)))))))))))))))))))))) [0, 4, 5, 6, 22]) (.cond (.draw (.q 0 (.q 1 (.q 2 (.q 3 (.q 4 (.one 5 (.q 6 .fin))))))) [0, 4, 5, 6]) (.join [0, 4, 5, 6] (.seq (.draw (.q 0 (.q 1 (.q 2 (.q 3 (.sp 4 (.q 4 (.q 5 (.q 6 (.q 7 (.q 8 (.q 9 (.q 10 (.q 11 (.q 12 (.q 13 (.q 14 .fin))))))))))) (.q 4 (.q 5 (.q 6 (.q 7 (.q 8 (.q 9 (.q 10 (.q 11 (.q 12 (.q 13 (.q 14 .fin)))))))))))))))) [0, 4, 5, 6, 47]) (.cond (.draw (.q 0 (.q 1 (.q 2 (.q 3 (.q 4 (.q 5 (.q 6 (.one 7 (.q 8 (.q 9 .fin)))))))))) [0, 4, 5, 6]) (.draw (.q 0 (.q 1 (.q 2 (.q 3 (.q 4 (.one 5 (.q 6 .fin))))))) [0, 4, 5, 6])))))))) (.seq (.ops [0, 4, 5, 75]) (.cond .leaf .leaf)))))))))) (c := Try.f119.body.getD .skip) hentD Try.func119 rfl (Nat.le_of_ble_eq_true (by kernel_rfl))
    (Eq.mp (show sh119 a0 a1 a2 w R = denF Try.prog entD false Try.f119 (.seq (.draw (.q 0 (.q 2 (.one 1 (.one 3 (.q 4 (.q 5 .fin)))))) [0, 4, 5]) (.blk (.loop [0] [4, 5] (.seq (.seq (.ops [0, 4, 5, 16]) (.cond .leaf .leaf)) (.blk (.seq (.ops [0, 4, 5, 6]) (.seq (.blk (.join [0, 4, 5, 6] (.seq (.draw (.q 0 (.q 1 (.q 2 (.q 3 (.sp 4 (.q 4 (.q 5 (.q 6 (.q 7 (.q 8 (.q 9 (.q 10 (.q 11 (.q 12 (.q 13 (.q 14 (.q 15 (.q 16 (.q 17 (.q 18 (.q 19 .fin)))))))))))))))) (.q 4 (.q 5 (.q 6 (.q 7 (.sp 8 (.q 8 (.q 9 (.q 10 (.q 11 (.q 12 (.q 13 (.q 14 (.q 15 (.q 16 (.q 17 (.q 18 (.q 19 .fin)))))))))))) (.q 8 (.q 9 (.q 10 (.q 11 (.q 12 (.q 13 (.q 14 (.q 15 (.q 16 (.q 17 (.q 18 (.q 19 .fin)))))))))))))))))))))) [0, 4, 5, 6, 22]) (.cond (.draw (.q 0 (.q 1 (.q 2 (.q 3 (.q 4 (.one 5 (.q 6 .fin))))))) [0, 4, 5, 6]) (.join [0, 4, 5, 6] (.seq (.draw (.q 0 (.q 1 (.q 2 (.q 3 (.sp 4 (.q 4 (.q 5 (.q 6 (.q 7 (.q 8 (.q 9 (.q 10 (.q 11 (.q 12 (.q 13 (.q 14 .fin))))))))))) (.q 4 (.q 5 (.q 6 (.q 7 (.q 8 (.q 9 (.q 10 (.q 11 (.q 12 (.q 13 (.q 14 .fin)))))))))))))))) [0, 4, 5, 6, 47]) (.cond (.draw (.q 0 (.q 1 (.q 2 (.q 3 (.q 4 (.q 5 (.q 6 (.one 7 (.q 8 (.q 9 .fin)))))))))) [0, 4, 5, 6]) (.draw (.q 0 (.q 1 (.q 2 (.q 3 (.q 4 (.one 5 (.q 6 .fin))))))) [0, 4, 5, 6])))))))) (.seq (.ops [0, 4, 5, 75]) (.cond .leaf .leaf))))))))) (Try.f119.body.getD .skip) [a0, a1, a2] w R by kernel_rfl) h)

/-! ### 120: handbill/omap.taken[string,string] -/
def sh120 (a0 : Value) (w : World) (R : Value → World → Prop) : Prop :=
 RunW Try.prog (bin .eql 145 (.tmp 6) (.const (.nilFunc)) a0 (.nilFunc)) w fun t7_1 =>
 IfB t7_1 (
 R (.slice none 0 0) w) (
 RunV Try.prog (Instr.alloc 173 true (.tuple #[])) w fun t3_2 w =>
 rngP Try.prog none 2 3 (fun l_3 K_4 t9_10 t10_11 w =>
 K_4 t3_2 t9_10 t10_11 w) (fun l_3 kn_5 ks_6 t3_12 t4_13 t5_14 w =>
 RunW Try.prog (Instr.loadAt 173 t3_12) w fun t11_15 =>
 RunV Try.prog (Instr.build 177 #[(0, t4_13), (1, t5_14)]) w fun t14_16 w =>
 RunV Try.prog (Instr.buildSlice 173 1 #[(0, t14_16)]) w fun t15_17 w =>
 RunV Try.prog (Builtin.append_ #[173, 173] 173 #[t11_15, t15_17]) w fun t16_18 w =>
 RunU Try.prog (Instr.storeAt 173 t3_12 t16_18) w fun w =>
 kn_5 w) a0 w (fun D_7 w =>
 RunW Try.prog (Instr.loadAt 173 t3_2) w fun t17_19 =>
 (w).heap[D_7]? = some (.deferred (some [])) ∧ (
 R t17_19 (w.putObj D_7 (.deferred none)))) (fun D_7 c_8 w => jumpK (fun i_9 w =>
 bif Nat.beq i_9 0 then (
 RunW Try.prog (Instr.loadAt 173 t3_2) w fun t17_20 =>
 (w).heap[D_7]? = some (.deferred (some [])) ∧ (
 R t17_20 (w.putObj D_7 (.deferred none)))) else (
 False)) (fun w =>
 (w).heap[D_7]? = some (.deferred (some [])) ∧ (
 False)) c_8 w))
theorem sh120_calls {a0 : Value} {w : World} {R : Value → World → Prop} (h : sh120 a0 w R) : CallF Try.prog 120 #[a0] w R :=
  calls_of_denF (mk := true) (args := [a0]) (an := (.seq (.ops [0]) (.seq (.seq (.ops [0, 7]) (.cond (.seq (.ops [2]) .leaf) .leaf)) (.seq (.ops [0, 3]) (.seq (.seq (.ops [3, 8]) (.blk (.rng [3, 4, 5] (.seq (.ops [3, 4, 10]) (.ops [3, 4, 5])) (.blk (.ops []))))) (.seq (.ops [2]) .leaf)))))) (c := Try.f120.body.getD .skip) hentD Try.func120 rfl (Nat.le_of_ble_eq_true (by kernel_rfl))
    (Eq.mp (show sh120 a0 w R = denF Try.prog entD true Try.f120 (.seq (.ops [0]) (.seq (.seq (.ops [0, 7]) (.cond (.seq (.ops [2]) .leaf) .leaf)) (.seq (.ops [0, 3]) (.seq (.seq (.ops [3, 8]) (.blk (.rng [3, 4, 5] (.seq (.ops [3, 4, 10]) (.ops [3, 4, 5])) (.blk (.ops []))))) (.seq (.ops [2]) .leaf))))) (Try.f120.body.getD .skip) [a0] w R by kernel_rfl) h)

/-! ### 121: handbill/diff.all[string]$1 -/
def sh121 (a0 : Value) (w : World) (R : Value → World → Prop) : Prop :=
 R (.tuple #[]) w
theorem sh121_calls {a0 : Value} {w : World} {R : Value → World → Prop} (h : sh121 a0 w R) : CallF Try.prog 121 #[a0] w R :=
  calls_of_denF (mk := false) (args := [a0]) (an := .leaf) (c := Try.f121.body.getD .skip) hentD Try.func121 rfl (Nat.le_of_ble_eq_true (by kernel_rfl))
    (Eq.mp (show sh121 a0 w R = denF Try.prog entD false Try.f121 .leaf (Try.f121.body.getD .skip) [a0] w R by kernel_rfl) h)

/-! ### 122: (*handbill/omap.Map[string, string]).Get -/
def sh122 (a0 a1 : Value) (w : World) (R : Value → World → Prop) : Prop :=
 CallF Try.prog 117 #[a0, a1] w fun t12_1 w =>
 RunA Try.prog (Instr.extract t12_1 0) fun t13_2 =>
 RunA Try.prog (Instr.extract t12_1 1) fun t14_3 =>
 RunA Try.prog (Op.unary .not t14_3) fun t16_4 =>
 IfB t16_4 (
 R (.tuple #[(.string ⟨#[]⟩), (.bool false)]) w) (
 RunA Try.prog (nilV a0) fun t19_5 =>
 RunA Try.prog (Instr.fieldAt 175 t19_5 0) fun t20_6 =>
 RunW Try.prog (Instr.loadAt 173 t20_6) w fun t21_7 =>
 RunA Try.prog (Instr.indexAt 173 t21_7 t13_2) fun t23_8 =>
 RunA Try.prog (Instr.fieldAt 177 t23_8 1) fun t24_9 =>
 RunW Try.prog (Instr.loadAt 9 t24_9) w fun t25_10 =>
 R (.tuple #[t25_10, (.bool true)]) w)
theorem sh122_calls {a0 a1 : Value} {w : World} {R : Value → World → Prop} (h : sh122 a0 a1 w R) : CallF Try.prog 122 #[a0, a1] w R :=
  calls_of_denF (mk := false) (args := [a0, a1]) (an := (.seq (.ops [0, 1]) (.seq (.ops [0, 6, 7]) (.seq (.seq (.ops [0, 6, 16]) (.cond (.seq (.ops [8]) (.seq (.ops [4, 5]) .leaf)) .leaf)) (.seq (.ops [4, 5]) .leaf))))) (c := Try.f122.body.getD .skip) hentD Try.func122 rfl (Nat.le_of_ble_eq_true (by kernel_rfl))
    (Eq.mp (show sh122 a0 a1 w R = denF Try.prog entD false Try.f122 (.seq (.ops [0, 1]) (.seq (.ops [0, 6, 7]) (.seq (.seq (.ops [0, 6, 16]) (.cond (.seq (.ops [8]) (.seq (.ops [4, 5]) .leaf)) .leaf)) (.seq (.ops [4, 5]) .leaf)))) (Try.f122.body.getD .skip) [a0, a1] w R by kernel_rfl) h)

/-! ### 123: (*handbill/omap.Map[string, string]).All$1 -/
def sh123 (a0 a1 : Value) (w : World) (R : Value → World → Prop) : Prop :=
 RunW Try.prog (Instr.loadAt 85 a1) w fun t5_1 =>
 RunA Try.prog (nilV t5_1) fun t6_2 =>
 RunA Try.prog (Instr.fieldAt 175 t6_2 0) fun t7_3 =>
 RunW Try.prog (Instr.loadAt 173 t7_3) w fun t8_4 =>
 CallF Try.prog 124 #[t8_4] w fun t9_5 w =>
 RunW Try.prog (Builtin.len_ #[173] 3 #[t9_5]) w fun t10_6 =>
 lp 1 (fun n_8 t11_7 w =>
 RunA Try.prog (bin .lss 3 (.tmp 11) (.tmp 10) t11_7 t10_6) fun t12_9 =>
 IfB t12_9 (
 RunA Try.prog (Instr.indexAt 173 t9_5 t11_7) fun t13_10 =>
 RunW Try.prog (Instr.loadAt 177 t13_10) w fun t14_11 =>
 RunV Try.prog (Instr.alloc 177 true (.tuple #[])) w fun t4_12 w =>
 RunU Try.prog (Instr.storeAt 177 t4_12 t14_11) w fun w =>
 RunA Try.prog (Instr.fieldAt 177 t4_12 0) fun t16_13 =>
 RunW Try.prog (Instr.loadAt 9 t16_13) w fun t17_14 =>
 RunA Try.prog (Instr.fieldAt 177 t4_12 1) fun t18_15 =>
 RunW Try.prog (Instr.loadAt 9 t18_15) w fun t19_16 =>
 CallV Try.prog a0 #[t17_14, t19_16] w fun t20_17 w =>
 RunA Try.prog (Op.unary .not t20_17) fun t21_18 =>
 IfB t21_18 (
 R (.tuple #[]) w) (
 RunA Try.prog (bin .add 3 (.tmp 11) (.const (.int .i64 1)) t11_7 (.int .i64 1)) fun t22_19 =>
 (a0 : Value) = a0 ∧ ((t9_5 : Value) = t9_5 ∧ ((t10_6 : Value) = t10_6 ∧ (n_8 t22_19 w))))) (
 R (.tuple #[]) w)) [(.int .i64 0)] w
theorem sh123_calls {a0 a1 : Value} {w : World} {R : Value → World → Prop} (h : sh123 a0 a1 w R) : CallF Try.prog 123 #[a0, a1] w R :=
  calls_of_denF (mk := false) (args := [a0, a1]) (an := (.seq (.ops [0, 9, 10, 11]) (.blk (.loop [0, 9, 10] [11] (.seq (.ops [0, 9, 10, 11, 12]) (.seq (.cond .leaf .leaf) (.seq (.blk (.seq (.ops [0, 4, 9, 10, 11]) (.seq (.ops [0, 9, 10, 11, 21]) (.cond .leaf .leaf)))) (.ops [0, 9, 10, 11])))))))) (c := Try.f123.body.getD .skip) hentD Try.func123 rfl (Nat.le_of_ble_eq_true (by kernel_rfl))
    (Eq.mp (show sh123 a0 a1 w R = denF Try.prog entD false Try.f123 (.seq (.ops [0, 9, 10, 11]) (.blk (.loop [0, 9, 10] [11] (.seq (.ops [0, 9, 10, 11, 12]) (.seq (.cond .leaf .leaf) (.seq (.blk (.seq (.ops [0, 4, 9, 10, 11]) (.seq (.ops [0, 9, 10, 11, 21]) (.cond .leaf .leaf)))) (.ops [0, 9, 10, 11]))))))) (Try.f123.body.getD .skip) [a0, a1] w R by kernel_rfl) h)

/-! ### 124: slices.Clone[[]handbill/omap.pair[string, string],handbill/omap.pair[string, string]] -/
def sh124 (a0 : Value) (w : World) (R : Value → World → Prop) : Prop :=
 RunW Try.prog (bin .eql 173 (.tmp 3) (.const (.slice none 0 0)) a0 (.slice none 0 0)) w fun t4_1 =>
 IfB t4_1 (
 R (.slice none 0 0) w) (
 RunV Try.prog (Instr.buildSlice 173 0 #[]) w fun t5_2 w =>
 RunV Try.prog (Builtin.append_ #[173, 173] 173 #[t5_2, a0]) w fun t7_3 w =>
 R t7_3 w)
theorem sh124_calls {a0 : Value} {w : World} {R : Value → World → Prop} (h : sh124 a0 w R) : CallF Try.prog 124 #[a0] w R :=
  calls_of_denF (mk := false) (args := [a0]) (an := (.seq (.ops [0]) (.seq (.seq (.ops [0, 4]) (.cond (.seq (.ops [2]) .leaf) .leaf)) (.seq (.ops [2]) .leaf)))) (c := Try.f124.body.getD .skip) hentD Try.func124 rfl (Nat.le_of_ble_eq_true (by kernel_rfl))
    (Eq.mp (show sh124 a0 w R = denF Try.prog entD false Try.f124 (.seq (.ops [0]) (.seq (.seq (.ops [0, 4]) (.cond (.seq (.ops [2]) .leaf) .leaf)) (.seq (.ops [2]) .leaf))) (Try.f124.body.getD .skip) [a0] w R by kernel_rfl) h)

/-! ### 125: slices.Delete[[]handbill/omap.pair[string, string],handbill/omap.pair[string, string]] -/
def sh125 (a0 a1 a2 : Value) (w : World) (R : Value → World → Prop) : Prop :=
 RunW Try.prog (Builtin.len_ #[173] 3 #[a0]) w fun t12_1 =>
 RunA Try.prog (Instr.sliceAt 173 a0 (some a1) (some a2) (some t12_1)) fun t13_2 =>
 RunW Try.prog (bin .eql 3 (.tmp 14) (.tmp 15) a1 a2) w fun t16_3 =>
 IfB t16_3 (
 R a0 w) (
 RunW Try.prog (Builtin.len_ #[173] 3 #[a0]) w fun t19_4 =>
 drw (fun S_5 w =>
 RunA Try.prog (Instr.sliceAt 173 a0 none (some a1) none) fun t22_6 =>
 RunA Try.prog (Instr.sliceAt 173 a0 (some a2) none none) fun t25_7 =>
 RunV Try.prog (Builtin.append_ #[173, 173] 173 #[t22_6, t25_7]) w fun t26_8 w =>
 RunW Try.prog (Builtin.len_ #[173] 3 #[t26_8]) w fun t29_9 =>
 RunA Try.prog (Instr.sliceAt 173 t26_8 (some t29_9) (some t19_4) none) fun t31_10 =>
 RunV Try.prog (Builtin.clear_ #[173] 0 #[t31_10]) w fun t_11 w =>
 R t26_8 w) w)
theorem sh125_calls {a0 a1 a2 : Value} {w : World} {R : Value → World → Prop} (h : sh125 a0 a1 a2 w R) : CallF Try.prog 125 #[a0, a1, a2] w R :=
  calls_of_denF (mk := false) (args := [a0, a1, a2]) (an := (.seq (.ops [0, 1, 2]) (.seq (.ops [0, 1, 2]) (.seq (.seq (.ops [0, 1, 2, 16]) (.cond (.seq (.ops [6]) .leaf) .leaf)) (.seq (.ops [0, 1, 2, 7]) (.seq (.draw (.q 0 (.q 1 (.q 2 (.q 3 (.q 4 (.q 5 (.one 6 (.q 7 .fin)))))))) [0, 7]) (.seq (.ops [0]) (.seq (.ops [6]) .leaf)))))))) (c := Try.f125.body.getD .skip) hentD Try.func125 rfl (Nat.le_of_ble_eq_true (by kernel_rfl))
    (Eq.mp (show sh125 a0 a1 a2 w R = denF Try.prog entD false Try.f125 (.seq (.ops [0, 1, 2]) (.seq (.ops [0, 1, 2]) (.seq (.seq (.ops [0, 1, 2, 16]) (.cond (.seq (.ops [6]) .leaf) .leaf)) (.seq (.ops [0, 1, 2, 7]) (.seq (.draw (.q 0 (.q 1 (.q 2 (.q 3 (.q 4 (.q 5 (.one 6 (.q 7 .fin)))))))) [0, 7]) (.seq (.ops [0]) (.seq (.ops [6]) .leaf))))))) (Try.f125.body.getD .skip) [a0, a1, a2] w R by kernel_rfl) h)

/-! ### 131: handbill/omap.Merge[string,int]$1 -/
def sh131 (a0 a1 a2 : Value) (w : World) (R : Value → World → Prop) : Prop :=
 drw (fun S_1 w =>
 RunS Try.prog S_1 (Instr.loadAt 32 a1) fun t7_2 =>
 RunS Try.prog S_1 (Instr.loadAt 32 a2) fun t9_3 =>
 CallF Try.prog 132 #[t7_2] w fun t8_4 w =>
 S_1 w ∧ (
 CallF Try.prog 132 #[t9_3] w fun t10_5 w =>
 lp 2 (fun n_8 t4_6 t5_7 w =>
 RunW Try.prog (Builtin.len_ #[111] 3 #[t4_6]) w fun t12_9 =>
 RunW Try.prog (Builtin.len_ #[111] 3 #[t5_7]) w fun t14_10 =>
 RunA Try.prog (bin .add 3 (.tmp 12) (.tmp 14) t12_9 t14_10) fun t15_11 =>
 RunA Try.prog (bin .gtr 3 (.tmp 15) (.const (.int .i64 0)) t15_11 (.int .i64 0)) fun t16_12 =>
 IfB t16_12 (
 RunV Try.prog (Instr.alloc 115 true (.tuple #[])) w fun t6_13 w =>
 jn 4 (fun t0_14 t4_15 t5_16 t6_17 w =>
 RunA Try.prog (Instr.fieldAt 115 t6_17 0) fun t70_19 =>
 RunW Try.prog (Instr.loadAt 9 t70_19) w fun t71_20 =>
 RunA Try.prog (Instr.fieldAt 115 t6_17 1) fun t72_21 =>
 RunW Try.prog (Instr.loadAt 3 t72_21) w fun t73_22 =>
 CallV Try.prog t0_14 #[t71_20, t73_22] w fun t74_23 w =>
 RunA Try.prog (Op.unary .not t74_23) fun t75_24 =>
 IfB t75_24 (
 R (.tuple #[]) w) (
 (t0_14 : Value) = a0 ∧ (n_8 t4_15 t5_16 w))) fun j_18 =>
 drw (fun S_25 w =>
 RunS Try.prog S_25 (Builtin.len_ #[111] 3 #[t5_7]) fun t24_26 =>
 RunS Try.prog S_25 (bin .eql 3 (.tmp 24) (.const (.int .i64 0)) t24_26 (.int .i64 0)) fun t25_27 =>
 IfB t25_27 (
 drw (fun S_28 w =>
 RunA Try.prog (Instr.indexAt 111 t4_6 (.int .i64 0)) fun t43_29 =>
 RunS Try.prog S_28 (Instr.loadAt 115 t43_29) fun t44_30 =>
 RunA Try.prog (Instr.sliceAt 111 t4_6 (some (.int .i64 1)) none none) fun t46_31 =>
 RunU Try.prog (Instr.storeAt 115 t6_13 t44_30) w fun w =>
 j_18 a0 t46_31 t5_7 t6_13 w) w) (
 RunS Try.prog S_25 (Builtin.len_ #[111] 3 #[t4_6]) fun t28_32 =>
 RunA Try.prog (bin .gtr 3 (.tmp 28) (.const (.int .i64 0)) t28_32 (.int .i64 0)) fun t29_33 =>
 IfB t29_33 (
 RunA Try.prog (Instr.indexAt 111 t4_6 (.int .i64 0)) fun t32_34 =>
 RunA Try.prog (Instr.fieldAt 115 t32_34 0) fun t33_35 =>
 RunS Try.prog S_25 (Instr.loadAt 9 t33_35) fun t34_36 =>
 RunA Try.prog (Instr.indexAt 111 t5_7 (.int .i64 0)) fun t36_37 =>
 RunA Try.prog (Instr.fieldAt 115 t36_37 0) fun t37_38 =>
 RunS Try.prog S_25 (Instr.loadAt 9 t37_38) fun t38_39 =>
 RunA Try.prog (bin .lss 9 (.tmp 34) (.tmp 38) t34_36 t38_39) fun t39_40 =>
 IfB t39_40 (
 drw (fun S_41 w =>
 RunA Try.prog (Instr.indexAt 111 t4_6 (.int .i64 0)) fun t43_42 =>
 RunS Try.prog S_41 (Instr.loadAt 115 t43_42) fun t44_43 =>
 RunA Try.prog (Instr.sliceAt 111 t4_6 (some (.int .i64 1)) none none) fun t46_44 =>
 RunU Try.prog (Instr.storeAt 115 t6_13 t44_43) w fun w =>
 j_18 a0 t46_44 t5_7 t6_13 w) w) (
 jn 4 (fun t0_45 t4_46 t5_47 t6_48 w =>
 j_18 t0_45 t4_46 t5_47 t6_48 w) fun j_49 =>
 drw (fun S_50 w =>
 RunS Try.prog S_50 (Builtin.len_ #[111] 3 #[t4_6]) fun t49_51 =>
 RunA Try.prog (bin .gtr 3 (.tmp 49) (.const (.int .i64 0)) t49_51 (.int .i64 0)) fun t50_52 =>
 IfB t50_52 (
 RunA Try.prog (Instr.indexAt 111 t4_6 (.int .i64 0)) fun t53_53 =>
 RunA Try.prog (Instr.fieldAt 115 t53_53 0) fun t54_54 =>
 RunS Try.prog S_50 (Instr.loadAt 9 t54_54) fun t55_55 =>
 RunA Try.prog (Instr.indexAt 111 t5_7 (.int .i64 0)) fun t57_56 =>
 RunA Try.prog (Instr.fieldAt 115 t57_56 0) fun t58_57 =>
 RunS Try.prog S_50 (Instr.loadAt 9 t58_57) fun t59_58 =>
 RunS Try.prog S_50 (bin .eql 9 (.tmp 55) (.tmp 59) t55_55 t59_58) fun t60_59 =>
 IfB t60_59 (
 drw (fun S_60 w =>
 RunA Try.prog (Instr.indexAt 111 t5_7 (.int .i64 0)) fun t63_61 =>
 RunS Try.prog S_60 (Instr.loadAt 115 t63_61) fun t64_62 =>
 RunA Try.prog (Instr.sliceAt 111 t4_6 (some (.int .i64 1)) none none) fun t66_63 =>
 RunA Try.prog (Instr.sliceAt 111 t5_7 (some (.int .i64 1)) none none) fun t68_64 =>
 RunU Try.prog (Instr.storeAt 115 t6_13 t64_62) w fun w =>
 j_49 a0 t66_63 t68_64 t6_13 w) w) (
 drw (fun S_65 w =>
 RunA Try.prog (Instr.indexAt 111 t5_7 (.int .i64 0)) fun t18_66 =>
 RunS Try.prog S_65 (Instr.loadAt 115 t18_66) fun t19_67 =>
 RunA Try.prog (Instr.sliceAt 111 t5_7 (some (.int .i64 1)) none none) fun t21_68 =>
 RunU Try.prog (Instr.storeAt 115 t6_13 t19_67) w fun w =>
 j_49 a0 t4_6 t21_68 t6_13 w) w)) (
 drw (fun S_69 w =>
 RunA Try.prog (Instr.indexAt 111 t5_7 (.int .i64 0)) fun t18_70 =>
 RunS Try.prog S_69 (Instr.loadAt 115 t18_70) fun t19_71 =>
 RunA Try.prog (Instr.sliceAt 111 t5_7 (some (.int .i64 1)) none none) fun t21_72 =>
 RunU Try.prog (Instr.storeAt 115 t6_13 t19_71) w fun w =>
 j_49 a0 t4_6 t21_72 t6_13 w) w)) w)) (
 jn 4 (fun t0_73 t4_74 t5_75 t6_76 w =>
 j_18 t0_73 t4_74 t5_75 t6_76 w) fun j_77 =>
 drw (fun S_78 w =>
 RunS Try.prog S_78 (Builtin.len_ #[111] 3 #[t4_6]) fun t49_79 =>
 RunA Try.prog (bin .gtr 3 (.tmp 49) (.const (.int .i64 0)) t49_79 (.int .i64 0)) fun t50_80 =>
 IfB t50_80 (
 RunA Try.prog (Instr.indexAt 111 t4_6 (.int .i64 0)) fun t53_81 =>
 RunA Try.prog (Instr.fieldAt 115 t53_81 0) fun t54_82 =>
 RunS Try.prog S_78 (Instr.loadAt 9 t54_82) fun t55_83 =>
 RunA Try.prog (Instr.indexAt 111 t5_7 (.int .i64 0)) fun t57_84 =>
 RunA Try.prog (Instr.fieldAt 115 t57_84 0) fun t58_85 =>
 RunS Try.prog S_78 (Instr.loadAt 9 t58_85) fun t59_86 =>
 RunS Try.prog S_78 (bin .eql 9 (.tmp 55) (.tmp 59) t55_83 t59_86) fun t60_87 =>
 IfB t60_87 (
 drw (fun S_88 w =>
 RunA Try.prog (Instr.indexAt 111 t5_7 (.int .i64 0)) fun t63_89 =>
 RunS Try.prog S_88 (Instr.loadAt 115 t63_89) fun t64_90 =>
 RunA Try.prog (Instr.sliceAt 111 t4_6 (some (.int .i64 1)) none none) fun t66_91 =>
 RunA Try.prog (Instr.sliceAt 111 t5_7 (some (.int .i64 1)) none none) fun t68_92 =>
 RunU Try.prog (Instr.storeAt 115 t6_13 t64_90) w fun w =>
 j_77 a0 t66_91 t68_92 t6_13 w) w) (
 drw (fun S_93 w =>
 RunA Try.prog (Instr.indexAt 111 t5_7 (.int .i64 0)) fun t18_94 =>
 RunS Try.prog S_93 (Instr.loadAt 115 t18_94) fun t19_95 =>
 RunA Try.prog (Instr.sliceAt 111 t5_7 (some (.int .i64 1)) none none) fun t21_96 =>
 RunU Try.prog (Instr.storeAt 115 t6_13 t19_95) w fun w =>
 j_77 a0 t4_6 t21_96 t6_13 w) w)) (
 drw (fun S_97 w =>
 RunA Try.prog (Instr.indexAt 111 t5_7 (.int .i64 0)) fun t18_98 =>
 RunS Try.prog S_97 (Instr.loadAt 115 t18_98) fun t19_99 =>
 RunA Try.prog (Instr.sliceAt 111 t5_7 (some (.int .i64 1)) none none) fun t21_100 =>
 RunU Try.prog (Instr.storeAt 115 t6_13 t19_99) w fun w =>
 j_77 a0 t4_6 t21_100 t6_13 w) w)) w))) w) (
 R (.tuple #[]) w)) [t8_4, t10_5] w)) w
theorem sh131_calls {a0 a1 a2 : Value} {w : World} {R : Value → World → Prop} (h : sh131 a0 a1 a2 w R) : CallF Try.prog 131 #[a0, a1, a2] w R :=
  calls_of_denF (mk := false) (args := [a0, a1, a2]) (an := (.seq (.draw (.q 0 (.q 2 (.one 1 (.one 3 (.q 4 (.q 5 .fin)))))) [0, 4, 5]) (.blk (.loop [0] [4, 5] (.seq (.seq (.ops [0, 4, 5, 16]) (.cond .leaf .leaf)) (.blk (.seq (.ops [0, 4, 5, 6]) (.seq (.blk (.join [0, 4, 5, 6] (.seq (.draw (.q 0 (.q 1 (.q 2 (.q 3 (.sp 4 (.q 4 (.q 5 (.q 6 (.q 7 (.q 8 (.q 9 (.q 10 (.q 11 (.q 12 (.q 13 (.q 14 (.q 15 (.q 16 (.q 17 (.q 18 (.q 19 .fin)))))))))))))))) (.q 4 (.q 5 (.q 6 (.q 7 (.sp 8 (.q 8 (.q 9 (.q 10 (.q 11 (.q 12 (.q 13 (.q 14 (.q 15 (.q 16 (.q 17 (.q 18 (.q 19 .fin)))))))))))) (.q 8 (.q 9 (.q 10 (.q 11 (.q 12 (.q 13 (.q 14 (.q 15 (.q 16 (.q 17 (.q 18 (.q 19 .fin)))))))))))))))))))))) [0, 4, 5, 6, 22]) (.cond (.draw (.q 0 (.q 1 (.q 2 (.q 3 (.q 4 (.one 5 (.q 6 .fin))))))) [0, 4, 5, 6]) (.join [0, 4, 5, 6] (.seq (.draw (.q 0 (.q 1 (.q 2 (.q 3 (.sp 4 (.q 4 (.q 5 (.q 6 (.q 7 (.q 8 (.q 9 (.q 10 (.q 11 (.q 12 (.q 13 (.q 14 .fin))))))))))) (.q 4 (.q 5 (.q 6 (.q 7 (.q 8 (.q 9 (.q 10 (.q 11 (.q 12 (.q 13 (.q 14 .fin)))))))))))))))) [0, 4, 5, 6, 47]) (.cond (.draw (.q 0 (.q 1 (.q 2 (.q 3 (.q 4 (.q 5 (.q 6 (.one 7 (.q 8 (.q 9 .fin)))))))))) [0, 4, 5, 6]) (.draw (.q 0 (.q 1 (.q 2 (.q 3 (.q 4 (.one 5 (.q 6 .fin))))))) [0, 4, 5, 6])))))))) (.seq (.ops [0, 4, 5, 75]) (.cond .leaf .leaf)))))))))) (c := Try.f131.body.getD .skip) hentD Try.func131 rfl (Nat.le_of_ble_eq_true (by kernel_rfl))
    (Eq.mp (show sh131 a0 a1 a2 w R = denF Try.prog entD false Try.f131 (.seq (.draw (.q 0 (.q 2 (.one 1 (.one 3 (.q 4 (.q 5 .fin)))))) [0, 4, 5]) (.blk (.loop [0] [4, 5] (.seq (.seq (.ops [0, 4, 5, 16]) (.cond .leaf .leaf)) (.blk (.seq (.ops [0, 4, 5, 6]) (.seq (.blk (.join [0, 4, 5, 6] (.seq (.draw (.q 0 (.q 1 (.q 2 (.q 3 (.sp 4 (.q 4 (.q 5 (.q 6 (.q 7 (.q 8 (.q 9 (.q 10 (.q 11 (.q 12 (.q 13 (.q 14 (.q 15 (.q 16 (.q 17 (.q 18 (.q 19 .fin)))))))))))))))) (.q 4 (.q 5 (.q 6 (.q 7 (.sp 8 (.q 8 (.q 9 (.q 10 (.q 11 (.q 12 (.q 13 (.q 14 (.q 15 (.q 16 (.q 17 (.q 18 (.q 19 .fin)))))))))))) (.q 8 (.q 9 (.q 10 (.q 11 (.q 12 (.q 13 (.q 14 (.q 15 (.q 16 (.q 17 (.q 18 (.q 19 .fin)))))))))))))))))))))) [0, 4, 5, 6, 22]) (.cond (.draw (.q 0 (.q 1 (.q 2 (.q 3 (.q 4 (.one 5 (.q 6 .fin))))))) [0, 4, 5, 6]) (.join [0, 4, 5, 6] (.seq (.draw (.q 0 (.q 1 (.q 2 (.q 3 (.sp 4 (.q 4 (.q 5 (.q 6 (.q 7 (.q 8 (.q 9 (.q 10 (.q 11 (.q 12 (.q 13 (.q 14 .fin))))))))))) (.q 4 (.q 5 (.q 6 (.q 7 (.q 8 (.q 9 (.q 10 (.q 11 (.q 12 (.q 13 (.q 14 .fin)))))))))))))))) [0, 4, 5, 6, 47]) (.cond (.draw (.q 0 (.q 1 (.q 2 (.q 3 (.q 4 (.q 5 (.q 6 (.one 7 (.q 8 (.q 9 .fin)))))))))) [0, 4, 5, 6]) (.draw (.q 0 (.q 1 (.q 2 (.q 3 (.q 4 (.one 5 (.q 6 .fin))))))) [0, 4, 5, 6])))))))) (.seq (.ops [0, 4, 5, 75]) (.cond .leaf .leaf))))))))) (Try.f131.body.getD .skip) [a0, a1, a2] w R by kernel_rfl) h)

/-! ### 132: handbill/omap.taken[string,int] -/
def sh132 (a0 : Value) (w : World) (R : Value → World → Prop) : Prop :=
 RunW Try.prog (bin .eql 32 (.tmp 6) (.const (.nilFunc)) a0 (.nilFunc)) w fun t7_1 =>
 IfB t7_1 (
 R (.slice none 0 0) w) (
 RunV Try.prog (Instr.alloc 111 true (.tuple #[])) w fun t3_2 w =>
 rngP Try.prog none 2 3 (fun l_3 K_4 t9_10 t10_11 w =>
 K_4 t3_2 t9_10 t10_11 w) (fun l_3 kn_5 ks_6 t3_12 t4_13 t5_14 w =>
 RunW Try.prog (Instr.loadAt 111 t3_12) w fun t11_15 =>
 RunV Try.prog (Instr.build 115 #[(0, t4_13), (1, t5_14)]) w fun t14_16 w =>
 RunV Try.prog (Instr.buildSlice 111 1 #[(0, t14_16)]) w fun t15_17 w =>
 RunV Try.prog (Builtin.append_ #[111, 111] 111 #[t11_15, t15_17]) w fun t16_18 w =>
 RunU Try.prog (Instr.storeAt 111 t3_12 t16_18) w fun w =>
 kn_5 w) a0 w (fun D_7 w =>
 RunW Try.prog (Instr.loadAt 111 t3_2) w fun t17_19 =>
 (w).heap[D_7]? = some (.deferred (some [])) ∧ (
 R t17_19 (w.putObj D_7 (.deferred none)))) (fun D_7 c_8 w => jumpK (fun i_9 w =>
 bif Nat.beq i_9 0 then (
 RunW Try.prog (Instr.loadAt 111 t3_2) w fun t17_20 =>
 (w).heap[D_7]? = some (.deferred (some [])) ∧ (
 R t17_20 (w.putObj D_7 (.deferred none)))) else (
 False)) (fun w =>
 (w).heap[D_7]? = some (.deferred (some [])) ∧ (
 False)) c_8 w))
theorem sh132_calls {a0 : Value} {w : World} {R : Value → World → Prop} (h : sh132 a0 w R) : CallF Try.prog 132 #[a0] w R :=
  calls_of_denF (mk := true) (args := [a0]) (an := (.seq (.ops [0]) (.seq (.seq (.ops [0, 7]) (.cond (.seq (.ops [2]) .leaf) .leaf)) (.seq (.ops [0, 3]) (.seq (.seq (.ops [3, 8]) (.blk (.rng [3, 4, 5] (.seq (.ops [3, 4, 10]) (.ops [3, 4, 5])) (.blk (.ops []))))) (.seq (.ops [2]) .leaf)))))) (c := Try.f132.body.getD .skip) hentD Try.func132 rfl (Nat.le_of_ble_eq_true (by kernel_rfl))
    (Eq.mp (show sh132 a0 w R = denF Try.prog entD true Try.f132 (.seq (.ops [0]) (.seq (.seq (.ops [0, 7]) (.cond (.seq (.ops [2]) .leaf) .leaf)) (.seq (.ops [0, 3]) (.seq (.seq (.ops [3, 8]) (.blk (.rng [3, 4, 5] (.seq (.ops [3, 4, 10]) (.ops [3, 4, 5])) (.blk (.ops []))))) (.seq (.ops [2]) .leaf))))) (Try.f132.body.getD .skip) [a0] w R by kernel_rfl) h)

/-! ### 133: handbill/diff.all[int]$1 -/
def sh133 (a0 : Value) (w : World) (R : Value → World → Prop) : Prop :=
 R (.tuple #[]) w
theorem sh133_calls {a0 : Value} {w : World} {R : Value → World → Prop} (h : sh133 a0 w R) : CallF Try.prog 133 #[a0] w R :=
  calls_of_denF (mk := false) (args := [a0]) (an := .leaf) (c := Try.f133.body.getD .skip) hentD Try.func133 rfl (Nat.le_of_ble_eq_true (by kernel_rfl))
    (Eq.mp (show sh133 a0 w R = denF Try.prog entD false Try.f133 .leaf (Try.f133.body.getD .skip) [a0] w R by kernel_rfl) h)

/-! ### 135: slices.BinarySearchFunc[[]handbill/omap.pair[string, string],handbill/omap.pair[string, string],string] -/
def sh135 (a0 a1 a2 : Value) (w : World) (R : Value → World → Prop) : Prop :=
 RunW Try.prog (Builtin.len_ #[173] 3 #[a0]) w fun t13_1 =>
 lp 2 (fun n_4 t9_2 t10_3 w =>
 RunA Try.prog (bin .lss 3 (.tmp 15) (.tmp 16) t9_2 t10_3) fun t17_5 =>
 IfB t17_5 (
 RunA Try.prog (bin .add 3 (.tmp 18) (.tmp 19) t9_2 t10_3) fun t20_6 =>
 RunV Try.prog (convert 3 183 t20_6) w fun t21_7 w =>
 RunA Try.prog (bin .shr 183 (.tmp 21) (.const (.int .u64 1)) t21_7 (.int .u64 1)) fun t22_8 =>
 RunV Try.prog (convert 183 3 t22_8) w fun t23_9 w =>
 jn 6 (fun t0_10 t1_11 t2_12 t8_13 t9_14 t10_15 w =>
 (t0_10 : Value) = a0 ∧ ((t1_11 : Value) = a1 ∧ ((t2_12 : Value) = a2 ∧ ((t8_13 : Value) = t13_1 ∧ (n_4 t9_14 t10_15 w))))) fun j_16 =>
 RunA Try.prog (Instr.indexAt 173 a0 t23_9) fun t27_17 =>
 RunW Try.prog (Instr.loadAt 177 t27_17) w fun t28_18 =>
 CallV Try.prog a2 #[t28_18, a1] w fun t30_19 w =>
 RunA Try.prog (bin .lss 3 (.tmp 30) (.const (.int .i64 0)) t30_19 (.int .i64 0)) fun t31_20 =>
 IfB t31_20 (
 RunA Try.prog (bin .add 3 (.tmp 32) (.const (.int .i64 1)) t23_9 (.int .i64 1)) fun t33_21 =>
 j_16 a0 a1 a2 t13_1 t33_21 t10_3 w) (
 j_16 a0 a1 a2 t13_1 t9_2 t23_9 w)) (
 RunA Try.prog (bin .lss 3 (.tmp 36) (.tmp 37) t9_2 t13_1) fun t38_22 =>
 IfB t38_22 (
 RunA Try.prog (Instr.indexAt 173 a0 t9_2) fun t43_23 =>
 RunW Try.prog (Instr.loadAt 177 t43_23) w fun t44_24 =>
 CallV Try.prog a2 #[t44_24, a1] w fun t46_25 w =>
 RunW Try.prog (bin .eql 3 (.tmp 46) (.const (.int .i64 0)) t46_25 (.int .i64 0)) w fun t47_26 =>
 R (.tuple #[t9_2, t47_26]) w) (
 R (.tuple #[t9_2, (.bool false)]) w))) [(.int .i64 0), t13_1] w
theorem sh135_calls {a0 a1 a2 : Value} {w : World} {R : Value → World → Prop} (h : sh135 a0 a1 a2 w R) : CallF Try.prog 135 #[a0, a1, a2] w R :=
  calls_of_denF (mk := false) (args := [a0, a1, a2]) (an := (.seq (.ops [0, 1, 2]) (.seq (.ops [0, 1, 2, 8]) (.seq (.ops [0, 1, 2, 8, 9, 10]) (.seq (.blk (.loop [0, 1, 2, 8] [9, 10] (.seq (.seq (.ops [0, 1, 2, 8, 9, 10, 17]) (.cond .leaf .leaf)) (.blk (.seq (.ops [0, 1, 2, 8, 9, 10, 11]) (.join [0, 1, 2, 8, 9, 10] (.seq (.ops [0, 1, 2, 8, 9, 10, 11, 31]) (.cond (.ops [0, 1, 2, 8, 9, 10]) (.ops [0, 1, 2, 8, 9, 10]))))))))) (.seq (.ops [6, 7]) .leaf)))))) (c := Try.f135.body.getD .skip) hentD Try.func135 rfl (Nat.le_of_ble_eq_true (by kernel_rfl))
    (Eq.mp (show sh135 a0 a1 a2 w R = denF Try.prog entD false Try.f135 (.seq (.ops [0, 1, 2]) (.seq (.ops [0, 1, 2, 8]) (.seq (.ops [0, 1, 2, 8, 9, 10]) (.seq (.blk (.loop [0, 1, 2, 8] [9, 10] (.seq (.seq (.ops [0, 1, 2, 8, 9, 10, 17]) (.cond .leaf .leaf)) (.blk (.seq (.ops [0, 1, 2, 8, 9, 10, 11]) (.join [0, 1, 2, 8, 9, 10] (.seq (.ops [0, 1, 2, 8, 9, 10, 11, 31]) (.cond (.ops [0, 1, 2, 8, 9, 10]) (.ops [0, 1, 2, 8, 9, 10]))))))))) (.seq (.ops [6, 7]) .leaf))))) (Try.f135.body.getD .skip) [a0, a1, a2] w R by kernel_rfl) h)

/-! ### 136: (*handbill/omap.Map[string, string]).find$1 -/
def sh136 (a0 a1 : Value) (w : World) (R : Value → World → Prop) : Prop :=
 RunV Try.prog (Instr.box 177 a0) w fun t2_1 w =>
 RunA Try.prog (Instr.fieldAt 177 t2_1 0) fun t5_2 =>
 RunW Try.prog (Instr.loadAt 9 t5_2) w fun t6_3 =>
 CallF Try.prog 99 #[t6_3, a1] w fun t8_4 w =>
 R t8_4 w
theorem sh136_calls {a0 a1 : Value} {w : World} {R : Value → World → Prop} (h : sh136 a0 a1 w R) : CallF Try.prog 136 #[a0, a1] w R :=
  calls_of_denF (mk := false) (args := [a0, a1]) (an := (.seq (.ops [1, 2]) (.seq (.ops [4]) .leaf))) (c := Try.f136.body.getD .skip) hentD Try.func136 rfl (Nat.le_of_ble_eq_true (by kernel_rfl))
    (Eq.mp (show sh136 a0 a1 w R = denF Try.prog entD false Try.f136 (.seq (.ops [1, 2]) (.seq (.ops [4]) .leaf)) (Try.f136.body.getD .skip) [a0, a1] w R by kernel_rfl) h)

end Go.Proofs.Ytdjgchofnkancaa
