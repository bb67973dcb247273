/-
  The shallow forms of the functions, printed by a program (ez.py) out of Lean's print of the loaded functions; each is proved to imply the function's contract: the equations are the kernel's.
-/
import Derived.Test.YtffnabbchghokaaProg
import Derived.Test.YtffnabbchghokaaEzSound
namespace Go.Proofs.Ytffnabbchghokaa
open Go Go.Ez
set_option linter.unusedVariables false
set_option maxRecDepth 100000
def entD : List Nat := [20, 24, 25, 27, 28, 29, 30, 32, 34, 35, 40, 43, 44, 45, 46, 47, 48, 49, 50, 51, 52, 53, 54, 55, 56, 57, 58, 59, 60, 61, 62, 63, 64, 65, 66, 90, 91, 92, 93, 94, 95, 96, 97, 98, 99, 100, 116, 117, 118, 119, 120, 121, 122, 123, 124, 125, 126, 129, 137, 138, 139, 140]
theorem hentD : ∀ g, memN g entD = true → Enters Try.prog g := enters_all (by kernel_rfl)

/-! ### 8: handbill/hbllaw12.TxnSees -/
def sh8 (a0 a1 a2 : Value) (w : World) (R : Value → World → Prop) : Prop :=
 CallF Try.prog 45 #[] w fun t16_1 w =>
 RunA Try.prog (Op.unary .not t16_1) fun t17_2 =>
 IfB t17_2 (
 R (.bool false) w) (
 CallF Try.prog 46 #[a0] w fun t20_3 w =>
 RunA Try.prog (Instr.extract t20_3 0) fun t21_4 =>
 RunA Try.prog (Instr.extract t20_3 1) fun t22_5 =>
 RunW Try.prog (bin .eql 35 (.tmp 23) (.const (.pointer none)) t21_4 (.pointer none)) w fun t24_6 =>
 IfB t24_6 (
 RunW Try.prog (bin .neq 35 (.tmp 38) (.const (.pointer none)) t21_4 (.pointer none)) w fun t39_7 =>
 IfB t39_7 (
 CallF Try.prog 45 #[] w fun t41_8 w =>
 R t41_8 w) (
 R (.bool false) w)) (
 CallF Try.prog 47 #[a2] w fun t27_9 w =>
 RunA Try.prog (Op.unary .not t27_9) fun t28_10 =>
 IfB t28_10 (
 RunW Try.prog (bin .neq 35 (.tmp 38) (.const (.pointer none)) t21_4 (.pointer none)) w fun t39_11 =>
 IfB t39_11 (
 CallF Try.prog 45 #[] w fun t41_12 w =>
 R t41_12 w) (
 R (.bool false) w)) (
 RunA Try.prog (bin .lss 3 (.tmp 31) (.const (.int .i64 0)) a1 (.int .i64 0)) fun t32_13 =>
 IfB t32_13 (
 RunW Try.prog (bin .neq 35 (.tmp 38) (.const (.pointer none)) t21_4 (.pointer none)) w fun t39_14 =>
 IfB t39_14 (
 CallF Try.prog 45 #[] w fun t41_15 w =>
 R t41_15 w) (
 R (.bool false) w)) (
 RunA Try.prog (bin .gtr 3 (.tmp 35) (.const (.int .i64 549755813888)) a1 (.int .i64 549755813888)) fun t36_16 =>
 IfB t36_16 (
 RunW Try.prog (bin .neq 35 (.tmp 38) (.const (.pointer none)) t21_4 (.pointer none)) w fun t39_17 =>
 IfB t39_17 (
 CallF Try.prog 45 #[] w fun t41_18 w =>
 R t41_18 w) (
 R (.bool false) w)) (
 CallF Try.prog 25 #[t21_4, (.string ⟨#[]⟩), (.string ⟨#[]⟩), a1] w fun t45_19 w =>
 CallF Try.prog 24 #[t45_19, (.int .i64 1048576)] w fun t46_20 w =>
 CallF Try.prog 48 #[t21_4, a1] w fun t49_21 w =>
 RunW Try.prog (bin .eql 72 (.tmp 50) (.const (.pointer none)) t49_21 (.pointer none)) w fun t51_22 =>
 IfB t51_22 (
 R (.bool false) w) (
 lp 2 (fun n_25 t9_23 t11_24 w =>
 RunW Try.prog (Builtin.len_ #[68] 3 #[a2]) w fun t54_26 =>
 RunA Try.prog (bin .lss 3 (.tmp 52) (.tmp 54) t11_24 t54_26) fun t55_27 =>
 IfB t55_27 (
 RunA Try.prog (Instr.indexAt 68 a2 t11_24) fun t60_28 =>
 RunW Try.prog (Instr.loadAt 75 t60_28) w fun t61_29 =>
 RunV Try.prog (Instr.alloc 75 true (.tuple #[])) w fun t12_30 w =>
 RunU Try.prog (Instr.storeAt 75 t12_30 t61_29) w fun w =>
 RunA Try.prog (Instr.fieldAt 75 t12_30 0) fun t62_31 =>
 RunW Try.prog (Instr.loadAt 3 t62_31) w fun t63_32 =>
 jn 6 (fun t1_33 t2_34 t7_35 t9_36 t10_37 t11_38 w =>
 RunA Try.prog (bin .add 3 (.tmp 56) (.const (.int .i64 1)) t11_38 (.int .i64 1)) fun t57_40 =>
 (t1_33 : Value) = a1 ∧ ((t2_34 : Value) = a2 ∧ ((t7_35 : Value) = t21_4 ∧ ((t10_37 : Value) = t49_21 ∧ (n_25 t9_36 t57_40 w))))) fun j_39 =>
 RunW Try.prog (bin .eql 3 (.tmp 63) (.const (.int .i64 0)) t63_32 (.int .i64 0)) w fun t79_41 =>
 IfB t79_41 (
 jn 6 (fun t1_42 t2_43 t7_44 t9_45 t10_46 t11_47 w =>
 j_39 t1_42 t2_43 t7_44 t9_45 t10_46 t11_47 w) fun j_48 =>
 RunA Try.prog (Instr.fieldAt 75 t12_30 1) fun t81_49 =>
 RunW Try.prog (Instr.loadAt 9 t81_49) w fun t82_50 =>
 RunA Try.prog (Instr.fieldAt 75 t12_30 2) fun t83_51 =>
 RunW Try.prog (Instr.loadAt 9 t83_51) w fun t84_52 =>
 CallF Try.prog 49 #[t49_21, t82_50, t84_52] w fun t85_53 w =>
 RunW Try.prog (bin .eql 26 (.tmp 85) (.const (.int .i64 0)) t85_53 (.int .i64 0)) w fun t86_54 =>
 IfB t86_54 (
 RunA Try.prog (Instr.fieldAt 75 t12_30 1) fun t88_55 =>
 RunW Try.prog (Instr.loadAt 9 t88_55) w fun t89_56 =>
 RunA Try.prog (Instr.fieldAt 75 t12_30 2) fun t90_57 =>
 RunW Try.prog (Instr.loadAt 9 t90_57) w fun t91_58 =>
 CallF Try.prog 50 #[t9_23, t89_56, t91_58, (.bool false)] w fun t92_59 w =>
 j_48 a1 a2 t21_4 t92_59 t49_21 t11_24 w) (
 j_48 a1 a2 t21_4 t9_23 t49_21 t11_24 w)) (
 jn 6 (fun t1_60 t2_61 t7_62 t9_63 t10_64 t11_65 w =>
 j_39 t1_60 t2_61 t7_62 t9_63 t10_64 t11_65 w) fun j_66 =>
 RunW Try.prog (bin .eql 3 (.tmp 63) (.const (.int .i64 1)) t63_32 (.int .i64 1)) w fun t94_67 =>
 IfB t94_67 (
 jn 6 (fun t1_68 t2_69 t7_70 t9_71 t10_72 t11_73 w =>
 j_66 t1_68 t2_69 t7_70 t9_71 t10_72 t11_73 w) fun j_74 =>
 RunA Try.prog (Instr.fieldAt 75 t12_30 1) fun t96_75 =>
 RunW Try.prog (Instr.loadAt 9 t96_75) w fun t97_76 =>
 CallF Try.prog 51 #[t49_21, t97_76] w fun t98_77 w =>
 RunW Try.prog (bin .eql 26 (.tmp 98) (.const (.int .i64 0)) t98_77 (.int .i64 0)) w fun t99_78 =>
 IfB t99_78 (
 RunA Try.prog (Instr.fieldAt 75 t12_30 1) fun t101_79 =>
 RunW Try.prog (Instr.loadAt 9 t101_79) w fun t102_80 =>
 CallF Try.prog 50 #[t9_23, t102_80, (.string ⟨#[]⟩), (.bool true)] w fun t103_81 w =>
 j_74 a1 a2 t21_4 t103_81 t49_21 t11_24 w) (
 j_74 a1 a2 t21_4 t9_23 t49_21 t11_24 w)) (
 drw (fun S_82 w =>
 RunA Try.prog (Instr.fieldAt 75 t12_30 1) fun t66_83 =>
 RunS Try.prog S_82 (Instr.loadAt 9 t66_83) fun t67_84 =>
 RunA Try.prog (Instr.fieldAt 75 t12_30 1) fun t73_85 =>
 RunS Try.prog S_82 (Instr.loadAt 9 t73_85) fun t74_86 =>
 RunA Try.prog (Instr.fieldAt 75 t12_30 2) fun t75_87 =>
 RunS Try.prog S_82 (Instr.loadAt 9 t75_87) fun t76_88 =>
 CallF Try.prog 32 #[t21_4, t67_84] w fun t68_89 w =>
 S_82 w ∧ (
 ∃ S_90 : World → Prop, S_90 w ∧ (∀ w, S_90 w → S_82 w) ∧ (
 RunS Try.prog S_90 (Builtin.max_ #[3, 3] 3 #[t68_89, a1]) fun t70_91 =>
 RunS Try.prog S_90 (Builtin.min_ #[3, 3] 3 #[t70_91, (.int .i64 549755813888)]) fun t71_92 =>
 RunA Try.prog (bin .add 3 (.tmp 71) (.const (.int .i64 1)) t71_92 (.int .i64 1)) fun t72_93 =>
 CallF Try.prog 29 #[t21_4, t72_93, t74_86, t76_88] w fun t77_94 w =>
 j_66 a1 a2 t21_4 t9_23 t49_21 t11_24 w))) w))) (
 lp 1 (fun n_96 t13_95 w =>
 RunW Try.prog (Builtin.len_ #[41] 3 #[t9_23]) w fun t106_97 =>
 RunA Try.prog (bin .lss 3 (.tmp 104) (.tmp 106) t13_95 t106_97) fun t107_98 =>
 IfB t107_98 (
 RunA Try.prog (Instr.indexAt 41 t9_23 t13_95) fun t114_99 =>
 RunA Try.prog (Instr.fieldAt 50 t114_99 0) fun t115_100 =>
 RunW Try.prog (Instr.loadAt 9 t115_100) w fun t116_101 =>
 CallF Try.prog 52 #[t49_21, t116_101] w fun t117_102 w =>
 RunA Try.prog (Instr.extract t117_102 0) fun t118_103 =>
 RunA Try.prog (Instr.extract t117_102 1) fun t119_104 =>
 RunA Try.prog (Op.unary .not t119_104) fun t121_105 =>
 IfB t121_105 (
 R (.bool false) w) (
 RunA Try.prog (Instr.indexAt 41 t9_23 t13_95) fun t126_106 =>
 RunA Try.prog (Instr.fieldAt 50 t126_106 1) fun t127_107 =>
 RunW Try.prog (Instr.loadAt 9 t127_107) w fun t128_108 =>
 RunW Try.prog (bin .neq 9 (.tmp 123) (.tmp 128) t118_103 t128_108) w fun t129_109 =>
 IfB t129_109 (
 R (.bool false) w) (
 RunA Try.prog (bin .add 3 (.tmp 108) (.const (.int .i64 1)) t13_95 (.int .i64 1)) fun t109_110 =>
 (t9_23 : Value) = t9_23 ∧ ((t49_21 : Value) = t49_21 ∧ (n_96 t109_110 w))))) (
 CallF Try.prog 45 #[] w fun t131_111 w =>
 IfB t131_111 (
 CallF Try.prog 53 #[t49_21, (.string ⟨#[]⟩), (.string ⟨#[]⟩)] w fun t134_112 w =>
 CallF Try.prog 24 #[t134_112, (.int .i64 1048576)] w fun t135_113 w =>
 CallF Try.prog 27 #[t135_113, t9_23] w fun t137_114 w =>
 R t137_114 w) (
 R (.bool false) w))) [(.int .i64 0)] w)) [t46_20, (.int .i64 0)] w))))))
theorem sh8_calls {a0 a1 a2 : Value} {w : World} {R : Value → World → Prop} (h : sh8 a0 a1 a2 w R) : CallF Try.prog 8 #[a0, a1, a2] w R :=
  calls_of_denF (mk := false) (args := [a0, a1, a2]) (an := (.seq (.ops [0, 1, 2]) (.seq (.seq (.ops [0, 1, 2, 17]) (.cond (.seq (.ops [6]) .leaf) .leaf)) (.seq (.ops [1, 2, 7]) (.seq (.seq (.ops [1, 2, 7, 37]) (.cond (.seq (.ops [6]) .leaf) .leaf)) (.seq (.ops [1, 2, 7, 9]) (.seq (.ops [1, 2, 7, 9, 10]) (.seq (.seq (.ops [1, 2, 7, 9, 10, 51]) (.cond (.seq (.ops [6]) .leaf) .leaf)) (.seq (.seq (.ops [1, 2, 7, 9, 10, 11]) (.blk (.loop [1, 2, 7, 10] [9, 11] (.seq (.seq (.ops [1, 2, 7, 9, 10, 11, 55]) (.cond .leaf .leaf)) (.seq (.blk (.seq (.ops [1, 2, 7, 9, 10, 11, 12]) (.seq (.ops [1, 2, 7, 9, 10, 11, 12, 63]) (.blk (.join [1, 2, 7, 9, 10, 11] (.seq (.ops [1, 2, 7, 9, 10, 11, 12, 63, 78]) (.cond (.join [1, 2, 7, 9, 10, 11] (.seq (.ops [1, 2, 7, 9, 10, 11, 12, 86]) (.cond (.ops [1, 2, 7, 9, 10, 11]) .leaf))) (.join [1, 2, 7, 9, 10, 11] (.seq (.ops [1, 2, 7, 9, 10, 11, 12, 93]) (.cond (.join [1, 2, 7, 9, 10, 11] (.seq (.ops [1, 2, 7, 9, 10, 11, 12, 99]) (.cond (.ops [1, 2, 7, 9, 10, 11]) .leaf))) (.draw (.q 0 (.q 1 (.q 2 (.q 3 (.q 5 (.q 9 (.q 10 (.q 11 (.q 12 (.one 4 (.re (.q 6 (.q 7 (.q 8 (.one 13 .fin))))))))))))))) [1, 2, 7, 9, 10, 11]))))))))))) (.ops [1, 2, 7, 9, 10, 11])))))) (.seq (.seq (.ops [9, 10, 13]) (.blk (.loop [9, 10] [13] (.seq (.seq (.ops [9, 10, 13, 107]) (.cond .leaf .leaf)) (.seq (.blk (.seq (.ops [9, 10, 13, 14, 15]) (.seq (.ops [9, 10, 13, 130]) (.cond (.seq (.ops [6]) .leaf) .leaf)))) (.ops [9, 10, 13])))))) (.seq (.ops [6]) .leaf))))))))))) (c := Try.f8.body.getD .skip) hentD Try.func8 rfl (Nat.le_of_ble_eq_true (by kernel_rfl))
    (Eq.mp (show sh8 a0 a1 a2 w R = denF Try.prog entD false Try.f8 (.seq (.ops [0, 1, 2]) (.seq (.seq (.ops [0, 1, 2, 17]) (.cond (.seq (.ops [6]) .leaf) .leaf)) (.seq (.ops [1, 2, 7]) (.seq (.seq (.ops [1, 2, 7, 37]) (.cond (.seq (.ops [6]) .leaf) .leaf)) (.seq (.ops [1, 2, 7, 9]) (.seq (.ops [1, 2, 7, 9, 10]) (.seq (.seq (.ops [1, 2, 7, 9, 10, 51]) (.cond (.seq (.ops [6]) .leaf) .leaf)) (.seq (.seq (.ops [1, 2, 7, 9, 10, 11]) (.blk (.loop [1, 2, 7, 10] [9, 11] (.seq (.seq (.ops [1, 2, 7, 9, 10, 11, 55]) (.cond .leaf .leaf)) (.seq (.blk (.seq (.ops [1, 2, 7, 9, 10, 11, 12]) (.seq (.ops [1, 2, 7, 9, 10, 11, 12, 63]) (.blk (.join [1, 2, 7, 9, 10, 11] (.seq (.ops [1, 2, 7, 9, 10, 11, 12, 63, 78]) (.cond (.join [1, 2, 7, 9, 10, 11] (.seq (.ops [1, 2, 7, 9, 10, 11, 12, 86]) (.cond (.ops [1, 2, 7, 9, 10, 11]) .leaf))) (.join [1, 2, 7, 9, 10, 11] (.seq (.ops [1, 2, 7, 9, 10, 11, 12, 93]) (.cond (.join [1, 2, 7, 9, 10, 11] (.seq (.ops [1, 2, 7, 9, 10, 11, 12, 99]) (.cond (.ops [1, 2, 7, 9, 10, 11]) .leaf))) (.draw (.q 0 (.q 1 (.q 2 (.q 3 (.q 5 (.q 9 (.q 10 (.q 11 (.q 12 (.one 4 (.re (.q 6 (.q 7 (.q 8 (.one 13 .fin))))))))))))))) [1, 2, 7, 9, 10, 11]))))))))))) (.ops [1, 2, 7, 9, 10, 11])))))) (.seq (.seq (.ops [9, 10, 13]) (.blk (.loop [9, 10] [13] (.seq (.seq (.ops [9, 10, 13, 107]) (.cond .leaf .leaf)) (.seq (.blk (.seq (.ops [9, 10, 13, 14, 15]) (.seq (.ops [9, 10, 13, 130]) (.cond (.seq (.ops [6]) .leaf) .leaf)))) (.ops [9, 10, 13])))))) (.seq (.ops [6]) .leaf)))))))))) (Try.f8.body.getD .skip) [a0, a1, a2] w R by kernel_rfl) h)

/-! ### 9: handbill/hbllaw12.TxnParts -/
def sh9 (a0 a1 a2 a3 a4 : Value) (w : World) (R : Value → World → Prop) : Prop :=
 CallF Try.prog 45 #[] w fun t20_1 w =>
 RunA Try.prog (Op.unary .not t20_1) fun t21_2 =>
 IfB t21_2 (
 R (.bool false) w) (
 CallF Try.prog 46 #[a0] w fun t24_3 w =>
 RunA Try.prog (Instr.extract t24_3 0) fun t25_4 =>
 RunA Try.prog (Instr.extract t24_3 1) fun t26_5 =>
 RunW Try.prog (bin .eql 35 (.tmp 27) (.const (.pointer none)) t25_4 (.pointer none)) w fun t28_6 =>
 IfB t28_6 (
 RunW Try.prog (bin .neq 35 (.tmp 44) (.const (.pointer none)) t25_4 (.pointer none)) w fun t45_7 =>
 IfB t45_7 (
 CallF Try.prog 45 #[] w fun t47_8 w =>
 R t47_8 w) (
 R (.bool false) w)) (
 CallF Try.prog 47 #[a2] w fun t31_9 w =>
 RunA Try.prog (Op.unary .not t31_9) fun t32_10 =>
 IfB t32_10 (
 RunW Try.prog (bin .neq 35 (.tmp 44) (.const (.pointer none)) t25_4 (.pointer none)) w fun t45_11 =>
 IfB t45_11 (
 CallF Try.prog 45 #[] w fun t47_12 w =>
 R t47_12 w) (
 R (.bool false) w)) (
 RunW Try.prog (Builtin.len_ #[68] 3 #[a2]) w fun t36_13 =>
 RunA Try.prog (bin .gtr 3 (.tmp 36) (.const (.int .i64 200)) t36_13 (.int .i64 200)) fun t37_14 =>
 IfB t37_14 (
 RunW Try.prog (bin .neq 35 (.tmp 44) (.const (.pointer none)) t25_4 (.pointer none)) w fun t45_15 =>
 IfB t45_15 (
 CallF Try.prog 45 #[] w fun t47_16 w =>
 R t47_16 w) (
 R (.bool false) w)) (
 RunW Try.prog (Builtin.len_ #[9] 3 #[a3]) w fun t41_17 =>
 RunA Try.prog (bin .gtr 3 (.tmp 41) (.const (.int .i64 1000)) t41_17 (.int .i64 1000)) fun t42_18 =>
 IfB t42_18 (
 RunW Try.prog (bin .neq 35 (.tmp 44) (.const (.pointer none)) t25_4 (.pointer none)) w fun t45_19 =>
 IfB t45_19 (
 CallF Try.prog 45 #[] w fun t47_20 w =>
 R t47_20 w) (
 R (.bool false) w)) (
 CallF Try.prog 48 #[t25_4, a1] w fun t51_21 w =>
 RunW Try.prog (bin .eql 72 (.tmp 52) (.const (.pointer none)) t51_21 (.pointer none)) w fun t53_22 =>
 IfB t53_22 (
 R (.bool false) w) (
 lp 1 (fun n_24 t14_23 w =>
 RunW Try.prog (Builtin.len_ #[68] 3 #[a2]) w fun t56_25 =>
 RunA Try.prog (bin .lss 3 (.tmp 54) (.tmp 56) t14_23 t56_25) fun t57_26 =>
 IfB t57_26 (
 jn 5 (fun t2_27 t3_28 t4_29 t13_30 t14_31 w =>
 RunA Try.prog (bin .add 3 (.tmp 58) (.const (.int .i64 1)) t14_31 (.int .i64 1)) fun t59_33 =>
 (t2_27 : Value) = a2 ∧ ((t3_28 : Value) = a3 ∧ ((t4_29 : Value) = a4 ∧ ((t13_30 : Value) = t51_21 ∧ (n_24 t59_33 w))))) fun j_32 =>
 RunA Try.prog (Instr.indexAt 68 a2 t14_23) fun t62_34 =>
 RunA Try.prog (Instr.fieldAt 75 t62_34 0) fun t63_35 =>
 RunW Try.prog (Instr.loadAt 3 t63_35) w fun t64_36 =>
 RunW Try.prog (bin .eql 3 (.tmp 64) (.const (.int .i64 1)) t64_36 (.int .i64 1)) w fun t65_37 =>
 IfB t65_37 (
 RunA Try.prog (Instr.indexAt 68 a2 t14_23) fun t69_38 =>
 RunA Try.prog (Instr.fieldAt 75 t69_38 1) fun t70_39 =>
 RunW Try.prog (Instr.loadAt 9 t70_39) w fun t71_40 =>
 CallF Try.prog 51 #[t51_21, t71_40] w fun t72_41 w =>
 j_32 a2 a3 a4 t51_21 t14_23 w) (
 drw (fun S_42 w =>
 RunA Try.prog (Instr.indexAt 68 a2 t14_23) fun t76_43 =>
 RunA Try.prog (Instr.fieldAt 75 t76_43 1) fun t77_44 =>
 RunS Try.prog S_42 (Instr.loadAt 9 t77_44) fun t78_45 =>
 RunA Try.prog (Instr.indexAt 68 a2 t14_23) fun t81_46 =>
 RunA Try.prog (Instr.fieldAt 75 t81_46 2) fun t82_47 =>
 RunS Try.prog S_42 (Instr.loadAt 9 t82_47) fun t83_48 =>
 CallF Try.prog 49 #[t51_21, t78_45, t83_48] w fun t84_49 w =>
 j_32 a2 a3 a4 t51_21 t14_23 w) w)) (
 CallF Try.prog 53 #[t51_21, (.string ⟨#[]⟩), (.string ⟨#[]⟩)] w fun t86_50 w =>
 CallF Try.prog 24 #[t86_50, (.int .i64 1048576)] w fun t87_51 w =>
 lp 2 (fun n_54 t16_52 t17_53 w =>
 RunW Try.prog (Builtin.len_ #[41] 3 #[t87_51]) w fun t90_55 =>
 RunA Try.prog (bin .lss 3 (.tmp 88) (.tmp 90) t17_53 t90_55) fun t91_56 =>
 IfB t91_56 (
 jn 6 (fun t3_57 t4_58 t13_59 t15_60 t16_61 t17_62 w =>
 RunA Try.prog (bin .add 3 (.tmp 92) (.const (.int .i64 1)) t17_62 (.int .i64 1)) fun t93_64 =>
 (t3_57 : Value) = a3 ∧ ((t4_58 : Value) = a4 ∧ ((t13_59 : Value) = t51_21 ∧ ((t15_60 : Value) = t87_51 ∧ (n_54 t16_61 t93_64 w))))) fun j_63 =>
 RunA Try.prog (Instr.indexAt 41 t87_51 t17_53) fun t96_65 =>
 RunA Try.prog (Instr.fieldAt 50 t96_65 0) fun t97_66 =>
 RunW Try.prog (Instr.loadAt 9 t97_66) w fun t98_67 =>
 RunW Try.prog (Builtin.len_ #[9] 3 #[t98_67]) w fun t99_68 =>
 RunW Try.prog (Builtin.len_ #[9] 3 #[a3]) w fun t101_69 =>
 RunA Try.prog (bin .geq 3 (.tmp 99) (.tmp 101) t99_68 t101_69) fun t102_70 =>
 IfB t102_70 (
 RunA Try.prog (Instr.indexAt 41 t87_51 t17_53) fun t106_71 =>
 RunA Try.prog (Instr.fieldAt 50 t106_71 0) fun t107_72 =>
 RunW Try.prog (Instr.loadAt 9 t107_72) w fun t108_73 =>
 RunW Try.prog (Builtin.len_ #[9] 3 #[a3]) w fun t110_74 =>
 RunA Try.prog (Instr.sliceAt 9 t108_73 none (some t110_74) none) fun t111_75 =>
 RunW Try.prog (bin .eql 9 (.tmp 111) (.tmp 112) t111_75 a3) w fun t113_76 =>
 IfB t113_76 (
 RunA Try.prog (Instr.indexAt 41 t87_51 t17_53) fun t118_77 =>
 RunW Try.prog (Instr.loadAt 50 t118_77) w fun t119_78 =>
 RunV Try.prog (Instr.buildSlice 41 1 #[(0, t119_78)]) w fun t120_79 w =>
 RunV Try.prog (Builtin.append_ #[41, 41] 41 #[t16_52, t120_79]) w fun t121_80 w =>
 j_63 a3 a4 t51_21 t87_51 t121_80 t17_53 w) (
 j_63 a3 a4 t51_21 t87_51 t16_52 t17_53 w)) (
 j_63 a3 a4 t51_21 t87_51 t16_52 t17_53 w)) (
 RunW Try.prog (Builtin.max_ #[3, 3] 3 #[a4, (.int .i64 0)]) w fun t123_81 =>
 RunW Try.prog (Builtin.len_ #[41] 3 #[t87_51]) w fun t125_82 =>
 RunW Try.prog (Builtin.min_ #[3, 3] 3 #[t123_81, t125_82]) w fun t126_83 =>
 CallF Try.prog 53 #[t51_21, (.string ⟨#[]⟩), a3] w fun t129_84 w =>
 CallF Try.prog 24 #[t129_84, (.int .i64 1048576)] w fun t130_85 w =>
 jn 7 (fun t3_86 t4_87 t13_88 t15_89 t16_90 t18_91 t19_92 w =>
 drw (fun S_94 w =>
 CallF Try.prog 45 #[] w fun t133_95 w =>
 S_94 w ∧ (
 IfB t133_95 (
 CallF Try.prog 53 #[t13_88, t3_86, (.string ⟨#[]⟩)] w fun t138_96 w =>
 S_94 w ∧ (
 CallF Try.prog 24 #[t138_96, (.int .i64 1048576)] w fun t139_97 w =>
 S_94 w ∧ (
 RunV Try.prog (Builtin.append_ #[41, 41] 41 #[t19_92, t139_97]) w fun t140_98 w =>
 S_94 w ∧ (
 CallF Try.prog 27 #[t140_98, t15_89] w fun t142_99 w =>
 S_94 w ∧ (
 IfB t142_99 (
 CallF Try.prog 54 #[t13_88, t3_86] w fun t147_100 w =>
 S_94 w ∧ (
 CallF Try.prog 24 #[t147_100, (.int .i64 1048576)] w fun t148_101 w =>
 S_94 w ∧ (
 CallF Try.prog 27 #[t148_101, t16_90] w fun t150_102 w =>
 S_94 w ∧ (
 IfB t150_102 (
 RunA Try.prog (Instr.sliceAt 41 t15_89 none (some t18_91) none) fun t159_103 =>
 CallF Try.prog 53 #[t13_88, (.string ⟨#[]⟩), (.string ⟨#[]⟩)] w fun t154_104 w =>
 S_94 w ∧ (
 CallF Try.prog 24 #[t154_104, t4_87] w fun t156_105 w =>
 S_94 w ∧ (
 CallF Try.prog 27 #[t156_105, t159_103] w fun t160_106 w =>
 S_94 w ∧ (
 R t160_106 w)))) (
 R (.bool false) w))))) (
 R (.bool false) w)))))) (
 R (.bool false) w))) w) fun j_93 =>
 RunW Try.prog (bin .eql 9 (.tmp 131) (.const (.string ⟨#[]⟩)) a3 (.string ⟨#[]⟩)) w fun t132_107 =>
 IfB t132_107 (
 j_93 a3 a4 t51_21 t87_51 t16_52 t126_83 (.slice none 0 0) w) (
 j_93 a3 a4 t51_21 t87_51 t16_52 t126_83 t130_85 w))) [(.slice none 0 0), (.int .i64 0)] w)) [(.int .i64 0)] w))))))
theorem sh9_calls {a0 a1 a2 a3 a4 : Value} {w : World} {R : Value → World → Prop} (h : sh9 a0 a1 a2 a3 a4 w R) : CallF Try.prog 9 #[a0, a1, a2, a3, a4] w R :=
  calls_of_denF (mk := false) (args := [a0, a1, a2, a3, a4]) (an := (.seq (.ops [0, 1, 2, 3, 4]) (.seq (.seq (.ops [0, 1, 2, 3, 4, 21]) (.cond (.seq (.ops [10]) .leaf) .leaf)) (.seq (.ops [1, 2, 3, 4, 11]) (.seq (.seq (.ops [1, 2, 3, 4, 11, 43]) (.cond (.seq (.ops [10]) .leaf) .leaf)) (.seq (.ops [2, 3, 4, 13]) (.seq (.seq (.ops [2, 3, 4, 13, 53]) (.cond (.seq (.ops [10]) .leaf) .leaf)) (.seq (.seq (.ops [2, 3, 4, 13, 14]) (.blk (.loop [2, 3, 4, 13] [14] (.seq (.seq (.ops [2, 3, 4, 13, 14, 57]) (.cond .leaf .leaf)) (.seq (.blk (.join [2, 3, 4, 13, 14] (.seq (.ops [2, 3, 4, 13, 14, 65]) (.cond (.ops [2, 3, 4, 13, 14]) (.draw (.q 0 (.q 1 (.q 2 (.q 3 (.q 4 (.q 5 (.q 6 (.q 7 (.q 8 (.q 9 (.q 10 (.one 11 .fin)))))))))))) [2, 3, 4, 13, 14]))))) (.ops [2, 3, 4, 13, 14])))))) (.seq (.ops [3, 4, 13, 15]) (.seq (.ops [3, 4, 13, 15, 16]) (.seq (.seq (.ops [3, 4, 13, 15, 16, 17]) (.blk (.loop [3, 4, 13, 15] [16, 17] (.seq (.seq (.ops [3, 4, 13, 15, 16, 17, 91]) (.cond .leaf .leaf)) (.seq (.blk (.join [3, 4, 13, 15, 16, 17] (.seq (.ops [3, 4, 13, 15, 16, 17, 114]) (.cond (.ops [3, 4, 13, 15, 16, 17]) .leaf)))) (.ops [3, 4, 13, 15, 16, 17])))))) (.seq (.ops [3, 4, 13, 15, 16, 18]) (.seq (.ops [3, 4, 13, 15, 16, 18, 19]) (.seq (.join [3, 4, 13, 15, 16, 18, 19] (.seq (.ops [3, 4, 13, 15, 16, 18, 19, 132]) (.cond (.ops [3, 4, 13, 15, 16, 18, 19]) .leaf))) (.seq (.draw (.one 0 (.q 1 (.sp 2 (.q 2 (.q 3 (.q 4 (.q 8 (.one 5 (.one 6 (.one 7 (.one 9 (.q 10 (.q 11 (.sp 12 (.q 12 (.q 13 (.q 16 (.one 14 (.one 15 (.one 17 (.q 18 (.q 19 (.sp 20 (.q 20 (.q 22 (.q 24 (.q 25 (.q 26 (.one 21 (.one 23 (.one 27 (.q 28 (.q 29 .fin)))))))))) (.q 20 (.q 21 (.q 22 (.q 23 (.q 24 (.q 25 (.q 26 (.q 27 (.q 28 (.q 29 .fin))))))))))))))))))) (.q 12 (.q 13 (.q 14 (.q 15 (.q 16 (.q 17 (.q 18 (.q 19 (.q 20 (.q 21 (.q 22 (.q 23 (.q 24 (.q 25 (.q 26 (.q 27 (.q 28 (.q 29 .fin))))))))))))))))))))))))))))) (.q 2 (.q 3 (.q 4 (.q 5 (.q 6 (.q 7 (.q 8 (.q 9 (.q 10 (.q 11 (.q 12 (.q 13 (.q 14 (.q 15 (.q 16 (.q 17 (.q 18 (.q 19 (.q 20 (.q 21 (.q 22 (.q 23 (.q 24 (.q 25 (.q 26 (.q 27 (.q 28 (.q 29 .fin))))))))))))))))))))))))))))))) [10]) .leaf))))))))))))))) (c := Try.f9.body.getD .skip) hentD Try.func9 rfl (Nat.le_of_ble_eq_true (by kernel_rfl))
    (Eq.mp (show sh9 a0 a1 a2 a3 a4 w R = denF Try.prog entD false Try.f9 (.seq (.ops [0, 1, 2, 3, 4]) (.seq (.seq (.ops [0, 1, 2, 3, 4, 21]) (.cond (.seq (.ops [10]) .leaf) .leaf)) (.seq (.ops [1, 2, 3, 4, 11]) (.seq (.seq (.ops [1, 2, 3, 4, 11, 43]) (.cond (.seq (.ops [10]) .leaf) .leaf)) (.seq (.ops [2, 3, 4, 13]) (.seq (.seq (.ops [2, 3, 4, 13, 53]) (.cond (.seq (.ops [10]) .leaf) .leaf)) (.seq (.seq (.ops [2, 3, 4, 13, 14]) (.blk (.loop [2, 3, 4, 13] [14] (.seq (.seq (.ops [2, 3, 4, 13, 14, 57]) (.cond .leaf .leaf)) (.seq (.blk (.join [2, 3, 4, 13, 14] (.seq (.ops [2, 3, 4, 13, 14, 65]) (.cond (.ops [2, 3, 4, 13, 14]) (.draw (.q 0 (.q 1 (.q 2 (.q 3 (.q 4 (.q 5 (.q 6 (.q 7 (.q 8 (.q 9 (.q 10 (.one 11 .fin)))))))))))) [2, 3, 4, 13, 14]))))) (.ops [2, 3, 4, 13, 14])))))) (.seq (.ops [3, 4, 13, 15]) (.seq (.ops [3, 4, 13, 15, 16]) (.seq (.seq (.ops [3, 4, 13, 15, 16, 17]) (.blk (.loop [3, 4, 13, 15] [16, 17] (.seq (.seq (.ops [3, 4, 13, 15, 16, 17, 91]) (.cond .leaf .leaf)) (.seq (.blk (.join [3, 4, 13, 15, 16, 17] (.seq (.ops [3, 4, 13, 15, 16, 17, 114]) (.cond (.ops [3, 4, 13, 15, 16, 17]) .leaf)))) (.ops [3, 4, 13, 15, 16, 17])))))) (.seq (.ops [3, 4, 13, 15, 16, 18]) (.seq (.ops [3, 4, 13, 15, 16, 18, 19]) (.seq (.join [3, 4, 13, 15, 16, 18, 19] (.seq (.ops [3, 4, 13, 15, 16, 18, 19, 132]) (.cond (.ops [3, 4, 13, 15, 16, 18, 19]) .leaf))) (.seq (.draw (.one 0 (.q 1 (.sp 2 (.q 2 (.q 3 (.q 4 (.q 8 (.one 5 (.one 6 (.one 7 (.one 9 (.q 10 (.q 11 (.sp 12 (.q 12 (.q 13 (.q 16 (.one 14 (.one 15 (.one 17 (.q 18 (.q 19 (.sp 20 (.q 20 (.q 22 (.q 24 (.q 25 (.q 26 (.one 21 (.one 23 (.one 27 (.q 28 (.q 29 .fin)))))))))) (.q 20 (.q 21 (.q 22 (.q 23 (.q 24 (.q 25 (.q 26 (.q 27 (.q 28 (.q 29 .fin))))))))))))))))))) (.q 12 (.q 13 (.q 14 (.q 15 (.q 16 (.q 17 (.q 18 (.q 19 (.q 20 (.q 21 (.q 22 (.q 23 (.q 24 (.q 25 (.q 26 (.q 27 (.q 28 (.q 29 .fin))))))))))))))))))))))))))))) (.q 2 (.q 3 (.q 4 (.q 5 (.q 6 (.q 7 (.q 8 (.q 9 (.q 10 (.q 11 (.q 12 (.q 13 (.q 14 (.q 15 (.q 16 (.q 17 (.q 18 (.q 19 (.q 20 (.q 21 (.q 22 (.q 23 (.q 24 (.q 25 (.q 26 (.q 27 (.q 28 (.q 29 .fin))))))))))))))))))))))))))))))) [10]) .leaf)))))))))))))) (Try.f9.body.getD .skip) [a0, a1, a2, a3, a4] w R by kernel_rfl) h)

/-! ### 10: handbill/hbllaw12.TxnLast -/
def sh10 (a0 a1 a2 : Value) (w : World) (R : Value → World → Prop) : Prop :=
 CallF Try.prog 45 #[] w fun t17_1 w =>
 RunA Try.prog (Op.unary .not t17_1) fun t18_2 =>
 IfB t18_2 (
 R (.bool false) w) (
 CallF Try.prog 46 #[a0] w fun t21_3 w =>
 RunA Try.prog (Instr.extract t21_3 0) fun t22_4 =>
 RunA Try.prog (Instr.extract t21_3 1) fun t23_5 =>
 RunW Try.prog (bin .eql 35 (.tmp 24) (.const (.pointer none)) t22_4 (.pointer none)) w fun t25_6 =>
 IfB t25_6 (
 RunW Try.prog (bin .neq 35 (.tmp 36) (.const (.pointer none)) t22_4 (.pointer none)) w fun t37_7 =>
 IfB t37_7 (
 CallF Try.prog 45 #[] w fun t39_8 w =>
 R t39_8 w) (
 R (.bool false) w)) (
 CallF Try.prog 47 #[a2] w fun t28_9 w =>
 RunA Try.prog (Op.unary .not t28_9) fun t29_10 =>
 IfB t29_10 (
 RunW Try.prog (bin .neq 35 (.tmp 36) (.const (.pointer none)) t22_4 (.pointer none)) w fun t37_11 =>
 IfB t37_11 (
 CallF Try.prog 45 #[] w fun t39_12 w =>
 R t39_12 w) (
 R (.bool false) w)) (
 RunW Try.prog (Builtin.len_ #[68] 3 #[a2]) w fun t33_13 =>
 RunA Try.prog (bin .gtr 3 (.tmp 33) (.const (.int .i64 500)) t33_13 (.int .i64 500)) fun t34_14 =>
 IfB t34_14 (
 RunW Try.prog (bin .neq 35 (.tmp 36) (.const (.pointer none)) t22_4 (.pointer none)) w fun t37_15 =>
 IfB t37_15 (
 CallF Try.prog 45 #[] w fun t39_16 w =>
 R t39_16 w) (
 R (.bool false) w)) (
 CallF Try.prog 48 #[t22_4, a1] w fun t43_17 w =>
 CallF Try.prog 48 #[t22_4, a1] w fun t46_18 w =>
 RunW Try.prog (bin .eql 72 (.tmp 47) (.const (.pointer none)) t43_17 (.pointer none)) w fun t48_19 =>
 IfB t48_19 (
 R (.bool false) w) (
 RunW Try.prog (bin .eql 72 (.tmp 50) (.const (.pointer none)) t46_18 (.pointer none)) w fun t51_20 =>
 IfB t51_20 (
 R (.bool false) w) (
 lp 2 (fun n_23 t11_21 t12_22 w =>
 RunW Try.prog (Builtin.len_ #[68] 3 #[a2]) w fun t55_24 =>
 RunA Try.prog (bin .lss 3 (.tmp 53) (.tmp 55) t12_22 t55_24) fun t56_25 =>
 IfB t56_25 (
 jn 5 (fun t2_26 t9_27 t10_28 t11_29 t12_30 w =>
 RunA Try.prog (bin .add 3 (.tmp 57) (.const (.int .i64 1)) t12_30 (.int .i64 1)) fun t58_32 =>
 (t2_26 : Value) = a2 ∧ ((t9_27 : Value) = t43_17 ∧ ((t10_28 : Value) = t46_18 ∧ (n_23 t11_29 t58_32 w)))) fun j_31 =>
 RunA Try.prog (Instr.indexAt 68 a2 t12_22) fun t61_33 =>
 RunW Try.prog (Instr.loadAt 75 t61_33) w fun t62_34 =>
 RunV Try.prog (Instr.alloc 75 true (.tuple #[])) w fun t13_35 w =>
 RunU Try.prog (Instr.storeAt 75 t13_35 t62_34) w fun w =>
 RunA Try.prog (Instr.fieldAt 75 t13_35 1) fun t63_36 =>
 RunW Try.prog (Instr.loadAt 9 t63_36) w fun t64_37 =>
 RunA Try.prog (Instr.fieldAt 75 t13_35 2) fun t65_38 =>
 RunW Try.prog (Instr.loadAt 9 t65_38) w fun t66_39 =>
 RunV Try.prog (Instr.build 86 #[(0, t64_37), (1, t66_39)]) w fun t67_40 w =>
 RunV Try.prog (Instr.alloc 86 true (.tuple #[])) w fun t14_41 w =>
 RunU Try.prog (Instr.storeAt 86 t14_41 t67_40) w fun w =>
 RunA Try.prog (Instr.fieldAt 75 t13_35 0) fun t68_42 =>
 RunW Try.prog (Instr.loadAt 3 t68_42) w fun t69_43 =>
 jn 7 (fun t2_44 t9_45 t10_46 t11_47 t12_48 t14_49 t15_50 w =>
 RunW Try.prog (bin .neq 26 (.tmp 97) (.const (.int .i64 0)) t15_50 (.int .i64 0)) w fun t98_52 =>
 IfB t98_52 (
 j_31 t2_44 t9_45 t10_46 t11_47 t12_48 w) (
 jn 7 (fun t2_53 t9_54 t10_55 t11_56 t12_57 t14_58 t16_59 w =>
 jn 5 (fun t2_61 t9_62 t10_63 t11_64 t12_65 w =>
 j_31 t2_61 t9_62 t10_63 t11_64 t12_65 w) fun j_66 =>
 drw (fun S_67 w =>
 RunS Try.prog S_67 (Builtin.len_ #[84] 3 #[t11_56]) fun t117_68 =>
 RunA Try.prog (bin .lss 3 (.tmp 115) (.tmp 117) t16_59 t117_68) fun t118_69 =>
 IfB t118_69 (
 RunA Try.prog (Instr.indexAt 84 t11_56 t16_59) fun t122_70 =>
 RunA Try.prog (Instr.fieldAt 86 t122_70 0) fun t123_71 =>
 RunS Try.prog S_67 (Instr.loadAt 9 t123_71) fun t124_72 =>
 RunA Try.prog (Instr.fieldAt 86 t14_58 0) fun t125_73 =>
 RunS Try.prog S_67 (Instr.loadAt 9 t125_73) fun t126_74 =>
 RunS Try.prog S_67 (bin .eql 9 (.tmp 124) (.tmp 126) t124_72 t126_74) fun t127_75 =>
 IfB t127_75 (
 RunW Try.prog (Instr.loadAt 86 t14_58) w fun t131_76 =>
 RunA Try.prog (Instr.indexAt 84 t11_56 t16_59) fun t132_77 =>
 RunU Try.prog (Instr.storeAt 86 t132_77 t131_76) w fun w =>
 j_66 t2_53 t9_54 t10_55 t11_56 t12_57 w) (
 drw (fun S_78 w =>
 RunA Try.prog (Instr.sliceAt 84 t11_56 none (some t16_59) none) fun t135_79 =>
 RunS Try.prog S_78 (Instr.loadAt 86 t14_58) fun t136_80 =>
 RunA Try.prog (Instr.sliceAt 84 t11_56 (some t16_59) none none) fun t140_81 =>
 RunV Try.prog (Instr.buildSlice 84 1 #[(0, t136_80)]) w fun t137_82 w =>
 RunV Try.prog (Builtin.append_ #[84, 84] 84 #[t137_82, t140_81]) w fun t141_83 w =>
 RunV Try.prog (Builtin.append_ #[84, 84] 84 #[t135_79, t141_83]) w fun t142_84 w =>
 j_66 t2_53 t9_54 t10_55 t142_84 t12_57 w) w)) (
 drw (fun S_85 w =>
 RunA Try.prog (Instr.sliceAt 84 t11_56 none (some t16_59) none) fun t135_86 =>
 RunS Try.prog S_85 (Instr.loadAt 86 t14_58) fun t136_87 =>
 RunA Try.prog (Instr.sliceAt 84 t11_56 (some t16_59) none none) fun t140_88 =>
 RunV Try.prog (Instr.buildSlice 84 1 #[(0, t136_87)]) w fun t137_89 w =>
 RunV Try.prog (Builtin.append_ #[84, 84] 84 #[t137_89, t140_88]) w fun t141_90 w =>
 RunV Try.prog (Builtin.append_ #[84, 84] 84 #[t135_86, t141_90]) w fun t142_91 w =>
 j_66 t2_53 t9_54 t10_55 t142_91 t12_57 w) w)) w) fun j_60 =>
 lp 1 (fun n_93 t16_92 w =>
 drw (fun S_94 w =>
 RunS Try.prog S_94 (Builtin.len_ #[84] 3 #[t11_47]) fun t101_95 =>
 RunA Try.prog (bin .lss 3 (.tmp 99) (.tmp 101) t16_92 t101_95) fun t102_96 =>
 IfB t102_96 (
 RunA Try.prog (Instr.indexAt 84 t11_47 t16_92) fun t106_97 =>
 RunA Try.prog (Instr.fieldAt 86 t106_97 0) fun t107_98 =>
 RunS Try.prog S_94 (Instr.loadAt 9 t107_98) fun t108_99 =>
 RunA Try.prog (Instr.fieldAt 86 t14_49 0) fun t109_100 =>
 RunS Try.prog S_94 (Instr.loadAt 9 t109_100) fun t110_101 =>
 RunA Try.prog (bin .lss 9 (.tmp 108) (.tmp 110) t108_99 t110_101) fun t111_102 =>
 IfB t111_102 (
 RunA Try.prog (bin .add 3 (.tmp 113) (.const (.int .i64 1)) t16_92 (.int .i64 1)) fun t114_103 =>
 (t2_44 : Value) = t2_44 ∧ ((t9_45 : Value) = t9_45 ∧ ((t10_46 : Value) = t10_46 ∧ ((t11_47 : Value) = t11_47 ∧ ((t12_48 : Value) = t12_48 ∧ ((t14_49 : Value) = t14_49 ∧ (n_93 t114_103 w))))))) (
 j_60 t2_44 t9_45 t10_46 t11_47 t12_48 t14_49 t16_92 w)) (
 j_60 t2_44 t9_45 t10_46 t11_47 t12_48 t14_49 t16_92 w)) w) [(.int .i64 0)] w)) fun j_51 =>
 RunW Try.prog (bin .eql 3 (.tmp 69) (.const (.int .i64 0)) t69_43 (.int .i64 0)) w fun t71_104 =>
 IfB t71_104 (
 RunA Try.prog (Instr.fieldAt 75 t13_35 1) fun t73_105 =>
 RunW Try.prog (Instr.loadAt 9 t73_105) w fun t74_106 =>
 RunA Try.prog (Instr.fieldAt 75 t13_35 2) fun t75_107 =>
 RunW Try.prog (Instr.loadAt 9 t75_107) w fun t76_108 =>
 CallF Try.prog 49 #[t43_17, t74_106, t76_108] w fun t77_109 w =>
 j_51 a2 t43_17 t46_18 t11_21 t12_22 t14_41 t77_109 w) (
 RunW Try.prog (bin .eql 3 (.tmp 69) (.const (.int .i64 1)) t69_43 (.int .i64 1)) w fun t79_110 =>
 IfB t79_110 (
 RunA Try.prog (Instr.fieldAt 75 t13_35 1) fun t80_111 =>
 RunW Try.prog (Instr.loadAt 9 t80_111) w fun t81_112 =>
 RunV Try.prog (Instr.build 86 #[(0, t81_112), (2, (.bool true))]) w fun t82_113 w =>
 RunU Try.prog (Instr.storeAt 86 t14_41 t82_113) w fun w =>
 RunA Try.prog (Instr.fieldAt 75 t13_35 1) fun t84_114 =>
 RunW Try.prog (Instr.loadAt 9 t84_114) w fun t85_115 =>
 CallF Try.prog 51 #[t43_17, t85_115] w fun t86_116 w =>
 j_51 a2 t43_17 t46_18 t11_21 t12_22 t14_41 t86_116 w) (
 RunW Try.prog (bin .eql 3 (.tmp 69) (.const (.int .i64 2)) t69_43 (.int .i64 2)) w fun t88_117 =>
 IfB t88_117 (
 RunA Try.prog (Instr.fieldAt 75 t13_35 1) fun t90_118 =>
 RunW Try.prog (Instr.loadAt 9 t90_118) w fun t91_119 =>
 CallF Try.prog 52 #[t43_17, t91_119] w fun t92_120 w =>
 RunA Try.prog (Instr.fieldAt 75 t13_35 1) fun t94_121 =>
 RunW Try.prog (Instr.loadAt 9 t94_121) w fun t95_122 =>
 CallF Try.prog 52 #[t46_18, t95_122] w fun t96_123 w =>
 j_31 a2 t43_17 t46_18 t11_21 t12_22 w) (
 j_31 a2 t43_17 t46_18 t11_21 t12_22 w)))) (
 CallF Try.prog 45 #[] w fun t143_124 w =>
 IfB t143_124 (
 CallF Try.prog 56 #[t43_17] w fun t146_125 w =>
 CallF Try.prog 55 #[t146_125, t11_21] w fun t148_126 w =>
 IfB t148_126 (
 CallF Try.prog 57 #[t46_18] w fun t152_127 w =>
 RunA Try.prog (Op.unary .not t152_127) fun t153_128 =>
 IfB t153_128 (
 CallF Try.prog 56 #[t46_18] w fun t157_129 w =>
 RunW Try.prog (Builtin.len_ #[84] 3 #[t157_129]) w fun t158_130 =>
 RunW Try.prog (bin .eql 3 (.tmp 158) (.const (.int .i64 0)) t158_130 (.int .i64 0)) w fun t159_131 =>
 IfB t159_131 (
 RunW Try.prog (Builtin.len_ #[84] 3 #[t11_21]) w fun t163_132 =>
 RunA Try.prog (bin .leq 3 (.tmp 163) (.const (.int .i64 1000)) t163_132 (.int .i64 1000)) fun t164_133 =>
 R t164_133 w) (
 R (.bool false) w)) (
 R (.bool false) w)) (
 R (.bool false) w)) (
 R (.bool false) w))) [(.slice none 0 0), (.int .i64 0)] w))))))
theorem sh10_calls {a0 a1 a2 : Value} {w : World} {R : Value → World → Prop} (h : sh10 a0 a1 a2 w R) : CallF Try.prog 10 #[a0, a1, a2] w R :=
  calls_of_denF (mk := false) (args := [a0, a1, a2]) (an := (.seq (.ops [0, 1, 2]) (.seq (.seq (.ops [0, 1, 2, 18]) (.cond (.seq (.ops [6]) .leaf) .leaf)) (.seq (.ops [1, 2, 7]) (.seq (.seq (.ops [1, 2, 7, 35]) (.cond (.seq (.ops [6]) .leaf) .leaf)) (.seq (.ops [2, 9, 10]) (.seq (.seq (.ops [2, 9, 10, 52]) (.cond (.seq (.ops [6]) .leaf) .leaf)) (.seq (.ops [2, 9, 10, 11]) (.seq (.seq (.ops [2, 9, 10, 11, 12]) (.blk (.loop [2, 9, 10] [11, 12] (.seq (.seq (.ops [2, 9, 10, 11, 12, 56]) (.cond .leaf .leaf)) (.seq (.join [2, 9, 10, 11, 12] (.blk (.seq (.ops [2, 9, 10, 11, 12, 13]) (.seq (.ops [2, 9, 10, 11, 12, 13, 14]) (.seq (.ops [2, 9, 10, 11, 12, 13, 14]) (.seq (.seq (.ops [2, 9, 10, 11, 12, 13, 14, 69]) (.blk (.join [2, 9, 10, 11, 12, 14, 15] (.seq (.ops [2, 9, 10, 11, 12, 13, 14, 69, 70]) (.cond (.ops [2, 9, 10, 11, 12, 14, 15]) (.seq (.ops [2, 9, 10, 11, 12, 13, 14, 69, 78]) (.cond (.seq (.ops [2, 9, 10, 11, 12, 13, 14]) (.ops [2, 9, 10, 11, 12, 14, 15])) (.seq (.ops [2, 9, 10, 11, 12, 13, 87]) (.cond (.seq (.ops [2, 9, 10, 11, 12, 13]) (.seq (.ops [2, 9, 10, 11, 12]) .leaf)) .leaf))))))))) (.seq (.seq (.ops [2, 9, 10, 11, 12, 14, 98]) (.cond .leaf .leaf)) (.seq (.ops [2, 9, 10, 11, 12, 14, 16]) (.seq (.join [2, 9, 10, 11, 12, 14, 16] (.blk (.loop [2, 9, 10, 11, 12, 14] [16] (.seq (.seq (.draw (.q 0 (.q 1 (.q 2 (.q 3 (.q 4 (.sp 5 (.q 5 (.q 6 (.q 7 (.q 8 (.q 9 (.q 10 (.q 11 (.q 12 (.q 13 .fin))))))))) (.q 5 (.q 6 (.q 7 (.q 8 (.q 9 (.q 10 (.q 11 (.q 12 (.q 13 .fin))))))))))))))) [2, 9, 10, 11, 12, 14, 16, 112]) (.cond .leaf .leaf)) (.blk (.ops [2, 9, 10, 11, 12, 14, 16])))))) (.join [2, 9, 10, 11, 12] (.seq (.draw (.q 0 (.q 1 (.q 2 (.q 3 (.q 4 (.sp 5 (.q 5 (.q 6 (.q 7 (.q 8 (.q 9 (.q 10 (.q 11 (.q 12 (.q 13 .fin))))))))) (.q 5 (.q 6 (.q 7 (.q 8 (.q 9 (.q 10 (.q 11 (.q 12 (.q 13 .fin))))))))))))))) [2, 9, 10, 11, 12, 14, 16, 128]) (.cond (.ops [2, 9, 10, 11, 12]) (.draw (.q 0 (.q 1 (.q 2 (.q 3 (.q 5 (.q 6 (.q 7 (.one 4 (.one 8 (.one 9 (.q 10 .fin))))))))))) [2, 9, 10, 11, 12]))))))))))))) (.ops [2, 9, 10, 11, 12])))))) (.seq (.ops [6]) .leaf)))))))))) (c := Try.f10.body.getD .skip) hentD Try.func10 rfl (Nat.le_of_ble_eq_true (by kernel_rfl))
    (Eq.mp (show sh10 a0 a1 a2 w R = denF Try.prog entD false Try.f10 (.seq (.ops [0, 1, 2]) (.seq (.seq (.ops [0, 1, 2, 18]) (.cond (.seq (.ops [6]) .leaf) .leaf)) (.seq (.ops [1, 2, 7]) (.seq (.seq (.ops [1, 2, 7, 35]) (.cond (.seq (.ops [6]) .leaf) .leaf)) (.seq (.ops [2, 9, 10]) (.seq (.seq (.ops [2, 9, 10, 52]) (.cond (.seq (.ops [6]) .leaf) .leaf)) (.seq (.ops [2, 9, 10, 11]) (.seq (.seq (.ops [2, 9, 10, 11, 12]) (.blk (.loop [2, 9, 10] [11, 12] (.seq (.seq (.ops [2, 9, 10, 11, 12, 56]) (.cond .leaf .leaf)) (.seq (.join [2, 9, 10, 11, 12] (.blk (.seq (.ops [2, 9, 10, 11, 12, 13]) (.seq (.ops [2, 9, 10, 11, 12, 13, 14]) (.seq (.ops [2, 9, 10, 11, 12, 13, 14]) (.seq (.seq (.ops [2, 9, 10, 11, 12, 13, 14, 69]) (.blk (.join [2, 9, 10, 11, 12, 14, 15] (.seq (.ops [2, 9, 10, 11, 12, 13, 14, 69, 70]) (.cond (.ops [2, 9, 10, 11, 12, 14, 15]) (.seq (.ops [2, 9, 10, 11, 12, 13, 14, 69, 78]) (.cond (.seq (.ops [2, 9, 10, 11, 12, 13, 14]) (.ops [2, 9, 10, 11, 12, 14, 15])) (.seq (.ops [2, 9, 10, 11, 12, 13, 87]) (.cond (.seq (.ops [2, 9, 10, 11, 12, 13]) (.seq (.ops [2, 9, 10, 11, 12]) .leaf)) .leaf))))))))) (.seq (.seq (.ops [2, 9, 10, 11, 12, 14, 98]) (.cond .leaf .leaf)) (.seq (.ops [2, 9, 10, 11, 12, 14, 16]) (.seq (.join [2, 9, 10, 11, 12, 14, 16] (.blk (.loop [2, 9, 10, 11, 12, 14] [16] (.seq (.seq (.draw (.q 0 (.q 1 (.q 2 (.q 3 (.q 4 (.sp 5 (.q 5 (.q 6 (.q 7 (.q 8 (.q 9 (.q 10 (.q 11 (.q 12 (.q 13 .fin))))))))) (.q 5 (.q 6 (.q 7 (.q 8 (.q 9 (.q 10 (.q 11 (.q 12 (.q 13 .fin))))))))))))))) [2, 9, 10, 11, 12, 14, 16, 112]) (.cond .leaf .leaf)) (.blk (.ops [2, 9, 10, 11, 12, 14, 16])))))) (.join [2, 9, 10, 11, 12] (.seq (.draw (.q 0 (.q 1 (.q 2 (.q 3 (.q 4 (.sp 5 (.q 5 (.q 6 (.q 7 (.q 8 (.q 9 (.q 10 (.q 11 (.q 12 (.q 13 .fin))))))))) (.q 5 (.q 6 (.q 7 (.q 8 (.q 9 (.q 10 (.q 11 (.q 12 (.q 13 .fin))))))))))))))) [2, 9, 10, 11, 12, 14, 16, 128]) (.cond (.ops [2, 9, 10, 11, 12]) (.draw (.q 0 (.q 1 (.q 2 (.q 3 (.q 5 (.q 6 (.q 7 (.one 4 (.one 8 (.one 9 (.q 10 .fin))))))))))) [2, 9, 10, 11, 12]))))))))))))) (.ops [2, 9, 10, 11, 12])))))) (.seq (.ops [6]) .leaf))))))))) (Try.f10.body.getD .skip) [a0, a1, a2] w R by kernel_rfl) h)

/-! ### 11: handbill/hbllaw12.TxnTwo -/
def sh11 (a0 a1 a2 a3 a4 : Value) (w : World) (R : Value → World → Prop) : Prop :=
 CallF Try.prog 45 #[] w fun t25_1 w =>
 RunA Try.prog (Op.unary .not t25_1) fun t26_2 =>
 IfB t26_2 (
 R (.bool false) w) (
 CallF Try.prog 46 #[a0] w fun t29_3 w =>
 RunA Try.prog (Instr.extract t29_3 0) fun t30_4 =>
 RunA Try.prog (Instr.extract t29_3 1) fun t31_5 =>
 jn 6 (fun t1_6 t2_7 t3_8 t4_9 t11_10 t71_11 w =>
 IfB t71_11 (
 RunW Try.prog (bin .neq 35 (.tmp 72) (.const (.pointer none)) t11_10 (.pointer none)) w fun t73_13 =>
 IfB t73_13 (
 CallF Try.prog 45 #[] w fun t75_14 w =>
 R t75_14 w) (
 R (.bool false) w)) (
 CallF Try.prog 48 #[t11_10, t1_6] w fun t79_15 w =>
 CallF Try.prog 48 #[t11_10, t1_6] w fun t82_16 w =>
 RunW Try.prog (bin .eql 72 (.tmp 83) (.const (.pointer none)) t79_15 (.pointer none)) w fun t84_17 =>
 IfB t84_17 (
 R (.bool false) w) (
 RunW Try.prog (bin .eql 72 (.tmp 86) (.const (.pointer none)) t82_16 (.pointer none)) w fun t87_18 =>
 IfB t87_18 (
 R (.bool false) w) (
 CallF Try.prog 53 #[t82_16, (.string ⟨#[]⟩), (.string ⟨#[]⟩)] w fun t90_19 w =>
 CallF Try.prog 24 #[t90_19, (.int .i64 1048576)] w fun t91_20 w =>
 lp 1 (fun n_22 t16_21 w =>
 RunW Try.prog (Builtin.len_ #[68] 3 #[t2_7]) w fun t94_23 =>
 RunA Try.prog (bin .lss 3 (.tmp 92) (.tmp 94) t16_21 t94_23) fun t95_24 =>
 IfB t95_24 (
 drw (fun S_25 w =>
 RunA Try.prog (Instr.indexAt 68 t2_7 t16_21) fun t101_26 =>
 RunA Try.prog (Instr.fieldAt 75 t101_26 1) fun t102_27 =>
 RunS Try.prog S_25 (Instr.loadAt 9 t102_27) fun t103_28 =>
 RunA Try.prog (Instr.indexAt 68 t2_7 t16_21) fun t106_29 =>
 RunA Try.prog (Instr.fieldAt 75 t106_29 2) fun t107_30 =>
 RunS Try.prog S_25 (Instr.loadAt 9 t107_30) fun t108_31 =>
 CallF Try.prog 49 #[t79_15, t103_28, t108_31] w fun t109_32 w =>
 RunA Try.prog (bin .add 3 (.tmp 96) (.const (.int .i64 1)) t16_21 (.int .i64 1)) fun t97_33 =>
 (t1_6 : Value) = t1_6 ∧ ((t2_7 : Value) = t2_7 ∧ ((t3_8 : Value) = t3_8 ∧ ((t4_9 : Value) = t4_9 ∧ ((t11_10 : Value) = t11_10 ∧ ((t79_15 : Value) = t79_15 ∧ ((t82_16 : Value) = t82_16 ∧ ((t91_20 : Value) = t91_20 ∧ (n_22 t97_33 w))))))))) w) (
 CallF Try.prog 53 #[t82_16, (.string ⟨#[]⟩), (.string ⟨#[]⟩)] w fun t111_34 w =>
 CallF Try.prog 24 #[t111_34, (.int .i64 1048576)] w fun t112_35 w =>
 CallF Try.prog 27 #[t112_35, t91_20] w fun t114_36 w =>
 RunA Try.prog (Op.unary .not t114_36) fun t115_37 =>
 IfB t115_37 (
 R (.bool false) w) (
 lp 1 (fun n_39 t17_38 w =>
 RunW Try.prog (Builtin.len_ #[68] 3 #[t3_8]) w fun t118_40 =>
 RunA Try.prog (bin .lss 3 (.tmp 116) (.tmp 118) t17_38 t118_40) fun t119_41 =>
 IfB t119_41 (
 RunA Try.prog (Instr.indexAt 68 t3_8 t17_38) fun t125_42 =>
 RunA Try.prog (Instr.fieldAt 75 t125_42 1) fun t126_43 =>
 RunW Try.prog (Instr.loadAt 9 t126_43) w fun t127_44 =>
 CallF Try.prog 51 #[t82_16, t127_44] w fun t128_45 w =>
 RunA Try.prog (bin .add 3 (.tmp 120) (.const (.int .i64 1)) t17_38 (.int .i64 1)) fun t121_46 =>
 (t1_6 : Value) = t1_6 ∧ ((t3_8 : Value) = t3_8 ∧ ((t4_9 : Value) = t4_9 ∧ ((t11_10 : Value) = t11_10 ∧ ((t79_15 : Value) = t79_15 ∧ ((t82_16 : Value) = t82_16 ∧ (n_39 t121_46 w))))))) (
 CallF Try.prog 56 #[t79_15] w fun t130_47 w =>
 CallF Try.prog 57 #[t79_15] w fun t132_48 w =>
 lp 2 (fun n_51 t18_49 t21_50 w =>
 RunW Try.prog (Builtin.len_ #[84] 3 #[t130_47]) w fun t135_52 =>
 RunA Try.prog (bin .lss 3 (.tmp 133) (.tmp 135) t21_50 t135_52) fun t136_53 =>
 IfB t136_53 (
 jn 9 (fun t1_54 t4_55 t11_56 t13_57 t14_58 t18_59 t19_60 t20_61 t21_62 w =>
 RunA Try.prog (Instr.indexAt 84 t19_60 t21_62) fun t153_64 =>
 RunA Try.prog (Instr.fieldAt 86 t153_64 0) fun t154_65 =>
 RunW Try.prog (Instr.loadAt 9 t154_65) w fun t155_66 =>
 CallF Try.prog 52 #[t13_57, t155_66] w fun t156_67 w =>
 RunA Try.prog (Instr.extract t156_67 0) fun t157_68 =>
 RunA Try.prog (Instr.extract t156_67 1) fun t158_69 =>
 RunA Try.prog (Op.unary .not t158_69) fun t160_70 =>
 IfB t160_70 (
 R (.bool false) w) (
 RunA Try.prog (Instr.indexAt 84 t19_60 t21_62) fun t165_71 =>
 RunA Try.prog (Instr.fieldAt 86 t165_71 1) fun t166_72 =>
 RunW Try.prog (Instr.loadAt 9 t166_72) w fun t167_73 =>
 RunW Try.prog (bin .neq 9 (.tmp 162) (.tmp 167) t157_68 t167_73) w fun t168_74 =>
 IfB t168_74 (
 R (.bool false) w) (
 RunA Try.prog (bin .add 3 (.tmp 137) (.const (.int .i64 1)) t21_62 (.int .i64 1)) fun t138_75 =>
 (t1_54 : Value) = t1_6 ∧ ((t4_55 : Value) = t4_9 ∧ ((t11_56 : Value) = t11_10 ∧ ((t13_57 : Value) = t79_15 ∧ ((t14_58 : Value) = t82_16 ∧ ((t19_60 : Value) = t130_47 ∧ ((t20_61 : Value) = t132_48 ∧ (n_51 t18_59 t138_75 w)))))))))) fun j_63 =>
 IfB t18_49 (
 j_63 t1_6 t4_9 t11_10 t79_15 t82_16 (.bool true) t130_47 t132_48 t21_50 w) (
 RunA Try.prog (Instr.indexAt 84 t130_47 t21_50) fun t143_76 =>
 RunA Try.prog (Instr.fieldAt 86 t143_76 0) fun t144_77 =>
 RunW Try.prog (Instr.loadAt 9 t144_77) w fun t145_78 =>
 RunW Try.prog (bin .eql 9 (.tmp 145) (.tmp 146) t145_78 t4_9) w fun t147_79 =>
 j_63 t1_6 t4_9 t11_10 t79_15 t82_16 t147_79 t130_47 t132_48 t21_50 w)) (
 CallF Try.prog 32 #[t11_10, t4_9] w fun t173_80 w =>
 RunW Try.prog (Builtin.max_ #[3, 3] 3 #[t173_80, t1_6]) w fun t175_81 =>
 RunW Try.prog (Builtin.min_ #[3, 3] 3 #[t175_81, (.int .i64 549755813888)]) w fun t176_82 =>
 RunA Try.prog (bin .add 3 (.tmp 176) (.const (.int .i64 1)) t176_82 (.int .i64 1)) fun t177_83 =>
 CallF Try.prog 29 #[t11_10, t177_83, t4_9, (.string ⟨#[120]⟩)] w fun t179_84 w =>
 CallF Try.prog 32 #[t11_10, t4_9] w fun t182_85 w =>
 RunA Try.prog (bin .gtr 3 (.tmp 182) (.tmp 183) t182_85 t1_6) fun t184_86 =>
 CallF Try.prog 45 #[] w fun t185_87 w =>
 IfB t185_87 (
 IfB t184_86 (
 CallF Try.prog 57 #[t79_15] w fun t191_88 w =>
 IfB t132_48 (
 RunW Try.prog (bin .eql 4 (.tmp 191) (.tmp 195) t191_88 (.bool true)) w fun t196_89 =>
 IfB t196_89 (
 CallF Try.prog 58 #[t79_15] w fun t200_90 w =>
 CallF Try.prog 58 #[t82_16] w fun t202_91 w =>
 RunW Try.prog (bin .eql 3 (.tmp 200) (.tmp 202) t200_90 t202_91) w fun t203_92 =>
 R t203_92 w) (
 R (.bool false) w)) (
 RunW Try.prog (bin .eql 4 (.tmp 191) (.tmp 195) t191_88 t18_49) w fun t196_93 =>
 IfB t196_93 (
 CallF Try.prog 58 #[t79_15] w fun t200_94 w =>
 CallF Try.prog 58 #[t82_16] w fun t202_95 w =>
 RunW Try.prog (bin .eql 3 (.tmp 200) (.tmp 202) t200_94 t202_95) w fun t203_96 =>
 R t203_96 w) (
 R (.bool false) w))) (
 R (.bool false) w)) (
 R (.bool false) w))) [(.bool false), (.int .i64 0)] w)) [(.int .i64 0)] w))) [(.int .i64 0)] w)))) fun j_12 =>
 RunW Try.prog (bin .eql 35 (.tmp 32) (.const (.pointer none)) t30_4 (.pointer none)) w fun t33_97 =>
 IfB t33_97 (
 j_12 a1 a2 a3 a4 t30_4 (.bool true) w) (
 CallF Try.prog 47 #[a2] w fun t36_98 w =>
 RunA Try.prog (Op.unary .not t36_98) fun t37_99 =>
 IfB t37_99 (
 j_12 a1 a2 a3 a4 t30_4 (.bool true) w) (
 CallF Try.prog 47 #[a3] w fun t41_100 w =>
 RunA Try.prog (Op.unary .not t41_100) fun t42_101 =>
 IfB t42_101 (
 j_12 a1 a2 a3 a4 t30_4 (.bool true) w) (
 RunW Try.prog (Builtin.len_ #[68] 3 #[a2]) w fun t46_102 =>
 RunA Try.prog (bin .gtr 3 (.tmp 46) (.const (.int .i64 200)) t46_102 (.int .i64 200)) fun t47_103 =>
 IfB t47_103 (
 j_12 a1 a2 a3 a4 t30_4 (.bool true) w) (
 RunW Try.prog (Builtin.len_ #[68] 3 #[a3]) w fun t51_104 =>
 RunA Try.prog (bin .gtr 3 (.tmp 51) (.const (.int .i64 200)) t51_104 (.int .i64 200)) fun t52_105 =>
 IfB t52_105 (
 j_12 a1 a2 a3 a4 t30_4 (.bool true) w) (
 RunW Try.prog (Builtin.len_ #[9] 3 #[a4]) w fun t56_106 =>
 RunA Try.prog (bin .lss 3 (.tmp 56) (.const (.int .i64 1)) t56_106 (.int .i64 1)) fun t57_107 =>
 IfB t57_107 (
 j_12 a1 a2 a3 a4 t30_4 (.bool true) w) (
 RunW Try.prog (Builtin.len_ #[9] 3 #[a4]) w fun t61_108 =>
 RunA Try.prog (bin .gtr 3 (.tmp 61) (.const (.int .i64 1000)) t61_108 (.int .i64 1000)) fun t62_109 =>
 IfB t62_109 (
 j_12 a1 a2 a3 a4 t30_4 (.bool true) w) (
 RunA Try.prog (bin .lss 3 (.tmp 65) (.const (.int .i64 0)) a1 (.int .i64 0)) fun t66_110 =>
 IfB t66_110 (
 j_12 a1 a2 a3 a4 t30_4 (.bool true) w) (
 RunA Try.prog (bin .gtr 3 (.tmp 69) (.const (.int .i64 274877906944)) a1 (.int .i64 274877906944)) fun t70_111 =>
 j_12 a1 a2 a3 a4 t30_4 t70_111 w)))))))))
theorem sh11_calls {a0 a1 a2 a3 a4 : Value} {w : World} {R : Value → World → Prop} (h : sh11 a0 a1 a2 a3 a4 w R) : CallF Try.prog 11 #[a0, a1, a2, a3, a4] w R :=
  calls_of_denF (mk := false) (args := [a0, a1, a2, a3, a4]) (an := (.seq (.ops [0, 1, 2, 3, 4]) (.seq (.seq (.ops [0, 1, 2, 3, 4, 26]) (.cond (.seq (.ops [10]) .leaf) .leaf)) (.seq (.ops [1, 2, 3, 4, 11]) (.seq (.seq (.join [1, 2, 3, 4, 11, 71] (.ops [1, 2, 3, 4, 11, 71])) (.cond (.seq (.ops [10]) .leaf) .leaf)) (.seq (.ops [1, 2, 3, 4, 11, 13, 14]) (.seq (.seq (.ops [1, 2, 3, 4, 11, 13, 14, 88]) (.cond (.seq (.ops [10]) .leaf) .leaf)) (.seq (.ops [1, 2, 3, 4, 11, 13, 14, 15]) (.seq (.seq (.ops [1, 2, 3, 4, 11, 13, 14, 15, 16]) (.blk (.loop [1, 2, 3, 4, 11, 13, 14, 15] [16] (.seq (.seq (.ops [1, 2, 3, 4, 11, 13, 14, 15, 16, 95]) (.cond .leaf .leaf)) (.seq (.blk (.draw (.q 0 (.q 1 (.q 2 (.q 3 (.q 4 (.q 5 (.q 6 (.q 7 (.q 8 (.q 9 (.q 10 (.one 11 .fin)))))))))))) [1, 2, 3, 4, 11, 13, 14, 15, 16])) (.ops [1, 2, 3, 4, 11, 13, 14, 15, 16])))))) (.seq (.seq (.ops [1, 3, 4, 11, 13, 14, 115]) (.cond (.seq (.ops [10]) .leaf) .leaf)) (.seq (.seq (.ops [1, 3, 4, 11, 13, 14, 17]) (.blk (.loop [1, 3, 4, 11, 13, 14] [17] (.seq (.seq (.ops [1, 3, 4, 11, 13, 14, 17, 119]) (.cond .leaf .leaf)) (.seq (.blk (.ops [1, 3, 4, 11, 13, 14, 17])) (.ops [1, 3, 4, 11, 13, 14, 17])))))) (.seq (.ops [1, 4, 11, 13, 14, 18]) (.seq (.ops [1, 4, 11, 13, 14, 18, 19]) (.seq (.ops [1, 4, 11, 13, 14, 18, 19, 20]) (.seq (.seq (.ops [1, 4, 11, 13, 14, 18, 19, 20, 21]) (.blk (.loop [1, 4, 11, 13, 14, 19, 20] [18, 21] (.seq (.seq (.ops [1, 4, 11, 13, 14, 18, 19, 20, 21, 136]) (.cond .leaf .leaf)) (.seq (.blk (.seq (.join [1, 4, 11, 13, 14, 18, 19, 20, 21] (.ops [1, 4, 11, 13, 14, 18, 19, 20, 21])) (.seq (.ops [1, 4, 11, 13, 14, 18, 19, 20, 21, 22, 23]) (.seq (.ops [1, 4, 11, 13, 14, 18, 19, 20, 21, 169]) (.cond (.seq (.ops [10]) .leaf) .leaf))))) (.ops [1, 4, 11, 13, 14, 18, 19, 20, 21])))))) (.seq (.ops [1, 4, 11, 13, 14, 18, 20]) (.seq (.ops [13, 14, 18, 20, 24]) (.seq (.ops [10]) .leaf)))))))))))))))))) (c := Try.f11.body.getD .skip) hentD Try.func11 rfl (Nat.le_of_ble_eq_true (by kernel_rfl))
    (Eq.mp (show sh11 a0 a1 a2 a3 a4 w R = denF Try.prog entD false Try.f11 (.seq (.ops [0, 1, 2, 3, 4]) (.seq (.seq (.ops [0, 1, 2, 3, 4, 26]) (.cond (.seq (.ops [10]) .leaf) .leaf)) (.seq (.ops [1, 2, 3, 4, 11]) (.seq (.seq (.join [1, 2, 3, 4, 11, 71] (.ops [1, 2, 3, 4, 11, 71])) (.cond (.seq (.ops [10]) .leaf) .leaf)) (.seq (.ops [1, 2, 3, 4, 11, 13, 14]) (.seq (.seq (.ops [1, 2, 3, 4, 11, 13, 14, 88]) (.cond (.seq (.ops [10]) .leaf) .leaf)) (.seq (.ops [1, 2, 3, 4, 11, 13, 14, 15]) (.seq (.seq (.ops [1, 2, 3, 4, 11, 13, 14, 15, 16]) (.blk (.loop [1, 2, 3, 4, 11, 13, 14, 15] [16] (.seq (.seq (.ops [1, 2, 3, 4, 11, 13, 14, 15, 16, 95]) (.cond .leaf .leaf)) (.seq (.blk (.draw (.q 0 (.q 1 (.q 2 (.q 3 (.q 4 (.q 5 (.q 6 (.q 7 (.q 8 (.q 9 (.q 10 (.one 11 .fin)))))))))))) [1, 2, 3, 4, 11, 13, 14, 15, 16])) (.ops [1, 2, 3, 4, 11, 13, 14, 15, 16])))))) (.seq (.seq (.ops [1, 3, 4, 11, 13, 14, 115]) (.cond (.seq (.ops [10]) .leaf) .leaf)) (.seq (.seq (.ops [1, 3, 4, 11, 13, 14, 17]) (.blk (.loop [1, 3, 4, 11, 13, 14] [17] (.seq (.seq (.ops [1, 3, 4, 11, 13, 14, 17, 119]) (.cond .leaf .leaf)) (.seq (.blk (.ops [1, 3, 4, 11, 13, 14, 17])) (.ops [1, 3, 4, 11, 13, 14, 17])))))) (.seq (.ops [1, 4, 11, 13, 14, 18]) (.seq (.ops [1, 4, 11, 13, 14, 18, 19]) (.seq (.ops [1, 4, 11, 13, 14, 18, 19, 20]) (.seq (.seq (.ops [1, 4, 11, 13, 14, 18, 19, 20, 21]) (.blk (.loop [1, 4, 11, 13, 14, 19, 20] [18, 21] (.seq (.seq (.ops [1, 4, 11, 13, 14, 18, 19, 20, 21, 136]) (.cond .leaf .leaf)) (.seq (.blk (.seq (.join [1, 4, 11, 13, 14, 18, 19, 20, 21] (.ops [1, 4, 11, 13, 14, 18, 19, 20, 21])) (.seq (.ops [1, 4, 11, 13, 14, 18, 19, 20, 21, 22, 23]) (.seq (.ops [1, 4, 11, 13, 14, 18, 19, 20, 21, 169]) (.cond (.seq (.ops [10]) .leaf) .leaf))))) (.ops [1, 4, 11, 13, 14, 18, 19, 20, 21])))))) (.seq (.ops [1, 4, 11, 13, 14, 18, 20]) (.seq (.ops [13, 14, 18, 20, 24]) (.seq (.ops [10]) .leaf))))))))))))))))) (Try.f11.body.getD .skip) [a0, a1, a2, a3, a4] w R by kernel_rfl) h)

/-! ### 12: handbill/hbllaw12.TxnPlays -/
def sh12 (a0 a1 a2 : Value) (w : World) (R : Value → World → Prop) : Prop :=
 CallF Try.prog 45 #[] w fun t22_1 w =>
 RunA Try.prog (Op.unary .not t22_1) fun t23_2 =>
 IfB t23_2 (
 R (.bool false) w) (
 CallF Try.prog 46 #[a0] w fun t26_3 w =>
 RunA Try.prog (Instr.extract t26_3 0) fun t27_4 =>
 RunA Try.prog (Instr.extract t26_3 1) fun t28_5 =>
 RunW Try.prog (bin .eql 35 (.tmp 29) (.const (.pointer none)) t27_4 (.pointer none)) w fun t30_6 =>
 IfB t30_6 (
 RunW Try.prog (bin .neq 35 (.tmp 36) (.const (.pointer none)) t27_4 (.pointer none)) w fun t37_7 =>
 IfB t37_7 (
 CallF Try.prog 45 #[] w fun t39_8 w =>
 R t39_8 w) (
 R (.bool false) w)) (
 CallF Try.prog 47 #[a2] w fun t33_9 w =>
 RunA Try.prog (Op.unary .not t33_9) fun t34_10 =>
 IfB t34_10 (
 RunW Try.prog (bin .neq 35 (.tmp 36) (.const (.pointer none)) t27_4 (.pointer none)) w fun t37_11 =>
 IfB t37_11 (
 CallF Try.prog 45 #[] w fun t39_12 w =>
 R t39_12 w) (
 R (.bool false) w)) (
 CallF Try.prog 48 #[t27_4, a1] w fun t43_13 w =>
 CallF Try.prog 59 #[t28_5, a1] w fun t46_14 w =>
 RunW Try.prog (bin .eql 72 (.tmp 47) (.const (.pointer none)) t43_13 (.pointer none)) w fun t48_15 =>
 IfB t48_15 (
 R (.bool false) w) (
 CallF Try.prog 58 #[t43_13] w fun t51_16 w =>
 RunW Try.prog (bin .neq 3 (.tmp 51) (.tmp 52) t51_16 a1) w fun t53_17 =>
 IfB t53_17 (
 R (.bool false) w) (
 lp 1 (fun n_19 t11_18 w =>
 RunW Try.prog (Builtin.len_ #[68] 3 #[a2]) w fun t57_20 =>
 RunA Try.prog (bin .lss 3 (.tmp 55) (.tmp 57) t11_18 t57_20) fun t58_21 =>
 IfB t58_21 (
 RunA Try.prog (Instr.indexAt 68 a2 t11_18) fun t63_22 =>
 RunW Try.prog (Instr.loadAt 75 t63_22) w fun t64_23 =>
 RunV Try.prog (Instr.alloc 75 true (.tuple #[])) w fun t12_24 w =>
 RunU Try.prog (Instr.storeAt 75 t12_24 t64_23) w fun w =>
 RunA Try.prog (Instr.fieldAt 75 t12_24 0) fun t65_25 =>
 RunW Try.prog (Instr.loadAt 3 t65_25) w fun t66_26 =>
 jn 8 (fun t1_27 t2_28 t7_29 t8_30 t9_31 t10_32 t11_33 t13_34 w =>
 jn 7 (fun t1_36 t2_37 t7_38 t8_39 t9_40 t10_41 t11_42 w =>
 RunA Try.prog (bin .add 3 (.tmp 59) (.const (.int .i64 1)) t11_42 (.int .i64 1)) fun t60_44 =>
 (t1_36 : Value) = a1 ∧ ((t2_37 : Value) = a2 ∧ ((t7_38 : Value) = t27_4 ∧ ((t8_39 : Value) = t28_5 ∧ ((t9_40 : Value) = t43_13 ∧ ((t10_41 : Value) = t46_14 ∧ (n_19 t60_44 w))))))) fun j_43 =>
 RunA Try.prog (Op.unary .not t13_34) fun t184_45 =>
 IfB t184_45 (
 R (.bool false) w) (
 RunA Try.prog (bin .lss 3 (.tmp 186) (.const (.int .i64 60)) t11_33 (.int .i64 60)) fun t187_46 =>
 IfB t187_46 (
 CallF Try.prog 57 #[t9_31] w fun t190_47 w =>
 CallF Try.prog 65 #[t10_32] w fun t192_48 w =>
 RunW Try.prog (bin .neq 4 (.tmp 190) (.tmp 192) t190_47 t192_48) w fun t193_49 =>
 IfB t193_49 (
 R (.bool false) w) (
 j_43 t1_27 t2_28 t7_29 t8_30 t9_31 t10_32 t11_33 w)) (
 j_43 t1_27 t2_28 t7_29 t8_30 t9_31 t10_32 t11_33 w))) fun j_35 =>
 RunW Try.prog (bin .eql 3 (.tmp 66) (.const (.int .i64 0)) t66_26 (.int .i64 0)) w fun t82_50 =>
 IfB t82_50 (
 drw (fun S_51 w =>
 RunA Try.prog (Instr.fieldAt 75 t12_24 1) fun t84_52 =>
 RunS Try.prog S_51 (Instr.loadAt 9 t84_52) fun t85_53 =>
 RunA Try.prog (Instr.fieldAt 75 t12_24 2) fun t86_54 =>
 RunS Try.prog S_51 (Instr.loadAt 9 t86_54) fun t87_55 =>
 RunA Try.prog (Instr.fieldAt 75 t12_24 1) fun t90_56 =>
 RunS Try.prog S_51 (Instr.loadAt 9 t90_56) fun t91_57 =>
 RunA Try.prog (Instr.fieldAt 75 t12_24 2) fun t92_58 =>
 RunS Try.prog S_51 (Instr.loadAt 9 t92_58) fun t93_59 =>
 CallF Try.prog 49 #[t43_13, t85_53, t87_55] w fun t88_60 w =>
 S_51 w ∧ (
 CallF Try.prog 60 #[t46_14, t91_57, t93_59] w fun t94_61 w =>
 S_51 w ∧ (
 RunS Try.prog S_51 (bin .eql 26 (.tmp 88) (.tmp 94) t88_60 t94_61) fun t95_62 =>
 j_35 a1 a2 t27_4 t28_5 t43_13 t46_14 t11_18 t95_62 w))) w) (
 jn 8 (fun t1_63 t2_64 t7_65 t8_66 t9_67 t10_68 t11_69 t13_70 w =>
 j_35 t1_63 t2_64 t7_65 t8_66 t9_67 t10_68 t11_69 t13_70 w) fun j_71 =>
 RunW Try.prog (bin .eql 3 (.tmp 66) (.const (.int .i64 1)) t66_26 (.int .i64 1)) w fun t97_72 =>
 IfB t97_72 (
 drw (fun S_73 w =>
 RunA Try.prog (Instr.fieldAt 75 t12_24 1) fun t99_74 =>
 RunS Try.prog S_73 (Instr.loadAt 9 t99_74) fun t100_75 =>
 RunA Try.prog (Instr.fieldAt 75 t12_24 1) fun t103_76 =>
 RunS Try.prog S_73 (Instr.loadAt 9 t103_76) fun t104_77 =>
 CallF Try.prog 51 #[t43_13, t100_75] w fun t101_78 w =>
 S_73 w ∧ (
 CallF Try.prog 61 #[t46_14, t104_77] w fun t105_79 w =>
 S_73 w ∧ (
 RunS Try.prog S_73 (bin .eql 26 (.tmp 101) (.tmp 105) t101_78 t105_79) fun t106_80 =>
 j_71 a1 a2 t27_4 t28_5 t43_13 t46_14 t11_18 t106_80 w))) w) (
 jn 8 (fun t1_81 t2_82 t7_83 t8_84 t9_85 t10_86 t11_87 t13_88 w =>
 j_71 t1_81 t2_82 t7_83 t8_84 t9_85 t10_86 t11_87 t13_88 w) fun j_89 =>
 RunW Try.prog (bin .eql 3 (.tmp 66) (.const (.int .i64 2)) t66_26 (.int .i64 2)) w fun t108_90 =>
 IfB t108_90 (
 RunA Try.prog (Instr.fieldAt 75 t12_24 1) fun t111_91 =>
 RunW Try.prog (Instr.loadAt 9 t111_91) w fun t112_92 =>
 CallF Try.prog 52 #[t43_13, t112_92] w fun t113_93 w =>
 RunA Try.prog (Instr.extract t113_93 0) fun t114_94 =>
 RunA Try.prog (Instr.extract t113_93 1) fun t115_95 =>
 RunA Try.prog (Instr.fieldAt 75 t12_24 1) fun t118_96 =>
 RunW Try.prog (Instr.loadAt 9 t118_96) w fun t119_97 =>
 CallF Try.prog 62 #[t46_14, t119_97] w fun t120_98 w =>
 RunA Try.prog (Instr.extract t120_98 0) fun t121_99 =>
 RunA Try.prog (Instr.extract t120_98 1) fun t122_100 =>
 jn 8 (fun t1_101 t2_102 t7_103 t8_104 t9_105 t10_106 t11_107 t13_108 w =>
 j_89 t1_101 t2_102 t7_103 t8_104 t9_105 t10_106 t11_107 t13_108 w) fun j_109 =>
 RunW Try.prog (bin .eql 9 (.tmp 123) (.tmp 124) t114_94 t121_99) w fun t125_110 =>
 IfB t125_110 (
 RunW Try.prog (bin .eql 4 (.tmp 127) (.tmp 128) t115_95 t122_100) w fun t129_111 =>
 j_109 a1 a2 t27_4 t28_5 t43_13 t46_14 t11_18 t129_111 w) (
 j_109 a1 a2 t27_4 t28_5 t43_13 t46_14 t11_18 (.bool false) w)) (
 jn 8 (fun t1_112 t2_113 t7_114 t8_115 t9_116 t10_117 t11_118 t13_119 w =>
 j_89 t1_112 t2_113 t7_114 t8_115 t9_116 t10_117 t11_118 t13_119 w) fun j_120 =>
 RunW Try.prog (bin .eql 3 (.tmp 66) (.const (.int .i64 3)) t66_26 (.int .i64 3)) w fun t132_121 =>
 IfB t132_121 (
 drw (fun S_122 w =>
 RunA Try.prog (Instr.fieldAt 75 t12_24 1) fun t134_123 =>
 RunS Try.prog S_122 (Instr.loadAt 9 t134_123) fun t135_124 =>
 RunA Try.prog (Instr.fieldAt 75 t12_24 1) fun t139_125 =>
 RunS Try.prog S_122 (Instr.loadAt 9 t139_125) fun t140_126 =>
 CallF Try.prog 54 #[t43_13, t135_124] w fun t136_127 w =>
 S_122 w ∧ (
 CallF Try.prog 24 #[t136_127, (.int .i64 1048576)] w fun t137_128 w =>
 S_122 w ∧ (
 CallF Try.prog 63 #[t46_14, t140_126] w fun t141_129 w =>
 CallF Try.prog 27 #[t137_128, t141_129] w fun t142_130 w =>
 j_120 a1 a2 t27_4 t28_5 t43_13 t46_14 t11_18 t142_130 w))) w) (
 jn 9 (fun t1_131 t2_132 t7_133 t8_134 t9_135 t10_136 t11_137 t12_138 t143_139 w =>
 jn 8 (fun t1_141 t2_142 t7_143 t8_144 t9_145 t10_146 t11_147 t13_148 w =>
 j_120 t1_141 t2_142 t7_143 t8_144 t9_145 t10_146 t11_147 t13_148 w) fun j_149 =>
 IfB t143_139 (
 RunA Try.prog (Instr.fieldAt 75 t12_138 1) fun t147_150 =>
 RunW Try.prog (Instr.loadAt 9 t147_150) w fun t148_151 =>
 CallF Try.prog 32 #[t7_133, t148_151] w fun t149_152 w =>
 RunW Try.prog (Builtin.max_ #[3, 3, 3] 3 #[t149_152, t1_131, (.int .i64 0)]) w fun t151_153 =>
 RunW Try.prog (Builtin.min_ #[3, 3] 3 #[t151_153, (.int .i64 549755813888)]) w fun t152_154 =>
 RunA Try.prog (bin .add 3 (.tmp 152) (.const (.int .i64 1)) t152_154 (.int .i64 1)) fun t153_155 =>
 jn 8 (fun t1_156 t2_157 t7_158 t8_159 t9_160 t10_161 t11_162 t13_163 w =>
 j_149 t1_156 t2_157 t7_158 t8_159 t9_160 t10_161 t11_162 t13_163 w) fun j_164 =>
 RunA Try.prog (Instr.fieldAt 75 t12_138 0) fun t154_165 =>
 RunW Try.prog (Instr.loadAt 3 t154_165) w fun t155_166 =>
 RunW Try.prog (bin .eql 3 (.tmp 155) (.const (.int .i64 4)) t155_166 (.int .i64 4)) w fun t156_167 =>
 IfB t156_167 (
 drw (fun S_168 w =>
 RunA Try.prog (Instr.fieldAt 75 t12_138 1) fun t159_169 =>
 RunS Try.prog S_168 (Instr.loadAt 9 t159_169) fun t160_170 =>
 RunA Try.prog (Instr.fieldAt 75 t12_138 2) fun t161_171 =>
 RunS Try.prog S_168 (Instr.loadAt 9 t161_171) fun t162_172 =>
 RunA Try.prog (Instr.fieldAt 75 t12_138 1) fun t166_173 =>
 RunS Try.prog S_168 (Instr.loadAt 9 t166_173) fun t167_174 =>
 RunA Try.prog (Instr.fieldAt 75 t12_138 2) fun t168_175 =>
 RunS Try.prog S_168 (Instr.loadAt 9 t168_175) fun t169_176 =>
 CallF Try.prog 29 #[t7_133, t153_155, t160_170, t162_172] w fun t163_177 w =>
 S_168 w ∧ (
 CallF Try.prog 34 #[t8_134, t153_155, t167_174, t169_176] w fun t170_178 w =>
 S_168 w ∧ (
 RunS Try.prog S_168 (bin .eql 26 (.tmp 163) (.tmp 170) t163_177 t170_178) fun t171_179 =>
 j_164 t1_131 t2_132 t7_133 t8_134 t9_135 t10_136 t11_137 t171_179 w))) w) (
 drw (fun S_180 w =>
 RunA Try.prog (Instr.fieldAt 75 t12_138 1) fun t174_181 =>
 RunS Try.prog S_180 (Instr.loadAt 9 t174_181) fun t175_182 =>
 RunA Try.prog (Instr.fieldAt 75 t12_138 1) fun t179_183 =>
 RunS Try.prog S_180 (Instr.loadAt 9 t179_183) fun t180_184 =>
 CallF Try.prog 30 #[t7_133, t153_155, t175_182] w fun t176_185 w =>
 S_180 w ∧ (
 CallF Try.prog 35 #[t8_134, t153_155, t180_184] w fun t181_186 w =>
 S_180 w ∧ (
 RunS Try.prog S_180 (bin .eql 26 (.tmp 176) (.tmp 181) t176_185 t181_186) fun t182_187 =>
 j_164 t1_131 t2_132 t7_133 t8_134 t9_135 t10_136 t11_137 t182_187 w))) w)) (
 drw (fun S_188 w =>
 RunA Try.prog (Instr.fieldAt 75 t12_138 1) fun t68_189 =>
 RunS Try.prog S_188 (Instr.loadAt 9 t68_189) fun t69_190 =>
 RunA Try.prog (Instr.fieldAt 75 t12_138 3) fun t70_191 =>
 RunS Try.prog S_188 (Instr.loadAt 9 t70_191) fun t71_192 =>
 RunA Try.prog (Instr.fieldAt 75 t12_138 1) fun t75_193 =>
 RunS Try.prog S_188 (Instr.loadAt 9 t75_193) fun t76_194 =>
 RunA Try.prog (Instr.fieldAt 75 t12_138 3) fun t77_195 =>
 RunS Try.prog S_188 (Instr.loadAt 9 t77_195) fun t78_196 =>
 CallF Try.prog 53 #[t9_135, t69_190, t71_192] w fun t72_197 w =>
 S_188 w ∧ (
 CallF Try.prog 24 #[t72_197, (.int .i64 1048576)] w fun t73_198 w =>
 S_188 w ∧ (
 CallF Try.prog 64 #[t10_136, t76_194, t78_196] w fun t79_199 w =>
 CallF Try.prog 27 #[t73_198, t79_199] w fun t80_200 w =>
 j_149 t1_131 t2_132 t7_133 t8_134 t9_135 t10_136 t11_137 t80_200 w))) w)) fun j_140 =>
 RunW Try.prog (bin .eql 3 (.tmp 66) (.const (.int .i64 4)) t66_26 (.int .i64 4)) w fun t144_201 =>
 IfB t144_201 (
 j_140 a1 a2 t27_4 t28_5 t43_13 t46_14 t11_18 t12_24 t144_201 w) (
 RunW Try.prog (bin .eql 3 (.tmp 66) (.const (.int .i64 5)) t66_26 (.int .i64 5)) w fun t145_202 =>
 j_140 a1 a2 t27_4 t28_5 t43_13 t46_14 t11_18 t12_24 t145_202 w)))))) (
 CallF Try.prog 56 #[t43_13] w fun t197_203 w =>
 CallF Try.prog 66 #[t46_14] w fun t200_204 w =>
 CallF Try.prog 55 #[t197_203, t200_204] w fun t201_205 w =>
 lp 1 (fun n_207 t21_206 w =>
 RunW Try.prog (Builtin.len_ #[84] 3 #[t197_203]) w fun t204_208 =>
 RunA Try.prog (bin .lss 3 (.tmp 202) (.tmp 204) t21_206 t204_208) fun t205_209 =>
 IfB t205_209 (
 RunA Try.prog (Instr.indexAt 84 t197_203 t21_206) fun t210_210 =>
 RunA Try.prog (Instr.fieldAt 86 t210_210 0) fun t211_211 =>
 RunU Try.prog (Instr.storeAt 9 t211_211 (.string ⟨#[115, 112, 111, 105, 108, 116]⟩)) w fun w =>
 RunA Try.prog (bin .add 3 (.tmp 206) (.const (.int .i64 1)) t21_206 (.int .i64 1)) fun t207_212 =>
 (t43_13 : Value) = t43_13 ∧ ((t46_14 : Value) = t46_14 ∧ ((t197_203 : Value) = t197_203 ∧ ((t201_205 : Value) = t201_205 ∧ (n_207 t207_212 w))))) (
 CallF Try.prog 45 #[] w fun t212_213 w =>
 IfB t212_213 (
 IfB t201_205 (
 CallF Try.prog 56 #[t43_13] w fun t218_214 w =>
 CallF Try.prog 66 #[t46_14] w fun t220_215 w =>
 CallF Try.prog 55 #[t218_214, t220_215] w fun t221_216 w =>
 IfB t221_216 (
 CallF Try.prog 57 #[t43_13] w fun t225_217 w =>
 CallF Try.prog 65 #[t46_14] w fun t227_218 w =>
 RunW Try.prog (bin .eql 4 (.tmp 225) (.tmp 227) t225_217 t227_218) w fun t228_219 =>
 IfB t228_219 (
 CallF Try.prog 53 #[t43_13, (.string ⟨#[]⟩), (.string ⟨#[]⟩)] w fun t232_220 w =>
 CallF Try.prog 24 #[t232_220, (.int .i64 1048576)] w fun t233_221 w =>
 CallF Try.prog 64 #[t46_14, (.string ⟨#[]⟩), (.string ⟨#[]⟩)] w fun t235_222 w =>
 CallF Try.prog 27 #[t233_221, t235_222] w fun t236_223 w =>
 R t236_223 w) (
 R (.bool false) w)) (
 R (.bool false) w)) (
 R (.bool false) w)) (
 R (.bool false) w))) [(.int .i64 0)] w)) [(.int .i64 0)] w)))))
theorem sh12_calls {a0 a1 a2 : Value} {w : World} {R : Value → World → Prop} (h : sh12 a0 a1 a2 w R) : CallF Try.prog 12 #[a0, a1, a2] w R :=
  calls_of_denF (mk := false) (args := [a0, a1, a2]) (an := (.seq (.ops [0, 1, 2]) (.seq (.seq (.ops [0, 1, 2, 23]) (.cond (.seq (.ops [6]) .leaf) .leaf)) (.seq (.ops [1, 2, 7, 8]) (.seq (.seq (.ops [1, 2, 7, 8, 35]) (.cond (.seq (.ops [6]) .leaf) .leaf)) (.seq (.ops [1, 2, 7, 8, 9]) (.seq (.ops [1, 2, 7, 8, 9, 10]) (.seq (.seq (.ops [1, 2, 7, 8, 9, 10, 54]) (.cond (.seq (.ops [6]) .leaf) .leaf)) (.seq (.seq (.ops [1, 2, 7, 8, 9, 10, 11]) (.blk (.loop [1, 2, 7, 8, 9, 10] [11] (.seq (.seq (.ops [1, 2, 7, 8, 9, 10, 11, 58]) (.cond .leaf .leaf)) (.seq (.blk (.seq (.ops [1, 2, 7, 8, 9, 10, 11, 12]) (.seq (.ops [1, 2, 7, 8, 9, 10, 11, 12]) (.seq (.seq (.ops [1, 2, 7, 8, 9, 10, 11, 12, 66]) (.blk (.join [1, 2, 7, 8, 9, 10, 11, 13] (.seq (.ops [1, 2, 7, 8, 9, 10, 11, 12, 66, 81]) (.cond (.draw (.q 0 (.q 1 (.q 2 (.q 3 (.q 4 (.q 6 (.q 7 (.q 8 (.q 9 (.q 10 (.one 5 (.one 11 (.q 12 (.q 13 .fin)))))))))))))) [1, 2, 7, 8, 9, 10, 11, 13]) (.join [1, 2, 7, 8, 9, 10, 11, 13] (.seq (.ops [1, 2, 7, 8, 9, 10, 11, 12, 66, 96]) (.cond (.draw (.q 0 (.q 1 (.q 2 (.q 4 (.q 5 (.q 6 (.one 3 (.one 7 (.q 8 (.q 9 .fin)))))))))) [1, 2, 7, 8, 9, 10, 11, 13]) (.join [1, 2, 7, 8, 9, 10, 11, 13] (.seq (.ops [1, 2, 7, 8, 9, 10, 11, 12, 66, 107]) (.cond (.seq (.ops [1, 2, 7, 8, 9, 10, 11, 12, 14, 15]) (.seq (.ops [1, 2, 7, 8, 9, 10, 11, 14, 15, 16, 17]) (.join [1, 2, 7, 8, 9, 10, 11, 13] (.ops [1, 2, 7, 8, 9, 10, 11, 13])))) (.join [1, 2, 7, 8, 9, 10, 11, 13] (.seq (.ops [1, 2, 7, 8, 9, 10, 11, 12, 66, 131]) (.cond (.draw (.q 0 (.q 1 (.q 2 (.q 5 (.q 6 (.q 7 (.one 3 (.one 4 (.one 8 (.one 9 (.q 10 .fin))))))))))) [1, 2, 7, 8, 9, 10, 11, 13]) (.seq (.join [1, 2, 7, 8, 9, 10, 11, 12, 143] (.seq (.ops [1, 2, 7, 8, 9, 10, 11, 12, 66, 143]) (.cond .leaf (.ops [1, 2, 7, 8, 9, 10, 11, 12, 143])))) (.join [1, 2, 7, 8, 9, 10, 11, 13] (.cond (.seq (.ops [1, 2, 7, 8, 9, 10, 11, 12, 18]) (.join [1, 2, 7, 8, 9, 10, 11, 13] (.seq (.ops [1, 2, 7, 8, 9, 10, 11, 12, 18, 156]) (.cond (.draw (.q 0 (.q 1 (.q 2 (.q 3 (.q 4 (.q 5 (.q 7 (.q 8 (.q 9 (.q 10 (.q 11 (.q 12 (.one 6 (.one 13 (.q 14 (.q 15 .fin)))))))))))))))) [1, 2, 7, 8, 9, 10, 11, 13]) (.draw (.q 0 (.q 1 (.q 2 (.q 3 (.q 5 (.q 6 (.q 7 (.q 8 (.one 4 (.one 9 (.q 10 (.q 11 .fin)))))))))))) [1, 2, 7, 8, 9, 10, 11, 13]))))) (.draw (.q 0 (.q 1 (.q 2 (.q 3 (.q 4 (.q 7 (.q 8 (.q 9 (.q 10 (.q 11 (.one 5 (.one 6 (.one 12 (.one 13 (.q 14 .fin))))))))))))))) [1, 2, 7, 8, 9, 10, 11, 13])))))))))))))))))) (.join [1, 2, 7, 8, 9, 10, 11] (.seq (.ops [1, 2, 7, 8, 9, 10, 11, 195]) (.cond (.seq (.ops [6]) .leaf) .leaf))))))) (.ops [1, 2, 7, 8, 9, 10, 11])))))) (.seq (.ops [9, 10, 19]) (.seq (.ops [9, 10, 19, 20]) (.seq (.seq (.ops [9, 10, 19, 20, 21]) (.blk (.loop [9, 10, 19, 20] [21] (.seq (.seq (.ops [9, 10, 19, 20, 21, 205]) (.cond .leaf .leaf)) (.seq (.blk (.ops [9, 10, 19, 20, 21])) (.ops [9, 10, 19, 20, 21])))))) (.seq (.ops [6]) .leaf))))))))))))) (c := Try.f12.body.getD .skip) hentD Try.func12 rfl (Nat.le_of_ble_eq_true (by kernel_rfl))
    (Eq.mp (show sh12 a0 a1 a2 w R = denF Try.prog entD false Try.f12 (.seq (.ops [0, 1, 2]) (.seq (.seq (.ops [0, 1, 2, 23]) (.cond (.seq (.ops [6]) .leaf) .leaf)) (.seq (.ops [1, 2, 7, 8]) (.seq (.seq (.ops [1, 2, 7, 8, 35]) (.cond (.seq (.ops [6]) .leaf) .leaf)) (.seq (.ops [1, 2, 7, 8, 9]) (.seq (.ops [1, 2, 7, 8, 9, 10]) (.seq (.seq (.ops [1, 2, 7, 8, 9, 10, 54]) (.cond (.seq (.ops [6]) .leaf) .leaf)) (.seq (.seq (.ops [1, 2, 7, 8, 9, 10, 11]) (.blk (.loop [1, 2, 7, 8, 9, 10] [11] (.seq (.seq (.ops [1, 2, 7, 8, 9, 10, 11, 58]) (.cond .leaf .leaf)) (.seq (.blk (.seq (.ops [1, 2, 7, 8, 9, 10, 11, 12]) (.seq (.ops [1, 2, 7, 8, 9, 10, 11, 12]) (.seq (.seq (.ops [1, 2, 7, 8, 9, 10, 11, 12, 66]) (.blk (.join [1, 2, 7, 8, 9, 10, 11, 13] (.seq (.ops [1, 2, 7, 8, 9, 10, 11, 12, 66, 81]) (.cond (.draw (.q 0 (.q 1 (.q 2 (.q 3 (.q 4 (.q 6 (.q 7 (.q 8 (.q 9 (.q 10 (.one 5 (.one 11 (.q 12 (.q 13 .fin)))))))))))))) [1, 2, 7, 8, 9, 10, 11, 13]) (.join [1, 2, 7, 8, 9, 10, 11, 13] (.seq (.ops [1, 2, 7, 8, 9, 10, 11, 12, 66, 96]) (.cond (.draw (.q 0 (.q 1 (.q 2 (.q 4 (.q 5 (.q 6 (.one 3 (.one 7 (.q 8 (.q 9 .fin)))))))))) [1, 2, 7, 8, 9, 10, 11, 13]) (.join [1, 2, 7, 8, 9, 10, 11, 13] (.seq (.ops [1, 2, 7, 8, 9, 10, 11, 12, 66, 107]) (.cond (.seq (.ops [1, 2, 7, 8, 9, 10, 11, 12, 14, 15]) (.seq (.ops [1, 2, 7, 8, 9, 10, 11, 14, 15, 16, 17]) (.join [1, 2, 7, 8, 9, 10, 11, 13] (.ops [1, 2, 7, 8, 9, 10, 11, 13])))) (.join [1, 2, 7, 8, 9, 10, 11, 13] (.seq (.ops [1, 2, 7, 8, 9, 10, 11, 12, 66, 131]) (.cond (.draw (.q 0 (.q 1 (.q 2 (.q 5 (.q 6 (.q 7 (.one 3 (.one 4 (.one 8 (.one 9 (.q 10 .fin))))))))))) [1, 2, 7, 8, 9, 10, 11, 13]) (.seq (.join [1, 2, 7, 8, 9, 10, 11, 12, 143] (.seq (.ops [1, 2, 7, 8, 9, 10, 11, 12, 66, 143]) (.cond .leaf (.ops [1, 2, 7, 8, 9, 10, 11, 12, 143])))) (.join [1, 2, 7, 8, 9, 10, 11, 13] (.cond (.seq (.ops [1, 2, 7, 8, 9, 10, 11, 12, 18]) (.join [1, 2, 7, 8, 9, 10, 11, 13] (.seq (.ops [1, 2, 7, 8, 9, 10, 11, 12, 18, 156]) (.cond (.draw (.q 0 (.q 1 (.q 2 (.q 3 (.q 4 (.q 5 (.q 7 (.q 8 (.q 9 (.q 10 (.q 11 (.q 12 (.one 6 (.one 13 (.q 14 (.q 15 .fin)))))))))))))))) [1, 2, 7, 8, 9, 10, 11, 13]) (.draw (.q 0 (.q 1 (.q 2 (.q 3 (.q 5 (.q 6 (.q 7 (.q 8 (.one 4 (.one 9 (.q 10 (.q 11 .fin)))))))))))) [1, 2, 7, 8, 9, 10, 11, 13]))))) (.draw (.q 0 (.q 1 (.q 2 (.q 3 (.q 4 (.q 7 (.q 8 (.q 9 (.q 10 (.q 11 (.one 5 (.one 6 (.one 12 (.one 13 (.q 14 .fin))))))))))))))) [1, 2, 7, 8, 9, 10, 11, 13])))))))))))))))))) (.join [1, 2, 7, 8, 9, 10, 11] (.seq (.ops [1, 2, 7, 8, 9, 10, 11, 195]) (.cond (.seq (.ops [6]) .leaf) .leaf))))))) (.ops [1, 2, 7, 8, 9, 10, 11])))))) (.seq (.ops [9, 10, 19]) (.seq (.ops [9, 10, 19, 20]) (.seq (.seq (.ops [9, 10, 19, 20, 21]) (.blk (.loop [9, 10, 19, 20] [21] (.seq (.seq (.ops [9, 10, 19, 20, 21, 205]) (.cond .leaf .leaf)) (.seq (.blk (.ops [9, 10, 19, 20, 21])) (.ops [9, 10, 19, 20, 21])))))) (.seq (.ops [6]) .leaf)))))))))))) (Try.f12.body.getD .skip) [a0, a1, a2] w R by kernel_rfl) h)

/-! ### 45: handbill/hbllaw12.first -/
def sh45 (w : World) (R : Value → World → Prop) : Prop :=
 CallF Try.prog 20 #[] w fun t5_1 w =>
 CallF Try.prog 48 #[t5_1, (.int .i64 0)] w fun t7_2 w =>
 RunW Try.prog (bin .eql 35 (.tmp 8) (.const (.pointer none)) t5_1 (.pointer none)) w fun t9_3 =>
 IfB t9_3 (
 R (.bool false) w) (
 RunW Try.prog (bin .eql 72 (.tmp 11) (.const (.pointer none)) t7_2 (.pointer none)) w fun t12_4 =>
 IfB t12_4 (
 R (.bool false) w) (
 CallF Try.prog 49 #[t7_2, (.string ⟨#[97]⟩), (.string ⟨#[49]⟩)] w fun t15_5 w =>
 CallF Try.prog 51 #[t7_2, (.string ⟨#[97]⟩)] w fun t17_6 w =>
 RunW Try.prog (bin .eql 26 (.tmp 18) (.const (.int .i64 0)) t15_5 (.int .i64 0)) w fun t19_7 =>
 IfB t19_7 (
 RunW Try.prog (bin .eql 26 (.tmp 21) (.const (.int .i64 0)) t17_6 (.int .i64 0)) w fun t22_8 =>
 IfB t22_8 (
 CallF Try.prog 53 #[t7_2, (.string ⟨#[]⟩), (.string ⟨#[]⟩)] w fun t26_9 w =>
 CallF Try.prog 24 #[t26_9, (.int .i64 9)] w fun t27_10 w =>
 RunW Try.prog (Builtin.len_ #[41] 3 #[t27_10]) w fun t28_11 =>
 RunW Try.prog (bin .eql 3 (.tmp 28) (.const (.int .i64 0)) t28_11 (.int .i64 0)) w fun t29_12 =>
 IfB t29_12 (
 CallF Try.prog 56 #[t7_2] w fun t33_13 w =>
 RunW Try.prog (Builtin.len_ #[84] 3 #[t33_13]) w fun t34_14 =>
 RunW Try.prog (bin .eql 3 (.tmp 34) (.const (.int .i64 1)) t34_14 (.int .i64 1)) w fun t35_15 =>
 IfB t35_15 (
 CallF Try.prog 56 #[t7_2] w fun t39_16 w =>
 RunA Try.prog (Instr.indexAt 84 t39_16 (.int .i64 0)) fun t40_17 =>
 RunA Try.prog (Instr.fieldAt 86 t40_17 2) fun t41_18 =>
 RunW Try.prog (Instr.loadAt 4 t41_18) w fun t42_19 =>
 R t42_19 w) (
 R (.bool false) w)) (
 R (.bool false) w)) (
 R (.bool false) w)) (
 R (.bool false) w)))
theorem sh45_calls {w : World} {R : Value → World → Prop} (h : sh45  w R) : CallF Try.prog 45 #[] w R :=
  calls_of_denF (mk := false) (args := []) (an := (.seq (.ops []) (.seq (.ops [1]) (.seq (.ops [1, 2]) (.seq (.seq (.ops [2, 13]) (.cond (.seq (.ops [0]) .leaf) .leaf)) (.seq (.ops [2, 3, 4]) (.seq (.ops [0]) .leaf))))))) (c := Try.f45.body.getD .skip) hentD Try.func45 rfl (Nat.le_of_ble_eq_true (by kernel_rfl))
    (Eq.mp (show sh45  w R = denF Try.prog entD false Try.f45 (.seq (.ops []) (.seq (.ops [1]) (.seq (.ops [1, 2]) (.seq (.seq (.ops [2, 13]) (.cond (.seq (.ops [0]) .leaf) .leaf)) (.seq (.ops [2, 3, 4]) (.seq (.ops [0]) .leaf)))))) (Try.f45.body.getD .skip) [] w R by kernel_rfl) h)

/-! ### 46: handbill/hbllaw12.stores -/
def sh46 (a0 : Value) (w : World) (R : Value → World → Prop) : Prop :=
 CallF Try.prog 20 #[] w fun t8_1 w =>
 RunV Try.prog (Instr.build 63 #[]) w fun t9_2 w =>
 RunV Try.prog (Instr.box 63 t9_2) w fun t10_3 w =>
 RunW Try.prog (bin .eql 35 (.tmp 11) (.const (.pointer none)) t8_1 (.pointer none)) w fun t12_4 =>
 IfB t12_4 (
 R (.tuple #[(.pointer none), (.pointer none)]) w) (
 jn 2 (fun t4_5 t5_6 w =>
 R (.tuple #[t4_5, t5_6]) w) fun j_7 =>
 lp 1 (fun n_9 t6_8 w =>
 RunW Try.prog (Builtin.len_ #[34] 3 #[a0]) w fun t15_10 =>
 RunA Try.prog (bin .lss 3 (.tmp 13) (.tmp 15) t6_8 t15_10) fun t16_11 =>
 IfB t16_11 (
 RunA Try.prog (bin .lss 3 (.tmp 18) (.const (.int .i64 300)) t6_8 (.int .i64 300)) fun t19_12 =>
 IfB t19_12 (
 jn 4 (fun t0_13 t4_14 t5_15 t6_16 w =>
 RunA Try.prog (bin .add 3 (.tmp 21) (.const (.int .i64 1)) t6_16 (.int .i64 1)) fun t22_18 =>
 (t0_13 : Value) = a0 ∧ ((t4_14 : Value) = t8_1 ∧ ((t5_15 : Value) = t10_3 ∧ (n_9 t22_18 w)))) fun j_17 =>
 RunA Try.prog (Instr.indexAt 34 a0 t6_8) fun t25_19 =>
 RunW Try.prog (Instr.loadAt 40 t25_19) w fun t26_20 =>
 RunV Try.prog (Instr.alloc 40 true (.tuple #[])) w fun t7_21 w =>
 RunU Try.prog (Instr.storeAt 40 t7_21 t26_20) w fun w =>
 RunA Try.prog (Instr.fieldAt 40 t7_21 2) fun t27_22 =>
 RunW Try.prog (Instr.loadAt 9 t27_22) w fun t28_23 =>
 RunW Try.prog (Builtin.len_ #[9] 3 #[t28_23]) w fun t29_24 =>
 RunA Try.prog (bin .gtr 3 (.tmp 29) (.const (.int .i64 1000)) t29_24 (.int .i64 1000)) fun t30_25 =>
 IfB t30_25 (
 j_17 a0 t8_1 t10_3 t6_8 w) (
 RunA Try.prog (Instr.fieldAt 40 t7_21 3) fun t32_26 =>
 RunW Try.prog (Instr.loadAt 9 t32_26) w fun t33_27 =>
 RunW Try.prog (Builtin.len_ #[9] 3 #[t33_27]) w fun t34_28 =>
 RunA Try.prog (bin .gtr 3 (.tmp 34) (.const (.int .i64 1000)) t34_28 (.int .i64 1000)) fun t35_29 =>
 IfB t35_29 (
 j_17 a0 t8_1 t10_3 t6_8 w) (
 RunA Try.prog (Instr.fieldAt 40 t7_21 0) fun t37_30 =>
 RunW Try.prog (Instr.loadAt 3 t37_30) w fun t38_31 =>
 jn 4 (fun t0_32 t4_33 t5_34 t6_35 w =>
 j_17 t0_32 t4_33 t5_34 t6_35 w) fun j_36 =>
 RunW Try.prog (bin .eql 3 (.tmp 38) (.const (.int .i64 0)) t38_31 (.int .i64 0)) w fun t40_37 =>
 IfB t40_37 (
 RunA Try.prog (Instr.fieldAt 40 t7_21 1) fun t42_38 =>
 RunW Try.prog (Instr.loadAt 3 t42_38) w fun t43_39 =>
 RunA Try.prog (Instr.fieldAt 40 t7_21 2) fun t44_40 =>
 RunW Try.prog (Instr.loadAt 9 t44_40) w fun t45_41 =>
 RunA Try.prog (Instr.fieldAt 40 t7_21 3) fun t46_42 =>
 RunW Try.prog (Instr.loadAt 9 t46_42) w fun t47_43 =>
 CallF Try.prog 29 #[t8_1, t43_39, t45_41, t47_43] w fun t48_44 w =>
 RunA Try.prog (Instr.fieldAt 40 t7_21 1) fun t50_45 =>
 RunW Try.prog (Instr.loadAt 3 t50_45) w fun t51_46 =>
 RunA Try.prog (Instr.fieldAt 40 t7_21 2) fun t52_47 =>
 RunW Try.prog (Instr.loadAt 9 t52_47) w fun t53_48 =>
 RunA Try.prog (Instr.fieldAt 40 t7_21 3) fun t54_49 =>
 RunW Try.prog (Instr.loadAt 9 t54_49) w fun t55_50 =>
 CallF Try.prog 34 #[t10_3, t51_46, t53_48, t55_50] w fun t56_51 w =>
 j_36 a0 t8_1 t10_3 t6_8 w) (
 jn 4 (fun t0_52 t4_53 t5_54 t6_55 w =>
 j_36 t0_52 t4_53 t5_54 t6_55 w) fun j_56 =>
 RunW Try.prog (bin .eql 3 (.tmp 38) (.const (.int .i64 1)) t38_31 (.int .i64 1)) w fun t58_57 =>
 IfB t58_57 (
 RunA Try.prog (Instr.fieldAt 40 t7_21 1) fun t60_58 =>
 RunW Try.prog (Instr.loadAt 3 t60_58) w fun t61_59 =>
 RunA Try.prog (Instr.fieldAt 40 t7_21 2) fun t62_60 =>
 RunW Try.prog (Instr.loadAt 9 t62_60) w fun t63_61 =>
 CallF Try.prog 30 #[t8_1, t61_59, t63_61] w fun t64_62 w =>
 RunA Try.prog (Instr.fieldAt 40 t7_21 1) fun t66_63 =>
 RunW Try.prog (Instr.loadAt 3 t66_63) w fun t67_64 =>
 RunA Try.prog (Instr.fieldAt 40 t7_21 2) fun t68_65 =>
 RunW Try.prog (Instr.loadAt 9 t68_65) w fun t69_66 =>
 CallF Try.prog 35 #[t10_3, t67_64, t69_66] w fun t70_67 w =>
 j_56 a0 t8_1 t10_3 t6_8 w) (
 j_56 a0 t8_1 t10_3 t6_8 w))))) (
 j_7 t8_1 t10_3 w)) (
 j_7 t8_1 t10_3 w)) [(.int .i64 0)] w)
theorem sh46_calls {a0 : Value} {w : World} {R : Value → World → Prop} (h : sh46 a0 w R) : CallF Try.prog 46 #[a0] w R :=
  calls_of_denF (mk := false) (args := [a0]) (an := (.seq (.ops [0]) (.seq (.ops [0, 4]) (.seq (.ops [0, 4, 5]) (.seq (.seq (.ops [0, 4, 5, 12]) (.cond (.seq (.ops [2, 3]) .leaf) .leaf)) (.seq (.seq (.ops [0, 4, 5, 6]) (.join [4, 5] (.blk (.loop [0, 4, 5] [6] (.seq (.seq (.ops [0, 4, 5, 6, 20]) (.cond .leaf .leaf)) (.seq (.join [0, 4, 5, 6] (.blk (.seq (.ops [0, 4, 5, 6, 7]) (.seq (.seq (.ops [0, 4, 5, 6, 7, 36]) (.cond .leaf .leaf)) (.seq (.ops [0, 4, 5, 6, 7, 38]) (.blk (.join [0, 4, 5, 6] (.seq (.ops [0, 4, 5, 6, 7, 38, 39]) (.cond (.seq (.ops [0, 4, 5, 6, 7]) (.ops [0, 4, 5, 6])) (.join [0, 4, 5, 6] (.seq (.ops [0, 4, 5, 6, 7, 57]) (.cond (.seq (.ops [0, 4, 5, 6, 7]) (.ops [0, 4, 5, 6])) .leaf)))))))))))) (.ops [0, 4, 5, 6]))))))) (.seq (.ops [2, 3]) .leaf))))))) (c := Try.f46.body.getD .skip) hentD Try.func46 rfl (Nat.le_of_ble_eq_true (by kernel_rfl))
    (Eq.mp (show sh46 a0 w R = denF Try.prog entD false Try.f46 (.seq (.ops [0]) (.seq (.ops [0, 4]) (.seq (.ops [0, 4, 5]) (.seq (.seq (.ops [0, 4, 5, 12]) (.cond (.seq (.ops [2, 3]) .leaf) .leaf)) (.seq (.seq (.ops [0, 4, 5, 6]) (.join [4, 5] (.blk (.loop [0, 4, 5] [6] (.seq (.seq (.ops [0, 4, 5, 6, 20]) (.cond .leaf .leaf)) (.seq (.join [0, 4, 5, 6] (.blk (.seq (.ops [0, 4, 5, 6, 7]) (.seq (.seq (.ops [0, 4, 5, 6, 7, 36]) (.cond .leaf .leaf)) (.seq (.ops [0, 4, 5, 6, 7, 38]) (.blk (.join [0, 4, 5, 6] (.seq (.ops [0, 4, 5, 6, 7, 38, 39]) (.cond (.seq (.ops [0, 4, 5, 6, 7]) (.ops [0, 4, 5, 6])) (.join [0, 4, 5, 6] (.seq (.ops [0, 4, 5, 6, 7, 57]) (.cond (.seq (.ops [0, 4, 5, 6, 7]) (.ops [0, 4, 5, 6])) .leaf)))))))))))) (.ops [0, 4, 5, 6]))))))) (.seq (.ops [2, 3]) .leaf)))))) (Try.f46.body.getD .skip) [a0] w R by kernel_rfl) h)

/-! ### 47: handbill/hbllaw12.few -/
def sh47 (a0 : Value) (w : World) (R : Value → World → Prop) : Prop :=
 jn 1 (fun t0_1 w =>
 RunW Try.prog (Builtin.len_ #[68] 3 #[t0_1]) w fun t43_3 =>
 RunA Try.prog (bin .leq 3 (.tmp 43) (.const (.int .i64 1300)) t43_3 (.int .i64 1300)) fun t44_4 =>
 R t44_4 w) fun j_2 =>
 lp 2 (fun n_7 t3_5 t4_6 w =>
 RunW Try.prog (Builtin.len_ #[68] 3 #[a0]) w fun t7_8 =>
 RunA Try.prog (bin .lss 3 (.tmp 5) (.tmp 7) t4_6 t7_8) fun t8_9 =>
 IfB t8_9 (
 RunA Try.prog (bin .lss 3 (.tmp 10) (.const (.int .i64 1300)) t4_6 (.int .i64 1300)) fun t11_10 =>
 IfB t11_10 (
 drw (fun S_11 w =>
 RunA Try.prog (Instr.indexAt 68 a0 t4_6) fun t18_12 =>
 RunA Try.prog (Instr.fieldAt 75 t18_12 1) fun t19_13 =>
 RunS Try.prog S_11 (Instr.loadAt 9 t19_13) fun t20_14 =>
 RunS Try.prog S_11 (Builtin.len_ #[9] 3 #[t20_14]) fun t21_15 =>
 RunS Try.prog S_11 (Builtin.min_ #[3, 3] 3 #[t21_15, (.int .i64 100001)]) fun t22_16 =>
 RunA Try.prog (bin .add 3 (.tmp 15) (.tmp 22) t3_5 t22_16) fun t23_17 =>
 RunA Try.prog (Instr.indexAt 68 a0 t4_6) fun t26_18 =>
 RunA Try.prog (Instr.fieldAt 75 t26_18 2) fun t27_19 =>
 RunS Try.prog S_11 (Instr.loadAt 9 t27_19) fun t28_20 =>
 RunS Try.prog S_11 (Builtin.len_ #[9] 3 #[t28_20]) fun t29_21 =>
 RunS Try.prog S_11 (Builtin.min_ #[3, 3] 3 #[t29_21, (.int .i64 100001)]) fun t30_22 =>
 RunA Try.prog (bin .add 3 (.tmp 23) (.tmp 30) t23_17 t30_22) fun t31_23 =>
 RunA Try.prog (Instr.indexAt 68 a0 t4_6) fun t34_24 =>
 RunA Try.prog (Instr.fieldAt 75 t34_24 3) fun t35_25 =>
 RunS Try.prog S_11 (Instr.loadAt 9 t35_25) fun t36_26 =>
 RunS Try.prog S_11 (Builtin.len_ #[9] 3 #[t36_26]) fun t37_27 =>
 RunS Try.prog S_11 (Builtin.min_ #[3, 3] 3 #[t37_27, (.int .i64 100001)]) fun t38_28 =>
 RunA Try.prog (bin .add 3 (.tmp 31) (.tmp 38) t31_23 t38_28) fun t39_29 =>
 RunA Try.prog (bin .gtr 3 (.tmp 40) (.const (.int .i64 100000)) t39_29 (.int .i64 100000)) fun t41_30 =>
 IfB t41_30 (
 R (.bool false) w) (
 RunA Try.prog (bin .add 3 (.tmp 13) (.const (.int .i64 1)) t4_6 (.int .i64 1)) fun t14_31 =>
 (a0 : Value) = a0 ∧ (n_7 t39_29 t14_31 w))) w) (
 j_2 a0 w)) (
 j_2 a0 w)) [(.int .i64 0), (.int .i64 0)] w
theorem sh47_calls {a0 : Value} {w : World} {R : Value → World → Prop} (h : sh47 a0 w R) : CallF Try.prog 47 #[a0] w R :=
  calls_of_denF (mk := false) (args := [a0]) (an := (.seq (.ops [0]) (.seq (.ops [0, 3]) (.seq (.seq (.ops [0, 3, 4]) (.join [0] (.blk (.loop [0] [3, 4] (.seq (.seq (.ops [0, 3, 4, 12]) (.cond .leaf .leaf)) (.seq (.blk (.seq (.draw (.q 0 (.q 1 (.q 2 (.q 3 (.q 4 (.q 5 (.q 6 (.q 7 (.q 8 (.q 9 (.q 10 (.q 11 (.q 12 (.q 13 (.q 14 (.q 15 (.q 16 (.q 17 (.q 18 (.q 19 (.q 20 (.q 21 (.q 22 (.q 23 (.q 24 (.q 25 .fin)))))))))))))))))))))))))) [0, 3, 4]) (.seq (.ops [0, 3, 4, 41]) (.cond (.seq (.ops [2]) .leaf) .leaf)))) (.ops [0, 3, 4]))))))) (.seq (.ops [2]) .leaf))))) (c := Try.f47.body.getD .skip) hentD Try.func47 rfl (Nat.le_of_ble_eq_true (by kernel_rfl))
    (Eq.mp (show sh47 a0 w R = denF Try.prog entD false Try.f47 (.seq (.ops [0]) (.seq (.ops [0, 3]) (.seq (.seq (.ops [0, 3, 4]) (.join [0] (.blk (.loop [0] [3, 4] (.seq (.seq (.ops [0, 3, 4, 12]) (.cond .leaf .leaf)) (.seq (.blk (.seq (.draw (.q 0 (.q 1 (.q 2 (.q 3 (.q 4 (.q 5 (.q 6 (.q 7 (.q 8 (.q 9 (.q 10 (.q 11 (.q 12 (.q 13 (.q 14 (.q 15 (.q 16 (.q 17 (.q 18 (.q 19 (.q 20 (.q 21 (.q 22 (.q 23 (.q 24 (.q 25 .fin)))))))))))))))))))))))))) [0, 3, 4]) (.seq (.ops [0, 3, 4, 41]) (.cond (.seq (.ops [2]) .leaf) .leaf)))) (.ops [0, 3, 4]))))))) (.seq (.ops [2]) .leaf)))) (Try.f47.body.getD .skip) [a0] w R by kernel_rfl) h)

/-! ### 48: handbill/txn.Begin -/
def sh48 (a0 a1 : Value) (w : World) (R : Value → World → Prop) : Prop :=
 CallF Try.prog 90 #[] w fun t7_1 w =>
 RunV Try.prog (Instr.build 136 #[(0, a0), (1, a1), (2, t7_1)]) w fun t8_2 w =>
 RunV Try.prog (Instr.box 136 t8_2) w fun t9_3 w =>
 R t9_3 w
theorem sh48_calls {a0 a1 : Value} {w : World} {R : Value → World → Prop} (h : sh48 a0 a1 w R) : CallF Try.prog 48 #[a0, a1] w R :=
  calls_of_denF (mk := false) (args := [a0, a1]) (an := (.seq (.ops [0, 1]) (.seq (.ops [4]) .leaf))) (c := Try.f48.body.getD .skip) hentD Try.func48 rfl (Nat.le_of_ble_eq_true (by kernel_rfl))
    (Eq.mp (show sh48 a0 a1 w R = denF Try.prog entD false Try.f48 (.seq (.ops [0, 1]) (.seq (.ops [4]) .leaf)) (Try.f48.body.getD .skip) [a0, a1] w R by kernel_rfl) h)

/-! ### 49: (*handbill/txn.Txn).Put -/
def sh49 (a0 a1 a2 : Value) (w : World) (R : Value → World → Prop) : Prop :=
 RunV Try.prog (Instr.build 86 #[(0, a1), (1, a2)]) w fun t10_1 w =>
 CallF Try.prog 91 #[a0, t10_1] w fun t11_2 w =>
 R t11_2 w
theorem sh49_calls {a0 a1 a2 : Value} {w : World} {R : Value → World → Prop} (h : sh49 a0 a1 a2 w R) : CallF Try.prog 49 #[a0, a1, a2] w R :=
  calls_of_denF (mk := false) (args := [a0, a1, a2]) (an := (.seq (.ops [0, 1, 2]) (.seq (.ops [6]) .leaf))) (c := Try.f49.body.getD .skip) hentD Try.func49 rfl (Nat.le_of_ble_eq_true (by kernel_rfl))
    (Eq.mp (show sh49 a0 a1 a2 w R = denF Try.prog entD false Try.f49 (.seq (.ops [0, 1, 2]) (.seq (.ops [6]) .leaf)) (Try.f49.body.getD .skip) [a0, a1, a2] w R by kernel_rfl) h)

/-! ### 50: handbill/hbllaw12.with -/
def sh50 (a0 a1 a2 a3 : Value) (w : World) (R : Value → World → Prop) : Prop :=
 jn 5 (fun t0_1 t1_2 t2_3 t3_4 t9_5 w =>
 jn 6 (fun t0_7 t1_8 t2_9 t3_10 t9_11 t10_12 w =>
 RunV Try.prog (Instr.buildSlice 41 0 #[]) w fun t40_14 w =>
 RunA Try.prog (Instr.sliceAt 41 t0_7 none (some t9_11) none) fun t43_15 =>
 RunV Try.prog (Builtin.append_ #[41, 41] 41 #[t40_14, t43_15]) w fun t44_16 w =>
 jn 4 (fun t0_17 t9_18 t10_19 t11_20 w =>
 RunA Try.prog (bin .add 3 (.tmp 55) (.tmp 56) t9_18 t10_19) fun t57_22 =>
 RunA Try.prog (Instr.sliceAt 41 t0_17 (some t57_22) none none) fun t58_23 =>
 RunV Try.prog (Builtin.append_ #[41, 41] 41 #[t11_20, t58_23]) w fun t59_24 w =>
 R t59_24 w) fun j_21 =>
 RunA Try.prog (Op.unary .not t3_10) fun t46_25 =>
 IfB t46_25 (
 RunV Try.prog (Instr.build 50 #[(0, t1_8), (1, t2_9)]) w fun t50_26 w =>
 RunV Try.prog (Instr.buildSlice 41 1 #[(0, t50_26)]) w fun t51_27 w =>
 RunV Try.prog (Builtin.append_ #[41, 41] 41 #[t44_16, t51_27]) w fun t52_28 w =>
 j_21 t0_7 t9_11 t10_12 t52_28 w) (
 j_21 t0_7 t9_11 t10_12 t44_16 w)) fun j_13 =>
 RunW Try.prog (Builtin.len_ #[41] 3 #[t0_1]) w fun t29_29 =>
 RunA Try.prog (bin .lss 3 (.tmp 27) (.tmp 29) t9_5 t29_29) fun t30_30 =>
 IfB t30_30 (
 RunA Try.prog (Instr.indexAt 41 t0_1 t9_5) fun t34_31 =>
 RunA Try.prog (Instr.fieldAt 50 t34_31 0) fun t35_32 =>
 RunW Try.prog (Instr.loadAt 9 t35_32) w fun t36_33 =>
 RunW Try.prog (bin .eql 9 (.tmp 36) (.tmp 37) t36_33 t1_2) w fun t38_34 =>
 IfB t38_34 (
 j_13 t0_1 t1_2 t2_3 t3_4 t9_5 (.int .i64 1) w) (
 j_13 t0_1 t1_2 t2_3 t3_4 t9_5 (.int .i64 0) w)) (
 j_13 t0_1 t1_2 t2_3 t3_4 t9_5 (.int .i64 0) w)) fun j_6 =>
 lp 1 (fun n_36 t9_35 w =>
 RunW Try.prog (Builtin.len_ #[41] 3 #[a0]) w fun t14_37 =>
 RunA Try.prog (bin .lss 3 (.tmp 12) (.tmp 14) t9_35 t14_37) fun t15_38 =>
 IfB t15_38 (
 RunA Try.prog (Instr.indexAt 41 a0 t9_35) fun t19_39 =>
 RunA Try.prog (Instr.fieldAt 50 t19_39 0) fun t20_40 =>
 RunW Try.prog (Instr.loadAt 9 t20_40) w fun t21_41 =>
 RunA Try.prog (bin .lss 9 (.tmp 21) (.tmp 22) t21_41 a1) fun t23_42 =>
 IfB t23_42 (
 RunA Try.prog (bin .add 3 (.tmp 25) (.const (.int .i64 1)) t9_35 (.int .i64 1)) fun t26_43 =>
 (a0 : Value) = a0 ∧ ((a1 : Value) = a1 ∧ ((a2 : Value) = a2 ∧ ((a3 : Value) = a3 ∧ (n_36 t26_43 w))))) (
 j_6 a0 a1 a2 a3 t9_35 w)) (
 j_6 a0 a1 a2 a3 t9_35 w)) [(.int .i64 0)] w
theorem sh50_calls {a0 a1 a2 a3 : Value} {w : World} {R : Value → World → Prop} (h : sh50 a0 a1 a2 a3 w R) : CallF Try.prog 50 #[a0, a1, a2, a3] w R :=
  calls_of_denF (mk := false) (args := [a0, a1, a2, a3]) (an := (.seq (.ops [0, 1, 2, 3]) (.seq (.ops [0, 1, 2, 3, 9]) (.seq (.join [0, 1, 2, 3, 9] (.blk (.loop [0, 1, 2, 3] [9] (.seq (.seq (.ops [0, 1, 2, 3, 9, 24]) (.cond .leaf .leaf)) (.blk (.ops [0, 1, 2, 3, 9])))))) (.seq (.ops [0, 1, 2, 3, 9, 10]) (.seq (.join [0, 1, 2, 3, 9, 10] (.seq (.ops [0, 1, 2, 3, 9, 10, 39]) (.cond (.ops [0, 1, 2, 3, 9, 10]) .leaf))) (.seq (.ops [0, 1, 2, 3, 9, 10, 11]) (.seq (.join [0, 9, 10, 11] (.seq (.ops [0, 1, 2, 9, 10, 11, 46]) (.cond (.ops [0, 9, 10, 11]) .leaf))) (.seq (.ops [8]) .leaf))))))))) (c := Try.f50.body.getD .skip) hentD Try.func50 rfl (Nat.le_of_ble_eq_true (by kernel_rfl))
    (Eq.mp (show sh50 a0 a1 a2 a3 w R = denF Try.prog entD false Try.f50 (.seq (.ops [0, 1, 2, 3]) (.seq (.ops [0, 1, 2, 3, 9]) (.seq (.join [0, 1, 2, 3, 9] (.blk (.loop [0, 1, 2, 3] [9] (.seq (.seq (.ops [0, 1, 2, 3, 9, 24]) (.cond .leaf .leaf)) (.blk (.ops [0, 1, 2, 3, 9])))))) (.seq (.ops [0, 1, 2, 3, 9, 10]) (.seq (.join [0, 1, 2, 3, 9, 10] (.seq (.ops [0, 1, 2, 3, 9, 10, 39]) (.cond (.ops [0, 1, 2, 3, 9, 10]) .leaf))) (.seq (.ops [0, 1, 2, 3, 9, 10, 11]) (.seq (.join [0, 9, 10, 11] (.seq (.ops [0, 1, 2, 9, 10, 11, 46]) (.cond (.ops [0, 9, 10, 11]) .leaf))) (.seq (.ops [8]) .leaf)))))))) (Try.f50.body.getD .skip) [a0, a1, a2, a3] w R by kernel_rfl) h)

/-! ### 51: (*handbill/txn.Txn).Delete -/
def sh51 (a0 a1 : Value) (w : World) (R : Value → World → Prop) : Prop :=
 RunV Try.prog (Instr.build 86 #[(0, a1), (2, (.bool true))]) w fun t7_1 w =>
 CallF Try.prog 91 #[a0, t7_1] w fun t8_2 w =>
 R t8_2 w
theorem sh51_calls {a0 a1 : Value} {w : World} {R : Value → World → Prop} (h : sh51 a0 a1 w R) : CallF Try.prog 51 #[a0, a1] w R :=
  calls_of_denF (mk := false) (args := [a0, a1]) (an := (.seq (.ops [0, 1]) (.seq (.ops [4]) .leaf))) (c := Try.f51.body.getD .skip) hentD Try.func51 rfl (Nat.le_of_ble_eq_true (by kernel_rfl))
    (Eq.mp (show sh51 a0 a1 w R = denF Try.prog entD false Try.f51 (.seq (.ops [0, 1]) (.seq (.ops [4]) .leaf)) (Try.f51.body.getD .skip) [a0, a1] w R by kernel_rfl) h)

/-! ### 52: (*handbill/txn.Txn).Get -/
def sh52 (a0 a1 : Value) (w : World) (R : Value → World → Prop) : Prop :=
 RunA Try.prog (nilV a0) fun t10_1 =>
 RunA Try.prog (Instr.fieldAt 136 t10_1 2) fun t11_2 =>
 RunW Try.prog (Instr.loadAt 133 t11_2) w fun t12_3 =>
 CallF Try.prog 92 #[t12_3, a1] w fun t14_4 w =>
 RunA Try.prog (Instr.extract t14_4 0) fun t15_5 =>
 RunA Try.prog (Instr.extract t14_4 1) fun t16_6 =>
 RunV Try.prog (Instr.alloc 86 true (.tuple #[])) w fun t6_7 w =>
 RunU Try.prog (Instr.storeAt 86 t6_7 t15_5) w fun w =>
 IfB t16_6 (
 drw (fun S_8 w =>
 RunA Try.prog (Instr.fieldAt 86 t6_7 1) fun t18_9 =>
 RunS Try.prog S_8 (Instr.loadAt 9 t18_9) fun t19_10 =>
 RunA Try.prog (Instr.fieldAt 86 t6_7 2) fun t20_11 =>
 RunS Try.prog S_8 (Instr.loadAt 4 t20_11) fun t21_12 =>
 RunA Try.prog (Op.unary .not t21_12) fun t22_13 =>
 R (.tuple #[t19_10, t22_13]) w) w) (
 drw (fun S_14 w =>
 RunA Try.prog (nilV a0) fun t24_15 =>
 RunA Try.prog (Instr.fieldAt 136 t24_15 0) fun t25_16 =>
 RunS Try.prog S_14 (Instr.loadAt 35 t25_16) fun t26_17 =>
 RunA Try.prog (nilV a0) fun t29_18 =>
 RunA Try.prog (Instr.fieldAt 136 t29_18 1) fun t30_19 =>
 RunS Try.prog S_14 (Instr.loadAt 3 t30_19) fun t31_20 =>
 CallF Try.prog 28 #[t26_17, a1, t31_20] w fun t32_21 w =>
 RunA Try.prog (Instr.extract t32_21 0) fun t33_22 =>
 RunA Try.prog (Instr.extract t32_21 1) fun t34_23 =>
 R (.tuple #[t33_22, t34_23]) w) w)
theorem sh52_calls {a0 a1 : Value} {w : World} {R : Value → World → Prop} (h : sh52 a0 a1 w R) : CallF Try.prog 52 #[a0, a1] w R :=
  calls_of_denF (mk := false) (args := [a0, a1]) (an := (.seq (.ops [0, 1]) (.seq (.seq (.ops [0, 1, 6, 7]) (.seq (.ops [0, 1, 6, 17]) (.cond (.seq (.draw (.q 0 (.q 1 (.q 2 (.q 3 (.q 4 (.q 5 (.q 6 .fin))))))) [4, 5]) .leaf) .leaf))) (.seq (.draw (.q 0 (.q 1 (.q 2 (.q 3 (.q 4 (.q 5 (.q 6 (.q 7 (.q 8 (.one 9 (.q 10 (.q 11 (.q 12 (.q 13 .fin)))))))))))))) [4, 5]) .leaf)))) (c := Try.f52.body.getD .skip) hentD Try.func52 rfl (Nat.le_of_ble_eq_true (by kernel_rfl))
    (Eq.mp (show sh52 a0 a1 w R = denF Try.prog entD false Try.f52 (.seq (.ops [0, 1]) (.seq (.seq (.ops [0, 1, 6, 7]) (.seq (.ops [0, 1, 6, 17]) (.cond (.seq (.draw (.q 0 (.q 1 (.q 2 (.q 3 (.q 4 (.q 5 (.q 6 .fin))))))) [4, 5]) .leaf) .leaf))) (.seq (.draw (.q 0 (.q 1 (.q 2 (.q 3 (.q 4 (.q 5 (.q 6 (.q 7 (.q 8 (.one 9 (.q 10 (.q 11 (.q 12 (.q 13 .fin)))))))))))))) [4, 5]) .leaf))) (Try.f52.body.getD .skip) [a0, a1] w R by kernel_rfl) h)

/-! ### 53: (*handbill/txn.Txn).Scan -/
def sh53 (a0 a1 a2 : Value) (w : World) (R : Value → World → Prop) : Prop :=
 RunV Try.prog (Instr.box 72 a0) w fun t3_1 w =>
 RunV Try.prog (Instr.box 9 a1) w fun t4_2 w =>
 RunV Try.prog (Instr.box 9 a2) w fun t5_3 w =>
 RunV Try.prog (Instr.makeFunc (Go.Fn.func 93) #[] #[t3_1, t4_2, t5_3]) w fun t7_4 w =>
 R t7_4 w
theorem sh53_calls {a0 a1 a2 : Value} {w : World} {R : Value → World → Prop} (h : sh53 a0 a1 a2 w R) : CallF Try.prog 53 #[a0, a1, a2] w R :=
  calls_of_denF (mk := false) (args := [a0, a1, a2]) (an := (.seq (.ops [3, 4, 5]) (.seq (.ops [6]) .leaf))) (c := Try.f53.body.getD .skip) hentD Try.func53 rfl (Nat.le_of_ble_eq_true (by kernel_rfl))
    (Eq.mp (show sh53 a0 a1 a2 w R = denF Try.prog entD false Try.f53 (.seq (.ops [3, 4, 5]) (.seq (.ops [6]) .leaf)) (Try.f53.body.getD .skip) [a0, a1, a2] w R by kernel_rfl) h)

/-! ### 54: (*handbill/txn.Txn).Prefix -/
def sh54 (a0 a1 : Value) (w : World) (R : Value → World → Prop) : Prop :=
 RunV Try.prog (Instr.box 72 a0) w fun t2_1 w =>
 RunV Try.prog (Instr.box 9 a1) w fun t3_2 w =>
 RunV Try.prog (Instr.makeFunc (Go.Fn.func 97) #[] #[t2_1, t3_2]) w fun t5_3 w =>
 R t5_3 w
theorem sh54_calls {a0 a1 : Value} {w : World} {R : Value → World → Prop} (h : sh54 a0 a1 w R) : CallF Try.prog 54 #[a0, a1] w R :=
  calls_of_denF (mk := false) (args := [a0, a1]) (an := (.seq (.ops [2, 3]) (.seq (.ops [4]) .leaf))) (c := Try.f54.body.getD .skip) hentD Try.func54 rfl (Nat.le_of_ble_eq_true (by kernel_rfl))
    (Eq.mp (show sh54 a0 a1 w R = denF Try.prog entD false Try.f54 (.seq (.ops [2, 3]) (.seq (.ops [4]) .leaf)) (Try.f54.body.getD .skip) [a0, a1] w R by kernel_rfl) h)

/-! ### 55: handbill/hblref.Writes -/
def sh55 (a0 a1 : Value) (w : World) (R : Value → World → Prop) : Prop :=
 RunW Try.prog (Builtin.len_ #[84] 3 #[a0]) w fun t7_1 =>
 RunW Try.prog (Builtin.len_ #[84] 3 #[a1]) w fun t9_2 =>
 RunW Try.prog (bin .neq 3 (.tmp 7) (.tmp 9) t7_1 t9_2) w fun t10_3 =>
 IfB t10_3 (
 R (.bool false) w) (
 lp 1 (fun n_5 t5_4 w =>
 RunW Try.prog (Builtin.len_ #[84] 3 #[a0]) w fun t13_6 =>
 RunA Try.prog (bin .lss 3 (.tmp 11) (.tmp 13) t5_4 t13_6) fun t14_7 =>
 IfB t14_7 (
 drw (fun S_8 w =>
 RunA Try.prog (Instr.indexAt 84 a0 t5_4) fun t19_9 =>
 RunA Try.prog (Instr.fieldAt 86 t19_9 0) fun t20_10 =>
 RunS Try.prog S_8 (Instr.loadAt 9 t20_10) fun t21_11 =>
 RunA Try.prog (Instr.indexAt 84 a1 t5_4) fun t24_12 =>
 RunA Try.prog (Instr.fieldAt 86 t24_12 0) fun t25_13 =>
 RunS Try.prog S_8 (Instr.loadAt 9 t25_13) fun t26_14 =>
 RunS Try.prog S_8 (bin .neq 9 (.tmp 21) (.tmp 26) t21_11 t26_14) fun t27_15 =>
 IfB t27_15 (
 R (.bool false) w) (
 RunA Try.prog (Instr.indexAt 84 a0 t5_4) fun t31_16 =>
 RunA Try.prog (Instr.fieldAt 86 t31_16 1) fun t32_17 =>
 RunS Try.prog S_8 (Instr.loadAt 9 t32_17) fun t33_18 =>
 RunA Try.prog (Instr.indexAt 84 a1 t5_4) fun t36_19 =>
 RunA Try.prog (Instr.fieldAt 86 t36_19 1) fun t37_20 =>
 RunS Try.prog S_8 (Instr.loadAt 9 t37_20) fun t38_21 =>
 RunS Try.prog S_8 (bin .neq 9 (.tmp 33) (.tmp 38) t33_18 t38_21) fun t39_22 =>
 IfB t39_22 (
 R (.bool false) w) (
 RunA Try.prog (Instr.indexAt 84 a0 t5_4) fun t44_23 =>
 RunA Try.prog (Instr.fieldAt 86 t44_23 2) fun t45_24 =>
 RunS Try.prog S_8 (Instr.loadAt 4 t45_24) fun t46_25 =>
 RunA Try.prog (Instr.indexAt 84 a1 t5_4) fun t49_26 =>
 RunA Try.prog (Instr.fieldAt 86 t49_26 2) fun t50_27 =>
 RunS Try.prog S_8 (Instr.loadAt 4 t50_27) fun t51_28 =>
 RunS Try.prog S_8 (bin .neq 4 (.tmp 46) (.tmp 51) t46_25 t51_28) fun t52_29 =>
 IfB t52_29 (
 R (.bool false) w) (
 RunA Try.prog (bin .add 3 (.tmp 15) (.const (.int .i64 1)) t5_4 (.int .i64 1)) fun t16_30 =>
 (a0 : Value) = a0 ∧ ((a1 : Value) = a1 ∧ (n_5 t16_30 w)))))) w) (
 R (.bool true) w)) [(.int .i64 0)] w)
theorem sh55_calls {a0 a1 : Value} {w : World} {R : Value → World → Prop} (h : sh55 a0 a1 w R) : CallF Try.prog 55 #[a0, a1] w R :=
  calls_of_denF (mk := false) (args := [a0, a1]) (an := (.seq (.ops [0, 1]) (.seq (.seq (.ops [0, 1, 10]) (.cond (.seq (.ops [4]) .leaf) .leaf)) (.seq (.seq (.ops [0, 1, 5]) (.blk (.loop [0, 1] [5] (.seq (.seq (.ops [0, 1, 5, 14]) (.cond .leaf .leaf)) (.seq (.blk (.seq (.draw (.q 0 (.q 1 (.q 2 (.q 3 (.q 4 (.q 5 (.q 6 (.q 7 (.q 8 (.q 9 (.q 10 (.q 11 (.sp 12 (.q 12 (.q 13 (.q 14 (.q 15 (.q 16 (.q 17 (.q 18 (.q 19 (.q 20 (.q 21 (.q 22 (.q 23 (.q 24 (.q 25 (.q 26 (.q 27 (.q 28 (.q 29 (.q 30 (.q 31 (.q 32 (.q 33 (.q 34 (.q 35 (.q 36 .fin))))))))))))))))))))))))) (.q 12 (.q 13 (.q 14 (.q 15 (.q 16 (.q 17 (.q 18 (.q 19 (.q 20 (.q 21 (.q 22 (.q 23 (.q 24 (.sp 25 (.q 25 (.q 26 (.q 27 (.q 28 (.q 29 (.q 30 (.q 31 (.q 32 (.q 33 (.q 34 (.q 35 (.q 36 .fin)))))))))))) (.q 25 (.q 26 (.q 27 (.q 28 (.q 29 (.q 30 (.q 31 (.q 32 (.q 33 (.q 34 (.q 35 (.q 36 .fin))))))))))))))))))))))))))))))))))))))) [0, 1, 5, 53]) (.cond (.seq (.ops [4]) .leaf) .leaf))) (.ops [0, 1, 5])))))) (.seq (.ops [4]) .leaf))))) (c := Try.f55.body.getD .skip) hentD Try.func55 rfl (Nat.le_of_ble_eq_true (by kernel_rfl))
    (Eq.mp (show sh55 a0 a1 w R = denF Try.prog entD false Try.f55 (.seq (.ops [0, 1]) (.seq (.seq (.ops [0, 1, 10]) (.cond (.seq (.ops [4]) .leaf) .leaf)) (.seq (.seq (.ops [0, 1, 5]) (.blk (.loop [0, 1] [5] (.seq (.seq (.ops [0, 1, 5, 14]) (.cond .leaf .leaf)) (.seq (.blk (.seq (.draw (.q 0 (.q 1 (.q 2 (.q 3 (.q 4 (.q 5 (.q 6 (.q 7 (.q 8 (.q 9 (.q 10 (.q 11 (.sp 12 (.q 12 (.q 13 (.q 14 (.q 15 (.q 16 (.q 17 (.q 18 (.q 19 (.q 20 (.q 21 (.q 22 (.q 23 (.q 24 (.q 25 (.q 26 (.q 27 (.q 28 (.q 29 (.q 30 (.q 31 (.q 32 (.q 33 (.q 34 (.q 35 (.q 36 .fin))))))))))))))))))))))))) (.q 12 (.q 13 (.q 14 (.q 15 (.q 16 (.q 17 (.q 18 (.q 19 (.q 20 (.q 21 (.q 22 (.q 23 (.q 24 (.sp 25 (.q 25 (.q 26 (.q 27 (.q 28 (.q 29 (.q 30 (.q 31 (.q 32 (.q 33 (.q 34 (.q 35 (.q 36 .fin)))))))))))) (.q 25 (.q 26 (.q 27 (.q 28 (.q 29 (.q 30 (.q 31 (.q 32 (.q 33 (.q 34 (.q 35 (.q 36 .fin))))))))))))))))))))))))))))))))))))))) [0, 1, 5, 53]) (.cond (.seq (.ops [4]) .leaf) .leaf))) (.ops [0, 1, 5])))))) (.seq (.ops [4]) .leaf)))) (Try.f55.body.getD .skip) [a0, a1] w R by kernel_rfl) h)

/-! ### 56: (*handbill/txn.Txn).Writes -/
def sh56 (a0 : Value) (w : World) (R : Value → World → Prop) : Prop :=
 RunV Try.prog (Instr.alloc 84 true (.tuple #[])) w fun t3_1 w =>
 RunA Try.prog (nilV a0) fun t7_2 =>
 RunA Try.prog (Instr.fieldAt 136 t7_2 2) fun t8_3 =>
 RunW Try.prog (Instr.loadAt 133 t8_3) w fun t9_4 =>
 CallF Try.prog 99 #[t9_4] w fun t10_5 w =>
 rngP Try.prog none 2 2 (fun l_6 K_7 t11_13 t12_14 w =>
 RunV Try.prog (Instr.alloc 86 true (.tuple #[])) w fun t5_17 w =>
 RunU Try.prog (Instr.storeAt 86 t5_17 t12_14) w fun w =>
 K_7 t3_1 t5_17 w) (fun l_6 kn_8 ks_9 t3_15 t5_16 w =>
 RunW Try.prog (Instr.loadAt 84 t3_15) w fun t13_18 =>
 RunW Try.prog (Instr.loadAt 86 t5_16) w fun t14_19 =>
 RunV Try.prog (Instr.buildSlice 84 1 #[(0, t14_19)]) w fun t15_20 w =>
 RunV Try.prog (Builtin.append_ #[84, 84] 84 #[t13_18, t15_20]) w fun t16_21 w =>
 RunU Try.prog (Instr.storeAt 84 t3_15 t16_21) w fun w =>
 kn_8 w) t10_5 w (fun D_10 w =>
 RunW Try.prog (Instr.loadAt 84 t3_1) w fun t17_22 =>
 (w).heap[D_10]? = some (.deferred (some [])) ∧ (
 R t17_22 (w.putObj D_10 (.deferred none)))) (fun D_10 c_11 w => jumpK (fun i_12 w =>
 bif Nat.beq i_12 0 then (
 RunW Try.prog (Instr.loadAt 84 t3_1) w fun t17_23 =>
 (w).heap[D_10]? = some (.deferred (some [])) ∧ (
 R t17_23 (w.putObj D_10 (.deferred none)))) else (
 False)) (fun w =>
 (w).heap[D_10]? = some (.deferred (some [])) ∧ (
 False)) c_11 w)
theorem sh56_calls {a0 : Value} {w : World} {R : Value → World → Prop} (h : sh56 a0 w R) : CallF Try.prog 56 #[a0] w R :=
  calls_of_denF (mk := true) (args := [a0]) (an := (.seq (.ops [0]) (.seq (.ops [0, 3]) (.seq (.seq (.ops [3, 10]) (.blk (.rng [3, 5] (.ops [3, 5]) (.blk (.ops []))))) (.seq (.ops [2]) .leaf))))) (c := Try.f56.body.getD .skip) hentD Try.func56 rfl (Nat.le_of_ble_eq_true (by kernel_rfl))
    (Eq.mp (show sh56 a0 w R = denF Try.prog entD true Try.f56 (.seq (.ops [0]) (.seq (.ops [0, 3]) (.seq (.seq (.ops [3, 10]) (.blk (.rng [3, 5] (.ops [3, 5]) (.blk (.ops []))))) (.seq (.ops [2]) .leaf)))) (Try.f56.body.getD .skip) [a0] w R by kernel_rfl) h)

/-! ### 57: (*handbill/txn.Txn).Clash -/
def sh57 (a0 : Value) (w : World) (R : Value → World → Prop) : Prop :=
 RunV Try.prog (Instr.box 72 a0) w fun t1_1 w =>
 RunV Try.prog (Instr.alloc 4 true (.tuple #[])) w fun t2_2 w =>
 RunW Try.prog (Instr.loadAt 72 t1_1) w fun t4_3 =>
 RunA Try.prog (nilV t4_3) fun t5_4 =>
 RunA Try.prog (Instr.fieldAt 136 t5_4 2) fun t6_5 =>
 RunW Try.prog (Instr.loadAt 133 t6_5) w fun t7_6 =>
 CallF Try.prog 99 #[t7_6] w fun t8_7 w =>
 rngP Try.prog none 2 3 (fun l_8 K_9 t9_15 t10_16 w =>
 K_9 t1_1 t2_2 t9_15 w) (fun l_8 kn_10 ks_11 t1_17 t2_18 t3_19 w =>
 drw (fun S_20 w =>
 RunS Try.prog S_20 (Instr.loadAt 72 t1_17) fun t11_21 =>
 RunA Try.prog (nilV t11_21) fun t12_22 =>
 RunA Try.prog (Instr.fieldAt 136 t12_22 0) fun t13_23 =>
 RunS Try.prog S_20 (Instr.loadAt 35 t13_23) fun t14_24 =>
 RunS Try.prog S_20 (Instr.loadAt 72 t1_17) fun t17_25 =>
 RunA Try.prog (nilV t17_25) fun t18_26 =>
 RunA Try.prog (Instr.fieldAt 136 t18_26 1) fun t19_27 =>
 RunS Try.prog S_20 (Instr.loadAt 3 t19_27) fun t20_28 =>
 CallF Try.prog 32 #[t14_24, t3_19] w fun t16_29 w =>
 S_20 w ∧ (
 RunA Try.prog (bin .gtr 3 (.tmp 16) (.tmp 20) t16_29 t20_28) fun t21_30 =>
 IfB t21_30 (
 RunU Try.prog (Instr.storeAt 4 t2_18 (.bool true)) w fun w =>
 ks_11 .ret w) (
 kn_10 w))) w) t8_7 w (fun D_12 w =>
 RunU Try.prog (Instr.storeAt 4 t2_2 (.bool false)) w fun w =>
 (w).heap[D_12]? = some (.deferred (some [])) ∧ (
 RunW Try.prog (Instr.loadAt 4 t2_2) (w.putObj D_12 (.deferred none)) fun t2_31 =>
 R t2_31 (w.putObj D_12 (.deferred none)))) (fun D_12 c_13 w => jumpK (fun i_14 w =>
 bif Nat.beq i_14 0 then (
 RunU Try.prog (Instr.storeAt 4 t2_2 (.bool false)) w fun w =>
 (w).heap[D_12]? = some (.deferred (some [])) ∧ (
 RunW Try.prog (Instr.loadAt 4 t2_2) (w.putObj D_12 (.deferred none)) fun t2_32 =>
 R t2_32 (w.putObj D_12 (.deferred none)))) else (
 False)) (fun w =>
 (w).heap[D_12]? = some (.deferred (some [])) ∧ (
 RunW Try.prog (Instr.loadAt 4 t2_2) (w.putObj D_12 (.deferred none)) fun t2_33 =>
 R t2_33 (w.putObj D_12 (.deferred none)))) c_13 w)
theorem sh57_calls {a0 : Value} {w : World} {R : Value → World → Prop} (h : sh57 a0 w R) : CallF Try.prog 57 #[a0] w R :=
  calls_of_denF (mk := true) (args := [a0]) (an := (.seq (.ops [1, 2]) (.seq (.seq (.ops [1, 2, 8]) (.blk (.rng [1, 2, 3] (.ops [1, 2, 3]) (.blk (.seq (.draw (.q 0 (.q 1 (.q 2 (.q 3 (.q 4 (.q 6 (.q 7 (.q 8 (.q 9 (.one 5 (.q 10 .fin))))))))))) [2, 21]) (.cond (.seq (.ops []) .leaf) .leaf)))))) (.seq (.ops [2]) .leaf)))) (c := Try.f57.body.getD .skip) hentD Try.func57 rfl (Nat.le_of_ble_eq_true (by kernel_rfl))
    (Eq.mp (show sh57 a0 w R = denF Try.prog entD true Try.f57 (.seq (.ops [1, 2]) (.seq (.seq (.ops [1, 2, 8]) (.blk (.rng [1, 2, 3] (.ops [1, 2, 3]) (.blk (.seq (.draw (.q 0 (.q 1 (.q 2 (.q 3 (.q 4 (.q 6 (.q 7 (.q 8 (.q 9 (.one 5 (.q 10 .fin))))))))))) [2, 21]) (.cond (.seq (.ops []) .leaf) .leaf)))))) (.seq (.ops [2]) .leaf))) (Try.f57.body.getD .skip) [a0] w R by kernel_rfl) h)

/-! ### 58: (*handbill/txn.Txn).At -/
def sh58 (a0 : Value) (w : World) (R : Value → World → Prop) : Prop :=
 RunA Try.prog (nilV a0) fun t4_1 =>
 RunA Try.prog (Instr.fieldAt 136 t4_1 1) fun t5_2 =>
 RunW Try.prog (Instr.loadAt 3 t5_2) w fun t6_3 =>
 R t6_3 w
theorem sh58_calls {a0 : Value} {w : World} {R : Value → World → Prop} (h : sh58 a0 w R) : CallF Try.prog 58 #[a0] w R :=
  calls_of_denF (mk := false) (args := [a0]) (an := (.seq (.ops [0]) (.seq (.ops [2]) .leaf))) (c := Try.f58.body.getD .skip) hentD Try.func58 rfl (Nat.le_of_ble_eq_true (by kernel_rfl))
    (Eq.mp (show sh58 a0 w R = denF Try.prog entD false Try.f58 (.seq (.ops [0]) (.seq (.ops [2]) .leaf)) (Try.f58.body.getD .skip) [a0] w R by kernel_rfl) h)

/-! ### 59: handbill/hblref11.Begin -/
def sh59 (a0 a1 : Value) (w : World) (R : Value → World → Prop) : Prop :=
 RunV Try.prog (Instr.build 146 #[(0, a0), (1, a1)]) w fun t7_1 w =>
 RunV Try.prog (Instr.box 146 t7_1) w fun t8_2 w =>
 R t8_2 w
theorem sh59_calls {a0 a1 : Value} {w : World} {R : Value → World → Prop} (h : sh59 a0 a1 w R) : CallF Try.prog 59 #[a0, a1] w R :=
  calls_of_denF (mk := false) (args := [a0, a1]) (an := (.seq (.ops [0, 1]) (.seq (.ops [4]) .leaf))) (c := Try.f59.body.getD .skip) hentD Try.func59 rfl (Nat.le_of_ble_eq_true (by kernel_rfl))
    (Eq.mp (show sh59 a0 a1 w R = denF Try.prog entD false Try.f59 (.seq (.ops [0, 1]) (.seq (.ops [4]) .leaf)) (Try.f59.body.getD .skip) [a0, a1] w R by kernel_rfl) h)

/-! ### 60: (*handbill/hblref11.Txn).Put -/
def sh60 (a0 a1 a2 : Value) (w : World) (R : Value → World → Prop) : Prop :=
 RunV Try.prog (Instr.build 86 #[(0, a1), (1, a2)]) w fun t10_1 w =>
 CallF Try.prog 100 #[a0, t10_1] w fun t11_2 w =>
 R t11_2 w
theorem sh60_calls {a0 a1 a2 : Value} {w : World} {R : Value → World → Prop} (h : sh60 a0 a1 a2 w R) : CallF Try.prog 60 #[a0, a1, a2] w R :=
  calls_of_denF (mk := false) (args := [a0, a1, a2]) (an := (.seq (.ops [0, 1, 2]) (.seq (.ops [6]) .leaf))) (c := Try.f60.body.getD .skip) hentD Try.func60 rfl (Nat.le_of_ble_eq_true (by kernel_rfl))
    (Eq.mp (show sh60 a0 a1 a2 w R = denF Try.prog entD false Try.f60 (.seq (.ops [0, 1, 2]) (.seq (.ops [6]) .leaf)) (Try.f60.body.getD .skip) [a0, a1, a2] w R by kernel_rfl) h)

/-! ### 61: (*handbill/hblref11.Txn).Delete -/
def sh61 (a0 a1 : Value) (w : World) (R : Value → World → Prop) : Prop :=
 RunV Try.prog (Instr.build 86 #[(0, a1), (2, (.bool true))]) w fun t7_1 w =>
 CallF Try.prog 100 #[a0, t7_1] w fun t8_2 w =>
 R t8_2 w
theorem sh61_calls {a0 a1 : Value} {w : World} {R : Value → World → Prop} (h : sh61 a0 a1 w R) : CallF Try.prog 61 #[a0, a1] w R :=
  calls_of_denF (mk := false) (args := [a0, a1]) (an := (.seq (.ops [0, 1]) (.seq (.ops [4]) .leaf))) (c := Try.f61.body.getD .skip) hentD Try.func61 rfl (Nat.le_of_ble_eq_true (by kernel_rfl))
    (Eq.mp (show sh61 a0 a1 w R = denF Try.prog entD false Try.f61 (.seq (.ops [0, 1]) (.seq (.ops [4]) .leaf)) (Try.f61.body.getD .skip) [a0, a1] w R by kernel_rfl) h)

/-! ### 62: (*handbill/hblref11.Txn).Get -/
def sh62 (a0 a1 : Value) (w : World) (R : Value → World → Prop) : Prop :=
 lp 1 (fun n_2 t6_1 w =>
 RunA Try.prog (nilV a0) fun t9_3 =>
 RunA Try.prog (Instr.fieldAt 146 t9_3 2) fun t10_4 =>
 RunW Try.prog (Instr.loadAt 84 t10_4) w fun t11_5 =>
 RunW Try.prog (Builtin.len_ #[84] 3 #[t11_5]) w fun t12_6 =>
 RunA Try.prog (bin .lss 3 (.tmp 7) (.tmp 12) t6_1 t12_6) fun t13_7 =>
 IfB t13_7 (
 RunA Try.prog (nilV a0) fun t17_8 =>
 RunA Try.prog (Instr.fieldAt 146 t17_8 2) fun t18_9 =>
 RunW Try.prog (Instr.loadAt 84 t18_9) w fun t19_10 =>
 RunA Try.prog (Instr.indexAt 84 t19_10 t6_1) fun t21_11 =>
 RunA Try.prog (Instr.fieldAt 86 t21_11 0) fun t22_12 =>
 RunW Try.prog (Instr.loadAt 9 t22_12) w fun t23_13 =>
 RunW Try.prog (bin .eql 9 (.tmp 23) (.tmp 24) t23_13 a1) w fun t25_14 =>
 IfB t25_14 (
 drw (fun S_15 w =>
 RunA Try.prog (nilV a0) fun t27_16 =>
 RunA Try.prog (Instr.fieldAt 146 t27_16 2) fun t28_17 =>
 RunS Try.prog S_15 (Instr.loadAt 84 t28_17) fun t29_18 =>
 RunA Try.prog (Instr.indexAt 84 t29_18 t6_1) fun t31_19 =>
 RunA Try.prog (Instr.fieldAt 86 t31_19 1) fun t32_20 =>
 RunS Try.prog S_15 (Instr.loadAt 9 t32_20) fun t33_21 =>
 RunA Try.prog (nilV a0) fun t35_22 =>
 RunA Try.prog (Instr.fieldAt 146 t35_22 2) fun t36_23 =>
 RunS Try.prog S_15 (Instr.loadAt 84 t36_23) fun t37_24 =>
 RunA Try.prog (Instr.indexAt 84 t37_24 t6_1) fun t39_25 =>
 RunA Try.prog (Instr.fieldAt 86 t39_25 2) fun t40_26 =>
 RunS Try.prog S_15 (Instr.loadAt 4 t40_26) fun t41_27 =>
 RunA Try.prog (Op.unary .not t41_27) fun t42_28 =>
 R (.tuple #[t33_21, t42_28]) w) w) (
 RunA Try.prog (bin .add 3 (.tmp 14) (.const (.int .i64 1)) t6_1 (.int .i64 1)) fun t15_29 =>
 (a0 : Value) = a0 ∧ ((a1 : Value) = a1 ∧ (n_2 t15_29 w)))) (
 drw (fun S_30 w =>
 RunA Try.prog (nilV a0) fun t44_31 =>
 RunA Try.prog (Instr.fieldAt 146 t44_31 0) fun t45_32 =>
 RunS Try.prog S_30 (Instr.loadAt 60 t45_32) fun t46_33 =>
 RunA Try.prog (nilV a0) fun t49_34 =>
 RunA Try.prog (Instr.fieldAt 146 t49_34 1) fun t50_35 =>
 RunS Try.prog S_30 (Instr.loadAt 3 t50_35) fun t51_36 =>
 CallF Try.prog 43 #[t46_33, a1, t51_36] w fun t52_37 w =>
 RunA Try.prog (Instr.extract t52_37 0) fun t53_38 =>
 RunA Try.prog (Instr.extract t52_37 1) fun t54_39 =>
 R (.tuple #[t53_38, t54_39]) w) w)) [(.int .i64 0)] w
theorem sh62_calls {a0 a1 : Value} {w : World} {R : Value → World → Prop} (h : sh62 a0 a1 w R) : CallF Try.prog 62 #[a0, a1] w R :=
  calls_of_denF (mk := false) (args := [a0, a1]) (an := (.seq (.ops [0, 1]) (.seq (.seq (.ops [0, 1, 6]) (.blk (.loop [0, 1] [6] (.seq (.seq (.ops [0, 1, 6, 13]) (.cond .leaf .leaf)) (.seq (.blk (.seq (.ops [0, 1, 6, 25]) (.cond (.seq (.draw (.q 0 (.q 1 (.q 2 (.q 3 (.q 4 (.q 5 (.q 6 (.q 7 (.q 8 (.q 9 (.q 10 (.q 11 (.q 12 (.q 13 (.q 14 (.q 15 (.q 16 (.q 17 (.q 18 .fin))))))))))))))))))) [4, 5]) .leaf) .leaf))) (.ops [0, 1, 6])))))) (.seq (.draw (.q 0 (.q 1 (.q 2 (.q 3 (.q 4 (.q 5 (.q 6 (.q 7 (.q 8 (.one 9 (.q 10 (.q 11 (.q 12 (.q 13 .fin)))))))))))))) [4, 5]) .leaf)))) (c := Try.f62.body.getD .skip) hentD Try.func62 rfl (Nat.le_of_ble_eq_true (by kernel_rfl))
    (Eq.mp (show sh62 a0 a1 w R = denF Try.prog entD false Try.f62 (.seq (.ops [0, 1]) (.seq (.seq (.ops [0, 1, 6]) (.blk (.loop [0, 1] [6] (.seq (.seq (.ops [0, 1, 6, 13]) (.cond .leaf .leaf)) (.seq (.blk (.seq (.ops [0, 1, 6, 25]) (.cond (.seq (.draw (.q 0 (.q 1 (.q 2 (.q 3 (.q 4 (.q 5 (.q 6 (.q 7 (.q 8 (.q 9 (.q 10 (.q 11 (.q 12 (.q 13 (.q 14 (.q 15 (.q 16 (.q 17 (.q 18 .fin))))))))))))))))))) [4, 5]) .leaf) .leaf))) (.ops [0, 1, 6])))))) (.seq (.draw (.q 0 (.q 1 (.q 2 (.q 3 (.q 4 (.q 5 (.q 6 (.q 7 (.q 8 (.one 9 (.q 10 (.q 11 (.q 12 (.q 13 .fin)))))))))))))) [4, 5]) .leaf))) (Try.f62.body.getD .skip) [a0, a1] w R by kernel_rfl) h)

/-! ### 63: (*handbill/hblref11.Txn).Prefix -/
def sh63 (a0 a1 : Value) (w : World) (R : Value → World → Prop) : Prop :=
 CallF Try.prog 64 #[a0, a1, (.string ⟨#[]⟩)] w fun t10_1 w =>
 jn 1 (fun t6_2 w =>
 R t6_2 w) fun j_3 =>
 lp 2 (fun n_6 t6_4 t7_5 w =>
 RunW Try.prog (Builtin.len_ #[41] 3 #[t10_1]) w fun t13_7 =>
 RunA Try.prog (bin .lss 3 (.tmp 11) (.tmp 13) t7_5 t13_7) fun t14_8 =>
 IfB t14_8 (
 RunA Try.prog (Instr.indexAt 41 t10_1 t7_5) fun t19_9 =>
 RunA Try.prog (Instr.fieldAt 50 t19_9 0) fun t20_10 =>
 RunW Try.prog (Instr.loadAt 9 t20_10) w fun t21_11 =>
 RunW Try.prog (Builtin.len_ #[9] 3 #[t21_11]) w fun t22_12 =>
 RunW Try.prog (Builtin.len_ #[9] 3 #[a1]) w fun t24_13 =>
 RunA Try.prog (bin .lss 3 (.tmp 22) (.tmp 24) t22_12 t24_13) fun t25_14 =>
 IfB t25_14 (
 j_3 t6_4 w) (
 RunA Try.prog (Instr.indexAt 41 t10_1 t7_5) fun t29_15 =>
 RunA Try.prog (Instr.fieldAt 50 t29_15 0) fun t30_16 =>
 RunW Try.prog (Instr.loadAt 9 t30_16) w fun t31_17 =>
 RunW Try.prog (Builtin.len_ #[9] 3 #[a1]) w fun t33_18 =>
 RunA Try.prog (Instr.sliceAt 9 t31_17 none (some t33_18) none) fun t34_19 =>
 RunW Try.prog (bin .neq 9 (.tmp 34) (.tmp 35) t34_19 a1) w fun t36_20 =>
 IfB t36_20 (
 j_3 t6_4 w) (
 RunA Try.prog (Instr.indexAt 41 t10_1 t7_5) fun t41_21 =>
 RunW Try.prog (Instr.loadAt 50 t41_21) w fun t42_22 =>
 RunV Try.prog (Instr.buildSlice 41 1 #[(0, t42_22)]) w fun t43_23 w =>
 RunV Try.prog (Builtin.append_ #[41, 41] 41 #[t6_4, t43_23]) w fun t44_24 w =>
 RunA Try.prog (bin .add 3 (.tmp 15) (.const (.int .i64 1)) t7_5 (.int .i64 1)) fun t16_25 =>
 (a1 : Value) = a1 ∧ ((t10_1 : Value) = t10_1 ∧ (n_6 t44_24 t16_25 w))))) (
 j_3 t6_4 w)) [(.slice none 0 0), (.int .i64 0)] w
theorem sh63_calls {a0 a1 : Value} {w : World} {R : Value → World → Prop} (h : sh63 a0 a1 w R) : CallF Try.prog 63 #[a0, a1] w R :=
  calls_of_denF (mk := false) (args := [a0, a1]) (an := (.seq (.ops [0, 1]) (.seq (.ops [1, 5]) (.seq (.ops [1, 5, 6]) (.seq (.seq (.ops [1, 5, 6, 7]) (.join [6] (.blk (.loop [1, 5] [6, 7] (.seq (.seq (.ops [1, 5, 6, 7, 14]) (.cond .leaf .leaf)) (.seq (.blk (.seq (.seq (.ops [1, 5, 6, 7, 37]) (.cond .leaf .leaf)) (.ops [1, 5, 6, 7]))) (.ops [1, 5, 6, 7]))))))) (.seq (.ops [4]) .leaf)))))) (c := Try.f63.body.getD .skip) hentD Try.func63 rfl (Nat.le_of_ble_eq_true (by kernel_rfl))
    (Eq.mp (show sh63 a0 a1 w R = denF Try.prog entD false Try.f63 (.seq (.ops [0, 1]) (.seq (.ops [1, 5]) (.seq (.ops [1, 5, 6]) (.seq (.seq (.ops [1, 5, 6, 7]) (.join [6] (.blk (.loop [1, 5] [6, 7] (.seq (.seq (.ops [1, 5, 6, 7, 14]) (.cond .leaf .leaf)) (.seq (.blk (.seq (.seq (.ops [1, 5, 6, 7, 37]) (.cond .leaf .leaf)) (.ops [1, 5, 6, 7]))) (.ops [1, 5, 6, 7]))))))) (.seq (.ops [4]) .leaf))))) (Try.f63.body.getD .skip) [a0, a1] w R by kernel_rfl) h)

/-! ### 64: (*handbill/hblref11.Txn).Scan -/
def sh64 (a0 a1 a2 : Value) (w : World) (R : Value → World → Prop) : Prop :=
 drw (fun S_1 w =>
 RunA Try.prog (nilV a0) fun t13_2 =>
 RunA Try.prog (Instr.fieldAt 146 t13_2 0) fun t14_3 =>
 RunS Try.prog S_1 (Instr.loadAt 60 t14_3) fun t15_4 =>
 RunA Try.prog (nilV a0) fun t19_5 =>
 RunA Try.prog (Instr.fieldAt 146 t19_5 1) fun t20_6 =>
 RunS Try.prog S_1 (Instr.loadAt 3 t20_6) fun t21_7 =>
 CallF Try.prog 44 #[t15_4, a1, a2, t21_7] w fun t22_8 w =>
 lp 3 (fun n_12 t8_9 t9_10 t10_11 w =>
 RunW Try.prog (Builtin.len_ #[41] 3 #[t22_8]) w fun t25_13 =>
 RunA Try.prog (bin .leq 3 (.tmp 23) (.tmp 25) t10_11 t25_13) fun t26_14 =>
 IfB t26_14 (
 jn 7 (fun t0_15 t1_16 t2_17 t7_18 t8_19 t9_20 t10_21 w =>
 jn 7 (fun t0_23 t1_24 t2_25 t7_26 t8_27 t9_28 t10_29 w =>
 RunA Try.prog (bin .add 3 (.tmp 27) (.const (.int .i64 1)) t10_29 (.int .i64 1)) fun t28_31 =>
 (t0_23 : Value) = a0 ∧ ((t1_24 : Value) = a1 ∧ ((t2_25 : Value) = a2 ∧ ((t7_26 : Value) = t22_8 ∧ (n_12 t8_27 t9_28 t28_31 w))))) fun j_30 =>
 drw (fun S_32 w =>
 RunS Try.prog S_32 (Builtin.len_ #[41] 3 #[t7_18]) fun t96_33 =>
 RunA Try.prog (bin .lss 3 (.tmp 94) (.tmp 96) t10_21 t96_33) fun t97_34 =>
 IfB t97_34 (
 RunS Try.prog S_32 (bin .eql 3 (.tmp 99) (.const (.int .i64 0)) t9_20 (.int .i64 0)) fun t100_35 =>
 IfB t100_35 (
 RunA Try.prog (Instr.indexAt 41 t7_18 t10_21) fun t122_36 =>
 RunW Try.prog (Instr.loadAt 50 t122_36) w fun t123_37 =>
 RunV Try.prog (Instr.buildSlice 41 1 #[(0, t123_37)]) w fun t124_38 w =>
 RunV Try.prog (Builtin.append_ #[41, 41] 41 #[t8_19, t124_38]) w fun t125_39 w =>
 j_30 t0_15 t1_16 t2_17 t7_18 t125_39 t9_20 t10_21 w) (
 RunA Try.prog (nilV t0_15) fun t103_40 =>
 RunA Try.prog (Instr.fieldAt 146 t103_40 2) fun t104_41 =>
 RunS Try.prog S_32 (Instr.loadAt 84 t104_41) fun t105_42 =>
 RunA Try.prog (bin .sub 3 (.tmp 106) (.const (.int .i64 1)) t9_20 (.int .i64 1)) fun t107_43 =>
 RunA Try.prog (Instr.indexAt 84 t105_42 t107_43) fun t108_44 =>
 RunA Try.prog (Instr.fieldAt 86 t108_44 0) fun t109_45 =>
 RunS Try.prog S_32 (Instr.loadAt 9 t109_45) fun t110_46 =>
 RunA Try.prog (Instr.indexAt 41 t7_18 t10_21) fun t113_47 =>
 RunA Try.prog (Instr.fieldAt 50 t113_47 0) fun t114_48 =>
 RunS Try.prog S_32 (Instr.loadAt 9 t114_48) fun t115_49 =>
 RunS Try.prog S_32 (bin .neq 9 (.tmp 110) (.tmp 115) t110_46 t115_49) fun t116_50 =>
 IfB t116_50 (
 RunA Try.prog (Instr.indexAt 41 t7_18 t10_21) fun t122_51 =>
 RunW Try.prog (Instr.loadAt 50 t122_51) w fun t123_52 =>
 RunV Try.prog (Instr.buildSlice 41 1 #[(0, t123_52)]) w fun t124_53 w =>
 RunV Try.prog (Builtin.append_ #[41, 41] 41 #[t8_19, t124_53]) w fun t125_54 w =>
 j_30 t0_15 t1_16 t2_17 t7_18 t125_54 t9_20 t10_21 w) (
 j_30 t0_15 t1_16 t2_17 t7_18 t8_19 t9_20 t10_21 w))) (
 j_30 t0_15 t1_16 t2_17 t7_18 t8_19 t9_20 t10_21 w)) w) fun j_22 =>
 lp 2 (fun n_57 t8_55 t9_56 w =>
 jn 7 (fun t0_58 t1_59 t2_60 t7_61 t8_62 t9_63 t10_64 w =>
 RunA Try.prog (nilV t0_58) fun t59_66 =>
 RunA Try.prog (Instr.fieldAt 146 t59_66 2) fun t60_67 =>
 RunW Try.prog (Instr.loadAt 84 t60_67) w fun t61_68 =>
 RunA Try.prog (Instr.indexAt 84 t61_68 t9_63) fun t63_69 =>
 RunW Try.prog (Instr.loadAt 86 t63_69) w fun t64_70 =>
 RunV Try.prog (Instr.alloc 86 true (.tuple #[])) w fun t11_71 w =>
 RunU Try.prog (Instr.storeAt 86 t11_71 t64_70) w fun w =>
 jn 7 (fun t0_72 t1_73 t2_74 t7_75 t8_76 t9_77 t10_78 w =>
 RunA Try.prog (bin .add 3 (.tmp 92) (.const (.int .i64 1)) t9_77 (.int .i64 1)) fun t93_80 =>
 (t0_72 : Value) = a0 ∧ ((t1_73 : Value) = a1 ∧ ((t2_74 : Value) = a2 ∧ ((t7_75 : Value) = t22_8 ∧ ((t10_78 : Value) = t10_11 ∧ (n_57 t8_76 t93_80 w)))))) fun j_79 =>
 RunA Try.prog (Instr.fieldAt 86 t11_71 2) fun t65_81 =>
 RunW Try.prog (Instr.loadAt 4 t65_81) w fun t66_82 =>
 RunA Try.prog (Op.unary .not t66_82) fun t67_83 =>
 IfB t67_83 (
 RunA Try.prog (Instr.fieldAt 86 t11_71 0) fun t69_84 =>
 RunW Try.prog (Instr.loadAt 9 t69_84) w fun t70_85 =>
 RunA Try.prog (bin .geq 9 (.tmp 70) (.tmp 71) t70_85 t1_59) fun t72_86 =>
 IfB t72_86 (
 RunW Try.prog (bin .eql 9 (.tmp 75) (.const (.string ⟨#[]⟩)) t2_60 (.string ⟨#[]⟩)) w fun t76_87 =>
 IfB t76_87 (
 RunA Try.prog (Instr.fieldAt 86 t11_71 0) fun t85_88 =>
 RunW Try.prog (Instr.loadAt 9 t85_88) w fun t86_89 =>
 RunA Try.prog (Instr.fieldAt 86 t11_71 1) fun t87_90 =>
 RunW Try.prog (Instr.loadAt 9 t87_90) w fun t88_91 =>
 RunV Try.prog (Instr.build 50 #[(0, t86_89), (1, t88_91)]) w fun t89_92 w =>
 RunV Try.prog (Instr.buildSlice 41 1 #[(0, t89_92)]) w fun t90_93 w =>
 RunV Try.prog (Builtin.append_ #[41, 41] 41 #[t8_62, t90_93]) w fun t91_94 w =>
 j_79 t0_58 t1_59 t2_60 t7_61 t91_94 t9_63 t10_64 w) (
 RunA Try.prog (Instr.fieldAt 86 t11_71 0) fun t78_95 =>
 RunW Try.prog (Instr.loadAt 9 t78_95) w fun t79_96 =>
 RunA Try.prog (bin .lss 9 (.tmp 79) (.tmp 80) t79_96 t2_60) fun t81_97 =>
 IfB t81_97 (
 RunA Try.prog (Instr.fieldAt 86 t11_71 0) fun t85_98 =>
 RunW Try.prog (Instr.loadAt 9 t85_98) w fun t86_99 =>
 RunA Try.prog (Instr.fieldAt 86 t11_71 1) fun t87_100 =>
 RunW Try.prog (Instr.loadAt 9 t87_100) w fun t88_101 =>
 RunV Try.prog (Instr.build 50 #[(0, t86_99), (1, t88_101)]) w fun t89_102 w =>
 RunV Try.prog (Instr.buildSlice 41 1 #[(0, t89_102)]) w fun t90_103 w =>
 RunV Try.prog (Builtin.append_ #[41, 41] 41 #[t8_62, t90_103]) w fun t91_104 w =>
 j_79 t0_58 t1_59 t2_60 t7_61 t91_104 t9_63 t10_64 w) (
 j_79 t0_58 t1_59 t2_60 t7_61 t8_62 t9_63 t10_64 w))) (
 j_79 t0_58 t1_59 t2_60 t7_61 t8_62 t9_63 t10_64 w)) (
 j_79 t0_58 t1_59 t2_60 t7_61 t8_62 t9_63 t10_64 w)) fun j_65 =>
 drw (fun S_105 w =>
 RunA Try.prog (nilV a0) fun t31_106 =>
 RunA Try.prog (Instr.fieldAt 146 t31_106 2) fun t32_107 =>
 RunS Try.prog S_105 (Instr.loadAt 84 t32_107) fun t33_108 =>
 RunS Try.prog S_105 (Builtin.len_ #[84] 3 #[t33_108]) fun t34_109 =>
 RunA Try.prog (bin .lss 3 (.tmp 29) (.tmp 34) t9_56 t34_109) fun t35_110 =>
 IfB t35_110 (
 RunS Try.prog S_105 (Builtin.len_ #[41] 3 #[t22_8]) fun t39_111 =>
 RunS Try.prog S_105 (bin .eql 3 (.tmp 37) (.tmp 39) t10_11 t39_111) fun t40_112 =>
 IfB t40_112 (
 j_65 a0 a1 a2 t22_8 t8_55 t9_56 t10_11 w) (
 RunA Try.prog (nilV a0) fun t43_113 =>
 RunA Try.prog (Instr.fieldAt 146 t43_113 2) fun t44_114 =>
 RunS Try.prog S_105 (Instr.loadAt 84 t44_114) fun t45_115 =>
 RunA Try.prog (Instr.indexAt 84 t45_115 t9_56) fun t47_116 =>
 RunA Try.prog (Instr.fieldAt 86 t47_116 0) fun t48_117 =>
 RunS Try.prog S_105 (Instr.loadAt 9 t48_117) fun t49_118 =>
 RunA Try.prog (Instr.indexAt 41 t22_8 t10_11) fun t52_119 =>
 RunA Try.prog (Instr.fieldAt 50 t52_119 0) fun t53_120 =>
 RunS Try.prog S_105 (Instr.loadAt 9 t53_120) fun t54_121 =>
 RunA Try.prog (bin .leq 9 (.tmp 49) (.tmp 54) t49_118 t54_121) fun t55_122 =>
 IfB t55_122 (
 j_65 a0 a1 a2 t22_8 t8_55 t9_56 t10_11 w) (
 j_22 a0 a1 a2 t22_8 t8_55 t9_56 t10_11 w))) (
 j_22 a0 a1 a2 t22_8 t8_55 t9_56 t10_11 w)) w) [t8_9, t9_10] w) (
 R t8_9 w)) [(.slice none 0 0), (.int .i64 0), (.int .i64 0)] w) w
theorem sh64_calls {a0 a1 a2 : Value} {w : World} {R : Value → World → Prop} (h : sh64 a0 a1 a2 w R) : CallF Try.prog 64 #[a0, a1, a2] w R :=
  calls_of_denF (mk := false) (args := [a0, a1, a2]) (an := (.seq (.ops [0, 1, 2]) (.seq (.draw (.q 0 (.q 1 (.q 2 (.q 3 (.q 4 (.q 5 (.q 6 (.q 7 (.q 8 (.q 9 (.one 10 (.q 11 .fin)))))))))))) [0, 1, 2, 7]) (.seq (.ops [0, 1, 2, 7, 8]) (.seq (.ops [0, 1, 2, 7, 8, 9]) (.seq (.seq (.ops [0, 1, 2, 7, 8, 9, 10]) (.blk (.loop [0, 1, 2, 7] [8, 9, 10] (.seq (.seq (.ops [0, 1, 2, 7, 8, 9, 10, 26]) (.cond .leaf .leaf)) (.seq (.blk (.seq (.join [0, 1, 2, 7, 8, 9, 10] (.blk (.loop [0, 1, 2, 7, 10] [8, 9] (.seq (.join [0, 1, 2, 7, 8, 9, 10] (.seq (.draw (.q 0 (.q 1 (.q 2 (.q 3 (.q 4 (.q 5 (.q 6 (.q 7 (.sp 8 (.q 8 (.q 9 (.q 10 (.q 11 (.q 12 (.sp 13 (.q 13 (.q 14 (.q 15 (.q 16 (.q 17 (.q 18 (.q 19 (.q 20 (.q 21 (.q 22 (.q 23 (.q 24 (.q 25 (.q 26 (.q 27 (.q 28 .fin)))))))))))))))) (.q 13 (.q 14 (.q 15 (.q 16 (.q 17 (.q 18 (.q 19 (.q 20 (.q 21 (.q 22 (.q 23 (.q 24 (.q 25 (.q 26 (.q 27 (.q 28 .fin)))))))))))))))))))))) (.q 8 (.q 9 (.q 10 (.q 11 (.q 12 (.q 13 (.q 14 (.q 15 (.q 16 (.q 17 (.q 18 (.q 19 (.q 20 (.q 21 (.q 22 (.q 23 (.q 24 (.q 25 (.q 26 (.q 27 (.q 28 .fin)))))))))))))))))))))))))))))) [0, 1, 2, 7, 8, 9, 10, 57]) (.cond .leaf .leaf))) (.blk (.seq (.ops [0, 1, 2, 7, 8, 9, 10, 11]) (.seq (.join [0, 1, 2, 7, 8, 9, 10] (.seq (.ops [0, 1, 2, 7, 8, 9, 10, 11, 83]) (.cond (.ops [0, 1, 2, 7, 8, 9, 10]) .leaf))) (.ops [0, 1, 2, 7, 8, 9, 10])))))))) (.join [0, 1, 2, 7, 8, 9, 10] (.seq (.draw (.q 0 (.q 1 (.q 2 (.q 3 (.q 4 (.sp 5 (.q 5 (.q 6 (.q 7 (.sp 8 (.q 8 (.q 9 (.q 10 (.q 11 (.q 12 (.q 13 (.q 14 (.q 15 (.q 16 (.q 17 (.q 18 (.q 19 (.q 20 (.q 21 (.q 22 (.q 23 (.q 24 .fin))))))))))))))))) (.q 8 (.q 9 (.q 10 (.q 11 (.q 12 (.q 13 (.q 14 (.q 15 (.q 16 (.q 17 (.q 18 (.q 19 (.q 20 (.q 21 (.q 22 (.q 23 (.q 24 .fin))))))))))))))))))))) (.q 5 (.q 6 (.q 7 (.q 8 (.q 9 (.q 10 (.q 11 (.q 12 (.q 13 (.q 14 (.q 15 (.q 16 (.q 17 (.q 18 (.q 19 (.q 20 (.q 21 (.q 22 (.q 23 (.q 24 .fin)))))))))))))))))))))))))) [0, 1, 2, 7, 8, 9, 10, 118]) (.cond (.ops [0, 1, 2, 7, 8, 9, 10]) .leaf))))) (.ops [0, 1, 2, 7, 8, 9, 10])))))) (.seq (.ops [6]) .leaf))))))) (c := Try.f64.body.getD .skip) hentD Try.func64 rfl (Nat.le_of_ble_eq_true (by kernel_rfl))
    (Eq.mp (show sh64 a0 a1 a2 w R = denF Try.prog entD false Try.f64 (.seq (.ops [0, 1, 2]) (.seq (.draw (.q 0 (.q 1 (.q 2 (.q 3 (.q 4 (.q 5 (.q 6 (.q 7 (.q 8 (.q 9 (.one 10 (.q 11 .fin)))))))))))) [0, 1, 2, 7]) (.seq (.ops [0, 1, 2, 7, 8]) (.seq (.ops [0, 1, 2, 7, 8, 9]) (.seq (.seq (.ops [0, 1, 2, 7, 8, 9, 10]) (.blk (.loop [0, 1, 2, 7] [8, 9, 10] (.seq (.seq (.ops [0, 1, 2, 7, 8, 9, 10, 26]) (.cond .leaf .leaf)) (.seq (.blk (.seq (.join [0, 1, 2, 7, 8, 9, 10] (.blk (.loop [0, 1, 2, 7, 10] [8, 9] (.seq (.join [0, 1, 2, 7, 8, 9, 10] (.seq (.draw (.q 0 (.q 1 (.q 2 (.q 3 (.q 4 (.q 5 (.q 6 (.q 7 (.sp 8 (.q 8 (.q 9 (.q 10 (.q 11 (.q 12 (.sp 13 (.q 13 (.q 14 (.q 15 (.q 16 (.q 17 (.q 18 (.q 19 (.q 20 (.q 21 (.q 22 (.q 23 (.q 24 (.q 25 (.q 26 (.q 27 (.q 28 .fin)))))))))))))))) (.q 13 (.q 14 (.q 15 (.q 16 (.q 17 (.q 18 (.q 19 (.q 20 (.q 21 (.q 22 (.q 23 (.q 24 (.q 25 (.q 26 (.q 27 (.q 28 .fin)))))))))))))))))))))) (.q 8 (.q 9 (.q 10 (.q 11 (.q 12 (.q 13 (.q 14 (.q 15 (.q 16 (.q 17 (.q 18 (.q 19 (.q 20 (.q 21 (.q 22 (.q 23 (.q 24 (.q 25 (.q 26 (.q 27 (.q 28 .fin)))))))))))))))))))))))))))))) [0, 1, 2, 7, 8, 9, 10, 57]) (.cond .leaf .leaf))) (.blk (.seq (.ops [0, 1, 2, 7, 8, 9, 10, 11]) (.seq (.join [0, 1, 2, 7, 8, 9, 10] (.seq (.ops [0, 1, 2, 7, 8, 9, 10, 11, 83]) (.cond (.ops [0, 1, 2, 7, 8, 9, 10]) .leaf))) (.ops [0, 1, 2, 7, 8, 9, 10])))))))) (.join [0, 1, 2, 7, 8, 9, 10] (.seq (.draw (.q 0 (.q 1 (.q 2 (.q 3 (.q 4 (.sp 5 (.q 5 (.q 6 (.q 7 (.sp 8 (.q 8 (.q 9 (.q 10 (.q 11 (.q 12 (.q 13 (.q 14 (.q 15 (.q 16 (.q 17 (.q 18 (.q 19 (.q 20 (.q 21 (.q 22 (.q 23 (.q 24 .fin))))))))))))))))) (.q 8 (.q 9 (.q 10 (.q 11 (.q 12 (.q 13 (.q 14 (.q 15 (.q 16 (.q 17 (.q 18 (.q 19 (.q 20 (.q 21 (.q 22 (.q 23 (.q 24 .fin))))))))))))))))))))) (.q 5 (.q 6 (.q 7 (.q 8 (.q 9 (.q 10 (.q 11 (.q 12 (.q 13 (.q 14 (.q 15 (.q 16 (.q 17 (.q 18 (.q 19 (.q 20 (.q 21 (.q 22 (.q 23 (.q 24 .fin)))))))))))))))))))))))))) [0, 1, 2, 7, 8, 9, 10, 118]) (.cond (.ops [0, 1, 2, 7, 8, 9, 10]) .leaf))))) (.ops [0, 1, 2, 7, 8, 9, 10])))))) (.seq (.ops [6]) .leaf)))))) (Try.f64.body.getD .skip) [a0, a1, a2] w R by kernel_rfl) h)

/-! ### 65: (*handbill/hblref11.Txn).Clash -/
def sh65 (a0 : Value) (w : World) (R : Value → World → Prop) : Prop :=
 lp 1 (fun n_2 t3_1 w =>
 RunA Try.prog (nilV a0) fun t6_3 =>
 RunA Try.prog (Instr.fieldAt 146 t6_3 2) fun t7_4 =>
 RunW Try.prog (Instr.loadAt 84 t7_4) w fun t8_5 =>
 RunW Try.prog (Builtin.len_ #[84] 3 #[t8_5]) w fun t9_6 =>
 RunA Try.prog (bin .lss 3 (.tmp 4) (.tmp 9) t3_1 t9_6) fun t10_7 =>
 IfB t10_7 (
 drw (fun S_8 w =>
 RunA Try.prog (nilV a0) fun t14_9 =>
 RunA Try.prog (Instr.fieldAt 146 t14_9 0) fun t15_10 =>
 RunS Try.prog S_8 (Instr.loadAt 60 t15_10) fun t16_11 =>
 RunA Try.prog (nilV a0) fun t18_12 =>
 RunA Try.prog (Instr.fieldAt 146 t18_12 2) fun t19_13 =>
 RunS Try.prog S_8 (Instr.loadAt 84 t19_13) fun t20_14 =>
 RunA Try.prog (Instr.indexAt 84 t20_14 t3_1) fun t22_15 =>
 RunA Try.prog (Instr.fieldAt 86 t22_15 0) fun t23_16 =>
 RunS Try.prog S_8 (Instr.loadAt 9 t23_16) fun t24_17 =>
 RunA Try.prog (nilV a0) fun t27_18 =>
 RunA Try.prog (Instr.fieldAt 146 t27_18 1) fun t28_19 =>
 RunS Try.prog S_8 (Instr.loadAt 3 t28_19) fun t29_20 =>
 CallF Try.prog 40 #[t16_11, t24_17] w fun t25_21 w =>
 S_8 w ∧ (
 RunA Try.prog (bin .gtr 3 (.tmp 25) (.tmp 29) t25_21 t29_20) fun t30_22 =>
 IfB t30_22 (
 R (.bool true) w) (
 RunA Try.prog (bin .add 3 (.tmp 11) (.const (.int .i64 1)) t3_1 (.int .i64 1)) fun t12_23 =>
 (a0 : Value) = a0 ∧ (n_2 t12_23 w)))) w) (
 R (.bool false) w)) [(.int .i64 0)] w
theorem sh65_calls {a0 : Value} {w : World} {R : Value → World → Prop} (h : sh65 a0 w R) : CallF Try.prog 65 #[a0] w R :=
  calls_of_denF (mk := false) (args := [a0]) (an := (.seq (.ops [0]) (.seq (.seq (.ops [0, 3]) (.blk (.loop [0] [3] (.seq (.seq (.ops [0, 3, 10]) (.cond .leaf .leaf)) (.seq (.blk (.seq (.draw (.q 0 (.q 1 (.q 2 (.q 3 (.q 4 (.q 5 (.q 6 (.q 7 (.q 8 (.q 9 (.q 10 (.q 11 (.q 13 (.q 14 (.q 15 (.q 16 (.one 12 (.q 17 .fin)))))))))))))))))) [0, 3, 30]) (.cond (.seq (.ops [2]) .leaf) .leaf))) (.ops [0, 3])))))) (.seq (.ops [2]) .leaf)))) (c := Try.f65.body.getD .skip) hentD Try.func65 rfl (Nat.le_of_ble_eq_true (by kernel_rfl))
    (Eq.mp (show sh65 a0 w R = denF Try.prog entD false Try.f65 (.seq (.ops [0]) (.seq (.seq (.ops [0, 3]) (.blk (.loop [0] [3] (.seq (.seq (.ops [0, 3, 10]) (.cond .leaf .leaf)) (.seq (.blk (.seq (.draw (.q 0 (.q 1 (.q 2 (.q 3 (.q 4 (.q 5 (.q 6 (.q 7 (.q 8 (.q 9 (.q 10 (.q 11 (.q 13 (.q 14 (.q 15 (.q 16 (.one 12 (.q 17 .fin)))))))))))))))))) [0, 3, 30]) (.cond (.seq (.ops [2]) .leaf) .leaf))) (.ops [0, 3])))))) (.seq (.ops [2]) .leaf))) (Try.f65.body.getD .skip) [a0] w R by kernel_rfl) h)

/-! ### 66: (*handbill/hblref11.Txn).Writes -/
def sh66 (a0 : Value) (w : World) (R : Value → World → Prop) : Prop :=
 RunV Try.prog (Instr.buildSlice 84 0 #[]) w fun t3_1 w =>
 RunA Try.prog (nilV a0) fun t5_2 =>
 RunA Try.prog (Instr.fieldAt 146 t5_2 2) fun t6_3 =>
 RunW Try.prog (Instr.loadAt 84 t6_3) w fun t7_4 =>
 RunV Try.prog (Builtin.append_ #[84, 84] 84 #[t3_1, t7_4]) w fun t8_5 w =>
 R t8_5 w
theorem sh66_calls {a0 : Value} {w : World} {R : Value → World → Prop} (h : sh66 a0 w R) : CallF Try.prog 66 #[a0] w R :=
  calls_of_denF (mk := false) (args := [a0]) (an := (.seq (.ops [0]) (.seq (.ops [2]) .leaf))) (c := Try.f66.body.getD .skip) hentD Try.func66 rfl (Nat.le_of_ble_eq_true (by kernel_rfl))
    (Eq.mp (show sh66 a0 w R = denF Try.prog entD false Try.f66 (.seq (.ops [0]) (.seq (.ops [2]) .leaf)) (Try.f66.body.getD .skip) [a0] w R by kernel_rfl) h)

/-! ### 90: handbill/omap.New[string,handbill/api.Write] -/
def sh90 (w : World) (R : Value → World → Prop) : Prop :=
 RunV Try.prog (Instr.build 168 #[]) w fun t1_1 w =>
 RunV Try.prog (Instr.box 168 t1_1) w fun t2_2 w =>
 R t2_2 w
theorem sh90_calls {w : World} {R : Value → World → Prop} (h : sh90  w R) : CallF Try.prog 90 #[] w R :=
  calls_of_denF (mk := false) (args := []) (an := (.seq (.ops []) (.seq (.ops [0]) .leaf))) (c := Try.f90.body.getD .skip) hentD Try.func90 rfl (Nat.le_of_ble_eq_true (by kernel_rfl))
    (Eq.mp (show sh90  w R = denF Try.prog entD false Try.f90 (.seq (.ops []) (.seq (.ops [0]) .leaf)) (Try.f90.body.getD .skip) [] w R by kernel_rfl) h)

/-! ### 91: (*handbill/txn.Txn).writes -/
def sh91 (a0 a1 : Value) (w : World) (R : Value → World → Prop) : Prop :=
 RunV Try.prog (Instr.box 86 a1) w fun t3_1 w =>
 RunA Try.prog (Instr.fieldAt 86 t3_1 0) fun t7_2 =>
 RunW Try.prog (Instr.loadAt 9 t7_2) w fun t8_3 =>
 RunW Try.prog (bin .eql 9 (.tmp 8) (.const (.string ⟨#[]⟩)) t8_3 (.string ⟨#[]⟩)) w fun t9_4 =>
 IfB t9_4 (
 R (.int .i64 3) w) (
 RunA Try.prog (Instr.fieldAt 86 t3_1 0) fun t11_5 =>
 RunW Try.prog (Instr.loadAt 9 t11_5) w fun t12_6 =>
 RunW Try.prog (Builtin.len_ #[9] 3 #[t12_6]) w fun t13_7 =>
 RunA Try.prog (bin .gtr 3 (.tmp 13) (.const (.int .i64 1200)) t13_7 (.int .i64 1200)) fun t14_8 =>
 IfB t14_8 (
 R (.int .i64 3) w) (
 RunA Try.prog (Instr.fieldAt 86 t3_1 1) fun t17_9 =>
 RunW Try.prog (Instr.loadAt 9 t17_9) w fun t18_10 =>
 RunW Try.prog (Builtin.len_ #[9] 3 #[t18_10]) w fun t19_11 =>
 RunA Try.prog (bin .gtr 3 (.tmp 19) (.const (.int .i64 6000)) t19_11 (.int .i64 6000)) fun t20_12 =>
 IfB t20_12 (
 R (.int .i64 3) w) (
 jn 3 (fun t0_13 t3_14 t6_15 w =>
 jn 2 (fun t0_17 t3_18 w =>
 drw (fun S_20 w =>
 RunA Try.prog (nilV t0_17) fun t43_21 =>
 RunA Try.prog (Instr.fieldAt 136 t43_21 2) fun t44_22 =>
 RunS Try.prog S_20 (Instr.loadAt 133 t44_22) fun t45_23 =>
 RunA Try.prog (Instr.fieldAt 86 t3_18 0) fun t46_24 =>
 RunS Try.prog S_20 (Instr.loadAt 9 t46_24) fun t47_25 =>
 RunS Try.prog S_20 (Instr.loadAt 86 t3_18) fun t48_26 =>
 CallF Try.prog 117 #[t45_23, t47_25, t48_26] w fun t49_27 w =>
 R (.int .i64 0) w) w) fun j_19 =>
 RunA Try.prog (Op.unary .not t6_15) fun t33_28 =>
 IfB t33_28 (
 RunA Try.prog (nilV t0_13) fun t36_29 =>
 RunA Try.prog (Instr.fieldAt 136 t36_29 2) fun t37_30 =>
 RunW Try.prog (Instr.loadAt 133 t37_30) w fun t38_31 =>
 CallF Try.prog 116 #[t38_31] w fun t39_32 w =>
 RunA Try.prog (bin .geq 3 (.tmp 39) (.const (.int .i64 1000)) t39_32 (.int .i64 1000)) fun t40_33 =>
 IfB t40_33 (
 R (.int .i64 17) w) (
 j_19 t0_13 t3_14 w)) (
 j_19 t0_13 t3_14 w)) fun j_16 =>
 drw (fun S_34 w =>
 RunA Try.prog (nilV a0) fun t24_35 =>
 RunA Try.prog (Instr.fieldAt 136 t24_35 2) fun t25_36 =>
 RunS Try.prog S_34 (Instr.loadAt 133 t25_36) fun t26_37 =>
 RunA Try.prog (Instr.fieldAt 86 t3_1 0) fun t27_38 =>
 RunS Try.prog S_34 (Instr.loadAt 9 t27_38) fun t28_39 =>
 (CallF Try.prog 92 #[t26_37, t28_39] w fun t29_40 w =>
 RunA Try.prog (Instr.extract t29_40 0) fun t30_41 =>
 RunA Try.prog (Instr.extract t29_40 1) fun t31_42 =>
 RunV Try.prog (Instr.alloc 86 true (.tuple #[])) w fun t5_43 w =>
 RunU Try.prog (Instr.storeAt 86 t5_43 t30_41) w fun w =>
 j_16 a0 t3_1 t31_42 w) ∧ (
 (RunV Try.prog (Instr.alloc 86 true (.tuple #[])) w fun t5_44 w =>
 S_34 w ∧ (
 CallF Try.prog 92 #[t26_37, t28_39] w fun t29_45 w =>
 RunA Try.prog (Instr.extract t29_45 0) fun t30_46 =>
 RunA Try.prog (Instr.extract t29_45 1) fun t31_47 =>
 RunU Try.prog (Instr.storeAt 86 t5_44 t30_46) w fun w =>
 j_16 a0 t3_1 t31_47 w)) ∧ (
 True))) w)))
theorem sh91_calls {a0 a1 : Value} {w : World} {R : Value → World → Prop} (h : sh91 a0 a1 w R) : CallF Try.prog 91 #[a0, a1] w R :=
  calls_of_denF (mk := false) (args := [a0, a1]) (an := (.seq (.ops [0, 3]) (.seq (.seq (.ops [0, 3, 21]) (.cond (.seq (.ops [4]) .leaf) .leaf)) (.seq (.seq (.join [0, 3, 6] (.draw (.q 0 (.q 1 (.q 2 (.q 3 (.q 4 (.q 5 (.alt 6 (.q 7 (.q 8 (.q 9 (.one 10 (.one 11 (.q 12 .fin)))))) (.alt 10 (.one 6 (.q 7 (.q 8 (.q 9 (.one 11 (.q 12 .fin)))))) .fin)))))))) [0, 3, 6])) (.join [0, 3] (.seq (.ops [0, 3, 41]) (.cond (.seq (.ops [4]) .leaf) .leaf)))) (.seq (.draw (.q 0 (.q 1 (.q 2 (.q 3 (.q 4 (.q 5 (.q 6 (.one 7 .fin)))))))) []) (.seq (.ops [4]) .leaf)))))) (c := Try.f91.body.getD .skip) hentD Try.func91 rfl (Nat.le_of_ble_eq_true (by kernel_rfl))
    (Eq.mp (show sh91 a0 a1 w R = denF Try.prog entD false Try.f91 (.seq (.ops [0, 3]) (.seq (.seq (.ops [0, 3, 21]) (.cond (.seq (.ops [4]) .leaf) .leaf)) (.seq (.seq (.join [0, 3, 6] (.draw (.q 0 (.q 1 (.q 2 (.q 3 (.q 4 (.q 5 (.alt 6 (.q 7 (.q 8 (.q 9 (.one 10 (.one 11 (.q 12 .fin)))))) (.alt 10 (.one 6 (.q 7 (.q 8 (.q 9 (.one 11 (.q 12 .fin)))))) .fin)))))))) [0, 3, 6])) (.join [0, 3] (.seq (.ops [0, 3, 41]) (.cond (.seq (.ops [4]) .leaf) .leaf)))) (.seq (.draw (.q 0 (.q 1 (.q 2 (.q 3 (.q 4 (.q 5 (.q 6 (.one 7 .fin)))))))) []) (.seq (.ops [4]) .leaf))))) (Try.f91.body.getD .skip) [a0, a1] w R by kernel_rfl) h)

/-! ### 92: (*handbill/omap.Map[string, handbill/api.Write]).Get -/
def sh92 (a0 a1 : Value) (w : World) (R : Value → World → Prop) : Prop :=
 RunV Try.prog (Instr.alloc 86 true (.tuple #[])) w fun t4_1 w =>
 CallF Try.prog 118 #[a0, a1] w fun t12_2 w =>
 RunA Try.prog (Instr.extract t12_2 0) fun t13_3 =>
 RunA Try.prog (Instr.extract t12_2 1) fun t14_4 =>
 RunA Try.prog (Op.unary .not t14_4) fun t16_5 =>
 IfB t16_5 (
 RunV Try.prog (Instr.alloc 86 true (.tuple #[])) w fun t8_6 w =>
 RunW Try.prog (Instr.loadAt 86 t8_6) w fun t17_7 =>
 RunU Try.prog (Instr.storeAt 86 t4_1 t17_7) w fun w =>
 RunW Try.prog (Instr.loadAt 86 t4_1) w fun t4_8 =>
 R (.tuple #[t4_8, (.bool false)]) w) (
 RunA Try.prog (nilV a0) fun t19_9 =>
 RunA Try.prog (Instr.fieldAt 168 t19_9 0) fun t20_10 =>
 RunW Try.prog (Instr.loadAt 166 t20_10) w fun t21_11 =>
 RunA Try.prog (Instr.indexAt 166 t21_11 t13_3) fun t23_12 =>
 RunA Try.prog (Instr.fieldAt 171 t23_12 1) fun t24_13 =>
 RunW Try.prog (Instr.loadAt 86 t24_13) w fun t25_14 =>
 RunU Try.prog (Instr.storeAt 86 t4_1 t25_14) w fun w =>
 RunW Try.prog (Instr.loadAt 86 t4_1) w fun t4_15 =>
 R (.tuple #[t4_15, (.bool true)]) w)
theorem sh92_calls {a0 a1 : Value} {w : World} {R : Value → World → Prop} (h : sh92 a0 a1 w R) : CallF Try.prog 92 #[a0, a1] w R :=
  calls_of_denF (mk := false) (args := [a0, a1]) (an := (.seq (.ops [0, 1, 4]) (.seq (.ops [0, 4, 6, 7]) (.seq (.seq (.ops [0, 4, 6, 16]) (.cond (.seq (.ops [4, 8]) (.seq (.ops [4, 5]) .leaf)) .leaf)) (.seq (.ops [4, 5]) .leaf))))) (c := Try.f92.body.getD .skip) hentD Try.func92 rfl (Nat.le_of_ble_eq_true (by kernel_rfl))
    (Eq.mp (show sh92 a0 a1 w R = denF Try.prog entD false Try.f92 (.seq (.ops [0, 1, 4]) (.seq (.ops [0, 4, 6, 7]) (.seq (.seq (.ops [0, 4, 6, 16]) (.cond (.seq (.ops [4, 8]) (.seq (.ops [4, 5]) .leaf)) .leaf)) (.seq (.ops [4, 5]) .leaf)))) (Try.f92.body.getD .skip) [a0, a1] w R by kernel_rfl) h)

/-! ### 93: (*handbill/txn.Txn).Scan$1 -/
def sh93 (a0 a1 a2 a3 : Value) (w : World) (R : Value → World → Prop) : Prop :=
 RunV Try.prog (Instr.box 115 a0) w fun t4_1 w =>
 drw (fun S_2 w =>
 RunS Try.prog S_2 (Instr.loadAt 72 a1) fun t7_3 =>
 RunS Try.prog S_2 (Instr.loadAt 9 a2) fun t8_4 =>
 RunS Try.prog S_2 (Instr.loadAt 9 a3) fun t9_5 =>
 RunS Try.prog S_2 (Instr.loadAt 72 a1) fun t11_6 =>
 RunS Try.prog S_2 (Instr.loadAt 9 a2) fun t12_7 =>
 RunS Try.prog S_2 (Instr.loadAt 9 a3) fun t13_8 =>
 CallF Try.prog 95 #[t7_3, t8_4, t9_5] w fun t10_9 w =>
 S_2 w ∧ (
 CallF Try.prog 96 #[t11_6, t12_7, t13_8] w fun t14_10 w =>
 CallF Try.prog 94 #[t10_9, t14_10] w fun t15_11 w =>
 rngP Try.prog none 2 3 (fun l_12 K_13 t16_19 t17_20 w =>
 RunV Try.prog (Instr.alloc 86 true (.tuple #[])) w fun t6_24 w =>
 RunU Try.prog (Instr.storeAt 86 t6_24 t17_20) w fun w =>
 K_13 t4_1 t16_19 t6_24 w) (fun l_12 kn_14 ks_15 t4_21 t5_22 t6_23 w =>
 jn 0 (fun w =>
 kn_14 w) fun j_25 =>
 RunA Try.prog (Instr.fieldAt 86 t6_23 2) fun t18_26 =>
 RunW Try.prog (Instr.loadAt 4 t18_26) w fun t19_27 =>
 RunA Try.prog (Op.unary .not t19_27) fun t20_28 =>
 IfB t20_28 (
 RunW Try.prog (Instr.loadAt 115 t4_21) w fun t22_29 =>
 RunA Try.prog (Instr.fieldAt 86 t6_23 1) fun t24_30 =>
 RunW Try.prog (Instr.loadAt 9 t24_30) w fun t25_31 =>
 CallV Try.prog t22_29 #[t5_22, t25_31] w fun t26_32 w =>
 RunA Try.prog (Op.unary .not t26_32) fun t27_33 =>
 IfB t27_33 (
 ks_15 .ret w) (
 j_25 w)) (
 j_25 w)) t15_11 w (fun D_16 w =>
 (w).heap[D_16]? = some (.deferred (some [])) ∧ (
 R (.tuple #[]) (w.putObj D_16 (.deferred none)))) (fun D_16 c_17 w => jumpK (fun i_18 w =>
 bif Nat.beq i_18 0 then (
 (w).heap[D_16]? = some (.deferred (some [])) ∧ (
 R (.tuple #[]) (w.putObj D_16 (.deferred none)))) else (
 False)) (fun w =>
 (w).heap[D_16]? = some (.deferred (some [])) ∧ (
 R (.tuple #[]) (w.putObj D_16 (.deferred none)))) c_17 w))) w
theorem sh93_calls {a0 a1 a2 a3 : Value} {w : World} {R : Value → World → Prop} (h : sh93 a0 a1 a2 a3 w R) : CallF Try.prog 93 #[a0, a1, a2, a3] w R :=
  calls_of_denF (mk := true) (args := [a0, a1, a2, a3]) (an := (.seq (.ops [1, 2, 3, 4]) (.seq (.draw (.q 0 (.q 1 (.q 2 (.q 4 (.q 5 (.q 6 (.one 3 (.one 7 (.one 8 .fin))))))))) [4, 15]) (.blk (.rng [4, 5, 6] (.seq (.ops [4, 5, 17]) (.ops [4, 5, 6])) (.blk (.join [] (.seq (.ops [28]) (.cond .leaf .leaf))))))))) (c := Try.f93.body.getD .skip) hentD Try.func93 rfl (Nat.le_of_ble_eq_true (by kernel_rfl))
    (Eq.mp (show sh93 a0 a1 a2 a3 w R = denF Try.prog entD true Try.f93 (.seq (.ops [1, 2, 3, 4]) (.seq (.draw (.q 0 (.q 1 (.q 2 (.q 4 (.q 5 (.q 6 (.one 3 (.one 7 (.one 8 .fin))))))))) [4, 15]) (.blk (.rng [4, 5, 6] (.seq (.ops [4, 5, 17]) (.ops [4, 5, 6])) (.blk (.join [] (.seq (.ops [28]) (.cond .leaf .leaf)))))))) (Try.f93.body.getD .skip) [a0, a1, a2, a3] w R by kernel_rfl) h)

/-! ### 94: handbill/omap.Merge[string,handbill/api.Write] -/
def sh94 (a0 a1 : Value) (w : World) (R : Value → World → Prop) : Prop :=
 RunV Try.prog (Instr.box 141 a0) w fun t2_1 w =>
 RunV Try.prog (Instr.box 141 a1) w fun t3_2 w =>
 RunV Try.prog (Instr.makeFunc (Go.Fn.func 119) #[] #[t2_1, t3_2]) w fun t5_3 w =>
 R t5_3 w
theorem sh94_calls {a0 a1 : Value} {w : World} {R : Value → World → Prop} (h : sh94 a0 a1 w R) : CallF Try.prog 94 #[a0, a1] w R :=
  calls_of_denF (mk := false) (args := [a0, a1]) (an := (.seq (.ops [2, 3]) (.seq (.ops [4]) .leaf))) (c := Try.f94.body.getD .skip) hentD Try.func94 rfl (Nat.le_of_ble_eq_true (by kernel_rfl))
    (Eq.mp (show sh94 a0 a1 w R = denF Try.prog entD false Try.f94 (.seq (.ops [2, 3]) (.seq (.ops [4]) .leaf)) (Try.f94.body.getD .skip) [a0, a1] w R by kernel_rfl) h)

/-! ### 95: (*handbill/txn.Txn).stored -/
def sh95 (a0 a1 a2 : Value) (w : World) (R : Value → World → Prop) : Prop :=
 RunV Try.prog (Instr.box 72 a0) w fun t3_1 w =>
 RunV Try.prog (Instr.box 9 a1) w fun t4_2 w =>
 RunV Try.prog (Instr.box 9 a2) w fun t5_3 w =>
 RunV Try.prog (Instr.makeFunc (Go.Fn.func 121) #[] #[t3_1, t4_2, t5_3]) w fun t7_4 w =>
 R t7_4 w
theorem sh95_calls {a0 a1 a2 : Value} {w : World} {R : Value → World → Prop} (h : sh95 a0 a1 a2 w R) : CallF Try.prog 95 #[a0, a1, a2] w R :=
  calls_of_denF (mk := false) (args := [a0, a1, a2]) (an := (.seq (.ops [3, 4, 5]) (.seq (.ops [6]) .leaf))) (c := Try.f95.body.getD .skip) hentD Try.func95 rfl (Nat.le_of_ble_eq_true (by kernel_rfl))
    (Eq.mp (show sh95 a0 a1 a2 w R = denF Try.prog entD false Try.f95 (.seq (.ops [3, 4, 5]) (.seq (.ops [6]) .leaf)) (Try.f95.body.getD .skip) [a0, a1, a2] w R by kernel_rfl) h)

/-! ### 96: (*handbill/txn.Txn).own -/
def sh96 (a0 a1 a2 : Value) (w : World) (R : Value → World → Prop) : Prop :=
 RunV Try.prog (Instr.box 72 a0) w fun t3_1 w =>
 RunV Try.prog (Instr.box 9 a1) w fun t4_2 w =>
 RunW Try.prog (bin .neq 9 (.tmp 7) (.const (.string ⟨#[]⟩)) a2 (.string ⟨#[]⟩)) w fun t8_3 =>
 IfB t8_3 (
 drw (fun S_4 w =>
 RunS Try.prog S_4 (Instr.loadAt 72 t3_1) fun t9_5 =>
 RunA Try.prog (nilV t9_5) fun t10_6 =>
 RunA Try.prog (Instr.fieldAt 136 t10_6 2) fun t11_7 =>
 RunS Try.prog S_4 (Instr.loadAt 133 t11_7) fun t12_8 =>
 RunS Try.prog S_4 (Instr.loadAt 9 t4_2) fun t13_9 =>
 CallF Try.prog 122 #[t12_8, t13_9, a2] w fun t15_10 w =>
 R t15_10 w) w) (
 RunV Try.prog (Instr.makeFunc (Go.Fn.func 123) #[] #[t3_1, t4_2]) w fun t16_11 w =>
 R t16_11 w)
theorem sh96_calls {a0 a1 a2 : Value} {w : World} {R : Value → World → Prop} (h : sh96 a0 a1 a2 w R) : CallF Try.prog 96 #[a0, a1, a2] w R :=
  calls_of_denF (mk := false) (args := [a0, a1, a2]) (an := (.seq (.ops [2, 3, 4]) (.seq (.seq (.ops [2, 3, 4, 8]) (.cond (.seq (.draw (.q 0 (.q 1 (.q 2 (.q 3 (.q 4 (.q 5 (.one 6 (.q 7 .fin)))))))) [6]) .leaf) .leaf)) (.seq (.ops [6]) .leaf)))) (c := Try.f96.body.getD .skip) hentD Try.func96 rfl (Nat.le_of_ble_eq_true (by kernel_rfl))
    (Eq.mp (show sh96 a0 a1 a2 w R = denF Try.prog entD false Try.f96 (.seq (.ops [2, 3, 4]) (.seq (.seq (.ops [2, 3, 4, 8]) (.cond (.seq (.draw (.q 0 (.q 1 (.q 2 (.q 3 (.q 4 (.q 5 (.one 6 (.q 7 .fin)))))))) [6]) .leaf) .leaf)) (.seq (.ops [6]) .leaf))) (Try.f96.body.getD .skip) [a0, a1, a2] w R by kernel_rfl) h)

/-! ### 97: (*handbill/txn.Txn).Prefix$1 -/
def sh97 (a0 a1 a2 : Value) (w : World) (R : Value → World → Prop) : Prop :=
 RunV Try.prog (Instr.box 115 a0) w fun t3_1 w =>
 RunW Try.prog (Instr.loadAt 72 a1) w fun t6_2 =>
 RunW Try.prog (Instr.loadAt 9 a2) w fun t7_3 =>
 CallF Try.prog 53 #[t6_2, t7_3, (.string ⟨#[]⟩)] w fun t8_4 w =>
 rngP Try.prog none 2 4 (fun l_5 K_6 t9_12 t10_13 w =>
 K_6 a2 t3_1 t9_12 t10_13 w) (fun l_5 kn_7 ks_8 t2_14 t3_15 t4_16 t5_17 w =>
 RunW Try.prog (Instr.loadAt 9 t2_14) w fun t12_18 =>
 CallF Try.prog 98 #[t4_16, t12_18] w fun t13_19 w =>
 RunA Try.prog (Op.unary .not t13_19) fun t14_20 =>
 IfB t14_20 (
 ks_8 .ret w) (
 RunW Try.prog (Instr.loadAt 115 t3_15) w fun t16_21 =>
 CallV Try.prog t16_21 #[t4_16, t5_17] w fun t19_22 w =>
 RunA Try.prog (Op.unary .not t19_22) fun t20_23 =>
 IfB t20_23 (
 ks_8 .ret w) (
 kn_7 w))) t8_4 w (fun D_9 w =>
 (w).heap[D_9]? = some (.deferred (some [])) ∧ (
 R (.tuple #[]) (w.putObj D_9 (.deferred none)))) (fun D_9 c_10 w => jumpK (fun i_11 w =>
 bif Nat.beq i_11 0 then (
 (w).heap[D_9]? = some (.deferred (some [])) ∧ (
 R (.tuple #[]) (w.putObj D_9 (.deferred none)))) else (
 False)) (fun w =>
 (w).heap[D_9]? = some (.deferred (some [])) ∧ (
 R (.tuple #[]) (w.putObj D_9 (.deferred none)))) c_10 w)
theorem sh97_calls {a0 a1 a2 : Value} {w : World} {R : Value → World → Prop} (h : sh97 a0 a1 a2 w R) : CallF Try.prog 97 #[a0, a1, a2] w R :=
  calls_of_denF (mk := true) (args := [a0, a1, a2]) (an := (.seq (.ops [1, 2, 3]) (.seq (.ops [2, 3, 8]) (.blk (.rng [2, 3, 4, 5] (.seq (.ops [2, 3, 4, 10]) (.ops [2, 3, 4, 5])) (.blk (.seq (.ops [21]) (.cond .leaf .leaf)))))))) (c := Try.f97.body.getD .skip) hentD Try.func97 rfl (Nat.le_of_ble_eq_true (by kernel_rfl))
    (Eq.mp (show sh97 a0 a1 a2 w R = denF Try.prog entD true Try.f97 (.seq (.ops [1, 2, 3]) (.seq (.ops [2, 3, 8]) (.blk (.rng [2, 3, 4, 5] (.seq (.ops [2, 3, 4, 10]) (.ops [2, 3, 4, 5])) (.blk (.seq (.ops [21]) (.cond .leaf .leaf))))))) (Try.f97.body.getD .skip) [a0, a1, a2] w R by kernel_rfl) h)

/-! ### 98: strings.HasPrefix -/
def sh98 (a0 a1 : Value) (w : World) (R : Value → World → Prop) : Prop :=
 CallF Try.prog 124 #[a0, a1] w fun t7_1 w =>
 R t7_1 w
theorem sh98_calls {a0 a1 : Value} {w : World} {R : Value → World → Prop} (h : sh98 a0 a1 w R) : CallF Try.prog 98 #[a0, a1] w R :=
  calls_of_denF (mk := false) (args := [a0, a1]) (an := (.seq (.ops [0, 1]) (.seq (.ops [4]) .leaf))) (c := Try.f98.body.getD .skip) hentD Try.func98 rfl (Nat.le_of_ble_eq_true (by kernel_rfl))
    (Eq.mp (show sh98 a0 a1 w R = denF Try.prog entD false Try.f98 (.seq (.ops [0, 1]) (.seq (.ops [4]) .leaf)) (Try.f98.body.getD .skip) [a0, a1] w R by kernel_rfl) h)

/-! ### 99: (*handbill/omap.Map[string, handbill/api.Write]).All -/
def sh99 (a0 : Value) (w : World) (R : Value → World → Prop) : Prop :=
 RunV Try.prog (Instr.box 133 a0) w fun t1_1 w =>
 RunV Try.prog (Instr.makeFunc (Go.Fn.func 125) #[] #[t1_1]) w fun t3_2 w =>
 R t3_2 w
theorem sh99_calls {a0 : Value} {w : World} {R : Value → World → Prop} (h : sh99 a0 w R) : CallF Try.prog 99 #[a0] w R :=
  calls_of_denF (mk := false) (args := [a0]) (an := (.seq (.ops [1]) (.seq (.ops [2]) .leaf))) (c := Try.f99.body.getD .skip) hentD Try.func99 rfl (Nat.le_of_ble_eq_true (by kernel_rfl))
    (Eq.mp (show sh99 a0 w R = denF Try.prog entD false Try.f99 (.seq (.ops [1]) (.seq (.ops [2]) .leaf)) (Try.f99.body.getD .skip) [a0] w R by kernel_rfl) h)

/-! ### 100: (*handbill/hblref11.Txn).write -/
def sh100 (a0 a1 : Value) (w : World) (R : Value → World → Prop) : Prop :=
 RunV Try.prog (Instr.box 86 a1) w fun t3_1 w =>
 RunA Try.prog (Instr.fieldAt 86 t3_1 0) fun t6_2 =>
 RunW Try.prog (Instr.loadAt 9 t6_2) w fun t7_3 =>
 RunW Try.prog (Builtin.len_ #[9] 3 #[t7_3]) w fun t8_4 =>
 RunA Try.prog (bin .lss 3 (.tmp 8) (.const (.int .i64 1)) t8_4 (.int .i64 1)) fun t9_5 =>
 IfB t9_5 (
 R (.int .i64 3) w) (
 RunA Try.prog (Instr.fieldAt 86 t3_1 0) fun t11_6 =>
 RunW Try.prog (Instr.loadAt 9 t11_6) w fun t12_7 =>
 RunW Try.prog (Builtin.len_ #[9] 3 #[t12_7]) w fun t13_8 =>
 RunA Try.prog (bin .gtr 3 (.tmp 13) (.const (.int .i64 1200)) t13_8 (.int .i64 1200)) fun t14_9 =>
 IfB t14_9 (
 R (.int .i64 3) w) (
 RunA Try.prog (Instr.fieldAt 86 t3_1 1) fun t17_10 =>
 RunW Try.prog (Instr.loadAt 9 t17_10) w fun t18_11 =>
 RunW Try.prog (Builtin.len_ #[9] 3 #[t18_11]) w fun t19_12 =>
 RunA Try.prog (bin .gtr 3 (.tmp 19) (.const (.int .i64 6000)) t19_12 (.int .i64 6000)) fun t20_13 =>
 IfB t20_13 (
 R (.int .i64 3) w) (
 jn 3 (fun t0_14 t3_15 t5_16 w =>
 jn 3 (fun t0_18 t3_19 t5_20 w =>
 RunA Try.prog (nilV t0_18) fun t72_22 =>
 RunA Try.prog (Instr.fieldAt 146 t72_22 2) fun t73_23 =>
 RunW Try.prog (Instr.loadAt 84 t73_23) w fun t74_24 =>
 RunW Try.prog (Builtin.len_ #[84] 3 #[t74_24]) w fun t75_25 =>
 RunA Try.prog (bin .geq 3 (.tmp 75) (.const (.int .i64 1000)) t75_25 (.int .i64 1000)) fun t76_26 =>
 IfB t76_26 (
 R (.int .i64 17) w) (
 drw (fun S_27 w =>
 RunA Try.prog (nilV t0_18) fun t79_28 =>
 RunA Try.prog (Instr.fieldAt 146 t79_28 2) fun t80_29 =>
 RunS Try.prog S_27 (Instr.loadAt 84 t80_29) fun t81_30 =>
 RunA Try.prog (Instr.sliceAt 84 t81_30 none (some t5_20) none) fun t83_31 =>
 RunS Try.prog S_27 (Instr.loadAt 86 t3_19) fun t84_32 =>
 RunA Try.prog (nilV t0_18) fun t87_33 =>
 RunA Try.prog (Instr.fieldAt 146 t87_33 2) fun t88_34 =>
 RunS Try.prog S_27 (Instr.loadAt 84 t88_34) fun t89_35 =>
 RunA Try.prog (Instr.sliceAt 84 t89_35 (some t5_20) none none) fun t91_36 =>
 RunV Try.prog (Instr.buildSlice 84 1 #[(0, t84_32)]) w fun t85_37 w =>
 S_27 w ∧ (
 RunV Try.prog (Builtin.append_ #[84, 84] 84 #[t85_37, t91_36]) w fun t92_38 w =>
 S_27 w ∧ (
 RunV Try.prog (Builtin.append_ #[84, 84] 84 #[t83_31, t92_38]) w fun t93_39 w =>
 RunA Try.prog (nilV t0_18) fun t94_40 =>
 RunA Try.prog (Instr.fieldAt 146 t94_40 2) fun t95_41 =>
 RunU Try.prog (Instr.storeAt 84 t95_41 t93_39) w fun w =>
 R (.int .i64 0) w))) w)) fun j_21 =>
 drw (fun S_42 w =>
 RunA Try.prog (nilV t0_14) fun t46_43 =>
 RunA Try.prog (Instr.fieldAt 146 t46_43 2) fun t47_44 =>
 RunS Try.prog S_42 (Instr.loadAt 84 t47_44) fun t48_45 =>
 RunS Try.prog S_42 (Builtin.len_ #[84] 3 #[t48_45]) fun t49_46 =>
 RunA Try.prog (bin .lss 3 (.tmp 44) (.tmp 49) t5_16 t49_46) fun t50_47 =>
 IfB t50_47 (
 RunA Try.prog (nilV t0_14) fun t53_48 =>
 RunA Try.prog (Instr.fieldAt 146 t53_48 2) fun t54_49 =>
 RunS Try.prog S_42 (Instr.loadAt 84 t54_49) fun t55_50 =>
 RunA Try.prog (Instr.indexAt 84 t55_50 t5_16) fun t57_51 =>
 RunA Try.prog (Instr.fieldAt 86 t57_51 0) fun t58_52 =>
 RunS Try.prog S_42 (Instr.loadAt 9 t58_52) fun t59_53 =>
 RunA Try.prog (Instr.fieldAt 86 t3_15 0) fun t60_54 =>
 RunS Try.prog S_42 (Instr.loadAt 9 t60_54) fun t61_55 =>
 RunS Try.prog S_42 (bin .eql 9 (.tmp 59) (.tmp 61) t59_53 t61_55) fun t62_56 =>
 IfB t62_56 (
 drw (fun S_57 w =>
 RunA Try.prog (nilV t0_14) fun t65_58 =>
 RunA Try.prog (Instr.fieldAt 146 t65_58 2) fun t66_59 =>
 RunS Try.prog S_57 (Instr.loadAt 84 t66_59) fun t67_60 =>
 RunS Try.prog S_57 (Instr.loadAt 86 t3_15) fun t69_61 =>
 RunA Try.prog (Instr.indexAt 84 t67_60 t5_16) fun t70_62 =>
 RunU Try.prog (Instr.storeAt 86 t70_62 t69_61) w fun w =>
 R (.int .i64 0) w) w) (
 j_21 t0_14 t3_15 t5_16 w)) (
 j_21 t0_14 t3_15 t5_16 w)) w) fun j_17 =>
 lp 1 (fun n_64 t5_63 w =>
 drw (fun S_65 w =>
 RunA Try.prog (nilV a0) fun t24_66 =>
 RunA Try.prog (Instr.fieldAt 146 t24_66 2) fun t25_67 =>
 RunS Try.prog S_65 (Instr.loadAt 84 t25_67) fun t26_68 =>
 RunS Try.prog S_65 (Builtin.len_ #[84] 3 #[t26_68]) fun t27_69 =>
 RunA Try.prog (bin .lss 3 (.tmp 22) (.tmp 27) t5_63 t27_69) fun t28_70 =>
 IfB t28_70 (
 RunA Try.prog (nilV a0) fun t31_71 =>
 RunA Try.prog (Instr.fieldAt 146 t31_71 2) fun t32_72 =>
 RunS Try.prog S_65 (Instr.loadAt 84 t32_72) fun t33_73 =>
 RunA Try.prog (Instr.indexAt 84 t33_73 t5_63) fun t35_74 =>
 RunA Try.prog (Instr.fieldAt 86 t35_74 0) fun t36_75 =>
 RunS Try.prog S_65 (Instr.loadAt 9 t36_75) fun t37_76 =>
 RunA Try.prog (Instr.fieldAt 86 t3_1 0) fun t38_77 =>
 RunS Try.prog S_65 (Instr.loadAt 9 t38_77) fun t39_78 =>
 RunA Try.prog (bin .lss 9 (.tmp 37) (.tmp 39) t37_76 t39_78) fun t40_79 =>
 IfB t40_79 (
 RunA Try.prog (bin .add 3 (.tmp 42) (.const (.int .i64 1)) t5_63 (.int .i64 1)) fun t43_80 =>
 (a0 : Value) = a0 ∧ ((t3_1 : Value) = t3_1 ∧ (n_64 t43_80 w))) (
 j_17 a0 t3_1 t5_63 w)) (
 j_17 a0 t3_1 t5_63 w)) w) [(.int .i64 0)] w)))
theorem sh100_calls {a0 a1 : Value} {w : World} {R : Value → World → Prop} (h : sh100 a0 a1 w R) : CallF Try.prog 100 #[a0, a1] w R :=
  calls_of_denF (mk := false) (args := [a0, a1]) (an := (.seq (.ops [0, 3]) (.seq (.seq (.ops [0, 3, 21]) (.cond (.seq (.ops [4]) .leaf) .leaf)) (.seq (.ops [0, 3, 5]) (.seq (.join [0, 3, 5] (.blk (.loop [0, 3] [5] (.seq (.seq (.draw (.q 0 (.q 1 (.q 2 (.q 3 (.q 4 (.q 5 (.q 6 (.q 7 (.sp 8 (.q 8 (.q 9 (.q 10 (.q 11 (.q 12 (.q 13 (.q 14 (.q 15 (.q 16 (.q 17 (.q 18 (.q 19 .fin)))))))))))) (.q 8 (.q 9 (.q 10 (.q 11 (.q 12 (.q 13 (.q 14 (.q 15 (.q 16 (.q 17 (.q 18 (.q 19 .fin))))))))))))))))))))) [0, 3, 5, 41]) (.cond .leaf .leaf)) (.blk (.ops [0, 3, 5])))))) (.seq (.join [0, 3, 5] (.seq (.draw (.q 0 (.q 1 (.q 2 (.q 3 (.q 4 (.q 5 (.q 6 (.q 7 (.sp 8 (.q 8 (.q 9 (.q 10 (.q 11 (.q 12 (.q 13 (.q 14 (.q 15 (.q 16 (.q 17 (.q 18 (.q 19 .fin)))))))))))) (.q 8 (.q 9 (.q 10 (.q 11 (.q 12 (.q 13 (.q 14 (.q 15 (.q 16 (.q 17 (.q 18 (.q 19 .fin))))))))))))))))))))) [0, 3, 5, 63]) (.cond (.seq (.draw (.q 0 (.q 1 (.q 2 (.q 3 (.q 4 (.q 5 (.q 6 (.one 7 .fin)))))))) []) (.seq (.ops [4]) .leaf)) .leaf))) (.seq (.seq (.ops [0, 3, 5, 76]) (.cond (.seq (.ops [4]) .leaf) .leaf)) (.seq (.draw (.q 0 (.q 1 (.q 2 (.q 3 (.q 4 (.q 5 (.q 6 (.q 7 (.q 9 (.q 10 (.q 11 (.q 12 (.q 13 (.q 14 (.one 8 (.one 15 (.one 16 (.q 17 (.q 18 (.one 19 .fin)))))))))))))))))))) []) (.seq (.ops [4]) .leaf))))))))) (c := Try.f100.body.getD .skip) hentD Try.func100 rfl (Nat.le_of_ble_eq_true (by kernel_rfl))
    (Eq.mp (show sh100 a0 a1 w R = denF Try.prog entD false Try.f100 (.seq (.ops [0, 3]) (.seq (.seq (.ops [0, 3, 21]) (.cond (.seq (.ops [4]) .leaf) .leaf)) (.seq (.ops [0, 3, 5]) (.seq (.join [0, 3, 5] (.blk (.loop [0, 3] [5] (.seq (.seq (.draw (.q 0 (.q 1 (.q 2 (.q 3 (.q 4 (.q 5 (.q 6 (.q 7 (.sp 8 (.q 8 (.q 9 (.q 10 (.q 11 (.q 12 (.q 13 (.q 14 (.q 15 (.q 16 (.q 17 (.q 18 (.q 19 .fin)))))))))))) (.q 8 (.q 9 (.q 10 (.q 11 (.q 12 (.q 13 (.q 14 (.q 15 (.q 16 (.q 17 (.q 18 (.q 19 .fin))))))))))))))))))))) [0, 3, 5, 41]) (.cond .leaf .leaf)) (.blk (.ops [0, 3, 5])))))) (.seq (.join [0, 3, 5] (.seq (.draw (.q 0 (.q 1 (.q 2 (.q 3 (.q 4 (.q 5 (.q 6 (.q 7 (.sp 8 (.q 8 (.q 9 (.q 10 (.q 11 (.q 12 (.q 13 (.q 14 (.q 15 (.q 16 (.q 17 (.q 18 (.q 19 .fin)))))))))))) (.q 8 (.q 9 (.q 10 (.q 11 (.q 12 (.q 13 (.q 14 (.q 15 (.q 16 (.q 17 (.q 18 (.q 19 .fin))))))))))))))))))))) [0, 3, 5, 63]) (.cond (.seq (.draw (.q 0 (.q 1 (.q 2 (.q 3 (.q 4 (.q 5 (.q 6 (.one 7 .fin)))))))) []) (.seq (.ops [4]) .leaf)) .leaf))) (.seq (.seq (.ops [0, 3, 5, 76]) (.cond (.seq (.ops [4]) .leaf) .leaf)) (.seq (.draw (.q 0 (.q 1 (.q 2 (.q 3 (.q 4 (.q 5 (.q 6 (.q 7 (.q 9 (.q 10 (.q 11 (.q 12 (.q 13 (.q 14 (.one 8 (.one 15 (.one 16 (.q 17 (.q 18 (.one 19 .fin)))))))))))))))))))) []) (.seq (.ops [4]) .leaf)))))))) (Try.f100.body.getD .skip) [a0, a1] w R by kernel_rfl) h)

/-! ### 116: (*handbill/omap.Map[string, handbill/api.Write]).Len -/
def sh116 (a0 : Value) (w : World) (R : Value → World → Prop) : Prop :=
 RunA Try.prog (nilV a0) fun t4_1 =>
 RunA Try.prog (Instr.fieldAt 168 t4_1 0) fun t5_2 =>
 RunW Try.prog (Instr.loadAt 166 t5_2) w fun t6_3 =>
 RunW Try.prog (Builtin.len_ #[166] 3 #[t6_3]) w fun t7_4 =>
 R t7_4 w
theorem sh116_calls {a0 : Value} {w : World} {R : Value → World → Prop} (h : sh116 a0 w R) : CallF Try.prog 116 #[a0] w R :=
  calls_of_denF (mk := false) (args := [a0]) (an := (.seq (.ops [0]) (.seq (.ops [2]) .leaf))) (c := Try.f116.body.getD .skip) hentD Try.func116 rfl (Nat.le_of_ble_eq_true (by kernel_rfl))
    (Eq.mp (show sh116 a0 w R = denF Try.prog entD false Try.f116 (.seq (.ops [0]) (.seq (.ops [2]) .leaf)) (Try.f116.body.getD .skip) [a0] w R by kernel_rfl) h)

/-! ### 117: (*handbill/omap.Map[string, handbill/api.Write]).Put -/
def sh117 (a0 a1 a2 : Value) (w : World) (R : Value → World → Prop) : Prop :=
 RunV Try.prog (Instr.box 86 a2) w fun t5_1 w =>
 CallF Try.prog 118 #[a0, a1] w fun t12_2 w =>
 RunA Try.prog (Instr.extract t12_2 0) fun t13_3 =>
 RunA Try.prog (Instr.extract t12_2 1) fun t14_4 =>
 jn 1 (fun t8_5 w =>
 RunA Try.prog (Op.unary .not t8_5) fun t38_7 =>
 R t38_7 w) fun j_6 =>
 IfB t14_4 (
 drw (fun S_8 w =>
 RunA Try.prog (nilV a0) fun t17_9 =>
 RunA Try.prog (Instr.fieldAt 168 t17_9 0) fun t18_10 =>
 RunS Try.prog S_8 (Instr.loadAt 166 t18_10) fun t19_11 =>
 RunS Try.prog S_8 (Instr.loadAt 86 t5_1) fun t21_12 =>
 RunA Try.prog (Instr.indexAt 166 t19_11 t13_3) fun t22_13 =>
 RunA Try.prog (Instr.fieldAt 171 t22_13 1) fun t23_14 =>
 RunU Try.prog (Instr.storeAt 86 t23_14 t21_12) w fun w =>
 j_6 t14_4 w) w) (
 drw (fun S_15 w =>
 RunA Try.prog (nilV a0) fun t26_16 =>
 RunA Try.prog (Instr.fieldAt 168 t26_16 0) fun t27_17 =>
 RunS Try.prog S_15 (Instr.loadAt 166 t27_17) fun t28_18 =>
 RunS Try.prog S_15 (Instr.loadAt 86 t5_1) fun t31_19 =>
 RunV Try.prog (Instr.build 171 #[(0, a1), (1, t31_19)]) w fun t32_20 w =>
 S_15 w ∧ (
 RunV Try.prog (Instr.buildSlice 166 1 #[(0, t32_20)]) w fun t33_21 w =>
 S_15 w ∧ (
 CallF Try.prog 137 #[t28_18, t13_3, t33_21] w fun t34_22 w =>
 RunA Try.prog (nilV a0) fun t35_23 =>
 RunA Try.prog (Instr.fieldAt 168 t35_23 0) fun t36_24 =>
 RunU Try.prog (Instr.storeAt 166 t36_24 t34_22) w fun w =>
 j_6 t14_4 w))) w)
theorem sh117_calls {a0 a1 a2 : Value} {w : World} {R : Value → World → Prop} (h : sh117 a0 a1 a2 w R) : CallF Try.prog 117 #[a0, a1, a2] w R :=
  calls_of_denF (mk := false) (args := [a0, a1, a2]) (an := (.seq (.ops [0, 1, 5]) (.seq (.ops [0, 1, 5, 7, 8]) (.seq (.join [8] (.seq (.ops [0, 1, 5, 7, 8, 15]) (.cond (.draw (.q 0 (.q 1 (.q 2 (.q 3 (.q 4 (.q 5 (.q 6 (.q 7 (.one 8 .fin))))))))) [8]) (.draw (.q 0 (.q 1 (.q 2 (.q 3 (.q 4 (.q 5 (.q 6 (.q 7 (.one 8 (.one 9 (.one 10 (.q 11 (.q 12 (.one 13 .fin)))))))))))))) [8])))) (.seq (.ops [6]) .leaf))))) (c := Try.f117.body.getD .skip) hentD Try.func117 rfl (Nat.le_of_ble_eq_true (by kernel_rfl))
    (Eq.mp (show sh117 a0 a1 a2 w R = denF Try.prog entD false Try.f117 (.seq (.ops [0, 1, 5]) (.seq (.ops [0, 1, 5, 7, 8]) (.seq (.join [8] (.seq (.ops [0, 1, 5, 7, 8, 15]) (.cond (.draw (.q 0 (.q 1 (.q 2 (.q 3 (.q 4 (.q 5 (.q 6 (.q 7 (.one 8 .fin))))))))) [8]) (.draw (.q 0 (.q 1 (.q 2 (.q 3 (.q 4 (.q 5 (.q 6 (.q 7 (.one 8 (.one 9 (.one 10 (.q 11 (.q 12 (.one 13 .fin)))))))))))))) [8])))) (.seq (.ops [6]) .leaf)))) (Try.f117.body.getD .skip) [a0, a1, a2] w R by kernel_rfl) h)

/-! ### 118: (*handbill/omap.Map[string, handbill/api.Write]).find -/
def sh118 (a0 a1 : Value) (w : World) (R : Value → World → Prop) : Prop :=
 RunA Try.prog (nilV a0) fun t7_1 =>
 RunA Try.prog (Instr.fieldAt 168 t7_1 0) fun t8_2 =>
 RunW Try.prog (Instr.loadAt 166 t8_2) w fun t9_3 =>
 CallF Try.prog 138 #[t9_3, a1, (.func (.func 139) #[] #[])] w fun t11_4 w =>
 RunA Try.prog (Instr.extract t11_4 0) fun t12_5 =>
 RunA Try.prog (Instr.extract t11_4 1) fun t13_6 =>
 R (.tuple #[t12_5, t13_6]) w
theorem sh118_calls {a0 a1 : Value} {w : World} {R : Value → World → Prop} (h : sh118 a0 a1 w R) : CallF Try.prog 118 #[a0, a1] w R :=
  calls_of_denF (mk := false) (args := [a0, a1]) (an := (.seq (.ops [0, 1]) (.seq (.ops [4, 5]) .leaf))) (c := Try.f118.body.getD .skip) hentD Try.func118 rfl (Nat.le_of_ble_eq_true (by kernel_rfl))
    (Eq.mp (show sh118 a0 a1 w R = denF Try.prog entD false Try.f118 (.seq (.ops [0, 1]) (.seq (.ops [4, 5]) .leaf)) (Try.f118.body.getD .skip) [a0, a1] w R by kernel_rfl) h)

/-! ### 119: handbill/omap.Merge[string,handbill/api.Write]$1 -/
def sh119 (a0 a1 a2 : Value) (w : World) (R : Value → World → Prop) : Prop :=
 drw (fun S_1 w =>
 RunS Try.prog S_1 (Instr.loadAt 141 a1) fun t7_2 =>
 RunS Try.prog S_1 (Instr.loadAt 141 a2) fun t9_3 =>
 CallF Try.prog 120 #[t7_2] w fun t8_4 w =>
 S_1 w ∧ (
 CallF Try.prog 120 #[t9_3] w fun t10_5 w =>
 lp 2 (fun n_8 t4_6 t5_7 w =>
 RunW Try.prog (Builtin.len_ #[166] 3 #[t4_6]) w fun t12_9 =>
 RunW Try.prog (Builtin.len_ #[166] 3 #[t5_7]) w fun t14_10 =>
 RunA Try.prog (bin .add 3 (.tmp 12) (.tmp 14) t12_9 t14_10) fun t15_11 =>
 RunA Try.prog (bin .gtr 3 (.tmp 15) (.const (.int .i64 0)) t15_11 (.int .i64 0)) fun t16_12 =>
 IfB t16_12 (
 RunV Try.prog (Instr.alloc 171 true (.tuple #[])) w fun t6_13 w =>
 jn 4 (fun t0_14 t4_15 t5_16 t6_17 w =>
 RunA Try.prog (Instr.fieldAt 171 t6_17 0) fun t70_19 =>
 RunW Try.prog (Instr.loadAt 9 t70_19) w fun t71_20 =>
 RunA Try.prog (Instr.fieldAt 171 t6_17 1) fun t72_21 =>
 RunW Try.prog (Instr.loadAt 86 t72_21) w fun t73_22 =>
 CallV Try.prog t0_14 #[t71_20, t73_22] w fun t74_23 w =>
 RunA Try.prog (Op.unary .not t74_23) fun t75_24 =>
 IfB t75_24 (
 R (.tuple #[]) w) (
 (t0_14 : Value) = a0 ∧ (n_8 t4_15 t5_16 w))) fun j_18 =>
 drw (fun S_25 w =>
 RunS Try.prog S_25 (Builtin.len_ #[166] 3 #[t5_7]) fun t24_26 =>
 RunS Try.prog S_25 (bin .eql 3 (.tmp 24) (.const (.int .i64 0)) t24_26 (.int .i64 0)) fun t25_27 =>
 IfB t25_27 (
 drw (fun S_28 w =>
 RunA Try.prog (Instr.indexAt 166 t4_6 (.int .i64 0)) fun t43_29 =>
 RunS Try.prog S_28 (Instr.loadAt 171 t43_29) fun t44_30 =>
 RunA Try.prog (Instr.sliceAt 166 t4_6 (some (.int .i64 1)) none none) fun t46_31 =>
 RunU Try.prog (Instr.storeAt 171 t6_13 t44_30) w fun w =>
 j_18 a0 t46_31 t5_7 t6_13 w) w) (
 RunS Try.prog S_25 (Builtin.len_ #[166] 3 #[t4_6]) fun t28_32 =>
 RunA Try.prog (bin .gtr 3 (.tmp 28) (.const (.int .i64 0)) t28_32 (.int .i64 0)) fun t29_33 =>
 IfB t29_33 (
 RunA Try.prog (Instr.indexAt 166 t4_6 (.int .i64 0)) fun t32_34 =>
 RunA Try.prog (Instr.fieldAt 171 t32_34 0) fun t33_35 =>
 RunS Try.prog S_25 (Instr.loadAt 9 t33_35) fun t34_36 =>
 RunA Try.prog (Instr.indexAt 166 t5_7 (.int .i64 0)) fun t36_37 =>
 RunA Try.prog (Instr.fieldAt 171 t36_37 0) fun t37_38 =>
 RunS Try.prog S_25 (Instr.loadAt 9 t37_38) fun t38_39 =>
 RunA Try.prog (bin .lss 9 (.tmp 34) (.tmp 38) t34_36 t38_39) fun t39_40 =>
 IfB t39_40 (
 drw (fun S_41 w =>
 RunA Try.prog (Instr.indexAt 166 t4_6 (.int .i64 0)) fun t43_42 =>
 RunS Try.prog S_41 (Instr.loadAt 171 t43_42) fun t44_43 =>
 RunA Try.prog (Instr.sliceAt 166 t4_6 (some (.int .i64 1)) none none) fun t46_44 =>
 RunU Try.prog (Instr.storeAt 171 t6_13 t44_43) w fun w =>
 j_18 a0 t46_44 t5_7 t6_13 w) w) (
 jn 4 (fun t0_45 t4_46 t5_47 t6_48 w =>
 j_18 t0_45 t4_46 t5_47 t6_48 w) fun j_49 =>
 drw (fun S_50 w =>
 RunS Try.prog S_50 (Builtin.len_ #[166] 3 #[t4_6]) fun t49_51 =>
 RunA Try.prog (bin .gtr 3 (.tmp 49) (.const (.int .i64 0)) t49_51 (.int .i64 0)) fun t50_52 =>
 IfB t50_52 (
 RunA Try.prog (Instr.indexAt 166 t4_6 (.int .i64 0)) fun t53_53 =>
 RunA Try.prog (Instr.fieldAt 171 t53_53 0) fun t54_54 =>
 RunS Try.prog S_50 (Instr.loadAt 9 t54_54) fun t55_55 =>
 RunA Try.prog (Instr.indexAt 166 t5_7 (.int .i64 0)) fun t57_56 =>
 RunA Try.prog (Instr.fieldAt 171 t57_56 0) fun t58_57 =>
 RunS Try.prog S_50 (Instr.loadAt 9 t58_57) fun t59_58 =>
 RunS Try.prog S_50 (bin .eql 9 (.tmp 55) (.tmp 59) t55_55 t59_58) fun t60_59 =>
 IfB t60_59 (
 drw (fun S_60 w =>
 RunA Try.prog (Instr.indexAt 166 t5_7 (.int .i64 0)) fun t63_61 =>
 RunS Try.prog S_60 (Instr.loadAt 171 t63_61) fun t64_62 =>
 RunA Try.prog (Instr.sliceAt 166 t4_6 (some (.int .i64 1)) none none) fun t66_63 =>
 RunA Try.prog (Instr.sliceAt 166 t5_7 (some (.int .i64 1)) none none) fun t68_64 =>
 RunU Try.prog (Instr.storeAt 171 t6_13 t64_62) w fun w =>
 j_49 a0 t66_63 t68_64 t6_13 w) w) (
 drw (fun S_65 w =>
 RunA Try.prog (Instr.indexAt 166 t5_7 (.int .i64 0)) fun t18_66 =>
 RunS Try.prog S_65 (Instr.loadAt 171 t18_66) fun t19_67 =>
 RunA Try.prog (Instr.sliceAt 166 t5_7 (some (.int .i64 1)) none none) fun t21_68 =>
 RunU Try.prog (Instr.storeAt 171 t6_13 t19_67) w fun w =>
 j_49 a0 t4_6 t21_68 t6_13 w) w)) (
 drw (fun S_69 w =>
 RunA Try.prog (Instr.indexAt 166 t5_7 (.int .i64 0)) fun t18_70 =>
 RunS Try.prog S_69 (Instr.loadAt 171 t18_70) fun t19_71 =>
 RunA Try.prog (Instr.sliceAt 166 t5_7 (some (.int .i64 1)) none none) fun t21_72 =>
 RunU Try.prog (Instr.storeAt 171 t6_13 t19_71) w fun w =>
 j_49 a0 t4_6 t21_72 t6_13 w) w)) w)) (
 jn 4 (fun t0_73 t4_74 t5_75 t6_76 w =>
 j_18 t0_73 t4_74 t5_75 t6_76 w) fun j_77 =>
 drw (fun S_78 w =>
 RunS Try.prog S_78 (Builtin.len_ #[166] 3 #[t4_6]) fun t49_79 =>
 RunA Try.prog (bin .gtr 3 (.tmp 49) (.const (.int .i64 0)) t49_79 (.int .i64 0)) fun t50_80 =>
 IfB t50_80 (
 RunA Try.prog (Instr.indexAt 166 t4_6 (.int .i64 0)) fun t53_81 =>
 RunA Try.prog (Instr.fieldAt 171 t53_81 0) fun t54_82 =>
 RunS Try.prog S_78 (Instr.loadAt 9 t54_82) fun t55_83 =>
 RunA Try.prog (Instr.indexAt 166 t5_7 (.int .i64 0)) fun t57_84 =>
 RunA Try.prog (Instr.fieldAt 171 t57_84 0) fun t58_85 =>
 RunS Try.prog S_78 (Instr.loadAt 9 t58_85) fun t59_86 =>
 RunS Try.prog S_78 (bin .eql 9 (.tmp 55) (.tmp 59) t55_83 t59_86) fun t60_87 =>
 IfB t60_87 (
 drw (fun S_88 w =>
 RunA Try.prog (Instr.indexAt 166 t5_7 (.int .i64 0)) fun t63_89 =>
 RunS Try.prog S_88 (Instr.loadAt 171 t63_89) fun t64_90 =>
 RunA Try.prog (Instr.sliceAt 166 t4_6 (some (.int .i64 1)) none none) fun t66_91 =>
 RunA Try.prog (Instr.sliceAt 166 t5_7 (some (.int .i64 1)) none none) fun t68_92 =>
 RunU Try.prog (Instr.storeAt 171 t6_13 t64_90) w fun w =>
 j_77 a0 t66_91 t68_92 t6_13 w) w) (
 drw (fun S_93 w =>
 RunA Try.prog (Instr.indexAt 166 t5_7 (.int .i64 0)) fun t18_94 =>
 RunS Try.prog S_93 (Instr.loadAt 171 t18_94) fun t19_95 =>
 RunA Try.prog (Instr.sliceAt 166 t5_7 (some (.int .i64 1)) none none) fun t21_96 =>
 RunU Try.prog (Instr.storeAt 171 t6_13 t19_95) w fun w =>
 j_77 a0 t4_6 t21_96 t6_13 w) w)) (
 drw (fun S_97 w =>
 RunA Try.prog (Instr.indexAt 166 t5_7 (.int .i64 0)) fun t18_98 =>
 RunS Try.prog S_97 (Instr.loadAt 171 t18_98) fun t19_99 =>
 RunA Try.prog (Instr.sliceAt 166 t5_7 (some (.int .i64 1)) none none) fun t21_100 =>
 RunU Try.prog (Instr.storeAt 171 t6_13 t19_99) w fun w =>
 j_77 a0 t4_6 t21_100 t6_13 w) w)) w))) w) (
 R (.tuple #[]) w)) [t8_4, t10_5] w)) w
theorem sh119_calls {a0 a1 a2 : Value} {w : World} {R : Value → World → Prop} (h : sh119 a0 a1 a2 w R) : CallF Try.prog 119 #[a0, a1, a2] w R :=
  calls_of_denF (mk := false) (args := [a0, a1, a2]) (an := (.seq (.draw (.q 0 (.q 2 (.one 1 (.one 3 (.q 4 (.q 5 .fin)))))) [0, 4, 5]) (.blk (.loop [0] [4, 5] (.seq (.seq (.ops [0, 4, 5, 16]) (.cond .leaf .leaf)) (.blk (.seq (.ops [0, 4, 5, 6]) (.seq (.blk (.join [0, 4, 5, 6] (.seq (.draw (.q 0 (.q 1 (.q 2 (.q 3 (.sp 4 (.q 4 (.q 5 (.q 6 (.q 7 (.q 8 (.q 9 (.q 10 (.q 11 (.q 12 (.q 13 (.q 14 (.q 15 (.q 16 (.q 17 (.q 18 (.q 19 .fin)))))))))))))))) (.q 4 (.q 5 (.q 6 (.q 7 (.sp 8 (.q 8 (.q 9 (.q 10 (.q 11 (.q 12 (.q 13 (.q 14 (.q 15 (.q 16 (.q 17 (.q 18 (.q 19 .fin)))))))))))) (.q 8 (.q 9 (.q 10 (.q 11 (.q 12 (.q 13 (.q 14 (.q 15 (.q 16 (.q 17 (.q 18 (.q 19 .fin)))))))))))))))))))))) [0, 4, 5, 6, 22]) (.cond (.draw (.q 0 (.q 1 (.q 2 (.q 3 (.q 4 (.one 5 (.q 6 .fin))))))) [0, 4, 5, 6]) (.join [0, 4, 5, 6] (.seq (.draw (.q 0 (.q 1 (.q 2 (.q 3 (.sp 4 (.q 4 (.q 5 (.q 6 (.q 7 (.q 8 (.q 9 (.q 10 (.q 11 (.q 12 (.q 13 (.q 14 .fin))))))))))) (.q 4 (.q 5 (.q 6 (.q 7 (.q 8 (.q 9 (.q 10 (.q 11 (.q 12 (.q 13 (.q 14 .fin)))))))))))))))) [0, 4, 5, 6, 47]) (.cond (.draw (.q 0 (.q 1 (.q 2 (.q 3 (.q 4 (.q 5 (.q 6 (.one 7 (.q 8 (.q 9 .fin)))))))))) [0, 4, 5, 6]) (.draw (.q 0 (.q 1 (.q 2 (.q 3 (.q 4 (.one 5 (.q 6 .fin))))))) [0, 4, 5, 6])))))))) (.seq (.ops [0, 4, 5, 75]) (.cond .leaf .leaf)))))))))) (c := Try.f119.body.getD .skip) hentD Try.func119 rfl (Nat.le_of_ble_eq_true (by kernel_rfl))
    (Eq.mp (show sh119 a0 a1 a2 w R = denF Try.prog entD false Try.f119 (.seq (.draw (.q 0 (.q 2 (.one 1 (.one 3 (.q 4 (.q 5 .fin)))))) [0, 4, 5]) (.blk (.loop [0] [4, 5] (.seq (.seq (.ops [0, 4, 5, 16]) (.cond .leaf .leaf)) (.blk (.seq (.ops [0, 4, 5, 6]) (.seq (.blk (.join [0, 4, 5, 6] (.seq (.draw (.q 0 (.q 1 (.q 2 (.q 3 (.sp 4 (.q 4 (.q 5 (.q 6 (.q 7 (.q 8 (.q 9 (.q 10 (.q 11 (.q 12 (.q 13 (.q 14 (.q 15 (.q 16 (.q 17 (.q 18 (.q 19 .fin)))))))))))))))) (.q 4 (.q 5 (.q 6 (.q 7 (.sp 8 (.q 8 (.q 9 (.q 10 (.q 11 (.q 12 (.q 13 (.q 14 (.q 15 (.q 16 (.q 17 (.q 18 (.q 19 .fin)))))))))))) (.q 8 (.q 9 (.q 10 (.q 11 (.q 12 (.q 13 (.q 14 (.q 15 (.q 16 (.q 17 (.q 18 (.q 19 .fin)))))))))))))))))))))) [0, 4, 5, 6, 22]) (.cond (.draw (.q 0 (.q 1 (.q 2 (.q 3 (.q 4 (.one 5 (.q 6 .fin))))))) [0, 4, 5, 6]) (.join [0, 4, 5, 6] (.seq (.draw (.q 0 (.q 1 (.q 2 (.q 3 (.sp 4 (.q 4 (.q 5 (.q 6 (.q 7 (.q 8 (.q 9 (.q 10 (.q 11 (.q 12 (.q 13 (.q 14 .fin))))))))))) (.q 4 (.q 5 (.q 6 (.q 7 (.q 8 (.q 9 (.q 10 (.q 11 (.q 12 (.q 13 (.q 14 .fin)))))))))))))))) [0, 4, 5, 6, 47]) (.cond (.draw (.q 0 (.q 1 (.q 2 (.q 3 (.q 4 (.q 5 (.q 6 (.one 7 (.q 8 (.q 9 .fin)))))))))) [0, 4, 5, 6]) (.draw (.q 0 (.q 1 (.q 2 (.q 3 (.q 4 (.one 5 (.q 6 .fin))))))) [0, 4, 5, 6])))))))) (.seq (.ops [0, 4, 5, 75]) (.cond .leaf .leaf))))))))) (Try.f119.body.getD .skip) [a0, a1, a2] w R by kernel_rfl) h)

/-! ### 120: handbill/omap.taken[string,handbill/api.Write] -/
def sh120 (a0 : Value) (w : World) (R : Value → World → Prop) : Prop :=
 RunW Try.prog (bin .eql 141 (.tmp 6) (.const (.nilFunc)) a0 (.nilFunc)) w fun t7_1 =>
 IfB t7_1 (
 R (.slice none 0 0) w) (
 RunV Try.prog (Instr.alloc 166 true (.tuple #[])) w fun t3_2 w =>
 rngP Try.prog none 2 3 (fun l_3 K_4 t9_10 t10_11 w =>
 RunV Try.prog (Instr.alloc 86 true (.tuple #[])) w fun t5_15 w =>
 RunU Try.prog (Instr.storeAt 86 t5_15 t10_11) w fun w =>
 K_4 t3_2 t9_10 t5_15 w) (fun l_3 kn_5 ks_6 t3_12 t4_13 t5_14 w =>
 RunW Try.prog (Instr.loadAt 166 t3_12) w fun t11_16 =>
 RunW Try.prog (Instr.loadAt 86 t5_14) w fun t13_17 =>
 RunV Try.prog (Instr.build 171 #[(0, t4_13), (1, t13_17)]) w fun t14_18 w =>
 RunV Try.prog (Instr.buildSlice 166 1 #[(0, t14_18)]) w fun t15_19 w =>
 RunV Try.prog (Builtin.append_ #[166, 166] 166 #[t11_16, t15_19]) w fun t16_20 w =>
 RunU Try.prog (Instr.storeAt 166 t3_12 t16_20) w fun w =>
 kn_5 w) a0 w (fun D_7 w =>
 RunW Try.prog (Instr.loadAt 166 t3_2) w fun t17_21 =>
 (w).heap[D_7]? = some (.deferred (some [])) ∧ (
 R t17_21 (w.putObj D_7 (.deferred none)))) (fun D_7 c_8 w => jumpK (fun i_9 w =>
 bif Nat.beq i_9 0 then (
 RunW Try.prog (Instr.loadAt 166 t3_2) w fun t17_22 =>
 (w).heap[D_7]? = some (.deferred (some [])) ∧ (
 R t17_22 (w.putObj D_7 (.deferred none)))) else (
 False)) (fun w =>
 (w).heap[D_7]? = some (.deferred (some [])) ∧ (
 False)) c_8 w))
theorem sh120_calls {a0 : Value} {w : World} {R : Value → World → Prop} (h : sh120 a0 w R) : CallF Try.prog 120 #[a0] w R :=
  calls_of_denF (mk := true) (args := [a0]) (an := (.seq (.ops [0]) (.seq (.seq (.ops [0, 7]) (.cond (.seq (.ops [2]) .leaf) .leaf)) (.seq (.ops [0, 3]) (.seq (.seq (.ops [3, 8]) (.blk (.rng [3, 4, 5] (.seq (.ops [3, 4, 10]) (.ops [3, 4, 5])) (.blk (.ops []))))) (.seq (.ops [2]) .leaf)))))) (c := Try.f120.body.getD .skip) hentD Try.func120 rfl (Nat.le_of_ble_eq_true (by kernel_rfl))
    (Eq.mp (show sh120 a0 w R = denF Try.prog entD true Try.f120 (.seq (.ops [0]) (.seq (.seq (.ops [0, 7]) (.cond (.seq (.ops [2]) .leaf) .leaf)) (.seq (.ops [0, 3]) (.seq (.seq (.ops [3, 8]) (.blk (.rng [3, 4, 5] (.seq (.ops [3, 4, 10]) (.ops [3, 4, 5])) (.blk (.ops []))))) (.seq (.ops [2]) .leaf))))) (Try.f120.body.getD .skip) [a0] w R by kernel_rfl) h)

/-! ### 121: (*handbill/txn.Txn).stored$1 -/
def sh121 (a0 a1 a2 a3 : Value) (w : World) (R : Value → World → Prop) : Prop :=
 RunV Try.prog (Instr.box 169 a0) w fun t4_1 w =>
 drw (fun S_2 w =>
 RunS Try.prog S_2 (Instr.loadAt 72 a1) fun t7_3 =>
 RunA Try.prog (nilV t7_3) fun t8_4 =>
 RunA Try.prog (Instr.fieldAt 136 t8_4 0) fun t9_5 =>
 RunS Try.prog S_2 (Instr.loadAt 35 t9_5) fun t10_6 =>
 RunS Try.prog S_2 (Instr.loadAt 9 a2) fun t11_7 =>
 RunS Try.prog S_2 (Instr.loadAt 9 a3) fun t12_8 =>
 RunS Try.prog S_2 (Instr.loadAt 72 a1) fun t13_9 =>
 RunA Try.prog (nilV t13_9) fun t14_10 =>
 RunA Try.prog (Instr.fieldAt 136 t14_10 1) fun t15_11 =>
 RunS Try.prog S_2 (Instr.loadAt 3 t15_11) fun t16_12 =>
 CallF Try.prog 25 #[t10_6, t11_7, t12_8, t16_12] w fun t17_13 w =>
 rngP Try.prog none 2 3 (fun l_14 K_15 t18_21 t19_22 w =>
 K_15 t4_1 t18_21 t19_22 w) (fun l_14 kn_16 ks_17 t4_23 t5_24 t6_25 w =>
 RunW Try.prog (Instr.loadAt 169 t4_23) w fun t20_26 =>
 RunV Try.prog (Instr.build 86 #[(0, t5_24), (1, t6_25)]) w fun t24_27 w =>
 CallV Try.prog t20_26 #[t5_24, t24_27] w fun t25_28 w =>
 RunA Try.prog (Op.unary .not t25_28) fun t26_29 =>
 IfB t26_29 (
 ks_17 .ret w) (
 kn_16 w)) t17_13 w (fun D_18 w =>
 (w).heap[D_18]? = some (.deferred (some [])) ∧ (
 R (.tuple #[]) (w.putObj D_18 (.deferred none)))) (fun D_18 c_19 w => jumpK (fun i_20 w =>
 bif Nat.beq i_20 0 then (
 (w).heap[D_18]? = some (.deferred (some [])) ∧ (
 R (.tuple #[]) (w.putObj D_18 (.deferred none)))) else (
 False)) (fun w =>
 (w).heap[D_18]? = some (.deferred (some [])) ∧ (
 R (.tuple #[]) (w.putObj D_18 (.deferred none)))) c_19 w)) w
theorem sh121_calls {a0 a1 a2 a3 : Value} {w : World} {R : Value → World → Prop} (h : sh121 a0 a1 a2 a3 w R) : CallF Try.prog 121 #[a0, a1, a2, a3] w R :=
  calls_of_denF (mk := true) (args := [a0, a1, a2, a3]) (an := (.seq (.ops [1, 2, 3, 4]) (.seq (.draw (.q 0 (.q 1 (.q 2 (.q 3 (.q 4 (.q 5 (.q 6 (.q 7 (.q 8 (.q 9 (.one 10 .fin))))))))))) [4, 17]) (.blk (.rng [4, 5, 6] (.seq (.ops [4, 5, 19]) (.ops [4, 5, 6])) (.blk (.seq (.ops [26]) (.cond .leaf .leaf)))))))) (c := Try.f121.body.getD .skip) hentD Try.func121 rfl (Nat.le_of_ble_eq_true (by kernel_rfl))
    (Eq.mp (show sh121 a0 a1 a2 a3 w R = denF Try.prog entD true Try.f121 (.seq (.ops [1, 2, 3, 4]) (.seq (.draw (.q 0 (.q 1 (.q 2 (.q 3 (.q 4 (.q 5 (.q 6 (.q 7 (.q 8 (.q 9 (.one 10 .fin))))))))))) [4, 17]) (.blk (.rng [4, 5, 6] (.seq (.ops [4, 5, 19]) (.ops [4, 5, 6])) (.blk (.seq (.ops [26]) (.cond .leaf .leaf))))))) (Try.f121.body.getD .skip) [a0, a1, a2, a3] w R by kernel_rfl) h)

/-! ### 122: (*handbill/omap.Map[string, handbill/api.Write]).Range -/
def sh122 (a0 a1 a2 : Value) (w : World) (R : Value → World → Prop) : Prop :=
 RunV Try.prog (Instr.box 133 a0) w fun t3_1 w =>
 RunV Try.prog (Instr.box 9 a1) w fun t4_2 w =>
 RunV Try.prog (Instr.box 9 a2) w fun t5_3 w =>
 RunV Try.prog (Instr.makeFunc (Go.Fn.func 140) #[] #[t3_1, t4_2, t5_3]) w fun t7_4 w =>
 R t7_4 w
theorem sh122_calls {a0 a1 a2 : Value} {w : World} {R : Value → World → Prop} (h : sh122 a0 a1 a2 w R) : CallF Try.prog 122 #[a0, a1, a2] w R :=
  calls_of_denF (mk := false) (args := [a0, a1, a2]) (an := (.seq (.ops [3, 4, 5]) (.seq (.ops [6]) .leaf))) (c := Try.f122.body.getD .skip) hentD Try.func122 rfl (Nat.le_of_ble_eq_true (by kernel_rfl))
    (Eq.mp (show sh122 a0 a1 a2 w R = denF Try.prog entD false Try.f122 (.seq (.ops [3, 4, 5]) (.seq (.ops [6]) .leaf)) (Try.f122.body.getD .skip) [a0, a1, a2] w R by kernel_rfl) h)

/-! ### 123: (*handbill/txn.Txn).own$1 -/
def sh123 (a0 a1 a2 : Value) (w : World) (R : Value → World → Prop) : Prop :=
 RunV Try.prog (Instr.box 169 a0) w fun t3_1 w =>
 RunW Try.prog (Instr.loadAt 72 a1) w fun t6_2 =>
 RunA Try.prog (nilV t6_2) fun t7_3 =>
 RunA Try.prog (Instr.fieldAt 136 t7_3 2) fun t8_4 =>
 RunW Try.prog (Instr.loadAt 133 t8_4) w fun t9_5 =>
 CallF Try.prog 99 #[t9_5] w fun t10_6 w =>
 rngP Try.prog none 2 4 (fun l_7 K_8 t11_14 t12_15 w =>
 RunV Try.prog (Instr.alloc 86 true (.tuple #[])) w fun t5_20 w =>
 RunU Try.prog (Instr.storeAt 86 t5_20 t12_15) w fun w =>
 K_8 a2 t3_1 t11_14 t5_20 w) (fun l_7 kn_9 ks_10 t2_16 t3_17 t4_18 t5_19 w =>
 jn 0 (fun w =>
 kn_9 w) fun j_21 =>
 RunW Try.prog (Instr.loadAt 9 t2_16) w fun t14_22 =>
 RunA Try.prog (bin .geq 9 (.tmp 13) (.tmp 14) t4_18 t14_22) fun t15_23 =>
 IfB t15_23 (
 RunW Try.prog (Instr.loadAt 169 t3_17) w fun t17_24 =>
 RunW Try.prog (Instr.loadAt 86 t5_19) w fun t19_25 =>
 CallV Try.prog t17_24 #[t4_18, t19_25] w fun t20_26 w =>
 RunA Try.prog (Op.unary .not t20_26) fun t21_27 =>
 IfB t21_27 (
 ks_10 .ret w) (
 j_21 w)) (
 j_21 w)) t10_6 w (fun D_11 w =>
 (w).heap[D_11]? = some (.deferred (some [])) ∧ (
 R (.tuple #[]) (w.putObj D_11 (.deferred none)))) (fun D_11 c_12 w => jumpK (fun i_13 w =>
 bif Nat.beq i_13 0 then (
 (w).heap[D_11]? = some (.deferred (some [])) ∧ (
 R (.tuple #[]) (w.putObj D_11 (.deferred none)))) else (
 False)) (fun w =>
 (w).heap[D_11]? = some (.deferred (some [])) ∧ (
 R (.tuple #[]) (w.putObj D_11 (.deferred none)))) c_12 w)
theorem sh123_calls {a0 a1 a2 : Value} {w : World} {R : Value → World → Prop} (h : sh123 a0 a1 a2 w R) : CallF Try.prog 123 #[a0, a1, a2] w R :=
  calls_of_denF (mk := true) (args := [a0, a1, a2]) (an := (.seq (.ops [1, 2, 3]) (.seq (.ops [2, 3, 10]) (.blk (.rng [2, 3, 4, 5] (.seq (.ops [2, 3, 4, 12]) (.ops [2, 3, 4, 5])) (.blk (.join [] (.seq (.ops [22]) (.cond .leaf .leaf))))))))) (c := Try.f123.body.getD .skip) hentD Try.func123 rfl (Nat.le_of_ble_eq_true (by kernel_rfl))
    (Eq.mp (show sh123 a0 a1 a2 w R = denF Try.prog entD true Try.f123 (.seq (.ops [1, 2, 3]) (.seq (.ops [2, 3, 10]) (.blk (.rng [2, 3, 4, 5] (.seq (.ops [2, 3, 4, 12]) (.ops [2, 3, 4, 5])) (.blk (.join [] (.seq (.ops [22]) (.cond .leaf .leaf)))))))) (Try.f123.body.getD .skip) [a0, a1, a2] w R by kernel_rfl) h)

/-! ### 124: internal/stringslite.HasPrefix -/
def sh124 (a0 a1 : Value) (w : World) (R : Value → World → Prop) : Prop :=
 RunW Try.prog (Builtin.len_ #[9] 3 #[a0]) w fun t6_1 =>
 RunW Try.prog (Builtin.len_ #[9] 3 #[a1]) w fun t8_2 =>
 RunA Try.prog (bin .geq 3 (.tmp 6) (.tmp 8) t6_1 t8_2) fun t9_3 =>
 IfB t9_3 (
 RunW Try.prog (Builtin.len_ #[9] 3 #[a1]) w fun t13_4 =>
 RunA Try.prog (Instr.sliceAt 9 a0 none (some t13_4) none) fun t14_5 =>
 RunW Try.prog (bin .eql 9 (.tmp 14) (.tmp 15) t14_5 a1) w fun t16_6 =>
 R t16_6 w) (
 R (.bool false) w)
theorem sh124_calls {a0 a1 : Value} {w : World} {R : Value → World → Prop} (h : sh124 a0 a1 w R) : CallF Try.prog 124 #[a0, a1] w R :=
  calls_of_denF (mk := false) (args := [a0, a1]) (an := (.seq (.ops [0, 1]) (.seq (.ops [4]) .leaf))) (c := Try.f124.body.getD .skip) hentD Try.func124 rfl (Nat.le_of_ble_eq_true (by kernel_rfl))
    (Eq.mp (show sh124 a0 a1 w R = denF Try.prog entD false Try.f124 (.seq (.ops [0, 1]) (.seq (.ops [4]) .leaf)) (Try.f124.body.getD .skip) [a0, a1] w R by kernel_rfl) h)

/-! ### 125: (*handbill/omap.Map[string, handbill/api.Write]).All$1 -/
def sh125 (a0 a1 : Value) (w : World) (R : Value → World → Prop) : Prop :=
 RunW Try.prog (Instr.loadAt 133 a1) w fun t5_1 =>
 RunA Try.prog (nilV t5_1) fun t6_2 =>
 RunA Try.prog (Instr.fieldAt 168 t6_2 0) fun t7_3 =>
 RunW Try.prog (Instr.loadAt 166 t7_3) w fun t8_4 =>
 CallF Try.prog 126 #[t8_4] w fun t9_5 w =>
 RunW Try.prog (Builtin.len_ #[166] 3 #[t9_5]) w fun t10_6 =>
 lp 1 (fun n_8 t11_7 w =>
 RunA Try.prog (bin .lss 3 (.tmp 11) (.tmp 10) t11_7 t10_6) fun t12_9 =>
 IfB t12_9 (
 RunA Try.prog (Instr.indexAt 166 t9_5 t11_7) fun t13_10 =>
 RunW Try.prog (Instr.loadAt 171 t13_10) w fun t14_11 =>
 RunV Try.prog (Instr.alloc 171 true (.tuple #[])) w fun t4_12 w =>
 RunU Try.prog (Instr.storeAt 171 t4_12 t14_11) w fun w =>
 RunA Try.prog (Instr.fieldAt 171 t4_12 0) fun t16_13 =>
 RunW Try.prog (Instr.loadAt 9 t16_13) w fun t17_14 =>
 RunA Try.prog (Instr.fieldAt 171 t4_12 1) fun t18_15 =>
 RunW Try.prog (Instr.loadAt 86 t18_15) w fun t19_16 =>
 CallV Try.prog a0 #[t17_14, t19_16] w fun t20_17 w =>
 RunA Try.prog (Op.unary .not t20_17) fun t21_18 =>
 IfB t21_18 (
 R (.tuple #[]) w) (
 RunA Try.prog (bin .add 3 (.tmp 11) (.const (.int .i64 1)) t11_7 (.int .i64 1)) fun t22_19 =>
 (a0 : Value) = a0 ∧ ((t9_5 : Value) = t9_5 ∧ ((t10_6 : Value) = t10_6 ∧ (n_8 t22_19 w))))) (
 R (.tuple #[]) w)) [(.int .i64 0)] w
theorem sh125_calls {a0 a1 : Value} {w : World} {R : Value → World → Prop} (h : sh125 a0 a1 w R) : CallF Try.prog 125 #[a0, a1] w R :=
  calls_of_denF (mk := false) (args := [a0, a1]) (an := (.seq (.ops [0, 9, 10, 11]) (.blk (.loop [0, 9, 10] [11] (.seq (.ops [0, 9, 10, 11, 12]) (.seq (.cond .leaf .leaf) (.seq (.blk (.seq (.ops [0, 4, 9, 10, 11]) (.seq (.ops [0, 9, 10, 11, 21]) (.cond .leaf .leaf)))) (.ops [0, 9, 10, 11])))))))) (c := Try.f125.body.getD .skip) hentD Try.func125 rfl (Nat.le_of_ble_eq_true (by kernel_rfl))
    (Eq.mp (show sh125 a0 a1 w R = denF Try.prog entD false Try.f125 (.seq (.ops [0, 9, 10, 11]) (.blk (.loop [0, 9, 10] [11] (.seq (.ops [0, 9, 10, 11, 12]) (.seq (.cond .leaf .leaf) (.seq (.blk (.seq (.ops [0, 4, 9, 10, 11]) (.seq (.ops [0, 9, 10, 11, 21]) (.cond .leaf .leaf)))) (.ops [0, 9, 10, 11]))))))) (Try.f125.body.getD .skip) [a0, a1] w R by kernel_rfl) h)

/-! ### 126: slices.Clone[[]handbill/omap.pair[string, handbill/api.Write],handbill/omap.pair[string, handbill/api.Write]] -/
def sh126 (a0 : Value) (w : World) (R : Value → World → Prop) : Prop :=
 RunW Try.prog (bin .eql 166 (.tmp 3) (.const (.slice none 0 0)) a0 (.slice none 0 0)) w fun t4_1 =>
 IfB t4_1 (
 R (.slice none 0 0) w) (
 RunV Try.prog (Instr.buildSlice 166 0 #[]) w fun t5_2 w =>
 RunV Try.prog (Builtin.append_ #[166, 166] 166 #[t5_2, a0]) w fun t7_3 w =>
 R t7_3 w)
theorem sh126_calls {a0 : Value} {w : World} {R : Value → World → Prop} (h : sh126 a0 w R) : CallF Try.prog 126 #[a0] w R :=
  calls_of_denF (mk := false) (args := [a0]) (an := (.seq (.ops [0]) (.seq (.seq (.ops [0, 4]) (.cond (.seq (.ops [2]) .leaf) .leaf)) (.seq (.ops [2]) .leaf)))) (c := Try.f126.body.getD .skip) hentD Try.func126 rfl (Nat.le_of_ble_eq_true (by kernel_rfl))
    (Eq.mp (show sh126 a0 w R = denF Try.prog entD false Try.f126 (.seq (.ops [0]) (.seq (.seq (.ops [0, 4]) (.cond (.seq (.ops [2]) .leaf) .leaf)) (.seq (.ops [2]) .leaf))) (Try.f126.body.getD .skip) [a0] w R by kernel_rfl) h)

/-! ### 137: slices.Insert[[]handbill/omap.pair[string, handbill/api.Write],handbill/omap.pair[string, handbill/api.Write]] -/
def sh137 (a0 a1 a2 : Value) (w : World) (R : Value → World → Prop) : Prop :=
 RunA Try.prog (Instr.sliceAt 166 a0 (some a1) none none) fun t12_1 =>
 RunW Try.prog (Builtin.len_ #[166] 3 #[a2]) w fun t14_2 =>
 RunW Try.prog (bin .eql 3 (.tmp 15) (.const (.int .i64 0)) t14_2 (.int .i64 0)) w fun t16_3 =>
 IfB t16_3 (
 R a0 w) (
 RunW Try.prog (Builtin.len_ #[166] 3 #[a0]) w fun t19_4 =>
 RunW Try.prog (bin .eql 3 (.tmp 20) (.tmp 21) a1 t19_4) w fun t22_5 =>
 IfB t22_5 (
 RunV Try.prog (Builtin.append_ #[166, 166] 166 #[a0, a2]) w fun t25_6 w =>
 R t25_6 w) (
 RunA Try.prog (bin .add 3 (.tmp 26) (.tmp 27) t19_4 t14_2) fun t28_7 =>
 RunW Try.prog (Builtin.cap_ #[166] 3 #[a0]) w fun t30_8 =>
 RunA Try.prog (bin .gtr 3 (.tmp 28) (.tmp 30) t28_7 t30_8) fun t31_9 =>
 IfB t31_9 (
 RunA Try.prog (Instr.sliceAt 166 a0 none (some a1) none) fun t34_10 =>
 RunA Try.prog (bin .add 3 (.tmp 35) (.tmp 36) t19_4 t14_2) fun t37_11 =>
 RunA Try.prog (bin .sub 3 (.tmp 37) (.tmp 38) t37_11 a1) fun t39_12 =>
 RunV Try.prog (Builtin.append_ #[166, 3] 166 #[t34_10, t39_12]) w fun t40_13 w =>
 RunA Try.prog (Instr.sliceAt 166 t40_13 (some a1) none none) fun t43_14 =>
 RunV Try.prog (Builtin.copy_ #[166, 166] 3 #[t43_14, a2]) w fun t45_15 w =>
 drw (fun S_16 w =>
 RunA Try.prog (bin .add 3 (.tmp 47) (.tmp 48) a1 t14_2) fun t49_17 =>
 RunA Try.prog (Instr.sliceAt 166 t40_13 (some t49_17) none none) fun t50_18 =>
 RunA Try.prog (Instr.sliceAt 166 a0 (some a1) none none) fun t53_19 =>
 RunV Try.prog (Builtin.copy_ #[166, 166] 3 #[t50_18, t53_19]) w fun t54_20 w =>
 R t40_13 w) w) (
 RunA Try.prog (bin .add 3 (.tmp 57) (.tmp 58) t19_4 t14_2) fun t59_21 =>
 RunA Try.prog (Instr.sliceAt 166 a0 none (some t59_21) none) fun t60_22 =>
 RunA Try.prog (bin .add 3 (.tmp 63) (.tmp 64) a1 t14_2) fun t65_23 =>
 RunA Try.prog (Instr.sliceAt 166 t60_22 (some t65_23) none none) fun t66_24 =>
 RunO Try.prog (callFunc 144 #[a2, t66_24]) w fun t67_25 w =>
 RunA Try.prog (Op.unary .not t67_25) fun t68_26 =>
 IfB t68_26 (
 drw (fun S_27 w =>
 RunA Try.prog (bin .add 3 (.tmp 70) (.tmp 71) a1 t14_2) fun t72_28 =>
 RunA Try.prog (Instr.sliceAt 166 t60_22 (some t72_28) none none) fun t73_29 =>
 RunA Try.prog (Instr.sliceAt 166 t60_22 (some a1) none none) fun t76_30 =>
 RunV Try.prog (Builtin.copy_ #[166, 166] 3 #[t73_29, t76_30]) w fun t77_31 w =>
 RunA Try.prog (Instr.sliceAt 166 t60_22 (some a1) none none) fun t80_32 =>
 RunV Try.prog (Builtin.copy_ #[166, 166] 3 #[t80_32, a2]) w fun t82_33 w =>
 R t60_22 w) w) (
 RunA Try.prog (Instr.sliceAt 166 t60_22 (some t19_4) none none) fun t86_34 =>
 RunV Try.prog (Builtin.copy_ #[166, 166] 3 #[t86_34, a2]) w fun t88_35 w =>
 RunA Try.prog (Instr.sliceAt 166 t60_22 (some a1) none none) fun t91_36 =>
 RunO Try.prog (callFunc 145 #[t91_36, t14_2]) w fun t93_37 w =>
 R t60_22 w))))
theorem sh137_calls {a0 a1 a2 : Value} {w : World} {R : Value → World → Prop} (h : sh137 a0 a1 a2 w R) : CallF Try.prog 137 #[a0, a1, a2] w R :=
  calls_of_denF (mk := false) (args := [a0, a1, a2]) (an := (.seq (.ops [0, 1, 2]) (.seq (.ops [0, 1, 2]) (.seq (.ops [0, 1, 2, 7]) (.seq (.seq (.ops [0, 1, 2, 7, 16]) (.cond (.seq (.ops [6]) .leaf) .leaf)) (.seq (.ops [0, 1, 2, 7, 8]) (.seq (.seq (.ops [0, 1, 2, 7, 8, 22]) (.cond (.seq (.ops [6]) .leaf) .leaf)) (.seq (.seq (.ops [0, 1, 2, 7, 8, 31]) (.cond (.seq (.ops [0, 1, 2, 7, 9]) (.seq (.ops [0, 1, 7, 9]) (.seq (.draw (.q 0 (.q 1 (.q 2 (.q 3 (.q 4 (.q 5 (.q 6 (.q 7 (.one 8 .fin))))))))) [9]) (.seq (.ops [6]) .leaf)))) .leaf)) (.seq (.ops [0, 1, 2, 7, 8]) (.seq (.seq (.ops [0, 1, 2, 7, 8, 68]) (.cond (.seq (.draw (.q 0 (.q 1 (.q 2 (.q 3 (.q 4 (.q 5 (.q 6 (.q 7 (.one 8 .fin))))))))) [0, 1, 2]) (.seq (.ops [0]) (.seq (.ops [6]) .leaf))) .leaf)) (.seq (.ops [0, 1, 7]) (.seq (.ops [0]) (.seq (.ops [6]) .leaf))))))))))))) (c := Try.f137.body.getD .skip) hentD Try.func137 rfl (Nat.le_of_ble_eq_true (by kernel_rfl))
    (Eq.mp (show sh137 a0 a1 a2 w R = denF Try.prog entD false Try.f137 (.seq (.ops [0, 1, 2]) (.seq (.ops [0, 1, 2]) (.seq (.ops [0, 1, 2, 7]) (.seq (.seq (.ops [0, 1, 2, 7, 16]) (.cond (.seq (.ops [6]) .leaf) .leaf)) (.seq (.ops [0, 1, 2, 7, 8]) (.seq (.seq (.ops [0, 1, 2, 7, 8, 22]) (.cond (.seq (.ops [6]) .leaf) .leaf)) (.seq (.seq (.ops [0, 1, 2, 7, 8, 31]) (.cond (.seq (.ops [0, 1, 2, 7, 9]) (.seq (.ops [0, 1, 7, 9]) (.seq (.draw (.q 0 (.q 1 (.q 2 (.q 3 (.q 4 (.q 5 (.q 6 (.q 7 (.one 8 .fin))))))))) [9]) (.seq (.ops [6]) .leaf)))) .leaf)) (.seq (.ops [0, 1, 2, 7, 8]) (.seq (.seq (.ops [0, 1, 2, 7, 8, 68]) (.cond (.seq (.draw (.q 0 (.q 1 (.q 2 (.q 3 (.q 4 (.q 5 (.q 6 (.q 7 (.one 8 .fin))))))))) [0, 1, 2]) (.seq (.ops [0]) (.seq (.ops [6]) .leaf))) .leaf)) (.seq (.ops [0, 1, 7]) (.seq (.ops [0]) (.seq (.ops [6]) .leaf)))))))))))) (Try.f137.body.getD .skip) [a0, a1, a2] w R by kernel_rfl) h)

/-! ### 138: slices.BinarySearchFunc[[]handbill/omap.pair[string, handbill/api.Write],handbill/omap.pair[string, handbill/api.Write],string] -/
def sh138 (a0 a1 a2 : Value) (w : World) (R : Value → World → Prop) : Prop :=
 RunW Try.prog (Builtin.len_ #[166] 3 #[a0]) w fun t13_1 =>
 lp 2 (fun n_4 t9_2 t10_3 w =>
 RunA Try.prog (bin .lss 3 (.tmp 15) (.tmp 16) t9_2 t10_3) fun t17_5 =>
 IfB t17_5 (
 RunA Try.prog (bin .add 3 (.tmp 18) (.tmp 19) t9_2 t10_3) fun t20_6 =>
 RunV Try.prog (convert 3 186 t20_6) w fun t21_7 w =>
 RunA Try.prog (bin .shr 186 (.tmp 21) (.const (.int .u64 1)) t21_7 (.int .u64 1)) fun t22_8 =>
 RunV Try.prog (convert 186 3 t22_8) w fun t23_9 w =>
 jn 6 (fun t0_10 t1_11 t2_12 t8_13 t9_14 t10_15 w =>
 (t0_10 : Value) = a0 ∧ ((t1_11 : Value) = a1 ∧ ((t2_12 : Value) = a2 ∧ ((t8_13 : Value) = t13_1 ∧ (n_4 t9_14 t10_15 w))))) fun j_16 =>
 RunA Try.prog (Instr.indexAt 166 a0 t23_9) fun t27_17 =>
 RunW Try.prog (Instr.loadAt 171 t27_17) w fun t28_18 =>
 CallV Try.prog a2 #[t28_18, a1] w fun t30_19 w =>
 RunA Try.prog (bin .lss 3 (.tmp 30) (.const (.int .i64 0)) t30_19 (.int .i64 0)) fun t31_20 =>
 IfB t31_20 (
 RunA Try.prog (bin .add 3 (.tmp 32) (.const (.int .i64 1)) t23_9 (.int .i64 1)) fun t33_21 =>
 j_16 a0 a1 a2 t13_1 t33_21 t10_3 w) (
 j_16 a0 a1 a2 t13_1 t9_2 t23_9 w)) (
 RunA Try.prog (bin .lss 3 (.tmp 36) (.tmp 37) t9_2 t13_1) fun t38_22 =>
 IfB t38_22 (
 RunA Try.prog (Instr.indexAt 166 a0 t9_2) fun t43_23 =>
 RunW Try.prog (Instr.loadAt 171 t43_23) w fun t44_24 =>
 CallV Try.prog a2 #[t44_24, a1] w fun t46_25 w =>
 RunW Try.prog (bin .eql 3 (.tmp 46) (.const (.int .i64 0)) t46_25 (.int .i64 0)) w fun t47_26 =>
 R (.tuple #[t9_2, t47_26]) w) (
 R (.tuple #[t9_2, (.bool false)]) w))) [(.int .i64 0), t13_1] w
theorem sh138_calls {a0 a1 a2 : Value} {w : World} {R : Value → World → Prop} (h : sh138 a0 a1 a2 w R) : CallF Try.prog 138 #[a0, a1, a2] w R :=
  calls_of_denF (mk := false) (args := [a0, a1, a2]) (an := (.seq (.ops [0, 1, 2]) (.seq (.ops [0, 1, 2, 8]) (.seq (.ops [0, 1, 2, 8, 9, 10]) (.seq (.blk (.loop [0, 1, 2, 8] [9, 10] (.seq (.seq (.ops [0, 1, 2, 8, 9, 10, 17]) (.cond .leaf .leaf)) (.blk (.seq (.ops [0, 1, 2, 8, 9, 10, 11]) (.join [0, 1, 2, 8, 9, 10] (.seq (.ops [0, 1, 2, 8, 9, 10, 11, 31]) (.cond (.ops [0, 1, 2, 8, 9, 10]) (.ops [0, 1, 2, 8, 9, 10]))))))))) (.seq (.ops [6, 7]) .leaf)))))) (c := Try.f138.body.getD .skip) hentD Try.func138 rfl (Nat.le_of_ble_eq_true (by kernel_rfl))
    (Eq.mp (show sh138 a0 a1 a2 w R = denF Try.prog entD false Try.f138 (.seq (.ops [0, 1, 2]) (.seq (.ops [0, 1, 2, 8]) (.seq (.ops [0, 1, 2, 8, 9, 10]) (.seq (.blk (.loop [0, 1, 2, 8] [9, 10] (.seq (.seq (.ops [0, 1, 2, 8, 9, 10, 17]) (.cond .leaf .leaf)) (.blk (.seq (.ops [0, 1, 2, 8, 9, 10, 11]) (.join [0, 1, 2, 8, 9, 10] (.seq (.ops [0, 1, 2, 8, 9, 10, 11, 31]) (.cond (.ops [0, 1, 2, 8, 9, 10]) (.ops [0, 1, 2, 8, 9, 10]))))))))) (.seq (.ops [6, 7]) .leaf))))) (Try.f138.body.getD .skip) [a0, a1, a2] w R by kernel_rfl) h)

/-! ### 139: (*handbill/omap.Map[string, handbill/api.Write]).find$1 -/
def sh139 (a0 a1 : Value) (w : World) (R : Value → World → Prop) : Prop :=
 RunV Try.prog (Instr.box 171 a0) w fun t2_1 w =>
 RunA Try.prog (Instr.fieldAt 171 t2_1 0) fun t5_2 =>
 RunW Try.prog (Instr.loadAt 9 t5_2) w fun t6_3 =>
 CallF Try.prog 129 #[t6_3, a1] w fun t8_4 w =>
 R t8_4 w
theorem sh139_calls {a0 a1 : Value} {w : World} {R : Value → World → Prop} (h : sh139 a0 a1 w R) : CallF Try.prog 139 #[a0, a1] w R :=
  calls_of_denF (mk := false) (args := [a0, a1]) (an := (.seq (.ops [1, 2]) (.seq (.ops [4]) .leaf))) (c := Try.f139.body.getD .skip) hentD Try.func139 rfl (Nat.le_of_ble_eq_true (by kernel_rfl))
    (Eq.mp (show sh139 a0 a1 w R = denF Try.prog entD false Try.f139 (.seq (.ops [1, 2]) (.seq (.ops [4]) .leaf)) (Try.f139.body.getD .skip) [a0, a1] w R by kernel_rfl) h)

/-! ### 140: (*handbill/omap.Map[string, handbill/api.Write]).Range$1 -/
def sh140 (a0 a1 a2 a3 : Value) (w : World) (R : Value → World → Prop) : Prop :=
 RunW Try.prog (Instr.loadAt 133 a1) w fun t12_1 =>
 RunW Try.prog (Instr.loadAt 9 a2) w fun t13_2 =>
 CallF Try.prog 118 #[t12_1, t13_2] w fun t14_3 w =>
 RunA Try.prog (Instr.extract t14_3 0) fun t15_4 =>
 RunA Try.prog (Instr.extract t14_3 1) fun t16_5 =>
 RunW Try.prog (Instr.loadAt 133 a1) w fun t18_6 =>
 RunW Try.prog (Instr.loadAt 9 a3) w fun t19_7 =>
 CallF Try.prog 118 #[t18_6, t19_7] w fun t20_8 w =>
 RunA Try.prog (Instr.extract t20_8 0) fun t21_9 =>
 RunA Try.prog (Instr.extract t20_8 1) fun t22_10 =>
 RunW Try.prog (Instr.loadAt 133 a1) w fun t23_11 =>
 RunA Try.prog (nilV t23_11) fun t24_12 =>
 RunA Try.prog (Instr.fieldAt 168 t24_12 0) fun t25_13 =>
 RunW Try.prog (Instr.loadAt 166 t25_13) w fun t26_14 =>
 RunW Try.prog (Builtin.max_ #[3, 3] 3 #[t15_4, t21_9]) w fun t30_15 =>
 RunA Try.prog (Instr.sliceAt 166 t26_14 (some t15_4) (some t30_15) none) fun t31_16 =>
 CallF Try.prog 126 #[t31_16] w fun t32_17 w =>
 RunW Try.prog (Builtin.len_ #[166] 3 #[t32_17]) w fun t33_18 =>
 lp 1 (fun n_20 t34_19 w =>
 RunA Try.prog (bin .lss 3 (.tmp 34) (.tmp 33) t34_19 t33_18) fun t35_21 =>
 IfB t35_21 (
 RunA Try.prog (Instr.indexAt 166 t32_17 t34_19) fun t36_22 =>
 RunW Try.prog (Instr.loadAt 171 t36_22) w fun t37_23 =>
 RunV Try.prog (Instr.alloc 171 true (.tuple #[])) w fun t10_24 w =>
 RunU Try.prog (Instr.storeAt 171 t10_24 t37_23) w fun w =>
 RunA Try.prog (Instr.fieldAt 171 t10_24 0) fun t39_25 =>
 RunW Try.prog (Instr.loadAt 9 t39_25) w fun t40_26 =>
 RunA Try.prog (Instr.fieldAt 171 t10_24 1) fun t41_27 =>
 RunW Try.prog (Instr.loadAt 86 t41_27) w fun t42_28 =>
 CallV Try.prog a0 #[t40_26, t42_28] w fun t43_29 w =>
 RunA Try.prog (Op.unary .not t43_29) fun t44_30 =>
 IfB t44_30 (
 R (.tuple #[]) w) (
 RunA Try.prog (bin .add 3 (.tmp 34) (.const (.int .i64 1)) t34_19 (.int .i64 1)) fun t45_31 =>
 (a0 : Value) = a0 ∧ ((t32_17 : Value) = t32_17 ∧ ((t33_18 : Value) = t33_18 ∧ (n_20 t45_31 w))))) (
 R (.tuple #[]) w)) [(.int .i64 0)] w
theorem sh140_calls {a0 a1 a2 a3 : Value} {w : World} {R : Value → World → Prop} (h : sh140 a0 a1 a2 a3 w R) : CallF Try.prog 140 #[a0, a1, a2, a3] w R :=
  calls_of_denF (mk := false) (args := [a0, a1, a2, a3]) (an := (.seq (.ops [0, 1, 3, 5]) (.seq (.ops [0, 1, 5, 7]) (.seq (.ops [0, 32, 33, 34]) (.blk (.loop [0, 32, 33] [34] (.seq (.ops [0, 32, 33, 34, 35]) (.seq (.cond .leaf .leaf) (.seq (.blk (.seq (.ops [0, 10, 32, 33, 34]) (.seq (.ops [0, 32, 33, 34, 44]) (.cond .leaf .leaf)))) (.ops [0, 32, 33, 34])))))))))) (c := Try.f140.body.getD .skip) hentD Try.func140 rfl (Nat.le_of_ble_eq_true (by kernel_rfl))
    (Eq.mp (show sh140 a0 a1 a2 a3 w R = denF Try.prog entD false Try.f140 (.seq (.ops [0, 1, 3, 5]) (.seq (.ops [0, 1, 5, 7]) (.seq (.ops [0, 32, 33, 34]) (.blk (.loop [0, 32, 33] [34] (.seq (.ops [0, 32, 33, 34, 35]) (.seq (.cond .leaf .leaf) (.seq (.blk (.seq (.ops [0, 10, 32, 33, 34]) (.seq (.ops [0, 32, 33, 34, 44]) (.cond .leaf .leaf)))) (.ops [0, 32, 33, 34]))))))))) (Try.f140.body.getD .skip) [a0, a1, a2, a3] w R by kernel_rfl) h)

end Go.Proofs.Ytffnabbchghokaa
