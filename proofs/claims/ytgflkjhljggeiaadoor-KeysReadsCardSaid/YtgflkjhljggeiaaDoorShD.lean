/-
  The shallow forms of the functions, printed by a program (ez.py) out of Lean's print of the loaded functions; each is proved to imply the function's contract: the equations are the kernel's.
-/
import Derived.Test.YtgflkjhljggeiaaDoorProg
import Derived.Test.YtgflkjhljggeiaaDoorEzSound
namespace Go.Proofs.YtgflkjhljggeiaaDoor
open Go Go.Ez
set_option linter.unusedVariables false
set_option maxRecDepth 100000
def entD : List Nat := [6, 7, 8, 9, 11, 12, 13, 14, 15, 16, 17, 18, 19]
theorem hentD : ∀ g, memN g entD = true → Enters Tryd.prog g := enters_all (by kernel_rfl)

/-! ### 4: handbill/hbllaw14.KeysReads -/
def sh4 (a0 a1 : Value) (w : World) (R : Value → World → Prop) : Prop :=
 RunV Tryd.prog (Instr.box 23 a0) w fun t2_1 w =>
 CallF Tryd.prog 6 #[] w fun t9_2 w =>
 RunA Tryd.prog (Op.unary .not t9_2) fun t10_3 =>
 IfB t10_3 (
 R (.bool false) w) (
 RunA Tryd.prog (Instr.fieldAt 23 t2_1 1) fun t11_4 =>
 RunW Tryd.prog (Instr.loadAt 9 t11_4) w fun t12_5 =>
 RunW Tryd.prog (Builtin.len_ #[9] 3 #[t12_5]) w fun t13_6 =>
 RunA Tryd.prog (bin .gtr 3 (.tmp 13) (.const (.int .i64 3000)) t13_6 (.int .i64 3000)) fun t14_7 =>
 IfB t14_7 (
 CallF Tryd.prog 6 #[] w fun t38_8 w =>
 R t38_8 w) (
 RunA Tryd.prog (Instr.fieldAt 23 t2_1 2) fun t16_9 =>
 RunW Tryd.prog (Instr.loadAt 9 t16_9) w fun t17_10 =>
 RunW Tryd.prog (Builtin.len_ #[9] 3 #[t17_10]) w fun t18_11 =>
 RunA Tryd.prog (bin .gtr 3 (.tmp 18) (.const (.int .i64 3000)) t18_11 (.int .i64 3000)) fun t19_12 =>
 IfB t19_12 (
 CallF Tryd.prog 6 #[] w fun t38_13 w =>
 R t38_13 w) (
 RunA Tryd.prog (Instr.fieldAt 23 t2_1 3) fun t22_14 =>
 RunW Tryd.prog (Instr.loadAt 9 t22_14) w fun t23_15 =>
 RunW Tryd.prog (Builtin.len_ #[9] 3 #[t23_15]) w fun t24_16 =>
 RunA Tryd.prog (bin .gtr 3 (.tmp 24) (.const (.int .i64 3000)) t24_16 (.int .i64 3000)) fun t25_17 =>
 IfB t25_17 (
 CallF Tryd.prog 6 #[] w fun t38_18 w =>
 R t38_18 w) (
 RunA Tryd.prog (Instr.fieldAt 23 t2_1 4) fun t28_19 =>
 RunW Tryd.prog (Instr.loadAt 9 t28_19) w fun t29_20 =>
 RunW Tryd.prog (Builtin.len_ #[9] 3 #[t29_20]) w fun t30_21 =>
 RunA Tryd.prog (bin .gtr 3 (.tmp 30) (.const (.int .i64 3000)) t30_21 (.int .i64 3000)) fun t31_22 =>
 IfB t31_22 (
 CallF Tryd.prog 6 #[] w fun t38_23 w =>
 R t38_23 w) (
 RunW Tryd.prog (Builtin.len_ #[9] 3 #[a1]) w fun t35_24 =>
 RunA Tryd.prog (bin .gtr 3 (.tmp 35) (.const (.int .i64 3000)) t35_24 (.int .i64 3000)) fun t36_25 =>
 IfB t36_25 (
 CallF Tryd.prog 6 #[] w fun t38_26 w =>
 R t38_26 w) (
 CallF Tryd.prog 8 #[a1] w fun t41_27 w =>
 RunA Tryd.prog (Instr.extract t41_27 0) fun t42_28 =>
 RunA Tryd.prog (Instr.extract t41_27 1) fun t43_29 =>
 RunV Tryd.prog (Instr.alloc 23 true (.tuple #[])) w fun t5_30 w =>
 RunU Tryd.prog (Instr.storeAt 23 t5_30 t42_28) w fun w =>
 CallF Tryd.prog 11 #[a1] w fun t46_31 w =>
 RunA Tryd.prog (Instr.extract t46_31 0) fun t47_32 =>
 RunA Tryd.prog (Instr.extract t46_31 1) fun t48_33 =>
 RunV Tryd.prog (Instr.alloc 31 true (.tuple #[])) w fun t7_34 w =>
 RunU Tryd.prog (Instr.storeAt 31 t7_34 t47_32) w fun w =>
 drw (fun S_35 w =>
 CallF Tryd.prog 6 #[] w fun t49_36 w =>
 S_35 w ∧ (
 IfB t49_36 (
 RunS Tryd.prog S_35 (Instr.loadAt 23 t2_1) fun t51_37 =>
 RunS Tryd.prog S_35 (Instr.loadAt 23 t2_1) fun t53_38 =>
 CallF Tryd.prog 7 #[t51_37] w fun t52_39 w =>
 S_35 w ∧ (
 CallF Tryd.prog 13 #[t53_38] w fun t54_40 w =>
 S_35 w ∧ (
 CallF Tryd.prog 12 #[t54_40] w fun t55_41 w =>
 S_35 w ∧ (
 RunS Tryd.prog S_35 (bin .eql 9 (.tmp 52) (.tmp 55) t52_39 t55_41) fun t56_42 =>
 IfB t56_42 (
 RunS Tryd.prog S_35 (Instr.loadAt 23 t5_30) fun t59_43 =>
 RunS Tryd.prog S_35 (Instr.loadAt 31 t7_34) fun t61_44 =>
 CallF Tryd.prog 13 #[t59_43] w fun t60_45 w =>
 S_35 w ∧ (
 RunS Tryd.prog S_35 (bin .eql 31 (.tmp 60) (.tmp 61) t60_45 t61_44) fun t62_46 =>
 IfB t62_46 (
 RunS Tryd.prog S_35 (bin .eql 4 (.tmp 65) (.tmp 66) t43_29 t48_33) fun t67_47 =>
 IfB t67_47 (
 CallF Tryd.prog 14 #[a1] w fun t71_48 w =>
 S_35 w ∧ (
 CallF Tryd.prog 15 #[a1] w fun t73_49 w =>
 S_35 w ∧ (
 RunS Tryd.prog S_35 (bin .eql 4 (.tmp 71) (.tmp 73) t71_48 t73_49) fun t74_50 =>
 IfB t74_50 (
 RunA Tryd.prog (Instr.fieldAt 23 t2_1 1) fun t77_51 =>
 RunS Tryd.prog S_35 (Instr.loadAt 9 t77_51) fun t78_52 =>
 RunA Tryd.prog (Instr.fieldAt 23 t2_1 1) fun t80_53 =>
 RunS Tryd.prog S_35 (Instr.loadAt 9 t80_53) fun t81_54 =>
 CallF Tryd.prog 16 #[t78_52] w fun t79_55 w =>
 S_35 w ∧ (
 CallF Tryd.prog 17 #[(.int .i64 4), t81_54, (.string ⟨#[]⟩)] w fun t82_56 w =>
 S_35 w ∧ (
 RunS Tryd.prog S_35 (bin .eql 9 (.tmp 79) (.tmp 82) t79_55 t82_56) fun t83_57 =>
 IfB t83_57 (
 RunA Tryd.prog (Instr.fieldAt 23 t2_1 1) fun t86_58 =>
 RunS Tryd.prog S_35 (Instr.loadAt 9 t86_58) fun t87_59 =>
 RunA Tryd.prog (Instr.fieldAt 23 t2_1 1) fun t89_60 =>
 RunS Tryd.prog S_35 (Instr.loadAt 9 t89_60) fun t90_61 =>
 CallF Tryd.prog 18 #[t87_59] w fun t88_62 w =>
 S_35 w ∧ (
 CallF Tryd.prog 17 #[(.int .i64 5), t90_61, (.string ⟨#[]⟩)] w fun t91_63 w =>
 S_35 w ∧ (
 RunS Tryd.prog S_35 (bin .eql 9 (.tmp 88) (.tmp 91) t88_62 t91_63) fun t92_64 =>
 IfB t92_64 (
 RunA Tryd.prog (Instr.fieldAt 23 t2_1 2) fun t95_65 =>
 RunS Tryd.prog S_35 (Instr.loadAt 9 t95_65) fun t96_66 =>
 RunA Tryd.prog (Instr.fieldAt 23 t2_1 2) fun t98_67 =>
 RunS Tryd.prog S_35 (Instr.loadAt 9 t98_67) fun t99_68 =>
 CallF Tryd.prog 9 #[t96_66] w fun t97_69 w =>
 S_35 w ∧ (
 CallF Tryd.prog 17 #[(.int .i64 2), (.string ⟨#[]⟩), t99_68] w fun t100_70 w =>
 S_35 w ∧ (
 RunS Tryd.prog S_35 (bin .eql 9 (.tmp 97) (.tmp 100) t97_69 t100_70) fun t101_71 =>
 IfB t101_71 (
 RunA Tryd.prog (Instr.fieldAt 23 t2_1 1) fun t104_72 =>
 RunS Tryd.prog S_35 (Instr.loadAt 9 t104_72) fun t105_73 =>
 RunA Tryd.prog (Instr.fieldAt 23 t2_1 2) fun t106_74 =>
 RunS Tryd.prog S_35 (Instr.loadAt 9 t106_74) fun t107_75 =>
 RunA Tryd.prog (Instr.fieldAt 23 t2_1 1) fun t109_76 =>
 RunS Tryd.prog S_35 (Instr.loadAt 9 t109_76) fun t110_77 =>
 RunA Tryd.prog (Instr.fieldAt 23 t2_1 2) fun t111_78 =>
 RunS Tryd.prog S_35 (Instr.loadAt 9 t111_78) fun t112_79 =>
 CallF Tryd.prog 19 #[t105_73, t107_75] w fun t108_80 w =>
 S_35 w ∧ (
 CallF Tryd.prog 17 #[(.int .i64 6), t110_77, t112_79] w fun t113_81 w =>
 S_35 w ∧ (
 RunS Tryd.prog S_35 (bin .eql 9 (.tmp 108) (.tmp 113) t108_80 t113_81) fun t114_82 =>
 R t114_82 w))) (
 R (.bool false) w)))) (
 R (.bool false) w)))) (
 R (.bool false) w)))) (
 R (.bool false) w)))) (
 R (.bool false) w)) (
 R (.bool false) w))) (
 R (.bool false) w))))) (
 R (.bool false) w))) w))))))
theorem sh4_calls {a0 a1 : Value} {w : World} {R : Value → World → Prop} (h : sh4 a0 a1 w R) : CallF Tryd.prog 4 #[a0, a1] w R :=
  calls_of_denF (mk := false) (args := [a0, a1]) (an := (.seq (.ops [1, 2]) (.seq (.seq (.ops [1, 2, 10]) (.cond (.seq (.ops [4]) .leaf) .leaf)) (.seq (.seq (.ops [1, 2, 37]) (.cond (.seq (.ops [4]) .leaf) .leaf)) (.seq (.ops [1, 2, 5, 6]) (.seq (.ops [1, 2, 5, 6, 7, 8]) (.seq (.draw (.one 0 (.q 1 (.sp 2 (.q 2 (.q 4 (.one 3 (.one 5 (.one 6 (.q 7 (.q 8 (.q 9 (.sp 10 (.q 10 (.q 12 (.one 11 (.q 13 (.q 14 (.q 15 (.sp 16 (.q 16 (.q 17 (.q 18 (.q 19 (.q 20 (.sp 21 (.q 21 (.q 23 (.one 22 (.one 24 (.q 25 (.q 26 (.q 27 (.sp 28 (.q 28 (.q 29 (.q 31 (.q 32 (.one 30 (.one 33 (.q 34 (.q 35 (.q 36 (.sp 37 (.q 37 (.q 38 (.q 40 (.q 41 (.one 39 (.one 42 (.q 43 (.q 44 (.q 45 (.sp 46 (.q 46 (.q 47 (.q 49 (.q 50 (.one 48 (.one 51 (.q 52 (.q 53 (.q 54 (.sp 55 (.q 55 (.q 56 (.q 57 (.q 58 (.q 60 (.q 61 (.q 62 (.q 63 (.one 59 (.one 64 (.q 65 (.q 66 (.q 67 .fin))))))))))))) (.q 55 (.q 56 (.q 57 (.q 58 (.q 59 (.q 60 (.q 61 (.q 62 (.q 63 (.q 64 (.q 65 (.q 66 (.q 67 .fin))))))))))))))))))))))) (.q 46 (.q 47 (.q 48 (.q 49 (.q 50 (.q 51 (.q 52 (.q 53 (.q 54 (.q 55 (.q 56 (.q 57 (.q 58 (.q 59 (.q 60 (.q 61 (.q 62 (.q 63 (.q 64 (.q 65 (.q 66 (.q 67 .fin)))))))))))))))))))))))))))))))) (.q 37 (.q 38 (.q 39 (.q 40 (.q 41 (.q 42 (.q 43 (.q 44 (.q 45 (.q 46 (.q 47 (.q 48 (.q 49 (.q 50 (.q 51 (.q 52 (.q 53 (.q 54 (.q 55 (.q 56 (.q 57 (.q 58 (.q 59 (.q 60 (.q 61 (.q 62 (.q 63 (.q 64 (.q 65 (.q 66 (.q 67 .fin))))))))))))))))))))))))))))))))))))))))) (.q 28 (.q 29 (.q 30 (.q 31 (.q 32 (.q 33 (.q 34 (.q 35 (.q 36 (.q 37 (.q 38 (.q 39 (.q 40 (.q 41 (.q 42 (.q 43 (.q 44 (.q 45 (.q 46 (.q 47 (.q 48 (.q 49 (.q 50 (.q 51 (.q 52 (.q 53 (.q 54 (.q 55 (.q 56 (.q 57 (.q 58 (.q 59 (.q 60 (.q 61 (.q 62 (.q 63 (.q 64 (.q 65 (.q 66 (.q 67 .fin)))))))))))))))))))))))))))))))))))))))))))))))) (.q 21 (.q 22 (.q 23 (.q 24 (.q 25 (.q 26 (.q 27 (.q 28 (.q 29 (.q 30 (.q 31 (.q 32 (.q 33 (.q 34 (.q 35 (.q 36 (.q 37 (.q 38 (.q 39 (.q 40 (.q 41 (.q 42 (.q 43 (.q 44 (.q 45 (.q 46 (.q 47 (.q 48 (.q 49 (.q 50 (.q 51 (.q 52 (.q 53 (.q 54 (.q 55 (.q 56 (.q 57 (.q 58 (.q 59 (.q 60 (.q 61 (.q 62 (.q 63 (.q 64 (.q 65 (.q 66 (.q 67 .fin))))))))))))))))))))))))))))))))))))))))))))))))))))) (.q 16 (.q 17 (.q 18 (.q 19 (.q 20 (.q 21 (.q 22 (.q 23 (.q 24 (.q 25 (.q 26 (.q 27 (.q 28 (.q 29 (.q 30 (.q 31 (.q 32 (.q 33 (.q 34 (.q 35 (.q 36 (.q 37 (.q 38 (.q 39 (.q 40 (.q 41 (.q 42 (.q 43 (.q 44 (.q 45 (.q 46 (.q 47 (.q 48 (.q 49 (.q 50 (.q 51 (.q 52 (.q 53 (.q 54 (.q 55 (.q 56 (.q 57 (.q 58 (.q 59 (.q 60 (.q 61 (.q 62 (.q 63 (.q 64 (.q 65 (.q 66 (.q 67 .fin))))))))))))))))))))))))))))))))))))))))))))))))))))))))))) (.q 10 (.q 11 (.q 12 (.q 13 (.q 14 (.q 15 (.q 16 (.q 17 (.q 18 (.q 19 (.q 20 (.q 21 (.q 22 (.q 23 (.q 24 (.q 25 (.q 26 (.q 27 (.q 28 (.q 29 (.q 30 (.q 31 (.q 32 (.q 33 (.q 34 (.q 35 (.q 36 (.q 37 (.q 38 (.q 39 (.q 40 (.q 41 (.q 42 (.q 43 (.q 44 (.q 45 (.q 46 (.q 47 (.q 48 (.q 49 (.q 50 (.q 51 (.q 52 (.q 53 (.q 54 (.q 55 (.q 56 (.q 57 (.q 58 (.q 59 (.q 60 (.q 61 (.q 62 (.q 63 (.q 64 (.q 65 (.q 66 (.q 67 .fin))))))))))))))))))))))))))))))))))))))))))))))))))))))))))))))))))) (.q 2 (.q 3 (.q 4 (.q 5 (.q 6 (.q 7 (.q 8 (.q 9 (.q 10 (.q 11 (.q 12 (.q 13 (.q 14 (.q 15 (.q 16 (.q 17 (.q 18 (.q 19 (.q 20 (.q 21 (.q 22 (.q 23 (.q 24 (.q 25 (.q 26 (.q 27 (.q 28 (.q 29 (.q 30 (.q 31 (.q 32 (.q 33 (.q 34 (.q 35 (.q 36 (.q 37 (.q 38 (.q 39 (.q 40 (.q 41 (.q 42 (.q 43 (.q 44 (.q 45 (.q 46 (.q 47 (.q 48 (.q 49 (.q 50 (.q 51 (.q 52 (.q 53 (.q 54 (.q 55 (.q 56 (.q 57 (.q 58 (.q 59 (.q 60 (.q 61 (.q 62 (.q 63 (.q 64 (.q 65 (.q 66 (.q 67 .fin))))))))))))))))))))))))))))))))))))))))))))))))))))))))))))))))))))) [4]) .leaf))))))) (c := Tryd.f4.body.getD .skip) hentD Tryd.func4 rfl (Nat.le_of_ble_eq_true (by kernel_rfl))
    (Eq.mp (show sh4 a0 a1 w R = denF Tryd.prog entD false Tryd.f4 (.seq (.ops [1, 2]) (.seq (.seq (.ops [1, 2, 10]) (.cond (.seq (.ops [4]) .leaf) .leaf)) (.seq (.seq (.ops [1, 2, 37]) (.cond (.seq (.ops [4]) .leaf) .leaf)) (.seq (.ops [1, 2, 5, 6]) (.seq (.ops [1, 2, 5, 6, 7, 8]) (.seq (.draw (.one 0 (.q 1 (.sp 2 (.q 2 (.q 4 (.one 3 (.one 5 (.one 6 (.q 7 (.q 8 (.q 9 (.sp 10 (.q 10 (.q 12 (.one 11 (.q 13 (.q 14 (.q 15 (.sp 16 (.q 16 (.q 17 (.q 18 (.q 19 (.q 20 (.sp 21 (.q 21 (.q 23 (.one 22 (.one 24 (.q 25 (.q 26 (.q 27 (.sp 28 (.q 28 (.q 29 (.q 31 (.q 32 (.one 30 (.one 33 (.q 34 (.q 35 (.q 36 (.sp 37 (.q 37 (.q 38 (.q 40 (.q 41 (.one 39 (.one 42 (.q 43 (.q 44 (.q 45 (.sp 46 (.q 46 (.q 47 (.q 49 (.q 50 (.one 48 (.one 51 (.q 52 (.q 53 (.q 54 (.sp 55 (.q 55 (.q 56 (.q 57 (.q 58 (.q 60 (.q 61 (.q 62 (.q 63 (.one 59 (.one 64 (.q 65 (.q 66 (.q 67 .fin))))))))))))) (.q 55 (.q 56 (.q 57 (.q 58 (.q 59 (.q 60 (.q 61 (.q 62 (.q 63 (.q 64 (.q 65 (.q 66 (.q 67 .fin))))))))))))))))))))))) (.q 46 (.q 47 (.q 48 (.q 49 (.q 50 (.q 51 (.q 52 (.q 53 (.q 54 (.q 55 (.q 56 (.q 57 (.q 58 (.q 59 (.q 60 (.q 61 (.q 62 (.q 63 (.q 64 (.q 65 (.q 66 (.q 67 .fin)))))))))))))))))))))))))))))))) (.q 37 (.q 38 (.q 39 (.q 40 (.q 41 (.q 42 (.q 43 (.q 44 (.q 45 (.q 46 (.q 47 (.q 48 (.q 49 (.q 50 (.q 51 (.q 52 (.q 53 (.q 54 (.q 55 (.q 56 (.q 57 (.q 58 (.q 59 (.q 60 (.q 61 (.q 62 (.q 63 (.q 64 (.q 65 (.q 66 (.q 67 .fin))))))))))))))))))))))))))))))))))))))))) (.q 28 (.q 29 (.q 30 (.q 31 (.q 32 (.q 33 (.q 34 (.q 35 (.q 36 (.q 37 (.q 38 (.q 39 (.q 40 (.q 41 (.q 42 (.q 43 (.q 44 (.q 45 (.q 46 (.q 47 (.q 48 (.q 49 (.q 50 (.q 51 (.q 52 (.q 53 (.q 54 (.q 55 (.q 56 (.q 57 (.q 58 (.q 59 (.q 60 (.q 61 (.q 62 (.q 63 (.q 64 (.q 65 (.q 66 (.q 67 .fin)))))))))))))))))))))))))))))))))))))))))))))))) (.q 21 (.q 22 (.q 23 (.q 24 (.q 25 (.q 26 (.q 27 (.q 28 (.q 29 (.q 30 (.q 31 (.q 32 (.q 33 (.q 34 (.q 35 (.q 36 (.q 37 (.q 38 (.q 39 (.q 40 (.q 41 (.q 42 (.q 43 (.q 44 (.q 45 (.q 46 (.q 47 (.q 48 (.q 49 (.q 50 (.q 51 (.q 52 (.q 53 (.q 54 (.q 55 (.q 56 (.q 57 (.q 58 (.q 59 (.q 60 (.q 61 (.q 62 (.q 63 (.q 64 (.q 65 (.q 66 (.q 67 .fin))))))))))))))))))))))))))))))))))))))))))))))))))))) (.q 16 (.q 17 (.q 18 (.q 19 (.q 20 (.q 21 (.q 22 (.q 23 (.q 24 (.q 25 (.q 26 (.q 27 (.q 28 (.q 29 (.q 30 (.q 31 (.q 32 (.q 33 (.q 34 (.q 35 (.q 36 (.q 37 (.q 38 (.q 39 (.q 40 (.q 41 (.q 42 (.q 43 (.q 44 (.q 45 (.q 46 (.q 47 (.q 48 (.q 49 (.q 50 (.q 51 (.q 52 (.q 53 (.q 54 (.q 55 (.q 56 (.q 57 (.q 58 (.q 59 (.q 60 (.q 61 (.q 62 (.q 63 (.q 64 (.q 65 (.q 66 (.q 67 .fin))))))))))))))))))))))))))))))))))))))))))))))))))))))))))) (.q 10 (.q 11 (.q 12 (.q 13 (.q 14 (.q 15 (.q 16 (.q 17 (.q 18 (.q 19 (.q 20 (.q 21 (.q 22 (.q 23 (.q 24 (.q 25 (.q 26 (.q 27 (.q 28 (.q 29 (.q 30 (.q 31 (.q 32 (.q 33 (.q 34 (.q 35 (.q 36 (.q 37 (.q 38 (.q 39 (.q 40 (.q 41 (.q 42 (.q 43 (.q 44 (.q 45 (.q 46 (.q 47 (.q 48 (.q 49 (.q 50 (.q 51 (.q 52 (.q 53 (.q 54 (.q 55 (.q 56 (.q 57 (.q 58 (.q 59 (.q 60 (.q 61 (.q 62 (.q 63 (.q 64 (.q 65 (.q 66 (.q 67 .fin))))))))))))))))))))))))))))))))))))))))))))))))))))))))))))))))))) (.q 2 (.q 3 (.q 4 (.q 5 (.q 6 (.q 7 (.q 8 (.q 9 (.q 10 (.q 11 (.q 12 (.q 13 (.q 14 (.q 15 (.q 16 (.q 17 (.q 18 (.q 19 (.q 20 (.q 21 (.q 22 (.q 23 (.q 24 (.q 25 (.q 26 (.q 27 (.q 28 (.q 29 (.q 30 (.q 31 (.q 32 (.q 33 (.q 34 (.q 35 (.q 36 (.q 37 (.q 38 (.q 39 (.q 40 (.q 41 (.q 42 (.q 43 (.q 44 (.q 45 (.q 46 (.q 47 (.q 48 (.q 49 (.q 50 (.q 51 (.q 52 (.q 53 (.q 54 (.q 55 (.q 56 (.q 57 (.q 58 (.q 59 (.q 60 (.q 61 (.q 62 (.q 63 (.q 64 (.q 65 (.q 66 (.q 67 .fin))))))))))))))))))))))))))))))))))))))))))))))))))))))))))))))))))))) [4]) .leaf)))))) (Tryd.f4.body.getD .skip) [a0, a1] w R by kernel_rfl) h)

end Go.Proofs.YtgflkjhljggeiaaDoor
