/- What the law rests on, part 4 of 6: a reading of the program's code over told data, and what it comes to. -/
import Derived.Test.YthidcpkcfoldmaaGreatPiR2
set_option linter.unusedVariables false
set_option linter.unusedSimpArgs false
set_option maxRecDepth 100000
namespace Go.Proofs.YthidcpkcfoldmaaGreat.Pi.Q
open Go Go.Proofs.YthidcpkcfoldmaaGreat.Pi
theorem uaa (a0 a1 : PV) : C u69 [a0, a1] =
 trunc (M.bind (al [(.int .i64 0), (.int .i64 0), (.bool false), (.int .i64 0)]) fun t4_0 =>
 M.bind (al [(.int .i64 0), (.int .i64 0), (.bool false), (.int .i64 0)]) fun t5_1 =>
 M.bind (nc P (strip a0)) fun t10_2 =>
 M.bind (fa 20 t10_2) fun t11_3 =>
 M.bind (ld none false t11_3) fun t12_4 =>
 M.bind (bi .neq .none t12_4 (.int .i64 0)) fun t13_5 =>
 condM t13_5
 (M.bind (ld (some 4) true t5_1) fun t14_6 =>
 M.bind (st 4 true t4_0 t14_6) fun _ =>
 M.bind (ld (some 4) true t4_0) fun t0_8 => guardM (!isTup t0_8) (M.pure t0_8))
 (chk
 (M.bind (noPan (M.pure (strip a1))) fun t16_27 =>
 M.bind (noPan (M.pure (strip a0))) fun t17_28 =>
 M.bind (noPan (nc P t17_28)) fun t18_29 =>
 M.bind (noPan (fa 0 t18_29)) fun t19_30 =>
 M.bind (noPan (M.pure (strip a0))) fun t21_31 =>
 M.bind (noPan (nc P t21_31)) fun t22_32 =>
 M.bind (noPan (fa 1 t22_32)) fun t23_33 =>
 M.bind (noPan (ld none false t19_30)) fun t20_34 =>
 M.bind (noPan (ld none false t23_33)) fun t24_35 =>
 M.bind (noPan (al [(.int .i64 0), (.int .i64 0), (.bool false), (.int .i64 0)])) fun t6_36 =>
 M.bind (noPan (callV P C t16_27 [(strip t20_34), (strip t24_35)])) fun t25_37 =>
 M.bind (noPan (M.pure (strip t25_37))) fun t15_38 =>
 M.bind (noPan (ex 0 t15_38)) fun t26_39 =>
 M.bind (noPan (ex 1 (tupDrop 0 t15_38))) fun t27_40 =>
 M.bind (noPan (ex 2 (tupDrop 1 (tupDrop 0 t15_38)))) fun t28_41 =>
 M.bind (noPan (st 4 true t6_36 t26_39)) fun _ =>
 M.bind (noPan (M.pure t27_40)) fun t7_43 =>
 M.bind (noPan (M.pure t28_41)) fun t8_44 =>
 M.pure [a0, a1, .undef, .undef, t4_0, t5_1, t6_36, t7_43, t8_44, (strip a0), t10_2, t11_3, t12_4, t13_5, .undef, (tupDrop 2 (tupDrop 1 (tupDrop 0 t15_38))), t16_27, t17_28, t18_29, t19_30, t20_34, t21_31, t22_32, t23_33, t24_35, t25_37, (strip t26_39), (strip t27_40), (strip t28_41), .undef, .undef, .undef, .undef, .undef, .undef, .undef, .undef, .undef, .undef, .undef, .undef])
 (M.bind (noPan (M.pure (strip a1))) fun t16_9 =>
 M.bind (noPan (M.pure (strip a0))) fun t17_10 =>
 M.bind (noPan (nc P t17_10)) fun t18_11 =>
 M.bind (noPan (fa 0 t18_11)) fun t19_12 =>
 M.bind (noPan (M.pure (strip a0))) fun t21_13 =>
 M.bind (noPan (nc P t21_13)) fun t22_14 =>
 M.bind (noPan (fa 1 t22_14)) fun t23_15 =>
 M.bind (noPan (ld none false t19_12)) fun t20_16 =>
 M.bind (noPan (ld none false t23_15)) fun t24_17 =>
 M.bind (noPan (callV P C t16_9 [(strip t20_16), (strip t24_17)])) fun t25_18 =>
 M.bind (noPan (M.pure (strip t25_18))) fun t15_19 =>
 M.bind (noPan (ex 0 t15_19)) fun t26_20 =>
 M.bind (noPan (ex 1 (tupDrop 0 t15_19))) fun t27_21 =>
 M.bind (noPan (ex 2 (tupDrop 1 (tupDrop 0 t15_19)))) fun t28_22 =>
 M.bind (noPan (al [(.int .i64 0), (.int .i64 0), (.bool false), (.int .i64 0)])) fun t6_23 =>
 M.bind (noPan (st 4 true t6_23 t26_20)) fun _ =>
 M.bind (noPan (M.pure t27_21)) fun t7_25 =>
 M.bind (noPan (M.pure t28_22)) fun t8_26 =>
 M.pure [a0, a1, .undef, .undef, t4_0, t5_1, t6_23, t7_25, t8_26, (strip a0), t10_2, t11_3, t12_4, t13_5, .undef, (tupDrop 2 (tupDrop 1 (tupDrop 0 t15_19))), t16_9, t17_10, t18_11, t19_12, t20_16, t21_13, t22_14, t23_15, t24_17, t25_18, (strip t26_20), (strip t27_21), (strip t28_22), .undef, .undef, .undef, .undef, .undef, .undef, .undef, .undef, .undef, .undef, .undef, .undef]) <|
 chk
 (M.bind (noPan (M.pure (strip a1))) fun t16_45 =>
 M.bind (noPan (M.pure (strip a0))) fun t17_46 =>
 M.bind (noPan (nc P t17_46)) fun t18_47 =>
 M.bind (noPan (fa 0 t18_47)) fun t19_48 =>
 M.bind (noPan (M.pure (strip a0))) fun t21_49 =>
 M.bind (noPan (nc P t21_49)) fun t22_50 =>
 M.bind (noPan (fa 1 t22_50)) fun t23_51 =>
 M.bind (noPan (ld none false t19_48)) fun t20_52 =>
 M.bind (noPan (al [(.int .i64 0), (.int .i64 0), (.bool false), (.int .i64 0)])) fun t6_53 =>
 M.bind (noPan (ld none false t23_51)) fun t24_54 =>
 M.bind (noPan (callV P C t16_45 [(strip t20_52), (strip t24_54)])) fun t25_55 =>
 M.bind (noPan (M.pure (strip t25_55))) fun t15_56 =>
 M.bind (noPan (ex 0 t15_56)) fun t26_57 =>
 M.bind (noPan (ex 1 (tupDrop 0 t15_56))) fun t27_58 =>
 M.bind (noPan (ex 2 (tupDrop 1 (tupDrop 0 t15_56)))) fun t28_59 =>
 M.bind (noPan (st 4 true t6_53 t26_57)) fun _ =>
 M.bind (noPan (M.pure t27_58)) fun t7_61 =>
 M.bind (noPan (M.pure t28_59)) fun t8_62 =>
 M.pure [a0, a1, .undef, .undef, t4_0, t5_1, t6_53, t7_61, t8_62, (strip a0), t10_2, t11_3, t12_4, t13_5, .undef, (tupDrop 2 (tupDrop 1 (tupDrop 0 t15_56))), t16_45, t17_46, t18_47, t19_48, t20_52, t21_49, t22_50, t23_51, t24_54, t25_55, (strip t26_57), (strip t27_58), (strip t28_59), .undef, .undef, .undef, .undef, .undef, .undef, .undef, .undef, .undef, .undef, .undef, .undef])
 (M.bind (noPan (M.pure (strip a1))) fun t16_9 =>
 M.bind (noPan (M.pure (strip a0))) fun t17_10 =>
 M.bind (noPan (nc P t17_10)) fun t18_11 =>
 M.bind (noPan (fa 0 t18_11)) fun t19_12 =>
 M.bind (noPan (M.pure (strip a0))) fun t21_13 =>
 M.bind (noPan (nc P t21_13)) fun t22_14 =>
 M.bind (noPan (fa 1 t22_14)) fun t23_15 =>
 M.bind (noPan (ld none false t19_12)) fun t20_16 =>
 M.bind (noPan (ld none false t23_15)) fun t24_17 =>
 M.bind (noPan (callV P C t16_9 [(strip t20_16), (strip t24_17)])) fun t25_18 =>
 M.bind (noPan (M.pure (strip t25_18))) fun t15_19 =>
 M.bind (noPan (ex 0 t15_19)) fun t26_20 =>
 M.bind (noPan (ex 1 (tupDrop 0 t15_19))) fun t27_21 =>
 M.bind (noPan (ex 2 (tupDrop 1 (tupDrop 0 t15_19)))) fun t28_22 =>
 M.bind (noPan (al [(.int .i64 0), (.int .i64 0), (.bool false), (.int .i64 0)])) fun t6_23 =>
 M.bind (noPan (st 4 true t6_23 t26_20)) fun _ =>
 M.bind (noPan (M.pure t27_21)) fun t7_25 =>
 M.bind (noPan (M.pure t28_22)) fun t8_26 =>
 M.pure [a0, a1, .undef, .undef, t4_0, t5_1, t6_23, t7_25, t8_26, (strip a0), t10_2, t11_3, t12_4, t13_5, .undef, (tupDrop 2 (tupDrop 1 (tupDrop 0 t15_19))), t16_9, t17_10, t18_11, t19_12, t20_16, t21_13, t22_14, t23_15, t24_17, t25_18, (strip t26_20), (strip t27_21), (strip t28_22), .undef, .undef, .undef, .undef, .undef, .undef, .undef, .undef, .undef, .undef, .undef, .undef]) <|
 chk
 (M.bind (noPan (M.pure (strip a1))) fun t16_63 =>
 M.bind (noPan (M.pure (strip a0))) fun t17_64 =>
 M.bind (noPan (nc P t17_64)) fun t18_65 =>
 M.bind (noPan (fa 0 t18_65)) fun t19_66 =>
 M.bind (noPan (M.pure (strip a0))) fun t21_67 =>
 M.bind (noPan (nc P t21_67)) fun t22_68 =>
 M.bind (noPan (fa 1 t22_68)) fun t23_69 =>
 M.bind (noPan (ld none false t23_69)) fun t24_70 =>
 M.bind (noPan (al [(.int .i64 0), (.int .i64 0), (.bool false), (.int .i64 0)])) fun t6_71 =>
 M.bind (noPan (ld none false t19_66)) fun t20_72 =>
 M.bind (noPan (callV P C t16_63 [(strip t20_72), (strip t24_70)])) fun t25_73 =>
 M.bind (noPan (M.pure (strip t25_73))) fun t15_74 =>
 M.bind (noPan (ex 0 t15_74)) fun t26_75 =>
 M.bind (noPan (ex 1 (tupDrop 0 t15_74))) fun t27_76 =>
 M.bind (noPan (ex 2 (tupDrop 1 (tupDrop 0 t15_74)))) fun t28_77 =>
 M.bind (noPan (st 4 true t6_71 t26_75)) fun _ =>
 M.bind (noPan (M.pure t27_76)) fun t7_79 =>
 M.bind (noPan (M.pure t28_77)) fun t8_80 =>
 M.pure [a0, a1, .undef, .undef, t4_0, t5_1, t6_71, t7_79, t8_80, (strip a0), t10_2, t11_3, t12_4, t13_5, .undef, (tupDrop 2 (tupDrop 1 (tupDrop 0 t15_74))), t16_63, t17_64, t18_65, t19_66, t20_72, t21_67, t22_68, t23_69, t24_70, t25_73, (strip t26_75), (strip t27_76), (strip t28_77), .undef, .undef, .undef, .undef, .undef, .undef, .undef, .undef, .undef, .undef, .undef, .undef])
 (M.bind (noPan (M.pure (strip a1))) fun t16_9 =>
 M.bind (noPan (M.pure (strip a0))) fun t17_10 =>
 M.bind (noPan (nc P t17_10)) fun t18_11 =>
 M.bind (noPan (fa 0 t18_11)) fun t19_12 =>
 M.bind (noPan (M.pure (strip a0))) fun t21_13 =>
 M.bind (noPan (nc P t21_13)) fun t22_14 =>
 M.bind (noPan (fa 1 t22_14)) fun t23_15 =>
 M.bind (noPan (ld none false t19_12)) fun t20_16 =>
 M.bind (noPan (ld none false t23_15)) fun t24_17 =>
 M.bind (noPan (callV P C t16_9 [(strip t20_16), (strip t24_17)])) fun t25_18 =>
 M.bind (noPan (M.pure (strip t25_18))) fun t15_19 =>
 M.bind (noPan (ex 0 t15_19)) fun t26_20 =>
 M.bind (noPan (ex 1 (tupDrop 0 t15_19))) fun t27_21 =>
 M.bind (noPan (ex 2 (tupDrop 1 (tupDrop 0 t15_19)))) fun t28_22 =>
 M.bind (noPan (al [(.int .i64 0), (.int .i64 0), (.bool false), (.int .i64 0)])) fun t6_23 =>
 M.bind (noPan (st 4 true t6_23 t26_20)) fun _ =>
 M.bind (noPan (M.pure t27_21)) fun t7_25 =>
 M.bind (noPan (M.pure t28_22)) fun t8_26 =>
 M.pure [a0, a1, .undef, .undef, t4_0, t5_1, t6_23, t7_25, t8_26, (strip a0), t10_2, t11_3, t12_4, t13_5, .undef, (tupDrop 2 (tupDrop 1 (tupDrop 0 t15_19))), t16_9, t17_10, t18_11, t19_12, t20_16, t21_13, t22_14, t23_15, t24_17, t25_18, (strip t26_20), (strip t27_21), (strip t28_22), .undef, .undef, .undef, .undef, .undef, .undef, .undef, .undef, .undef, .undef, .undef, .undef]) <|
 chk
 (M.bind (noPan (M.pure (strip a1))) fun t16_81 =>
 M.bind (noPan (M.pure (strip a0))) fun t17_82 =>
 M.bind (noPan (nc P t17_82)) fun t18_83 =>
 M.bind (noPan (fa 0 t18_83)) fun t19_84 =>
 M.bind (noPan (M.pure (strip a0))) fun t21_85 =>
 M.bind (noPan (nc P t21_85)) fun t22_86 =>
 M.bind (noPan (fa 1 t22_86)) fun t23_87 =>
 M.bind (noPan (al [(.int .i64 0), (.int .i64 0), (.bool false), (.int .i64 0)])) fun t6_88 =>
 M.bind (noPan (ld none false t19_84)) fun t20_89 =>
 M.bind (noPan (ld none false t23_87)) fun t24_90 =>
 M.bind (noPan (callV P C t16_81 [(strip t20_89), (strip t24_90)])) fun t25_91 =>
 M.bind (noPan (M.pure (strip t25_91))) fun t15_92 =>
 M.bind (noPan (ex 0 t15_92)) fun t26_93 =>
 M.bind (noPan (ex 1 (tupDrop 0 t15_92))) fun t27_94 =>
 M.bind (noPan (ex 2 (tupDrop 1 (tupDrop 0 t15_92)))) fun t28_95 =>
 M.bind (noPan (st 4 true t6_88 t26_93)) fun _ =>
 M.bind (noPan (M.pure t27_94)) fun t7_97 =>
 M.bind (noPan (M.pure t28_95)) fun t8_98 =>
 M.pure [a0, a1, .undef, .undef, t4_0, t5_1, t6_88, t7_97, t8_98, (strip a0), t10_2, t11_3, t12_4, t13_5, .undef, (tupDrop 2 (tupDrop 1 (tupDrop 0 t15_92))), t16_81, t17_82, t18_83, t19_84, t20_89, t21_85, t22_86, t23_87, t24_90, t25_91, (strip t26_93), (strip t27_94), (strip t28_95), .undef, .undef, .undef, .undef, .undef, .undef, .undef, .undef, .undef, .undef, .undef, .undef])
 (M.bind (noPan (M.pure (strip a1))) fun t16_9 =>
 M.bind (noPan (M.pure (strip a0))) fun t17_10 =>
 M.bind (noPan (nc P t17_10)) fun t18_11 =>
 M.bind (noPan (fa 0 t18_11)) fun t19_12 =>
 M.bind (noPan (M.pure (strip a0))) fun t21_13 =>
 M.bind (noPan (nc P t21_13)) fun t22_14 =>
 M.bind (noPan (fa 1 t22_14)) fun t23_15 =>
 M.bind (noPan (ld none false t19_12)) fun t20_16 =>
 M.bind (noPan (ld none false t23_15)) fun t24_17 =>
 M.bind (noPan (callV P C t16_9 [(strip t20_16), (strip t24_17)])) fun t25_18 =>
 M.bind (noPan (M.pure (strip t25_18))) fun t15_19 =>
 M.bind (noPan (ex 0 t15_19)) fun t26_20 =>
 M.bind (noPan (ex 1 (tupDrop 0 t15_19))) fun t27_21 =>
 M.bind (noPan (ex 2 (tupDrop 1 (tupDrop 0 t15_19)))) fun t28_22 =>
 M.bind (noPan (al [(.int .i64 0), (.int .i64 0), (.bool false), (.int .i64 0)])) fun t6_23 =>
 M.bind (noPan (st 4 true t6_23 t26_20)) fun _ =>
 M.bind (noPan (M.pure t27_21)) fun t7_25 =>
 M.bind (noPan (M.pure t28_22)) fun t8_26 =>
 M.pure [a0, a1, .undef, .undef, t4_0, t5_1, t6_23, t7_25, t8_26, (strip a0), t10_2, t11_3, t12_4, t13_5, .undef, (tupDrop 2 (tupDrop 1 (tupDrop 0 t15_19))), t16_9, t17_10, t18_11, t19_12, t20_16, t21_13, t22_14, t23_15, t24_17, t25_18, (strip t26_20), (strip t27_21), (strip t28_22), .undef, .undef, .undef, .undef, .undef, .undef, .undef, .undef, .undef, .undef, .undef, .undef]) <|
 M.bind (noPan (M.pure (strip a1))) fun t16_99 =>
 M.bind (noPan (M.pure (strip a0))) fun t17_100 =>
 M.bind (noPan (nc P t17_100)) fun t18_101 =>
 M.bind (noPan (fa 0 t18_101)) fun t19_102 =>
 M.bind (noPan (M.pure (strip a0))) fun t21_103 =>
 M.bind (noPan (nc P t21_103)) fun t22_104 =>
 M.bind (noPan (fa 1 t22_104)) fun t23_105 =>
 M.bind (noPan (ld none false t19_102)) fun t20_106 =>
 M.bind (noPan (ld none false t23_105)) fun t24_107 =>
 M.bind (noPan (callV P C t16_99 [(strip t20_106), (strip t24_107)])) fun t25_108 =>
 M.bind (noPan (M.pure (strip t25_108))) fun t15_109 =>
 M.bind (noPan (ex 0 t15_109)) fun t26_110 =>
 M.bind (noPan (ex 1 (tupDrop 0 t15_109))) fun t27_111 =>
 M.bind (noPan (ex 2 (tupDrop 1 (tupDrop 0 t15_109)))) fun t28_112 =>
 M.bind (noPan (al [(.int .i64 0), (.int .i64 0), (.bool false), (.int .i64 0)])) fun t6_113 =>
 M.bind (noPan (st 4 true t6_113 t26_110)) fun _ =>
 M.bind (noPan (M.pure t27_111)) fun t7_115 =>
 M.bind (noPan (M.pure t28_112)) fun t8_116 =>
 M.bind (bi .neq .none (strip t8_116) (.int .i64 0)) fun t30_117 =>
 condM t30_117
 (M.bind (C u0r [(strip (strip a0)), (strip (strip t7_115)), (strip (strip t8_116))]) fun t34_118 =>
 M.bind (ld (some 4) true t5_1) fun t35_119 =>
 M.bind (st 4 true t4_0 t35_119) fun _ =>
 M.bind (ld (some 4) true t4_0) fun t0_121 => guardM (!isTup t0_121) (M.pure t0_121))
 (M.bind (nc P (strip a0)) fun t38_122 =>
 M.bind (fa 1 t38_122) fun t39_123 =>
 M.bind (st 1 true t39_123 t7_115) fun _ =>
 M.bind (ld (some 4) true t6_113) fun t40_125 =>
 M.bind (st 4 true t4_0 t40_125) fun _ =>
 M.bind (ld (some 4) true t4_0) fun t0_127 => guardM (!isTup t0_127) (M.pure t0_127)))) := by
 rw [C, u03 _ _ rfl]; kernel_rfl
theorem udn (a0 a1 : PV) : C u5x [a0, a1] =
 trunc (M.bind (al [(.int .i64 0), (.int .i64 0), (.bool false), (.int .i64 0)]) fun t4_0 =>
 M.bind (C u4x [(strip (strip a0)), (strip (strip a1)), (.fn u4i [] [])]) fun t9_1 =>
 M.bind (ex 0 t9_1) fun t10_2 =>
 M.bind (ex 1 (tupDrop 0 t9_1)) fun t11_3 =>
 M.bind (ex 2 (tupDrop 1 (tupDrop 0 t9_1))) fun t12_4 =>
 M.bind (st 4 true t4_0 t10_2) fun _ =>
 M.bind (ld (some 4) true t4_0) fun t0_6 => guardM (!isTup t0_6) (resT t11_3 (resT t12_4 (M.pure (.tup [t0_6, t11_3, t12_4]))))) := by
 rw [C, u03 _ _ rfl]; kernel_rfl
theorem ucu (a0 : PV) : C u0t [a0] =
 trunc (M.bind (C u2r [(.fn u7a [] [])]) fun t4_0 =>
 M.bind (C u3r [(strip (strip a0)), (strip t4_0)]) fun t5_1 =>
 resT t5_1 (M.pure t5_1)) := by
 rw [C, u03 _ _ rfl]; kernel_rfl
theorem u9k (a0 a1 : PV) : C u28 [a0, a1] =
 trunc (M.bind (al [(.int .i64 0), (.bool false), (.int .i64 0)]) fun t4_0 =>
 M.bind (al [(.int .i64 0), (.bool false), (.int .i64 0)]) fun t5_1 =>
 M.bind (nc P (strip a0)) fun t10_2 =>
 M.bind (fa 20 t10_2) fun t11_3 =>
 M.bind (ld none false t11_3) fun t12_4 =>
 M.bind (bi .neq .none t12_4 (.int .i64 0)) fun t13_5 =>
 condM t13_5
 (M.bind (ld (some 3) true t5_1) fun t14_6 =>
 M.bind (st 3 true t4_0 t14_6) fun _ =>
 M.bind (ld (some 3) true t4_0) fun t0_8 => guardM (!isTup t0_8) (M.pure t0_8))
 (chk
 (M.bind (noPan (M.pure (strip a1))) fun t16_27 =>
 M.bind (noPan (M.pure (strip a0))) fun t17_28 =>
 M.bind (noPan (nc P t17_28)) fun t18_29 =>
 M.bind (noPan (fa 0 t18_29)) fun t19_30 =>
 M.bind (noPan (M.pure (strip a0))) fun t21_31 =>
 M.bind (noPan (nc P t21_31)) fun t22_32 =>
 M.bind (noPan (fa 1 t22_32)) fun t23_33 =>
 M.bind (noPan (ld none false t19_30)) fun t20_34 =>
 M.bind (noPan (ld none false t23_33)) fun t24_35 =>
 M.bind (noPan (al [(.int .i64 0), (.bool false), (.int .i64 0)])) fun t6_36 =>
 M.bind (noPan (callV P C t16_27 [(strip t20_34), (strip t24_35)])) fun t25_37 =>
 M.bind (noPan (M.pure (strip t25_37))) fun t15_38 =>
 M.bind (noPan (ex 0 t15_38)) fun t26_39 =>
 M.bind (noPan (ex 1 (tupDrop 0 t15_38))) fun t27_40 =>
 M.bind (noPan (ex 2 (tupDrop 1 (tupDrop 0 t15_38)))) fun t28_41 =>
 M.bind (noPan (st 3 true t6_36 t26_39)) fun _ =>
 M.bind (noPan (M.pure t27_40)) fun t7_43 =>
 M.bind (noPan (M.pure t28_41)) fun t8_44 =>
 M.pure [a0, a1, .undef, .undef, t4_0, t5_1, t6_36, t7_43, t8_44, (strip a0), t10_2, t11_3, t12_4, t13_5, .undef, (tupDrop 2 (tupDrop 1 (tupDrop 0 t15_38))), t16_27, t17_28, t18_29, t19_30, t20_34, t21_31, t22_32, t23_33, t24_35, t25_37, (strip t26_39), (strip t27_40), (strip t28_41), .undef, .undef, .undef, .undef, .undef, .undef, .undef, .undef, .undef, .undef, .undef, .undef])
 (M.bind (noPan (M.pure (strip a1))) fun t16_9 =>
 M.bind (noPan (M.pure (strip a0))) fun t17_10 =>
 M.bind (noPan (nc P t17_10)) fun t18_11 =>
 M.bind (noPan (fa 0 t18_11)) fun t19_12 =>
 M.bind (noPan (M.pure (strip a0))) fun t21_13 =>
 M.bind (noPan (nc P t21_13)) fun t22_14 =>
 M.bind (noPan (fa 1 t22_14)) fun t23_15 =>
 M.bind (noPan (ld none false t19_12)) fun t20_16 =>
 M.bind (noPan (ld none false t23_15)) fun t24_17 =>
 M.bind (noPan (callV P C t16_9 [(strip t20_16), (strip t24_17)])) fun t25_18 =>
 M.bind (noPan (M.pure (strip t25_18))) fun t15_19 =>
 M.bind (noPan (ex 0 t15_19)) fun t26_20 =>
 M.bind (noPan (ex 1 (tupDrop 0 t15_19))) fun t27_21 =>
 M.bind (noPan (ex 2 (tupDrop 1 (tupDrop 0 t15_19)))) fun t28_22 =>
 M.bind (noPan (al [(.int .i64 0), (.bool false), (.int .i64 0)])) fun t6_23 =>
 M.bind (noPan (st 3 true t6_23 t26_20)) fun _ =>
 M.bind (noPan (M.pure t27_21)) fun t7_25 =>
 M.bind (noPan (M.pure t28_22)) fun t8_26 =>
 M.pure [a0, a1, .undef, .undef, t4_0, t5_1, t6_23, t7_25, t8_26, (strip a0), t10_2, t11_3, t12_4, t13_5, .undef, (tupDrop 2 (tupDrop 1 (tupDrop 0 t15_19))), t16_9, t17_10, t18_11, t19_12, t20_16, t21_13, t22_14, t23_15, t24_17, t25_18, (strip t26_20), (strip t27_21), (strip t28_22), .undef, .undef, .undef, .undef, .undef, .undef, .undef, .undef, .undef, .undef, .undef, .undef]) <|
 chk
 (M.bind (noPan (M.pure (strip a1))) fun t16_45 =>
 M.bind (noPan (M.pure (strip a0))) fun t17_46 =>
 M.bind (noPan (nc P t17_46)) fun t18_47 =>
 M.bind (noPan (fa 0 t18_47)) fun t19_48 =>
 M.bind (noPan (M.pure (strip a0))) fun t21_49 =>
 M.bind (noPan (nc P t21_49)) fun t22_50 =>
 M.bind (noPan (fa 1 t22_50)) fun t23_51 =>
 M.bind (noPan (ld none false t19_48)) fun t20_52 =>
 M.bind (noPan (al [(.int .i64 0), (.bool false), (.int .i64 0)])) fun t6_53 =>
 M.bind (noPan (ld none false t23_51)) fun t24_54 =>
 M.bind (noPan (callV P C t16_45 [(strip t20_52), (strip t24_54)])) fun t25_55 =>
 M.bind (noPan (M.pure (strip t25_55))) fun t15_56 =>
 M.bind (noPan (ex 0 t15_56)) fun t26_57 =>
 M.bind (noPan (ex 1 (tupDrop 0 t15_56))) fun t27_58 =>
 M.bind (noPan (ex 2 (tupDrop 1 (tupDrop 0 t15_56)))) fun t28_59 =>
 M.bind (noPan (st 3 true t6_53 t26_57)) fun _ =>
 M.bind (noPan (M.pure t27_58)) fun t7_61 =>
 M.bind (noPan (M.pure t28_59)) fun t8_62 =>
 M.pure [a0, a1, .undef, .undef, t4_0, t5_1, t6_53, t7_61, t8_62, (strip a0), t10_2, t11_3, t12_4, t13_5, .undef, (tupDrop 2 (tupDrop 1 (tupDrop 0 t15_56))), t16_45, t17_46, t18_47, t19_48, t20_52, t21_49, t22_50, t23_51, t24_54, t25_55, (strip t26_57), (strip t27_58), (strip t28_59), .undef, .undef, .undef, .undef, .undef, .undef, .undef, .undef, .undef, .undef, .undef, .undef])
 (M.bind (noPan (M.pure (strip a1))) fun t16_9 =>
 M.bind (noPan (M.pure (strip a0))) fun t17_10 =>
 M.bind (noPan (nc P t17_10)) fun t18_11 =>
 M.bind (noPan (fa 0 t18_11)) fun t19_12 =>
 M.bind (noPan (M.pure (strip a0))) fun t21_13 =>
 M.bind (noPan (nc P t21_13)) fun t22_14 =>
 M.bind (noPan (fa 1 t22_14)) fun t23_15 =>
 M.bind (noPan (ld none false t19_12)) fun t20_16 =>
 M.bind (noPan (ld none false t23_15)) fun t24_17 =>
 M.bind (noPan (callV P C t16_9 [(strip t20_16), (strip t24_17)])) fun t25_18 =>
 M.bind (noPan (M.pure (strip t25_18))) fun t15_19 =>
 M.bind (noPan (ex 0 t15_19)) fun t26_20 =>
 M.bind (noPan (ex 1 (tupDrop 0 t15_19))) fun t27_21 =>
 M.bind (noPan (ex 2 (tupDrop 1 (tupDrop 0 t15_19)))) fun t28_22 =>
 M.bind (noPan (al [(.int .i64 0), (.bool false), (.int .i64 0)])) fun t6_23 =>
 M.bind (noPan (st 3 true t6_23 t26_20)) fun _ =>
 M.bind (noPan (M.pure t27_21)) fun t7_25 =>
 M.bind (noPan (M.pure t28_22)) fun t8_26 =>
 M.pure [a0, a1, .undef, .undef, t4_0, t5_1, t6_23, t7_25, t8_26, (strip a0), t10_2, t11_3, t12_4, t13_5, .undef, (tupDrop 2 (tupDrop 1 (tupDrop 0 t15_19))), t16_9, t17_10, t18_11, t19_12, t20_16, t21_13, t22_14, t23_15, t24_17, t25_18, (strip t26_20), (strip t27_21), (strip t28_22), .undef, .undef, .undef, .undef, .undef, .undef, .undef, .undef, .undef, .undef, .undef, .undef]) <|
 chk
 (M.bind (noPan (M.pure (strip a1))) fun t16_63 =>
 M.bind (noPan (M.pure (strip a0))) fun t17_64 =>
 M.bind (noPan (nc P t17_64)) fun t18_65 =>
 M.bind (noPan (fa 0 t18_65)) fun t19_66 =>
 M.bind (noPan (M.pure (strip a0))) fun t21_67 =>
 M.bind (noPan (nc P t21_67)) fun t22_68 =>
 M.bind (noPan (fa 1 t22_68)) fun t23_69 =>
 M.bind (noPan (ld none false t23_69)) fun t24_70 =>
 M.bind (noPan (al [(.int .i64 0), (.bool false), (.int .i64 0)])) fun t6_71 =>
 M.bind (noPan (ld none false t19_66)) fun t20_72 =>
 M.bind (noPan (callV P C t16_63 [(strip t20_72), (strip t24_70)])) fun t25_73 =>
 M.bind (noPan (M.pure (strip t25_73))) fun t15_74 =>
 M.bind (noPan (ex 0 t15_74)) fun t26_75 =>
 M.bind (noPan (ex 1 (tupDrop 0 t15_74))) fun t27_76 =>
 M.bind (noPan (ex 2 (tupDrop 1 (tupDrop 0 t15_74)))) fun t28_77 =>
 M.bind (noPan (st 3 true t6_71 t26_75)) fun _ =>
 M.bind (noPan (M.pure t27_76)) fun t7_79 =>
 M.bind (noPan (M.pure t28_77)) fun t8_80 =>
 M.pure [a0, a1, .undef, .undef, t4_0, t5_1, t6_71, t7_79, t8_80, (strip a0), t10_2, t11_3, t12_4, t13_5, .undef, (tupDrop 2 (tupDrop 1 (tupDrop 0 t15_74))), t16_63, t17_64, t18_65, t19_66, t20_72, t21_67, t22_68, t23_69, t24_70, t25_73, (strip t26_75), (strip t27_76), (strip t28_77), .undef, .undef, .undef, .undef, .undef, .undef, .undef, .undef, .undef, .undef, .undef, .undef])
 (M.bind (noPan (M.pure (strip a1))) fun t16_9 =>
 M.bind (noPan (M.pure (strip a0))) fun t17_10 =>
 M.bind (noPan (nc P t17_10)) fun t18_11 =>
 M.bind (noPan (fa 0 t18_11)) fun t19_12 =>
 M.bind (noPan (M.pure (strip a0))) fun t21_13 =>
 M.bind (noPan (nc P t21_13)) fun t22_14 =>
 M.bind (noPan (fa 1 t22_14)) fun t23_15 =>
 M.bind (noPan (ld none false t19_12)) fun t20_16 =>
 M.bind (noPan (ld none false t23_15)) fun t24_17 =>
 M.bind (noPan (callV P C t16_9 [(strip t20_16), (strip t24_17)])) fun t25_18 =>
 M.bind (noPan (M.pure (strip t25_18))) fun t15_19 =>
 M.bind (noPan (ex 0 t15_19)) fun t26_20 =>
 M.bind (noPan (ex 1 (tupDrop 0 t15_19))) fun t27_21 =>
 M.bind (noPan (ex 2 (tupDrop 1 (tupDrop 0 t15_19)))) fun t28_22 =>
 M.bind (noPan (al [(.int .i64 0), (.bool false), (.int .i64 0)])) fun t6_23 =>
 M.bind (noPan (st 3 true t6_23 t26_20)) fun _ =>
 M.bind (noPan (M.pure t27_21)) fun t7_25 =>
 M.bind (noPan (M.pure t28_22)) fun t8_26 =>
 M.pure [a0, a1, .undef, .undef, t4_0, t5_1, t6_23, t7_25, t8_26, (strip a0), t10_2, t11_3, t12_4, t13_5, .undef, (tupDrop 2 (tupDrop 1 (tupDrop 0 t15_19))), t16_9, t17_10, t18_11, t19_12, t20_16, t21_13, t22_14, t23_15, t24_17, t25_18, (strip t26_20), (strip t27_21), (strip t28_22), .undef, .undef, .undef, .undef, .undef, .undef, .undef, .undef, .undef, .undef, .undef, .undef]) <|
 chk
 (M.bind (noPan (M.pure (strip a1))) fun t16_81 =>
 M.bind (noPan (M.pure (strip a0))) fun t17_82 =>
 M.bind (noPan (nc P t17_82)) fun t18_83 =>
 M.bind (noPan (fa 0 t18_83)) fun t19_84 =>
 M.bind (noPan (M.pure (strip a0))) fun t21_85 =>
 M.bind (noPan (nc P t21_85)) fun t22_86 =>
 M.bind (noPan (fa 1 t22_86)) fun t23_87 =>
 M.bind (noPan (al [(.int .i64 0), (.bool false), (.int .i64 0)])) fun t6_88 =>
 M.bind (noPan (ld none false t19_84)) fun t20_89 =>
 M.bind (noPan (ld none false t23_87)) fun t24_90 =>
 M.bind (noPan (callV P C t16_81 [(strip t20_89), (strip t24_90)])) fun t25_91 =>
 M.bind (noPan (M.pure (strip t25_91))) fun t15_92 =>
 M.bind (noPan (ex 0 t15_92)) fun t26_93 =>
 M.bind (noPan (ex 1 (tupDrop 0 t15_92))) fun t27_94 =>
 M.bind (noPan (ex 2 (tupDrop 1 (tupDrop 0 t15_92)))) fun t28_95 =>
 M.bind (noPan (st 3 true t6_88 t26_93)) fun _ =>
 M.bind (noPan (M.pure t27_94)) fun t7_97 =>
 M.bind (noPan (M.pure t28_95)) fun t8_98 =>
 M.pure [a0, a1, .undef, .undef, t4_0, t5_1, t6_88, t7_97, t8_98, (strip a0), t10_2, t11_3, t12_4, t13_5, .undef, (tupDrop 2 (tupDrop 1 (tupDrop 0 t15_92))), t16_81, t17_82, t18_83, t19_84, t20_89, t21_85, t22_86, t23_87, t24_90, t25_91, (strip t26_93), (strip t27_94), (strip t28_95), .undef, .undef, .undef, .undef, .undef, .undef, .undef, .undef, .undef, .undef, .undef, .undef])
 (M.bind (noPan (M.pure (strip a1))) fun t16_9 =>
 M.bind (noPan (M.pure (strip a0))) fun t17_10 =>
 M.bind (noPan (nc P t17_10)) fun t18_11 =>
 M.bind (noPan (fa 0 t18_11)) fun t19_12 =>
 M.bind (noPan (M.pure (strip a0))) fun t21_13 =>
 M.bind (noPan (nc P t21_13)) fun t22_14 =>
 M.bind (noPan (fa 1 t22_14)) fun t23_15 =>
 M.bind (noPan (ld none false t19_12)) fun t20_16 =>
 M.bind (noPan (ld none false t23_15)) fun t24_17 =>
 M.bind (noPan (callV P C t16_9 [(strip t20_16), (strip t24_17)])) fun t25_18 =>
 M.bind (noPan (M.pure (strip t25_18))) fun t15_19 =>
 M.bind (noPan (ex 0 t15_19)) fun t26_20 =>
 M.bind (noPan (ex 1 (tupDrop 0 t15_19))) fun t27_21 =>
 M.bind (noPan (ex 2 (tupDrop 1 (tupDrop 0 t15_19)))) fun t28_22 =>
 M.bind (noPan (al [(.int .i64 0), (.bool false), (.int .i64 0)])) fun t6_23 =>
 M.bind (noPan (st 3 true t6_23 t26_20)) fun _ =>
 M.bind (noPan (M.pure t27_21)) fun t7_25 =>
 M.bind (noPan (M.pure t28_22)) fun t8_26 =>
 M.pure [a0, a1, .undef, .undef, t4_0, t5_1, t6_23, t7_25, t8_26, (strip a0), t10_2, t11_3, t12_4, t13_5, .undef, (tupDrop 2 (tupDrop 1 (tupDrop 0 t15_19))), t16_9, t17_10, t18_11, t19_12, t20_16, t21_13, t22_14, t23_15, t24_17, t25_18, (strip t26_20), (strip t27_21), (strip t28_22), .undef, .undef, .undef, .undef, .undef, .undef, .undef, .undef, .undef, .undef, .undef, .undef]) <|
 M.bind (noPan (M.pure (strip a1))) fun t16_99 =>
 M.bind (noPan (M.pure (strip a0))) fun t17_100 =>
 M.bind (noPan (nc P t17_100)) fun t18_101 =>
 M.bind (noPan (fa 0 t18_101)) fun t19_102 =>
 M.bind (noPan (M.pure (strip a0))) fun t21_103 =>
 M.bind (noPan (nc P t21_103)) fun t22_104 =>
 M.bind (noPan (fa 1 t22_104)) fun t23_105 =>
 M.bind (noPan (ld none false t19_102)) fun t20_106 =>
 M.bind (noPan (ld none false t23_105)) fun t24_107 =>
 M.bind (noPan (callV P C t16_99 [(strip t20_106), (strip t24_107)])) fun t25_108 =>
 M.bind (noPan (M.pure (strip t25_108))) fun t15_109 =>
 M.bind (noPan (ex 0 t15_109)) fun t26_110 =>
 M.bind (noPan (ex 1 (tupDrop 0 t15_109))) fun t27_111 =>
 M.bind (noPan (ex 2 (tupDrop 1 (tupDrop 0 t15_109)))) fun t28_112 =>
 M.bind (noPan (al [(.int .i64 0), (.bool false), (.int .i64 0)])) fun t6_113 =>
 M.bind (noPan (st 3 true t6_113 t26_110)) fun _ =>
 M.bind (noPan (M.pure t27_111)) fun t7_115 =>
 M.bind (noPan (M.pure t28_112)) fun t8_116 =>
 M.bind (bi .neq .none (strip t8_116) (.int .i64 0)) fun t30_117 =>
 condM t30_117
 (M.bind (C u0r [(strip (strip a0)), (strip (strip t7_115)), (strip (strip t8_116))]) fun t34_118 =>
 M.bind (ld (some 3) true t5_1) fun t35_119 =>
 M.bind (st 3 true t4_0 t35_119) fun _ =>
 M.bind (ld (some 3) true t4_0) fun t0_121 => guardM (!isTup t0_121) (M.pure t0_121))
 (M.bind (nc P (strip a0)) fun t38_122 =>
 M.bind (fa 1 t38_122) fun t39_123 =>
 M.bind (st 1 true t39_123 t7_115) fun _ =>
 M.bind (ld (some 3) true t6_113) fun t40_125 =>
 M.bind (st 3 true t4_0 t40_125) fun _ =>
 M.bind (ld (some 3) true t4_0) fun t0_127 => guardM (!isTup t0_127) (M.pure t0_127)))) := by
 rw [C, u03 _ _ rfl]; kernel_rfl
theorem ufd (a0 a1 : PV) : C u43 [a0, a1] =
 trunc (M.bind (al [(.int .i64 0), (.bool false), (.int .i64 0)]) fun t4_0 =>
 M.bind (C u4c [(strip (strip a0)), (strip (strip a1)), (.fn u3b [] [])]) fun t9_1 =>
 M.bind (ex 0 t9_1) fun t10_2 =>
 M.bind (ex 1 (tupDrop 0 t9_1)) fun t11_3 =>
 M.bind (ex 2 (tupDrop 1 (tupDrop 0 t9_1))) fun t12_4 =>
 M.bind (st 3 true t4_0 t10_2) fun _ =>
 M.bind (ld (some 3) true t4_0) fun t0_6 => guardM (!isTup t0_6) (resT t11_3 (resT t12_4 (M.pure (.tup [t0_6, t11_3, t12_4]))))) := by
 rw [C, u03 _ _ rfl]; kernel_rfl
theorem uc2 (a0 a1 : PV) : C u3q [a0, a1] =
 trunc (M.bind (nc P (strip a0)) fun t10_0 =>
 M.bind (fa 20 t10_0) fun t11_1 =>
 M.bind (ld none false t11_1) fun t12_2 =>
 M.bind (bi .neq .none t12_2 (.int .i64 0)) fun t13_3 =>
 condM t13_3
 (M.pure (.int .u64 0))
 (M.bind (noPan (M.pure (strip a1))) fun t16_21 =>
 M.bind (noPan (M.pure (strip a0))) fun t17_22 =>
 M.bind (noPan (nc P t17_22)) fun t18_23 =>
 M.bind (noPan (fa 0 t18_23)) fun t19_24 =>
 M.bind (noPan (M.pure (strip a0))) fun t21_25 =>
 M.bind (noPan (nc P t21_25)) fun t22_26 =>
 M.bind (noPan (fa 1 t22_26)) fun t23_27 =>
 M.bind (noPan (ld none false t19_24)) fun t20_28 =>
 M.bind (noPan (ld none false t23_27)) fun t24_29 =>
 M.bind (noPan (callV P C t16_21 [(strip t20_28), (strip t24_29)])) fun t25_30 =>
 M.bind (noPan (M.pure (strip t25_30))) fun t15_31 =>
 M.bind (noPan (ex 0 t15_31)) fun t26_32 =>
 M.bind (noPan (ex 1 (tupDrop 0 t15_31))) fun t27_33 =>
 M.bind (noPan (ex 2 (tupDrop 1 (tupDrop 0 t15_31)))) fun t28_34 =>
 M.bind (noPan (M.pure t26_32)) fun t6_35 =>
 M.bind (noPan (M.pure t27_33)) fun t7_36 =>
 M.bind (noPan (M.pure t28_34)) fun t8_37 =>
 M.bind (bi .neq .none (strip t8_37) (.int .i64 0)) fun t30_38 =>
 condM t30_38
 (M.bind (C u0r [(strip (strip a0)), (strip (strip t7_36)), (strip (strip t8_37))]) fun t34_39 =>
 M.pure (.int .u64 0))
 (M.bind (nc P (strip a0)) fun t38_40 =>
 M.bind (fa 1 t38_40) fun t39_41 =>
 M.bind (st 1 true t39_41 t7_36) fun _ =>
 resT t6_35 (M.pure t6_35)))) := by
 rw [C, u03 _ _ rfl]; kernel_rfl
theorem ua9 (a0 : PV) : C u22 [a0] =
 trunc (M.bind (bx 1 a0) fun t1_0 =>
 M.bind (mf u1b [] [t1_0]) fun t3_1 =>
 resT t3_1 (M.pure t3_1)) := by
 rw [C, u03 _ _ rfl]; kernel_rfl
theorem uro (a0 a1 a2 : PV) : C u6v [a0, a1, a2] =
 trunc (M.bind (C u2h [(strip (strip a0)), (strip (strip a1)), (strip (strip a2)), (.fn udz [] [])]) fun t12_0 =>
 M.bind (ex 0 t12_0) fun t13_1 =>
 M.bind (ex 1 (tupDrop 0 t12_0)) fun t14_2 =>
 M.bind (ex 2 (tupDrop 1 (tupDrop 0 t12_0))) fun t15_3 =>
 resT t13_1 (resT t14_2 (resT t15_3 (M.pure (.tup [t13_1, t14_2, t15_3]))))) := by
 rw [C, u03 _ _ rfl]; kernel_rfl
theorem udb (a0 a1 : PV) : C u6d [a0, a1] =
 trunc (M.bind (nc P (strip a0)) fun t10_0 =>
 M.bind (fa 20 t10_0) fun t11_1 =>
 M.bind (ld none false t11_1) fun t12_2 =>
 M.bind (bi .neq .none t12_2 (.int .i64 0)) fun t13_3 =>
 condM t13_3
 (M.pure (.int .i32 0))
 (M.bind (noPan (M.pure (strip a1))) fun t16_21 =>
 M.bind (noPan (M.pure (strip a0))) fun t17_22 =>
 M.bind (noPan (nc P t17_22)) fun t18_23 =>
 M.bind (noPan (fa 0 t18_23)) fun t19_24 =>
 M.bind (noPan (M.pure (strip a0))) fun t21_25 =>
 M.bind (noPan (nc P t21_25)) fun t22_26 =>
 M.bind (noPan (fa 1 t22_26)) fun t23_27 =>
 M.bind (noPan (ld none false t19_24)) fun t20_28 =>
 M.bind (noPan (ld none false t23_27)) fun t24_29 =>
 M.bind (noPan (callV P C t16_21 [(strip t20_28), (strip t24_29)])) fun t25_30 =>
 M.bind (noPan (M.pure (strip t25_30))) fun t15_31 =>
 M.bind (noPan (ex 0 t15_31)) fun t26_32 =>
 M.bind (noPan (ex 1 (tupDrop 0 t15_31))) fun t27_33 =>
 M.bind (noPan (ex 2 (tupDrop 1 (tupDrop 0 t15_31)))) fun t28_34 =>
 M.bind (noPan (M.pure t26_32)) fun t6_35 =>
 M.bind (noPan (M.pure t27_33)) fun t7_36 =>
 M.bind (noPan (M.pure t28_34)) fun t8_37 =>
 M.bind (bi .neq .none (strip t8_37) (.int .i64 0)) fun t30_38 =>
 condM t30_38
 (M.bind (C u0r [(strip (strip a0)), (strip (strip t7_36)), (strip (strip t8_37))]) fun t34_39 =>
 M.pure (.int .i32 0))
 (M.bind (nc P (strip a0)) fun t38_40 =>
 M.bind (fa 1 t38_40) fun t39_41 =>
 M.bind (st 1 true t39_41 t7_36) fun _ =>
 resT t6_35 (M.pure t6_35)))) := by
 rw [C, u03 _ _ rfl]; kernel_rfl
theorem uan (a0 : PV) : C u5e [a0] =
 trunc (M.bind (bx 1 a0) fun t1_0 =>
 M.bind (mf u2f [] [t1_0]) fun t3_1 =>
 resT t3_1 (M.pure t3_1)) := by
 rw [C, u03 _ _ rfl]; kernel_rfl
theorem urk (a0 a1 a2 : PV) : C u7e [a0, a1, a2] =
 trunc (M.bind (C u5v [(strip (strip a0)), (strip (strip a1)), (strip (strip a2)), (.fn ue5 [] [])]) fun t12_0 =>
 M.bind (ex 0 t12_0) fun t13_1 =>
 M.bind (ex 1 (tupDrop 0 t12_0)) fun t14_2 =>
 M.bind (ex 2 (tupDrop 1 (tupDrop 0 t12_0))) fun t15_3 =>
 resT t13_1 (resT t14_2 (resT t15_3 (M.pure (.tup [t13_1, t14_2, t15_3]))))) := by
 rw [C, u03 _ _ rfl]; kernel_rfl
theorem ucr (a0 a1 : PV) : C u6e [a0, a1] =
 trunc (M.bind (nc P (strip a0)) fun t10_0 =>
 M.bind (fa 20 t10_0) fun t11_1 =>
 M.bind (ld none false t11_1) fun t12_2 =>
 M.bind (bi .neq .none t12_2 (.int .i64 0)) fun t13_3 =>
 condM t13_3
 (M.pure (.int .i64 0))
 (M.bind (noPan (M.pure (strip a1))) fun t16_21 =>
 M.bind (noPan (M.pure (strip a0))) fun t17_22 =>
 M.bind (noPan (nc P t17_22)) fun t18_23 =>
 M.bind (noPan (fa 0 t18_23)) fun t19_24 =>
 M.bind (noPan (M.pure (strip a0))) fun t21_25 =>
 M.bind (noPan (nc P t21_25)) fun t22_26 =>
 M.bind (noPan (fa 1 t22_26)) fun t23_27 =>
 M.bind (noPan (ld none false t19_24)) fun t20_28 =>
 M.bind (noPan (ld none false t23_27)) fun t24_29 =>
 M.bind (noPan (callV P C t16_21 [(strip t20_28), (strip t24_29)])) fun t25_30 =>
 M.bind (noPan (M.pure (strip t25_30))) fun t15_31 =>
 M.bind (noPan (ex 0 t15_31)) fun t26_32 =>
 M.bind (noPan (ex 1 (tupDrop 0 t15_31))) fun t27_33 =>
 M.bind (noPan (ex 2 (tupDrop 1 (tupDrop 0 t15_31)))) fun t28_34 =>
 M.bind (noPan (M.pure t26_32)) fun t6_35 =>
 M.bind (noPan (M.pure t27_33)) fun t7_36 =>
 M.bind (noPan (M.pure t28_34)) fun t8_37 =>
 M.bind (bi .neq .none (strip t8_37) (.int .i64 0)) fun t30_38 =>
 condM t30_38
 (M.bind (C u0r [(strip (strip a0)), (strip (strip t7_36)), (strip (strip t8_37))]) fun t34_39 =>
 M.pure (.int .i64 0))
 (M.bind (nc P (strip a0)) fun t38_40 =>
 M.bind (fa 1 t38_40) fun t39_41 =>
 M.bind (st 1 true t39_41 t7_36) fun _ =>
 resT t6_35 (M.pure t6_35)))) := by
 rw [C, u03 _ _ rfl]; kernel_rfl
theorem uap (a0 : PV) : C u59 [a0] =
 trunc (M.bind (bx 1 a0) fun t1_0 =>
 M.bind (mf u2g [] [t1_0]) fun t3_1 =>
 resT t3_1 (M.pure t3_1)) := by
 rw [C, u03 _ _ rfl]; kernel_rfl
theorem ur3 (a0 a1 a2 : PV) : C u77 [a0, a1, a2] =
 trunc (M.bind (C u30 [(strip (strip a0)), (strip (strip a1)), (strip (strip a2)), (.fn udx [] [])]) fun t12_0 =>
 M.bind (ex 0 t12_0) fun t13_1 =>
 M.bind (ex 1 (tupDrop 0 t12_0)) fun t14_2 =>
 M.bind (ex 2 (tupDrop 1 (tupDrop 0 t12_0))) fun t15_3 =>
 resT t13_1 (resT t14_2 (resT t15_3 (M.pure (.tup [t13_1, t14_2, t15_3]))))) := by
 rw [C, u03 _ _ rfl]; kernel_rfl
theorem ucc (a0 a1 : PV) : C u3r [a0, a1] =
 trunc (M.bind (nc P (strip a0)) fun t10_0 =>
 M.bind (fa 20 t10_0) fun t11_1 =>
 M.bind (ld none false t11_1) fun t12_2 =>
 M.bind (bi .neq .none t12_2 (.int .i64 0)) fun t13_3 =>
 condM t13_3
 (M.pure (.int .u32 0))
 (M.bind (noPan (M.pure (strip a1))) fun t16_21 =>
 M.bind (noPan (M.pure (strip a0))) fun t17_22 =>
 M.bind (noPan (nc P t17_22)) fun t18_23 =>
 M.bind (noPan (fa 0 t18_23)) fun t19_24 =>
 M.bind (noPan (M.pure (strip a0))) fun t21_25 =>
 M.bind (noPan (nc P t21_25)) fun t22_26 =>
 M.bind (noPan (fa 1 t22_26)) fun t23_27 =>
 M.bind (noPan (ld none false t19_24)) fun t20_28 =>
 M.bind (noPan (ld none false t23_27)) fun t24_29 =>
 M.bind (noPan (callV P C t16_21 [(strip t20_28), (strip t24_29)])) fun t25_30 =>
 M.bind (noPan (M.pure (strip t25_30))) fun t15_31 =>
 M.bind (noPan (ex 0 t15_31)) fun t26_32 =>
 M.bind (noPan (ex 1 (tupDrop 0 t15_31))) fun t27_33 =>
 M.bind (noPan (ex 2 (tupDrop 1 (tupDrop 0 t15_31)))) fun t28_34 =>
 M.bind (noPan (M.pure t26_32)) fun t6_35 =>
 M.bind (noPan (M.pure t27_33)) fun t7_36 =>
 M.bind (noPan (M.pure t28_34)) fun t8_37 =>
 M.bind (bi .neq .none (strip t8_37) (.int .i64 0)) fun t30_38 =>
 condM t30_38
 (M.bind (C u0r [(strip (strip a0)), (strip (strip t7_36)), (strip (strip t8_37))]) fun t34_39 =>
 M.pure (.int .u32 0))
 (M.bind (nc P (strip a0)) fun t38_40 =>
 M.bind (fa 1 t38_40) fun t39_41 =>
 M.bind (st 1 true t39_41 t7_36) fun _ =>
 resT t6_35 (M.pure t6_35)))) := by
 rw [C, u03 _ _ rfl]; kernel_rfl
theorem ua7 (a0 : PV) : C u2r [a0] =
 trunc (M.bind (bx 1 a0) fun t1_0 =>
 M.bind (mf u19 [] [t1_0]) fun t3_1 =>
 resT t3_1 (M.pure t3_1)) := by
 rw [C, u03 _ _ rfl]; kernel_rfl
theorem urq (a0 a1 a2 : PV) : C u7c [a0, a1, a2] =
 trunc (M.bind (C u2k [(strip (strip a0)), (strip (strip a1)), (strip (strip a2)), (.fn ue4 [] [])]) fun t12_0 =>
 M.bind (ex 0 t12_0) fun t13_1 =>
 M.bind (ex 1 (tupDrop 0 t12_0)) fun t14_2 =>
 M.bind (ex 2 (tupDrop 1 (tupDrop 0 t12_0))) fun t15_3 =>
 resT t13_1 (resT t14_2 (resT t15_3 (M.pure (.tup [t13_1, t14_2, t15_3]))))) := by
 rw [C, u03 _ _ rfl]; kernel_rfl
theorem urh (a0 a1 a2 : PV) : C u7f [a0, a1, a2] =
 trunc (M.bind (C u2h [(strip (strip a0)), (strip (strip a1)), (strip (strip a2)), (.fn ue2 [] [])]) fun t12_0 =>
 M.bind (ex 0 t12_0) fun t13_1 =>
 M.bind (ex 1 (tupDrop 0 t12_0)) fun t14_2 =>
 M.bind (ex 2 (tupDrop 1 (tupDrop 0 t12_0))) fun t15_3 =>
 resT t13_1 (resT t14_2 (resT t15_3 (M.pure (.tup [t13_1, t14_2, t15_3]))))) := by
 rw [C, u03 _ _ rfl]; kernel_rfl
theorem ud1 (a0 a1 : PV) : C u48 [a0, a1] =
 trunc (M.bind (C u8f [(strip (strip a0)), (.fn u67 [] [])]) fun t6_0 =>
 M.bind (nc P (strip a0)) fun t9_1 =>
 M.bind (fa 2 t9_1) fun t10_2 =>
 M.bind (fa 15 t10_2) fun t11_3 =>
 M.bind (ld none true t11_3) fun t12_4 =>
 M.bind (bd [(.int .i64 0), (.bool false), (.int .i64 0)] [(0, 1, (.int .i64 5)), (1, 1, (strip a1)), (2, 1, (strip t6_0))]) fun t15_5 =>
 M.bind (bs true (some 3) [t15_5]) fun t16_6 =>
 M.bind (ap true 3 24 t12_4 t16_6) fun t17_7 =>
 M.bind (nc P (strip a0)) fun t18_8 =>
 M.bind (fa 2 t18_8) fun t19_9 =>
 M.bind (fa 15 t19_9) fun t20_10 =>
 M.bind (st 1 true t20_10 t17_7) fun _ =>
 M.pure (.tup [])) := by
 rw [C, u03 _ _ rfl]; kernel_rfl
theorem u9o (a0 a1 : PV) : C u0j [a0, a1] =
 trunc (M.bind (al [(.int .i64 0), (.int .i64 0), (.bool false), (.int .i64 0)]) fun t4_0 =>
 M.bind (C u3g [(strip (strip a0)), (strip (strip a1))]) fun t15_1 =>
 M.bind (ex 0 (strip t15_1)) fun t16_2 =>
 M.bind (ex 1 (tupDrop 0 (strip t15_1))) fun t17_3 =>
 M.bind (un .not (strip t17_3)) fun t19_4 =>
 condM t19_4
 (M.bind (bd [(.int .i64 0), (.int .i64 0), (.bool false), (.int .i64 0)] []) fun t20_5 =>
 M.bind (st 4 true t4_0 t20_5) fun _ =>
 M.bind (ld (some 4) true t4_0) fun t0_7 => guardM (!isTup t0_7) (M.pure (.tup [t0_7, (.int .i64 0), (.int .i64 1)])))
 (M.bind (C u23 [(strip (strip t16_2))]) fun t22_8 =>
 M.bind (al [(.int .i64 0), (.int .i64 0), (.bool false), (.int .i64 0)]) fun t9_9 =>
 M.bind (st 4 true t9_9 t22_8) fun _ =>
 M.bind (C u1w [(strip (strip t16_2))]) fun t25_11 =>
 M.bind (ex 0 (strip t25_11)) fun t26_12 =>
 M.bind (ex 1 (tupDrop 0 (strip t25_11))) fun t27_13 =>
 M.bind (bi .neq .none (strip t27_13) (.int .i64 0)) fun t29_14 =>
 condM t29_14
 (M.bind (bd [(.int .i64 0), (.int .i64 0), (.bool false), (.int .i64 0)] []) fun t30_15 =>
 M.bind (st 4 true t4_0 t30_15) fun _ =>
 M.bind (ld (some 4) true t4_0) fun t0_17 => guardM (!isTup t0_17) (resT t26_12 (resT t27_13 (M.pure (.tup [t0_17, t26_12, t27_13])))))
 (M.bind (ld (some 4) true t9_9) fun t33_18 =>
 M.bind (st 4 true t4_0 t33_18) fun _ =>
 M.bind (ld (some 4) true t4_0) fun t0_20 => guardM (!isTup t0_20) (resT t26_12 (M.pure (.tup [t0_20, t26_12, (.int .i64 0)])))))) := by
 rw [C, u03 _ _ rfl]; kernel_rfl
noncomputable def u0m (v0 v1 v2 v3 v4 v10 v11 v12 v13 v14 v15 : PV) : M PV := atP P X u0e [1, 1, 1, 1, 0, 1, 0] (mkEnv 91 0 [(0, v0), (1, v1), (2, v2), (3, v3), (4, v4), (10, v10), (11, v11), (12, v12), (13, v13), (14, v14), (15, v15)])
noncomputable def u0g (v0 v1 v2 v3 v4 v10 v11 v12 v13 v14 v15 : PV) : M PV := atP P X u0e [1, 1, 1, 1, 0, 1, 0, 0, 1, 0, 0, 1, 1, 1, 1, 1, 0, 1] (mkEnv 91 0 [(0, v0), (1, v1), (2, v2), (3, v3), (4, v4), (10, v10), (11, v11), (12, v12), (13, v13), (14, v14), (15, v15)])
theorem u80 (v0 v1 v2 v3 v4 v10 v11 v12 v13 v14 v15 : PV) : u0m v0 v1 v2 v3 v4 v10 v11 v12 v13 v14 v15 =
 M.bind (bi .lss .none (strip v15) (strip v13)) fun t27_0 =>
 condM t27_0
 (M.bind (bi .add .none (strip v1) (strip v15)) fun t32_1 =>
 M.bind (bi .geq .none t32_1 (strip v2)) fun t34_2 =>
 condM t34_2
 (resT v2 (M.pure (.tup [(.int .u64 0), v2, (.int .i64 3)])))
 (M.bind (bi .add .none (strip v1) (strip v15)) fun t39_3 =>
 M.bind (iaS 1 (strip v0) t39_3) fun t40_4 =>
 M.bind (ld none true t40_4) fun t41_5 =>
 M.bind (bi .sub .none (strip v13) (.int .i64 1)) fun t44_6 =>
 M.bind (bi .eql .none (strip v15) t44_6) fun t45_7 =>
 M.bind (gd (strip t45_7) true (M.pure (strip t41_5))) fun t47_8 =>
 M.bind (gd (strip t45_7) true (M.pure (strip v3))) fun t48_9 =>
 M.bind (gd (strip t45_7) true (M.pure (strip v15))) fun t49_10 =>
 M.bind (gd (strip t45_7) true (M.pure (strip v4))) fun t50_11 =>
 M.bind (gd (strip t45_7) true (C u7i [(strip t47_8), (strip t48_9), (strip t49_10), (strip t50_11)])) fun t51_12 =>
 M.bind (gd (strip t45_7) true (un .not t51_12)) fun t52_13 =>
 M.bind (pick (strip t45_7) t52_13 (.bool false)) fun t53_14 =>
 condM t53_14
 (M.bind (bi .add .none (strip v1) (strip v15)) fun t56_15 =>
 resT t56_15 (M.pure (.tup [(.int .u64 0), t56_15, (.int .i64 4)])))
 (M.bind (bi .rem .none (strip t41_5) (.int .u8 128)) fun t59_16 =>
 M.bind (cv (.int .u64) true t59_16) fun t60_17 =>
 M.bind (bi .mul .none (.int .i64 7) (strip v15)) fun t62_18 =>
 M.bind (cv (.int .u64) true t62_18) fun t63_19 =>
 M.bind (bi .shl .none t60_17 t63_19) fun t64_20 =>
 M.bind (bi .add .none (strip v14) t64_20) fun t65_21 =>
 M.bind (bi .lss .none (strip t41_5) (.int .u8 128)) fun t67_22 =>
 condM t67_22
 (M.bind (gd (strip (strip v4)) true (M.pure (strip t41_5))) fun t70_23 =>
 M.bind (gd (strip (strip v4)) true (bi .geq .none t70_23 (.int .u8 64))) fun t71_24 =>
 M.bind (pick (strip (strip v4)) t71_24 (.bool false)) fun t72_25 =>
 M.bind (gd (strip t72_25) true (M.pure (strip v15))) fun t74_26 =>
 M.bind (gd (strip t72_25) true (bi .mul .none (.int .i64 7) t74_26)) fun t75_27 =>
 M.bind (gd (strip t72_25) true (bi .add .none t75_27 (.int .i64 7))) fun t76_28 =>
 M.bind (gd (strip t72_25) true (bi .lss .none t76_28 (.int .i64 64))) fun t77_29 =>
 M.bind (pick (strip t72_25) t77_29 (.bool false)) fun t78_30 =>
 condM t78_30
 (M.bind (bi .mul .none (.int .i64 7) (strip v15)) fun t81_31 =>
 M.bind (bi .add .none t81_31 (.int .i64 7)) fun t82_32 =>
 M.bind (cv (.int .u64) true t82_32) fun t83_33 =>
 M.bind (bi .shl .none (.int .u64 1) t83_33) fun t84_34 =>
 M.bind (bi .sub .none (strip t65_21) t84_34) fun t85_35 =>
 u0g v0 v1 v2 v3 v4 v10 v11 v12 v13 t85_35 v15)
 (u0g v0 v1 v2 v3 v4 v10 v11 v12 v13 t65_21 v15))
 (M.bind (bi .add .none (strip v15) (.int .i64 1)) fun t29_36 =>
 u0m v0 v1 v2 v3 v4 v10 v11 v12 v13 t65_21 t29_36))))
 (M.pure (.tup [(.int .u64 0), (.int .i64 0), (.int .i64 4)])) :=
 (u0k P X _ _ _).trans (by kernel_rfl)
theorem u60 (v0 v1 v2 v3 v4 v10 v11 v12 v13 v14 v15 : PV) : u0g v0 v1 v2 v3 v4 v10 v11 v12 v13 v14 v15 =
 M.bind (bi .add .none (strip v1) (strip v15)) fun t89_0 =>
 M.bind (bi .add .none t89_0 (.int .i64 1)) fun t90_1 =>
 resT v14 (resT t90_1 (M.pure (.tup [v14, t90_1, (.int .i64 0)]))) :=
 (u0k P X _ _ _).trans (by kernel_rfl)
theorem u81 (a0 a1 a2 a3 a4 : PV) : C u0e [a0, a1, a2, a3, a4] =
 trunc (M.bind (C u5j [(strip (strip a0)), (strip (strip a1)), (strip (strip a2))]) fun t20_0 =>
 M.bind (un .not t20_0) fun t21_1 =>
 condM t21_1
 (M.pure (.tup [(.int .u64 0), (.int .i64 0), (.int .i64 1)]))
 (M.bind (bi .add .none (strip a3) (.int .i64 6)) fun t23_2 =>
 M.bind (bi .quo .none t23_2 (.int .i64 7)) fun t24_3 =>
 u0m a0 a1 a2 a3 a4 (.int .u64 0) (.int .i64 0) (.int .i64 0) t24_3 (.int .u64 0) (.int .i64 0))) := by
 rw [C, u03 _ _ rfl]; kernel_rfl
theorem uac (a0 a1 : PV) : C u0p [a0, a1] =
 trunc (M.bind (al [(.int .i64 0), (.bool false), (.int .i64 0)]) fun t4_0 =>
 M.bind (C u5k [(strip (strip a0)), (strip (strip a1)), (.bool true)]) fun t9_1 =>
 M.bind (ex 0 t9_1) fun t10_2 =>
 M.bind (ex 1 (tupDrop 0 t9_1)) fun t11_3 =>
 M.bind (ex 2 (tupDrop 1 (tupDrop 0 t9_1))) fun t12_4 =>
 M.bind (st 3 true t4_0 t10_2) fun _ =>
 M.bind (ld (some 3) true t4_0) fun t0_6 => guardM (!isTup t0_6) (resT t11_3 (resT t12_4 (M.pure (.tup [t0_6, t11_3, t12_4]))))) := by
 rw [C, u03 _ _ rfl]; kernel_rfl
noncomputable def u35 (v0 v1 v3 v8 v9 v10 v11 v12 : PV) : M PV := atP P X u1d [1, 1, 1, 1, 0, 1, 0] (mkEnv 44 0 [(0, v0), (1, v1), (3, v3), (8, v8), (9, v9), (10, v10), (11, v11), (12, v12)])
theorem u5r (v0 v1 v3 v8 v9 v10 v11 v12 : PV) : u35 v0 v1 v3 v8 v9 v10 v11 v12 =
 M.bind (bi .geq .none (strip v12) (.int .i64 0)) fun t27_0 =>
 condM t27_0
 (M.bind (bi .mul .none (.int .u64 256) (strip v11)) fun t31_1 =>
 M.bind (bi .add .none (strip v1) (strip v12)) fun t35_2 =>
 M.bind (iaS 1 (strip v0) t35_2) fun t36_3 =>
 M.bind (ld none false t36_3) fun t37_4 =>
 M.bind (cv (.int .u64) true t37_4) fun t38_5 =>
 M.bind (bi .add .none t31_1 t38_5) fun t39_6 =>
 M.bind (bi .sub .none (strip v12) (.int .i64 1)) fun t29_7 =>
 u35 v0 v1 v3 v8 v9 v10 t39_6 t29_7)
 (M.bind (bi .add .none (strip v1) (strip v3)) fun t43_8 =>
 resT v11 (resT t43_8 (M.pure (.tup [v11, t43_8, (.int .i64 0)])))) :=
 (u0k P X _ _ _).trans (by kernel_rfl)
theorem ub8 (a0 a1 a2 a3 : PV) : C u1d [a0, a1, a2, a3] =
 trunc (M.bind (C u5j [(strip (strip a0)), (strip (strip a1)), (strip (strip a2))]) fun t16_0 =>
 M.bind (un .not t16_0) fun t17_1 =>
 condM t17_1
 (M.pure (.tup [(.int .u64 0), (.int .i64 0), (.int .i64 1)]))
 (M.bind (bi .sub .none (strip a2) (strip a1)) fun t20_2 =>
 M.bind (bi .lss .none t20_2 (strip a3)) fun t22_3 =>
 condM t22_3
 (resT a2 (M.pure (.tup [(.int .u64 0), a2, (.int .i64 3)])))
 (M.bind (bi .sub .none (strip a3) (.int .i64 1)) fun t25_4 =>
 u35 a0 a1 a3 (.int .u64 0) (.int .i64 0) (.int .i64 0) (.int .u64 0) t25_4))) := by
 rw [C, u03 _ _ rfl]; kernel_rfl
theorem u9w (a0 a1 : PV) : C u4p [a0, a1] =
 trunc (M.bind (C u3g [(strip (strip a0)), (strip (strip a1))]) fun t15_0 =>
 M.bind (ex 0 (strip t15_0)) fun t16_1 =>
 M.bind (ex 1 (tupDrop 0 (strip t15_0))) fun t17_2 =>
 M.bind (un .not (strip t17_2)) fun t19_3 =>
 condM t19_3
 (M.pure (.tup [(.int .i64 0), (.int .i64 0), (.int .i64 1)]))
 (M.bind (C u0q [(strip (strip t16_1))]) fun t21_4 =>
 M.bind (C u1w [(strip (strip t16_1))]) fun t24_5 =>
 M.bind (ex 0 (strip t24_5)) fun t25_6 =>
 M.bind (ex 1 (tupDrop 0 (strip t24_5))) fun t26_7 =>
 M.bind (bi .neq .none (strip t26_7) (.int .i64 0)) fun t28_8 =>
 condM t28_8
 (resT t25_6 (resT t26_7 (M.pure (.tup [(.int .i64 0), t25_6, t26_7]))))
 (resT t21_4 (resT t25_6 (M.pure (.tup [t21_4, t25_6, (.int .i64 0)])))))) := by
 rw [C, u03 _ _ rfl]; kernel_rfl
end Go.Proofs.YthidcpkcfoldmaaGreat.Pi.Q
namespace Go.Proofs.YthidcpkcfoldmaaGreat.Pi.Q
open Go Go.Proofs.YthidcpkcfoldmaaGreat.Pi
theorem ub6 : C u73 [] =
 trunc (M.bind (bd [(.int .i64 0), (.str ⟨#[]⟩), (.str ⟨#[]⟩), (.str ⟨#[]⟩)] [(0, 1, (.int .i64 0)), (1, 1, (.str ⟨#[]⟩)), (2, 1, (.str ⟨#[117, 110, 114, 101, 97, 99, 104, 97, 98, 108, 101, 32, 110, 111, 112]⟩)), (3, 1, (.str ⟨#[45]⟩))]) fun t1_0 =>
 M.bind (bd [(.int .i64 0), (.str ⟨#[]⟩), (.str ⟨#[]⟩), (.str ⟨#[]⟩)] [(0, 1, (.int .i64 2)), (1, 1, (.str ⟨#[]⟩)), (2, 1, (.str ⟨#[98, 108, 111, 99, 107, 32, 108, 111, 111, 112, 32, 105, 102]⟩)), (3, 1, (.str ⟨#[98, 108, 111, 99, 107]⟩))]) fun t2_1 =>
 M.bind (bd [(.int .i64 0), (.str ⟨#[]⟩), (.str ⟨#[]⟩), (.str ⟨#[]⟩)] [(0, 1, (.int .i64 5)), (1, 1, (.str ⟨#[]⟩)), (2, 1, (.str ⟨#[101, 108, 115, 101]⟩)), (3, 1, (.str ⟨#[45]⟩))]) fun t3_2 =>
 M.bind (bd [(.int .i64 0), (.str ⟨#[]⟩), (.str ⟨#[]⟩), (.str ⟨#[]⟩)] [(0, 1, (.int .i64 8)), (1, 1, (.str ⟨#[]⟩)), (2, 1, (.str ⟨#[116, 104, 114, 111, 119]⟩)), (3, 1, (.str ⟨#[120]⟩))]) fun t4_3 =>
 M.bind (bd [(.int .i64 0), (.str ⟨#[]⟩), (.str ⟨#[]⟩), (.str ⟨#[]⟩)] [(0, 1, (.int .i64 10)), (1, 1, (.str ⟨#[]⟩)), (2, 1, (.str ⟨#[116, 104, 114, 111, 119, 95, 114, 101, 102, 32, 101, 110, 100]⟩)), (3, 1, (.str ⟨#[45]⟩))]) fun t5_4 =>
 M.bind (bd [(.int .i64 0), (.str ⟨#[]⟩), (.str ⟨#[]⟩), (.str ⟨#[]⟩)] [(0, 1, (.int .i64 12)), (1, 1, (.str ⟨#[]⟩)), (2, 1, (.str ⟨#[98, 114, 32, 98, 114, 95, 105, 102]⟩)), (3, 1, (.str ⟨#[120]⟩))]) fun t6_5 =>
 M.bind (bd [(.int .i64 0), (.str ⟨#[]⟩), (.str ⟨#[]⟩), (.str ⟨#[]⟩)] [(0, 1, (.int .i64 14)), (1, 1, (.str ⟨#[]⟩)), (2, 1, (.str ⟨#[98, 114, 95, 116, 97, 98, 108, 101]⟩)), (3, 1, (.str ⟨#[116, 97, 98, 108, 101]⟩))]) fun t7_6 =>
 M.bind (bd [(.int .i64 0), (.str ⟨#[]⟩), (.str ⟨#[]⟩), (.str ⟨#[]⟩)] [(0, 1, (.int .i64 15)), (1, 1, (.str ⟨#[]⟩)), (2, 1, (.str ⟨#[114, 101, 116, 117, 114, 110]⟩)), (3, 1, (.str ⟨#[45]⟩))]) fun t8_7 =>
 M.bind (bd [(.int .i64 0), (.str ⟨#[]⟩), (.str ⟨#[]⟩), (.str ⟨#[]⟩)] [(0, 1, (.int .i64 16)), (1, 1, (.str ⟨#[]⟩)), (2, 1, (.str ⟨#[99, 97, 108, 108]⟩)), (3, 1, (.str ⟨#[120]⟩))]) fun t9_8 =>
 M.bind (bd [(.int .i64 0), (.str ⟨#[]⟩), (.str ⟨#[]⟩), (.str ⟨#[]⟩)] [(0, 1, (.int .i64 17)), (1, 1, (.str ⟨#[]⟩)), (2, 1, (.str ⟨#[99, 97, 108, 108, 95, 105, 110, 100, 105, 114, 101, 99, 116]⟩)), (3, 1, (.str ⟨#[120, 121]⟩))]) fun t10_9 =>
 M.bind (bd [(.int .i64 0), (.str ⟨#[]⟩), (.str ⟨#[]⟩), (.str ⟨#[]⟩)] [(0, 1, (.int .i64 18)), (1, 1, (.str ⟨#[]⟩)), (2, 1, (.str ⟨#[114, 101, 116, 117, 114, 110, 95, 99, 97, 108, 108]⟩)), (3, 1, (.str ⟨#[120]⟩))]) fun t11_10 =>
 M.bind (bd [(.int .i64 0), (.str ⟨#[]⟩), (.str ⟨#[]⟩), (.str ⟨#[]⟩)] [(0, 1, (.int .i64 19)), (1, 1, (.str ⟨#[]⟩)), (2, 1, (.str ⟨#[114, 101, 116, 117, 114, 110, 95, 99, 97, 108, 108, 95, 105, 110, 100, 105, 114, 101, 99, 116]⟩)), (3, 1, (.str ⟨#[120, 121]⟩))]) fun t12_11 =>
 M.bind (bd [(.int .i64 0), (.str ⟨#[]⟩), (.str ⟨#[]⟩), (.str ⟨#[]⟩)] [(0, 1, (.int .i64 20)), (1, 1, (.str ⟨#[]⟩)), (2, 1, (.str ⟨#[99, 97, 108, 108, 95, 114, 101, 102, 32, 114, 101, 116, 117, 114, 110, 95, 99, 97, 108, 108, 95, 114, 101, 102]⟩)), (3, 1, (.str ⟨#[120]⟩))]) fun t13_12 =>
 M.bind (bd [(.int .i64 0), (.str ⟨#[]⟩), (.str ⟨#[]⟩), (.str ⟨#[]⟩)] [(0, 1, (.int .i64 26)), (1, 1, (.str ⟨#[]⟩)), (2, 1, (.str ⟨#[100, 114, 111, 112, 32, 115, 101, 108, 101, 99, 116]⟩)), (3, 1, (.str ⟨#[45]⟩))]) fun t14_13 =>
 M.bind (bd [(.int .i64 0), (.str ⟨#[]⟩), (.str ⟨#[]⟩), (.str ⟨#[]⟩)] [(0, 1, (.int .i64 28)), (1, 1, (.str ⟨#[]⟩)), (2, 1, (.str ⟨#[115, 101, 108, 101, 99, 116, 95, 116]⟩)), (3, 1, (.str ⟨#[115, 101, 108, 101, 99, 116]⟩))]) fun t15_14 =>
 M.bind (bd [(.int .i64 0), (.str ⟨#[]⟩), (.str ⟨#[]⟩), (.str ⟨#[]⟩)] [(0, 1, (.int .i64 31)), (1, 1, (.str ⟨#[]⟩)), (2, 1, (.str ⟨#[116, 114, 121, 95, 116, 97, 98, 108, 101]⟩)), (3, 1, (.str ⟨#[116, 114, 121]⟩))]) fun t16_15 =>
 M.bind (bd [(.int .i64 0), (.str ⟨#[]⟩), (.str ⟨#[]⟩), (.str ⟨#[]⟩)] [(0, 1, (.int .i64 32)), (1, 1, (.str ⟨#[]⟩)), (2, 1, (.str ⟨#[108, 111, 99, 97, 108, 46, 103, 101, 116, 32, 108, 111, 99, 97, 108, 46, 115, 101, 116, 32, 108, 111, 99, 97, 108, 46, 116, 101, 101, 32, 103, 108, 111, 98, 97, 108, 46, 103, 101, 116, 32, 103, 108, 111, 98, 97, 108, 46, 115, 101, 116, 32, 116, 97, 98, 108, 101, 46, 103, 101, 116, 32, 116, 97, 98, 108, 101, 46, 115, 101, 116]⟩)), (3, 1, (.str ⟨#[120]⟩))]) fun t17_16 =>
 M.bind (bd [(.int .i64 0), (.str ⟨#[]⟩), (.str ⟨#[]⟩), (.str ⟨#[]⟩)] [(0, 1, (.int .i64 40)), (1, 1, (.str ⟨#[]⟩)), (2, 1, (.str ⟨#[105, 51, 50, 46, 108, 111, 97, 100, 32, 105, 54, 52, 46, 108, 111, 97, 100, 32, 102, 51, 50, 46, 108, 111, 97, 100, 32, 102, 54, 52, 46, 108, 111, 97, 100, 32, 105, 51, 50, 46, 108, 111, 97, 100, 56, 95, 115, 32, 105, 51, 50, 46, 108, 111, 97, 100, 56, 95, 117, 32, 105, 51, 50, 46, 108, 111, 97, 100, 49, 54, 95, 115, 32, 105, 51, 50, 46, 108, 111, 97, 100, 49, 54, 95, 117, 32, 105, 54, 52, 46, 108, 111, 97, 100, 56, 95, 115, 32, 105, 54, 52, 46, 108, 111, 97, 100, 56, 95, 117, 32, 105, 54, 52, 46, 108, 111, 97, 100, 49, 54, 95, 115, 32, 105, 54, 52, 46, 108, 111, 97, 100, 49, 54, 95, 117, 32, 105, 54, 52, 46, 108, 111, 97, 100, 51, 50, 95, 115, 32, 105, 54, 52, 46, 108, 111, 97, 100, 51, 50, 95, 117, 32, 105, 51, 50, 46, 115, 116, 111, 114, 101, 32, 105, 54, 52, 46, 115, 116, 111, 114, 101, 32, 102, 51, 50, 46, 115, 116, 111, 114, 101, 32, 102, 54, 52, 46, 115, 116, 111, 114, 101, 32, 105, 51, 50, 46, 115, 116, 111, 114, 101, 56, 32, 105, 51, 50, 46, 115, 116, 111, 114, 101, 49, 54, 32, 105, 54, 52, 46, 115, 116, 111, 114, 101, 56, 32, 105, 54, 52, 46, 115, 116, 111, 114, 101, 49, 54, 32, 105, 54, 52, 46, 115, 116, 111, 114, 101, 51, 50]⟩)), (3, 1, (.str ⟨#[109, 101, 109]⟩))]) fun t18_17 =>
 M.bind (bd [(.int .i64 0), (.str ⟨#[]⟩), (.str ⟨#[]⟩), (.str ⟨#[]⟩)] [(0, 1, (.int .i64 63)), (1, 1, (.str ⟨#[]⟩)), (2, 1, (.str ⟨#[109, 101, 109, 111, 114, 121, 46, 115, 105, 122, 101, 32, 109, 101, 109, 111, 114, 121, 46, 103, 114, 111, 119]⟩)), (3, 1, (.str ⟨#[120]⟩))]) fun t19_18 =>
 M.bind (bd [(.int .i64 0), (.str ⟨#[]⟩), (.str ⟨#[]⟩), (.str ⟨#[]⟩)] [(0, 1, (.int .i64 65)), (1, 1, (.str ⟨#[]⟩)), (2, 1, (.str ⟨#[105, 51, 50, 46, 99, 111, 110, 115, 116]⟩)), (3, 1, (.str ⟨#[105, 51, 50]⟩))]) fun t20_19 =>
 M.bind (bd [(.int .i64 0), (.str ⟨#[]⟩), (.str ⟨#[]⟩), (.str ⟨#[]⟩)] [(0, 1, (.int .i64 66)), (1, 1, (.str ⟨#[]⟩)), (2, 1, (.str ⟨#[105, 54, 52, 46, 99, 111, 110, 115, 116]⟩)), (3, 1, (.str ⟨#[105, 54, 52]⟩))]) fun t21_20 =>
 M.bind (bd [(.int .i64 0), (.str ⟨#[]⟩), (.str ⟨#[]⟩), (.str ⟨#[]⟩)] [(0, 1, (.int .i64 67)), (1, 1, (.str ⟨#[]⟩)), (2, 1, (.str ⟨#[102, 51, 50, 46, 99, 111, 110, 115, 116]⟩)), (3, 1, (.str ⟨#[102, 51, 50]⟩))]) fun t22_21 =>
 M.bind (bd [(.int .i64 0), (.str ⟨#[]⟩), (.str ⟨#[]⟩), (.str ⟨#[]⟩)] [(0, 1, (.int .i64 68)), (1, 1, (.str ⟨#[]⟩)), (2, 1, (.str ⟨#[102, 54, 52, 46, 99, 111, 110, 115, 116]⟩)), (3, 1, (.str ⟨#[102, 54, 52]⟩))]) fun t23_22 =>
 M.bind (bd [(.int .i64 0), (.str ⟨#[]⟩), (.str ⟨#[]⟩), (.str ⟨#[]⟩)] [(0, 1, (.int .i64 69)), (1, 1, (.str ⟨#[105, 51, 50, 46]⟩)), (2, 1, (.str ⟨#[101, 113, 122, 32, 101, 113, 32, 110, 101, 32, 108, 116, 95, 115, 32, 108, 116, 95, 117, 32, 103, 116, 95, 115, 32, 103, 116, 95, 117, 32, 108, 101, 95, 115, 32, 108, 101, 95, 117, 32, 103, 101, 95, 115, 32, 103, 101, 95, 117]⟩)), (3, 1, (.str ⟨#[45]⟩))]) fun t24_23 =>
 M.bind (bd [(.int .i64 0), (.str ⟨#[]⟩), (.str ⟨#[]⟩), (.str ⟨#[]⟩)] [(0, 1, (.int .i64 80)), (1, 1, (.str ⟨#[105, 54, 52, 46]⟩)), (2, 1, (.str ⟨#[101, 113, 122, 32, 101, 113, 32, 110, 101, 32, 108, 116, 95, 115, 32, 108, 116, 95, 117, 32, 103, 116, 95, 115, 32, 103, 116, 95, 117, 32, 108, 101, 95, 115, 32, 108, 101, 95, 117, 32, 103, 101, 95, 115, 32, 103, 101, 95, 117]⟩)), (3, 1, (.str ⟨#[45]⟩))]) fun t25_24 =>
 M.bind (bd [(.int .i64 0), (.str ⟨#[]⟩), (.str ⟨#[]⟩), (.str ⟨#[]⟩)] [(0, 1, (.int .i64 91)), (1, 1, (.str ⟨#[102, 51, 50, 46]⟩)), (2, 1, (.str ⟨#[101, 113, 32, 110, 101, 32, 108, 116, 32, 103, 116, 32, 108, 101, 32, 103, 101]⟩)), (3, 1, (.str ⟨#[45]⟩))]) fun t26_25 =>
 M.bind (bd [(.int .i64 0), (.str ⟨#[]⟩), (.str ⟨#[]⟩), (.str ⟨#[]⟩)] [(0, 1, (.int .i64 97)), (1, 1, (.str ⟨#[102, 54, 52, 46]⟩)), (2, 1, (.str ⟨#[101, 113, 32, 110, 101, 32, 108, 116, 32, 103, 116, 32, 108, 101, 32, 103, 101]⟩)), (3, 1, (.str ⟨#[45]⟩))]) fun t27_26 =>
 M.bind (bd [(.int .i64 0), (.str ⟨#[]⟩), (.str ⟨#[]⟩), (.str ⟨#[]⟩)] [(0, 1, (.int .i64 103)), (1, 1, (.str ⟨#[105, 51, 50, 46]⟩)), (2, 1, (.str ⟨#[99, 108, 122, 32, 99, 116, 122, 32, 112, 111, 112, 99, 110, 116, 32, 97, 100, 100, 32, 115, 117, 98, 32, 109, 117, 108, 32, 100, 105, 118, 95, 115, 32, 100, 105, 118, 95, 117, 32, 114, 101, 109, 95, 115, 32, 114, 101, 109, 95, 117, 32, 97, 110, 100, 32, 111, 114, 32, 120, 111, 114, 32, 115, 104, 108, 32, 115, 104, 114, 95, 115, 32, 115, 104, 114, 95, 117, 32, 114, 111, 116, 108, 32, 114, 111, 116, 114]⟩)), (3, 1, (.str ⟨#[45]⟩))]) fun t28_27 =>
 M.bind (bd [(.int .i64 0), (.str ⟨#[]⟩), (.str ⟨#[]⟩), (.str ⟨#[]⟩)] [(0, 1, (.int .i64 121)), (1, 1, (.str ⟨#[105, 54, 52, 46]⟩)), (2, 1, (.str ⟨#[99, 108, 122, 32, 99, 116, 122, 32, 112, 111, 112, 99, 110, 116, 32, 97, 100, 100, 32, 115, 117, 98, 32, 109, 117, 108, 32, 100, 105, 118, 95, 115, 32, 100, 105, 118, 95, 117, 32, 114, 101, 109, 95, 115, 32, 114, 101, 109, 95, 117, 32, 97, 110, 100, 32, 111, 114, 32, 120, 111, 114, 32, 115, 104, 108, 32, 115, 104, 114, 95, 115, 32, 115, 104, 114, 95, 117, 32, 114, 111, 116, 108, 32, 114, 111, 116, 114]⟩)), (3, 1, (.str ⟨#[45]⟩))]) fun t29_28 =>
 M.bind (bd [(.int .i64 0), (.str ⟨#[]⟩), (.str ⟨#[]⟩), (.str ⟨#[]⟩)] [(0, 1, (.int .i64 139)), (1, 1, (.str ⟨#[102, 51, 50, 46]⟩)), (2, 1, (.str ⟨#[97, 98, 115, 32, 110, 101, 103, 32, 99, 101, 105, 108, 32, 102, 108, 111, 111, 114, 32, 116, 114, 117, 110, 99, 32, 110, 101, 97, 114, 101, 115, 116, 32, 115, 113, 114, 116, 32, 97, 100, 100, 32, 115, 117, 98, 32, 109, 117, 108, 32, 100, 105, 118, 32, 109, 105, 110, 32, 109, 97, 120, 32, 99, 111, 112, 121, 115, 105, 103, 110]⟩)), (3, 1, (.str ⟨#[45]⟩))]) fun t30_29 =>
 M.bind (bd [(.int .i64 0), (.str ⟨#[]⟩), (.str ⟨#[]⟩), (.str ⟨#[]⟩)] [(0, 1, (.int .i64 153)), (1, 1, (.str ⟨#[102, 54, 52, 46]⟩)), (2, 1, (.str ⟨#[97, 98, 115, 32, 110, 101, 103, 32, 99, 101, 105, 108, 32, 102, 108, 111, 111, 114, 32, 116, 114, 117, 110, 99, 32, 110, 101, 97, 114, 101, 115, 116, 32, 115, 113, 114, 116, 32, 97, 100, 100, 32, 115, 117, 98, 32, 109, 117, 108, 32, 100, 105, 118, 32, 109, 105, 110, 32, 109, 97, 120, 32, 99, 111, 112, 121, 115, 105, 103, 110]⟩)), (3, 1, (.str ⟨#[45]⟩))]) fun t31_30 =>
 M.bind (bd [(.int .i64 0), (.str ⟨#[]⟩), (.str ⟨#[]⟩), (.str ⟨#[]⟩)] [(0, 1, (.int .i64 167)), (1, 1, (.str ⟨#[105, 51, 50, 46]⟩)), (2, 1, (.str ⟨#[119, 114, 97, 112, 95, 105, 54, 52, 32, 116, 114, 117, 110, 99, 95, 102, 51, 50, 95, 115, 32, 116, 114, 117, 110, 99, 95, 102, 51, 50, 95, 117, 32, 116, 114, 117, 110, 99, 95, 102, 54, 52, 95, 115, 32, 116, 114, 117, 110, 99, 95, 102, 54, 52, 95, 117]⟩)), (3, 1, (.str ⟨#[45]⟩))]) fun t32_31 =>
 M.bind (bd [(.int .i64 0), (.str ⟨#[]⟩), (.str ⟨#[]⟩), (.str ⟨#[]⟩)] [(0, 1, (.int .i64 172)), (1, 1, (.str ⟨#[105, 54, 52, 46]⟩)), (2, 1, (.str ⟨#[101, 120, 116, 101, 110, 100, 95, 105, 51, 50, 95, 115, 32, 101, 120, 116, 101, 110, 100, 95, 105, 51, 50, 95, 117, 32, 116, 114, 117, 110, 99, 95, 102, 51, 50, 95, 115, 32, 116, 114, 117, 110, 99, 95, 102, 51, 50, 95, 117, 32, 116, 114, 117, 110, 99, 95, 102, 54, 52, 95, 115, 32, 116, 114, 117, 110, 99, 95, 102, 54, 52, 95, 117]⟩)), (3, 1, (.str ⟨#[45]⟩))]) fun t33_32 =>
 M.bind (bd [(.int .i64 0), (.str ⟨#[]⟩), (.str ⟨#[]⟩), (.str ⟨#[]⟩)] [(0, 1, (.int .i64 178)), (1, 1, (.str ⟨#[102, 51, 50, 46]⟩)), (2, 1, (.str ⟨#[99, 111, 110, 118, 101, 114, 116, 95, 105, 51, 50, 95, 115, 32, 99, 111, 110, 118, 101, 114, 116, 95, 105, 51, 50, 95, 117, 32, 99, 111, 110, 118, 101, 114, 116, 95, 105, 54, 52, 95, 115, 32, 99, 111, 110, 118, 101, 114, 116, 95, 105, 54, 52, 95, 117, 32, 100, 101, 109, 111, 116, 101, 95, 102, 54, 52]⟩)), (3, 1, (.str ⟨#[45]⟩))]) fun t34_33 =>
 M.bind (bd [(.int .i64 0), (.str ⟨#[]⟩), (.str ⟨#[]⟩), (.str ⟨#[]⟩)] [(0, 1, (.int .i64 183)), (1, 1, (.str ⟨#[102, 54, 52, 46]⟩)), (2, 1, (.str ⟨#[99, 111, 110, 118, 101, 114, 116, 95, 105, 51, 50, 95, 115, 32, 99, 111, 110, 118, 101, 114, 116, 95, 105, 51, 50, 95, 117, 32, 99, 111, 110, 118, 101, 114, 116, 95, 105, 54, 52, 95, 115, 32, 99, 111, 110, 118, 101, 114, 116, 95, 105, 54, 52, 95, 117, 32, 112, 114, 111, 109, 111, 116, 101, 95, 102, 51, 50]⟩)), (3, 1, (.str ⟨#[45]⟩))]) fun t35_34 =>
 M.bind (bd [(.int .i64 0), (.str ⟨#[]⟩), (.str ⟨#[]⟩), (.str ⟨#[]⟩)] [(0, 1, (.int .i64 188)), (1, 1, (.str ⟨#[]⟩)), (2, 1, (.str ⟨#[105, 51, 50, 46, 114, 101, 105, 110, 116, 101, 114, 112, 114, 101, 116, 95, 102, 51, 50, 32, 105, 54, 52, 46, 114, 101, 105, 110, 116, 101, 114, 112, 114, 101, 116, 95, 102, 54, 52, 32, 102, 51, 50, 46, 114, 101, 105, 110, 116, 101, 114, 112, 114, 101, 116, 95, 105, 51, 50, 32, 102, 54, 52, 46, 114, 101, 105, 110, 116, 101, 114, 112, 114, 101, 116, 95, 105, 54, 52]⟩)), (3, 1, (.str ⟨#[45]⟩))]) fun t36_35 =>
 M.bind (bd [(.int .i64 0), (.str ⟨#[]⟩), (.str ⟨#[]⟩), (.str ⟨#[]⟩)] [(0, 1, (.int .i64 192)), (1, 1, (.str ⟨#[]⟩)), (2, 1, (.str ⟨#[105, 51, 50, 46, 101, 120, 116, 101, 110, 100, 56, 95, 115, 32, 105, 51, 50, 46, 101, 120, 116, 101, 110, 100, 49, 54, 95, 115, 32, 105, 54, 52, 46, 101, 120, 116, 101, 110, 100, 56, 95, 115, 32, 105, 54, 52, 46, 101, 120, 116, 101, 110, 100, 49, 54, 95, 115, 32, 105, 54, 52, 46, 101, 120, 116, 101, 110, 100, 51, 50, 95, 115]⟩)), (3, 1, (.str ⟨#[45]⟩))]) fun t37_36 =>
 M.bind (bs true (some 4) [t1_0, t2_1, t3_2, t4_3, t5_4, t6_5, t7_6, t8_7, t9_8, t10_9, t11_10, t12_11, t13_12, t14_13, t15_14, t16_15, t17_16, t18_17, t19_18, t20_19, t21_20, t22_21, t23_22, t24_23, t25_24, t26_25, t27_26, t28_27, t29_28, t30_29, t31_30, t32_31, t33_32, t34_33, t35_34, t36_35, t37_36]) fun t38_37 =>
 resT t38_37 (M.pure t38_37)) := by
 rw [C, u03 _ _ rfl]; kernel_rfl
theorem uc4 : C u7k [] =
 trunc (M.bind (bd [(.int .i64 0), (.str ⟨#[]⟩), (.str ⟨#[]⟩), (.str ⟨#[]⟩)] [(0, 1, (.int .i64 208)), (1, 1, (.str ⟨#[]⟩)), (2, 1, (.str ⟨#[114, 101, 102, 46, 110, 117, 108, 108]⟩)), (3, 1, (.str ⟨#[104, 101, 97, 112]⟩))]) fun t1_0 =>
 M.bind (bd [(.int .i64 0), (.str ⟨#[]⟩), (.str ⟨#[]⟩), (.str ⟨#[]⟩)] [(0, 1, (.int .i64 209)), (1, 1, (.str ⟨#[]⟩)), (2, 1, (.str ⟨#[114, 101, 102, 46, 105, 115, 95, 110, 117, 108, 108]⟩)), (3, 1, (.str ⟨#[45]⟩))]) fun t2_1 =>
 M.bind (bd [(.int .i64 0), (.str ⟨#[]⟩), (.str ⟨#[]⟩), (.str ⟨#[]⟩)] [(0, 1, (.int .i64 210)), (1, 1, (.str ⟨#[]⟩)), (2, 1, (.str ⟨#[114, 101, 102, 46, 102, 117, 110, 99]⟩)), (3, 1, (.str ⟨#[120]⟩))]) fun t3_2 =>
 M.bind (bd [(.int .i64 0), (.str ⟨#[]⟩), (.str ⟨#[]⟩), (.str ⟨#[]⟩)] [(0, 1, (.int .i64 211)), (1, 1, (.str ⟨#[]⟩)), (2, 1, (.str ⟨#[114, 101, 102, 46, 101, 113, 32, 114, 101, 102, 46, 97, 115, 95, 110, 111, 110, 95, 110, 117, 108, 108]⟩)), (3, 1, (.str ⟨#[45]⟩))]) fun t4_3 =>
 M.bind (bd [(.int .i64 0), (.str ⟨#[]⟩), (.str ⟨#[]⟩), (.str ⟨#[]⟩)] [(0, 1, (.int .i64 213)), (1, 1, (.str ⟨#[]⟩)), (2, 1, (.str ⟨#[98, 114, 95, 111, 110, 95, 110, 117, 108, 108, 32, 98, 114, 95, 111, 110, 95, 110, 111, 110, 95, 110, 117, 108, 108]⟩)), (3, 1, (.str ⟨#[120]⟩))]) fun t5_4 =>
 M.bind (bd [(.int .i64 0), (.str ⟨#[]⟩), (.str ⟨#[]⟩), (.str ⟨#[]⟩)] [(0, 1, (.int .i64 64256)), (1, 1, (.str ⟨#[]⟩)), (2, 1, (.str ⟨#[115, 116, 114, 117, 99, 116, 46, 110, 101, 119, 32, 115, 116, 114, 117, 99, 116, 46, 110, 101, 119, 95, 100, 101, 102, 97, 117, 108, 116]⟩)), (3, 1, (.str ⟨#[120]⟩))]) fun t6_5 =>
 M.bind (bd [(.int .i64 0), (.str ⟨#[]⟩), (.str ⟨#[]⟩), (.str ⟨#[]⟩)] [(0, 1, (.int .i64 64258)), (1, 1, (.str ⟨#[]⟩)), (2, 1, (.str ⟨#[115, 116, 114, 117, 99, 116, 46, 103, 101, 116, 32, 115, 116, 114, 117, 99, 116, 46, 103, 101, 116, 95, 115, 32, 115, 116, 114, 117, 99, 116, 46, 103, 101, 116, 95, 117, 32, 115, 116, 114, 117, 99, 116, 46, 115, 101, 116]⟩)), (3, 1, (.str ⟨#[120, 121]⟩))]) fun t7_6 =>
 M.bind (bd [(.int .i64 0), (.str ⟨#[]⟩), (.str ⟨#[]⟩), (.str ⟨#[]⟩)] [(0, 1, (.int .i64 64262)), (1, 1, (.str ⟨#[]⟩)), (2, 1, (.str ⟨#[97, 114, 114, 97, 121, 46, 110, 101, 119, 32, 97, 114, 114, 97, 121, 46, 110, 101, 119, 95, 100, 101, 102, 97, 117, 108, 116]⟩)), (3, 1, (.str ⟨#[120]⟩))]) fun t8_7 =>
 M.bind (bd [(.int .i64 0), (.str ⟨#[]⟩), (.str ⟨#[]⟩), (.str ⟨#[]⟩)] [(0, 1, (.int .i64 64264)), (1, 1, (.str ⟨#[]⟩)), (2, 1, (.str ⟨#[97, 114, 114, 97, 121, 46, 110, 101, 119, 95, 102, 105, 120, 101, 100]⟩)), (3, 1, (.str ⟨#[120, 110]⟩))]) fun t9_8 =>
 M.bind (bd [(.int .i64 0), (.str ⟨#[]⟩), (.str ⟨#[]⟩), (.str ⟨#[]⟩)] [(0, 1, (.int .i64 64265)), (1, 1, (.str ⟨#[]⟩)), (2, 1, (.str ⟨#[97, 114, 114, 97, 121, 46, 110, 101, 119, 95, 100, 97, 116, 97, 32, 97, 114, 114, 97, 121, 46, 110, 101, 119, 95, 101, 108, 101, 109]⟩)), (3, 1, (.str ⟨#[120, 121]⟩))]) fun t10_9 =>
 M.bind (bd [(.int .i64 0), (.str ⟨#[]⟩), (.str ⟨#[]⟩), (.str ⟨#[]⟩)] [(0, 1, (.int .i64 64267)), (1, 1, (.str ⟨#[]⟩)), (2, 1, (.str ⟨#[97, 114, 114, 97, 121, 46, 103, 101, 116, 32, 97, 114, 114, 97, 121, 46, 103, 101, 116, 95, 115, 32, 97, 114, 114, 97, 121, 46, 103, 101, 116, 95, 117, 32, 97, 114, 114, 97, 121, 46, 115, 101, 116]⟩)), (3, 1, (.str ⟨#[120]⟩))]) fun t11_10 =>
 M.bind (bd [(.int .i64 0), (.str ⟨#[]⟩), (.str ⟨#[]⟩), (.str ⟨#[]⟩)] [(0, 1, (.int .i64 64271)), (1, 1, (.str ⟨#[]⟩)), (2, 1, (.str ⟨#[97, 114, 114, 97, 121, 46, 108, 101, 110]⟩)), (3, 1, (.str ⟨#[45]⟩))]) fun t12_11 =>
 M.bind (bd [(.int .i64 0), (.str ⟨#[]⟩), (.str ⟨#[]⟩), (.str ⟨#[]⟩)] [(0, 1, (.int .i64 64272)), (1, 1, (.str ⟨#[]⟩)), (2, 1, (.str ⟨#[97, 114, 114, 97, 121, 46, 102, 105, 108, 108]⟩)), (3, 1, (.str ⟨#[120]⟩))]) fun t13_12 =>
 M.bind (bd [(.int .i64 0), (.str ⟨#[]⟩), (.str ⟨#[]⟩), (.str ⟨#[]⟩)] [(0, 1, (.int .i64 64273)), (1, 1, (.str ⟨#[]⟩)), (2, 1, (.str ⟨#[97, 114, 114, 97, 121, 46, 99, 111, 112, 121, 32, 97, 114, 114, 97, 121, 46, 105, 110, 105, 116, 95, 100, 97, 116, 97, 32, 97, 114, 114, 97, 121, 46, 105, 110, 105, 116, 95, 101, 108, 101, 109]⟩)), (3, 1, (.str ⟨#[120, 121]⟩))]) fun t14_13 =>
 M.bind (bd [(.int .i64 0), (.str ⟨#[]⟩), (.str ⟨#[]⟩), (.str ⟨#[]⟩)] [(0, 1, (.int .i64 64276)), (1, 1, (.str ⟨#[]⟩)), (2, 1, (.str ⟨#[114, 101, 102, 46, 116, 101, 115, 116, 32, 114, 101, 102, 46, 116, 101, 115, 116, 95, 110, 117, 108, 108, 32, 114, 101, 102, 46, 99, 97, 115, 116, 32, 114, 101, 102, 46, 99, 97, 115, 116, 95, 110, 117, 108, 108]⟩)), (3, 1, (.str ⟨#[99, 97, 115, 116]⟩))]) fun t15_14 =>
 M.bind (bd [(.int .i64 0), (.str ⟨#[]⟩), (.str ⟨#[]⟩), (.str ⟨#[]⟩)] [(0, 1, (.int .i64 64280)), (1, 1, (.str ⟨#[]⟩)), (2, 1, (.str ⟨#[98, 114, 95, 111, 110, 95, 99, 97, 115, 116, 32, 98, 114, 95, 111, 110, 95, 99, 97, 115, 116, 95, 102, 97, 105, 108]⟩)), (3, 1, (.str ⟨#[98, 114, 95, 99, 97, 115, 116]⟩))]) fun t16_15 =>
 M.bind (bd [(.int .i64 0), (.str ⟨#[]⟩), (.str ⟨#[]⟩), (.str ⟨#[]⟩)] [(0, 1, (.int .i64 64282)), (1, 1, (.str ⟨#[]⟩)), (2, 1, (.str ⟨#[97, 110, 121, 46, 99, 111, 110, 118, 101, 114, 116, 95, 101, 120, 116, 101, 114, 110, 32, 101, 120, 116, 101, 114, 110, 46, 99, 111, 110, 118, 101, 114, 116, 95, 97, 110, 121, 32, 114, 101, 102, 46, 105, 51, 49, 32, 105, 51, 49, 46, 103, 101, 116, 95, 115, 32, 105, 51, 49, 46, 103, 101, 116, 95, 117]⟩)), (3, 1, (.str ⟨#[45]⟩))]) fun t17_16 =>
 M.bind (bd [(.int .i64 0), (.str ⟨#[]⟩), (.str ⟨#[]⟩), (.str ⟨#[]⟩)] [(0, 1, (.int .i64 64512)), (1, 1, (.str ⟨#[]⟩)), (2, 1, (.str ⟨#[105, 51, 50, 46, 116, 114, 117, 110, 99, 95, 115, 97, 116, 95, 102, 51, 50, 95, 115, 32, 105, 51, 50, 46, 116, 114, 117, 110, 99, 95, 115, 97, 116, 95, 102, 51, 50, 95, 117, 32, 105, 51, 50, 46, 116, 114, 117, 110, 99, 95, 115, 97, 116, 95, 102, 54, 52, 95, 115, 32, 105, 51, 50, 46, 116, 114, 117, 110, 99, 95, 115, 97, 116, 95, 102, 54, 52, 95, 117, 32, 105, 54, 52, 46, 116, 114, 117, 110, 99, 95, 115, 97, 116, 95, 102, 51, 50, 95, 115, 32, 105, 54, 52, 46, 116, 114, 117, 110, 99, 95, 115, 97, 116, 95, 102, 51, 50, 95, 117, 32, 105, 54, 52, 46, 116, 114, 117, 110, 99, 95, 115, 97, 116, 95, 102, 54, 52, 95, 115, 32, 105, 54, 52, 46, 116, 114, 117, 110, 99, 95, 115, 97, 116, 95, 102, 54, 52, 95, 117]⟩)), (3, 1, (.str ⟨#[45]⟩))]) fun t18_17 =>
 M.bind (bd [(.int .i64 0), (.str ⟨#[]⟩), (.str ⟨#[]⟩), (.str ⟨#[]⟩)] [(0, 1, (.int .i64 64520)), (1, 1, (.str ⟨#[]⟩)), (2, 1, (.str ⟨#[109, 101, 109, 111, 114, 121, 46, 105, 110, 105, 116]⟩)), (3, 1, (.str ⟨#[120, 121]⟩))]) fun t19_18 =>
 M.bind (bd [(.int .i64 0), (.str ⟨#[]⟩), (.str ⟨#[]⟩), (.str ⟨#[]⟩)] [(0, 1, (.int .i64 64521)), (1, 1, (.str ⟨#[]⟩)), (2, 1, (.str ⟨#[100, 97, 116, 97, 46, 100, 114, 111, 112]⟩)), (3, 1, (.str ⟨#[120]⟩))]) fun t20_19 =>
 M.bind (bd [(.int .i64 0), (.str ⟨#[]⟩), (.str ⟨#[]⟩), (.str ⟨#[]⟩)] [(0, 1, (.int .i64 64522)), (1, 1, (.str ⟨#[]⟩)), (2, 1, (.str ⟨#[109, 101, 109, 111, 114, 121, 46, 99, 111, 112, 121]⟩)), (3, 1, (.str ⟨#[120, 121]⟩))]) fun t21_20 =>
 M.bind (bd [(.int .i64 0), (.str ⟨#[]⟩), (.str ⟨#[]⟩), (.str ⟨#[]⟩)] [(0, 1, (.int .i64 64523)), (1, 1, (.str ⟨#[]⟩)), (2, 1, (.str ⟨#[109, 101, 109, 111, 114, 121, 46, 102, 105, 108, 108]⟩)), (3, 1, (.str ⟨#[120]⟩))]) fun t22_21 =>
 M.bind (bd [(.int .i64 0), (.str ⟨#[]⟩), (.str ⟨#[]⟩), (.str ⟨#[]⟩)] [(0, 1, (.int .i64 64524)), (1, 1, (.str ⟨#[]⟩)), (2, 1, (.str ⟨#[116, 97, 98, 108, 101, 46, 105, 110, 105, 116]⟩)), (3, 1, (.str ⟨#[120, 121]⟩))]) fun t23_22 =>
 M.bind (bd [(.int .i64 0), (.str ⟨#[]⟩), (.str ⟨#[]⟩), (.str ⟨#[]⟩)] [(0, 1, (.int .i64 64525)), (1, 1, (.str ⟨#[]⟩)), (2, 1, (.str ⟨#[101, 108, 101, 109, 46, 100, 114, 111, 112]⟩)), (3, 1, (.str ⟨#[120]⟩))]) fun t24_23 =>
 M.bind (bd [(.int .i64 0), (.str ⟨#[]⟩), (.str ⟨#[]⟩), (.str ⟨#[]⟩)] [(0, 1, (.int .i64 64526)), (1, 1, (.str ⟨#[]⟩)), (2, 1, (.str ⟨#[116, 97, 98, 108, 101, 46, 99, 111, 112, 121]⟩)), (3, 1, (.str ⟨#[120, 121]⟩))]) fun t25_24 =>
 M.bind (bd [(.int .i64 0), (.str ⟨#[]⟩), (.str ⟨#[]⟩), (.str ⟨#[]⟩)] [(0, 1, (.int .i64 64527)), (1, 1, (.str ⟨#[]⟩)), (2, 1, (.str ⟨#[116, 97, 98, 108, 101, 46, 103, 114, 111, 119, 32, 116, 97, 98, 108, 101, 46, 115, 105, 122, 101, 32, 116, 97, 98, 108, 101, 46, 102, 105, 108, 108]⟩)), (3, 1, (.str ⟨#[120]⟩))]) fun t26_25 =>
 M.bind (bs true (some 4) [t1_0, t2_1, t3_2, t4_3, t5_4, t6_5, t7_6, t8_7, t9_8, t10_9, t11_10, t12_11, t13_12, t14_13, t15_14, t16_15, t17_16, t18_17, t19_18, t20_19, t21_20, t22_21, t23_22, t24_23, t25_24, t26_25]) fun t27_26 =>
 resT t27_26 (M.pure t27_26)) := by
 rw [C, u03 _ _ rfl]; kernel_rfl
noncomputable def u4b (v0 v1 v4 v5 v6 v7 : PV) : M PV := atP P X u57 [1, 1, 0, 1, 0] (mkEnv 34 0 [(0, v0), (1, v1), (4, v4), (5, v5), (6, v6), (7, v7)])
noncomputable def u4u (v0 v1 v4 v5 v6 v7 : PV) : M PV := atP P X u57 [1, 1, 0, 1, 0, 0, 1, 1] (mkEnv 34 0 [(0, v0), (1, v1), (4, v4), (5, v5), (6, v6), (7, v7)])
theorem u1p (v0 v1 v4 v5 v6 v7 : PV) : u4b v0 v1 v4 v5 v6 v7 =
 M.bind (lnS (strip v0)) fun t10_0 =>
 M.bind (bi .leq .none (strip v7) t10_0) fun t11_1 =>
 condM t11_1
 (M.bind (lnS (strip v0)) fun t16_2 =>
 M.bind (bi .lss .none (strip v7) t16_2) fun t17_3 =>
 M.bind (gd (strip t17_3) true (M.pure (strip v0))) fun t19_4 =>
 M.bind (gd (strip t17_3) true (M.pure (strip v7))) fun t20_5 =>
 M.bind (gd (strip t17_3) true (ixS t19_4 t20_5)) fun t21_6 =>
 M.bind (gd (strip t17_3) true (bi .neq .none t21_6 (.int .u8 32))) fun t22_7 =>
 M.bind (pick (strip t17_3) t22_7 (.bool false)) fun t23_8 =>
 condM t23_8
 (u4u v0 v1 v4 v5 v6 v7)
 (M.bind (bi .eql .none (strip v1) (.int .i64 0)) fun t25_9 =>
 condM t25_9
 (M.bind (slS (strip v0) (some (strip v6)) (some (strip v7))) fun t29_10 =>
 resT t29_10 (M.pure (.tup [t29_10, (.bool true)])))
 (M.bind (bi .sub .none (strip v1) (.int .i64 1)) fun t31_11 =>
 M.bind (bi .add .none (strip v7) (.int .i64 1)) fun t33_12 =>
 u4u v0 t31_11 v4 v5 t33_12 v7)))
 (M.pure (.tup [(.str ⟨#[]⟩), (.bool false)])) :=
 (u0k P X _ _ _).trans (by kernel_rfl)
theorem u42 (v0 v1 v4 v5 v6 v7 : PV) : u4u v0 v1 v4 v5 v6 v7 =
 M.bind (bi .add .none (strip v7) (.int .i64 1)) fun t13_0 =>
 u4b v0 v1 v4 v5 v6 t13_0 :=
 (u0k P X _ _ _).trans (by kernel_rfl)
theorem udh (a0 a1 : PV) : C u57 [a0, a1] =
 trunc (u4b a0 a1 (.str ⟨#[]⟩) (.bool false) (.int .i64 0) (.int .i64 0)) := by
 rw [C, u03 _ _ rfl]; kernel_rfl
noncomputable def u5w (v0 v1 v4 v5 v9 : PV) : M PV := atP P X uak [1, 1, 0, 1, 0] (mkEnv 29 0 [(0, v0), (1, v1), (4, v4), (5, v5), (9, v9)])
theorem u5i (v0 v1 v4 v5 v9 : PV) : u5w v0 v1 v4 v5 v9 =
 M.bind (nx v9) fun t10_0 =>
 M.bind (ex 0 t10_0) fun t11_1 =>
 condM t11_1
 (M.bind (ex 1 (tupDrop 0 t10_0)) fun t12_2 =>
 M.bind (ex 2 (tupDrop 1 (tupDrop 0 t10_0))) fun t13_3 =>
 M.bind (bi .neq .none (strip t13_3) (.int .i32 32)) fun t15_4 =>
 condM t15_4
 (u5w v0 v1 v4 v5 v9)
 (M.bind (bi .eql .none (strip v1) (.int .i64 0)) fun t17_5 =>
 condM t17_5
 (M.bind (slS (strip v0) (some (strip v5)) (some (strip t12_2))) fun t21_6 =>
 resT t21_6 (M.pure t21_6))
 (M.bind (bi .sub .none (strip v1) (.int .i64 1)) fun t23_7 =>
 M.bind (bi .add .none (strip t12_2) (.int .i64 1)) fun t25_8 =>
 u5w v0 t23_7 v4 t25_8 v9)))
 (M.bind (slS (strip v0) (some (strip v5)) none) fun t28_9 =>
 resT t28_9 (M.pure t28_9)) :=
 (u0k P X _ _ _).trans (by kernel_rfl)
theorem ulf (a0 a1 : PV) : C uak [a0, a1] =
 trunc (M.bind (rg (strip a0)) fun t9_0 =>
 u5w a0 a1 (.str ⟨#[]⟩) (.int .i64 0) t9_0) := by
 rw [C, u03 _ _ rfl]; kernel_rfl
theorem ua8 (a0 a1 a2 : PV) : C u4x [a0, a1, a2] =
 trunc (M.bind (al [(.int .i64 0), (.int .i64 0), (.bool false), (.int .i64 0)]) fun t6_0 =>
 M.bind (al [(.int .i64 0)]) fun t7_1 =>
 M.bind (al [(.int .i64 0)]) fun t8_2 =>
 M.bind (al [(.int .i64 0), (.int .i64 0), (.bool false), (.int .i64 0)]) fun t9_3 =>
 M.bind (bi .lss .none (strip a1) (.int .i64 0)) fun t12_4 =>
 M.bind (gd (strip t12_4) false (M.pure (strip a1))) fun t14_5 =>
 M.bind (gd (strip t12_4) false (M.pure (strip a0))) fun t15_6 =>
 M.bind (gd (strip t12_4) false (lnL t15_6)) fun t16_7 =>
 M.bind (gd (strip t12_4) false (bi .gtr .none t14_5 t16_7)) fun t17_8 =>
 M.bind (pick (strip t12_4) (.bool true) t17_8) fun t18_9 =>
 condM t18_9
 (M.bind (ld (some 4) true t9_3) fun t19_10 =>
 M.bind (st 4 true t6_0 t19_10) fun _ =>
 M.bind (st 1 false t7_1 (.int .i64 0)) fun _ =>
 M.bind (st 1 false t8_2 (.int .i64 1)) fun _ =>
 M.bind (ld (some 4) true t6_0) fun t0_14 => guardM (!isTup t0_14) (M.bind (ld none true t7_1) fun t0_15 => guardM (!isTup t0_15) (M.bind (ld none true t8_2) fun t0_16 => guardM (!isTup t0_16) (M.pure (.tup [t0_14, t0_15, t0_16])))))
 (M.bind (mf u5m [] [t9_3, t6_0, t7_1, t8_2]) fun t20_17 =>
 guardM (isPtr t6_0 && isPtr t7_1 && isPtr t8_2) <| deferM CD t20_17 []
 (M.bind (bd [(.slice false true 0 []), (.int .i64 0)] [(0, 1, (strip a0)), (1, 1, (strip a1))]) fun t23_18 =>
 M.bind (bx 2 t23_18) fun t24_19 =>
 M.bind (callV P C (strip a2) [(strip (strip t24_19))]) fun t27_20 =>
 M.bind (st 4 true t6_0 t27_20) fun _ =>
 chk
 (M.bind (noPan (M.pure (strip t24_19))) fun t29_30 =>
 M.bind (noPan (nc P t29_30)) fun t30_31 =>
 M.bind (noPan (fa 1 t30_31)) fun t31_32 =>
 M.bind (noPan (ld (some 4) true t6_0)) fun t28_33 =>
 M.bind (noPan (st 4 true t6_0 t28_33)) fun _ =>
 M.bind (noPan (ld none true t31_32)) fun t32_35 =>
 M.bind (noPan (st 1 true t7_1 t32_35)) fun _ =>
 M.bind (noPan (st 1 false t8_2 (.int .i64 0))) fun _ =>
 M.pure [a0, a1, a2, .undef, .undef, .undef, t6_0, t7_1, t8_2, t9_3, t24_19, (strip a1), t12_4, (strip t12_4), t14_5, t15_6, t16_7, t17_8, t18_9, .undef, t20_17, (strip a0), (strip a1), t23_18, (strip t24_19), (strip a2), (strip t24_19), (strip t27_20), (strip t28_33), t29_30, t30_31, t31_32, (strip t32_35)])
 (M.bind (noPan (M.pure (strip t24_19))) fun t29_22 =>
 M.bind (noPan (nc P t29_22)) fun t30_23 =>
 M.bind (noPan (fa 1 t30_23)) fun t31_24 =>
 M.bind (noPan (ld (some 4) true t6_0)) fun t28_25 =>
 M.bind (noPan (ld none true t31_24)) fun t32_26 =>
 M.bind (noPan (st 4 true t6_0 t28_25)) fun _ =>
 M.bind (noPan (st 1 true t7_1 t32_26)) fun _ =>
 M.bind (noPan (st 1 false t8_2 (.int .i64 0))) fun _ =>
 M.pure [a0, a1, a2, .undef, .undef, .undef, t6_0, t7_1, t8_2, t9_3, t24_19, (strip a1), t12_4, (strip t12_4), t14_5, t15_6, t16_7, t17_8, t18_9, .undef, t20_17, (strip a0), (strip a1), t23_18, (strip t24_19), (strip a2), (strip t24_19), (strip t27_20), (strip t28_25), t29_22, t30_23, t31_24, (strip t32_26)]) <|
 chk
 (M.bind (noPan (M.pure (strip t24_19))) fun t29_38 =>
 M.bind (noPan (nc P t29_38)) fun t30_39 =>
 M.bind (noPan (fa 1 t30_39)) fun t31_40 =>
 M.bind (noPan (ld none true t31_40)) fun t32_41 =>
 M.bind (noPan (ld (some 4) true t6_0)) fun t28_42 =>
 M.bind (noPan (st 4 true t6_0 t28_42)) fun _ =>
 M.bind (noPan (st 1 true t7_1 t32_41)) fun _ =>
 M.bind (noPan (st 1 false t8_2 (.int .i64 0))) fun _ =>
 M.pure [a0, a1, a2, .undef, .undef, .undef, t6_0, t7_1, t8_2, t9_3, t24_19, (strip a1), t12_4, (strip t12_4), t14_5, t15_6, t16_7, t17_8, t18_9, .undef, t20_17, (strip a0), (strip a1), t23_18, (strip t24_19), (strip a2), (strip t24_19), (strip t27_20), (strip t28_42), t29_38, t30_39, t31_40, (strip t32_41)])
 (M.bind (noPan (M.pure (strip t24_19))) fun t29_22 =>
 M.bind (noPan (nc P t29_22)) fun t30_23 =>
 M.bind (noPan (fa 1 t30_23)) fun t31_24 =>
 M.bind (noPan (ld (some 4) true t6_0)) fun t28_25 =>
 M.bind (noPan (ld none true t31_24)) fun t32_26 =>
 M.bind (noPan (st 4 true t6_0 t28_25)) fun _ =>
 M.bind (noPan (st 1 true t7_1 t32_26)) fun _ =>
 M.bind (noPan (st 1 false t8_2 (.int .i64 0))) fun _ =>
 M.pure [a0, a1, a2, .undef, .undef, .undef, t6_0, t7_1, t8_2, t9_3, t24_19, (strip a1), t12_4, (strip t12_4), t14_5, t15_6, t16_7, t17_8, t18_9, .undef, t20_17, (strip a0), (strip a1), t23_18, (strip t24_19), (strip a2), (strip t24_19), (strip t27_20), (strip t28_25), t29_22, t30_23, t31_24, (strip t32_26)]) <|
 M.bind (noPan (M.pure (strip t24_19))) fun t29_46 =>
 M.bind (noPan (nc P t29_46)) fun t30_47 =>
 M.bind (noPan (fa 1 t30_47)) fun t31_48 =>
 M.bind (noPan (ld (some 4) true t6_0)) fun t28_49 =>
 M.bind (noPan (ld none true t31_48)) fun t32_50 =>
 M.bind (noPan (st 4 true t6_0 t28_49)) fun _ =>
 M.bind (noPan (st 1 true t7_1 t32_50)) fun _ =>
 M.bind (noPan (st 1 false t8_2 (.int .i64 0))) fun _ =>
 M.bind (ld (some 4) true t6_0) fun t0_54 => guardM (!isTup t0_54) (M.bind (ld none true t7_1) fun t0_55 => guardM (!isTup t0_55) (M.bind (ld none true t8_2) fun t0_56 => guardM (!isTup t0_56) (M.pure (.tup [t0_54, t0_55, t0_56])))))
 (M.bind (ld (some 4) true t6_0) fun t0_57 => guardM (!isTup t0_57) (M.bind (ld none true t7_1) fun t0_58 => guardM (!isTup t0_58) (M.bind (ld none true t8_2) fun t0_59 => guardM (!isTup t0_59) (M.pure (.tup [t0_57, t0_58, t0_59]))))))) := by
 rw [C, u03 _ _ rfl]; kernel_rfl
theorem ub9 (a0 : PV) : C u4i [a0] =
 trunc (M.bind (al [(.int .i64 0), (.int .i64 0), (.bool false), (.int .i64 0)]) fun t2_0 =>
 M.bind (C u1y [(strip (strip a0))]) fun t5_1 =>
 M.bind (bi .eql .none (strip t5_1) (.int .u8 64)) fun t8_2 =>
 condM t8_2
 (M.bind (nc P (strip a0)) fun t10_3 =>
 M.bind (fa 1 t10_3) fun t11_4 =>
 M.bind (ld none false t11_4) fun t12_5 =>
 M.bind (bi .add .none t12_5 (.int .i64 1)) fun t13_6 =>
 M.bind (nc P (strip a0)) fun t14_7 =>
 M.bind (fa 1 t14_7) fun t15_8 =>
 M.bind (st 1 true t15_8 t13_6) fun _ =>
 M.bind (bd [(.int .i64 0), (.int .i64 0), (.bool false), (.int .i64 0)] [(0, 1, (.int .i64 (-1)))]) fun t16_10 =>
 M.bind (st 4 true t2_0 t16_10) fun _ =>
 M.bind (ld (some 4) true t2_0) fun t0_12 => guardM (!isTup t0_12) (M.pure t0_12))
 (M.bind (bi .gtr .none (strip t5_1) (.int .u8 64)) fun t19_13 =>
 M.bind (gd (strip t19_13) true (M.pure (strip t5_1))) fun t21_14 =>
 M.bind (gd (strip t19_13) true (bi .lss .none t21_14 (.int .u8 128))) fun t22_15 =>
 M.bind (pick (strip t19_13) t22_15 (.bool false)) fun t23_16 =>
 condM t23_16
 (M.bind (C u3b [(strip (strip a0))]) fun t25_17 =>
 M.bind (bd [(.int .i64 0), (.int .i64 0), (.bool false), (.int .i64 0)] [(0, 1, (.int .i64 (-1))), (1, 3, t25_17)]) fun t26_18 =>
 M.bind (st 4 true t2_0 t26_18) fun _ =>
 M.bind (ld (some 4) true t2_0) fun t0_20 => guardM (!isTup t0_20) (M.pure t0_20))
 (M.bind (C u56 [(strip (strip a0))]) fun t28_21 =>
 M.bind (bd [(.int .i64 0), (.int .i64 0), (.bool false), (.int .i64 0)] [(0, 1, t28_21)]) fun t29_22 =>
 M.bind (st 4 true t2_0 t29_22) fun _ =>
 M.bind (ld (some 4) true t2_0) fun t0_24 => guardM (!isTup t0_24) (M.pure t0_24)))) := by
 rw [C, u03 _ _ rfl]; kernel_rfl
theorem urz (a0 a1 a2 : PV) : C u7a [a0, a1, a2] =
 trunc (M.bind (C u2k [(strip (strip a0)), (strip (strip a1)), (strip (strip a2)), (.fn ue3 [] [])]) fun t12_0 =>
 M.bind (ex 0 t12_0) fun t13_1 =>
 M.bind (ex 1 (tupDrop 0 t12_0)) fun t14_2 =>
 M.bind (ex 2 (tupDrop 1 (tupDrop 0 t12_0))) fun t15_3 =>
 resT t13_1 (resT t14_2 (resT t15_3 (M.pure (.tup [t13_1, t14_2, t15_3]))))) := by
 rw [C, u03 _ _ rfl]; kernel_rfl
theorem u9n (a0 a1 a2 : PV) : C u4c [a0, a1, a2] =
 trunc (M.bind (al [(.int .i64 0), (.bool false), (.int .i64 0)]) fun t6_0 =>
 M.bind (al [(.int .i64 0)]) fun t7_1 =>
 M.bind (al [(.int .i64 0)]) fun t8_2 =>
 M.bind (al [(.int .i64 0), (.bool false), (.int .i64 0)]) fun t9_3 =>
 M.bind (bi .lss .none (strip a1) (.int .i64 0)) fun t12_4 =>
 M.bind (gd (strip t12_4) false (M.pure (strip a1))) fun t14_5 =>
 M.bind (gd (strip t12_4) false (M.pure (strip a0))) fun t15_6 =>
 M.bind (gd (strip t12_4) false (lnL t15_6)) fun t16_7 =>
 M.bind (gd (strip t12_4) false (bi .gtr .none t14_5 t16_7)) fun t17_8 =>
 M.bind (pick (strip t12_4) (.bool true) t17_8) fun t18_9 =>
 condM t18_9
 (M.bind (ld (some 3) true t9_3) fun t19_10 =>
 M.bind (st 3 true t6_0 t19_10) fun _ =>
 M.bind (st 1 false t7_1 (.int .i64 0)) fun _ =>
 M.bind (st 1 false t8_2 (.int .i64 1)) fun _ =>
 M.bind (ld (some 3) true t6_0) fun t0_14 => guardM (!isTup t0_14) (M.bind (ld none true t7_1) fun t0_15 => guardM (!isTup t0_15) (M.bind (ld none true t8_2) fun t0_16 => guardM (!isTup t0_16) (M.pure (.tup [t0_14, t0_15, t0_16])))))
 (M.bind (mf u52 [] [t9_3, t6_0, t7_1, t8_2]) fun t20_17 =>
 guardM (isPtr t6_0 && isPtr t7_1 && isPtr t8_2) <| deferM CD t20_17 []
 (M.bind (bd [(.slice false true 0 []), (.int .i64 0)] [(0, 1, (strip a0)), (1, 1, (strip a1))]) fun t23_18 =>
 M.bind (bx 2 t23_18) fun t24_19 =>
 M.bind (callV P C (strip a2) [(strip (strip t24_19))]) fun t27_20 =>
 M.bind (st 3 true t6_0 t27_20) fun _ =>
 chk
 (M.bind (noPan (M.pure (strip t24_19))) fun t29_30 =>
 M.bind (noPan (nc P t29_30)) fun t30_31 =>
 M.bind (noPan (fa 1 t30_31)) fun t31_32 =>
 M.bind (noPan (ld (some 3) true t6_0)) fun t28_33 =>
 M.bind (noPan (st 3 true t6_0 t28_33)) fun _ =>
 M.bind (noPan (ld none true t31_32)) fun t32_35 =>
 M.bind (noPan (st 1 true t7_1 t32_35)) fun _ =>
 M.bind (noPan (st 1 false t8_2 (.int .i64 0))) fun _ =>
 M.pure [a0, a1, a2, .undef, .undef, .undef, t6_0, t7_1, t8_2, t9_3, t24_19, (strip a1), t12_4, (strip t12_4), t14_5, t15_6, t16_7, t17_8, t18_9, .undef, t20_17, (strip a0), (strip a1), t23_18, (strip t24_19), (strip a2), (strip t24_19), (strip t27_20), (strip t28_33), t29_30, t30_31, t31_32, (strip t32_35)])
 (M.bind (noPan (M.pure (strip t24_19))) fun t29_22 =>
 M.bind (noPan (nc P t29_22)) fun t30_23 =>
 M.bind (noPan (fa 1 t30_23)) fun t31_24 =>
 M.bind (noPan (ld (some 3) true t6_0)) fun t28_25 =>
 M.bind (noPan (ld none true t31_24)) fun t32_26 =>
 M.bind (noPan (st 3 true t6_0 t28_25)) fun _ =>
 M.bind (noPan (st 1 true t7_1 t32_26)) fun _ =>
 M.bind (noPan (st 1 false t8_2 (.int .i64 0))) fun _ =>
 M.pure [a0, a1, a2, .undef, .undef, .undef, t6_0, t7_1, t8_2, t9_3, t24_19, (strip a1), t12_4, (strip t12_4), t14_5, t15_6, t16_7, t17_8, t18_9, .undef, t20_17, (strip a0), (strip a1), t23_18, (strip t24_19), (strip a2), (strip t24_19), (strip t27_20), (strip t28_25), t29_22, t30_23, t31_24, (strip t32_26)]) <|
 chk
 (M.bind (noPan (M.pure (strip t24_19))) fun t29_38 =>
 M.bind (noPan (nc P t29_38)) fun t30_39 =>
 M.bind (noPan (fa 1 t30_39)) fun t31_40 =>
 M.bind (noPan (ld none true t31_40)) fun t32_41 =>
 M.bind (noPan (ld (some 3) true t6_0)) fun t28_42 =>
 M.bind (noPan (st 3 true t6_0 t28_42)) fun _ =>
 M.bind (noPan (st 1 true t7_1 t32_41)) fun _ =>
 M.bind (noPan (st 1 false t8_2 (.int .i64 0))) fun _ =>
 M.pure [a0, a1, a2, .undef, .undef, .undef, t6_0, t7_1, t8_2, t9_3, t24_19, (strip a1), t12_4, (strip t12_4), t14_5, t15_6, t16_7, t17_8, t18_9, .undef, t20_17, (strip a0), (strip a1), t23_18, (strip t24_19), (strip a2), (strip t24_19), (strip t27_20), (strip t28_42), t29_38, t30_39, t31_40, (strip t32_41)])
 (M.bind (noPan (M.pure (strip t24_19))) fun t29_22 =>
 M.bind (noPan (nc P t29_22)) fun t30_23 =>
 M.bind (noPan (fa 1 t30_23)) fun t31_24 =>
 M.bind (noPan (ld (some 3) true t6_0)) fun t28_25 =>
 M.bind (noPan (ld none true t31_24)) fun t32_26 =>
 M.bind (noPan (st 3 true t6_0 t28_25)) fun _ =>
 M.bind (noPan (st 1 true t7_1 t32_26)) fun _ =>
 M.bind (noPan (st 1 false t8_2 (.int .i64 0))) fun _ =>
 M.pure [a0, a1, a2, .undef, .undef, .undef, t6_0, t7_1, t8_2, t9_3, t24_19, (strip a1), t12_4, (strip t12_4), t14_5, t15_6, t16_7, t17_8, t18_9, .undef, t20_17, (strip a0), (strip a1), t23_18, (strip t24_19), (strip a2), (strip t24_19), (strip t27_20), (strip t28_25), t29_22, t30_23, t31_24, (strip t32_26)]) <|
 M.bind (noPan (M.pure (strip t24_19))) fun t29_46 =>
 M.bind (noPan (nc P t29_46)) fun t30_47 =>
 M.bind (noPan (fa 1 t30_47)) fun t31_48 =>
 M.bind (noPan (ld (some 3) true t6_0)) fun t28_49 =>
 M.bind (noPan (ld none true t31_48)) fun t32_50 =>
 M.bind (noPan (st 3 true t6_0 t28_49)) fun _ =>
 M.bind (noPan (st 1 true t7_1 t32_50)) fun _ =>
 M.bind (noPan (st 1 false t8_2 (.int .i64 0))) fun _ =>
 M.bind (ld (some 3) true t6_0) fun t0_54 => guardM (!isTup t0_54) (M.bind (ld none true t7_1) fun t0_55 => guardM (!isTup t0_55) (M.bind (ld none true t8_2) fun t0_56 => guardM (!isTup t0_56) (M.pure (.tup [t0_54, t0_55, t0_56])))))
 (M.bind (ld (some 3) true t6_0) fun t0_57 => guardM (!isTup t0_57) (M.bind (ld none true t7_1) fun t0_58 => guardM (!isTup t0_58) (M.bind (ld none true t8_2) fun t0_59 => guardM (!isTup t0_59) (M.pure (.tup [t0_57, t0_58, t0_59]))))))) := by
 rw [C, u03 _ _ rfl]; kernel_rfl
noncomputable def u6c (v0 v2 : PV) : M PV := atP P X u3b [1, 1, 1] (mkEnv 35 0 [(0, v0), (2, v2)])
theorem u7b (v0 v2 : PV) : u6c v0 v2 =
 M.bind (C u6f [(strip (strip v0))]) fun t34_0 =>
 M.bind (st 3 true v2 t34_0) fun _ =>
 M.bind (ld (some 3) true v2) fun t0_2 => guardM (!isTup t0_2) (M.pure t0_2) :=
 (u0k P X _ _ _).trans (by kernel_rfl)
theorem ude (a0 : PV) : C u3b [a0] =
 trunc (M.bind (al [(.int .i64 0), (.bool false), (.int .i64 0)]) fun t2_0 =>
 M.bind (C u1y [(strip (strip a0))]) fun t5_1 =>
 M.bind (bi .eql .none (strip t5_1) (.int .u8 123)) fun t8_2 =>
 condM t8_2
 (M.bind (nc P (strip a0)) fun t11_3 =>
 M.bind (fa 1 t11_3) fun t12_4 =>
 M.bind (ld none false t12_4) fun t13_5 =>
 M.bind (C u2b [(strip (strip a0)), (strip t13_5), (.int .i64 8)]) fun t14_6 =>
 u6c a0 t2_0)
 (M.bind (bi .geq .none (strip t5_1) (.int .u8 124)) fun t17_7 =>
 M.bind (gd (strip t17_7) true (M.pure (strip t5_1))) fun t19_8 =>
 M.bind (gd (strip t17_7) true (bi .leq .none t19_8 (.int .u8 127))) fun t20_9 =>
 M.bind (pick (strip t17_7) t20_9 (.bool false)) fun t21_10 =>
 condM t21_10
 (M.bind (nc P (strip a0)) fun t23_11 =>
 M.bind (fa 1 t23_11) fun t24_12 =>
 M.bind (ld none false t24_12) fun t25_13 =>
 M.bind (bi .add .none t25_13 (.int .i64 1)) fun t26_14 =>
 M.bind (nc P (strip a0)) fun t27_15 =>
 M.bind (fa 1 t27_15) fun t28_16 =>
 M.bind (st 1 true t28_16 t26_14) fun _ =>
 M.bind (cv (.int .i64) true (strip t5_1)) fun t30_18 =>
 M.bind (bi .sub .none (.int .i64 128) t30_18) fun t31_19 =>
 M.bind (bd [(.int .i64 0), (.bool false), (.int .i64 0)] [(0, 1, t31_19)]) fun t32_20 =>
 M.bind (st 3 true t2_0 t32_20) fun _ =>
 M.bind (ld (some 3) true t2_0) fun t0_22 => guardM (!isTup t0_22) (M.pure t0_22))
 (u6c a0 t2_0))) := by
 rw [C, u03 _ _ rfl]; kernel_rfl
theorem u9t (a0 a1 a2 : PV) : C u1b [a0, a1, a2] =
 trunc (M.bind (ld none false a2) fun t8_0 =>
 M.bind (lnL (strip a0)) fun t12_1 =>
 M.bind (callV P C t8_0 [(strip (strip a0)), (strip (strip a1)), (strip t12_1)]) fun t13_2 =>
 M.bind (ex 0 t13_2) fun t14_3 =>
 M.bind (ex 1 (tupDrop 0 t13_2)) fun t15_4 =>
 M.bind (ex 2 (tupDrop 1 (tupDrop 0 t13_2))) fun t16_5 =>
 resT t14_3 (resT t15_4 (resT t16_5 (M.pure (.tup [t14_3, t15_4, t16_5]))))) := by
 rw [C, u03 _ _ rfl]; kernel_rfl
theorem u6j (a0 a1 a2 a3 : PV) : C u2h [a0, a1, a2, a3] =
 trunc (M.bind (C u6q [(strip (strip a0)), (strip (strip a1)), (strip (strip a2))]) fun t19_0 =>
 M.bind (ex 0 (strip t19_0)) fun t20_1 =>
 M.bind (ex 1 (tupDrop 0 (strip t19_0))) fun t21_2 =>
 M.bind (al [(.slice false true 0 []), (.int .i64 0), (.int .i64 0)]) fun t11_3 =>
 M.bind (st 3 true t11_3 t20_1) fun _ =>
 M.bind (bi .neq .none (strip t21_2) (.int .i64 0)) fun t23_5 =>
 condM t23_5
 (resT t21_2 (M.pure (.tup [(.int .u64 0), (.int .i64 0), t21_2])))
 (M.bind (ld (some 3) false t11_3) fun t27_6 =>
 M.bind (callV P C (strip a3) [(strip t27_6)]) fun t28_7 =>
 M.bind (ex 0 (strip t28_7)) fun t29_8 =>
 M.bind (ex 1 (tupDrop 0 (strip t28_7))) fun t30_9 =>
 M.bind (ex 2 (tupDrop 1 (tupDrop 0 (strip t28_7)))) fun t31_10 =>
 resT t29_8 (resT t30_9 (resT t31_10 (M.pure (.tup [t29_8, t30_9, t31_10])))))) := by
 rw [C, u03 _ _ rfl]; kernel_rfl
theorem ur2 (a0 : PV) : C udz [a0] =
 trunc (M.bind (bx 3 a0) fun t1_0 =>
 M.bind (ld (some 3) false t1_0) fun t5_1 =>
 M.bind (C u2a [(strip t5_1), (.int .i64 64)]) fun t6_2 =>
 M.bind (ex 0 t6_2) fun t7_3 =>
 M.bind (ex 1 (tupDrop 0 t6_2)) fun t8_4 =>
 M.bind (ex 2 (tupDrop 1 (tupDrop 0 t6_2))) fun t9_5 =>
 resT t7_3 (resT t8_4 (resT t9_5 (M.pure (.tup [t7_3, t8_4, t9_5]))))) := by
 rw [C, u03 _ _ rfl]; kernel_rfl
theorem ua2 (a0 a1 a2 : PV) : C u2f [a0, a1, a2] =
 trunc (M.bind (ld none false a2) fun t8_0 =>
 M.bind (lnL (strip a0)) fun t12_1 =>
 M.bind (callV P C t8_0 [(strip (strip a0)), (strip (strip a1)), (strip t12_1)]) fun t13_2 =>
 M.bind (ex 0 t13_2) fun t14_3 =>
 M.bind (ex 1 (tupDrop 0 t13_2)) fun t15_4 =>
 M.bind (ex 2 (tupDrop 1 (tupDrop 0 t13_2))) fun t16_5 =>
 resT t14_3 (resT t15_4 (resT t16_5 (M.pure (.tup [t14_3, t15_4, t16_5]))))) := by
 rw [C, u03 _ _ rfl]; kernel_rfl
theorem u9q (a0 a1 a2 a3 : PV) : C u5v [a0, a1, a2, a3] =
 trunc (M.bind (C u6q [(strip (strip a0)), (strip (strip a1)), (strip (strip a2))]) fun t19_0 =>
 M.bind (ex 0 (strip t19_0)) fun t20_1 =>
 M.bind (ex 1 (tupDrop 0 (strip t19_0))) fun t21_2 =>
 M.bind (al [(.slice false true 0 []), (.int .i64 0), (.int .i64 0)]) fun t11_3 =>
 M.bind (st 3 true t11_3 t20_1) fun _ =>
 M.bind (bi .neq .none (strip t21_2) (.int .i64 0)) fun t23_5 =>
 condM t23_5
 (resT t21_2 (M.pure (.tup [(.int .i32 0), (.int .i64 0), t21_2])))
 (M.bind (ld (some 3) false t11_3) fun t27_6 =>
 M.bind (callV P C (strip a3) [(strip t27_6)]) fun t28_7 =>
 M.bind (ex 0 (strip t28_7)) fun t29_8 =>
 M.bind (ex 1 (tupDrop 0 (strip t28_7))) fun t30_9 =>
 M.bind (ex 2 (tupDrop 1 (tupDrop 0 (strip t28_7)))) fun t31_10 =>
 M.bind (cv (.int .i32) true (strip t29_8)) fun t33_11 =>
 resT t33_11 (resT t30_9 (resT t31_10 (M.pure (.tup [t33_11, t30_9, t31_10])))))) := by
 rw [C, u03 _ _ rfl]; kernel_rfl
theorem urs (a0 : PV) : C ue5 [a0] =
 trunc (M.bind (bx 3 a0) fun t1_0 =>
 M.bind (ld (some 3) false t1_0) fun t5_1 =>
 M.bind (C u18 [(strip t5_1), (.int .i64 32)]) fun t6_2 =>
 M.bind (ex 0 t6_2) fun t7_3 =>
 M.bind (ex 1 (tupDrop 0 t6_2)) fun t8_4 =>
 M.bind (ex 2 (tupDrop 1 (tupDrop 0 t6_2))) fun t9_5 =>
 resT t7_3 (resT t8_4 (resT t9_5 (M.pure (.tup [t7_3, t8_4, t9_5]))))) := by
 rw [C, u03 _ _ rfl]; kernel_rfl
theorem u9z (a0 a1 a2 : PV) : C u2g [a0, a1, a2] =
 trunc (M.bind (ld none false a2) fun t8_0 =>
 M.bind (lnL (strip a0)) fun t12_1 =>
 M.bind (callV P C t8_0 [(strip (strip a0)), (strip (strip a1)), (strip t12_1)]) fun t13_2 =>
 M.bind (ex 0 t13_2) fun t14_3 =>
 M.bind (ex 1 (tupDrop 0 t13_2)) fun t15_4 =>
 M.bind (ex 2 (tupDrop 1 (tupDrop 0 t13_2))) fun t16_5 =>
 resT t14_3 (resT t15_4 (resT t16_5 (M.pure (.tup [t14_3, t15_4, t16_5]))))) := by
 rw [C, u03 _ _ rfl]; kernel_rfl
theorem u79 (a0 a1 a2 a3 : PV) : C u30 [a0, a1, a2, a3] =
 trunc (M.bind (C u6q [(strip (strip a0)), (strip (strip a1)), (strip (strip a2))]) fun t19_0 =>
 M.bind (ex 0 (strip t19_0)) fun t20_1 =>
 M.bind (ex 1 (tupDrop 0 (strip t19_0))) fun t21_2 =>
 M.bind (al [(.slice false true 0 []), (.int .i64 0), (.int .i64 0)]) fun t11_3 =>
 M.bind (st 3 true t11_3 t20_1) fun _ =>
 M.bind (bi .neq .none (strip t21_2) (.int .i64 0)) fun t23_5 =>
 condM t23_5
 (resT t21_2 (M.pure (.tup [(.int .i64 0), (.int .i64 0), t21_2])))
 (M.bind (ld (some 3) false t11_3) fun t27_6 =>
 M.bind (callV P C (strip a3) [(strip t27_6)]) fun t28_7 =>
 M.bind (ex 0 (strip t28_7)) fun t29_8 =>
 M.bind (ex 1 (tupDrop 0 (strip t28_7))) fun t30_9 =>
 M.bind (ex 2 (tupDrop 1 (tupDrop 0 (strip t28_7)))) fun t31_10 =>
 resT t29_8 (resT t30_9 (resT t31_10 (M.pure (.tup [t29_8, t30_9, t31_10])))))) := by
 rw [C, u03 _ _ rfl]; kernel_rfl
theorem urm (a0 : PV) : C udx [a0] =
 trunc (M.bind (bx 3 a0) fun t1_0 =>
 M.bind (ld (some 3) false t1_0) fun t5_1 =>
 M.bind (C u18 [(strip t5_1), (.int .i64 64)]) fun t6_2 =>
 M.bind (ex 0 t6_2) fun t7_3 =>
 M.bind (ex 1 (tupDrop 0 t6_2)) fun t8_4 =>
 M.bind (ex 2 (tupDrop 1 (tupDrop 0 t6_2))) fun t9_5 =>
 resT t7_3 (resT t8_4 (resT t9_5 (M.pure (.tup [t7_3, t8_4, t9_5]))))) := by
 rw [C, u03 _ _ rfl]; kernel_rfl
theorem u9m (a0 a1 a2 : PV) : C u19 [a0, a1, a2] =
 trunc (M.bind (ld none false a2) fun t8_0 =>
 M.bind (lnL (strip a0)) fun t12_1 =>
 M.bind (callV P C t8_0 [(strip (strip a0)), (strip (strip a1)), (strip t12_1)]) fun t13_2 =>
 M.bind (ex 0 t13_2) fun t14_3 =>
 M.bind (ex 1 (tupDrop 0 t13_2)) fun t15_4 =>
 M.bind (ex 2 (tupDrop 1 (tupDrop 0 t13_2))) fun t16_5 =>
 resT t14_3 (resT t15_4 (resT t16_5 (M.pure (.tup [t14_3, t15_4, t16_5]))))) := by
 rw [C, u03 _ _ rfl]; kernel_rfl
theorem u6t (a0 a1 a2 a3 : PV) : C u2k [a0, a1, a2, a3] =
 trunc (M.bind (C u6q [(strip (strip a0)), (strip (strip a1)), (strip (strip a2))]) fun t19_0 =>
 M.bind (ex 0 (strip t19_0)) fun t20_1 =>
 M.bind (ex 1 (tupDrop 0 (strip t19_0))) fun t21_2 =>
 M.bind (al [(.slice false true 0 []), (.int .i64 0), (.int .i64 0)]) fun t11_3 =>
 M.bind (st 3 true t11_3 t20_1) fun _ =>
 M.bind (bi .neq .none (strip t21_2) (.int .i64 0)) fun t23_5 =>
 condM t23_5
 (resT t21_2 (M.pure (.tup [(.int .u32 0), (.int .i64 0), t21_2])))
 (M.bind (ld (some 3) false t11_3) fun t27_6 =>
 M.bind (callV P C (strip a3) [(strip t27_6)]) fun t28_7 =>
 M.bind (ex 0 (strip t28_7)) fun t29_8 =>
 M.bind (ex 1 (tupDrop 0 (strip t28_7))) fun t30_9 =>
 M.bind (ex 2 (tupDrop 1 (tupDrop 0 (strip t28_7)))) fun t31_10 =>
 M.bind (cv (.int .u32) true (strip t29_8)) fun t33_11 =>
 resT t33_11 (resT t30_9 (resT t31_10 (M.pure (.tup [t33_11, t30_9, t31_10])))))) := by
 rw [C, u03 _ _ rfl]; kernel_rfl
theorem urf (a0 : PV) : C ue4 [a0] =
 trunc (M.bind (bx 3 a0) fun t1_0 =>
 M.bind (ld (some 3) false t1_0) fun t5_1 =>
 M.bind (C u38 [(strip t5_1), (.int .i64 4)]) fun t6_2 =>
 M.bind (ex 0 t6_2) fun t7_3 =>
 M.bind (ex 1 (tupDrop 0 t6_2)) fun t8_4 =>
 M.bind (ex 2 (tupDrop 1 (tupDrop 0 t6_2))) fun t9_5 =>
 resT t7_3 (resT t8_4 (resT t9_5 (M.pure (.tup [t7_3, t8_4, t9_5]))))) := by
 rw [C, u03 _ _ rfl]; kernel_rfl
theorem ur6 (a0 : PV) : C ue2 [a0] =
 trunc (M.bind (bx 3 a0) fun t1_0 =>
 M.bind (ld (some 3) false t1_0) fun t5_1 =>
 M.bind (C u38 [(strip t5_1), (.int .i64 8)]) fun t6_2 =>
 M.bind (ex 0 t6_2) fun t7_3 =>
 M.bind (ex 1 (tupDrop 0 t6_2)) fun t8_4 =>
 M.bind (ex 2 (tupDrop 1 (tupDrop 0 t6_2))) fun t9_5 =>
 resT t7_3 (resT t8_4 (resT t9_5 (M.pure (.tup [t7_3, t8_4, t9_5]))))) := by
 rw [C, u03 _ _ rfl]; kernel_rfl
theorem ueg (a0 a1 : PV) : C u8f [a0, a1] =
 trunc (M.bind (nc P (strip a0)) fun t10_0 =>
 M.bind (fa 20 t10_0) fun t11_1 =>
 M.bind (ld none false t11_1) fun t12_2 =>
 M.bind (bi .neq .none t12_2 (.int .i64 0)) fun t13_3 =>
 condM t13_3
 (M.pure (.int .i64 0))
 (M.bind (noPan (M.pure (strip a1))) fun t16_21 =>
 M.bind (noPan (M.pure (strip a0))) fun t17_22 =>
 M.bind (noPan (nc P t17_22)) fun t18_23 =>
 M.bind (noPan (fa 0 t18_23)) fun t19_24 =>
 M.bind (noPan (M.pure (strip a0))) fun t21_25 =>
 M.bind (noPan (nc P t21_25)) fun t22_26 =>
 M.bind (noPan (fa 1 t22_26)) fun t23_27 =>
 M.bind (noPan (ld none false t19_24)) fun t20_28 =>
 M.bind (noPan (ld none false t23_27)) fun t24_29 =>
 M.bind (noPan (callV P C t16_21 [(strip t20_28), (strip t24_29)])) fun t25_30 =>
 M.bind (noPan (M.pure (strip t25_30))) fun t15_31 =>
 M.bind (noPan (ex 0 t15_31)) fun t26_32 =>
 M.bind (noPan (ex 1 (tupDrop 0 t15_31))) fun t27_33 =>
 M.bind (noPan (ex 2 (tupDrop 1 (tupDrop 0 t15_31)))) fun t28_34 =>
 M.bind (noPan (M.pure t26_32)) fun t6_35 =>
 M.bind (noPan (M.pure t27_33)) fun t7_36 =>
 M.bind (noPan (M.pure t28_34)) fun t8_37 =>
 M.bind (bi .neq .none (strip t8_37) (.int .i64 0)) fun t30_38 =>
 condM t30_38
 (M.bind (C u0r [(strip (strip a0)), (strip (strip t7_36)), (strip (strip t8_37))]) fun t34_39 =>
 M.pure (.int .i64 0))
 (M.bind (nc P (strip a0)) fun t38_40 =>
 M.bind (fa 1 t38_40) fun t39_41 =>
 M.bind (st 1 true t39_41 t7_36) fun _ =>
 resT t6_35 (M.pure t6_35)))) := by
 rw [C, u03 _ _ rfl]; kernel_rfl
theorem ue7 (a0 a1 : PV) : C u67 [a0, a1] =
 trunc (M.bind (C u7h [(strip (strip a0)), (strip (strip a1)), (.fn u3t [] [])]) fun t9_0 =>
 M.bind (ex 0 t9_0) fun t10_1 =>
 M.bind (ex 1 (tupDrop 0 t9_0)) fun t11_2 =>
 M.bind (ex 2 (tupDrop 1 (tupDrop 0 t9_0))) fun t12_3 =>
 resT t10_1 (resT t11_2 (resT t12_3 (M.pure (.tup [t10_1, t11_2, t12_3]))))) := by
 rw [C, u03 _ _ rfl]; kernel_rfl
theorem ube (a0 a1 : PV) : C u3g [a0, a1] =
 trunc (M.bind (bd [(.slice false true 0 []), (.int .i64 0), (.int .i64 0), (.int .i64 0)] [(0, 1, (strip a0)), (1, 1, (strip a1))]) fun t8_0 =>
 M.bind (bx 4 t8_0) fun t9_1 =>
 M.bind (bi .geq .none (strip a1) (.int .i64 0)) fun t11_2 =>
 M.bind (gd (strip t11_2) true (M.pure (strip a1))) fun t13_3 =>
 M.bind (gd (strip t11_2) true (M.pure (strip a0))) fun t14_4 =>
 M.bind (gd (strip t11_2) true (lnL t14_4)) fun t15_5 =>
 M.bind (gd (strip t11_2) true (bi .leq .none t13_3 t15_5)) fun t16_6 =>
 M.bind (pick (strip t11_2) t16_6 (.bool false)) fun t17_7 =>
 resT t9_1 (resT t17_7 (M.pure (.tup [t9_1, t17_7])))) := by
 rw [C, u03 _ _ rfl]; kernel_rfl
end Go.Proofs.YthidcpkcfoldmaaGreat.Pi.Q
namespace Go.Proofs.YthidcpkcfoldmaaGreat.Pi.Q
open Go Go.Proofs.YthidcpkcfoldmaaGreat.Pi
noncomputable def u14 (v0 v2 v5 v6 : PV) : M PV := atP P X u23 [1, 1, 1, 1, 1, 1, 1] (mkEnv 70 0 [(0, v0), (2, v2), (5, v5), (6, v6)])
noncomputable def u2o (v2 v6 : PV) : M PV := atP P X u23 [1, 1, 1, 1, 1, 1, 1, 1] (mkEnv 70 0 [(2, v2), (6, v6)])
theorem u1j (v0 v2 v5 v6 : PV) : u14 v0 v2 v5 v6 =
 M.bind (nc P (strip v0)) fun t57_0 =>
 M.bind (fa 3 t57_0) fun t58_1 =>
 M.bind (ld none false t58_1) fun t59_2 =>
 M.bind (bi .eql .none t59_2 (.int .i64 0)) fun t60_3 =>
 M.bind (gd (strip t60_3) true (M.pure (strip v6))) fun t62_4 =>
 M.bind (gd (strip t60_3) true (bi .geq .none t62_4 (.int .i64 2147483648))) fun t63_5 =>
 M.bind (pick (strip t60_3) t63_5 (.bool false)) fun t64_6 =>
 condM t64_6
 (M.bind (C u06 [(strip (strip v0)), (strip (strip v5)), (.int .i64 2)]) fun t67_7 =>
 u2o v2 v6)
 (u2o v2 v6) :=
 (u0k P X _ _ _).trans (by kernel_rfl)
theorem u1f (v2 v6 : PV) : u2o v2 v6 =
 M.bind (bd [(.int .i64 0), (.int .i64 0), (.bool false), (.int .i64 0)] [(0, 1, (strip v6))]) fun t69_0 =>
 M.bind (st 4 true v2 t69_0) fun _ =>
 M.bind (ld (some 4) true v2) fun t0_2 => guardM (!isTup t0_2) (M.pure t0_2) :=
 (u0k P X _ _ _).trans (by kernel_rfl)
theorem u8j (a0 : PV) : C u23 [a0] =
 trunc (M.bind (al [(.int .i64 0), (.int .i64 0), (.bool false), (.int .i64 0)]) fun t2_0 =>
 M.bind (C u1r [(strip (strip a0))]) fun t9_1 =>
 M.bind (ex 0 (strip t9_1)) fun t10_2 =>
 M.bind (ex 1 (tupDrop 0 (strip t9_1))) fun t11_3 =>
 M.bind (gd (strip (strip t11_3)) true (M.pure (strip t10_2))) fun t14_4 =>
 M.bind (gd (strip (strip t11_3)) true (bi .eql .none t14_4 (.int .u8 64))) fun t15_5 =>
 M.bind (pick (strip (strip t11_3)) t15_5 (.bool false)) fun t16_6 =>
 condM t16_6
 (M.bind (nc P (strip a0)) fun t18_7 =>
 M.bind (fa 1 t18_7) fun t19_8 =>
 M.bind (ld none false t19_8) fun t20_9 =>
 M.bind (bi .add .none t20_9 (.int .i64 1)) fun t21_10 =>
 M.bind (nc P (strip a0)) fun t22_11 =>
 M.bind (fa 1 t22_11) fun t23_12 =>
 M.bind (st 1 true t23_12 t21_10) fun _ =>
 M.bind (bd [(.int .i64 0), (.int .i64 0), (.bool false), (.int .i64 0)] [(0, 1, (.int .i64 (-1)))]) fun t24_14 =>
 M.bind (st 4 true t2_0 t24_14) fun _ =>
 M.bind (ld (some 4) true t2_0) fun t0_16 => guardM (!isTup t0_16) (M.pure t0_16))
 (M.bind (gd (strip (strip t11_3)) true (M.pure (strip t10_2))) fun t27_17 =>
 M.bind (gd (strip (strip t11_3)) true (bi .gtr .none t27_17 (.int .u8 64))) fun t28_18 =>
 M.bind (pick (strip (strip t11_3)) t28_18 (.bool false)) fun t29_19 =>
 M.bind (gd (strip t29_19) true (M.pure (strip t10_2))) fun t31_20 =>
 M.bind (gd (strip t29_19) true (bi .lss .none t31_20 (.int .u8 128))) fun t32_21 =>
 M.bind (pick (strip t29_19) t32_21 (.bool false)) fun t33_22 =>
 condM t33_22
 (M.bind (C u11 [(strip (strip a0)), (.bool true), (.bool false)]) fun t35_23 =>
 M.bind (bd [(.int .i64 0), (.int .i64 0), (.bool false), (.int .i64 0)] [(0, 1, (.int .i64 (-1))), (1, 3, t35_23)]) fun t36_24 =>
 M.bind (st 4 true t2_0 t36_24) fun _ =>
 M.bind (ld (some 4) true t2_0) fun t0_26 => guardM (!isTup t0_26) (M.pure t0_26))
 (M.bind (nc P (strip a0)) fun t38_27 =>
 M.bind (fa 1 t38_27) fun t39_28 =>
 M.bind (ld none true t39_28) fun t40_29 =>
 M.bind (C u0z [(strip (strip a0)), (.int .i64 33), (.bool true)]) fun t42_30 =>
 M.bind (cv (.int .i64) true t42_30) fun t43_31 =>
 M.bind (nc P (strip a0)) fun t45_32 =>
 M.bind (fa 3 t45_32) fun t46_33 =>
 M.bind (ld none false t46_33) fun t47_34 =>
 M.bind (bi .eql .none t47_34 (.int .i64 0)) fun t48_35 =>
 M.bind (gd (strip t48_35) true (M.pure (strip t43_31))) fun t50_36 =>
 M.bind (gd (strip t48_35) true (bi .lss .none t50_36 (.int .i64 0))) fun t51_37 =>
 M.bind (pick (strip t48_35) t51_37 (.bool false)) fun t52_38 =>
 condM t52_38
 (M.bind (C u06 [(strip (strip a0)), (strip (strip t40_29)), (.int .i64 4)]) fun t55_39 =>
 u14 a0 t2_0 t40_29 t43_31)
 (u14 a0 t2_0 t40_29 t43_31)))) := by
 rw [C, u03 _ _ rfl]; kernel_rfl
theorem u6w (a0 : PV) : C u1w [a0] =
 trunc (M.bind (nc P (strip a0)) fun t5_0 =>
 M.bind (fa 3 t5_0) fun t6_1 =>
 M.bind (ld none false t6_1) fun t7_2 =>
 M.bind (bi .neq .none t7_2 (.int .i64 0)) fun t8_3 =>
 condM t8_3
 (nb (nc P (strip a0)) fun t10_4 =>
 nb (fa 2 t10_4) fun t11_5 =>
 nb (ld none true t11_5) fun t12_6 =>
 nb (nc P (strip a0)) fun t14_7 =>
 nb (fa 3 t14_7) fun t15_8 =>
 nb (ld none true t15_8) fun t16_9 =>
 resT t12_6 (resT t16_9 (M.pure (.tup [t12_6, t16_9]))))
 (M.bind (nc P (strip a0)) fun t18_10 =>
 M.bind (fa 1 t18_10) fun t19_11 =>
 M.bind (ld none true t19_11) fun t20_12 =>
 resT t20_12 (M.pure (.tup [t20_12, (.int .i64 0)])))) := by
 rw [C, u03 _ _ rfl]; kernel_rfl
theorem ub1 (a0 a1 a2 : PV) : C u5j [a0, a1, a2] =
 trunc (M.bind (bi .geq .none (strip a1) (.int .i64 0)) fun t8_0 =>
 M.bind (gd (strip t8_0) true (M.pure (strip a2))) fun t10_1 =>
 M.bind (gd (strip t8_0) true (M.pure (strip a0))) fun t11_2 =>
 M.bind (gd (strip t8_0) true (lnL t11_2)) fun t12_3 =>
 M.bind (gd (strip t8_0) true (bi .leq .none t10_1 t12_3)) fun t13_4 =>
 M.bind (pick (strip t8_0) t13_4 (.bool false)) fun t14_5 =>
 M.bind (gd (strip t14_5) true (M.pure (strip a1))) fun t16_6 =>
 M.bind (gd (strip t14_5) true (M.pure (strip a2))) fun t17_7 =>
 M.bind (gd (strip t14_5) true (bi .leq .none t16_6 t17_7)) fun t18_8 =>
 M.bind (pick (strip t14_5) t18_8 (.bool false)) fun t19_9 =>
 resT t19_9 (M.pure t19_9)) := by
 rw [C, u03 _ _ rfl]; kernel_rfl
theorem ucb (a0 a1 a2 a3 : PV) : C u7i [a0, a1, a2, a3] =
 trunc (M.bind (bi .mul .none (.int .i64 7) (strip a2)) fun t13_0 =>
 M.bind (bi .sub .none (strip a1) t13_0) fun t14_1 =>
 M.bind (bi .geq .none (strip a0) (.int .u8 128)) fun t16_2 =>
 condM t16_2
 (M.pure (.bool false))
 (M.bind (cv (.int .i64) true (strip a0)) fun t18_3 =>
 M.bind (cv (.int .u64) true (strip t14_1)) fun t20_4 =>
 M.bind (bi .shr .none t18_3 t20_4) fun t21_5 =>
 M.bind (un .not (strip a3)) fun t23_6 =>
 condM t23_6
 (M.bind (bi .eql .none (strip t21_5) (.int .i64 0)) fun t25_7 =>
 resT t25_7 (M.pure t25_7))
 (M.bind (cv (.int .i64) true (strip a0)) fun t27_8 =>
 M.bind (bi .sub .none (strip t14_1) (.int .i64 1)) fun t29_9 =>
 M.bind (cv (.int .u64) true t29_9) fun t30_10 =>
 M.bind (bi .shr .none t27_8 t30_10) fun t31_11 =>
 M.bind (bi .eql .none (strip t31_11) (.int .i64 0)) fun t33_12 =>
 M.bind (gd (strip t33_12) false (M.pure (strip t31_11))) fun t35_13 =>
 M.bind (gd (strip t33_12) false (M.pure (strip t14_1))) fun t36_14 =>
 M.bind (gd (strip t33_12) false (bi .sub .none (.int .i64 8) t36_14)) fun t37_15 =>
 M.bind (gd (strip t33_12) false (cv (.int .u64) true t37_15)) fun t38_16 =>
 M.bind (gd (strip t33_12) false (bi .shl .none (.int .i64 1) t38_16)) fun t39_17 =>
 M.bind (gd (strip t33_12) false (bi .sub .none t39_17 (.int .i64 1))) fun t40_18 =>
 M.bind (gd (strip t33_12) false (bi .eql .none t35_13 t40_18)) fun t41_19 =>
 M.bind (pick (strip t33_12) (.bool true) t41_19) fun t42_20 =>
 resT t42_20 (M.pure t42_20)))) := by
 rw [C, u03 _ _ rfl]; kernel_rfl
theorem uay (a0 a1 a2 : PV) : C u5k [a0, a1, a2] =
 trunc (M.bind (al [(.int .i64 0), (.bool false), (.int .i64 0)]) fun t6_0 =>
 M.bind (C u3g [(strip (strip a0)), (strip (strip a1))]) fun t17_1 =>
 M.bind (ex 0 (strip t17_1)) fun t18_2 =>
 M.bind (ex 1 (tupDrop 0 (strip t17_1))) fun t19_3 =>
 M.bind (un .not (strip t19_3)) fun t21_4 =>
 condM t21_4
 (M.bind (bd [(.int .i64 0), (.bool false), (.int .i64 0)] []) fun t22_5 =>
 M.bind (st 3 true t6_0 t22_5) fun _ =>
 M.bind (ld (some 3) true t6_0) fun t0_7 => guardM (!isTup t0_7) (M.pure (.tup [t0_7, (.int .i64 0), (.int .i64 1)])))
 (M.bind (C u11 [(strip (strip t18_2)), (strip (strip a2)), (.bool false)]) fun t25_8 =>
 M.bind (al [(.int .i64 0), (.bool false), (.int .i64 0)]) fun t11_9 =>
 M.bind (st 3 true t11_9 t25_8) fun _ =>
 M.bind (C u1w [(strip (strip t18_2))]) fun t28_11 =>
 M.bind (ex 0 (strip t28_11)) fun t29_12 =>
 M.bind (ex 1 (tupDrop 0 (strip t28_11))) fun t30_13 =>
 M.bind (bi .neq .none (strip t30_13) (.int .i64 0)) fun t32_14 =>
 condM t32_14
 (M.bind (bd [(.int .i64 0), (.bool false), (.int .i64 0)] []) fun t33_15 =>
 M.bind (st 3 true t6_0 t33_15) fun _ =>
 M.bind (ld (some 3) true t6_0) fun t0_17 => guardM (!isTup t0_17) (resT t29_12 (resT t30_13 (M.pure (.tup [t0_17, t29_12, t30_13])))))
 (M.bind (ld (some 3) true t11_9) fun t36_18 =>
 M.bind (st 3 true t6_0 t36_18) fun _ =>
 M.bind (ld (some 3) true t6_0) fun t0_20 => guardM (!isTup t0_20) (resT t29_12 (M.pure (.tup [t0_20, t29_12, (.int .i64 0)])))))) := by
 rw [C, u03 _ _ rfl]; kernel_rfl
noncomputable def u1e (v0 v2 v5 v6 : PV) : M PV := atP P X u0q [1, 1, 1, 1, 1, 1] (mkEnv 64 0 [(0, v0), (2, v2), (5, v5), (6, v6)])
noncomputable def u2v (v0 v2 v6 : PV) : M PV := atP P X u0q [1, 1, 1, 1, 1, 1, 1] (mkEnv 64 0 [(0, v0), (2, v2), (6, v6)])
theorem u1n (v0 v2 v5 v6 : PV) : u1e v0 v2 v5 v6 =
 M.bind (nc P (strip v0)) fun t47_0 =>
 M.bind (fa 3 t47_0) fun t48_1 =>
 M.bind (ld none false t48_1) fun t49_2 =>
 M.bind (bi .eql .none t49_2 (.int .i64 0)) fun t50_3 =>
 M.bind (gd (strip t50_3) true (M.pure (strip v6))) fun t52_4 =>
 M.bind (gd (strip t50_3) true (bi .geq .none t52_4 (.int .i64 2147483648))) fun t53_5 =>
 M.bind (pick (strip t50_3) t53_5 (.bool false)) fun t54_6 =>
 condM t54_6
 (M.bind (C u06 [(strip (strip v0)), (strip (strip v5)), (.int .i64 2)]) fun t57_7 =>
 u2v v0 v2 v6)
 (u2v v0 v2 v6) :=
 (u0k P X _ _ _).trans (by kernel_rfl)
theorem u1k (v0 v2 v6 : PV) : u2v v0 v2 v6 =
 M.bind (nc P (strip v0)) fun t59_0 =>
 M.bind (fa 3 t59_0) fun t60_1 =>
 M.bind (ld none false t60_1) fun t61_2 =>
 M.bind (bi .neq .none t61_2 (.int .i64 0)) fun t62_3 =>
 condM t62_3
 (M.pure (.int .i64 0))
 (resT v6 (M.pure v6)) :=
 (u0k P X _ _ _).trans (by kernel_rfl)
theorem u8n (a0 : PV) : C u0q [a0] =
 trunc (M.bind (C u1r [(strip (strip a0))]) fun t9_0 =>
 M.bind (ex 0 (strip t9_0)) fun t10_1 =>
 M.bind (ex 1 (tupDrop 0 (strip t9_0))) fun t11_2 =>
 M.bind (gd (strip (strip t11_2)) true (M.pure (strip t10_1))) fun t14_3 =>
 M.bind (gd (strip (strip t11_2)) true (C u2e [(strip t14_3)])) fun t15_4 =>
 M.bind (gd (strip (strip t11_2)) true (bi .neq .none t15_4 (.int .i64 0))) fun t16_5 =>
 M.bind (pick (strip (strip t11_2)) t16_5 (.bool false)) fun t17_6 =>
 condM t17_6
 (M.bind (nc P (strip a0)) fun t19_7 =>
 M.bind (fa 1 t19_7) fun t20_8 =>
 M.bind (ld none false t20_8) fun t21_9 =>
 M.bind (bi .add .none t21_9 (.int .i64 1)) fun t22_10 =>
 M.bind (nc P (strip a0)) fun t23_11 =>
 M.bind (fa 1 t23_11) fun t24_12 =>
 M.bind (st 1 true t24_12 t22_10) fun _ =>
 M.bind (C u2e [(strip (strip t10_1))]) fun t26_14 =>
 resT t26_14 (M.pure t26_14))
 (M.bind (nc P (strip a0)) fun t28_15 =>
 M.bind (fa 1 t28_15) fun t29_16 =>
 M.bind (ld none true t29_16) fun t30_17 =>
 M.bind (C u0z [(strip (strip a0)), (.int .i64 33), (.bool true)]) fun t32_18 =>
 M.bind (cv (.int .i64) true t32_18) fun t33_19 =>
 M.bind (nc P (strip a0)) fun t35_20 =>
 M.bind (fa 3 t35_20) fun t36_21 =>
 M.bind (ld none false t36_21) fun t37_22 =>
 M.bind (bi .eql .none t37_22 (.int .i64 0)) fun t38_23 =>
 M.bind (gd (strip t38_23) true (M.pure (strip t33_19))) fun t40_24 =>
 M.bind (gd (strip t38_23) true (bi .lss .none t40_24 (.int .i64 0))) fun t41_25 =>
 M.bind (pick (strip t38_23) t41_25 (.bool false)) fun t42_26 =>
 condM t42_26
 (M.bind (C u06 [(strip (strip a0)), (strip (strip t30_17)), (.int .i64 4)]) fun t45_27 =>
 u1e a0 (.int .i64 0) t30_17 t33_19)
 (u1e a0 (.int .i64 0) t30_17 t33_19))) := by
 rw [C, u03 _ _ rfl]; kernel_rfl
theorem ue9 : C u8h [] =
 trunc (M.bind (al [(.int .i64 0), (.int .i64 0), (.int .i64 0), (.int .i64 0), (.int .i64 0), (.int .i64 0), (.int .i64 0), (.int .i64 0), (.int .i64 0), (.int .i64 0), (.int .i64 0), (.int .i64 0)]) fun t0_0 =>
 M.bind (bd [(.int .i64 0), (.int .i64 0), (.int .i64 0), (.int .i64 0), (.int .i64 0), (.int .i64 0), (.int .i64 0), (.int .i64 0), (.int .i64 0), (.int .i64 0), (.int .i64 0), (.int .i64 0)] [(0, 1, (.int .i64 (-11))), (1, 1, (.int .i64 (-9))), (2, 1, (.int .i64 (-8))), (3, 1, (.int .i64 (-7))), (4, 1, (.int .i64 (-6))), (5, 1, (.int .i64 (-5))), (6, 1, (.int .i64 (-3))), (7, 1, (.int .i64 (-1))), (8, 1, (.int .i64 (-10))), (9, 1, (.int .i64 (-4))), (10, 1, (.int .i64 (-2))), (11, 1, (.int .i64 (-12)))]) fun t1_1 =>
 M.bind (st 12 true t0_0 t1_1) fun _ =>
 M.bind (ld (some 12) true t0_0) fun t0_3 => guardM (!isTup t0_3) (M.pure t0_3)) := by
 rw [C, u03 _ _ rfl]; kernel_rfl
theorem u9d (a0 a1 a2 a3 : PV) : CD none u5m [a0, a1, a2, a3] =
 noPan (trunc (M.bind (M.pure .niliface) fun t6_0 =>
 M.bind (bi .neq .iface (strip t6_0) .niliface) fun t8_1 =>
 condM t8_1
 (M.bind (ta u4j (.agg [(.int .i64 0), (.int .i64 0)]) false (strip t6_0)) fun t10_2 =>
 M.bind (al [(.int .i64 0), (.int .i64 0)]) fun t5_3 =>
 M.bind (st 2 true t5_3 t10_2) fun _ =>
 nb (ld (some 4) true a0) fun t11_5 =>
 nb (fa 0 t5_3) fun t12_6 =>
 guardM (!clash (tld t12_6) (tld a0) && true) <| nb (ld none true t12_6) fun t13_7 =>
 nb (fa 1 t5_3) fun t14_8 =>
 guardM (!clash (tld t14_8) (tld t12_6) && (!clash (tld t14_8) (.no) && (!clash (tld t14_8) (tld a0) && true))) <| nb (ld none true t14_8) fun t15_9 =>
 guardM (!clash (tst a1) (tld t14_8) && (!clash (tst a1) (.no) && (!clash (tst a1) (tld t12_6) && (!clash (tst a1) (.no) && true)))) <| M.bind (noPan (st 4 true a1 t11_5)) fun _ =>
 guardM (!clash (tst a2) (tld t14_8) && (!clash (tst a2) (.no) && true)) <| M.bind (noPan (st 1 true a2 t13_7)) fun _ =>
 M.bind (noPan (st 1 true a3 t15_9)) fun _ =>
 M.pure (.tup []))
 (M.pure (.tup [])))) := by
 rw [CD, u9u]; kernel_rfl
theorem u9b (r : PV) (a0 a1 a2 a3 : PV) : CD (some r) u5m [a0, a1, a2, a3] =
 noPan (trunc (M.bind (M.pure r) fun t6_0 =>
 M.bind (bi .neq .iface (strip t6_0) .niliface) fun t8_1 =>
 condM t8_1
 (M.bind (ta u4j (.agg [(.int .i64 0), (.int .i64 0)]) false (strip t6_0)) fun t10_2 =>
 M.bind (al [(.int .i64 0), (.int .i64 0)]) fun t5_3 =>
 M.bind (st 2 true t5_3 t10_2) fun _ =>
 nb (ld (some 4) true a0) fun t11_5 =>
 nb (fa 0 t5_3) fun t12_6 =>
 guardM (!clash (tld t12_6) (tld a0) && true) <| nb (ld none true t12_6) fun t13_7 =>
 nb (fa 1 t5_3) fun t14_8 =>
 guardM (!clash (tld t14_8) (tld t12_6) && (!clash (tld t14_8) (.no) && (!clash (tld t14_8) (tld a0) && true))) <| nb (ld none true t14_8) fun t15_9 =>
 guardM (!clash (tst a1) (tld t14_8) && (!clash (tst a1) (.no) && (!clash (tst a1) (tld t12_6) && (!clash (tst a1) (.no) && true)))) <| M.bind (noPan (st 4 true a1 t11_5)) fun _ =>
 guardM (!clash (tst a2) (tld t14_8) && (!clash (tst a2) (.no) && true)) <| M.bind (noPan (st 1 true a2 t13_7)) fun _ =>
 M.bind (noPan (st 1 true a3 t15_9)) fun _ =>
 M.pure (.tup []))
 (M.pure (.tup [])))) := by
 rw [CD, u9u]; kernel_rfl
noncomputable def u6a (v0 v2 : PV) : M PV := atP P X u1y [1, 1] (mkEnv 30 0 [(0, v0), (2, v2)])
theorem u9s (v0 v2 : PV) : u6a v0 v2 =
 nb (nc P (strip v0)) fun t21_0 =>
 nb (fa 0 t21_0) fun t22_1 =>
 nb (ld none false t22_1) fun t23_2 =>
 nb (nc P (strip v0)) fun t25_3 =>
 nb (fa 1 t25_3) fun t26_4 =>
 nb (ld none false t26_4) fun t27_5 =>
 nb (iaS 1 t23_2 t27_5) fun t28_6 =>
 nb (ld none true t28_6) fun t29_7 =>
 resT t29_7 (M.pure t29_7) :=
 (u0k P X _ _ _).trans (by kernel_rfl)
theorem uca (a0 : PV) : C u1y [a0] =
 trunc (nb (nc P (strip a0)) fun t4_0 =>
 nb (fa 1 t4_0) fun t5_1 =>
 nb (ld none false t5_1) fun t6_2 =>
 nb (nc P (strip a0)) fun t8_3 =>
 nb (fa 0 t8_3) fun t9_4 =>
 nb (ld none false t9_4) fun t10_5 =>
 nb (lnL t10_5) fun t11_6 =>
 nb (bi .geq .none t6_2 t11_6) fun t12_7 =>
 condM t12_7
 (M.bind (nc P (strip a0)) fun t15_8 =>
 M.bind (fa 0 t15_8) fun t16_9 =>
 M.bind (ld none false t16_9) fun t17_10 =>
 M.bind (lnL t17_10) fun t18_11 =>
 M.bind (C u2b [(strip (strip a0)), (strip t18_11), (.int .i64 3)]) fun t19_12 =>
 u6a a0 (.int .u8 0))
 (u6a a0 (.int .u8 0))) := by
 rw [C, u03 _ _ rfl]; kernel_rfl
noncomputable def u47 (v2 v4 : PV) : M PV := atP P X u56 [1, 1, 1, 1, 1] (mkEnv 47 0 [(2, v2), (4, v4)])
theorem u93 (v2 v4 : PV) : u47 v2 v4 =
 resT v4 (M.pure v4) :=
 (u0k P X _ _ _).trans (by kernel_rfl)
theorem udi (a0 : PV) : C u56 [a0] =
 trunc (M.bind (nc P (strip a0)) fun t8_0 =>
 M.bind (fa 1 t8_0) fun t9_1 =>
 M.bind (ld none true t9_1) fun t10_2 =>
 M.bind (noPan (M.pure (strip a0))) fun t12_24 =>
 M.bind (noPan (nc P t12_24)) fun t13_25 =>
 M.bind (noPan (fa 0 t13_25)) fun t14_26 =>
 M.bind (noPan (M.pure (strip a0))) fun t16_27 =>
 M.bind (noPan (nc P t16_27)) fun t17_28 =>
 M.bind (noPan (fa 1 t17_28)) fun t18_29 =>
 M.bind (noPan (M.pure (strip a0))) fun t20_30 =>
 M.bind (noPan (nc P t20_30)) fun t21_31 =>
 M.bind (noPan (fa 0 t21_31)) fun t22_32 =>
 M.bind (noPan (ld none false t14_26)) fun t15_33 =>
 M.bind (noPan (ld none false t18_29)) fun t19_34 =>
 M.bind (noPan (ld none false t22_32)) fun t23_35 =>
 M.bind (noPan (lnL t23_35)) fun t24_36 =>
 M.bind (noPan (C ug9 [(strip t15_33), (strip t19_34), (strip t24_36)])) fun t25_37 =>
 M.bind (noPan (M.pure (strip t25_37))) fun t11_38 =>
 M.bind (noPan (ex 0 t11_38)) fun t26_39 =>
 M.bind (noPan (ex 1 (tupDrop 0 t11_38))) fun t27_40 =>
 M.bind (noPan (ex 2 (tupDrop 1 (tupDrop 0 t11_38)))) fun t28_41 =>
 M.bind (noPan (M.pure t26_39)) fun t4_42 =>
 M.bind (noPan (M.pure t27_40)) fun t5_43 =>
 M.bind (noPan (M.pure t28_41)) fun t6_44 =>
 M.bind (C u5s [(strip (strip a0)), (strip (strip t4_42)), (strip (strip t5_43)), (strip (strip t6_44))]) fun t33_45 =>
 M.bind (bi .lss .none (strip t33_45) (.int .i64 0)) fun t36_46 =>
 condM t36_46
 (M.bind (C u2b [(strip (strip a0)), (strip (strip t10_2)), (.int .i64 4)]) fun t39_47 =>
 u47 (.int .i64 0) t33_45)
 (M.bind (bi .gtr .none (strip t33_45) (.int .i64 2147483647)) fun t42_48 =>
 condM t42_48
 (M.bind (C u2b [(strip (strip a0)), (strip (strip t10_2)), (.int .i64 2)]) fun t45_49 =>
 u47 (.int .i64 0) t33_45)
 (u47 (.int .i64 0) t33_45))) := by
 rw [C, u03 _ _ rfl]; kernel_rfl
theorem ur8 (a0 : PV) : C ue3 [a0] =
 trunc (M.bind (bx 3 a0) fun t1_0 =>
 M.bind (ld (some 3) false t1_0) fun t5_1 =>
 M.bind (C u2a [(strip t5_1), (.int .i64 32)]) fun t6_2 =>
 M.bind (ex 0 t6_2) fun t7_3 =>
 M.bind (ex 1 (tupDrop 0 t6_2)) fun t8_4 =>
 M.bind (ex 2 (tupDrop 1 (tupDrop 0 t6_2))) fun t9_5 =>
 resT t7_3 (resT t8_4 (resT t9_5 (M.pure (.tup [t7_3, t8_4, t9_5]))))) := by
 rw [C, u03 _ _ rfl]; kernel_rfl
theorem u8p (a0 a1 a2 a3 : PV) : CD none u52 [a0, a1, a2, a3] =
 noPan (trunc (M.bind (M.pure .niliface) fun t6_0 =>
 M.bind (bi .neq .iface (strip t6_0) .niliface) fun t8_1 =>
 condM t8_1
 (M.bind (ta u4j (.agg [(.int .i64 0), (.int .i64 0)]) false (strip t6_0)) fun t10_2 =>
 M.bind (al [(.int .i64 0), (.int .i64 0)]) fun t5_3 =>
 M.bind (st 2 true t5_3 t10_2) fun _ =>
 nb (ld (some 3) true a0) fun t11_5 =>
 nb (fa 0 t5_3) fun t12_6 =>
 guardM (!clash (tld t12_6) (tld a0) && true) <| nb (ld none true t12_6) fun t13_7 =>
 nb (fa 1 t5_3) fun t14_8 =>
 guardM (!clash (tld t14_8) (tld t12_6) && (!clash (tld t14_8) (.no) && (!clash (tld t14_8) (tld a0) && true))) <| nb (ld none true t14_8) fun t15_9 =>
 guardM (!clash (tst a1) (tld t14_8) && (!clash (tst a1) (.no) && (!clash (tst a1) (tld t12_6) && (!clash (tst a1) (.no) && true)))) <| M.bind (noPan (st 3 true a1 t11_5)) fun _ =>
 guardM (!clash (tst a2) (tld t14_8) && (!clash (tst a2) (.no) && true)) <| M.bind (noPan (st 1 true a2 t13_7)) fun _ =>
 M.bind (noPan (st 1 true a3 t15_9)) fun _ =>
 M.pure (.tup []))
 (M.pure (.tup [])))) := by
 rw [CD, u9u]; kernel_rfl
theorem u8q (r : PV) (a0 a1 a2 a3 : PV) : CD (some r) u52 [a0, a1, a2, a3] =
 noPan (trunc (M.bind (M.pure r) fun t6_0 =>
 M.bind (bi .neq .iface (strip t6_0) .niliface) fun t8_1 =>
 condM t8_1
 (M.bind (ta u4j (.agg [(.int .i64 0), (.int .i64 0)]) false (strip t6_0)) fun t10_2 =>
 M.bind (al [(.int .i64 0), (.int .i64 0)]) fun t5_3 =>
 M.bind (st 2 true t5_3 t10_2) fun _ =>
 nb (ld (some 3) true a0) fun t11_5 =>
 nb (fa 0 t5_3) fun t12_6 =>
 guardM (!clash (tld t12_6) (tld a0) && true) <| nb (ld none true t12_6) fun t13_7 =>
 nb (fa 1 t5_3) fun t14_8 =>
 guardM (!clash (tld t14_8) (tld t12_6) && (!clash (tld t14_8) (.no) && (!clash (tld t14_8) (tld a0) && true))) <| nb (ld none true t14_8) fun t15_9 =>
 guardM (!clash (tst a1) (tld t14_8) && (!clash (tst a1) (.no) && (!clash (tst a1) (tld t12_6) && (!clash (tst a1) (.no) && true)))) <| M.bind (noPan (st 3 true a1 t11_5)) fun _ =>
 guardM (!clash (tst a2) (tld t14_8) && (!clash (tst a2) (.no) && true)) <| M.bind (noPan (st 1 true a2 t13_7)) fun _ =>
 M.bind (noPan (st 1 true a3 t15_9)) fun _ =>
 M.pure (.tup []))
 (M.pure (.tup [])))) := by
 rw [CD, u9u]; kernel_rfl
theorem uci (a0 a1 a2 : PV) : C u2b [a0, a1, a2] =
 trunc (M.bind (bd [(.int .i64 0), (.int .i64 0)] [(0, 1, (strip a1)), (1, 1, (strip a2))]) fun t8_0 =>
 M.bind (mi u4j t8_0) fun t9_1 =>
 M.bind (pn t9_1) fun _ =>
 M.pure (.tup [])) := by
 rw [C, u03 _ _ rfl]; kernel_rfl
noncomputable def u4n (v0 v2 v3 : PV) : M PV := atP P X u6f [1, 1, 1, 1] (mkEnv 44 0 [(0, v0), (2, v2), (3, v3)])
theorem u70 (v0 v2 v3 : PV) : u4n v0 v2 v3 =
 M.bind (nc P (strip v0)) fun t33_0 =>
 M.bind (fa 1 t33_0) fun t34_1 =>
 M.bind (ld none false t34_1) fun t35_2 =>
 M.bind (bi .add .none t35_2 (.int .i64 1)) fun t36_3 =>
 M.bind (nc P (strip v0)) fun t37_4 =>
 M.bind (fa 1 t37_4) fun t38_5 =>
 M.bind (st 1 true t38_5 t36_3) fun _ =>
 M.bind (bi .eql .none (strip v3) (.int .u8 99)) fun t40_7 =>
 M.bind (C u3t [(strip (strip v0))]) fun t42_8 =>
 M.bind (bd [(.int .i64 0), (.bool false), (.int .i64 0)] [(0, 1, (.int .i64 5)), (1, 1, t40_7), (2, 1, t42_8)]) fun t43_9 =>
 M.bind (st 3 true v2 t43_9) fun _ =>
 M.bind (ld (some 3) true v2) fun t0_11 => guardM (!isTup t0_11) (M.pure t0_11) :=
 (u0k P X _ _ _).trans (by kernel_rfl)
theorem ucv (a0 : PV) : C u6f [a0] =
 trunc (M.bind (al [(.int .i64 0), (.bool false), (.int .i64 0)]) fun t2_0 =>
 M.bind (C u1y [(strip (strip a0))]) fun t6_1 =>
 M.bind (C u8o [(strip (strip t6_1))]) fun t8_2 =>
 M.bind (bi .neq .none (strip t8_2) (.int .i64 0)) fun t10_3 =>
 condM t10_3
 (M.bind (nc P (strip a0)) fun t12_4 =>
 M.bind (fa 1 t12_4) fun t13_5 =>
 M.bind (ld none false t13_5) fun t14_6 =>
 M.bind (bi .add .none t14_6 (.int .i64 1)) fun t15_7 =>
 M.bind (nc P (strip a0)) fun t16_8 =>
 M.bind (fa 1 t16_8) fun t17_9 =>
 M.bind (st 1 true t17_9 t15_7) fun _ =>
 M.bind (bd [(.int .i64 0), (.bool false), (.int .i64 0)] [(0, 1, (.int .i64 5)), (1, 1, (.bool true)), (2, 1, (strip t8_2))]) fun t19_11 =>
 M.bind (st 3 true t2_0 t19_11) fun _ =>
 M.bind (ld (some 3) true t2_0) fun t0_13 => guardM (!isTup t0_13) (M.pure t0_13))
 (M.bind (bi .neq .none (strip t6_1) (.int .u8 99)) fun t21_14 =>
 M.bind (gd (strip t21_14) true (M.pure (strip t6_1))) fun t23_15 =>
 M.bind (gd (strip t21_14) true (bi .neq .none t23_15 (.int .u8 100))) fun t24_16 =>
 M.bind (pick (strip t21_14) t24_16 (.bool false)) fun t25_17 =>
 condM t25_17
 (M.bind (nc P (strip a0)) fun t28_18 =>
 M.bind (fa 1 t28_18) fun t29_19 =>
 M.bind (ld none false t29_19) fun t30_20 =>
 M.bind (C u2b [(strip (strip a0)), (strip t30_20), (.int .i64 4)]) fun t31_21 =>
 u4n a0 t2_0 t6_1)
 (u4n a0 t2_0 t6_1))) := by
 rw [C, u03 _ _ rfl]; kernel_rfl
theorem ujt (a0 a1 a2 : PV) : C u6q [a0, a1, a2] =
 trunc (M.bind (al [(.slice false true 0 []), (.int .i64 0), (.int .i64 0)]) fun t6_0 =>
 M.bind (bi .lss .none (strip a1) (.int .i64 0)) fun t9_1 =>
 M.bind (gd (strip t9_1) false (M.pure (strip a2))) fun t11_2 =>
 M.bind (gd (strip t9_1) false (M.pure (strip a0))) fun t12_3 =>
 M.bind (gd (strip t9_1) false (lnL t12_3)) fun t13_4 =>
 M.bind (gd (strip t9_1) false (bi .gtr .none t11_2 t13_4)) fun t14_5 =>
 M.bind (pick (strip t9_1) (.bool true) t14_5) fun t15_6 =>
 M.bind (gd (strip t15_6) false (M.pure (strip a1))) fun t17_7 =>
 M.bind (gd (strip t15_6) false (M.pure (strip a2))) fun t18_8 =>
 M.bind (gd (strip t15_6) false (bi .gtr .none t17_7 t18_8)) fun t19_9 =>
 M.bind (pick (strip t15_6) (.bool true) t19_9) fun t20_10 =>
 condM t20_10
 (M.bind (bd [(.slice false true 0 []), (.int .i64 0), (.int .i64 0)] []) fun t21_11 =>
 M.bind (st 3 true t6_0 t21_11) fun _ =>
 M.bind (ld (some 3) true t6_0) fun t0_13 => guardM (!isTup t0_13) (M.pure (.tup [t0_13, (.int .i64 1)])))
 (M.bind (bd [(.slice false true 0 []), (.int .i64 0), (.int .i64 0)] [(0, 1, (strip a0)), (1, 1, (strip a1)), (2, 1, (strip a2))]) fun t25_14 =>
 M.bind (st 3 true t6_0 t25_14) fun _ =>
 M.bind (ld (some 3) true t6_0) fun t0_16 => guardM (!isTup t0_16) (M.pure (.tup [t0_16, (.int .i64 0)])))) := by
 rw [C, u03 _ _ rfl]; kernel_rfl
noncomputable def u1h (v1 v2 v4 v5 v6 v7 v8 v9 : PV) : M PV := atP P X u2a [1, 1, 1, 0] (mkEnv 53 0 [(1, v1), (2, v2), (4, v4), (5, v5), (6, v6), (7, v7), (8, v8), (9, v9)])
theorem u8a (v1 v2 v4 v5 v6 v7 v8 v9 : PV) : u1h v1 v2 v4 v5 v6 v7 v8 v9 =
 M.bind (fa 2 v2) fun t17_0 =>
 M.bind (ld none false t17_0) fun t18_1 =>
 M.bind (bi .geq .none (strip v9) t18_1) fun t19_2 =>
 condM t19_2
 (nb (fa 2 v2) fun t20_3 =>
 nb (ld none true t20_3) fun t21_4 =>
 resT t21_4 (M.pure (.tup [(.int .u64 0), t21_4, (.int .i64 3)])))
 (M.bind (fa 0 v2) fun t22_5 =>
 M.bind (ld none false t22_5) fun t23_6 =>
 M.bind (iaS 1 t23_6 (strip v9)) fun t25_7 =>
 M.bind (ld none true t25_7) fun t26_8 =>
 M.bind (bi .sub .none (strip v1) (strip v8)) fun t29_9 =>
 M.bind (bi .lss .none (strip t29_9) (.int .i64 7)) fun t31_10 =>
 M.bind (gd (strip t31_10) true (M.pure (strip t26_8))) fun t33_11 =>
 M.bind (gd (strip t31_10) true (M.pure (strip t29_9))) fun t34_12 =>
 M.bind (gd (strip t31_10) true (bi .shr .none t33_11 t34_12)) fun t35_13 =>
 M.bind (gd (strip t31_10) true (bi .neq .none t35_13 (.int .u8 0))) fun t36_14 =>
 M.bind (pick (strip t31_10) t36_14 (.bool false)) fun t37_15 =>
 condM t37_15
 (resT v9 (M.pure (.tup [(.int .u64 0), v9, (.int .i64 4)])))
 (M.bind (bi .and .none (strip t26_8) (.int .u8 127)) fun t41_16 =>
 M.bind (cv (.int .u64) true t41_16) fun t42_17 =>
 M.bind (bi .shl .none t42_17 (strip v8)) fun t44_18 =>
 M.bind (bi .or .none (strip v7) t44_18) fun t45_19 =>
 M.bind (bi .lss .none (strip t26_8) (.int .u8 128)) fun t47_20 =>
 condM t47_20
 (M.bind (bi .add .none (strip v9) (.int .i64 1)) fun t50_21 =>
 resT t45_19 (resT t50_21 (M.pure (.tup [t45_19, t50_21, (.int .i64 0)]))))
 (M.bind (bi .add .none (strip v8) (.int .i64 7)) fun t52_22 =>
 M.bind (bi .add .none (strip v9) (.int .i64 1)) fun t15_23 =>
 u1h v1 v2 v4 v5 v6 t45_19 t52_22 t15_23))) :=
 (u0k P X _ _ _).trans (by kernel_rfl)
theorem uao (a0 a1 : PV) : C u2a [a0, a1] =
 trunc (M.bind (bx 3 a0) fun t2_0 =>
 M.bind (fa 1 t2_0) fun t12_1 =>
 M.bind (ld none true t12_1) fun t13_2 =>
 u1h a1 t2_0 (.int .u64 0) (.int .i64 0) (.int .i64 0) (.int .u64 0) (.int .i64 0) t13_2) := by
 rw [C, u03 _ _ rfl]; kernel_rfl
noncomputable def u1a (v1 v2 v4 v5 v6 v7 v8 v9 : PV) : M PV := atP P X u18 [1, 1, 1, 0] (mkEnv 74 0 [(1, v1), (2, v2), (4, v4), (5, v5), (6, v6), (7, v7), (8, v8), (9, v9)])
noncomputable def u2q (v1 v2 v4 v5 v6 v7 v8 v9 v10 : PV) : M PV := atP P X u18 [1, 1, 1, 0, 0, 0, 0, 1, 1, 1] (mkEnv 74 0 [(1, v1), (2, v2), (4, v4), (5, v5), (6, v6), (7, v7), (8, v8), (9, v9), (10, v10)])
noncomputable def u2x (v1 v2 v4 v5 v6 v7 v8 v9 : PV) : M PV := atP P X u18 [1, 1, 1, 0, 0, 0, 0, 1, 1, 1, 1, 1, 1, 0, 1] (mkEnv 74 0 [(1, v1), (2, v2), (4, v4), (5, v5), (6, v6), (7, v7), (8, v8), (9, v9)])
theorem u8y (v1 v2 v4 v5 v6 v7 v8 v9 : PV) : u1a v1 v2 v4 v5 v6 v7 v8 v9 =
 M.bind (fa 2 v2) fun t18_0 =>
 M.bind (ld none false t18_0) fun t19_1 =>
 M.bind (bi .geq .none (strip v9) t19_1) fun t20_2 =>
 condM t20_2
 (nb (fa 2 v2) fun t21_3 =>
 nb (ld none true t21_3) fun t22_4 =>
 resT t22_4 (M.pure (.tup [(.int .i64 0), t22_4, (.int .i64 3)])))
 (M.bind (fa 0 v2) fun t23_5 =>
 M.bind (ld none false t23_5) fun t24_6 =>
 M.bind (iaS 1 t24_6 (strip v9)) fun t26_7 =>
 M.bind (ld none true t26_7) fun t27_8 =>
 M.bind (bi .sub .none (strip v1) (strip v8)) fun t30_9 =>
 M.bind (bi .lss .none (strip t30_9) (.int .i64 7)) fun t32_10 =>
 condM t32_10
 (M.bind (bi .shl .none (strip t27_8) (.int .u64 1)) fun t34_11 =>
 M.bind (cv (.int .i8) true t34_11) fun t35_12 =>
 M.bind (bi .shr .none t35_12 (strip t30_9)) fun t37_13 =>
 M.bind (bi .geq .none (strip t27_8) (.int .u8 128)) fun t39_14 =>
 M.bind (gd (strip t39_14) false (M.pure (strip t37_13))) fun t41_15 =>
 M.bind (gd (strip t39_14) false (bi .neq .none t41_15 (.int .i8 0))) fun t42_16 =>
 M.bind (gd (strip t39_14) false (M.pure (strip t42_16))) fun t43_17 =>
 M.bind (gd t43_17 true (M.pure (strip t37_13))) fun t44_18 =>
 M.bind (gd t43_17 true (bi .neq .none t44_18 (.int .i8 (-1)))) fun t45_19 =>
 M.bind (gd (strip t39_14) false (pick t43_17 t45_19 (.bool false))) fun t46_20 =>
 M.bind (pick (strip t39_14) (.bool true) t46_20) fun t47_21 =>
 condM t47_21
 (resT v9 (M.pure (.tup [(.int .i64 0), v9, (.int .i64 4)])))
 (u2q v1 v2 v4 v5 v6 v7 v8 v9 t27_8))
 (u2q v1 v2 v4 v5 v6 v7 v8 v9 t27_8)) :=
 (u0k P X _ _ _).trans (by kernel_rfl)
theorem u7u (v1 v2 v4 v5 v6 v7 v8 v9 v10 : PV) : u2q v1 v2 v4 v5 v6 v7 v8 v9 v10 =
 M.bind (bi .and .none (strip v10) (.int .u8 127)) fun t51_0 =>
 M.bind (cv (.int .i64) true t51_0) fun t52_1 =>
 M.bind (bi .shl .none t52_1 (strip v8)) fun t54_2 =>
 M.bind (bi .or .none (strip v7) t54_2) fun t55_3 =>
 M.bind (bi .add .none (strip v8) (.int .i64 7)) fun t57_4 =>
 M.bind (bi .lss .none (strip v10) (.int .u8 128)) fun t59_5 =>
 condM t59_5
 (M.bind (bi .and .none (strip v10) (.int .u8 64)) fun t61_6 =>
 M.bind (bi .neq .none t61_6 (.int .u8 0)) fun t62_7 =>
 M.bind (gd (strip t62_7) true (M.pure (strip t57_4))) fun t64_8 =>
 M.bind (gd (strip t62_7) true (bi .lss .none t64_8 (.int .i64 64))) fun t65_9 =>
 M.bind (pick (strip t62_7) t65_9 (.bool false)) fun t66_10 =>
 condM t66_10
 (M.bind (bi .shl .none (.int .i64 (-1)) (strip t57_4)) fun t69_11 =>
 M.bind (bi .or .none (strip t55_3) t69_11) fun t70_12 =>
 u2x v1 v2 v4 v5 v6 t70_12 t57_4 v9)
 (u2x v1 v2 v4 v5 v6 t55_3 t57_4 v9))
 (M.bind (bi .add .none (strip v9) (.int .i64 1)) fun t16_13 =>
 u1a v1 v2 v4 v5 v6 t55_3 t57_4 t16_13) :=
 (u0k P X _ _ _).trans (by kernel_rfl)
theorem u6x (v1 v2 v4 v5 v6 v7 v8 v9 : PV) : u2x v1 v2 v4 v5 v6 v7 v8 v9 =
 M.bind (bi .add .none (strip v9) (.int .i64 1)) fun t73_0 =>
 resT v7 (resT t73_0 (M.pure (.tup [v7, t73_0, (.int .i64 0)]))) :=
 (u0k P X _ _ _).trans (by kernel_rfl)
theorem uce (a0 a1 : PV) : C u18 [a0, a1] =
 trunc (M.bind (bx 3 a0) fun t2_0 =>
 M.bind (fa 1 t2_0) fun t13_1 =>
 M.bind (ld none true t13_1) fun t14_2 =>
 u1a a1 t2_0 (.int .i64 0) (.int .i64 0) (.int .i64 0) (.int .i64 0) (.int .i64 0) t14_2) := by
 rw [C, u03 _ _ rfl]; kernel_rfl
noncomputable def u3x (v1 v2 v4 v5 v6 v7 v8 : PV) : M PV := atP P X u38 [1, 1, 1, 0, 1, 0] (mkEnv 41 0 [(1, v1), (2, v2), (4, v4), (5, v5), (6, v6), (7, v7), (8, v8)])
theorem u6g (v1 v2 v4 v5 v6 v7 v8 : PV) : u3x v1 v2 v4 v5 v6 v7 v8 =
 M.bind (bi .geq .none (strip v8) (.int .i64 0)) fun t21_0 =>
 condM t21_0
 (M.bind (bi .shl .none (strip v7) (.int .u64 8)) fun t25_1 =>
 M.bind (fa 0 v2) fun t26_2 =>
 M.bind (ld none false t26_2) fun t27_3 =>
 M.bind (fa 1 v2) fun t28_4 =>
 M.bind (ld none false t28_4) fun t29_5 =>
 M.bind (bi .add .none t29_5 (strip v8)) fun t31_6 =>
 M.bind (iaS 1 t27_3 t31_6) fun t32_7 =>
 M.bind (ld none false t32_7) fun t33_8 =>
 M.bind (cv (.int .u64) true t33_8) fun t34_9 =>
 M.bind (bi .or .none t25_1 t34_9) fun t35_10 =>
 M.bind (bi .sub .none (strip v8) (.int .i64 1)) fun t23_11 =>
 u3x v1 v2 v4 v5 v6 t35_10 t23_11)
 (nb (fa 1 v2) fun t37_12 =>
 nb (ld none false t37_12) fun t38_13 =>
 nb (bi .add .none t38_13 (strip v1)) fun t40_14 =>
 resT v7 (resT t40_14 (M.pure (.tup [v7, t40_14, (.int .i64 0)])))) :=
 (u0k P X _ _ _).trans (by kernel_rfl)
theorem ud2 (a0 a1 : PV) : C u38 [a0, a1] =
 trunc (M.bind (bx 3 a0) fun t2_0 =>
 M.bind (fa 2 t2_0) fun t9_1 =>
 M.bind (ld none false t9_1) fun t10_2 =>
 M.bind (fa 1 t2_0) fun t11_3 =>
 M.bind (ld none false t11_3) fun t12_4 =>
 M.bind (bi .sub .none t10_2 t12_4) fun t13_5 =>
 M.bind (bi .lss .none t13_5 (strip a1)) fun t15_6 =>
 condM t15_6
 (nb (fa 2 t2_0) fun t16_7 =>
 nb (ld none true t16_7) fun t17_8 =>
 resT t17_8 (M.pure (.tup [(.int .u64 0), t17_8, (.int .i64 3)])))
 (M.bind (bi .sub .none (strip a1) (.int .i64 1)) fun t19_9 =>
 u3x a1 t2_0 (.int .u64 0) (.int .i64 0) (.int .i64 0) (.int .u64 0) t19_9)) := by
 rw [C, u03 _ _ rfl]; kernel_rfl
theorem uei (a0 a1 a2 : PV) : C u7h [a0, a1, a2] =
 trunc (M.bind (al [(.int .i64 0)]) fun t6_0 =>
 M.bind (al [(.int .i64 0)]) fun t7_1 =>
 M.bind (al [(.int .i64 0)]) fun t8_2 =>
 M.bind (al [(.int .i64 0)]) fun t9_3 =>
 M.bind (bi .lss .none (strip a1) (.int .i64 0)) fun t12_4 =>
 M.bind (gd (strip t12_4) false (M.pure (strip a1))) fun t14_5 =>
 M.bind (gd (strip t12_4) false (M.pure (strip a0))) fun t15_6 =>
 M.bind (gd (strip t12_4) false (lnL t15_6)) fun t16_7 =>
 M.bind (gd (strip t12_4) false (bi .gtr .none t14_5 t16_7)) fun t17_8 =>
 M.bind (pick (strip t12_4) (.bool true) t17_8) fun t18_9 =>
 condM t18_9
 (M.bind (ld none true t9_3) fun t19_10 =>
 M.bind (st 1 true t6_0 t19_10) fun _ =>
 M.bind (st 1 false t7_1 (.int .i64 0)) fun _ =>
 M.bind (st 1 false t8_2 (.int .i64 1)) fun _ =>
 M.bind (ld none true t6_0) fun t0_14 => guardM (!isTup t0_14) (M.bind (ld none true t7_1) fun t0_15 => guardM (!isTup t0_15) (M.bind (ld none true t8_2) fun t0_16 => guardM (!isTup t0_16) (M.pure (.tup [t0_14, t0_15, t0_16])))))
 (M.bind (mf u7w [] [t9_3, t6_0, t7_1, t8_2]) fun t20_17 =>
 guardM (isPtr t6_0 && isPtr t7_1 && isPtr t8_2) <| deferM CD t20_17 []
 (M.bind (bd [(.slice false true 0 []), (.int .i64 0)] [(0, 1, (strip a0)), (1, 1, (strip a1))]) fun t23_18 =>
 M.bind (bx 2 t23_18) fun t24_19 =>
 M.bind (callV P C (strip a2) [(strip (strip t24_19))]) fun t27_20 =>
 M.bind (st 1 true t6_0 t27_20) fun _ =>
 chk
 (M.bind (noPan (M.pure (strip t24_19))) fun t29_30 =>
 M.bind (noPan (nc P t29_30)) fun t30_31 =>
 M.bind (noPan (fa 1 t30_31)) fun t31_32 =>
 M.bind (noPan (ld none true t6_0)) fun t28_33 =>
 M.bind (noPan (st 1 true t6_0 t28_33)) fun _ =>
 M.bind (noPan (ld none true t31_32)) fun t32_35 =>
 M.bind (noPan (st 1 true t7_1 t32_35)) fun _ =>
 M.bind (noPan (st 1 false t8_2 (.int .i64 0))) fun _ =>
 M.pure [a0, a1, a2, .undef, .undef, .undef, t6_0, t7_1, t8_2, t9_3, t24_19, (strip a1), t12_4, (strip t12_4), t14_5, t15_6, t16_7, t17_8, t18_9, .undef, t20_17, (strip a0), (strip a1), t23_18, (strip t24_19), (strip a2), (strip t24_19), (strip t27_20), (strip t28_33), t29_30, t30_31, t31_32, (strip t32_35)])
 (M.bind (noPan (M.pure (strip t24_19))) fun t29_22 =>
 M.bind (noPan (nc P t29_22)) fun t30_23 =>
 M.bind (noPan (fa 1 t30_23)) fun t31_24 =>
 M.bind (noPan (ld none true t6_0)) fun t28_25 =>
 M.bind (noPan (ld none true t31_24)) fun t32_26 =>
 M.bind (noPan (st 1 true t6_0 t28_25)) fun _ =>
 M.bind (noPan (st 1 true t7_1 t32_26)) fun _ =>
 M.bind (noPan (st 1 false t8_2 (.int .i64 0))) fun _ =>
 M.pure [a0, a1, a2, .undef, .undef, .undef, t6_0, t7_1, t8_2, t9_3, t24_19, (strip a1), t12_4, (strip t12_4), t14_5, t15_6, t16_7, t17_8, t18_9, .undef, t20_17, (strip a0), (strip a1), t23_18, (strip t24_19), (strip a2), (strip t24_19), (strip t27_20), (strip t28_25), t29_22, t30_23, t31_24, (strip t32_26)]) <|
 chk
 (M.bind (noPan (M.pure (strip t24_19))) fun t29_38 =>
 M.bind (noPan (nc P t29_38)) fun t30_39 =>
 M.bind (noPan (fa 1 t30_39)) fun t31_40 =>
 M.bind (noPan (ld none true t31_40)) fun t32_41 =>
 M.bind (noPan (ld none true t6_0)) fun t28_42 =>
 M.bind (noPan (st 1 true t6_0 t28_42)) fun _ =>
 M.bind (noPan (st 1 true t7_1 t32_41)) fun _ =>
 M.bind (noPan (st 1 false t8_2 (.int .i64 0))) fun _ =>
 M.pure [a0, a1, a2, .undef, .undef, .undef, t6_0, t7_1, t8_2, t9_3, t24_19, (strip a1), t12_4, (strip t12_4), t14_5, t15_6, t16_7, t17_8, t18_9, .undef, t20_17, (strip a0), (strip a1), t23_18, (strip t24_19), (strip a2), (strip t24_19), (strip t27_20), (strip t28_42), t29_38, t30_39, t31_40, (strip t32_41)])
 (M.bind (noPan (M.pure (strip t24_19))) fun t29_22 =>
 M.bind (noPan (nc P t29_22)) fun t30_23 =>
 M.bind (noPan (fa 1 t30_23)) fun t31_24 =>
 M.bind (noPan (ld none true t6_0)) fun t28_25 =>
 M.bind (noPan (ld none true t31_24)) fun t32_26 =>
 M.bind (noPan (st 1 true t6_0 t28_25)) fun _ =>
 M.bind (noPan (st 1 true t7_1 t32_26)) fun _ =>
 M.bind (noPan (st 1 false t8_2 (.int .i64 0))) fun _ =>
 M.pure [a0, a1, a2, .undef, .undef, .undef, t6_0, t7_1, t8_2, t9_3, t24_19, (strip a1), t12_4, (strip t12_4), t14_5, t15_6, t16_7, t17_8, t18_9, .undef, t20_17, (strip a0), (strip a1), t23_18, (strip t24_19), (strip a2), (strip t24_19), (strip t27_20), (strip t28_25), t29_22, t30_23, t31_24, (strip t32_26)]) <|
 M.bind (noPan (M.pure (strip t24_19))) fun t29_46 =>
 M.bind (noPan (nc P t29_46)) fun t30_47 =>
 M.bind (noPan (fa 1 t30_47)) fun t31_48 =>
 M.bind (noPan (ld none true t6_0)) fun t28_49 =>
 M.bind (noPan (ld none true t31_48)) fun t32_50 =>
 M.bind (noPan (st 1 true t6_0 t28_49)) fun _ =>
 M.bind (noPan (st 1 true t7_1 t32_50)) fun _ =>
 M.bind (noPan (st 1 false t8_2 (.int .i64 0))) fun _ =>
 M.bind (ld none true t6_0) fun t0_54 => guardM (!isTup t0_54) (M.bind (ld none true t7_1) fun t0_55 => guardM (!isTup t0_55) (M.bind (ld none true t8_2) fun t0_56 => guardM (!isTup t0_56) (M.pure (.tup [t0_54, t0_55, t0_56])))))
 (M.bind (ld none true t6_0) fun t0_57 => guardM (!isTup t0_57) (M.bind (ld none true t7_1) fun t0_58 => guardM (!isTup t0_58) (M.bind (ld none true t8_2) fun t0_59 => guardM (!isTup t0_59) (M.pure (.tup [t0_57, t0_58, t0_59]))))))) := by
 rw [C, u03 _ _ rfl]; kernel_rfl
theorem uc3 (a0 : PV) : C u3t [a0] =
 trunc (M.bind (C u1y [(strip (strip a0))]) fun t5_0 =>
 M.bind (C u8o [(strip t5_0)]) fun t6_1 =>
 M.bind (bi .neq .none (strip t6_1) (.int .i64 0)) fun t8_2 =>
 condM t8_2
 (M.bind (nc P (strip a0)) fun t10_3 =>
 M.bind (fa 1 t10_3) fun t11_4 =>
 M.bind (ld none false t11_4) fun t12_5 =>
 M.bind (bi .add .none t12_5 (.int .i64 1)) fun t13_6 =>
 M.bind (nc P (strip a0)) fun t14_7 =>
 M.bind (fa 1 t14_7) fun t15_8 =>
 M.bind (st 1 true t15_8 t13_6) fun _ =>
 resT t6_1 (M.pure t6_1))
 (M.bind (C u56 [(strip (strip a0))]) fun t18_10 =>
 resT t18_10 (M.pure t18_10))) := by
 rw [C, u03 _ _ rfl]; kernel_rfl
theorem u6h (a0 : PV) : C u1r [a0] =
 trunc (nb (nc P (strip a0)) fun t5_0 =>
 nb (fa 3 t5_0) fun t6_1 =>
 nb (ld none false t6_1) fun t7_2 =>
 nb (bi .neq .none t7_2 (.int .i64 0)) fun t8_3 =>
 nb (gd (strip t8_3) false (M.pure (strip a0))) fun t10_4 =>
 nb (gd (strip t8_3) false (nc P t10_4)) fun t11_5 =>
 nb (gd (strip t8_3) false (fa 1 t11_5)) fun t12_6 =>
 nb (gd (strip t8_3) false (ld none false t12_6)) fun t13_7 =>
 nb (gd (strip t8_3) false (M.pure (strip a0))) fun t14_8 =>
 nb (gd (strip t8_3) false (nc P t14_8)) fun t15_9 =>
 nb (gd (strip t8_3) false (fa 0 t15_9)) fun t16_10 =>
 nb (gd (strip t8_3) false (ld none false t16_10)) fun t17_11 =>
 nb (gd (strip t8_3) false (lnL t17_11)) fun t18_12 =>
 nb (gd (strip t8_3) false (bi .geq .none t13_7 t18_12)) fun t19_13 =>
 nb (pick (strip t8_3) (.bool true) t19_13) fun t20_14 =>
 condM t20_14
 (M.pure (.tup [(.int .u8 0), (.bool false)]))
 (nb (nc P (strip a0)) fun t22_15 =>
 nb (fa 0 t22_15) fun t23_16 =>
 nb (ld none false t23_16) fun t24_17 =>
 nb (nc P (strip a0)) fun t26_18 =>
 nb (fa 1 t26_18) fun t27_19 =>
 nb (ld none false t27_19) fun t28_20 =>
 nb (iaS 1 t24_17 t28_20) fun t29_21 =>
 nb (ld none true t29_21) fun t30_22 =>
 resT t30_22 (M.pure (.tup [t30_22, (.bool true)])))) := by
 rw [C, u03 _ _ rfl]; kernel_rfl
noncomputable def u15 (v0 v6 v9 : PV) : M PV := atP P X u11 [1, 1, 1, 1, 1, 1, 1, 1] (mkEnv 108 0 [(0, v0), (6, v6), (9, v9)])
theorem u1l (v0 v6 v9 : PV) : u15 v0 v6 v9 =
 M.bind (nc P (strip v0)) fun t100_0 =>
 M.bind (fa 1 t100_0) fun t101_1 =>
 M.bind (ld none false t101_1) fun t102_2 =>
 M.bind (bi .add .none t102_2 (.int .i64 1)) fun t103_3 =>
 M.bind (nc P (strip v0)) fun t104_4 =>
 M.bind (fa 1 t104_4) fun t105_5 =>
 M.bind (st 1 true t105_5 t103_3) fun _ =>
 M.bind (bd [(.int .i64 0), (.bool false), (.int .i64 0)] [(0, 1, (strip v9))]) fun t107_7 =>
 M.bind (st 3 true v6 t107_7) fun _ =>
 M.bind (ld (some 3) true v6) fun t0_9 => guardM (!isTup t0_9) (M.pure t0_9) :=
 (u0k P X _ _ _).trans (by kernel_rfl)
theorem u96 (a0 a1 a2 : PV) : C u11 [a0, a1, a2] =
 trunc (M.bind (al [(.int .i64 0), (.bool false), (.int .i64 0)]) fun t6_0 =>
 M.bind (C u1r [(strip (strip a0))]) fun t12_1 =>
 M.bind (ex 0 (strip t12_1)) fun t13_2 =>
 M.bind (ex 1 (tupDrop 0 (strip t12_1))) fun t14_3 =>
 M.bind (un .not (strip t14_3)) fun t16_4 =>
 condM t16_4
 (M.bind (nc P (strip a0)) fun t19_5 =>
 M.bind (fa 0 t19_5) fun t20_6 =>
 M.bind (ld none false t20_6) fun t21_7 =>
 M.bind (lnL t21_7) fun t22_8 =>
 M.bind (C u06 [(strip (strip a0)), (strip t22_8), (.int .i64 3)]) fun t23_9 =>
 M.bind (bd [(.int .i64 0), (.bool false), (.int .i64 0)] []) fun t24_10 =>
 M.bind (st 3 true t6_0 t24_10) fun _ =>
 M.bind (ld (some 3) true t6_0) fun t0_12 => guardM (!isTup t0_12) (M.pure t0_12))
 (M.bind (bi .eql .none (strip t13_2) (.int .u8 99)) fun t26_13 =>
 M.bind (gd (strip t26_13) false (M.pure (strip t13_2))) fun t28_14 =>
 M.bind (gd (strip t26_13) false (bi .eql .none t28_14 (.int .u8 100))) fun t29_15 =>
 M.bind (pick (strip t26_13) (.bool true) t29_15) fun t30_16 =>
 condM t30_16
 (M.bind (nc P (strip a0)) fun t32_17 =>
 M.bind (fa 1 t32_17) fun t33_18 =>
 M.bind (ld none false t33_18) fun t34_19 =>
 M.bind (bi .add .none t34_19 (.int .i64 1)) fun t35_20 =>
 M.bind (nc P (strip a0)) fun t36_21 =>
 M.bind (fa 1 t36_21) fun t37_22 =>
 M.bind (st 1 true t37_22 t35_20) fun _ =>
 M.bind (bi .eql .none (strip t13_2) (.int .u8 99)) fun t39_24 =>
 M.bind (C u0q [(strip (strip a0))]) fun t41_25 =>
 M.bind (bd [(.int .i64 0), (.bool false), (.int .i64 0)] [(0, 1, (.int .i64 5)), (1, 1, t39_24), (2, 1, t41_25)]) fun t42_26 =>
 M.bind (st 3 true t6_0 t42_26) fun _ =>
 M.bind (ld (some 3) true t6_0) fun t0_28 => guardM (!isTup t0_28) (M.pure t0_28))
 (M.bind (C u2e [(strip (strip t13_2))]) fun t44_29 =>
 M.bind (bi .neq .none t44_29 (.int .i64 0)) fun t45_30 =>
 condM t45_30
 (M.bind (nc P (strip a0)) fun t47_31 =>
 M.bind (fa 1 t47_31) fun t48_32 =>
 M.bind (ld none false t48_32) fun t49_33 =>
 M.bind (bi .add .none t49_33 (.int .i64 1)) fun t50_34 =>
 M.bind (nc P (strip a0)) fun t51_35 =>
 M.bind (fa 1 t51_35) fun t52_36 =>
 M.bind (st 1 true t52_36 t50_34) fun _ =>
 M.bind (C u2e [(strip (strip t13_2))]) fun t54_38 =>
 M.bind (bd [(.int .i64 0), (.bool false), (.int .i64 0)] [(0, 1, (.int .i64 5)), (1, 1, (.bool true)), (2, 1, t54_38)]) fun t55_39 =>
 M.bind (st 3 true t6_0 t55_39) fun _ =>
 M.bind (ld (some 3) true t6_0) fun t0_41 => guardM (!isTup t0_41) (M.pure t0_41))
 (M.bind (gd (strip (strip a1)) true (M.pure (strip t13_2))) fun t58_42 =>
 M.bind (gd (strip (strip a1)) true (bi .eql .none t58_42 (.int .u8 123))) fun t59_43 =>
 M.bind (pick (strip (strip a1)) t59_43 (.bool false)) fun t60_44 =>
 condM t60_44
 (M.bind (nc P (strip a0)) fun t63_45 =>
 M.bind (fa 1 t63_45) fun t64_46 =>
 M.bind (ld none false t64_46) fun t65_47 =>
 M.bind (C u06 [(strip (strip a0)), (strip t65_47), (.int .i64 8)]) fun t66_48 =>
 M.bind (bd [(.int .i64 0), (.bool false), (.int .i64 0)] []) fun t67_49 =>
 M.bind (st 3 true t6_0 t67_49) fun _ =>
 M.bind (ld (some 3) true t6_0) fun t0_51 => guardM (!isTup t0_51) (M.pure t0_51))
 (M.bind (gd (strip (strip a1)) true (M.pure (strip t13_2))) fun t77_52 =>
 M.bind (gd (strip (strip a1)) true (bi .geq .none t77_52 (.int .u8 124))) fun t78_53 =>
 M.bind (pick (strip (strip a1)) t78_53 (.bool false)) fun t79_54 =>
 M.bind (gd (strip t79_54) true (M.pure (strip t13_2))) fun t81_55 =>
 M.bind (gd (strip t79_54) true (bi .leq .none t81_55 (.int .u8 127))) fun t82_56 =>
 M.bind (pick (strip t79_54) t82_56 (.bool false)) fun t83_57 =>
 condM t83_57
 (M.bind (cv (.int .i64) true (strip t13_2)) fun t85_58 =>
 M.bind (bi .sub .none (.int .i64 128) t85_58) fun t86_59 =>
 u15 a0 t6_0 t86_59)
 (M.bind (gd (strip (strip a2)) true (M.pure (strip t13_2))) fun t90_60 =>
 M.bind (gd (strip (strip a2)) true (bi .eql .none t90_60 (.int .u8 120))) fun t91_61 =>
 M.bind (pick (strip (strip a2)) t91_61 (.bool false)) fun t92_62 =>
 condM t92_62
 (u15 a0 t6_0 (.int .i64 6))
 (M.bind (gd (strip (strip a2)) true (M.pure (strip t13_2))) fun t96_63 =>
 M.bind (gd (strip (strip a2)) true (bi .eql .none t96_63 (.int .u8 119))) fun t97_64 =>
 M.bind (pick (strip (strip a2)) t97_64 (.bool false)) fun t98_65 =>
 condM t98_65
 (u15 a0 t6_0 (.int .i64 7))
 (M.bind (nc P (strip a0)) fun t70_66 =>
 M.bind (fa 1 t70_66) fun t71_67 =>
 M.bind (ld none false t71_67) fun t72_68 =>
 M.bind (C u06 [(strip (strip a0)), (strip t72_68), (.int .i64 4)]) fun t73_69 =>
 u15 a0 t6_0 (.int .i64 0))))))))) := by
 rw [C, u03 _ _ rfl]; kernel_rfl
theorem u5y (a0 a1 a2 : PV) : C u0z [a0, a1, a2] =
 trunc (M.bind (nc P (strip a0)) fun t11_0 =>
 M.bind (fa 3 t11_0) fun t12_1 =>
 M.bind (ld none false t12_1) fun t13_2 =>
 M.bind (bi .neq .none t13_2 (.int .i64 0)) fun t14_3 =>
 condM t14_3
 (M.pure (.int .u64 0))
 (M.bind (noPan (M.pure (strip a0))) fun t16_27 =>
 M.bind (noPan (nc P t16_27)) fun t17_28 =>
 M.bind (noPan (fa 0 t17_28)) fun t18_29 =>
 M.bind (noPan (M.pure (strip a0))) fun t20_30 =>
 M.bind (noPan (nc P t20_30)) fun t21_31 =>
 M.bind (noPan (fa 1 t21_31)) fun t22_32 =>
 M.bind (noPan (M.pure (strip a0))) fun t24_33 =>
 M.bind (noPan (nc P t24_33)) fun t25_34 =>
 M.bind (noPan (fa 0 t25_34)) fun t26_35 =>
 M.bind (noPan (M.pure (strip a1))) fun t29_36 =>
 M.bind (noPan (M.pure (strip a2))) fun t30_37 =>
 M.bind (noPan (ld none false t18_29)) fun t19_38 =>
 M.bind (noPan (ld none false t22_32)) fun t23_39 =>
 M.bind (noPan (ld none false t26_35)) fun t27_40 =>
 M.bind (noPan (lnL t27_40)) fun t28_41 =>
 M.bind (noPan (C u0e [(strip t19_38), (strip t23_39), (strip t28_41), (strip t29_36), (strip t30_37)])) fun t31_42 =>
 M.bind (noPan (M.pure (strip t31_42))) fun t15_43 =>
 M.bind (noPan (ex 0 t15_43)) fun t32_44 =>
 M.bind (noPan (ex 1 (tupDrop 0 t15_43))) fun t33_45 =>
 M.bind (noPan (ex 2 (tupDrop 1 (tupDrop 0 t15_43)))) fun t34_46 =>
 M.bind (noPan (M.pure t32_44)) fun t7_47 =>
 M.bind (noPan (M.pure t33_45)) fun t8_48 =>
 M.bind (noPan (M.pure t34_46)) fun t9_49 =>
 M.bind (bi .neq .none (strip t9_49) (.int .i64 0)) fun t36_50 =>
 condM t36_50
 (M.bind (C u06 [(strip (strip a0)), (strip (strip t8_48)), (strip (strip t9_49))]) fun t40_51 =>
 M.pure (.int .u64 0))
 (M.bind (nc P (strip a0)) fun t43_52 =>
 M.bind (fa 1 t43_52) fun t44_53 =>
 M.bind (st 1 true t44_53 t8_48) fun _ =>
 resT t7_47 (M.pure t7_47)))) := by
 rw [C, u03 _ _ rfl]; kernel_rfl
theorem u8v (a0 a1 a2 : PV) : C u06 [a0, a1, a2] =
 trunc (M.bind (nc P (strip a0)) fun t7_0 =>
 M.bind (fa 3 t7_0) fun t8_1 =>
 M.bind (ld none false t8_1) fun t9_2 =>
 M.bind (bi .eql .none t9_2 (.int .i64 0)) fun t10_3 =>
 condM t10_3
 (M.bind (nc P (strip a0)) fun t13_4 =>
 M.bind (fa 2 t13_4) fun t14_5 =>
 M.bind (st 1 true t14_5 a1) fun _ =>
 M.bind (nc P (strip a0)) fun t17_7 =>
 M.bind (fa 3 t17_7) fun t18_8 =>
 M.bind (st 1 true t18_8 a2) fun _ =>
 M.pure (.tup []))
 (M.pure (.tup []))) := by
 rw [C, u03 _ _ rfl]; kernel_rfl
theorem ua0 (a0 : PV) : C u2e [a0] =
 trunc (M.bind (bi .eql .none (strip a0) (.int .u8 115)) fun t5_0 =>
 condM t5_0
 (M.pure (.int .i64 (-2)))
 (M.bind (bi .eql .none (strip a0) (.int .u8 114)) fun t7_1 =>
 condM t7_1
 (M.pure (.int .i64 (-4)))
 (M.bind (bi .eql .none (strip a0) (.int .u8 113)) fun t9_2 =>
 condM t9_2
 (M.pure (.int .i64 (-10)))
 (M.bind (bi .eql .none (strip a0) (.int .u8 112)) fun t11_3 =>
 condM t11_3
 (M.pure (.int .i64 (-1)))
 (M.bind (bi .eql .none (strip a0) (.int .u8 111)) fun t13_4 =>
 condM t13_4
 (M.pure (.int .i64 (-3)))
 (M.bind (bi .eql .none (strip a0) (.int .u8 110)) fun t15_5 =>
 condM t15_5
 (M.pure (.int .i64 (-5)))
 (M.bind (bi .eql .none (strip a0) (.int .u8 109)) fun t17_6 =>
 condM t17_6
 (M.pure (.int .i64 (-6)))
 (M.bind (bi .eql .none (strip a0) (.int .u8 108)) fun t19_7 =>
 condM t19_7
 (M.pure (.int .i64 (-7)))
 (M.bind (bi .eql .none (strip a0) (.int .u8 107)) fun t21_8 =>
 condM t21_8
 (M.pure (.int .i64 (-8)))
 (M.bind (bi .eql .none (strip a0) (.int .u8 106)) fun t23_9 =>
 condM t23_9
 (M.pure (.int .i64 (-9)))
 (M.bind (bi .eql .none (strip a0) (.int .u8 105)) fun t25_10 =>
 condM t25_10
 (M.pure (.int .i64 (-11)))
 (M.bind (bi .eql .none (strip a0) (.int .u8 116)) fun t27_11 =>
 condM t27_11
 (M.pure (.int .i64 (-12)))
 (M.pure (.int .i64 0)))))))))))))) := by
 rw [C, u03 _ _ rfl]; kernel_rfl
theorem ure (a0 a1 a2 : PV) : C ug9 [a0, a1, a2] =
 trunc (M.bind (C u30 [(strip (strip a0)), (strip (strip a1)), (strip (strip a2)), (.fn udq [] [])]) fun t12_0 =>
 M.bind (ex 0 t12_0) fun t13_1 =>
 M.bind (ex 1 (tupDrop 0 t12_0)) fun t14_2 =>
 M.bind (ex 2 (tupDrop 1 (tupDrop 0 t12_0))) fun t15_3 =>
 resT t13_1 (resT t14_2 (resT t15_3 (M.pure (.tup [t13_1, t14_2, t15_3]))))) := by
 rw [C, u03 _ _ rfl]; kernel_rfl
noncomputable def u72 (v0 v1 v2 v8 : PV) : M PV := atP P X u5s [1, 1] (mkEnv 20 0 [(0, v0), (1, v1), (2, v2), (8, v8)])
theorem uae (v0 v1 v2 v8 : PV) : u72 v0 v1 v2 v8 =
 M.bind (nc P (strip v0)) fun t17_0 =>
 M.bind (fa 1 t17_0) fun t18_1 =>
 M.bind (st 1 true t18_1 v2) fun _ =>
 resT v1 (M.pure v1) :=
 (u0k P X _ _ _).trans (by kernel_rfl)
theorem u9i (a0 a1 a2 a3 : PV) : C u5s [a0, a1, a2, a3] =
 trunc (M.bind (bi .neq .none (strip a3) (.int .i64 0)) fun t10_0 =>
 condM t10_0
 (M.bind (C u2b [(strip (strip a0)), (strip (strip a2)), (strip (strip a3))]) fun t14_1 =>
 u72 a0 a1 a2 (.int .i64 0))
 (u72 a0 a1 a2 (.int .i64 0))) := by
 rw [C, u03 _ _ rfl]; kernel_rfl
theorem uia (a0 : PV) : C u8o [a0] =
 trunc (M.bind (bi .lss .none (strip a0) (.int .u8 105)) fun t4_0 =>
 M.bind (gd (strip t4_0) false (M.pure (strip a0))) fun t6_1 =>
 M.bind (gd (strip t4_0) false (bi .gtr .none t6_1 (.int .u8 116))) fun t7_2 =>
 M.bind (pick (strip t4_0) (.bool true) t7_2) fun t8_3 =>
 condM t8_3
 (M.pure (.int .i64 0))
 (M.bind (C u8h []) fun t9_4 =>
 M.bind (bi .sub .none (strip a0) (.int .u8 105)) fun t11_5 =>
 M.bind (ixA 12 1 none t9_4 t11_5) fun t12_6 =>
 resT t12_6 (M.pure t12_6))) := by
 rw [C, u03 _ _ rfl]; kernel_rfl
theorem uc5 (a0 a1 a2 a3 : PV) : CD none u7w [a0, a1, a2, a3] =
 noPan (trunc (M.bind (M.pure .niliface) fun t6_0 =>
 M.bind (bi .neq .iface (strip t6_0) .niliface) fun t8_1 =>
 condM t8_1
 (M.bind (ta u4j (.agg [(.int .i64 0), (.int .i64 0)]) false (strip t6_0)) fun t10_2 =>
 M.bind (al [(.int .i64 0), (.int .i64 0)]) fun t5_3 =>
 M.bind (st 2 true t5_3 t10_2) fun _ =>
 nb (ld none true a0) fun t11_5 =>
 nb (fa 0 t5_3) fun t12_6 =>
 guardM (!clash (tld t12_6) (tld a0) && true) <| nb (ld none true t12_6) fun t13_7 =>
 nb (fa 1 t5_3) fun t14_8 =>
 guardM (!clash (tld t14_8) (tld t12_6) && (!clash (tld t14_8) (.no) && (!clash (tld t14_8) (tld a0) && true))) <| nb (ld none true t14_8) fun t15_9 =>
 guardM (!clash (tst a1) (tld t14_8) && (!clash (tst a1) (.no) && (!clash (tst a1) (tld t12_6) && (!clash (tst a1) (.no) && true)))) <| M.bind (noPan (st 1 true a1 t11_5)) fun _ =>
 guardM (!clash (tst a2) (tld t14_8) && (!clash (tst a2) (.no) && true)) <| M.bind (noPan (st 1 true a2 t13_7)) fun _ =>
 M.bind (noPan (st 1 true a3 t15_9)) fun _ =>
 M.pure (.tup []))
 (M.pure (.tup [])))) := by
 rw [CD, u9u]; kernel_rfl
theorem uc7 (r : PV) (a0 a1 a2 a3 : PV) : CD (some r) u7w [a0, a1, a2, a3] =
 noPan (trunc (M.bind (M.pure r) fun t6_0 =>
 M.bind (bi .neq .iface (strip t6_0) .niliface) fun t8_1 =>
 condM t8_1
 (M.bind (ta u4j (.agg [(.int .i64 0), (.int .i64 0)]) false (strip t6_0)) fun t10_2 =>
 M.bind (al [(.int .i64 0), (.int .i64 0)]) fun t5_3 =>
 M.bind (st 2 true t5_3 t10_2) fun _ =>
 nb (ld none true a0) fun t11_5 =>
 nb (fa 0 t5_3) fun t12_6 =>
 guardM (!clash (tld t12_6) (tld a0) && true) <| nb (ld none true t12_6) fun t13_7 =>
 nb (fa 1 t5_3) fun t14_8 =>
 guardM (!clash (tld t14_8) (tld t12_6) && (!clash (tld t14_8) (.no) && (!clash (tld t14_8) (tld a0) && true))) <| nb (ld none true t14_8) fun t15_9 =>
 guardM (!clash (tst a1) (tld t14_8) && (!clash (tst a1) (.no) && (!clash (tst a1) (tld t12_6) && (!clash (tst a1) (.no) && true)))) <| M.bind (noPan (st 1 true a1 t11_5)) fun _ =>
 guardM (!clash (tst a2) (tld t14_8) && (!clash (tst a2) (.no) && true)) <| M.bind (noPan (st 1 true a2 t13_7)) fun _ =>
 M.bind (noPan (st 1 true a3 t15_9)) fun _ =>
 M.pure (.tup []))
 (M.pure (.tup [])))) := by
 rw [CD, u9u]; kernel_rfl
theorem urt (a0 : PV) : C udq [a0] =
 trunc (M.bind (bx 3 a0) fun t1_0 =>
 M.bind (ld (some 3) false t1_0) fun t5_1 =>
 M.bind (C u18 [(strip t5_1), (.int .i64 33)]) fun t6_2 =>
 M.bind (ex 0 t6_2) fun t7_3 =>
 M.bind (ex 1 (tupDrop 0 t6_2)) fun t8_4 =>
 M.bind (ex 2 (tupDrop 1 (tupDrop 0 t6_2))) fun t9_5 =>
 resT t7_3 (resT t8_4 (resT t9_5 (M.pure (.tup [t7_3, t8_4, t9_5]))))) := by
 rw [C, u03 _ _ rfl]; kernel_rfl
end Go.Proofs.YthidcpkcfoldmaaGreat.Pi.Q
namespace Go.Proofs.YthidcpkcfoldmaaGreat.Pi.Q
open Go Go.Proofs.YthidcpkcfoldmaaGreat.Pi
attribute [local congr] ite_congr
def retU : Rs Nat → PV
  | .ok n p => .tup [.int .u64 n, .int .i64 p, .int .i64 0]
  | .err p e => .tup [.int .u64 0, .int .i64 p, .int .i64 e]
theorem dig_lt {B s x : Nat} (hB : B ≤ 64) (hi : s < B) (hx : x < 2 ^ (B - s)) : x * 2 ^ s < 2 ^ 64 := by
  have h1 : (x + 1) * 2 ^ s ≤ 2 ^ (B - s) * 2 ^ s := Nat.mul_le_mul_right _ hx
  have h2 : 2 ^ (B - s) * 2 ^ s = 2 ^ B := by rw [← Nat.pow_add, Nat.sub_add_cancel (by omega)]
  have h3 : 2 ^ B ≤ 2 ^ 64 := Nat.pow_le_pow_right (by omega) hB
  have h4 := Nat.pow_pos (n := s) (show 0 < 2 by omega)
  rw [Nat.add_mul] at h1
  omega
theorem usg {H : Heap} {b : List UInt8} {z : Bool} {id a e B s n p : Nat} {x y w : PV} (hH : hget H id = some (.cells [BS z b, .int .i64 a, .int .i64 e]))
    (he : e ≤ b.length) (hb : b.length < 2 ^ 62) (hB : B ≤ 64) (hi : s < B) (hn : n < 2 ^ s) :
    run (u1h (.int .i64 B) (.ptr id 0) x y w (.int .u64 n) (.int .i64 s) (.int .i64 p)) H =
      if p < e then
        if B < s + 7 ∧ (b.getD p 0).toNat / 2 ^ (B - s) ≠ 0 then some (.ok (retU (.err p 4)) H)
        else if (b.getD p 0).toNat < 128 then some (.ok (retU (.ok (n + (b.getD p 0).toNat * 2 ^ s) (p + 1))) H)
        else run (u1h (.int .i64 B) (.ptr id 0) x y w (.int .u64 (n + (b.getD p 0).toNat % 128 * 2 ^ s : Nat)) (.int .i64 (s + 7 : Nat)) (.int .i64 (p + 1 : Nat))) H
      else some (.ok (retU (.err e 3)) H) := by
  have hid := get_lt hH
  have hset := u58 hH
  rw [u8a]
  by_cases hpe : p < e
  · have hpb : p < b.length := by omega
    have hg := ubh hpb
    have hgd : b.getD p 0 = b[p] := by simp [hpb]
    rw [hgd]
    generalize b[p] = c at hg hgd ⊢
    have hc := byt_lt c
    generalize hcn : c.toNat = cn at hc
    have s1 : (B : Int) - (s : Int) = ((B - s : Nat) : Int) := by omega
    simp +contextual -dsimp (disch := omega) only [↓goDown, goUp, cr, simprocAttr, hH, hg, byt, hcn, hset, s1, u8k, and127, u7j, ub4, run_or, Int.toNat_natCast]
    have c0 : ¬ (e : Int) ≤ p := by omega
    rw [if_neg c0, if_pos hpe]
    have key : cn % 128 < 2 ^ (B - s) → IntKind.u64.wrap ((BitVec.ofInt IntKind.u64.bits (n : Int) ||| BitVec.ofInt IntKind.u64.bits (IntKind.u64.wrap (((cn % 128 : Nat) : Int) * 2 ^ shiftN .u64 (s : Int)))).toNat : Int) = ((n + cn % 128 * 2 ^ s : Nat) : Int) :=
      fun h => (uk6 (by omega) hn (dig_lt hB hi h)).1
    have tail : cn % 128 < 2 ^ (B - s) → ∀ r, (if (cn : Int) < 128 then some (Out.ok (PV.tup [PV.int IntKind.u64 (IntKind.u64.wrap ((BitVec.ofInt IntKind.u64.bits (n : Int) ||| BitVec.ofInt IntKind.u64.bits (IntKind.u64.wrap (((cn % 128 : Nat) : Int) * 2 ^ shiftN .u64 (s : Int)))).toNat : Int)), PV.int IntKind.i64 (p + 1), PV.int IntKind.i64 0]) H) else r) =
        if cn < 128 then some (Out.ok (retU (Rs.ok (n + cn * 2 ^ s) (p + 1))) H) else r := by
      intro h r
      rw [key h]
      by_cases h1 : cn < 128
      · have c1 : (cn : Int) < 128 := by omega
        rw [if_pos h1, if_pos c1, Nat.mod_eq_of_lt h1]; rfl
      · have c1 : ¬ (cn : Int) < 128 := by omega
        rw [if_neg h1, if_neg c1]
    by_cases h7 : B - s < 7
    · have c1 : ((B - s : Nat) : Int) < 7 := by omega
      have c0 : B < s + 7 := by omega
      rw [if_pos c1, shr_u8 cn (s := B - s) (by omega)]
      by_cases hd : cn / 2 ^ (B - s) = 0
      · have hlt : cn < 2 ^ (B - s) := by
          rcases Nat.div_eq_zero_iff.mp hd with h | h
          · have := Nat.pow_pos (n := B - s) (show 0 < 2 by omega); omega
          · exact h
        have hlt2 : cn % 128 < 2 ^ (B - s) := Nat.lt_of_le_of_lt (Nat.mod_le _ _) hlt
        have c2 : ((cn / 2 ^ (B - s) : Nat) : Int) = 0 := by omega
        have c3 : ¬ (B < s + 7 ∧ ¬ cn / 2 ^ (B - s) = 0) := fun h => h.2 hd
        rw [if_pos c2, if_neg c3, tail hlt2, key hlt2]
        rfl
      · have c2 : ¬ ((cn / 2 ^ (B - s) : Nat) : Int) = 0 := by omega
        have c3 : B < s + 7 ∧ ¬ cn / 2 ^ (B - s) = 0 := ⟨c0, hd⟩
        rw [if_neg c2, if_pos c3]; rfl
    · have hlt2 : cn % 128 < 2 ^ (B - s) := by
        have : 2 ^ 7 ≤ 2 ^ (B - s) := Nat.pow_le_pow_right (by omega) (by omega)
        omega
      have c1 : ¬ ((B - s : Nat) : Int) < 7 := by omega
      have c3 : ¬ (B < s + 7 ∧ ¬ cn / 2 ^ (B - s) = 0) := by omega
      rw [if_neg c1, if_neg c3, tail hlt2, key hlt2]
      rfl
  · have c0 : (e : Int) ≤ p := by omega
    simp +contextual -dsimp (disch := omega) only [↓goDown, goUp, cr, simprocAttr, hH, hset, c0]
    rw [if_neg hpe]
    rfl
theorem uqu {H : Heap} {b : List UInt8} {z : Bool} {id a e B : Nat} {x y w : PV} (hH : hget H id = some (.cells [BS z b, .int .i64 a, .int .i64 e]))
    (he : e ≤ b.length) (hb : b.length < 2 ^ 62) (hB : B ≤ 64) (hB7 : B % 7 ≠ 0) : ∀ (f i n p : Nat), 7 * i < B → B ≤ 7 * (i + f) → n < 2 ^ (7 * i) →
    run (u1h (.int .i64 B) (.ptr id 0) x y w (.int .u64 n) (.int .i64 (7 * i : Nat)) (.int .i64 p)) H = some (.ok (retU (lebU b B e f i n p)) H)
  | 0, i, n, p, hi, hf, hn => by omega
  | f + 1, i, n, p, hi, hf, hn => by
    rw [usg hH he hb hB hi hn]
    unfold lebU
    by_cases h1 : p < e
    · simp only [if_pos h1]
      by_cases h2 : B < 7 * i + 7 ∧ (b.getD p 0).toNat / 2 ^ (B - 7 * i) ≠ 0
      · simp only [if_pos h2]
      · simp only [if_neg h2]
        by_cases h3 : (b.getD p 0).toNat < 128
        · simp only [if_pos h3]
        · simp only [if_neg h3]
          have h7 : ¬ B < 7 * i + 7 := by
            intro h
            refine h2 ⟨h, fun h0 => ?_⟩
            rcases Nat.div_eq_zero_iff.mp h0 with h | h'
            · have := Nat.pow_pos (n := B - 7 * i) (show 0 < 2 by omega); omega
            · have : 2 ^ (B - 7 * i) ≤ 2 ^ 6 := Nat.pow_le_pow_right (by omega) (by omega)
              omega
          by_cases h8 : 7 * (i + 1) < B
          · refine uqu hH he hb hB hB7 f (i + 1) _ (p + 1) h8 (by omega) ?_
            have h4 : 2 ^ (7 * (i + 1)) = 128 * 2 ^ (7 * i) := by rw [Nat.mul_add, Nat.pow_add, Nat.mul_comm]
            have h5 : (b.getD p 0).toNat % 128 * 2 ^ (7 * i) ≤ 127 * 2 ^ (7 * i) := Nat.mul_le_mul_right _ (by omega)
            omega
          · omega
    · simp only [if_neg h1]
def rdU (b : List UInt8) (B e p : Nat) : Rs Nat := lebU b B e 10 0 0 p
theorem ukb {H : Heap} {b : List UInt8} {z : Bool} {p e : Int} :
    run (C u6q [BS z b, .int .i64 p, .int .i64 e]) H = if p < 0 ∨ b.length < e ∨ e < p then some (.ok (.tup [.agg [.slice false true 0 [], .int .i64 0, .int .i64 0], .int .i64 1]) H)
      else some (.ok (.tup [.agg [BS z b, .int .i64 p, .int .i64 e], .int .i64 0]) H) := by
  rw [ujt]
  simp +contextual -dsimp (disch := omega) only [↓goDown, goUp, cr, simprocAttr, List.length_map]
  by_cases h1 : p < 0
  · simp [h1]
  · by_cases h2 : (b.length : Int) < e
    · simp [h1, h2]
    · by_cases h3 : e < p
      · simp [h1, h2, h3]
      · simp [h1, h2, h3]
theorem ubd {H : Heap} {b : List UInt8} {z : Bool} {p e B : Nat} (he : e ≤ b.length) (hb : b.length < 2 ^ 62) (hB : B = 32 ∨ B = 64) :
    run (C u2a [.agg [BS z b, .int .i64 p, .int .i64 e], .int .i64 B]) H = some (.ok (retU (rdU b B e p)) H) := by
  rw [uao]
  have h : ∀ (x y w : PV), run (u1h (.int .i64 B) (.ptr H.length 0) x y w (.int .u64 0) (.int .i64 0) (.int .i64 p)) (hadd H [.cells [BS z b, .int .i64 p, .int .i64 e]]) = some (.ok (retU (rdU b B e p)) (hadd H [.cells [BS z b, .int .i64 p, .int .i64 e]])) :=
    fun x y w => uqu (by rw [u86]; rfl) he hb (by omega) (by omega) 10 0 0 p (by omega) (by omega) (by decide)
  have hl : ∀ n, (retU (rdU b B e p)).low n = true := by intro n; unfold retU; split <;> simp [u7x, u8m, uen, u8b]
  simp +contextual -dsimp (disch := omega) only [↓goDown, goUp, cr, simprocAttr, h, hl]
end Go.Proofs.YthidcpkcfoldmaaGreat.Pi.Q
namespace Go.Proofs.YthidcpkcfoldmaaGreat.Pi.Q
open Go Go.Proofs.YthidcpkcfoldmaaGreat.Pi
attribute [local congr] ite_congr
def retS : Rs Int → PV
  | .ok n p => .tup [.int .i64 n, .int .i64 p, .int .i64 0]
  | .err p e => .tup [.int .i64 0, .int .i64 p, .int .i64 e]
theorem uvw {H : Heap} {b : List UInt8} {id B s n p c : Nat} {x y w : PV} (hs : s ≤ 63) (hn : n < 2 ^ s) (hp : p < 2 ^ 62) (hc : c < 256) (hB : s < B):
    run (u2q (.int .i64 B) (.ptr id 0) x y w (.int .i64 (IntKind.i64.wrap n)) (.int .i64 s) (.int .i64 p) (.int .u8 c)) H =
      if c < 128 then some (.ok (retS (.ok (IntKind.i64.wrap (n + lastS c s)) (p + 1))) H)
      else run (u1a (.int .i64 B) (.ptr id 0) x y w (.int .i64 (IntKind.i64.wrap (n + c % 128 * 2 ^ s : Nat))) (.int .i64 (s + 7 : Nat)) (.int .i64 (p + 1 : Nat))) H := by
  rw [u7u]
  have e1 : shiftN .i64 (s : Int) = s := uby (by omega)
  have key : IntKind.i64.wrap ((BitVec.ofInt IntKind.i64.bits (IntKind.i64.wrap n) ||| BitVec.ofInt IntKind.i64.bits (IntKind.i64.wrap (((c % 128 : Nat) : Int) * 2 ^ shiftN .i64 (s : Int)))).toNat : Int) = IntKind.i64.wrap ((n + c % 128 * 2 ^ s : Nat) : Int) := by
    rw [e1]
    have h := upx (N := (n : Int)) (x := ((c % 128 : Nat) : Int)) hs (by omega) (by exact_mod_cast hn)
    unfold or64 at h
    refine h.trans ?_
    push_cast
    rfl
  have w1 : IntKind.i64.wrap ((c % 128 : Nat) : Int) = ((c % 128 : Nat) : Int) := w_i64 (by omega)
  simp +contextual -dsimp (disch := omega) only [↓goDown, goUp, cr, simprocAttr, u8k, and127, u7j, ub4, run_or, u6x, key, w1]
  have e2 : ((s : Int) + 7) = ((s + 7 : Nat) : Int) := rfl
  have e3 : ((p : Int) + 1) = ((p + 1 : Nat) : Int) := rfl
  by_cases hlt : c < 128
  · have c1 : (c : Int) < 128 := by omega
    have hm : c % 128 = c := Nat.mod_eq_of_lt hlt
    rw [if_pos c1, if_pos hlt, and64 c hlt, hm]
    by_cases h64 : c < 64
    · rw [if_pos h64, if_pos rfl]
      unfold lastS
      rw [if_pos h64]
      push_cast
      rfl
    · rw [if_neg h64, if_neg (by decide)]
      unfold lastS
      rw [if_neg h64]
      have ep : (2 : Int) ^ (s + 7) = 128 * 2 ^ s := by rw [Int.pow_add, Int.mul_comm]; rfl
      by_cases h7 : s + 7 < 64
      · have c2 : (s : Int) + 7 < 64 := by omega
        rw [if_pos c2, e2, uby (by omega)]
        have h1 : n + c * 2 ^ s < 2 ^ (s + 7) := by
          have : (c + 1) * 2 ^ s ≤ 128 * 2 ^ s := Nat.mul_le_mul_right _ (by omega)
          have e : 2 ^ (s + 7) = 128 * 2 ^ s := by rw [Nat.pow_add, Nat.mul_comm]
          rw [Nat.add_mul] at this
          omega
        have h := upx (N := ((n + c * 2 ^ s : Nat) : Int)) (x := -1) (s := s + 7) (by omega) (by omega) (by exact_mod_cast h1)
        unfold or64 at h
        have h2 : IntKind.i64.wrap (((n + c * 2 ^ s : Nat) : Int) + -1 * 2 ^ (s + 7)) = IntKind.i64.wrap ((n : Int) + ((c : Int) - 128) * 2 ^ s) := by
          congr 1
          rw [ep, Int.sub_mul]
          push_cast
          omega
        exact congrArg (fun v => some (Out.ok (PV.tup [PV.int IntKind.i64 v, PV.int IntKind.i64 ((p : Int) + 1), PV.int IntKind.i64 0]) H)) (h.trans h2)
      · have c2 : ¬ (s : Int) + 7 < 64 := by omega
        rw [if_neg c2]
        have h2 : IntKind.i64.wrap ((n + c * 2 ^ s : Nat) : Int) = IntKind.i64.wrap ((n : Int) + ((c : Int) - 128) * 2 ^ s) := by
          apply uop
          have e9 : (128 : Int) * 2 ^ s = 2 ^ (s + 7 - 64) * 18446744073709551616 := by
            rw [← ep, pow64 (s := 64) (by omega), Nat.sub_self, Int.pow_zero, Int.one_mul, ← Int.pow_add]
            congr 1
            omega
          have e8 : ((n + c * 2 ^ s : Nat) : Int) = ((n : Int) + ((c : Int) - 128) * 2 ^ s) + 2 ^ (s + 7 - 64) * 18446744073709551616 := by
            rw [← e9, Int.sub_mul]
            push_cast
            omega
          rw [e8, Int.add_mul_emod_self_right]
        exact congrArg (fun v => some (Out.ok (PV.tup [PV.int IntKind.i64 v, PV.int IntKind.i64 ((p : Int) + 1), PV.int IntKind.i64 0]) H)) h2
  · have c1 : ¬ (c : Int) < 128 := by omega
    rw [if_neg c1, if_neg hlt, e2, e3]
theorem uv0 {H : Heap} {b : List UInt8} {z : Bool} {id a e B s n p : Nat} {x y w : PV} (hH : hget H id = some (.cells [BS z b, .int .i64 a, .int .i64 e]))
    (he : e ≤ b.length) (hb : b.length < 2 ^ 62) (hB : B = 32 ∨ B = 33 ∨ B = 64) (hs7 : s % 7 = 0) (hi : s < B) (hn : n < 2 ^ s) :
    run (u1a (.int .i64 B) (.ptr id 0) x y w (.int .i64 (IntKind.i64.wrap n)) (.int .i64 s) (.int .i64 p)) H =
      if p < e then
        if B < s + 7 ∧ ¬ okS (B - s) (b.getD p 0).toNat then some (.ok (retS (.err p 4)) H)
        else if (b.getD p 0).toNat < 128 then some (.ok (retS (.ok (IntKind.i64.wrap (n + lastS (b.getD p 0).toNat s)) (p + 1))) H)
        else run (u1a (.int .i64 B) (.ptr id 0) x y w (.int .i64 (IntKind.i64.wrap (n + (b.getD p 0).toNat % 128 * 2 ^ s : Nat))) (.int .i64 (s + 7 : Nat)) (.int .i64 (p + 1 : Nat))) H
      else some (.ok (retS (.err e 3)) H) := by
  have hid := get_lt hH
  have hset := u58 hH
  rw [u8y]
  by_cases hpe : p < e
  · have hpb : p < b.length := by omega
    have hg := ubh hpb
    have hgd : b.getD p 0 = b[p] := by simp [hpb]
    rw [hgd]
    generalize b[p] = c at hg hgd ⊢
    have hc := byt_lt c
    generalize hcn : c.toNat = cn at hc
    have s1 : (B : Int) - (s : Int) = ((B - s : Nat) : Int) := by omega
    have c0 : ¬ (e : Int) ≤ p := by omega
    have hj := fun (u v w : PV) => uvw (H := H) (b := b) (id := id) (B := B) (s := s) (n := n) (p := p) (c := cn) (x := u) (y := v) (w := w) (by omega) hn (by omega) hc hi
    simp +contextual -dsimp (disch := omega) only [↓goDown, goUp, cr, simprocAttr, hH, hg, byt, hcn, hset, s1, u8k, u7j, ub4, run_or, Int.toNat_natCast, hj, c0]
    rw [if_pos hpe]
    by_cases h7 : B - s < 7
    · have c1 : ((B - s : Nat) : Int) < 7 := by omega
      have c3 : B < s + 7 := by omega
      rw [if_pos c1]
      by_cases h128 : cn < 128
      · have c2 : ¬ (128 : Int) ≤ cn := by omega
        have ht := top_ok (h := B - s) (by omega) h128
        rw [if_neg c2]
        by_cases h0 : (IntKind.i8.wrap (IntKind.u8.wrap ((cn : Int) * 2 ^ shiftN .u8 1))).fdiv (2 ^ shiftN .i8 ((B - s : Nat) : Int)) = 0
        · have c4 : ¬ (B < s + 7 ∧ ¬ okS (B - s) cn) := fun h => h.2 (ht.mp (.inl h0))
          rw [if_pos h0, if_neg c4, if_pos h128, if_pos h128]
        · rw [if_neg h0]
          by_cases h1 : (IntKind.i8.wrap (IntKind.u8.wrap ((cn : Int) * 2 ^ shiftN .u8 1))).fdiv (2 ^ shiftN .i8 ((B - s : Nat) : Int)) = -1
          · have c4 : ¬ (B < s + 7 ∧ ¬ okS (B - s) cn) := fun h => h.2 (ht.mp (.inr h1))
            rw [if_pos h1, if_neg c4, if_pos h128, if_pos h128]
          · have c4 : B < s + 7 ∧ ¬ okS (B - s) cn := ⟨c3, fun h => (ht.mpr h).elim h0 h1⟩
            rw [if_neg h1, if_pos c4]
            rfl
      · have c2 : (128 : Int) ≤ cn := by omega
        have c4 : B < s + 7 ∧ ¬ okS (B - s) cn := ⟨c3, fun h => h128 h.1⟩
        rw [if_pos c2, if_pos c4]
        rfl
    · have c1 : ¬ ((B - s : Nat) : Int) < 7 := by omega
      have c4 : ¬ (B < s + 7 ∧ ¬ okS (B - s) cn) := by omega
      rw [if_neg c1, if_neg c4]
  · have c0 : (e : Int) ≤ p := by omega
    simp +contextual -dsimp (disch := omega) only [↓goDown, goUp, cr, simprocAttr, hH, hset, c0]
    rw [if_neg hpe]
    rfl
theorem upb {H : Heap} {b : List UInt8} {z : Bool} {id a e B : Nat} {x y w : PV} (hH : hget H id = some (.cells [BS z b, .int .i64 a, .int .i64 e]))
    (he : e ≤ b.length) (hb : b.length < 2 ^ 62) (hB : B = 32 ∨ B = 33 ∨ B = 64) : ∀ (f i n p : Nat), 7 * i < B → B ≤ 7 * (i + f) → n < 2 ^ (7 * i) →
    run (u1a (.int .i64 B) (.ptr id 0) x y w (.int .i64 (IntKind.i64.wrap n)) (.int .i64 (7 * i : Nat)) (.int .i64 p)) H = some (.ok (retS (lebS b B e f i n p)) H)
  | 0, i, n, p, hi, hf, hn => by omega
  | f + 1, i, n, p, hi, hf, hn => by
    rw [uv0 hH he hb hB (by omega) hi hn]
    unfold lebS
    by_cases h1 : p < e
    · simp only [if_pos h1]
      by_cases h2 : B < 7 * i + 7 ∧ ¬ okS (B - 7 * i) (b.getD p 0).toNat
      · simp only [if_pos h2]
      · simp only [if_neg h2]
        by_cases h3 : (b.getD p 0).toNat < 128
        · simp only [if_pos h3]
        · simp only [if_neg h3]
          have h7 : ¬ B < 7 * i + 7 := fun h => h2 ⟨h, fun h0 => h3 h0.1⟩
          refine upb hH he hb hB f (i + 1) _ (p + 1) (by omega) (by omega) ?_
          have h4 : 2 ^ (7 * (i + 1)) = 128 * 2 ^ (7 * i) := by rw [Nat.mul_add, Nat.pow_add, Nat.mul_comm]
          have h5 : (b.getD p 0).toNat % 128 * 2 ^ (7 * i) ≤ 127 * 2 ^ (7 * i) := Nat.mul_le_mul_right _ (by omega)
          omega
    · simp only [if_neg h1]
theorem uai {H : Heap} {b : List UInt8} {z : Bool} {p e B : Nat} (he : e ≤ b.length) (hb : b.length < 2 ^ 62) (hB : B = 32 ∨ B = 33 ∨ B = 64) :
    run (C u18 [.agg [BS z b, .int .i64 p, .int .i64 e], .int .i64 B]) H = some (.ok (retS (rdS b B e p)) H) := by
  rw [uce]
  have h : ∀ (x y w : PV), run (u1a (.int .i64 B) (.ptr H.length 0) x y w (.int .i64 0) (.int .i64 0) (.int .i64 p)) (hadd H [.cells [BS z b, .int .i64 p, .int .i64 e]]) = some (.ok (retS (rdS b B e p)) (hadd H [.cells [BS z b, .int .i64 p, .int .i64 e]])) :=
    fun x y w => upb (by rw [u86]; rfl) he hb hB 10 0 0 p (by omega) (by omega) (by decide)
  have hl : ∀ n, (retS (rdS b B e p)).low n = true := by intro n; unfold retS; split <;> simp [u7x, u8m, uen, u8b]
  simp +contextual -dsimp (disch := omega) only [↓goDown, goUp, cr, simprocAttr, h, hl]
end Go.Proofs.YthidcpkcfoldmaaGreat.Pi.Q
namespace Go.Proofs.YthidcpkcfoldmaaGreat.Pi.Q
open Go Go.Proofs.YthidcpkcfoldmaaGreat.Pi
attribute [local congr] ite_congr
def retN : Rs Int → PV
  | .ok n p => .tup [.int .u64 (IntKind.u64.wrap n), .int .i64 p, .int .i64 0]
  | .err p e => .tup [.int .u64 0, .int .i64 p, .int .i64 e]
theorem uso (c : Nat) {s : Nat} (h : s ≤ 64) : (c : Int).fdiv (2 ^ shiftN .i64 (s : Int)) = ((c / 2 ^ s : Nat) : Int) := by
  rw [uby h, Int.fdiv_eq_ediv_of_nonneg _ (Int.le_of_lt (Int.pow_pos (by omega)))]
  simp
theorem uyt {H : Heap} {c B i : Nat} {sg : Bool} (hc : c < 256) (hB : B ≤ 64) (hi : 7 * i < B) (hi2 : B < 7 * i + 7) :
    run (C u7i [.int .u8 c, .int .i64 B, .int .i64 i, .bool sg]) H = some (.ok (.bool (if sg then decide (okS (B - 7 * i) c) else decide (c / 2 ^ (B - 7 * i) = 0))) H) := by
  rw [ucb]
  have e1 : (7 : Int) * (i : Int) = ((7 * i : Nat) : Int) := by omega
  have e2 : (B : Int) - ((7 * i : Nat) : Int) = ((B - 7 * i : Nat) : Int) := by omega
  have e3 : ((B - 7 * i : Nat) : Int) - 1 = ((B - 7 * i - 1 : Nat) : Int) := by omega
  have e4 : (8 : Int) - ((B - 7 * i : Nat) : Int) = ((8 - (B - 7 * i) : Nat) : Int) := by omega
  generalize hL : B - 7 * i = L at *
  have w1 : IntKind.i64.wrap ((7 * i : Nat) : Int) = ((7 * i : Nat) : Int) := w_i64 (by omega)
  have ep : (2 : Int) ^ (8 - L) = ((2 ^ (8 - L) : Nat) : Int) := by simp
  have p1 : 2 ^ (8 - L) ≤ 2 ^ 8 := Nat.pow_le_pow_right (by omega) (by omega)
  have hp : ∀ k : Nat, (0 : Nat) < 2 ^ k := fun k => Nat.pow_pos (by omega)
  have s1 : shiftN .i64 ((8 - L : Nat) : Int) = 8 - L := uby (by omega)
  have q1 : (c : Int).fdiv (2 ^ shiftN .i64 (L : Int)) = ((c / 2 ^ L : Nat) : Int) := uso c (by omega)
  have q2 : (c : Int).fdiv (2 ^ shiftN .i64 ((L - 1 : Nat) : Int)) = ((c / 2 ^ (L - 1) : Nat) : Int) := uso c (by omega)
  have w2 : IntKind.i64.wrap (1 * 2 ^ (8 - L)) = 2 ^ (8 - L) := by
    rw [Int.one_mul, ep]
    generalize (2 : Nat) ^ (8 - L) = q at p1
    exact w_i64 (by omega)
  have p2 := hp (8 - L)
  have e5 : (((2 ^ (8 - L) : Nat) : Int) - 1) = ((2 ^ (8 - L) - 1 : Nat) : Int) := by omega
  cases sg
  · simp +contextual -dsimp (disch := omega) only [↓goDown, goUp, cr, simprocAttr, u8k, u7j, ub4, run_or, un_not, e1, w1, e2, e3, e4, s1, q1, q2, w2]
    by_cases h128 : c < 128
    · have c1 : ¬ (128 : Int) ≤ c := by omega
      rw [if_neg c1]
      congr 3
      rw [Bool.eq_iff_iff]
      simp only [beq_iff_eq, decide_eq_true_eq]
      omega
    · have c1 : (128 : Int) ≤ c := by omega
      rw [if_pos c1]
      have h6 : 2 ^ L ≤ 2 ^ 6 := Nat.pow_le_pow_right (by omega) (by omega)
      have : ¬ c / 2 ^ L = 0 := by
        intro h
        rcases Nat.div_eq_zero_iff.mp h with h | h
        · have := hp L; omega
        · omega
      simp [this]
  · simp +contextual -dsimp (disch := omega) only [↓goDown, goUp, cr, simprocAttr, u8k, u7j, ub4, run_or, un_not, e1, w1, e2, e3, e4, s1, q1, q2, w2, ep, e5]
    by_cases h128 : c < 128
    · have c1 : ¬ (128 : Int) ≤ c := by omega
      rw [if_neg c1]
      have hd : decide (okS L c) = (decide (c / 2 ^ (L - 1) = 0) || decide (c / 2 ^ (L - 1) = 2 ^ (8 - L) - 1)) := by
        unfold okS
        simp [h128]
      rw [hd]
      by_cases z : c / 2 ^ (L - 1) = 0
      · have z' : ((c / 2 ^ (L - 1) : Nat) : Int) = 0 := by omega
        simp [z, z']
      · have z' : ¬ ((c / 2 ^ (L - 1) : Nat) : Int) = 0 := by omega
        rw [if_neg z']
        congr 3
        rw [Bool.eq_iff_iff]
        simp only [beq_iff_eq, Bool.or_eq_true, decide_eq_true_eq]
        omega
    · have c1 : (128 : Int) ≤ c := by omega
      rw [if_pos c1]
      have : ¬ okS L c := fun h => h128 h.1
      simp [this]
theorem wu (x : Int) : IntKind.u64.wrap x = x % 18446744073709551616 := by simp only [IntKind.wrap, IntKind.signed, IntKind.bits]; simp
theorem wu_wi (x : Int) : IntKind.u64.wrap (IntKind.i64.wrap x) = IntKind.u64.wrap x := by rw [wu, wu, uog]
theorem wu_add (n y : Int) : IntKind.u64.wrap (n + IntKind.u64.wrap y) = IntKind.u64.wrap (n + y) := by rw [wu, wu, wu]; omega
theorem wu_sub (n y : Int) : IntKind.u64.wrap (IntKind.u64.wrap n - IntKind.u64.wrap y) = IntKind.u64.wrap (n - y) := by rw [wu, wu, wu, wu]; omega
theorem uok (c : Nat) : ((c : Nat) : Int).tmod 128 = ((c % 128 : Nat) : Int) := by rw [Int.tmod_eq_emod_of_nonneg (by omega)]; omega
theorem fits {n x s : Nat} (hs : s ≤ 63) (hn : n < 2 ^ s) (hx : x * 2 ^ s < 2 ^ 64) : n + x * 2 ^ s < 2 ^ 64 := (uk6 hs hn hx).2
theorem valS1 {n c s : Nat} (hc : ¬ c < 64) : IntKind.u64.wrap ((n : Int) + ((c * 2 ^ s : Nat) : Int) - 1 * 2 ^ (s + 7)) = IntKind.u64.wrap (n + lastS c s) := by
  congr 1
  unfold lastS
  rw [if_neg hc, Int.sub_mul]
  have ep : (2 : Int) ^ (s + 7) = 128 * 2 ^ s := by rw [Int.pow_add, Int.mul_comm]; rfl
  rw [ep]
  push_cast
  omega
theorem valS2 {n c s : Nat} (hc : ¬ c < 64) (hs : 57 ≤ s) : IntKind.u64.wrap ((n : Int) + ((c * 2 ^ s : Nat) : Int)) = IntKind.u64.wrap (n + lastS c s) := by
  unfold lastS
  rw [if_neg hc, Int.sub_mul]
  have ep : (2 : Int) ^ (s + 7) = 128 * 2 ^ s := by rw [Int.pow_add, Int.mul_comm]; rfl
  have e9 : (128 : Int) * 2 ^ s = 2 ^ (s + 7 - 64) * 18446744073709551616 := by
    rw [← ep, pow64 (s := 64) (by omega), Nat.sub_self, Int.pow_zero, Int.one_mul, ← Int.pow_add]
    congr 1
    omega
  have e8 : ((n : Int) + ((c * 2 ^ s : Nat) : Int)) = ((n : Int) + ((c : Int) * 2 ^ s - 128 * 2 ^ s)) + 2 ^ (s + 7 - 64) * 18446744073709551616 := by
    rw [← e9]
    push_cast
    omega
  rw [e8, wu, wu, Int.add_mul_emod_self_right]
theorem valS3 {n c s : Nat} (hc : c < 64) : ((n : Int) + ((c * 2 ^ s : Nat) : Int)) = (n + lastS c s) := by
  unfold lastS
  rw [if_pos hc]
  push_cast
  rfl
theorem ulg {H : Heap} {b : List UInt8} {z sg : Bool} {v10 v11 v12 : PV} {a e B i n : Nat} (he : e ≤ b.length) (hb : b.length < 2 ^ 61) (hB : B = 32 ∨ B = 33 ∨ B = 64) (hi : 7 * i < B) (hn : n < 2 ^ (7 * i)) (ha : a ≤ e) :
    run (u0m (BS z b) (.int .i64 a) (.int .i64 e) (.int .i64 B) (.bool sg) v10 v11 v12 (.int .i64 ((B + 6) / 7 : Nat)) (.int .u64 n) (.int .i64 i)) H =
      if a + i < e then
        if B < 7 * i + 7 ∧ ¬ (if sg then okS (B - 7 * i) (b.getD (a + i) 0).toNat else (b.getD (a + i) 0).toNat / 2 ^ (B - 7 * i) = 0) then some (.ok (.tup [.int .u64 0, .int .i64 (a + i : Nat), .int .i64 4]) H)
        else if (b.getD (a + i) 0).toNat < 128 then
          some (.ok (.tup [.int .u64 (IntKind.u64.wrap (n + if sg then lastS (b.getD (a + i) 0).toNat (7 * i) else (((b.getD (a + i) 0).toNat * 2 ^ (7 * i) : Nat) : Int))), .int .i64 (a + i + 1 : Nat), .int .i64 0]) H)
        else run (u0m (BS z b) (.int .i64 a) (.int .i64 e) (.int .i64 B) (.bool sg) v10 v11 v12 (.int .i64 ((B + 6) / 7 : Nat)) (.int .u64 (n + (b.getD (a + i) 0).toNat % 128 * 2 ^ (7 * i) : Nat)) (.int .i64 (i + 1 : Nat))) H
      else some (.ok (.tup [.int .u64 0, .int .i64 e, .int .i64 3]) H) := by
  rw [u80]
  have c1 : (i : Int) < ((B + 6) / 7 : Nat) := by omega
  have e1 : (a : Int) + (i : Int) = ((a + i : Nat) : Int) := rfl
  by_cases hpe : a + i < e
  · have hpb : a + i < b.length := by omega
    have hg := ubh hpb
    have hgd : b.getD (a + i) 0 = b[a + i] := by simp [hpb]
    rw [hgd, if_pos hpe]
    generalize b[a + i] = c at hg hgd ⊢
    have hc := byt_lt c
    generalize hcn : c.toNat = cn at hc
    have c0 : ¬ (e : Int) ≤ ((a + i : Nat) : Int) := by omega
    have e2 : (7 : Int) * (i : Int) = ((7 * i : Nat) : Int) := by omega
    have e3 : ((7 * i : Nat) : Int) + 7 = ((7 * i + 7 : Nat) : Int) := by omega
    have w1 : IntKind.u64.wrap ((7 * i : Nat) : Int) = ((7 * i : Nat) : Int) := w_u64 (by omega)
    have w2 : IntKind.i64.wrap ((7 * i : Nat) : Int) = ((7 * i : Nat) : Int) := w_i64 (by omega)
    have w3 : IntKind.u64.wrap ((cn % 128 : Nat) : Int) = ((cn % 128 : Nat) : Int) := w_u64 (by omega)
    have s1 : shiftN .u64 ((7 * i : Nat) : Int) = 7 * i := uem (by omega)
    have e4 : (((cn % 128 : Nat) : Int) * 2 ^ (7 * i)) = ((cn % 128 * 2 ^ (7 * i) : Nat) : Int) := by simp
    have e5 : (i : Int) + 1 = ((i + 1 : Nat) : Int) := rfl
    have fin : ∀ (w : Int), w = IntKind.u64.wrap w → run (u0g (BS z b) (.int .i64 a) (.int .i64 e) (.int .i64 B) (.bool sg) v10 v11 v12 (.int .i64 ((B + 6) / 7 : Nat)) (.int .u64 w) (.int .i64 i)) H = some (.ok (.tup [.int .u64 w, .int .i64 (a + i + 1 : Nat), .int .i64 0]) H) := by
      intro w hw
      rw [u60]
      simp +contextual -dsimp (disch := omega) only [↓goDown, goUp, cr, simprocAttr, e1]
      rfl
    have idem : ∀ x : Int, IntKind.u64.wrap x = IntKind.u64.wrap (IntKind.u64.wrap x) := by intro x; rw [wu, wu]; omega
    have wrap0 : ∀ (m : Nat), IntKind.u64.wrap (m : Int) = IntKind.u64.wrap m := fun _ => rfl
    -- the digits, joined
    have dig : B < 7 * i + 7 ∧ ¬ (if sg then okS (B - 7 * i) cn else cn / 2 ^ (B - 7 * i) = 0) ∨ ((cn < 128 ∨ 7 * i + 7 ≤ B)) := by
      by_cases h7 : B < 7 * i + 7
      · by_cases h128 : cn < 128
        · exact .inr (.inl h128)
        · left
          refine ⟨h7, ?_⟩
          cases sg with
          | true => simp only [if_true]; exact fun h => h128 h.1
          | false =>
            simp only [Bool.false_eq_true, if_false]
            intro h
            have h6 : 2 ^ (B - 7 * i) ≤ 2 ^ 6 := Nat.pow_le_pow_right (by omega) (by omega)
            have h0 : 0 < 2 ^ (B - 7 * i) := Nat.pow_pos (by omega)
            rcases Nat.div_eq_zero_iff.mp h with h | h <;> omega
      · exact .inr (.inr (by omega))
    have hm : cn < 128 → cn % 128 = cn := fun h => Nat.mod_eq_of_lt h
    have close : cn < 128 → (if sg = true then
        if (64 : Int) ≤ cn then
          if ((7 * i + 7 : Nat) : Int) < 64 then
            run (u0g (BS z b) (.int .i64 a) (.int .i64 e) (.int .i64 B) (.bool true) v10 v11 v12 (.int .i64 ((B + 6) / 7 : Nat)) (.int .u64 (IntKind.u64.wrap (IntKind.u64.wrap ((n : Int) + IntKind.u64.wrap ((cn % 128 * 2 ^ (7 * i) : Nat) : Int)) - IntKind.u64.wrap (1 * 2 ^ shiftN .u64 ((7 * i + 7 : Nat) : Int))))) (.int .i64 i)) H
          else run (u0g (BS z b) (.int .i64 a) (.int .i64 e) (.int .i64 B) (.bool true) v10 v11 v12 (.int .i64 ((B + 6) / 7 : Nat)) (.int .u64 (IntKind.u64.wrap ((n : Int) + IntKind.u64.wrap ((cn % 128 * 2 ^ (7 * i) : Nat) : Int)))) (.int .i64 i)) H
        else run (u0g (BS z b) (.int .i64 a) (.int .i64 e) (.int .i64 B) (.bool true) v10 v11 v12 (.int .i64 ((B + 6) / 7 : Nat)) (.int .u64 (IntKind.u64.wrap ((n : Int) + IntKind.u64.wrap ((cn % 128 * 2 ^ (7 * i) : Nat) : Int)))) (.int .i64 i)) H
      else run (u0g (BS z b) (.int .i64 a) (.int .i64 e) (.int .i64 B) (.bool false) v10 v11 v12 (.int .i64 ((B + 6) / 7 : Nat)) (.int .u64 (IntKind.u64.wrap ((n : Int) + IntKind.u64.wrap ((cn % 128 * 2 ^ (7 * i) : Nat) : Int)))) (.int .i64 i)) H) =
      some (.ok (.tup [.int .u64 (IntKind.u64.wrap (n + if sg = true then lastS cn (7 * i) else ((cn * 2 ^ (7 * i) : Nat) : Int))), .int .i64 (a + i + 1 : Nat), .int .i64 0]) H) := by
      intro h
      rw [hm h, wu_add, wu_sub]
      cases sg with
      | true =>
        simp only [if_true] at fin ⊢
        by_cases h64 : cn < 64
        · have q : ¬ (64 : Int) ≤ cn := by omega
          rw [if_neg q, fin _ (idem _), valS3 h64]
        · have q : (64 : Int) ≤ cn := by omega
          rw [if_pos q]
          by_cases hs : 7 * i + 7 < 64
          · have q2 : ((7 * i + 7 : Nat) : Int) < 64 := by omega
            rw [if_pos q2, uem (by omega), valS1 h64, fin _ (idem _)]
          · have q2 : ¬ ((7 * i + 7 : Nat) : Int) < 64 := by omega
            rw [if_neg q2, valS2 h64 (by omega), fin _ (idem _)]
      | false =>
        simp only [Bool.false_eq_true, if_false] at fin ⊢
        rw [fin _ (idem _)]
    by_cases h7 : B < 7 * i + 7
    · have c2 : ((i : Int) = ((B + 6) / 7 : Nat) - 1) = True := eq_true (by omega)
      have hl := uyt (H := H) (sg := sg) hc (by omega) hi h7
      by_cases hbad : (if sg then okS (B - 7 * i) cn else cn / 2 ^ (B - 7 * i) = 0)
      · have hbt : (if sg then decide (okS (B - 7 * i) cn) else decide (cn / 2 ^ (B - 7 * i) = 0)) = true := by cases sg <;> simpa using hbad
        rw [hbt] at hl
        have n1 : ¬ (B < 7 * i + 7 ∧ ¬ (if sg then okS (B - 7 * i) cn else cn / 2 ^ (B - 7 * i) = 0)) := fun h => h.2 hbad
        have h128 : cn < 128 := by rcases dig with h | h | h; exact absurd hbad h.2; exact h; omega
        have h128' : ((cn : Int) < 128) = True := eq_true (by omega)
        rw [if_neg n1, if_pos h128]
        simp +contextual -dsimp (disch := omega) only [↓goDown, goUp, cr, simprocAttr, hg, byt, hcn, u8k, u7j, ub4, run_or, Int.toNat_natCast, c0, c1, c2, e1, e2, w1, w2, w3, e3, s1, e4, e5, hl, un_not, uok, h128']
        exact close h128
      · have hbt : (if sg then decide (okS (B - 7 * i) cn) else decide (cn / 2 ^ (B - 7 * i) = 0)) = false := by cases sg <;> simpa using hbad
        rw [hbt] at hl
        have n1 : (B < 7 * i + 7 ∧ ¬ (if sg then okS (B - 7 * i) cn else cn / 2 ^ (B - 7 * i) = 0)) := ⟨h7, hbad⟩
        rw [if_pos n1]
        simp +contextual -dsimp (disch := omega) only [↓goDown, goUp, cr, simprocAttr, hg, byt, hcn, Int.toNat_natCast, c0, c1, c2, e1, hl, un_not]
    · have c2 : ((i : Int) = ((B + 6) / 7 : Nat) - 1) = False := eq_false (by omega)
      have n1 : ¬ (B < 7 * i + 7 ∧ ¬ (if sg then okS (B - 7 * i) cn else cn / 2 ^ (B - 7 * i) = 0)) := fun h => h7 h.1
      rw [if_neg n1]
      by_cases h128 : cn < 128
      · have h128' : ((cn : Int) < 128) = True := eq_true (by omega)
        have c5 : ((7 * i + 7 : Nat) : Int) < 64 := by omega
        rw [if_pos h128]
        simp +contextual -dsimp (disch := omega) only [↓goDown, goUp, cr, simprocAttr, hg, byt, hcn, u8k, u7j, ub4, run_or, Int.toNat_natCast, c0, c1, c2, e1, e2, w1, w2, w3, e3, s1, e4, e5, un_not, uok, h128', c5]
        have cl := close h128
        rw [if_pos c5] at cl
        exact cl
      · have h128' : ((cn : Int) < 128) = False := eq_false (by omega)
        rw [if_neg h128]
        have hx : cn % 128 * 2 ^ (7 * i) < 2 ^ 64 := dig_lt (B := 63) (by omega) (by omega) (by
          have : 2 ^ 7 ≤ 2 ^ (63 - 7 * i) := Nat.pow_le_pow_right (by omega) (by omega)
          omega)
        have hf := fits (by omega) hn hx
        have w4 : IntKind.u64.wrap ((n : Int) + IntKind.u64.wrap ((cn % 128 * 2 ^ (7 * i) : Nat) : Int)) = ((n + cn % 128 * 2 ^ (7 * i) : Nat) : Int) := by
          rw [wu_add]
          generalize cn % 128 * 2 ^ (7 * i) = q at hf
          exact w_u64 (by omega)
        simp +contextual -dsimp (disch := omega) only [↓goDown, goUp, cr, simprocAttr, hg, byt, hcn, u8k, u7j, ub4, run_or, Int.toNat_natCast, c0, c1, c2, e1, e2, w1, w2, w3, e3, s1, e4, e5, un_not, uok, h128', w4]
        rfl
  · have c0 : (e : Int) ≤ ((a + i : Nat) : Int) := by omega
    simp +contextual -dsimp (disch := omega) only [↓goDown, goUp, cr, simprocAttr, c0, c1, e1]
    rw [if_neg hpe]
theorem ulc {H : Heap} {b : List UInt8} {z : Bool} {v10 v11 v12 : PV} {a e B : Nat} (he : e ≤ b.length) (hb : b.length < 2 ^ 61) (hB : B = 32 ∨ B = 64) (ha : a ≤ e) : ∀ (f i n p : Nat), p = a + i → 7 * i < B → B ≤ 7 * (i + f) → n < 2 ^ (7 * i) →
    run (u0m (BS z b) (.int .i64 a) (.int .i64 e) (.int .i64 B) (.bool false) v10 v11 v12 (.int .i64 ((B + 6) / 7 : Nat)) (.int .u64 n) (.int .i64 i)) H = some (.ok (retU (lebU b B e f i n p)) H)
  | 0, i, n, p, hp, hi, hf, hn => by omega
  | f + 1, i, n, p, hp, hi, hf, hn => by
    subst hp
    rw [ulg he hb (by omega) hi hn ha]
    unfold lebU
    simp only [Bool.false_eq_true, if_false]
    by_cases h1 : a + i < e
    · simp only [if_pos h1]
      by_cases h2 : B < 7 * i + 7 ∧ (b.getD (a + i) 0).toNat / 2 ^ (B - 7 * i) ≠ 0
      · simp only [if_pos h2]
        rfl
      · simp only [if_neg h2]
        generalize hc : (b.getD (a + i) 0).toNat = c at *
        have hc256 : c < 256 := by rw [← hc]; exact byt_lt _
        have hz : ∀ k : Nat, 0 < 2 ^ k := fun k => Nat.pow_pos (by omega)
        have h7 : B < 7 * i + 7 → c < 2 ^ (B - 7 * i) := by
          intro h
          have h0 : c / 2 ^ (B - 7 * i) = 0 := by
            by_cases h0 : c / 2 ^ (B - 7 * i) = 0
            · exact h0
            · exact absurd ⟨h, h0⟩ h2
          rcases Nat.div_eq_zero_iff.mp h0 with h | h
          · have := hz (B - 7 * i); omega
          · exact h
        by_cases h3 : c < 128
        · simp only [if_pos h3]
          have hx : c * 2 ^ (7 * i) < 2 ^ 64 := by
            refine dig_lt (B := B) (by omega) hi ?_
            by_cases h : B < 7 * i + 7
            · exact h7 h
            · have : 2 ^ 7 ≤ 2 ^ (B - 7 * i) := Nat.pow_le_pow_right (by omega) (by omega)
              omega
          have hf := fits (by omega) hn hx
          have w4 : IntKind.u64.wrap ((n : Int) + ((c * 2 ^ (7 * i) : Nat) : Int)) = ((n + c * 2 ^ (7 * i) : Nat) : Int) := by
            generalize c * 2 ^ (7 * i) = q at hf
            exact w_u64 (n := ((n + q : Nat) : Int)) (by omega)
          rw [w4]
          rfl
        · simp only [if_neg h3]
          have h8 : ¬ B < 7 * i + 7 := by
            intro h
            have h5 := h7 h
            have : 2 ^ (B - 7 * i) ≤ 2 ^ 6 := Nat.pow_le_pow_right (by omega) (by omega)
            omega
          refine ulc he hb hB ha f (i + 1) _ (a + i + 1) (by omega) (by omega) (by omega) ?_
          have h4 : 2 ^ (7 * (i + 1)) = 128 * 2 ^ (7 * i) := by rw [Nat.mul_add, Nat.pow_add, Nat.mul_comm]
          have h5 : c % 128 * 2 ^ (7 * i) ≤ 127 * 2 ^ (7 * i) := Nat.mul_le_mul_right _ (by omega)
          omega
    · simp only [if_neg h1]
      rfl
theorem ul3 {H : Heap} {b : List UInt8} {z : Bool} {v10 v11 v12 : PV} {a e B : Nat} (he : e ≤ b.length) (hb : b.length < 2 ^ 61) (hB : B = 32 ∨ B = 33 ∨ B = 64) (ha : a ≤ e) : ∀ (f i n p : Nat), p = a + i → 7 * i < B → B ≤ 7 * (i + f) → n < 2 ^ (7 * i) →
    run (u0m (BS z b) (.int .i64 a) (.int .i64 e) (.int .i64 B) (.bool true) v10 v11 v12 (.int .i64 ((B + 6) / 7 : Nat)) (.int .u64 n) (.int .i64 i)) H = some (.ok (retN (lebS b B e f i n p)) H)
  | 0, i, n, p, hp, hi, hf, hn => by omega
  | f + 1, i, n, p, hp, hi, hf, hn => by
    subst hp
    rw [ulg he hb hB hi hn ha]
    unfold lebS
    simp only [if_true]
    by_cases h1 : a + i < e
    · simp only [if_pos h1]
      by_cases h2 : B < 7 * i + 7 ∧ ¬ okS (B - 7 * i) (b.getD (a + i) 0).toNat
      · simp only [if_pos h2]
        rfl
      · simp only [if_neg h2]
        by_cases h3 : (b.getD (a + i) 0).toNat < 128
        · simp only [if_pos h3]
          unfold retN
          dsimp only
          rw [wu_wi]
        · simp only [if_neg h3]
          have h7 : ¬ B < 7 * i + 7 := fun h => h2 ⟨h, fun h0 => h3 h0.1⟩
          refine ul3 he hb hB ha f (i + 1) _ (a + i + 1) (by omega) (by omega) (by omega) ?_
          have h4 : 2 ^ (7 * (i + 1)) = 128 * 2 ^ (7 * i) := by rw [Nat.mul_add, Nat.pow_add, Nat.mul_comm]
          have h5 : (b.getD (a + i) 0).toNat % 128 * 2 ^ (7 * i) ≤ 127 * 2 ^ (7 * i) := Nat.mul_le_mul_right _ (by omega)
          omega
    · simp only [if_neg h1]
      rfl
theorem ufh {H : Heap} {b : List UInt8} {z : Bool} {a e : Nat} (he : e ≤ b.length) (ha : a ≤ e) :
    run (C u5j [BS z b, .int .i64 a, .int .i64 e]) H = some (.ok (.bool true) H) := by
  rw [ub1]
  have c1 : ((0 : Int) ≤ a) = True := eq_true (by omega)
  have c2 : ((e : Int) ≤ b.length) = True := eq_true (by omega)
  have c3 : ((a : Int) ≤ e) = True := eq_true (by omega)
  simp +contextual -dsimp (disch := omega) only [↓goDown, goUp, cr, simprocAttr, c1, c2, c3, List.length_map]
theorem uqp {H : Heap} {b : List UInt8} {z : Bool} {a e B : Nat} (he : e ≤ b.length) (hb : b.length < 2 ^ 61) (hB : B = 32 ∨ B = 64) (ha : a ≤ e) :
    run (C u0e [BS z b, .int .i64 a, .int .i64 e, .int .i64 B, .bool false]) H = some (.ok (retU (rdU b B e a)) H) := by
  rw [u81]
  have hl : ∀ n, (retU (rdU b B e a)).low n = true := by intro n; unfold retU; split <;> simp [u7x, u8m, uen, u8b]
  have h : ∀ (x y w : PV), run (u0m (BS z b) (.int .i64 a) (.int .i64 e) (.int .i64 B) (.bool false) x y w (.int .i64 ((B + 6) / 7 : Nat)) (.int .u64 0) (.int .i64 0)) H = some (.ok (retU (rdU b B e a)) H) :=
    fun x y w => ulc he hb hB ha 10 0 0 a (by omega) (by omega) (by omega) (by decide)
  have e1 : IntKind.i64.wrap (((B : Int) + 6).tdiv 7) = (((B + 6) / 7 : Nat) : Int) := by rcases hB with rfl | rfl <;> decide
  have hq : (7 : Int) ≠ 0 := by decide
  simp +contextual -dsimp (disch := omega) only [↓goDown, goUp, cr, simprocAttr, ufh he ha, un_not, h, hl, e1]
theorem ufk {H : Heap} {b : List UInt8} {z : Bool} {a e B : Nat} (he : e ≤ b.length) (hb : b.length < 2 ^ 61) (hB : B = 32 ∨ B = 33 ∨ B = 64) (ha : a ≤ e) :
    run (C u0e [BS z b, .int .i64 a, .int .i64 e, .int .i64 B, .bool true]) H = some (.ok (retN (rdS b B e a)) H) := by
  rw [u81]
  have hl : ∀ n, (retN (rdS b B e a)).low n = true := by intro n; unfold retN; split <;> simp [u7x, u8m, uen, u8b]
  have h : ∀ (x y w : PV), run (u0m (BS z b) (.int .i64 a) (.int .i64 e) (.int .i64 B) (.bool true) x y w (.int .i64 ((B + 6) / 7 : Nat)) (.int .u64 0) (.int .i64 0)) H = some (.ok (retN (rdS b B e a)) H) :=
    fun x y w => ul3 he hb hB ha 10 0 0 a (by omega) (by omega) (by omega) (by decide)
  have e1 : IntKind.i64.wrap (((B : Int) + 6).tdiv 7) = (((B + 6) / 7 : Nat) : Int) := by rcases hB with rfl | rfl | rfl <;> decide
  have hq : (7 : Int) ≠ 0 := by decide
  simp +contextual -dsimp (disch := omega) only [↓goDown, goUp, cr, simprocAttr, ufh he ha, un_not, h, hl, e1]
end Go.Proofs.YthidcpkcfoldmaaGreat.Pi.Q
namespace Go.Proofs.YthidcpkcfoldmaaGreat.Pi.Q
open Go Go.Proofs.YthidcpkcfoldmaaGreat.Pi
attribute [local congr] ite_congr
theorem usy {b : List UInt8} {B e : Nat} (hB : B % 7 ≠ 0) : ∀ (f i n p : Nat), 7 * i < B → n < 2 ^ (7 * i) → ∀ v q, lebU b B e f i n p = .ok v q → v < 2 ^ B ∧ p < q ∧ q ≤ e
  | 0, i, n, p, hi, hn, v, q, h => by cases h
  | f + 1, i, n, p, hi, hn, v, q, h => by
    unfold lebU at h
    by_cases h1 : p < e
    · simp only [if_pos h1] at h
      by_cases h2 : B < 7 * i + 7 ∧ (b.getD p 0).toNat / 2 ^ (B - 7 * i) ≠ 0
      · simp only [if_pos h2] at h; cases h
      · simp only [if_neg h2] at h
        generalize hc : (b.getD p 0).toNat = c at *
        have hz : ∀ k : Nat, 0 < 2 ^ k := fun k => Nat.pow_pos (by omega)
        have h7 : B < 7 * i + 7 → c < 2 ^ (B - 7 * i) := by
          intro h
          have h0 : c / 2 ^ (B - 7 * i) = 0 := by
            by_cases h0 : c / 2 ^ (B - 7 * i) = 0
            · exact h0
            · exact absurd ⟨h, h0⟩ h2
          rcases Nat.div_eq_zero_iff.mp h0 with h | h
          · have := hz (B - 7 * i); omega
          · exact h
        by_cases h3 : c < 128
        · simp only [if_pos h3, Rs.ok.injEq] at h
          obtain ⟨rfl, rfl⟩ := h
          have hlt : c < 2 ^ (B - 7 * i) := by
            by_cases h : B < 7 * i + 7
            · exact h7 h
            · have : 2 ^ 7 ≤ 2 ^ (B - 7 * i) := Nat.pow_le_pow_right (by omega) (by omega)
              omega
          refine ⟨?_, by omega, by omega⟩
          have h4 : (c + 1) * 2 ^ (7 * i) ≤ 2 ^ (B - 7 * i) * 2 ^ (7 * i) := Nat.mul_le_mul_right _ hlt
          have h5 : 2 ^ (B - 7 * i) * 2 ^ (7 * i) = 2 ^ B := by rw [← Nat.pow_add, Nat.sub_add_cancel (by omega)]
          rw [Nat.add_mul] at h4
          omega
        · simp only [if_neg h3] at h
          have h8 : ¬ B < 7 * i + 7 := by
            intro h
            have h5 := h7 h
            have : 2 ^ (B - 7 * i) ≤ 2 ^ 6 := Nat.pow_le_pow_right (by omega) (by omega)
            omega
          have h4 : 2 ^ (7 * (i + 1)) = 128 * 2 ^ (7 * i) := by rw [Nat.mul_add, Nat.pow_add, Nat.mul_comm]
          have h5 : c % 128 * 2 ^ (7 * i) ≤ 127 * 2 ^ (7 * i) := Nat.mul_le_mul_right _ (by omega)
          obtain ⟨a1, a2, a3⟩ := usy hB f (i + 1) _ (p + 1) (by omega) (by omega) v q h
          exact ⟨a1, by omega, a3⟩
    · simp only [if_neg h1] at h; cases h
theorem uud {b : List UInt8} {B e : Nat} : ∀ (f i n p : Nat) v q, lebS b B e f i n p = .ok v q → -9223372036854775808 ≤ v ∧ v ≤ 9223372036854775807 ∧ p < q ∧ q ≤ e
  | 0, i, n, p, v, q, h => by cases h
  | f + 1, i, n, p, v, q, h => by
    unfold lebS at h
    by_cases h1 : p < e
    · simp only [if_pos h1] at h
      by_cases h2 : B < 7 * i + 7 ∧ ¬ okS (B - 7 * i) (b.getD p 0).toNat
      · simp only [if_pos h2] at h; cases h
      · simp only [if_neg h2] at h
        by_cases h3 : (b.getD p 0).toNat < 128
        · simp only [if_pos h3, Rs.ok.injEq] at h
          obtain ⟨rfl, rfl⟩ := h
          rw [wi]
          omega
        · simp only [if_neg h3] at h
          obtain ⟨a1, a2, a3, a4⟩ := uud f (i + 1) _ (p + 1) v q h
          exact ⟨a1, a2, by omega, a4⟩
    · simp only [if_neg h1] at h; cases h
theorem uk7 {b : List UInt8} {e p v q : Nat} (h : rdU b 32 e p = .ok v q) : v < 2 ^ 32 ∧ p < q ∧ q ≤ e := usy (by decide) 10 0 0 p (by omega) (by decide) v q h
theorem rdS_lt {b : List UInt8} {B e p q : Nat} {v : Int} (h : rdS b B e p = .ok v q) : -9223372036854775808 ≤ v ∧ v ≤ 9223372036854775807 ∧ p < q ∧ q ≤ e := uud 10 0 0 p v q h
def retK (k : IntKind) : Rs Nat → PV
  | .ok n p => .tup [.int k n, .int .i64 p, .int .i64 0]
  | .err p e => .tup [.int k 0, .int .i64 p, .int .i64 e]
theorem urw {H : Heap} {b : List UInt8} {z : Bool} {p e : Nat} (he : e ≤ b.length) (hb : b.length < 2 ^ 61) :
    run (C ue3 [.agg [BS z b, .int .i64 p, .int .i64 e]]) H = some (.ok (retU (rdU b 32 e p)) H) := by
  rw [ur8]
  have h := ubd (H := hadd H [.cells [BS z b, .int .i64 p, .int .i64 e]]) (z := z) (p := p) (B := 32) he (by omega) (.inl rfl)
  have h : run (C u2a [.agg [BS z b, .int .i64 p, .int .i64 e], .int .i64 32]) (hadd H [.cells [BS z b, .int .i64 p, .int .i64 e]]) = _ := h
  cases hr : rdU b 32 e p <;> rw [hr] at h <;> simp only [retU] at h ⊢ <;>
    simp +contextual -dsimp (disch := omega) only [↓goDown, goUp, cr, simprocAttr, h]
theorem us7 {H : Heap} {b : List UInt8} {z : Bool} {p e : Nat} (he : e ≤ b.length) (hb : b.length < 2 ^ 61) :
    run (C udq [.agg [BS z b, .int .i64 p, .int .i64 e]]) H = some (.ok (retS (rdS b 33 e p)) H) := by
  rw [urt]
  have h := uai (H := hadd H [.cells [BS z b, .int .i64 p, .int .i64 e]]) (z := z) (p := p) (B := 33) he (by omega) (.inr (.inl rfl))
  have h : run (C u18 [.agg [BS z b, .int .i64 p, .int .i64 e], .int .i64 33]) (hadd H [.cells [BS z b, .int .i64 p, .int .i64 e]]) = _ := h
  cases hr : rdS b 33 e p <;> rw [hr] at h <;> simp only [retS] at h ⊢ <;>
    simp +contextual -dsimp (disch := omega) only [↓goDown, goUp, cr, simprocAttr, h]
theorem u78 {H : Heap} {b : List UInt8} {z : Bool} {p e : Nat} (he : e ≤ b.length) (hp : p ≤ e) :
    run (C u6q [BS z b, .int .i64 p, .int .i64 e]) H = some (.ok (.tup [.agg [BS z b, .int .i64 p, .int .i64 e], .int .i64 0]) H) := by
  rw [ukb, if_neg (by omega)]
theorem urj {H : Heap} {b : List UInt8} {z : Bool} {p e : Nat} (he : e ≤ b.length) (hb : b.length < 2 ^ 61) (hp : p ≤ e) :
    run (C u7a [BS z b, .int .i64 p, .int .i64 e]) H = some (.ok (retK .u32 (rdU b 32 e p)) H) := by
  have h1 : run (C u2k [BS z b, .int .i64 p, .int .i64 e, .fn ue3 [] []]) H = some (.ok (retK .u32 (rdU b 32 e p)) H) := by
    rw [u6t]
    have h := urw (H := hadd H [.cells [BS z b, .int .i64 p, .int .i64 e]]) (z := z) (p := p) he hb
    cases hr : rdU b 32 e p with
    | ok v q =>
      have hv := uk7 hr
      rw [hr] at h
      simp only [retU, retK] at h ⊢
      simp +contextual -dsimp (disch := omega) only [↓goDown, goUp, cr, simprocAttr, h, u78 he hp]
    | err a w =>
      rw [hr] at h
      simp only [retU, retK] at h ⊢
      simp +contextual -dsimp (disch := omega) only [↓goDown, goUp, cr, simprocAttr, h, u78 he hp]
  rw [urz]
  cases hr : rdU b 32 e p <;> rw [hr] at h1 <;> simp only [retK] at h1 ⊢ <;>
    simp +contextual -dsimp (disch := omega) only [↓goDown, goUp, cr, simprocAttr, h1]
theorem ur4 {H : Heap} {b : List UInt8} {z : Bool} {p e : Nat} (he : e ≤ b.length) (hb : b.length < 2 ^ 61) (hp : p ≤ e) :
    run (C ug9 [BS z b, .int .i64 p, .int .i64 e]) H = some (.ok (retS (rdS b 33 e p)) H) := by
  have h1 : run (C u30 [BS z b, .int .i64 p, .int .i64 e, .fn udq [] []]) H = some (.ok (retS (rdS b 33 e p)) H) := by
    rw [u79]
    have h := us7 (H := hadd H [.cells [BS z b, .int .i64 p, .int .i64 e]]) (z := z) (p := p) he hb
    cases hr : rdS b 33 e p <;> rw [hr] at h <;> simp only [retS] at h ⊢ <;>
      simp +contextual -dsimp (disch := omega) only [↓goDown, goUp, cr, simprocAttr, h, u78 he hp]
  rw [ure]
  cases hr : rdS b 33 e p <;> rw [hr] at h1 <;> simp only [retS] at h1 ⊢ <;>
    simp +contextual -dsimp (disch := omega) only [↓goDown, goUp, cr, simprocAttr, h1]
def curB (z : Bool) (b : List UInt8) (p : Nat) : Box := .cells [BS z b, .int .i64 p]
def flt (p e : Nat) : PV := .iface u4j (.agg [.int .i64 p, .int .i64 e])
def outC (z : Bool) (b : List UInt8) (c : Nat) (H : Heap) (q : Nat) {α : Type} (enc : α → PV) : Rs α → Option (Out PV)
  | .ok v p => some (.ok (enc v) (hset H c (curB z b p)))
  | .err p e => some (.pan (flt p e) (hset H c (curB z b q)))
theorem uek {H : Heap} {r : PV} {p e : Int} : run (C u2b [r, .int .i64 p, .int .i64 e]) H = some (.pan (.iface u4j (.agg [.int .i64 p, .int .i64 e])) H) := by
  rw [uci]
  simp +contextual -dsimp (disch := omega) only [↓goDown, goUp, cr, simprocAttr]
def rLook (b : List UInt8) (p : Nat) : Rs Nat := if p < b.length then .ok (b.getD p 0).toNat p else .err b.length 3
theorem uu6 {H : Heap} {b : List UInt8} {z : Bool} {c p : Nat} (hH : hget H c = some (curB z b p)) (hb : b.length < 2 ^ 61) :
    run (C u1y [.ptr c 0]) H = outC z b c H p (fun x : Nat => .int .u8 x) (rLook b p) := by
  have hid := get_lt hH
  have hset := u58 hH
  rw [uca]
  unfold rLook
  have hH' := hH
  unfold curB at hH
  by_cases hp : p < b.length
  · have hg := ubh hp
    have hgd : b.getD p 0 = b[p] := by simp [hp]
    have c0 : ¬ (b.length : Int) ≤ p := by omega
    rw [if_pos hp, hgd]
    simp only [outC, hset]
    simp +contextual -dsimp (disch := omega) only [↓goDown, goUp, cr, simprocAttr, hH, hg, byt, c0, List.length_map, u9s, Int.toNat_natCast]
  · have c0 : (b.length : Int) ≤ p := by omega
    rw [if_neg hp]
    simp only [outC, hset]
    simp +contextual -dsimp (disch := omega) only [↓goDown, goUp, cr, simprocAttr, hH, c0, List.length_map, uek]
    rfl
theorem ur9 {H : Heap} {b : List UInt8} {z : Bool} {c p q : Nat} {v : Int} (hH : hget H c = some (curB z b p)) :
    run (C u5s [.ptr c 0, .int .i64 v, .int .i64 q, .int .i64 0]) H = some (.ok (.int .i64 v) (hset H c (curB z b q))) := by
  have hid := get_lt hH
  unfold curB at hH
  rw [u9i]
  simp +contextual -dsimp (disch := omega) only [↓goDown, goUp, cr, simprocAttr, hH, uae]
  rfl
theorem uoc {H : Heap} {r v : PV} {q e : Nat} (he : e ≠ 0) :
    run (C u5s [r, v, .int .i64 q, .int .i64 e]) H = some (.pan (flt q e) H) := by
  rw [u9i]
  have c0 : ¬ (e : Int) = 0 := by omega
  simp +contextual -dsimp (disch := omega) only [↓goDown, goUp, cr, simprocAttr, c0, uek]
  rfl
theorem upe {b : List UInt8} {B e : Nat} : ∀ (f i n p : Nat) a w, lebU b B e f i n p = .err a w → w = 3 ∨ w = 4
  | 0, i, n, p, a, w, h => by cases h; exact .inr rfl
  | f + 1, i, n, p, a, w, h => by
    unfold lebU at h
    by_cases h1 : p < e
    · simp only [if_pos h1] at h
      by_cases h2 : B < 7 * i + 7 ∧ (b.getD p 0).toNat / 2 ^ (B - 7 * i) ≠ 0
      · simp only [if_pos h2, Rs.err.injEq] at h; exact .inr h.2.symm
      · simp only [if_neg h2] at h
        by_cases h3 : (b.getD p 0).toNat < 128
        · simp only [if_pos h3] at h; cases h
        · simp only [if_neg h3] at h; exact upe f _ _ _ a w h
    · simp only [if_neg h1, Rs.err.injEq] at h; exact .inl h.2.symm
theorem uq7 {b : List UInt8} {B e : Nat} : ∀ (f i n p : Nat) a w, lebS b B e f i n p = .err a w → w = 3 ∨ w = 4
  | 0, i, n, p, a, w, h => by cases h; exact .inr rfl
  | f + 1, i, n, p, a, w, h => by
    unfold lebS at h
    by_cases h1 : p < e
    · simp only [if_pos h1] at h
      by_cases h2 : B < 7 * i + 7 ∧ ¬ okS (B - 7 * i) (b.getD p 0).toNat
      · simp only [if_pos h2, Rs.err.injEq] at h; exact .inr h.2.symm
      · simp only [if_neg h2] at h
        by_cases h3 : (b.getD p 0).toNat < 128
        · simp only [if_pos h3] at h; cases h
        · simp only [if_neg h3] at h; exact uq7 f _ _ _ a w h
    · simp only [if_neg h1, Rs.err.injEq] at h; exact .inl h.2.symm
theorem ukd {b : List UInt8} {B e p a w : Nat} (h : rdU b B e p = .err a w) : w ≠ 0 := by have := upe 10 0 0 p a w h; omega
theorem uab {b : List UInt8} {B e p a w : Nat} (h : rdS b B e p = .err a w) : w ≠ 0 := by have := uq7 10 0 0 p a w h; omega
def rS33 (b : List UInt8) (p : Nat) : Rs Int :=
  match rdS b 33 b.length p with
  | .ok n q => if n < 0 then .err p 4 else if 2147483647 < n then .err p 2 else .ok n q
  | .err a w => .err a w
theorem s33_is {H : Heap} {b : List UInt8} {z : Bool} {c p : Nat} (hH : hget H c = some (curB z b p)) (hb : b.length < 2 ^ 61) (hp : p ≤ b.length) :
    ∃ q, run (C u56 [.ptr c 0]) H = outC z b c H q (fun x : Int => .int .i64 x) (rS33 b p) := by
  have hid := get_lt hH
  have hset := u58 hH
  have hs' : Pi.hset H c (.cells [BS z b, .int .i64 p]) = H := hset
  have h1 := ur4 (H := H) (b := b) (z := z) (p := p) (Nat.le_refl _) hb hp
  have g1 := fun (q : Nat) (v : Int) => ur9 (q := q) (v := v) hH
  rw [udi]
  unfold rS33
  unfold curB at hH
  cases hr : rdS b 33 b.length p with
  | ok v q =>
    have hv := rdS_lt hr
    rw [hr] at h1
    simp only [retS] at h1
    refine ⟨q, ?_⟩
    by_cases n1 : v < 0
    · simp only [n1, if_true, outC]
      simp +contextual -dsimp (disch := omega) only [↓goDown, goUp, cr, simprocAttr, hH, hs', h1, g1, List.length_map, n1, uek]
      rfl
    · by_cases n2 : 2147483647 < v
      · simp only [n1, n2, if_true, if_false, outC]
        simp +contextual -dsimp (disch := omega) only [↓goDown, goUp, cr, simprocAttr, hH, hs', h1, g1, List.length_map, n1, n2, uek]
        rfl
      · simp only [n1, n2, if_true, if_false, outC]
        simp +contextual -dsimp (disch := omega) only [↓goDown, goUp, cr, simprocAttr, hH, hs', h1, g1, List.length_map, n1, n2, u93]
  | err a w =>
    rw [hr] at h1
    simp only [retS] at h1
    refine ⟨p, ?_⟩
    simp only [outC, hset]
    have g2 := fun (u : PV) => uoc (H := H) (r := .ptr c 0) (v := u) (q := a) (uab hr)
    simp +contextual -dsimp (disch := omega) only [↓goDown, goUp, cr, simprocAttr, hH, hs', h1, g2, List.length_map]
    rfl
def hname (c : Nat) : Int :=
  if c = 115 then -2 else if c = 114 then -4 else if c = 113 then -10 else if c = 112 then -1 else if c = 111 then -3 else if c = 110 then -5 else if c = 109 then -6 else if c = 108 then -7 else if c = 107 then -8 else if c = 106 then -9 else if c = 105 then -11 else if c = 116 then -12 else 0
theorem uof {H : Heap} : run (C u8h []) H = some (.ok (.agg [.int .i64 (-11), .int .i64 (-9), .int .i64 (-8), .int .i64 (-7), .int .i64 (-6), .int .i64 (-5), .int .i64 (-3), .int .i64 (-1), .int .i64 (-10), .int .i64 (-4), .int .i64 (-2), .int .i64 (-12)]) H) := by
  rw [ue9]
  simp +contextual -dsimp (disch := omega) only [↓goDown, goUp, cr, simprocAttr]
theorem ujm {len : Nat} {cs : List PV} {k : IntKind} {n : Int} {H : Heap} : run (ixA len 1 none (.agg cs) (.int k n)) H = if 0 ≤ n ∧ n < len then ldFR H (nth cs n.toNat) else none := by
  unfold run ixA fd
  by_cases h : 0 ≤ n ∧ n < len
  · have h1 : (decide (0 ≤ n) && decide (n < (len : Int))) = true := by simp [h]
    rw [if_pos h]
    simp only [h1, cond_true, Nat.mul_one, nth_is]
    cases nth cs n.toNat <;> rfl
  · have h1 : (decide (0 ≤ n) && decide (n < (len : Int))) = false := by
      rw [Bool.and_eq_false_iff]
      by_cases h0 : 0 ≤ n
      · right; simp; omega
      · left; simp; omega
    rw [if_neg h]
    simp only [h1, cond_false]
    rfl
theorem ua1 {c : Nat} (h : c < 105 ∨ 116 < c) : hname c = 0 := by
  unfold hname
  rw [if_neg (by omega), if_neg (by omega), if_neg (by omega), if_neg (by omega), if_neg (by omega), if_neg (by omega), if_neg (by omega), if_neg (by omega), if_neg (by omega), if_neg (by omega), if_neg (by omega), if_neg (by omega)]
theorem up8 {H : Heap} {c : Nat} (hc : c < 256) : run (C u8o [.int .u8 c]) H = some (.ok (.int .i64 (hname c)) H) := by
  rw [uia]
  by_cases h1 : c < 105
  · have c1 : (c : Int) < 105 := by omega
    have : hname c = 0 := ua1 (.inl h1)
    rw [this]
    simp +contextual -dsimp (disch := omega) only [↓goDown, goUp, cr, simprocAttr, c1]
  · by_cases h2 : 116 < c
    · have c1 : ¬ (c : Int) < 105 := by omega
      have c2 : (116 : Int) < c := by omega
      have : hname c = 0 := ua1 (.inr h2)
      rw [this]
      simp +contextual -dsimp (disch := omega) only [↓goDown, goUp, cr, simprocAttr, c1, c2]
    · have h : c = 105 ∨ c = 106 ∨ c = 107 ∨ c = 108 ∨ c = 109 ∨ c = 110 ∨ c = 111 ∨ c = 112 ∨ c = 113 ∨ c = 114 ∨ c = 115 ∨ c = 116 := by omega
      rcases h with rfl | rfl | rfl | rfl | rfl | rfl | rfl | rfl | rfl | rfl | rfl | rfl <;>
        simp +contextual -dsimp (disch := omega) only [↓goDown, goUp, cr, simprocAttr, uof, ujm, Int.cast_ofNat_Int, hname] <;> rfl
end Go.Proofs.YthidcpkcfoldmaaGreat.Pi.Q
namespace Go.Proofs.YthidcpkcfoldmaaGreat.Pi.Q
open Go Go.Proofs.YthidcpkcfoldmaaGreat.Pi
attribute [local congr] ite_congr
theorem ujv {H : Heap} {b : List UInt8} {z : Bool} {c p : Nat} (hH : hget H c = some (curB z b p)) (hb : b.length < 2 ^ 61) (hp : p < b.length) :
    run (C u1y [.ptr c 0]) H = some (.ok (.int .u8 (b.getD p 0).toNat) H) := by
  rw [uu6 hH hb]
  unfold rLook
  rw [if_pos hp]
  simp only [outC, u58 hH]
theorem ufs {H : Heap} {b : List UInt8} {z : Bool} {c p : Nat} (hH : hget H c = some (curB z b p)) (hb : b.length < 2 ^ 61) (hp : ¬ p < b.length) :
    run (C u1y [.ptr c 0]) H = some (.pan (flt b.length 3) H) := by
  rw [uu6 hH hb]
  unfold rLook
  rw [if_neg hp]
  simp only [outC, u58 hH]
def rHeap (b : List UInt8) (p : Nat) : Rs Int :=
  if p < b.length then
    if hname (b.getD p 0).toNat ≠ 0 then .ok (hname (b.getD p 0).toNat) (p + 1) else rS33 b p
  else .err b.length 3
theorem u8z {n a w : Nat} : (flt a w).low n = true := by simp [flt, udu, ufx, u7x, u8m, u8b]
theorem uut {H : Heap} {b : List UInt8} {z : Bool} {c p : Nat} (hH : hget H c = some (curB z b p)) (hb : b.length < 2 ^ 61) (hp : p ≤ b.length) :
    ∃ q, run (C u3t [.ptr c 0]) H = outC z b c H q (fun x : Int => .int .i64 x) (rHeap b p) := by
  have hid := get_lt hH
  have hset := u58 hH
  rw [uc3]
  unfold rHeap
  by_cases h1 : p < b.length
  · have hl := ujv hH hb h1
    have hc := byt_lt (b.getD p 0)
    rw [if_pos h1]
    generalize (b.getD p 0).toNat = x at hl hc ⊢
    have hn := up8 (H := H) hc
    by_cases h2 : hname x = 0
    · obtain ⟨q, hs⟩ := s33_is hH hb hp
      refine ⟨q, ?_⟩
      rw [if_neg (by simpa using h2)]
      cases hr : rS33 b p with
      | ok v q' =>
        rw [hr] at hs
        simp only [outC] at hs ⊢
        simp +contextual -dsimp (disch := omega) only [↓goDown, goUp, cr, simprocAttr, hl, hn, h2, hs]
      | err a w =>
        rw [hr] at hs
        simp only [outC] at hs ⊢
        simp +contextual -dsimp (disch := omega) only [↓goDown, goUp, cr, simprocAttr, hl, hn, h2, hs, u8z]
    · refine ⟨p, ?_⟩
      rw [if_pos (by simpa using h2)]
      simp only [outC]
      unfold curB at hH ⊢
      simp +contextual -dsimp (disch := omega) only [↓goDown, goUp, cr, simprocAttr, hl, hn, h2, hH]
      rfl
  · refine ⟨p, ?_⟩
    have hl := ufs hH hb h1
    rw [if_neg h1]
    simp only [outC, hset]
    simp +contextual -dsimp (disch := omega) only [↓goDown, goUp, cr, simprocAttr, hl, u8z]
structure VT where
  num : Int
  nul : Bool
  heap : Int
  deriving DecidableEq
def encV (v : VT) : PV := .agg [.int .i64 v.num, .bool v.nul, .int .i64 v.heap]
def rRef (b : List UInt8) (p : Nat) : Rs VT :=
  if p < b.length then
    let x := (b.getD p 0).toNat
    if hname x ≠ 0 then .ok ⟨5, true, hname x⟩ (p + 1)
    else if x ≠ 99 ∧ x ≠ 100 then .err p 4
    else match rHeap b (p + 1) with
      | .ok h q => .ok ⟨5, x == 99, h⟩ q
      | .err a w => .err a w
  else .err b.length 3
theorem ns (p : Nat) : ((p + 1 : Nat) : Int) = (p : Int) + 1 := rfl
theorem ref_is {H : Heap} {b : List UInt8} {z : Bool} {c p : Nat} (hH : hget H c = some (curB z b p)) (hb : b.length < 2 ^ 61) (hp : p ≤ b.length) :
    ∃ q, run (C u6f [.ptr c 0]) H = outC z b c H q encV (rRef b p) := by
  have hid := get_lt hH
  have hset := u58 hH
  rw [ucv]
  unfold rRef
  have hH1 : ∀ L, hget (hadd H L) c = some (curB z b p) := fun L => by rw [uba hid]; exact hH
  by_cases h1 : p < b.length
  · have hl := fun L => ujv (hH1 L) hb h1
    have hc := byt_lt (b.getD p 0)
    rw [if_pos h1]
    generalize (b.getD p 0).toNat = x at hl hc ⊢
    have hn := fun L => up8 (H := hadd H L) hc
    by_cases h2 : hname x = 0
    · simp only [h2, ne_eq, not_true_eq_false, if_false]
      by_cases h3 : ¬ x = 99 ∧ ¬ x = 100
      · refine ⟨p, ?_⟩
        rw [if_pos h3]
        have c1 : ¬ (x : Int) = 99 := by omega
        have c2 : ¬ (x : Int) = 100 := by omega
        simp only [outC, hset]
        unfold curB at hH
        simp +contextual -dsimp (disch := omega) only [↓goDown, goUp, cr, simprocAttr, hl, hn, h2, hH, c1, c2, uek]
        rfl
      · rw [if_neg h3]
        have hH2 : ∀ L, hget (hadd (Pi.hset H c (curB z b (p + 1))) L) c = some (curB z b (p + 1)) := fun L => by
          rw [ubx hid, u7s hid]
        obtain ⟨q, hk⟩ := uut (hH2 [.cells [.int .i64 0, .bool false, .int .i64 0]]) hb (by omega)
        refine ⟨q, ?_⟩
        have so : ∀ u L, Pi.hset (hadd (Pi.hset H c (curB z b (p + 1))) L) c (curB z b u) = hadd (Pi.hset H c (curB z b u)) L := fun u L => by
          rw [ubt hid, set_set]
        have fin : ∀ (t : Bool), ((x : Int) == 99) = t → (((x : Int) = 99) = (t = true)) → ((x == 99) = t) → (((x : Int) = 99) ∨ ((x : Int) = 100)) →
            truncR H (run (u4n (.ptr c 0) (.ptr H.length 0) (.int .u8 x)) (hadd H [.cells [.int .i64 0, .bool false, .int .i64 0]])) = outC z b c H q encV (match rHeap b (p + 1) with | .ok h q => .ok ⟨5, x == 99, h⟩ q | .err a w => .err a w) := by
          intro t ht ht2 ht3 ho
          rw [ht3]
          cases hr : rHeap b (p + 1) with
          | ok v q' =>
            rw [hr] at hk
            simp only [outC, so] at hk ⊢
            unfold curB at hH hk ⊢
            simp only [ns] at hk
            simp +contextual -dsimp (disch := omega) only [↓goDown, goUp, cr, simprocAttr, hH, hk, u70, ht]
            rfl
          | err a w =>
            rw [hr] at hk
            simp only [outC, so] at hk ⊢
            unfold curB at hH hk ⊢
            simp only [ns] at hk
            simp +contextual -dsimp (disch := omega) only [↓goDown, goUp, cr, simprocAttr, hH, hk, u70, ht, u8z]
        by_cases c1 : x = 99
        · have e1 : ((x : Int) = 99) = True := eq_true (by omega)
          have e2 : ((x : Int) == 99) = true := by simpa using e1
          have e3 : (x == 99) = true := by simpa using c1
          refine Eq.trans ?_ (fin true e2 (by simp [e1]) e3 (.inl (by omega)))
          simp +contextual -dsimp (disch := omega) only [↓goDown, goUp, cr, simprocAttr, hl, hn, h2, e1]
        · have e1 : ((x : Int) = 99) = False := eq_false (by omega)
          have e2 : ((x : Int) == 99) = false := by simpa using e1
          have e3 : (x == 99) = false := by simpa using c1
          have e4 : ((x : Int) = 100) = True := eq_true (by omega)
          refine Eq.trans ?_ (fin false e2 (by simp [e1]) e3 (.inr (by omega)))
          simp +contextual -dsimp (disch := omega) only [↓goDown, goUp, cr, simprocAttr, hl, hn, h2, e1, e4]
    · refine ⟨p, ?_⟩
      rw [if_pos (by simpa using h2)]
      simp only [outC]
      unfold curB at hH ⊢
      simp +contextual -dsimp (disch := omega) only [↓goDown, goUp, cr, simprocAttr, hl, hn, h2, hH, ns]
      rfl
  · refine ⟨p, ?_⟩
    have hl := fun L => ufs (hH1 L) hb h1
    rw [if_neg h1]
    simp only [outC, hset]
    simp +contextual -dsimp (disch := omega) only [↓goDown, goUp, cr, simprocAttr, hl, u8z]
end Go.Proofs.YthidcpkcfoldmaaGreat.Pi.Q
namespace Go.Proofs.YthidcpkcfoldmaaGreat.Pi.Q
open Go Go.Proofs.YthidcpkcfoldmaaGreat.Pi
attribute [local congr] ite_congr
theorem uv6 {b : List UInt8} {p q : Nat} {v : Int} (h : rS33 b p = .ok v q) : q ≤ b.length ∧ 0 ≤ v ∧ v ≤ 2147483647 := by
  unfold rS33 at h
  cases hr : rdS b 33 b.length p with
  | ok n q' =>
    rw [hr] at h
    dsimp only at h
    have := rdS_lt hr
    split at h
    · cases h
    · split at h
      · cases h
      · simp only [Rs.ok.injEq] at h
        obtain ⟨rfl, rfl⟩ := h
        omega
  | err a w => rw [hr] at h; cases h
theorem uw7 (c : Nat) : -12 ≤ hname c ∧ hname c ≤ 0 := by
  unfold hname
  repeat' (split; omega)
  omega
theorem uqb {b : List UInt8} {p q : Nat} {v : Int} (h : rHeap b p = .ok v q) : q ≤ b.length ∧ -12 ≤ v ∧ v ≤ 2147483647 := by
  unfold rHeap at h
  split at h
  · split at h
    · simp only [Rs.ok.injEq] at h
      obtain ⟨rfl, rfl⟩ := h
      have := uw7 (b.getD p 0).toNat
      omega
    · have := uv6 h; omega
  · cases h
theorem uyd {b : List UInt8} {p q : Nat} {v : VT} (h : rRef b p = .ok v q) : q ≤ b.length := by
  unfold rRef at h
  split at h
  · dsimp only at h
    split at h
    · simp only [Rs.ok.injEq] at h; omega
    · split at h
      · cases h
      · cases hr : rHeap b (p + 1) with
        | ok n q' => rw [hr] at h; simp only [Rs.ok.injEq] at h; have := uqb hr; omega
        | err a w => rw [hr] at h; cases h
  · cases h
theorem uhs {v : VT} : strip (encV v) = encV v := nrfl rfl
theorem uki {v : VT} : stripC (encV v) = encV v := nrfl rfl
theorem uhi {v : VT} : isTup (encV v) = false := nrfl rfl
theorem ud7 {v : VT} : (encV v).cells = [.int .i64 v.num, .bool v.nul, .int .i64 v.heap] := nrfl rfl
theorem low_V {v : VT} {n : Nat} : (encV v).low n = true := by simp [encV, ufx, u7x, u8m, u8b, ubu]
def rVal (b : List UInt8) (p : Nat) : Rs VT :=
  if p < b.length then
    if (b.getD p 0).toNat = 123 then .err p 8
    else if 124 ≤ (b.getD p 0).toNat ∧ (b.getD p 0).toNat ≤ 127 then .ok ⟨128 - (b.getD p 0).toNat, false, 0⟩ (p + 1)
    else rRef b p
  else .err b.length 3
theorem usi {b : List UInt8} {p q : Nat} {v : VT} (h : rVal b p = .ok v q) : q ≤ b.length := by
  unfold rVal at h
  split at h
  · split at h
    · cases h
    · split at h
      · simp only [Rs.ok.injEq] at h; omega
      · exact uyd h
  · cases h
theorem val_is {H : Heap} {b : List UInt8} {z : Bool} {c p : Nat} (hH : hget H c = some (curB z b p)) (hb : b.length < 2 ^ 61) (hp : p ≤ b.length) :
    ∃ q, run (C u3b [.ptr c 0]) H = outC z b c H q encV (rVal b p) := by
  have hid := get_lt hH
  have hset := u58 hH
  rw [ude]
  unfold rVal
  have hH1 : ∀ L, hget (hadd H L) c = some (curB z b p) := fun L => by rw [uba hid]; exact hH
  by_cases h1 : p < b.length
  · have hl := fun L => ujv (hH1 L) hb h1
    have hc := byt_lt (b.getD p 0)
    rw [if_pos h1]
    generalize (b.getD p 0).toNat = x at hl hc ⊢
    by_cases h2 : x = 123
    · refine ⟨p, ?_⟩
      rw [if_pos h2]
      have c1 : (x : Int) = 123 := by omega
      simp only [outC, hset]
      unfold curB at hH
      simp +contextual -dsimp (disch := omega) only [↓goDown, goUp, cr, simprocAttr, hl, eq_true c1, hH, uek]
      rfl
    · rw [if_neg h2]
      have c1 : ¬ (x : Int) = 123 := by omega
      by_cases h3 : 124 ≤ x ∧ x ≤ 127
      · refine ⟨p, ?_⟩
        rw [if_pos h3]
        have c2 : (124 : Int) ≤ x := by omega
        have c3 : (x : Int) ≤ 127 := by omega
        simp only [outC]
        unfold curB at hH ⊢
        simp +contextual -dsimp (disch := omega) only [↓goDown, goUp, cr, simprocAttr, hl, c1, c2, c3, hH, ns]
        rfl
      · rw [if_neg h3]
        obtain ⟨q, hk⟩ := ref_is (hH1 [.cells [.int .i64 0, .bool false, .int .i64 0]]) hb hp
        refine ⟨q, ?_⟩
        have so : ∀ u L, Pi.hset (hadd H L) c (curB z b u) = hadd (Pi.hset H c (curB z b u)) L := fun u L => by rw [ucz hid]
        have e3 : ((124 : Int) ≤ x) = (124 ≤ x) := by rw [eq_iff_iff]; omega
        have e4 : ((x : Int) ≤ 127) = (x ≤ 127) := by rw [eq_iff_iff]; omega
        by_cases h4 : 124 ≤ x
        · have h5 : ¬ x ≤ 127 := fun h => h3 ⟨h4, h⟩
          cases hr : rRef b p <;> rw [hr] at hk <;> simp only [outC, so] at hk ⊢ <;>
            simp +contextual -dsimp (disch := omega) only [↓goDown, goUp, cr, simprocAttr, hl, c1, e3, e4, h4, h5, hk, u7b, u8z, uhs, uhi, ud7, low_V] <;> rfl
        · cases hr : rRef b p <;> rw [hr] at hk <;> simp only [outC, so] at hk ⊢ <;>
            simp +contextual -dsimp (disch := omega) only [↓goDown, goUp, cr, simprocAttr, hl, c1, e3, e4, h4, hk, u7b, u8z, uhs, uhi, ud7, low_V] <;> rfl
  · refine ⟨p, ?_⟩
    have hl := fun L => ufs (hH1 L) hb h1
    rw [if_neg h1]
    simp only [outC, hset]
    simp +contextual -dsimp (disch := omega) only [↓goDown, goUp, cr, simprocAttr, hl, u8z]
def accP (sz : Nat) (l : List PV) : PV := match l with | [] => .slice false true 0 [] | l => .slice true false sz l
theorem ap_acc {H : Heap} {sz b : Nat} {l : List PV} {v : PV} {o : Bool} (h : (l.length + 1) * max b 1 ≤ 140737488355328) :
    run (ap true sz b (accP sz l) (.slice o false sz [v])) H = some (.ok (accP sz (l ++ [v])) H) := by
  cases l with
  | nil =>
    unfold accP run ap tail growB
    have h2 : max b 1 ≤ 140737488355328 := by simpa using h
    simp [h2, M.pure]
  | cons x r =>
    unfold accP run ap tail growB
    have h2 : ((x :: r).length + [v].length) * max b 1 ≤ 140737488355328 := by simpa using h
    simp only [beq_self_eq_true, Bool.or_true, cond_true, cond_false, Bool.true_and, decide_eq_true h2]
    rfl
structure BK where
  ty : Int
  res : VT
  deriving DecidableEq
def encB (v : BK) : PV := .agg [.int .i64 v.ty, .int .i64 v.res.num, .bool v.res.nul, .int .i64 v.res.heap]
def rBlock (b : List UInt8) (p : Nat) : Rs BK :=
  if p < b.length then
    if (b.getD p 0).toNat = 64 then .ok ⟨-1, ⟨0, false, 0⟩⟩ (p + 1)
    else if 64 < (b.getD p 0).toNat ∧ (b.getD p 0).toNat < 128 then match rVal b p with
      | .ok v q => .ok ⟨-1, v⟩ q
      | .err a w => .err a w
    else match rS33 b p with
      | .ok v q => .ok ⟨v, ⟨0, false, 0⟩⟩ q
      | .err a w => .err a w
  else .err b.length 3
theorem uxz {H : Heap} {b : List UInt8} {z : Bool} {c p : Nat} (hH : hget H c = some (curB z b p)) (hb : b.length < 2 ^ 61) (hp : p ≤ b.length) :
    ∃ q, run (C u4i [.ptr c 0]) H = outC z b c H q encB (rBlock b p) := by
  have hid := get_lt hH
  have hset := u58 hH
  rw [ub9]
  unfold rBlock
  have hH1 : ∀ L, hget (hadd H L) c = some (curB z b p) := fun L => by rw [uba hid]; exact hH
  have so : ∀ u L, Pi.hset (hadd H L) c (curB z b u) = hadd (Pi.hset H c (curB z b u)) L := fun u L => by rw [ucz hid]
  by_cases h1 : p < b.length
  · have hl := fun L => ujv (hH1 L) hb h1
    have hc := byt_lt (b.getD p 0)
    rw [if_pos h1]
    generalize (b.getD p 0).toNat = x at hl hc ⊢
    by_cases h2 : x = 64
    · refine ⟨p, ?_⟩
      rw [if_pos h2]
      have c1 : (x : Int) = 64 := by omega
      simp only [outC]
      unfold curB at hH ⊢
      simp +contextual -dsimp (disch := omega) only [↓goDown, goUp, cr, simprocAttr, hl, eq_true c1, hH, ns]
      rfl
    · rw [if_neg h2]
      have c1 : ¬ (x : Int) = 64 := by omega
      have e3 : ((64 : Int) < x) = (64 < x) := by rw [eq_iff_iff]; omega
      have e4 : ((x : Int) < 128) = (x < 128) := by rw [eq_iff_iff]; omega
      by_cases h3 : 64 < x ∧ x < 128
      · rw [if_pos h3]
        obtain ⟨q, hk⟩ := val_is (hH1 [.cells [.int .i64 0, .int .i64 0, .bool false, .int .i64 0]]) hb hp
        refine ⟨q, ?_⟩
        cases hr : rVal b p <;> rw [hr] at hk <;> simp only [outC, so] at hk ⊢ <;>
          simp +contextual -dsimp (disch := omega) only [↓goDown, goUp, cr, simprocAttr, hl, c1, e3, e4, h3.1, h3.2, hk, u8z, uhs, uki, uhi, ud7, low_V] <;> rfl
      · rw [if_neg h3]
        obtain ⟨q, hk⟩ := s33_is (hH1 [.cells [.int .i64 0, .int .i64 0, .bool false, .int .i64 0]]) hb hp
        refine ⟨q, ?_⟩
        by_cases h4 : 64 < x
        · have h5 : ¬ x < 128 := fun h => h3 ⟨h4, h⟩
          cases hr : rS33 b p <;> rw [hr] at hk <;> simp only [outC, so] at hk ⊢ <;>
            simp +contextual -dsimp (disch := omega) only [↓goDown, goUp, cr, simprocAttr, hl, c1, e3, e4, h4, h5, hk, u8z] <;> rfl
        · cases hr : rS33 b p <;> rw [hr] at hk <;> simp only [outC, so] at hk ⊢ <;>
            simp +contextual -dsimp (disch := omega) only [↓goDown, goUp, cr, simprocAttr, hl, c1, e3, e4, h4, hk, u8z] <;> rfl
  · refine ⟨p, ?_⟩
    have hl := fun L => ufs (hH1 L) hb h1
    rw [if_neg h1]
    simp only [outC, hset]
    simp +contextual -dsimp (disch := omega) only [↓goDown, goUp, cr, simprocAttr, hl, u8z]
end Go.Proofs.YthidcpkcfoldmaaGreat.Pi.Q
namespace Go.Proofs.YthidcpkcfoldmaaGreat.Pi.Q
open Go Go.Proofs.YthidcpkcfoldmaaGreat.Pi
attribute [local congr] ite_congr
theorem run_ta {H : Heap} {t : TypeId} {zv v : PV} : run (ta t zv false (.iface t v)) H = some (.ok v H) := by
  unfold run ta
  simp [M.pure]
theorem run_mf {H : Heap} {f : FuncId} {a b : List PV} : run (mf f a b) H = if (a.all isVal && b.all isVal) = true then some (.ok (.fn f (a.map stripC) (b.map stripC)) H) else none := by
  unfold run mf
  cases (a.all isVal && b.all isVal) <;> rfl
theorem bi_if {a : PV} {t : TypeId} {H : Heap} : run (bi .neq .iface (.iface t a) .niliface) H = some (.ok (.bool true) H) := nrfl rfl
theorem bi_ifn {H : Heap} : run (bi .neq .iface .niliface .niliface) H = some (.ok (.bool false) H) := nrfl rfl
theorem cutL {H : Heap} {L : List Box} (k : Nat) : hcut (hadd H L) (H.length + k) = hadd H (L.take k) := by unfold hcut hadd; rw [List.take_append, List.take_of_length_le (by omega), Nat.add_sub_cancel_left]
theorem uo6 {n k : Nat} : (n + (k + 1) == n) = false := by simp
def outR {α : Type} (enc : α → PV) (zero : PV) : Rs α → PV
  | .ok v p => .tup [enc v, .int .i64 p, .int .i64 0]
  | .err p e => .tup [zero, .int .i64 p, .int .i64 e]
def atPl (at_ : Int) (b : List UInt8) (zero r : PV) : PV := if at_ < 0 ∨ b.length < at_ then .tup [zero, .int .i64 0, .int .i64 1] else r
theorem uol {b : List UInt8} {z : Bool} (hb : b.length < 2 ^ 61) {one : PV} {r : Nat → Rs Int}
    (hone : ∀ H c p, hget H c = some (curB z b p) → p ≤ b.length → ∃ q, run (callV P C (strip one) [.ptr c 0]) H = outC z b c H q (fun x : Int => .int .i64 x) (r p)) {H : Heap} {at_ : Int} :
    run (C u7h [BS z b, .int .i64 at_, one]) H = some (.ok (atPl at_ b (.int .i64 0) (outR (fun x : Int => .int .i64 x) (.int .i64 0) (r at_.toNat))) H) := by
  rw [uei]
  unfold atPl
  by_cases h1 : at_ < 0
  · rw [if_pos (.inl h1)]
    simp +contextual -dsimp (disch := omega) only [↓goDown, goUp, cr, simprocAttr, eq_true h1]
  · by_cases h2 : (b.length : Int) < at_
    · rw [if_pos (.inr h2)]
      simp +contextual -dsimp (disch := omega) only [↓goDown, goUp, cr, simprocAttr, h1, h2, List.length_map]
    · rw [if_neg (by omega)]
      obtain ⟨p, rfl⟩ := Int.eq_ofNat_of_zero_le (show 0 ≤ at_ by omega)
      rw [Int.toNat_natCast]
      obtain ⟨q, hk⟩ := hone (hadd H [.cells [.int .i64 0], .cells [.int .i64 0], .cells [.int .i64 0], .cells [.int .i64 0], curB z b p]) (H.length + 4) p (by rw [u7p]; rfl) (by omega)
      cases hr : r p <;> rw [hr] at hk <;> simp only [outC, outR, uad] at hk ⊢ <;> unfold curB at hk <;>
        simp +contextual -dsimp (disch := omega) only [↓goDown, goUp, cr, simprocAttr, h1, h2, List.length_map, run_mf, hk, flt, uc7, uc5, run_ta, bi_if, bi_ifn, cutL, uo6, Nat.reduceBeqDiff]
-- generated
theorem uty {b : List UInt8} {z : Bool} (hb : b.length < 2 ^ 61) {one : PV} {r : Nat → Rs VT}
    (hone : ∀ H c p, hget H c = some (curB z b p) → p ≤ b.length → ∃ q, run (callV P C (strip one) [.ptr c 0]) H = outC z b c H q encV (r p)) {H : Heap} {at_ : Int} :
    run (C u4c [BS z b, .int .i64 at_, one]) H = some (.ok (atPl at_ b (encV ⟨0, false, 0⟩) (outR encV (encV ⟨0, false, 0⟩) (r at_.toNat))) H) := by
  rw [u9n]
  unfold atPl
  by_cases h1 : at_ < 0
  · rw [if_pos (.inl h1)]
    simp +contextual -dsimp (disch := omega) only [↓goDown, goUp, cr, simprocAttr, eq_true h1, encV]
  · by_cases h2 : (b.length : Int) < at_
    · rw [if_pos (.inr h2)]
      simp +contextual -dsimp (disch := omega) only [↓goDown, goUp, cr, simprocAttr, h1, h2, List.length_map, encV]
    · rw [if_neg (by omega)]
      obtain ⟨p, rfl⟩ := Int.eq_ofNat_of_zero_le (show 0 ≤ at_ by omega)
      rw [Int.toNat_natCast]
      obtain ⟨q, hk⟩ := hone (hadd H [.cells [.int .i64 0, .bool false, .int .i64 0], .cells [.int .i64 0], .cells [.int .i64 0], .cells [.int .i64 0, .bool false, .int .i64 0], curB z b p]) (H.length + 4) p (by rw [u7p]; rfl) (by omega)
      cases hr : r p <;> rw [hr] at hk <;> simp only [outC, outR, uad] at hk ⊢ <;> unfold curB at hk <;>
        simp +contextual -dsimp (disch := omega) only [↓goDown, goUp, cr, simprocAttr, h1, h2, List.length_map, run_mf, hk, flt, u8q, u8p, run_ta, bi_if, bi_ifn, cutL, uo6, Nat.reduceBeqDiff, encV]
theorem utb {b : List UInt8} {z : Bool} (hb : b.length < 2 ^ 61) {one : PV} {r : Nat → Rs BK}
    (hone : ∀ H c p, hget H c = some (curB z b p) → p ≤ b.length → ∃ q, run (callV P C (strip one) [.ptr c 0]) H = outC z b c H q encB (r p)) {H : Heap} {at_ : Int} :
    run (C u4x [BS z b, .int .i64 at_, one]) H = some (.ok (atPl at_ b (encB ⟨0, ⟨0, false, 0⟩⟩) (outR encB (encB ⟨0, ⟨0, false, 0⟩⟩) (r at_.toNat))) H) := by
  rw [ua8]
  unfold atPl
  by_cases h1 : at_ < 0
  · rw [if_pos (.inl h1)]
    simp +contextual -dsimp (disch := omega) only [↓goDown, goUp, cr, simprocAttr, eq_true h1, encB]
  · by_cases h2 : (b.length : Int) < at_
    · rw [if_pos (.inr h2)]
      simp +contextual -dsimp (disch := omega) only [↓goDown, goUp, cr, simprocAttr, h1, h2, List.length_map, encB]
    · rw [if_neg (by omega)]
      obtain ⟨p, rfl⟩ := Int.eq_ofNat_of_zero_le (show 0 ≤ at_ by omega)
      rw [Int.toNat_natCast]
      obtain ⟨q, hk⟩ := hone (hadd H [.cells [.int .i64 0, .int .i64 0, .bool false, .int .i64 0], .cells [.int .i64 0], .cells [.int .i64 0], .cells [.int .i64 0, .int .i64 0, .bool false, .int .i64 0], curB z b p]) (H.length + 4) p (by rw [u7p]; rfl) (by omega)
      cases hr : r p <;> rw [hr] at hk <;> simp only [outC, outR, uad] at hk ⊢ <;> unfold curB at hk <;>
        simp +contextual -dsimp (disch := omega) only [↓goDown, goUp, cr, simprocAttr, h1, h2, List.length_map, run_mf, hk, flt, u9b, u9d, run_ta, bi_if, bi_ifn, cutL, uo6, Nat.reduceBeqDiff, encB]
end Go.Proofs.YthidcpkcfoldmaaGreat.Pi.Q
namespace Go.Proofs.YthidcpkcfoldmaaGreat.Pi.Q
open Go Go.Proofs.YthidcpkcfoldmaaGreat.Pi
attribute [local congr] ite_congr
def rst (z : Bool) (b : List UInt8) (p pl e : Nat) : Box := .cells [BS z b, .int .i64 p, .int .i64 pl, .int .i64 e]
theorem udj {H : Heap} {b : List UInt8} {z : Bool} {c p a w : Nat} (hH : hget H c = some (rst z b p 0 0)) :
    run (C u06 [.ptr c 0, .int .i64 a, .int .i64 w]) H = some (.ok (.tup []) (hset H c (rst z b p a w))) := by
  have hid := get_lt hH
  unfold rst at hH ⊢
  have hH : hget H c = some (.cells [BS z b, .int .i64 p, .int .i64 0, .int .i64 0]) := hH
  rw [u8v]
  simp +contextual -dsimp (disch := omega) only [↓goDown, goUp, cr, simprocAttr, hH]
theorem unn {H : Heap} {b : List UInt8} {z : Bool} {c p : Nat} (hH : hget H c = some (rst z b p 0 0)) (hb : b.length < 2 ^ 61) (hp : p < b.length) :
    run (C u1r [.ptr c 0]) H = some (.ok (.tup [.int .u8 (b.getD p 0).toNat, .bool true]) H) := by
  have hid := get_lt hH
  have hset := u58 hH
  unfold rst at hH hset
  have hH : hget H c = some (.cells [BS z b, .int .i64 p, .int .i64 0, .int .i64 0]) := hH
  have hset : Pi.hset H c (.cells [BS z b, .int .i64 p, .int .i64 0, .int .i64 0]) = H := hset
  have hg := ubh hp
  have hgd : b.getD p 0 = b[p] := by simp [hp]
  have c0 : ¬ (b.length : Int) ≤ p := by omega
  rw [u6h, hgd]
  simp +contextual -dsimp (disch := omega) only [↓goDown, goUp, cr, simprocAttr, hH, hset, hg, byt, c0, List.length_map, Int.toNat_natCast]
theorem unu {H : Heap} {b : List UInt8} {z : Bool} {c p : Nat} (hH : hget H c = some (rst z b p 0 0)) (hp : ¬ p < b.length) :
    run (C u1r [.ptr c 0]) H = some (.ok (.tup [.int .u8 0, .bool false]) H) := by
  have hid := get_lt hH
  have hset := u58 hH
  unfold rst at hH hset
  have hH : hget H c = some (.cells [BS z b, .int .i64 p, .int .i64 0, .int .i64 0]) := hH
  have hset : Pi.hset H c (.cells [BS z b, .int .i64 p, .int .i64 0, .int .i64 0]) = H := hset
  have c0 : (b.length : Int) ≤ p := by omega
  rw [u6h]
  simp +contextual -dsimp (disch := omega) only [↓goDown, goUp, cr, simprocAttr, hH, hset, c0, List.length_map, Int.toNat_natCast]
theorem uib {H : Heap} {b : List UInt8} {z : Bool} {c p q : Nat} {n : Int} (hH : hget H c = some (rst z b p 0 0)) (hb : b.length < 2 ^ 61) (hp : p ≤ b.length) (hr : rdS b 33 b.length p = .ok n q) :
    run (C u0z [.ptr c 0, .int .i64 33, .bool true]) H = some (.ok (.int .u64 (IntKind.u64.wrap n)) (hset H c (rst z b q 0 0))) := by
  have hid := get_lt hH
  have h1 := ufk (H := H) (b := b) (z := z) (a := p) (B := 33) (Nat.le_refl _) hb (.inr (.inl rfl)) hp
  rw [hr] at h1
  have h1 : run (C u0e [BS z b, .int .i64 p, .int .i64 b.length, .int .i64 33, .bool true]) H = some (.ok (.tup [.int .u64 (IntKind.u64.wrap n), .int .i64 q, .int .i64 0]) H) := h1
  generalize IntKind.u64.wrap n = m at h1 ⊢
  unfold rst at hH ⊢
  have hH : hget H c = some (.cells [BS z b, .int .i64 p, .int .i64 0, .int .i64 0]) := hH
  rw [u5y]
  simp +contextual -dsimp (disch := omega) only [↓goDown, goUp, cr, simprocAttr, hH, h1, List.length_map]
theorem ui8 {H : Heap} {b : List UInt8} {z : Bool} {c p a w : Nat} (hH : hget H c = some (rst z b p 0 0)) (hb : b.length < 2 ^ 61) (hp : p ≤ b.length) (hr : rdS b 33 b.length p = .err a w) :
    run (C u0z [.ptr c 0, .int .i64 33, .bool true]) H = some (.ok (.int .u64 0) (hset H c (rst z b p a w))) := by
  have hid := get_lt hH
  have h1 := ufk (H := H) (b := b) (z := z) (a := p) (B := 33) (Nat.le_refl _) hb (.inr (.inl rfl)) hp
  have h2 := udj (a := a) (w := w) hH
  have hw := uab hr
  have c1 : ¬ (w : Int) = 0 := by omega
  rw [hr] at h1
  have h1 : run (C u0e [BS z b, .int .i64 p, .int .i64 b.length, .int .i64 33, .bool true]) H = some (.ok (.tup [.int .u64 0, .int .i64 a, .int .i64 w]) H) := h1
  unfold rst at hH
  have hH : hget H c = some (.cells [BS z b, .int .i64 p, .int .i64 0, .int .i64 0]) := hH
  rw [u5y]
  simp +contextual -dsimp (disch := omega) only [↓goDown, goUp, cr, simprocAttr, hH, h1, h2, c1, List.length_map]
theorem ubi {H : Heap} {c : Nat} : run (C u2e [.int .u8 c]) H = some (.ok (.int .i64 (hname c)) H) := by
  rw [ua0]
  by_cases h : c < 105 ∨ 116 < c
  · rw [ua1 h]
    have e115 : ((c : Int) = 115) = False := eq_false (by omega)
    have e114 : ((c : Int) = 114) = False := eq_false (by omega)
    have e113 : ((c : Int) = 113) = False := eq_false (by omega)
    have e112 : ((c : Int) = 112) = False := eq_false (by omega)
    have e111 : ((c : Int) = 111) = False := eq_false (by omega)
    have e110 : ((c : Int) = 110) = False := eq_false (by omega)
    have e109 : ((c : Int) = 109) = False := eq_false (by omega)
    have e108 : ((c : Int) = 108) = False := eq_false (by omega)
    have e107 : ((c : Int) = 107) = False := eq_false (by omega)
    have e106 : ((c : Int) = 106) = False := eq_false (by omega)
    have e105 : ((c : Int) = 105) = False := eq_false (by omega)
    have e116 : ((c : Int) = 116) = False := eq_false (by omega)
    simp (dsimp := false) (disch := omega) only [↓goDown, goUp, cr, simprocAttr, e115, e114, e113, e112, e111, e110, e109, e108, e107, e106, e105, e116]
  · have h : c = 105 ∨ c = 106 ∨ c = 107 ∨ c = 108 ∨ c = 109 ∨ c = 110 ∨ c = 111 ∨ c = 112 ∨ c = 113 ∨ c = 114 ∨ c = 115 ∨ c = 116 := by omega
    rcases h with rfl | rfl | rfl | rfl | rfl | rfl | rfl | rfl | rfl | rfl | rfl | rfl <;>
      simp (dsimp := false) (disch := omega) only [↓goDown, goUp, cr, simprocAttr, Int.cast_ofNat_Int] <;> rfl
def outF (z : Bool) (b : List UInt8) (c : Nat) (H : Heap) {α : Type} (enc : α → PV) (r : Option (Out PV)) : Rs α → Prop
  | .ok v p => r = some (.ok (enc v) (hset H c (rst z b p 0 0)))
  | .err a w => ∃ v q, r = some (.ok (enc v) (hset H c (rst z b q a w))) ∧ w ≠ 0
theorem upy {H : Heap} {b : List UInt8} {z : Bool} {c p : Nat} (hH : hget H c = some (rst z b p 0 0)) (hb : b.length < 2 ^ 61) (hp : p ≤ b.length) :
    outF z b c H (fun x : Int => .int .i64 x) (run (C u0q [.ptr c 0]) H) (rHeap b p) := by
  have hid := get_lt hH
  have hset := u58 hH
  have hH' : hget H c = some (.cells [BS z b, .int .i64 p, .int .i64 0, .int .i64 0]) := hH
  have hs' : Pi.hset H c (.cells [BS z b, .int .i64 p, .int .i64 0, .int .i64 0]) = H := hset
  rw [u8n]
  unfold rHeap
  -- behind the look
  have tail : ∀ (r : Option (Out PV)), r = truncR H (run (M.bind (C u0z [.ptr c 0, .int .i64 33, .bool true]) fun t32_18 =>
      M.bind (cv (.int .i64) true t32_18) fun t33_19 =>
      M.bind (nc P (.ptr c 0)) fun t35_20 =>
      M.bind (fa 3 t35_20) fun t36_21 =>
      M.bind (ld none false t36_21) fun t37_22 =>
      M.bind (bi .eql .none t37_22 (.int .i64 0)) fun t38_23 =>
      M.bind (gd (strip t38_23) true (M.pure (strip t33_19))) fun t40_24 =>
      M.bind (gd (strip t38_23) true (bi .lss .none t40_24 (.int .i64 0))) fun t41_25 =>
      M.bind (pick (strip t38_23) t41_25 (.bool false)) fun t42_26 =>
      condM t42_26
      (M.bind (C u06 [.ptr c 0, .int .i64 p, .int .i64 4]) fun t45_27 =>
      u1e (.ptr c 0) (.int .i64 0) (.int .i64 p) t33_19)
      (u1e (.ptr c 0) (.int .i64 0) (.int .i64 p) t33_19)) H) → outF z b c H (fun x : Int => .int .i64 x) r (rS33 b p) := by
    intro r hr0
    subst hr0
    unfold rS33
    cases hr : rdS b 33 b.length p with
    | ok n q =>
      have hn := rdS_lt hr
      have h1 := uib hH hb hp hr
      have hw : IntKind.i64.wrap (IntKind.u64.wrap n) = n := by rw [wi, wu]; omega
      have hH2 : hget (Pi.hset H c (rst z b q 0 0)) c = some (rst z b q 0 0) := u7s hid
      have hH3 : hget (Pi.hset H c (rst z b q 0 0)) c = some (.cells [BS z b, .int .i64 q, .int .i64 0, .int .i64 0]) := hH2
      have f4 := fun a w => udj (a := a) (w := w) hH2
      simp only [set_set] at f4
      dsimp only
      by_cases n1 : n < 0
      · rw [if_pos n1]
        refine ⟨0, q, ?_, by omega⟩
        have hH5 : hget (Pi.hset H c (rst z b q p 4)) c = some (.cells [BS z b, .int .i64 q, .int .i64 p, .int .i64 4]) := u7s hid
        have f4 := f4 p 4
        have f4 : run (C u06 [.ptr c 0, .int .i64 p, .int .i64 4]) (Pi.hset H c (rst z b q 0 0)) = some (.ok (.tup []) (Pi.hset H c (rst z b q p 4))) := f4
        simp +contextual -dsimp (disch := omega) only [↓goDown, goUp, cr, simprocAttr, h1, hw, hH3, n1, f4, u1n, u1k, hH5]
      · rw [if_neg n1]
        by_cases n2 : 2147483647 < n
        · rw [if_pos n2]
          refine ⟨0, q, ?_, by omega⟩
          have n3 : (2147483648 : Int) ≤ n := by omega
          have hH5 : hget (Pi.hset H c (rst z b q p 2)) c = some (.cells [BS z b, .int .i64 q, .int .i64 p, .int .i64 2]) := u7s hid
          have f4 : run (C u06 [.ptr c 0, .int .i64 p, .int .i64 2]) (Pi.hset H c (rst z b q 0 0)) = some (.ok (.tup []) (Pi.hset H c (rst z b q p 2))) := f4 p 2
          simp +contextual -dsimp (disch := omega) only [↓goDown, goUp, cr, simprocAttr, h1, hw, hH3, n1, n3, f4, u1n, u1k, hH5]
        · rw [if_neg n2]
          have n3 : ¬ (2147483648 : Int) ≤ n := by omega
          show _ = some _
          simp +contextual -dsimp (disch := omega) only [↓goDown, goUp, cr, simprocAttr, h1, hw, hH3, n1, n3, u1n, u1k]
    | err a w =>
      have h1 := ui8 hH hb hp hr
      have hw := uab hr
      have c1 : ¬ (w : Int) = 0 := by omega
      have hH5 : hget (Pi.hset H c (rst z b p a w)) c = some (.cells [BS z b, .int .i64 p, .int .i64 a, .int .i64 w]) := u7s hid
      have e0 : IntKind.i64.wrap 0 = 0 := rfl
      refine ⟨0, p, ?_, hw⟩
      simp +contextual -dsimp (disch := omega) only [↓goDown, goUp, cr, simprocAttr, h1, hH5, c1, e0, u1n, u1k]
  by_cases h1 : p < b.length
  · have hl := unn hH hb h1
    have hc := byt_lt (b.getD p 0)
    rw [if_pos h1]
    generalize (b.getD p 0).toNat = x at hl hc ⊢
    have hn := ubi (H := H) (c := x)
    by_cases h2 : hname x = 0
    · rw [if_neg (by simpa using h2)]
      refine tail _ ?_
      simp +contextual -dsimp (disch := omega) only [↓goDown, goUp, cr, simprocAttr, hl, hn, h2, hH', hs']
    · rw [if_pos (by simpa using h2)]
      show _ = some _
      simp +contextual -dsimp (disch := omega) only [↓goDown, goUp, cr, simprocAttr, hl, ubi, h2, hH']
      rfl
  · have hl := unu hH h1
    have e3 : rS33 b p = .err b.length 3 := by
      have hpe : p = b.length := by omega
      subst hpe
      unfold rS33 rdS lebS
      rw [if_neg (by omega)]
    rw [if_neg h1, ← e3]
    refine tail _ ?_
    simp +contextual -dsimp (disch := omega) only [↓goDown, goUp, cr, simprocAttr, hl, hH', hs']
def rsRef (t : Bool) : Rs Int → Rs VT
  | .ok h q => .ok ⟨5, t, h⟩ q
  | .err a w => .err a w
theorem uoq {c : Nat} (h : 105 ≤ c ∧ c ≤ 116) : hname c ≠ 0 := by
  have h : c = 105 ∨ c = 106 ∨ c = 107 ∨ c = 108 ∨ c = 109 ∨ c = 110 ∨ c = 111 ∨ c = 112 ∨ c = 113 ∨ c = 114 ∨ c = 115 ∨ c = 116 := by omega
  rcases h with rfl | rfl | rfl | rfl | rfl | rfl | rfl | rfl | rfl | rfl | rfl | rfl <;> decide
def rOf (any : Bool) (b : List UInt8) (p x : Nat) : Rs VT :=
  if x = 99 ∨ x = 100 then rsRef (x == 99) (rHeap b (p + 1))
  else if 105 ≤ x ∧ x ≤ 116 then .ok ⟨5, true, hname x⟩ (p + 1)
  else if any = true ∧ x = 123 then .err p 8
  else if any = true ∧ (124 ≤ x ∧ x ≤ 127) then .ok ⟨128 - x, false, 0⟩ (p + 1)
  else .err p 4
theorem ut8 {b : List UInt8} {p : Nat} (h : p < b.length) : rRef b p = rOf false b p (b.getD p 0).toNat := by
  unfold rRef rOf
  rw [if_pos h]
  generalize (b.getD p 0).toNat = x
  dsimp only
  by_cases h1 : x = 99 ∨ x = 100
  · have hz : hname x = 0 := ua1 (by omega)
    have q3 : ¬ (x ≠ 99 ∧ x ≠ 100) := by omega
    rw [if_neg (fun h => h hz), if_neg q3, if_pos h1]
    cases rHeap b (p + 1) <;> rfl
  · rw [if_neg h1]
    by_cases h2 : 105 ≤ x ∧ x ≤ 116
    · rw [if_pos (uoq h2), if_pos h2]
    · have hz : hname x = 0 := ua1 (by omega)
      have q3 : (x ≠ 99 ∧ x ≠ 100) := by omega
      rw [if_neg (fun h => h hz), if_pos q3, if_neg h2, if_neg (by simp), if_neg (by simp)]
theorem v002 {b : List UInt8} {p : Nat} (h : p < b.length) : rVal b p = rOf true b p (b.getD p 0).toNat := by
  have hr := ut8 h
  unfold rVal
  rw [if_pos h]
  unfold rOf at hr ⊢
  generalize (b.getD p 0).toNat = x at *
  by_cases h1 : x = 123
  · have q1 : ¬ (x = 99 ∨ x = 100) := by omega
    have q2 : ¬ (105 ≤ x ∧ x ≤ 116) := by omega
    rw [if_pos h1, if_neg q1, if_neg q2, if_pos ⟨rfl, h1⟩]
  · rw [if_neg h1]
    by_cases h2 : 124 ≤ x ∧ x ≤ 127
    · have q1 : ¬ (x = 99 ∨ x = 100) := by omega
      have q2 : ¬ (105 ≤ x ∧ x ≤ 116) := by omega
      rw [if_pos h2, if_neg q1, if_neg q2, if_neg (fun h => h1 h.2), if_pos ⟨rfl, h2⟩]
    · rw [if_neg h2, hr]
      simp only [h1, h2, and_false, if_false]
theorem uul {H : Heap} {b : List UInt8} {z : Bool} {c p : Nat} {any : Bool} (hH : hget H c = some (rst z b p 0 0)) (hb : b.length < 2 ^ 61) (hp : p ≤ b.length) :
    outF z b c H encV (run (C u11 [.ptr c 0, .bool any, .bool false]) H) (if p < b.length then rOf any b p (b.getD p 0).toNat else .err b.length 3) := by
  have hid := get_lt hH
  have hset := u58 hH
  have hH1 : ∀ L, hget (hadd H L) c = some (rst z b p 0 0) := fun L => by rw [uba hid]; exact hH
  have hH' : hget H c = some (.cells [BS z b, .int .i64 p, .int .i64 0, .int .i64 0]) := hH
  have hs' : Pi.hset H c (.cells [BS z b, .int .i64 p, .int .i64 0, .int .i64 0]) = H := hset
  have so : ∀ u a w L, Pi.hset (hadd H L) c (rst z b u a w) = hadd (Pi.hset H c (rst z b u a w)) L := fun u a w L => by rw [ucz hid]
  have so1 : ∀ u a w u' a' w' L, Pi.hset (hadd (Pi.hset H c (rst z b u' a' w')) L) c (rst z b u a w) = hadd (Pi.hset H c (rst z b u a w)) L := fun u a w u' a' w' L => by rw [ubt hid, set_set]
  rw [u96]
  by_cases h1 : p < b.length
  · have hl := fun L => unn (hH1 L) hb h1
    have hc := byt_lt (b.getD p 0)
    rw [if_pos h1]
    generalize (b.getD p 0).toNat = x at hl hc ⊢
    have hfail := fun L (w : Nat) => udj (a := p) (w := w) (hH1 L)
    simp only [so] at hfail
    have hf4 : ∀ L, run (C u06 [.ptr c 0, .int .i64 p, .int .i64 4]) (hadd H L) = some (.ok (.tup []) (hadd (Pi.hset H c (rst z b p p 4)) L)) := fun L => hfail L 4
    have hf8 : ∀ L, run (C u06 [.ptr c 0, .int .i64 p, .int .i64 8]) (hadd H L) = some (.ok (.tup []) (hadd (Pi.hset H c (rst z b p p 8)) L)) := fun L => hfail L 8
    unfold rOf
    by_cases h99 : x = 99 ∨ x = 100
    · rw [if_pos h99]
      have hH2 : ∀ L, hget (hadd (Pi.hset H c (rst z b (p + 1) 0 0)) L) c = some (rst z b (p + 1) 0 0) := fun L => by
        rw [ubx hid, u7s hid]
      have hk := upy (hH2 [.cells [.int .i64 0, .bool false, .int .i64 0]]) hb (show p + 1 ≤ b.length by omega)
      have fin : ∀ (t : Bool), ((x : Int) == 99) = t → (x == 99) = t → outF z b c H encV (truncR H (run (M.bind (C u0q [.ptr c 0]) fun t41_25 =>
          M.bind (bd [(.int .i64 0), (.bool false), (.int .i64 0)] [(0, 1, (.int .i64 5)), (1, 1, (.bool t)), (2, 1, t41_25)]) fun t42_26 =>
          M.bind (st 3 true (.ptr H.length 0) t42_26) fun _ =>
          M.bind (ld (some 3) true (.ptr H.length 0)) fun t0_28 => guardM (!isTup t0_28) (M.pure t0_28)) (hadd (Pi.hset H c (rst z b (p + 1) 0 0)) [.cells [.int .i64 0, .bool false, .int .i64 0]]))) (rsRef t (rHeap b (p + 1))) := by
        intro t ht ht'
        cases hr : rHeap b (p + 1) with
        | ok v q =>
          rw [hr] at hk
          simp only [outF, so1] at hk
          simp only [rsRef]
          show _ = some _
          simp +contextual -dsimp (disch := omega) only [↓goDown, goUp, cr, simprocAttr, hk]
          rfl
        | err a w =>
          rw [hr] at hk
          obtain ⟨v, q, hk, hw⟩ := hk
          simp only [so1] at hk
          simp only [rsRef]
          refine ⟨⟨5, t, v⟩, q, ?_, hw⟩
          simp +contextual -dsimp (disch := omega) only [↓goDown, goUp, cr, simprocAttr, hk]
          rfl
      have hst : Pi.hset H c (.cells [BS z b, .int .i64 ((p : Int) + 1), .int .i64 0, .int .i64 0]) = Pi.hset H c (rst z b (p + 1) 0 0) := rfl
      by_cases c1 : x = 99
      · have e1 : ((x : Int) = 99) = True := eq_true (by omega)
        have e2 : ((x : Int) == 99) = true := by simpa using e1
        have e3 : (x == 99) = true := by simpa using c1
        rw [e3]
        refine Eq.mp (congrArg (fun r => outF z b c H encV r _) ?_) (fin true e2 e3)
        symm
        simp +contextual -dsimp (disch := omega) only [↓goDown, goUp, cr, simprocAttr, hl, e1, e2, hH', hst]
      · have e1 : ((x : Int) = 99) = False := eq_false (by omega)
        have e2 : ((x : Int) == 99) = false := by simpa using e1
        have e3 : (x == 99) = false := by simpa using c1
        have e4 : ((x : Int) = 100) = True := eq_true (by omega)
        rw [e3]
        refine Eq.mp (congrArg (fun r => outF z b c H encV r _) ?_) (fin false e2 e3)
        symm
        simp +contextual -dsimp (disch := omega) only [↓goDown, goUp, cr, simprocAttr, hl, e1, e2, e4, hH', hst]
    · rw [if_neg h99]
      have e1 : ((x : Int) = 99) = False := eq_false (by omega)
      have e2 : ((x : Int) = 100) = False := eq_false (by omega)
      by_cases h2 : 105 ≤ x ∧ x ≤ 116
      · rw [if_pos h2]
        have hz : (hname x = 0) = False := eq_false (uoq h2)
        show _ = some _
        simp +contextual -dsimp (disch := omega) only [↓goDown, goUp, cr, simprocAttr, hl, e1, e2, ubi, hz, hH']
        rfl
      · rw [if_neg h2]
        have hz : (hname x = 0) = True := eq_true (ua1 (by omega))
        have g1 : ((x : Int) = 120) = (x = 120) := by rw [eq_iff_iff]; omega
        cases any with
        | true =>
          by_cases h3 : x = 123
          · have e3 : ((x : Int) = 123) = True := eq_true (by omega)
            rw [if_pos ⟨rfl, h3⟩]
            refine ⟨⟨0, false, 0⟩, p, ?_, by omega⟩
            simp +contextual -dsimp (disch := omega) only [↓goDown, goUp, cr, simprocAttr, hl, e1, e2, ubi, hz, hH', e3, hf8]
            rfl
          · have e3 : ((x : Int) = 123) = False := eq_false (by omega)
            rw [if_neg (fun h => h3 h.2)]
            by_cases h4 : 124 ≤ x ∧ x ≤ 127
            · have e4 : (124 : Int) ≤ x := by omega
              have e5 : (x : Int) ≤ 127 := by omega
              rw [if_pos ⟨rfl, h4⟩]
              show _ = some _
              simp +contextual -dsimp (disch := omega) only [↓goDown, goUp, cr, simprocAttr, hl, e1, e2, ubi, hz, hH', e3, e4, e5, u1l]
              rfl
            · rw [if_neg (fun h => h4 h.2)]
              have e4 : (124 : Int) ≤ x → ¬ (x : Int) ≤ 127 := by omega
              refine ⟨⟨0, false, 0⟩, p + 1, ?_, by omega⟩
              by_cases h5 : (124 : Int) ≤ x
              · have h6 := e4 h5
                simp +contextual -dsimp (disch := omega) only [↓goDown, goUp, cr, simprocAttr, hl, e1, e2, ubi, hz, hH', e3, h5, h6, hf4, u1l, rst]
                rfl
              · simp +contextual -dsimp (disch := omega) only [↓goDown, goUp, cr, simprocAttr, hl, e1, e2, ubi, hz, hH', e3, h5, hf4, u1l, rst]
                rfl
        | false =>
          rw [if_neg (by simp), if_neg (by simp)]
          refine ⟨⟨0, false, 0⟩, p + 1, ?_, by omega⟩
          simp +contextual -dsimp (disch := omega) only [↓goDown, goUp, cr, simprocAttr, hl, e1, e2, ubi, hz, hH', hf4, u1l, rst]
          rfl
  · rw [if_neg h1]
    have hl := fun L => unu (hH1 L) h1
    have hfail := fun L => udj (a := b.length) (w := 3) (hH1 L)
    simp only [so] at hfail
    have hfail : ∀ L, run (C u06 [.ptr c 0, .int .i64 b.length, .int .i64 3]) (hadd H L) = some (.ok (.tup []) (hadd (Pi.hset H c (rst z b p b.length 3)) L)) := hfail
    refine ⟨⟨0, false, 0⟩, p, ?_, by omega⟩
    simp +contextual -dsimp (disch := omega) only [↓goDown, goUp, cr, simprocAttr, hl, hH', hfail, List.length_map, un_not]
    rfl
end Go.Proofs.YthidcpkcfoldmaaGreat.Pi.Q
