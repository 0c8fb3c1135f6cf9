/- What the law rests on, part 4 of 6: a reading of the program's code over told data, and what it comes to. -/
import Derived.Test.YthidcpkcfoldmaaGreatPiU2
set_option linter.unusedVariables false
set_option linter.unusedSimpArgs false
set_option maxRecDepth 100000
namespace Go.Proofs.YthidcpkcfoldmaaGreat.Pi.Q
open Go Go.Proofs.YthidcpkcfoldmaaGreat.Pi
theorem u8x (a0 a1 : PV) : C u4v [a0, a1] =
 trunc (M.bind (al [(.int .i64 0), (.int .i64 0), (.bool false), (.int .i64 0)]) fun t4_0 =>
 M.bind (al [(.int .i64 0), (.int .i64 0), (.bool false), (.int .i64 0)]) fun t5_1 =>
 M.bind (nc P (strip a0)) fun t10_2 =>
 M.bind (fa 20 t10_2) fun t11_3 =>
 M.bind (ld none false t11_3) fun t12_4 =>
 M.bind (bi .neq .none t12_4 (.int .i64 0)) fun t13_5 =>
 condM t13_5
 (M.bind (ld (some 4) true t5_1) fun t14_6 =>
 M.bind (st 4 true t4_0 t14_6) fun _ =>
 M.bind (ld (some 4) true t4_0) fun t0_8 => guardM (!isTup t0_8) (M.pure t0_8))
 (chk
 (M.bind (noPan (M.pure (strip a1))) fun t16_27 =>
 M.bind (noPan (M.pure (strip a0))) fun t17_28 =>
 M.bind (noPan (nc P t17_28)) fun t18_29 =>
 M.bind (noPan (fa 0 t18_29)) fun t19_30 =>
 M.bind (noPan (M.pure (strip a0))) fun t21_31 =>
 M.bind (noPan (nc P t21_31)) fun t22_32 =>
 M.bind (noPan (fa 1 t22_32)) fun t23_33 =>
 M.bind (noPan (ld none false t19_30)) fun t20_34 =>
 M.bind (noPan (ld none false t23_33)) fun t24_35 =>
 M.bind (noPan (al [(.int .i64 0), (.int .i64 0), (.bool false), (.int .i64 0)])) fun t6_36 =>
 M.bind (noPan (callV P C t16_27 [(strip t20_34), (strip t24_35)])) fun t25_37 =>
 M.bind (noPan (M.pure (strip t25_37))) fun t15_38 =>
 M.bind (noPan (ex 0 t15_38)) fun t26_39 =>
 M.bind (noPan (ex 1 (tupDrop 0 t15_38))) fun t27_40 =>
 M.bind (noPan (ex 2 (tupDrop 1 (tupDrop 0 t15_38)))) fun t28_41 =>
 M.bind (noPan (st 4 true t6_36 t26_39)) fun _ =>
 M.bind (noPan (M.pure t27_40)) fun t7_43 =>
 M.bind (noPan (M.pure t28_41)) fun t8_44 =>
 M.pure [a0, a1, .undef, .undef, t4_0, t5_1, t6_36, t7_43, t8_44, (strip a0), t10_2, t11_3, t12_4, t13_5, .undef, (tupDrop 2 (tupDrop 1 (tupDrop 0 t15_38))), t16_27, t17_28, t18_29, t19_30, t20_34, t21_31, t22_32, t23_33, t24_35, t25_37, (strip t26_39), (strip t27_40), (strip t28_41), .undef, .undef, .undef, .undef, .undef, .undef, .undef, .undef, .undef, .undef, .undef, .undef])
 (M.bind (noPan (M.pure (strip a1))) fun t16_9 =>
 M.bind (noPan (M.pure (strip a0))) fun t17_10 =>
 M.bind (noPan (nc P t17_10)) fun t18_11 =>
 M.bind (noPan (fa 0 t18_11)) fun t19_12 =>
 M.bind (noPan (M.pure (strip a0))) fun t21_13 =>
 M.bind (noPan (nc P t21_13)) fun t22_14 =>
 M.bind (noPan (fa 1 t22_14)) fun t23_15 =>
 M.bind (noPan (ld none false t19_12)) fun t20_16 =>
 M.bind (noPan (ld none false t23_15)) fun t24_17 =>
 M.bind (noPan (callV P C t16_9 [(strip t20_16), (strip t24_17)])) fun t25_18 =>
 M.bind (noPan (M.pure (strip t25_18))) fun t15_19 =>
 M.bind (noPan (ex 0 t15_19)) fun t26_20 =>
 M.bind (noPan (ex 1 (tupDrop 0 t15_19))) fun t27_21 =>
 M.bind (noPan (ex 2 (tupDrop 1 (tupDrop 0 t15_19)))) fun t28_22 =>
 M.bind (noPan (al [(.int .i64 0), (.int .i64 0), (.bool false), (.int .i64 0)])) fun t6_23 =>
 M.bind (noPan (st 4 true t6_23 t26_20)) fun _ =>
 M.bind (noPan (M.pure t27_21)) fun t7_25 =>
 M.bind (noPan (M.pure t28_22)) fun t8_26 =>
 M.pure [a0, a1, .undef, .undef, t4_0, t5_1, t6_23, t7_25, t8_26, (strip a0), t10_2, t11_3, t12_4, t13_5, .undef, (tupDrop 2 (tupDrop 1 (tupDrop 0 t15_19))), t16_9, t17_10, t18_11, t19_12, t20_16, t21_13, t22_14, t23_15, t24_17, t25_18, (strip t26_20), (strip t27_21), (strip t28_22), .undef, .undef, .undef, .undef, .undef, .undef, .undef, .undef, .undef, .undef, .undef, .undef]) <|
 chk
 (M.bind (noPan (M.pure (strip a1))) fun t16_45 =>
 M.bind (noPan (M.pure (strip a0))) fun t17_46 =>
 M.bind (noPan (nc P t17_46)) fun t18_47 =>
 M.bind (noPan (fa 0 t18_47)) fun t19_48 =>
 M.bind (noPan (M.pure (strip a0))) fun t21_49 =>
 M.bind (noPan (nc P t21_49)) fun t22_50 =>
 M.bind (noPan (fa 1 t22_50)) fun t23_51 =>
 M.bind (noPan (ld none false t19_48)) fun t20_52 =>
 M.bind (noPan (al [(.int .i64 0), (.int .i64 0), (.bool false), (.int .i64 0)])) fun t6_53 =>
 M.bind (noPan (ld none false t23_51)) fun t24_54 =>
 M.bind (noPan (callV P C t16_45 [(strip t20_52), (strip t24_54)])) fun t25_55 =>
 M.bind (noPan (M.pure (strip t25_55))) fun t15_56 =>
 M.bind (noPan (ex 0 t15_56)) fun t26_57 =>
 M.bind (noPan (ex 1 (tupDrop 0 t15_56))) fun t27_58 =>
 M.bind (noPan (ex 2 (tupDrop 1 (tupDrop 0 t15_56)))) fun t28_59 =>
 M.bind (noPan (st 4 true t6_53 t26_57)) fun _ =>
 M.bind (noPan (M.pure t27_58)) fun t7_61 =>
 M.bind (noPan (M.pure t28_59)) fun t8_62 =>
 M.pure [a0, a1, .undef, .undef, t4_0, t5_1, t6_53, t7_61, t8_62, (strip a0), t10_2, t11_3, t12_4, t13_5, .undef, (tupDrop 2 (tupDrop 1 (tupDrop 0 t15_56))), t16_45, t17_46, t18_47, t19_48, t20_52, t21_49, t22_50, t23_51, t24_54, t25_55, (strip t26_57), (strip t27_58), (strip t28_59), .undef, .undef, .undef, .undef, .undef, .undef, .undef, .undef, .undef, .undef, .undef, .undef])
 (M.bind (noPan (M.pure (strip a1))) fun t16_9 =>
 M.bind (noPan (M.pure (strip a0))) fun t17_10 =>
 M.bind (noPan (nc P t17_10)) fun t18_11 =>
 M.bind (noPan (fa 0 t18_11)) fun t19_12 =>
 M.bind (noPan (M.pure (strip a0))) fun t21_13 =>
 M.bind (noPan (nc P t21_13)) fun t22_14 =>
 M.bind (noPan (fa 1 t22_14)) fun t23_15 =>
 M.bind (noPan (ld none false t19_12)) fun t20_16 =>
 M.bind (noPan (ld none false t23_15)) fun t24_17 =>
 M.bind (noPan (callV P C t16_9 [(strip t20_16), (strip t24_17)])) fun t25_18 =>
 M.bind (noPan (M.pure (strip t25_18))) fun t15_19 =>
 M.bind (noPan (ex 0 t15_19)) fun t26_20 =>
 M.bind (noPan (ex 1 (tupDrop 0 t15_19))) fun t27_21 =>
 M.bind (noPan (ex 2 (tupDrop 1 (tupDrop 0 t15_19)))) fun t28_22 =>
 M.bind (noPan (al [(.int .i64 0), (.int .i64 0), (.bool false), (.int .i64 0)])) fun t6_23 =>
 M.bind (noPan (st 4 true t6_23 t26_20)) fun _ =>
 M.bind (noPan (M.pure t27_21)) fun t7_25 =>
 M.bind (noPan (M.pure t28_22)) fun t8_26 =>
 M.pure [a0, a1, .undef, .undef, t4_0, t5_1, t6_23, t7_25, t8_26, (strip a0), t10_2, t11_3, t12_4, t13_5, .undef, (tupDrop 2 (tupDrop 1 (tupDrop 0 t15_19))), t16_9, t17_10, t18_11, t19_12, t20_16, t21_13, t22_14, t23_15, t24_17, t25_18, (strip t26_20), (strip t27_21), (strip t28_22), .undef, .undef, .undef, .undef, .undef, .undef, .undef, .undef, .undef, .undef, .undef, .undef]) <|
 chk
 (M.bind (noPan (M.pure (strip a1))) fun t16_63 =>
 M.bind (noPan (M.pure (strip a0))) fun t17_64 =>
 M.bind (noPan (nc P t17_64)) fun t18_65 =>
 M.bind (noPan (fa 0 t18_65)) fun t19_66 =>
 M.bind (noPan (M.pure (strip a0))) fun t21_67 =>
 M.bind (noPan (nc P t21_67)) fun t22_68 =>
 M.bind (noPan (fa 1 t22_68)) fun t23_69 =>
 M.bind (noPan (ld none false t23_69)) fun t24_70 =>
 M.bind (noPan (al [(.int .i64 0), (.int .i64 0), (.bool false), (.int .i64 0)])) fun t6_71 =>
 M.bind (noPan (ld none false t19_66)) fun t20_72 =>
 M.bind (noPan (callV P C t16_63 [(strip t20_72), (strip t24_70)])) fun t25_73 =>
 M.bind (noPan (M.pure (strip t25_73))) fun t15_74 =>
 M.bind (noPan (ex 0 t15_74)) fun t26_75 =>
 M.bind (noPan (ex 1 (tupDrop 0 t15_74))) fun t27_76 =>
 M.bind (noPan (ex 2 (tupDrop 1 (tupDrop 0 t15_74)))) fun t28_77 =>
 M.bind (noPan (st 4 true t6_71 t26_75)) fun _ =>
 M.bind (noPan (M.pure t27_76)) fun t7_79 =>
 M.bind (noPan (M.pure t28_77)) fun t8_80 =>
 M.pure [a0, a1, .undef, .undef, t4_0, t5_1, t6_71, t7_79, t8_80, (strip a0), t10_2, t11_3, t12_4, t13_5, .undef, (tupDrop 2 (tupDrop 1 (tupDrop 0 t15_74))), t16_63, t17_64, t18_65, t19_66, t20_72, t21_67, t22_68, t23_69, t24_70, t25_73, (strip t26_75), (strip t27_76), (strip t28_77), .undef, .undef, .undef, .undef, .undef, .undef, .undef, .undef, .undef, .undef, .undef, .undef])
 (M.bind (noPan (M.pure (strip a1))) fun t16_9 =>
 M.bind (noPan (M.pure (strip a0))) fun t17_10 =>
 M.bind (noPan (nc P t17_10)) fun t18_11 =>
 M.bind (noPan (fa 0 t18_11)) fun t19_12 =>
 M.bind (noPan (M.pure (strip a0))) fun t21_13 =>
 M.bind (noPan (nc P t21_13)) fun t22_14 =>
 M.bind (noPan (fa 1 t22_14)) fun t23_15 =>
 M.bind (noPan (ld none false t19_12)) fun t20_16 =>
 M.bind (noPan (ld none false t23_15)) fun t24_17 =>
 M.bind (noPan (callV P C t16_9 [(strip t20_16), (strip t24_17)])) fun t25_18 =>
 M.bind (noPan (M.pure (strip t25_18))) fun t15_19 =>
 M.bind (noPan (ex 0 t15_19)) fun t26_20 =>
 M.bind (noPan (ex 1 (tupDrop 0 t15_19))) fun t27_21 =>
 M.bind (noPan (ex 2 (tupDrop 1 (tupDrop 0 t15_19)))) fun t28_22 =>
 M.bind (noPan (al [(.int .i64 0), (.int .i64 0), (.bool false), (.int .i64 0)])) fun t6_23 =>
 M.bind (noPan (st 4 true t6_23 t26_20)) fun _ =>
 M.bind (noPan (M.pure t27_21)) fun t7_25 =>
 M.bind (noPan (M.pure t28_22)) fun t8_26 =>
 M.pure [a0, a1, .undef, .undef, t4_0, t5_1, t6_23, t7_25, t8_26, (strip a0), t10_2, t11_3, t12_4, t13_5, .undef, (tupDrop 2 (tupDrop 1 (tupDrop 0 t15_19))), t16_9, t17_10, t18_11, t19_12, t20_16, t21_13, t22_14, t23_15, t24_17, t25_18, (strip t26_20), (strip t27_21), (strip t28_22), .undef, .undef, .undef, .undef, .undef, .undef, .undef, .undef, .undef, .undef, .undef, .undef]) <|
 chk
 (M.bind (noPan (M.pure (strip a1))) fun t16_81 =>
 M.bind (noPan (M.pure (strip a0))) fun t17_82 =>
 M.bind (noPan (nc P t17_82)) fun t18_83 =>
 M.bind (noPan (fa 0 t18_83)) fun t19_84 =>
 M.bind (noPan (M.pure (strip a0))) fun t21_85 =>
 M.bind (noPan (nc P t21_85)) fun t22_86 =>
 M.bind (noPan (fa 1 t22_86)) fun t23_87 =>
 M.bind (noPan (al [(.int .i64 0), (.int .i64 0), (.bool false), (.int .i64 0)])) fun t6_88 =>
 M.bind (noPan (ld none false t19_84)) fun t20_89 =>
 M.bind (noPan (ld none false t23_87)) fun t24_90 =>
 M.bind (noPan (callV P C t16_81 [(strip t20_89), (strip t24_90)])) fun t25_91 =>
 M.bind (noPan (M.pure (strip t25_91))) fun t15_92 =>
 M.bind (noPan (ex 0 t15_92)) fun t26_93 =>
 M.bind (noPan (ex 1 (tupDrop 0 t15_92))) fun t27_94 =>
 M.bind (noPan (ex 2 (tupDrop 1 (tupDrop 0 t15_92)))) fun t28_95 =>
 M.bind (noPan (st 4 true t6_88 t26_93)) fun _ =>
 M.bind (noPan (M.pure t27_94)) fun t7_97 =>
 M.bind (noPan (M.pure t28_95)) fun t8_98 =>
 M.pure [a0, a1, .undef, .undef, t4_0, t5_1, t6_88, t7_97, t8_98, (strip a0), t10_2, t11_3, t12_4, t13_5, .undef, (tupDrop 2 (tupDrop 1 (tupDrop 0 t15_92))), t16_81, t17_82, t18_83, t19_84, t20_89, t21_85, t22_86, t23_87, t24_90, t25_91, (strip t26_93), (strip t27_94), (strip t28_95), .undef, .undef, .undef, .undef, .undef, .undef, .undef, .undef, .undef, .undef, .undef, .undef])
 (M.bind (noPan (M.pure (strip a1))) fun t16_9 =>
 M.bind (noPan (M.pure (strip a0))) fun t17_10 =>
 M.bind (noPan (nc P t17_10)) fun t18_11 =>
 M.bind (noPan (fa 0 t18_11)) fun t19_12 =>
 M.bind (noPan (M.pure (strip a0))) fun t21_13 =>
 M.bind (noPan (nc P t21_13)) fun t22_14 =>
 M.bind (noPan (fa 1 t22_14)) fun t23_15 =>
 M.bind (noPan (ld none false t19_12)) fun t20_16 =>
 M.bind (noPan (ld none false t23_15)) fun t24_17 =>
 M.bind (noPan (callV P C t16_9 [(strip t20_16), (strip t24_17)])) fun t25_18 =>
 M.bind (noPan (M.pure (strip t25_18))) fun t15_19 =>
 M.bind (noPan (ex 0 t15_19)) fun t26_20 =>
 M.bind (noPan (ex 1 (tupDrop 0 t15_19))) fun t27_21 =>
 M.bind (noPan (ex 2 (tupDrop 1 (tupDrop 0 t15_19)))) fun t28_22 =>
 M.bind (noPan (al [(.int .i64 0), (.int .i64 0), (.bool false), (.int .i64 0)])) fun t6_23 =>
 M.bind (noPan (st 4 true t6_23 t26_20)) fun _ =>
 M.bind (noPan (M.pure t27_21)) fun t7_25 =>
 M.bind (noPan (M.pure t28_22)) fun t8_26 =>
 M.pure [a0, a1, .undef, .undef, t4_0, t5_1, t6_23, t7_25, t8_26, (strip a0), t10_2, t11_3, t12_4, t13_5, .undef, (tupDrop 2 (tupDrop 1 (tupDrop 0 t15_19))), t16_9, t17_10, t18_11, t19_12, t20_16, t21_13, t22_14, t23_15, t24_17, t25_18, (strip t26_20), (strip t27_21), (strip t28_22), .undef, .undef, .undef, .undef, .undef, .undef, .undef, .undef, .undef, .undef, .undef, .undef]) <|
 M.bind (noPan (M.pure (strip a1))) fun t16_99 =>
 M.bind (noPan (M.pure (strip a0))) fun t17_100 =>
 M.bind (noPan (nc P t17_100)) fun t18_101 =>
 M.bind (noPan (fa 0 t18_101)) fun t19_102 =>
 M.bind (noPan (M.pure (strip a0))) fun t21_103 =>
 M.bind (noPan (nc P t21_103)) fun t22_104 =>
 M.bind (noPan (fa 1 t22_104)) fun t23_105 =>
 M.bind (noPan (ld none false t19_102)) fun t20_106 =>
 M.bind (noPan (ld none false t23_105)) fun t24_107 =>
 M.bind (noPan (callV P C t16_99 [(strip t20_106), (strip t24_107)])) fun t25_108 =>
 M.bind (noPan (M.pure (strip t25_108))) fun t15_109 =>
 M.bind (noPan (ex 0 t15_109)) fun t26_110 =>
 M.bind (noPan (ex 1 (tupDrop 0 t15_109))) fun t27_111 =>
 M.bind (noPan (ex 2 (tupDrop 1 (tupDrop 0 t15_109)))) fun t28_112 =>
 M.bind (noPan (al [(.int .i64 0), (.int .i64 0), (.bool false), (.int .i64 0)])) fun t6_113 =>
 M.bind (noPan (st 4 true t6_113 t26_110)) fun _ =>
 M.bind (noPan (M.pure t27_111)) fun t7_115 =>
 M.bind (noPan (M.pure t28_112)) fun t8_116 =>
 M.bind (bi .neq .none (strip t8_116) (.int .i64 0)) fun t30_117 =>
 condM t30_117
 (M.bind (C u0g [(strip (strip a0)), (strip (strip t7_115)), (strip (strip t8_116))]) fun t34_118 =>
 M.bind (ld (some 4) true t5_1) fun t35_119 =>
 M.bind (st 4 true t4_0 t35_119) fun _ =>
 M.bind (ld (some 4) true t4_0) fun t0_121 => guardM (!isTup t0_121) (M.pure t0_121))
 (M.bind (nc P (strip a0)) fun t38_122 =>
 M.bind (fa 1 t38_122) fun t39_123 =>
 M.bind (st 1 true t39_123 t7_115) fun _ =>
 M.bind (ld (some 4) true t6_113) fun t40_125 =>
 M.bind (st 4 true t4_0 t40_125) fun _ =>
 M.bind (ld (some 4) true t4_0) fun t0_127 => guardM (!isTup t0_127) (M.pure t0_127)))) := by
 rw [C, u03 _ _ rfl]; kernel_rfl
theorem ucb (a0 a1 : PV) : C u4i [a0, a1] =
 trunc (M.bind (al [(.int .i64 0), (.int .i64 0), (.bool false), (.int .i64 0)]) fun t4_0 =>
 M.bind (C u3a [(strip (strip a0)), (strip (strip a1)), (.fn u2y [] [])]) fun t9_1 =>
 M.bind (ex 0 t9_1) fun t10_2 =>
 M.bind (ex 1 (tupDrop 0 t9_1)) fun t11_3 =>
 M.bind (ex 2 (tupDrop 1 (tupDrop 0 t9_1))) fun t12_4 =>
 M.bind (st 4 true t4_0 t10_2) fun _ =>
 M.bind (ld (some 4) true t4_0) fun t0_6 => guardM (!isTup t0_6) (resT t11_3 (resT t12_4 (M.pure (.tup [t0_6, t11_3, t12_4]))))) := by
 rw [C, u03 _ _ rfl]; kernel_rfl
theorem ub7 (a0 : PV) : C u0k [a0] =
 trunc (M.bind (C u1h [(.fn u60 [] [])]) fun t4_0 =>
 M.bind (C u2c [(strip (strip a0)), (strip t4_0)]) fun t5_1 =>
 resT t5_1 (M.pure t5_1)) := by
 rw [C, u03 _ _ rfl]; kernel_rfl
theorem u8c (a0 a1 : PV) : C u14 [a0, a1] =
 trunc (M.bind (al [(.int .i64 0), (.bool false), (.int .i64 0)]) fun t4_0 =>
 M.bind (al [(.int .i64 0), (.bool false), (.int .i64 0)]) fun t5_1 =>
 M.bind (nc P (strip a0)) fun t10_2 =>
 M.bind (fa 20 t10_2) fun t11_3 =>
 M.bind (ld none false t11_3) fun t12_4 =>
 M.bind (bi .neq .none t12_4 (.int .i64 0)) fun t13_5 =>
 condM t13_5
 (M.bind (ld (some 3) true t5_1) fun t14_6 =>
 M.bind (st 3 true t4_0 t14_6) fun _ =>
 M.bind (ld (some 3) true t4_0) fun t0_8 => guardM (!isTup t0_8) (M.pure t0_8))
 (chk
 (M.bind (noPan (M.pure (strip a1))) fun t16_27 =>
 M.bind (noPan (M.pure (strip a0))) fun t17_28 =>
 M.bind (noPan (nc P t17_28)) fun t18_29 =>
 M.bind (noPan (fa 0 t18_29)) fun t19_30 =>
 M.bind (noPan (M.pure (strip a0))) fun t21_31 =>
 M.bind (noPan (nc P t21_31)) fun t22_32 =>
 M.bind (noPan (fa 1 t22_32)) fun t23_33 =>
 M.bind (noPan (ld none false t19_30)) fun t20_34 =>
 M.bind (noPan (ld none false t23_33)) fun t24_35 =>
 M.bind (noPan (al [(.int .i64 0), (.bool false), (.int .i64 0)])) fun t6_36 =>
 M.bind (noPan (callV P C t16_27 [(strip t20_34), (strip t24_35)])) fun t25_37 =>
 M.bind (noPan (M.pure (strip t25_37))) fun t15_38 =>
 M.bind (noPan (ex 0 t15_38)) fun t26_39 =>
 M.bind (noPan (ex 1 (tupDrop 0 t15_38))) fun t27_40 =>
 M.bind (noPan (ex 2 (tupDrop 1 (tupDrop 0 t15_38)))) fun t28_41 =>
 M.bind (noPan (st 3 true t6_36 t26_39)) fun _ =>
 M.bind (noPan (M.pure t27_40)) fun t7_43 =>
 M.bind (noPan (M.pure t28_41)) fun t8_44 =>
 M.pure [a0, a1, .undef, .undef, t4_0, t5_1, t6_36, t7_43, t8_44, (strip a0), t10_2, t11_3, t12_4, t13_5, .undef, (tupDrop 2 (tupDrop 1 (tupDrop 0 t15_38))), t16_27, t17_28, t18_29, t19_30, t20_34, t21_31, t22_32, t23_33, t24_35, t25_37, (strip t26_39), (strip t27_40), (strip t28_41), .undef, .undef, .undef, .undef, .undef, .undef, .undef, .undef, .undef, .undef, .undef, .undef])
 (M.bind (noPan (M.pure (strip a1))) fun t16_9 =>
 M.bind (noPan (M.pure (strip a0))) fun t17_10 =>
 M.bind (noPan (nc P t17_10)) fun t18_11 =>
 M.bind (noPan (fa 0 t18_11)) fun t19_12 =>
 M.bind (noPan (M.pure (strip a0))) fun t21_13 =>
 M.bind (noPan (nc P t21_13)) fun t22_14 =>
 M.bind (noPan (fa 1 t22_14)) fun t23_15 =>
 M.bind (noPan (ld none false t19_12)) fun t20_16 =>
 M.bind (noPan (ld none false t23_15)) fun t24_17 =>
 M.bind (noPan (callV P C t16_9 [(strip t20_16), (strip t24_17)])) fun t25_18 =>
 M.bind (noPan (M.pure (strip t25_18))) fun t15_19 =>
 M.bind (noPan (ex 0 t15_19)) fun t26_20 =>
 M.bind (noPan (ex 1 (tupDrop 0 t15_19))) fun t27_21 =>
 M.bind (noPan (ex 2 (tupDrop 1 (tupDrop 0 t15_19)))) fun t28_22 =>
 M.bind (noPan (al [(.int .i64 0), (.bool false), (.int .i64 0)])) fun t6_23 =>
 M.bind (noPan (st 3 true t6_23 t26_20)) fun _ =>
 M.bind (noPan (M.pure t27_21)) fun t7_25 =>
 M.bind (noPan (M.pure t28_22)) fun t8_26 =>
 M.pure [a0, a1, .undef, .undef, t4_0, t5_1, t6_23, t7_25, t8_26, (strip a0), t10_2, t11_3, t12_4, t13_5, .undef, (tupDrop 2 (tupDrop 1 (tupDrop 0 t15_19))), t16_9, t17_10, t18_11, t19_12, t20_16, t21_13, t22_14, t23_15, t24_17, t25_18, (strip t26_20), (strip t27_21), (strip t28_22), .undef, .undef, .undef, .undef, .undef, .undef, .undef, .undef, .undef, .undef, .undef, .undef]) <|
 chk
 (M.bind (noPan (M.pure (strip a1))) fun t16_45 =>
 M.bind (noPan (M.pure (strip a0))) fun t17_46 =>
 M.bind (noPan (nc P t17_46)) fun t18_47 =>
 M.bind (noPan (fa 0 t18_47)) fun t19_48 =>
 M.bind (noPan (M.pure (strip a0))) fun t21_49 =>
 M.bind (noPan (nc P t21_49)) fun t22_50 =>
 M.bind (noPan (fa 1 t22_50)) fun t23_51 =>
 M.bind (noPan (ld none false t19_48)) fun t20_52 =>
 M.bind (noPan (al [(.int .i64 0), (.bool false), (.int .i64 0)])) fun t6_53 =>
 M.bind (noPan (ld none false t23_51)) fun t24_54 =>
 M.bind (noPan (callV P C t16_45 [(strip t20_52), (strip t24_54)])) fun t25_55 =>
 M.bind (noPan (M.pure (strip t25_55))) fun t15_56 =>
 M.bind (noPan (ex 0 t15_56)) fun t26_57 =>
 M.bind (noPan (ex 1 (tupDrop 0 t15_56))) fun t27_58 =>
 M.bind (noPan (ex 2 (tupDrop 1 (tupDrop 0 t15_56)))) fun t28_59 =>
 M.bind (noPan (st 3 true t6_53 t26_57)) fun _ =>
 M.bind (noPan (M.pure t27_58)) fun t7_61 =>
 M.bind (noPan (M.pure t28_59)) fun t8_62 =>
 M.pure [a0, a1, .undef, .undef, t4_0, t5_1, t6_53, t7_61, t8_62, (strip a0), t10_2, t11_3, t12_4, t13_5, .undef, (tupDrop 2 (tupDrop 1 (tupDrop 0 t15_56))), t16_45, t17_46, t18_47, t19_48, t20_52, t21_49, t22_50, t23_51, t24_54, t25_55, (strip t26_57), (strip t27_58), (strip t28_59), .undef, .undef, .undef, .undef, .undef, .undef, .undef, .undef, .undef, .undef, .undef, .undef])
 (M.bind (noPan (M.pure (strip a1))) fun t16_9 =>
 M.bind (noPan (M.pure (strip a0))) fun t17_10 =>
 M.bind (noPan (nc P t17_10)) fun t18_11 =>
 M.bind (noPan (fa 0 t18_11)) fun t19_12 =>
 M.bind (noPan (M.pure (strip a0))) fun t21_13 =>
 M.bind (noPan (nc P t21_13)) fun t22_14 =>
 M.bind (noPan (fa 1 t22_14)) fun t23_15 =>
 M.bind (noPan (ld none false t19_12)) fun t20_16 =>
 M.bind (noPan (ld none false t23_15)) fun t24_17 =>
 M.bind (noPan (callV P C t16_9 [(strip t20_16), (strip t24_17)])) fun t25_18 =>
 M.bind (noPan (M.pure (strip t25_18))) fun t15_19 =>
 M.bind (noPan (ex 0 t15_19)) fun t26_20 =>
 M.bind (noPan (ex 1 (tupDrop 0 t15_19))) fun t27_21 =>
 M.bind (noPan (ex 2 (tupDrop 1 (tupDrop 0 t15_19)))) fun t28_22 =>
 M.bind (noPan (al [(.int .i64 0), (.bool false), (.int .i64 0)])) fun t6_23 =>
 M.bind (noPan (st 3 true t6_23 t26_20)) fun _ =>
 M.bind (noPan (M.pure t27_21)) fun t7_25 =>
 M.bind (noPan (M.pure t28_22)) fun t8_26 =>
 M.pure [a0, a1, .undef, .undef, t4_0, t5_1, t6_23, t7_25, t8_26, (strip a0), t10_2, t11_3, t12_4, t13_5, .undef, (tupDrop 2 (tupDrop 1 (tupDrop 0 t15_19))), t16_9, t17_10, t18_11, t19_12, t20_16, t21_13, t22_14, t23_15, t24_17, t25_18, (strip t26_20), (strip t27_21), (strip t28_22), .undef, .undef, .undef, .undef, .undef, .undef, .undef, .undef, .undef, .undef, .undef, .undef]) <|
 chk
 (M.bind (noPan (M.pure (strip a1))) fun t16_63 =>
 M.bind (noPan (M.pure (strip a0))) fun t17_64 =>
 M.bind (noPan (nc P t17_64)) fun t18_65 =>
 M.bind (noPan (fa 0 t18_65)) fun t19_66 =>
 M.bind (noPan (M.pure (strip a0))) fun t21_67 =>
 M.bind (noPan (nc P t21_67)) fun t22_68 =>
 M.bind (noPan (fa 1 t22_68)) fun t23_69 =>
 M.bind (noPan (ld none false t23_69)) fun t24_70 =>
 M.bind (noPan (al [(.int .i64 0), (.bool false), (.int .i64 0)])) fun t6_71 =>
 M.bind (noPan (ld none false t19_66)) fun t20_72 =>
 M.bind (noPan (callV P C t16_63 [(strip t20_72), (strip t24_70)])) fun t25_73 =>
 M.bind (noPan (M.pure (strip t25_73))) fun t15_74 =>
 M.bind (noPan (ex 0 t15_74)) fun t26_75 =>
 M.bind (noPan (ex 1 (tupDrop 0 t15_74))) fun t27_76 =>
 M.bind (noPan (ex 2 (tupDrop 1 (tupDrop 0 t15_74)))) fun t28_77 =>
 M.bind (noPan (st 3 true t6_71 t26_75)) fun _ =>
 M.bind (noPan (M.pure t27_76)) fun t7_79 =>
 M.bind (noPan (M.pure t28_77)) fun t8_80 =>
 M.pure [a0, a1, .undef, .undef, t4_0, t5_1, t6_71, t7_79, t8_80, (strip a0), t10_2, t11_3, t12_4, t13_5, .undef, (tupDrop 2 (tupDrop 1 (tupDrop 0 t15_74))), t16_63, t17_64, t18_65, t19_66, t20_72, t21_67, t22_68, t23_69, t24_70, t25_73, (strip t26_75), (strip t27_76), (strip t28_77), .undef, .undef, .undef, .undef, .undef, .undef, .undef, .undef, .undef, .undef, .undef, .undef])
 (M.bind (noPan (M.pure (strip a1))) fun t16_9 =>
 M.bind (noPan (M.pure (strip a0))) fun t17_10 =>
 M.bind (noPan (nc P t17_10)) fun t18_11 =>
 M.bind (noPan (fa 0 t18_11)) fun t19_12 =>
 M.bind (noPan (M.pure (strip a0))) fun t21_13 =>
 M.bind (noPan (nc P t21_13)) fun t22_14 =>
 M.bind (noPan (fa 1 t22_14)) fun t23_15 =>
 M.bind (noPan (ld none false t19_12)) fun t20_16 =>
 M.bind (noPan (ld none false t23_15)) fun t24_17 =>
 M.bind (noPan (callV P C t16_9 [(strip t20_16), (strip t24_17)])) fun t25_18 =>
 M.bind (noPan (M.pure (strip t25_18))) fun t15_19 =>
 M.bind (noPan (ex 0 t15_19)) fun t26_20 =>
 M.bind (noPan (ex 1 (tupDrop 0 t15_19))) fun t27_21 =>
 M.bind (noPan (ex 2 (tupDrop 1 (tupDrop 0 t15_19)))) fun t28_22 =>
 M.bind (noPan (al [(.int .i64 0), (.bool false), (.int .i64 0)])) fun t6_23 =>
 M.bind (noPan (st 3 true t6_23 t26_20)) fun _ =>
 M.bind (noPan (M.pure t27_21)) fun t7_25 =>
 M.bind (noPan (M.pure t28_22)) fun t8_26 =>
 M.pure [a0, a1, .undef, .undef, t4_0, t5_1, t6_23, t7_25, t8_26, (strip a0), t10_2, t11_3, t12_4, t13_5, .undef, (tupDrop 2 (tupDrop 1 (tupDrop 0 t15_19))), t16_9, t17_10, t18_11, t19_12, t20_16, t21_13, t22_14, t23_15, t24_17, t25_18, (strip t26_20), (strip t27_21), (strip t28_22), .undef, .undef, .undef, .undef, .undef, .undef, .undef, .undef, .undef, .undef, .undef, .undef]) <|
 chk
 (M.bind (noPan (M.pure (strip a1))) fun t16_81 =>
 M.bind (noPan (M.pure (strip a0))) fun t17_82 =>
 M.bind (noPan (nc P t17_82)) fun t18_83 =>
 M.bind (noPan (fa 0 t18_83)) fun t19_84 =>
 M.bind (noPan (M.pure (strip a0))) fun t21_85 =>
 M.bind (noPan (nc P t21_85)) fun t22_86 =>
 M.bind (noPan (fa 1 t22_86)) fun t23_87 =>
 M.bind (noPan (al [(.int .i64 0), (.bool false), (.int .i64 0)])) fun t6_88 =>
 M.bind (noPan (ld none false t19_84)) fun t20_89 =>
 M.bind (noPan (ld none false t23_87)) fun t24_90 =>
 M.bind (noPan (callV P C t16_81 [(strip t20_89), (strip t24_90)])) fun t25_91 =>
 M.bind (noPan (M.pure (strip t25_91))) fun t15_92 =>
 M.bind (noPan (ex 0 t15_92)) fun t26_93 =>
 M.bind (noPan (ex 1 (tupDrop 0 t15_92))) fun t27_94 =>
 M.bind (noPan (ex 2 (tupDrop 1 (tupDrop 0 t15_92)))) fun t28_95 =>
 M.bind (noPan (st 3 true t6_88 t26_93)) fun _ =>
 M.bind (noPan (M.pure t27_94)) fun t7_97 =>
 M.bind (noPan (M.pure t28_95)) fun t8_98 =>
 M.pure [a0, a1, .undef, .undef, t4_0, t5_1, t6_88, t7_97, t8_98, (strip a0), t10_2, t11_3, t12_4, t13_5, .undef, (tupDrop 2 (tupDrop 1 (tupDrop 0 t15_92))), t16_81, t17_82, t18_83, t19_84, t20_89, t21_85, t22_86, t23_87, t24_90, t25_91, (strip t26_93), (strip t27_94), (strip t28_95), .undef, .undef, .undef, .undef, .undef, .undef, .undef, .undef, .undef, .undef, .undef, .undef])
 (M.bind (noPan (M.pure (strip a1))) fun t16_9 =>
 M.bind (noPan (M.pure (strip a0))) fun t17_10 =>
 M.bind (noPan (nc P t17_10)) fun t18_11 =>
 M.bind (noPan (fa 0 t18_11)) fun t19_12 =>
 M.bind (noPan (M.pure (strip a0))) fun t21_13 =>
 M.bind (noPan (nc P t21_13)) fun t22_14 =>
 M.bind (noPan (fa 1 t22_14)) fun t23_15 =>
 M.bind (noPan (ld none false t19_12)) fun t20_16 =>
 M.bind (noPan (ld none false t23_15)) fun t24_17 =>
 M.bind (noPan (callV P C t16_9 [(strip t20_16), (strip t24_17)])) fun t25_18 =>
 M.bind (noPan (M.pure (strip t25_18))) fun t15_19 =>
 M.bind (noPan (ex 0 t15_19)) fun t26_20 =>
 M.bind (noPan (ex 1 (tupDrop 0 t15_19))) fun t27_21 =>
 M.bind (noPan (ex 2 (tupDrop 1 (tupDrop 0 t15_19)))) fun t28_22 =>
 M.bind (noPan (al [(.int .i64 0), (.bool false), (.int .i64 0)])) fun t6_23 =>
 M.bind (noPan (st 3 true t6_23 t26_20)) fun _ =>
 M.bind (noPan (M.pure t27_21)) fun t7_25 =>
 M.bind (noPan (M.pure t28_22)) fun t8_26 =>
 M.pure [a0, a1, .undef, .undef, t4_0, t5_1, t6_23, t7_25, t8_26, (strip a0), t10_2, t11_3, t12_4, t13_5, .undef, (tupDrop 2 (tupDrop 1 (tupDrop 0 t15_19))), t16_9, t17_10, t18_11, t19_12, t20_16, t21_13, t22_14, t23_15, t24_17, t25_18, (strip t26_20), (strip t27_21), (strip t28_22), .undef, .undef, .undef, .undef, .undef, .undef, .undef, .undef, .undef, .undef, .undef, .undef]) <|
 M.bind (noPan (M.pure (strip a1))) fun t16_99 =>
 M.bind (noPan (M.pure (strip a0))) fun t17_100 =>
 M.bind (noPan (nc P t17_100)) fun t18_101 =>
 M.bind (noPan (fa 0 t18_101)) fun t19_102 =>
 M.bind (noPan (M.pure (strip a0))) fun t21_103 =>
 M.bind (noPan (nc P t21_103)) fun t22_104 =>
 M.bind (noPan (fa 1 t22_104)) fun t23_105 =>
 M.bind (noPan (ld none false t19_102)) fun t20_106 =>
 M.bind (noPan (ld none false t23_105)) fun t24_107 =>
 M.bind (noPan (callV P C t16_99 [(strip t20_106), (strip t24_107)])) fun t25_108 =>
 M.bind (noPan (M.pure (strip t25_108))) fun t15_109 =>
 M.bind (noPan (ex 0 t15_109)) fun t26_110 =>
 M.bind (noPan (ex 1 (tupDrop 0 t15_109))) fun t27_111 =>
 M.bind (noPan (ex 2 (tupDrop 1 (tupDrop 0 t15_109)))) fun t28_112 =>
 M.bind (noPan (al [(.int .i64 0), (.bool false), (.int .i64 0)])) fun t6_113 =>
 M.bind (noPan (st 3 true t6_113 t26_110)) fun _ =>
 M.bind (noPan (M.pure t27_111)) fun t7_115 =>
 M.bind (noPan (M.pure t28_112)) fun t8_116 =>
 M.bind (bi .neq .none (strip t8_116) (.int .i64 0)) fun t30_117 =>
 condM t30_117
 (M.bind (C u0g [(strip (strip a0)), (strip (strip t7_115)), (strip (strip t8_116))]) fun t34_118 =>
 M.bind (ld (some 3) true t5_1) fun t35_119 =>
 M.bind (st 3 true t4_0 t35_119) fun _ =>
 M.bind (ld (some 3) true t4_0) fun t0_121 => guardM (!isTup t0_121) (M.pure t0_121))
 (M.bind (nc P (strip a0)) fun t38_122 =>
 M.bind (fa 1 t38_122) fun t39_123 =>
 M.bind (st 1 true t39_123 t7_115) fun _ =>
 M.bind (ld (some 3) true t6_113) fun t40_125 =>
 M.bind (st 3 true t4_0 t40_125) fun _ =>
 M.bind (ld (some 3) true t4_0) fun t0_127 => guardM (!isTup t0_127) (M.pure t0_127)))) := by
 rw [C, u03 _ _ rfl]; kernel_rfl
theorem ue4 (a0 a1 : PV) : C u2i [a0, a1] =
 trunc (M.bind (al [(.int .i64 0), (.bool false), (.int .i64 0)]) fun t4_0 =>
 M.bind (C u2n [(strip (strip a0)), (strip (strip a1)), (.fn u1y [] [])]) fun t9_1 =>
 M.bind (ex 0 t9_1) fun t10_2 =>
 M.bind (ex 1 (tupDrop 0 t9_1)) fun t11_3 =>
 M.bind (ex 2 (tupDrop 1 (tupDrop 0 t9_1))) fun t12_4 =>
 M.bind (st 3 true t4_0 t10_2) fun _ =>
 M.bind (ld (some 3) true t4_0) fun t0_6 => guardM (!isTup t0_6) (resT t11_3 (resT t12_4 (M.pure (.tup [t0_6, t11_3, t12_4]))))) := by
 rw [C, u03 _ _ rfl]; kernel_rfl
theorem uai (a0 a1 : PV) : C u29 [a0, a1] =
 trunc (M.bind (nc P (strip a0)) fun t10_0 =>
 M.bind (fa 20 t10_0) fun t11_1 =>
 M.bind (ld none false t11_1) fun t12_2 =>
 M.bind (bi .neq .none t12_2 (.int .i64 0)) fun t13_3 =>
 condM t13_3
 (M.pure (.int .u64 0))
 (M.bind (noPan (M.pure (strip a1))) fun t16_21 =>
 M.bind (noPan (M.pure (strip a0))) fun t17_22 =>
 M.bind (noPan (nc P t17_22)) fun t18_23 =>
 M.bind (noPan (fa 0 t18_23)) fun t19_24 =>
 M.bind (noPan (M.pure (strip a0))) fun t21_25 =>
 M.bind (noPan (nc P t21_25)) fun t22_26 =>
 M.bind (noPan (fa 1 t22_26)) fun t23_27 =>
 M.bind (noPan (ld none false t19_24)) fun t20_28 =>
 M.bind (noPan (ld none false t23_27)) fun t24_29 =>
 M.bind (noPan (callV P C t16_21 [(strip t20_28), (strip t24_29)])) fun t25_30 =>
 M.bind (noPan (M.pure (strip t25_30))) fun t15_31 =>
 M.bind (noPan (ex 0 t15_31)) fun t26_32 =>
 M.bind (noPan (ex 1 (tupDrop 0 t15_31))) fun t27_33 =>
 M.bind (noPan (ex 2 (tupDrop 1 (tupDrop 0 t15_31)))) fun t28_34 =>
 M.bind (noPan (M.pure t26_32)) fun t6_35 =>
 M.bind (noPan (M.pure t27_33)) fun t7_36 =>
 M.bind (noPan (M.pure t28_34)) fun t8_37 =>
 M.bind (bi .neq .none (strip t8_37) (.int .i64 0)) fun t30_38 =>
 condM t30_38
 (M.bind (C u0g [(strip (strip a0)), (strip (strip t7_36)), (strip (strip t8_37))]) fun t34_39 =>
 M.pure (.int .u64 0))
 (M.bind (nc P (strip a0)) fun t38_40 =>
 M.bind (fa 1 t38_40) fun t39_41 =>
 M.bind (st 1 true t39_41 t7_36) fun _ =>
 resT t6_35 (M.pure t6_35)))) := by
 rw [C, u03 _ _ rfl]; kernel_rfl
theorem u8m (a0 : PV) : C u12 [a0] =
 trunc (M.bind (bx 1 a0) fun t1_0 =>
 M.bind (mf u0q [] [t1_0]) fun t3_1 =>
 resT t3_1 (M.pure t3_1)) := by
 rw [C, u03 _ _ rfl]; kernel_rfl
theorem ure (a0 a1 a2 : PV) : C u5c [a0, a1, a2] =
 trunc (M.bind (C u1d [(strip (strip a0)), (strip (strip a1)), (strip (strip a2)), (.fn ubx [] [])]) fun t12_0 =>
 M.bind (ex 0 t12_0) fun t13_1 =>
 M.bind (ex 1 (tupDrop 0 t12_0)) fun t14_2 =>
 M.bind (ex 2 (tupDrop 1 (tupDrop 0 t12_0))) fun t15_3 =>
 resT t13_1 (resT t14_2 (resT t15_3 (M.pure (.tup [t13_1, t14_2, t15_3]))))) := by
 rw [C, u03 _ _ rfl]; kernel_rfl
theorem ubm (a0 a1 : PV) : C u52 [a0, a1] =
 trunc (M.bind (nc P (strip a0)) fun t10_0 =>
 M.bind (fa 20 t10_0) fun t11_1 =>
 M.bind (ld none false t11_1) fun t12_2 =>
 M.bind (bi .neq .none t12_2 (.int .i64 0)) fun t13_3 =>
 condM t13_3
 (M.pure (.int .i32 0))
 (M.bind (noPan (M.pure (strip a1))) fun t16_21 =>
 M.bind (noPan (M.pure (strip a0))) fun t17_22 =>
 M.bind (noPan (nc P t17_22)) fun t18_23 =>
 M.bind (noPan (fa 0 t18_23)) fun t19_24 =>
 M.bind (noPan (M.pure (strip a0))) fun t21_25 =>
 M.bind (noPan (nc P t21_25)) fun t22_26 =>
 M.bind (noPan (fa 1 t22_26)) fun t23_27 =>
 M.bind (noPan (ld none false t19_24)) fun t20_28 =>
 M.bind (noPan (ld none false t23_27)) fun t24_29 =>
 M.bind (noPan (callV P C t16_21 [(strip t20_28), (strip t24_29)])) fun t25_30 =>
 M.bind (noPan (M.pure (strip t25_30))) fun t15_31 =>
 M.bind (noPan (ex 0 t15_31)) fun t26_32 =>
 M.bind (noPan (ex 1 (tupDrop 0 t15_31))) fun t27_33 =>
 M.bind (noPan (ex 2 (tupDrop 1 (tupDrop 0 t15_31)))) fun t28_34 =>
 M.bind (noPan (M.pure t26_32)) fun t6_35 =>
 M.bind (noPan (M.pure t27_33)) fun t7_36 =>
 M.bind (noPan (M.pure t28_34)) fun t8_37 =>
 M.bind (bi .neq .none (strip t8_37) (.int .i64 0)) fun t30_38 =>
 condM t30_38
 (M.bind (C u0g [(strip (strip a0)), (strip (strip t7_36)), (strip (strip t8_37))]) fun t34_39 =>
 M.pure (.int .i32 0))
 (M.bind (nc P (strip a0)) fun t38_40 =>
 M.bind (fa 1 t38_40) fun t39_41 =>
 M.bind (st 1 true t39_41 t7_36) fun _ =>
 resT t6_35 (M.pure t6_35)))) := by
 rw [C, u03 _ _ rfl]; kernel_rfl
theorem u96 (a0 : PV) : C u3r [a0] =
 trunc (M.bind (bx 1 a0) fun t1_0 =>
 M.bind (mf u1a [] [t1_0]) fun t3_1 =>
 resT t3_1 (M.pure t3_1)) := by
 rw [C, u03 _ _ rfl]; kernel_rfl
theorem urc (a0 a1 a2 : PV) : C u5s [a0, a1, a2] =
 trunc (M.bind (C u47 [(strip (strip a0)), (strip (strip a1)), (strip (strip a2)), (.fn ucc [] [])]) fun t12_0 =>
 M.bind (ex 0 t12_0) fun t13_1 =>
 M.bind (ex 1 (tupDrop 0 t12_0)) fun t14_2 =>
 M.bind (ex 2 (tupDrop 1 (tupDrop 0 t12_0))) fun t15_3 =>
 resT t13_1 (resT t14_2 (resT t15_3 (M.pure (.tup [t13_1, t14_2, t15_3]))))) := by
 rw [C, u03 _ _ rfl]; kernel_rfl
theorem ub8 (a0 a1 : PV) : C u53 [a0, a1] =
 trunc (M.bind (nc P (strip a0)) fun t10_0 =>
 M.bind (fa 20 t10_0) fun t11_1 =>
 M.bind (ld none false t11_1) fun t12_2 =>
 M.bind (bi .neq .none t12_2 (.int .i64 0)) fun t13_3 =>
 condM t13_3
 (M.pure (.int .i64 0))
 (M.bind (noPan (M.pure (strip a1))) fun t16_21 =>
 M.bind (noPan (M.pure (strip a0))) fun t17_22 =>
 M.bind (noPan (nc P t17_22)) fun t18_23 =>
 M.bind (noPan (fa 0 t18_23)) fun t19_24 =>
 M.bind (noPan (M.pure (strip a0))) fun t21_25 =>
 M.bind (noPan (nc P t21_25)) fun t22_26 =>
 M.bind (noPan (fa 1 t22_26)) fun t23_27 =>
 M.bind (noPan (ld none false t19_24)) fun t20_28 =>
 M.bind (noPan (ld none false t23_27)) fun t24_29 =>
 M.bind (noPan (callV P C t16_21 [(strip t20_28), (strip t24_29)])) fun t25_30 =>
 M.bind (noPan (M.pure (strip t25_30))) fun t15_31 =>
 M.bind (noPan (ex 0 t15_31)) fun t26_32 =>
 M.bind (noPan (ex 1 (tupDrop 0 t15_31))) fun t27_33 =>
 M.bind (noPan (ex 2 (tupDrop 1 (tupDrop 0 t15_31)))) fun t28_34 =>
 M.bind (noPan (M.pure t26_32)) fun t6_35 =>
 M.bind (noPan (M.pure t27_33)) fun t7_36 =>
 M.bind (noPan (M.pure t28_34)) fun t8_37 =>
 M.bind (bi .neq .none (strip t8_37) (.int .i64 0)) fun t30_38 =>
 condM t30_38
 (M.bind (C u0g [(strip (strip a0)), (strip (strip t7_36)), (strip (strip t8_37))]) fun t34_39 =>
 M.pure (.int .i64 0))
 (M.bind (nc P (strip a0)) fun t38_40 =>
 M.bind (fa 1 t38_40) fun t39_41 =>
 M.bind (st 1 true t39_41 t7_36) fun _ =>
 resT t6_35 (M.pure t6_35)))) := by
 rw [C, u03 _ _ rfl]; kernel_rfl
theorem u98 (a0 : PV) : C u3q [a0] =
 trunc (M.bind (bx 1 a0) fun t1_0 =>
 M.bind (mf u19 [] [t1_0]) fun t3_1 =>
 resT t3_1 (M.pure t3_1)) := by
 rw [C, u03 _ _ rfl]; kernel_rfl
theorem uqq (a0 a1 a2 : PV) : C u5v [a0, a1, a2] =
 trunc (M.bind (C u1s [(strip (strip a0)), (strip (strip a1)), (strip (strip a2)), (.fn ucg [] [])]) fun t12_0 =>
 M.bind (ex 0 t12_0) fun t13_1 =>
 M.bind (ex 1 (tupDrop 0 t12_0)) fun t14_2 =>
 M.bind (ex 2 (tupDrop 1 (tupDrop 0 t12_0))) fun t15_3 =>
 resT t13_1 (resT t14_2 (resT t15_3 (M.pure (.tup [t13_1, t14_2, t15_3]))))) := by
 rw [C, u03 _ _ rfl]; kernel_rfl
theorem uam (a0 a1 : PV) : C u2c [a0, a1] =
 trunc (M.bind (nc P (strip a0)) fun t10_0 =>
 M.bind (fa 20 t10_0) fun t11_1 =>
 M.bind (ld none false t11_1) fun t12_2 =>
 M.bind (bi .neq .none t12_2 (.int .i64 0)) fun t13_3 =>
 condM t13_3
 (M.pure (.int .u32 0))
 (M.bind (noPan (M.pure (strip a1))) fun t16_21 =>
 M.bind (noPan (M.pure (strip a0))) fun t17_22 =>
 M.bind (noPan (nc P t17_22)) fun t18_23 =>
 M.bind (noPan (fa 0 t18_23)) fun t19_24 =>
 M.bind (noPan (M.pure (strip a0))) fun t21_25 =>
 M.bind (noPan (nc P t21_25)) fun t22_26 =>
 M.bind (noPan (fa 1 t22_26)) fun t23_27 =>
 M.bind (noPan (ld none false t19_24)) fun t20_28 =>
 M.bind (noPan (ld none false t23_27)) fun t24_29 =>
 M.bind (noPan (callV P C t16_21 [(strip t20_28), (strip t24_29)])) fun t25_30 =>
 M.bind (noPan (M.pure (strip t25_30))) fun t15_31 =>
 M.bind (noPan (ex 0 t15_31)) fun t26_32 =>
 M.bind (noPan (ex 1 (tupDrop 0 t15_31))) fun t27_33 =>
 M.bind (noPan (ex 2 (tupDrop 1 (tupDrop 0 t15_31)))) fun t28_34 =>
 M.bind (noPan (M.pure t26_32)) fun t6_35 =>
 M.bind (noPan (M.pure t27_33)) fun t7_36 =>
 M.bind (noPan (M.pure t28_34)) fun t8_37 =>
 M.bind (bi .neq .none (strip t8_37) (.int .i64 0)) fun t30_38 =>
 condM t30_38
 (M.bind (C u0g [(strip (strip a0)), (strip (strip t7_36)), (strip (strip t8_37))]) fun t34_39 =>
 M.pure (.int .u32 0))
 (M.bind (nc P (strip a0)) fun t38_40 =>
 M.bind (fa 1 t38_40) fun t39_41 =>
 M.bind (st 1 true t39_41 t7_36) fun _ =>
 resT t6_35 (M.pure t6_35)))) := by
 rw [C, u03 _ _ rfl]; kernel_rfl
theorem u8r (a0 : PV) : C u1h [a0] =
 trunc (M.bind (bx 1 a0) fun t1_0 =>
 M.bind (mf u0s [] [t1_0]) fun t3_1 =>
 resT t3_1 (M.pure t3_1)) := by
 rw [C, u03 _ _ rfl]; kernel_rfl
theorem ur3 (a0 a1 a2 : PV) : C u5t [a0, a1, a2] =
 trunc (M.bind (C u1e [(strip (strip a0)), (strip (strip a1)), (strip (strip a2)), (.fn uc1 [] [])]) fun t12_0 =>
 M.bind (ex 0 t12_0) fun t13_1 =>
 M.bind (ex 1 (tupDrop 0 t12_0)) fun t14_2 =>
 M.bind (ex 2 (tupDrop 1 (tupDrop 0 t12_0))) fun t15_3 =>
 resT t13_1 (resT t14_2 (resT t15_3 (M.pure (.tup [t13_1, t14_2, t15_3]))))) := by
 rw [C, u03 _ _ rfl]; kernel_rfl
theorem urv (a0 a1 a2 : PV) : C u5y [a0, a1, a2] =
 trunc (M.bind (C u1d [(strip (strip a0)), (strip (strip a1)), (strip (strip a2)), (.fn uc0 [] [])]) fun t12_0 =>
 M.bind (ex 0 t12_0) fun t13_1 =>
 M.bind (ex 1 (tupDrop 0 t12_0)) fun t14_2 =>
 M.bind (ex 2 (tupDrop 1 (tupDrop 0 t12_0))) fun t15_3 =>
 resT t13_1 (resT t14_2 (resT t15_3 (M.pure (.tup [t13_1, t14_2, t15_3]))))) := by
 rw [C, u03 _ _ rfl]; kernel_rfl
theorem ub9 (a0 a1 : PV) : C u2o [a0, a1] =
 trunc (M.bind (C u73 [(strip (strip a0)), (.fn u4s [] [])]) fun t6_0 =>
 M.bind (nc P (strip a0)) fun t9_1 =>
 M.bind (fa 2 t9_1) fun t10_2 =>
 M.bind (fa 15 t10_2) fun t11_3 =>
 M.bind (ld none true t11_3) fun t12_4 =>
 M.bind (bd [(.int .i64 0), (.bool false), (.int .i64 0)] [(0, 1, (.int .i64 5)), (1, 1, (strip a1)), (2, 1, (strip t6_0))]) fun t15_5 =>
 M.bind (bs true (some 3) [t15_5]) fun t16_6 =>
 M.bind (ap true 3 24 t12_4 t16_6) fun t17_7 =>
 M.bind (nc P (strip a0)) fun t18_8 =>
 M.bind (fa 2 t18_8) fun t19_9 =>
 M.bind (fa 15 t19_9) fun t20_10 =>
 M.bind (st 1 true t20_10 t17_7) fun _ =>
 M.pure (.tup [])) := by
 rw [C, u03 _ _ rfl]; kernel_rfl
end Go.Proofs.YthidcpkcfoldmaaGreat.Pi.Q
namespace Go.Proofs.YthidcpkcfoldmaaGreat.Pi.Q
open Go Go.Proofs.YthidcpkcfoldmaaGreat.Pi
noncomputable def u45 (v0 v1 v4 v5 v9 : PV) : M PV := atP P X u8p [1, 1, 0, 1, 0] (mkEnv 29 0 [(0, v0), (1, v1), (4, v4), (5, v5), (9, v9)])
theorem u41 (v0 v1 v4 v5 v9 : PV) : u45 v0 v1 v4 v5 v9 =
 M.bind (nx v9) fun t10_0 =>
 M.bind (ex 0 t10_0) fun t11_1 =>
 condM t11_1
 (M.bind (ex 1 (tupDrop 0 t10_0)) fun t12_2 =>
 M.bind (ex 2 (tupDrop 1 (tupDrop 0 t10_0))) fun t13_3 =>
 M.bind (bi .neq .none (strip t13_3) (.int .i32 32)) fun t15_4 =>
 condM t15_4
 (u45 v0 v1 v4 v5 v9)
 (M.bind (bi .eql .none (strip v1) (.int .i64 0)) fun t17_5 =>
 condM t17_5
 (M.bind (slS (strip v0) (some (strip v5)) (some (strip t12_2))) fun t21_6 =>
 resT t21_6 (M.pure t21_6))
 (M.bind (bi .sub .none (strip v1) (.int .i64 1)) fun t23_7 =>
 M.bind (bi .add .none (strip t12_2) (.int .i64 1)) fun t25_8 =>
 u45 v0 t23_7 v4 t25_8 v9)))
 (M.bind (slS (strip v0) (some (strip v5)) none) fun t28_9 =>
 resT t28_9 (M.pure t28_9)) :=
 (u0j P X _ _ _).trans (by kernel_rfl)
theorem uk6 (a0 a1 : PV) : C u8p [a0, a1] =
 trunc (M.bind (rg (strip a0)) fun t9_0 =>
 u45 a0 a1 (.str ⟨#[]⟩) (.int .i64 0) t9_0) := by
 rw [C, u03 _ _ rfl]; kernel_rfl
theorem ucw (a0 a1 : PV) : CD none u7g [a0, a1] =
 noPan (trunc (M.bind (M.pure .niliface) fun t3_0 =>
 M.bind (bi .neq .iface (strip t3_0) .niliface) fun t5_1 =>
 condM t5_1
 (nb (M.pure (strip t3_0)) fun t6_2 =>
 nb (ta u0b (.agg [(.int .i64 0), (.int .i64 0)]) false t6_2) fun t7_3 =>
 nb (fd 1 none t7_3) fun t8_4 =>
 guardM (!clash (tst a0) (.no) && (!clash (tst a0) (.no) && (!clash (tst a0) (.no) && true))) <| M.bind (noPan (st 1 false a0 (.slice false true 0 []))) fun _ =>
 M.bind (noPan (st 1 true a1 t8_4)) fun _ =>
 M.pure (.tup []))
 (M.pure (.tup [])))) := by
 rw [CD, u6z]; kernel_rfl
theorem ucx (r : PV) (a0 a1 : PV) : CD (some r) u7g [a0, a1] =
 noPan (trunc (M.bind (M.pure r) fun t3_0 =>
 M.bind (bi .neq .iface (strip t3_0) .niliface) fun t5_1 =>
 condM t5_1
 (nb (M.pure (strip t3_0)) fun t6_2 =>
 nb (ta u0b (.agg [(.int .i64 0), (.int .i64 0)]) false t6_2) fun t7_3 =>
 nb (fd 1 none t7_3) fun t8_4 =>
 guardM (!clash (tst a0) (.no) && (!clash (tst a0) (.no) && (!clash (tst a0) (.no) && true))) <| M.bind (noPan (st 1 false a0 (.slice false true 0 []))) fun _ =>
 M.bind (noPan (st 1 true a1 t8_4)) fun _ =>
 M.pure (.tup []))
 (M.pure (.tup [])))) := by
 rw [CD, u6z]; kernel_rfl
noncomputable def u0w (v0 v1 v22 v23 : PV) : M PV := atP P X u4r [1, 0, 1, 0] (mkEnv 38 0 [(0, v0), (1, v1), (22, v22), (23, v23)])
theorem u6e (v0 v1 v22 v23 : PV) : u0w v0 v1 v22 v23 =
 M.bind (bi .lss .none v23 (.int .i64 12)) fun t24_0 =>
 condM t24_0
 (M.bind (ixA 12 1 none v22 (strip v23)) fun t26_1 =>
 M.bind (bi .eql .none (strip t26_1) (strip v1)) fun t29_2 =>
 condM t29_2
 (M.bind (cv (.int .u8) true (strip v23)) fun t32_3 =>
 M.bind (bi .add .none (.int .u8 105) t32_3) fun t33_4 =>
 M.bind (C u24 [(strip (strip v0)), (strip t33_4)]) fun t34_5 =>
 M.pure (.tup []))
 (M.bind (bi .add .none (strip v23) (.int .i64 1)) fun t35_6 =>
 u0w v0 v1 v22 (strip t35_6)))
 (M.bind (C u1m [(strip (strip v0)), (.bool false)]) fun t37_7 =>
 M.pure (.tup [])) :=
 (u0j P X _ _ _).trans (by kernel_rfl)
theorem uda (a0 a1 : PV) : C u4r [a0, a1] =
 trunc (M.bind (bi .geq .none (strip a1) (.int .i64 0)) fun t7_0 =>
 condM t7_0
 (M.bind (C u6d [(strip (strip a1))]) fun t10_1 =>
 M.bind (C u1m [(strip (strip a0)), (strip t10_1)]) fun t11_2 =>
 chk
 (M.bind (noPan (M.pure (strip a0))) fun t12_14 =>
 M.bind (noPan (M.pure (strip a0))) fun t13_15 =>
 M.bind (noPan (nc P t13_15)) fun t14_16 =>
 M.bind (noPan (fa 0 t14_16)) fun t15_17 =>
 M.bind (noPan (M.pure (strip a1))) fun t17_18 =>
 M.bind (noPan (C u28 [(strip t17_18)])) fun t18_19 =>
 M.bind (noPan (ld none true t15_17)) fun t16_20 =>
 M.bind (noPan (ap true 1 1 t16_20 t18_19)) fun t19_21 =>
 M.bind (noPan (nc P t12_14)) fun t20_22 =>
 M.bind (noPan (fa 0 t20_22)) fun t21_23 =>
 M.bind (noPan (st 1 true t21_23 t19_21)) fun _ =>
 M.pure [a0, a1, .undef, .undef, .undef, .undef, (strip a1), t7_0, (strip a0), (strip a1), t10_1, t11_2, t12_14, t13_15, t14_16, t15_17, (strip t16_20), t17_18, t18_19, (strip t19_21), t20_22, t21_23, .undef, .undef, .undef, .undef, .undef, .undef, .undef, .undef, .undef, .undef, .undef, .undef, .undef, .undef, .undef, .undef])
 (M.bind (noPan (M.pure (strip a0))) fun t12_3 =>
 M.bind (noPan (M.pure (strip a0))) fun t13_4 =>
 M.bind (noPan (nc P t13_4)) fun t14_5 =>
 M.bind (noPan (fa 0 t14_5)) fun t15_6 =>
 M.bind (noPan (M.pure (strip a1))) fun t17_7 =>
 M.bind (noPan (ld none true t15_6)) fun t16_8 =>
 M.bind (noPan (C u28 [(strip t17_7)])) fun t18_9 =>
 M.bind (noPan (ap true 1 1 t16_8 t18_9)) fun t19_10 =>
 M.bind (noPan (nc P t12_3)) fun t20_11 =>
 M.bind (noPan (fa 0 t20_11)) fun t21_12 =>
 M.bind (noPan (st 1 true t21_12 t19_10)) fun _ =>
 M.pure [a0, a1, .undef, .undef, .undef, .undef, (strip a1), t7_0, (strip a0), (strip a1), t10_1, t11_2, t12_3, t13_4, t14_5, t15_6, (strip t16_8), t17_7, t18_9, (strip t19_10), t20_11, t21_12, .undef, .undef, .undef, .undef, .undef, .undef, .undef, .undef, .undef, .undef, .undef, .undef, .undef, .undef, .undef, .undef]) <|
 M.bind (noPan (M.pure (strip a0))) fun t12_25 =>
 M.bind (noPan (M.pure (strip a0))) fun t13_26 =>
 M.bind (noPan (nc P t13_26)) fun t14_27 =>
 M.bind (noPan (fa 0 t14_27)) fun t15_28 =>
 M.bind (noPan (M.pure (strip a1))) fun t17_29 =>
 M.bind (noPan (ld none true t15_28)) fun t16_30 =>
 M.bind (noPan (C u28 [(strip t17_29)])) fun t18_31 =>
 M.bind (noPan (ap true 1 1 t16_30 t18_31)) fun t19_32 =>
 M.bind (noPan (nc P t12_25)) fun t20_33 =>
 M.bind (noPan (fa 0 t20_33)) fun t21_34 =>
 M.bind (noPan (st 1 true t21_34 t19_32)) fun _ =>
 M.pure (.tup []))
 (M.bind (C u4u []) fun t22_36 =>
 u0w a0 a1 t22_36 (.int .i64 0))) := by
 rw [C, u03 _ _ rfl]; kernel_rfl
theorem u9q (a0 a1 : PV) : C u42 [a0, a1] =
 trunc (M.bind (ld (some 3) false a1) fun t4_0 =>
 M.bind (C u5f [(strip (strip a0)), (strip t4_0)]) fun t5_1 =>
 M.pure (.tup [])) := by
 rw [C, u03 _ _ rfl]; kernel_rfl
theorem u97 (a0 a1 : PV) : C u3w [a0, a1] =
 trunc (M.bind (ld none false a1) fun t4_0 =>
 M.bind (C u4r [(strip (strip a0)), (strip t4_0)]) fun t5_1 =>
 M.pure (.tup [])) := by
 rw [C, u03 _ _ rfl]; kernel_rfl
noncomputable def u67 (v0 v4 v5 v6 v7 : PV) : M PV := atP P X u8j [1, 1, 0, 1, 0] (mkEnv 18 0 [(0, v0), (4, v4), (5, v5), (6, v6), (7, v7)])
theorem u7l (v0 v4 v5 v6 v7 : PV) : u67 v0 v4 v5 v6 v7 =
 M.bind (bi .lss .none v7 v6) fun t8_0 =>
 condM t8_0
 (M.bind (cv (.int .u8) true (strip v0)) fun t11_1 =>
 M.bind (bs true none [t11_1]) fun t12_2 =>
 M.bind (ap true 1 1 v5 t12_2) fun t13_3 =>
 M.bind (bi .shr .none (strip v0) (.int .u64 8)) fun t15_4 =>
 M.bind (bi .add .none v7 (.int .i64 1)) fun t16_5 =>
 u67 t15_4 v4 t13_3 v6 (strip t16_5))
 (resT v5 (M.pure v5)) :=
 (u0j P X _ _ _).trans (by kernel_rfl)
theorem un7 (a0 a1 : PV) : C u8j [a0, a1] =
 trunc (u67 a0 (.slice false true 0 []) (.slice false true 0 []) (strip a1) (.int .i64 0)) := by
 rw [C, u03 _ _ rfl]; kernel_rfl
theorem u91 (a0 a1 a2 : PV) : C u3a [a0, a1, a2] =
 trunc (M.bind (al [(.int .i64 0), (.int .i64 0), (.bool false), (.int .i64 0)]) fun t6_0 =>
 M.bind (al [(.int .i64 0)]) fun t7_1 =>
 M.bind (al [(.int .i64 0)]) fun t8_2 =>
 M.bind (al [(.int .i64 0), (.int .i64 0), (.bool false), (.int .i64 0)]) fun t9_3 =>
 M.bind (bi .lss .none (strip a1) (.int .i64 0)) fun t12_4 =>
 M.bind (gd (strip t12_4) false (M.pure (strip a1))) fun t14_5 =>
 M.bind (gd (strip t12_4) false (M.pure (strip a0))) fun t15_6 =>
 M.bind (gd (strip t12_4) false (lnL t15_6)) fun t16_7 =>
 M.bind (gd (strip t12_4) false (bi .gtr .none t14_5 t16_7)) fun t17_8 =>
 M.bind (pick (strip t12_4) (.bool true) t17_8) fun t18_9 =>
 condM t18_9
 (M.bind (ld (some 4) true t9_3) fun t19_10 =>
 M.bind (st 4 true t6_0 t19_10) fun _ =>
 M.bind (st 1 false t7_1 (.int .i64 0)) fun _ =>
 M.bind (st 1 false t8_2 (.int .i64 1)) fun _ =>
 M.bind (ld (some 4) true t6_0) fun t0_14 => guardM (!isTup t0_14) (M.bind (ld none true t7_1) fun t0_15 => guardM (!isTup t0_15) (M.bind (ld none true t8_2) fun t0_16 => guardM (!isTup t0_16) (M.pure (.tup [t0_14, t0_15, t0_16])))))
 (M.bind (mf u4a [] [t9_3, t6_0, t7_1, t8_2]) fun t20_17 =>
 guardM (isPtr t6_0 && isPtr t7_1 && isPtr t8_2) <| deferM CD t20_17 []
 (M.bind (bd [(.slice false true 0 []), (.int .i64 0)] [(0, 1, (strip a0)), (1, 1, (strip a1))]) fun t23_18 =>
 M.bind (bx 2 t23_18) fun t24_19 =>
 M.bind (callV P C (strip a2) [(strip (strip t24_19))]) fun t27_20 =>
 M.bind (st 4 true t6_0 t27_20) fun _ =>
 chk
 (M.bind (noPan (M.pure (strip t24_19))) fun t29_30 =>
 M.bind (noPan (nc P t29_30)) fun t30_31 =>
 M.bind (noPan (fa 1 t30_31)) fun t31_32 =>
 M.bind (noPan (ld (some 4) true t6_0)) fun t28_33 =>
 M.bind (noPan (st 4 true t6_0 t28_33)) fun _ =>
 M.bind (noPan (ld none true t31_32)) fun t32_35 =>
 M.bind (noPan (st 1 true t7_1 t32_35)) fun _ =>
 M.bind (noPan (st 1 false t8_2 (.int .i64 0))) fun _ =>
 M.pure [a0, a1, a2, .undef, .undef, .undef, t6_0, t7_1, t8_2, t9_3, t24_19, (strip a1), t12_4, (strip t12_4), t14_5, t15_6, t16_7, t17_8, t18_9, .undef, t20_17, (strip a0), (strip a1), t23_18, (strip t24_19), (strip a2), (strip t24_19), (strip t27_20), (strip t28_33), t29_30, t30_31, t31_32, (strip t32_35)])
 (M.bind (noPan (M.pure (strip t24_19))) fun t29_22 =>
 M.bind (noPan (nc P t29_22)) fun t30_23 =>
 M.bind (noPan (fa 1 t30_23)) fun t31_24 =>
 M.bind (noPan (ld (some 4) true t6_0)) fun t28_25 =>
 M.bind (noPan (ld none true t31_24)) fun t32_26 =>
 M.bind (noPan (st 4 true t6_0 t28_25)) fun _ =>
 M.bind (noPan (st 1 true t7_1 t32_26)) fun _ =>
 M.bind (noPan (st 1 false t8_2 (.int .i64 0))) fun _ =>
 M.pure [a0, a1, a2, .undef, .undef, .undef, t6_0, t7_1, t8_2, t9_3, t24_19, (strip a1), t12_4, (strip t12_4), t14_5, t15_6, t16_7, t17_8, t18_9, .undef, t20_17, (strip a0), (strip a1), t23_18, (strip t24_19), (strip a2), (strip t24_19), (strip t27_20), (strip t28_25), t29_22, t30_23, t31_24, (strip t32_26)]) <|
 chk
 (M.bind (noPan (M.pure (strip t24_19))) fun t29_38 =>
 M.bind (noPan (nc P t29_38)) fun t30_39 =>
 M.bind (noPan (fa 1 t30_39)) fun t31_40 =>
 M.bind (noPan (ld none true t31_40)) fun t32_41 =>
 M.bind (noPan (ld (some 4) true t6_0)) fun t28_42 =>
 M.bind (noPan (st 4 true t6_0 t28_42)) fun _ =>
 M.bind (noPan (st 1 true t7_1 t32_41)) fun _ =>
 M.bind (noPan (st 1 false t8_2 (.int .i64 0))) fun _ =>
 M.pure [a0, a1, a2, .undef, .undef, .undef, t6_0, t7_1, t8_2, t9_3, t24_19, (strip a1), t12_4, (strip t12_4), t14_5, t15_6, t16_7, t17_8, t18_9, .undef, t20_17, (strip a0), (strip a1), t23_18, (strip t24_19), (strip a2), (strip t24_19), (strip t27_20), (strip t28_42), t29_38, t30_39, t31_40, (strip t32_41)])
 (M.bind (noPan (M.pure (strip t24_19))) fun t29_22 =>
 M.bind (noPan (nc P t29_22)) fun t30_23 =>
 M.bind (noPan (fa 1 t30_23)) fun t31_24 =>
 M.bind (noPan (ld (some 4) true t6_0)) fun t28_25 =>
 M.bind (noPan (ld none true t31_24)) fun t32_26 =>
 M.bind (noPan (st 4 true t6_0 t28_25)) fun _ =>
 M.bind (noPan (st 1 true t7_1 t32_26)) fun _ =>
 M.bind (noPan (st 1 false t8_2 (.int .i64 0))) fun _ =>
 M.pure [a0, a1, a2, .undef, .undef, .undef, t6_0, t7_1, t8_2, t9_3, t24_19, (strip a1), t12_4, (strip t12_4), t14_5, t15_6, t16_7, t17_8, t18_9, .undef, t20_17, (strip a0), (strip a1), t23_18, (strip t24_19), (strip a2), (strip t24_19), (strip t27_20), (strip t28_25), t29_22, t30_23, t31_24, (strip t32_26)]) <|
 M.bind (noPan (M.pure (strip t24_19))) fun t29_46 =>
 M.bind (noPan (nc P t29_46)) fun t30_47 =>
 M.bind (noPan (fa 1 t30_47)) fun t31_48 =>
 M.bind (noPan (ld (some 4) true t6_0)) fun t28_49 =>
 M.bind (noPan (ld none true t31_48)) fun t32_50 =>
 M.bind (noPan (st 4 true t6_0 t28_49)) fun _ =>
 M.bind (noPan (st 1 true t7_1 t32_50)) fun _ =>
 M.bind (noPan (st 1 false t8_2 (.int .i64 0))) fun _ =>
 M.bind (ld (some 4) true t6_0) fun t0_54 => guardM (!isTup t0_54) (M.bind (ld none true t7_1) fun t0_55 => guardM (!isTup t0_55) (M.bind (ld none true t8_2) fun t0_56 => guardM (!isTup t0_56) (M.pure (.tup [t0_54, t0_55, t0_56])))))
 (M.bind (ld (some 4) true t6_0) fun t0_57 => guardM (!isTup t0_57) (M.bind (ld none true t7_1) fun t0_58 => guardM (!isTup t0_58) (M.bind (ld none true t8_2) fun t0_59 => guardM (!isTup t0_59) (M.pure (.tup [t0_57, t0_58, t0_59]))))))) := by
 rw [C, u03 _ _ rfl]; kernel_rfl
theorem u9k (a0 : PV) : C u2y [a0] =
 trunc (M.bind (al [(.int .i64 0), (.int .i64 0), (.bool false), (.int .i64 0)]) fun t2_0 =>
 M.bind (C u10 [(strip (strip a0))]) fun t5_1 =>
 M.bind (bi .eql .none (strip t5_1) (.int .u8 64)) fun t8_2 =>
 condM t8_2
 (M.bind (nc P (strip a0)) fun t10_3 =>
 M.bind (fa 1 t10_3) fun t11_4 =>
 M.bind (ld none false t11_4) fun t12_5 =>
 M.bind (bi .add .none t12_5 (.int .i64 1)) fun t13_6 =>
 M.bind (nc P (strip a0)) fun t14_7 =>
 M.bind (fa 1 t14_7) fun t15_8 =>
 M.bind (st 1 true t15_8 t13_6) fun _ =>
 M.bind (bd [(.int .i64 0), (.int .i64 0), (.bool false), (.int .i64 0)] [(0, 1, (.int .i64 (-1)))]) fun t16_10 =>
 M.bind (st 4 true t2_0 t16_10) fun _ =>
 M.bind (ld (some 4) true t2_0) fun t0_12 => guardM (!isTup t0_12) (M.pure t0_12))
 (M.bind (bi .gtr .none (strip t5_1) (.int .u8 64)) fun t19_13 =>
 M.bind (gd (strip t19_13) true (M.pure (strip t5_1))) fun t21_14 =>
 M.bind (gd (strip t19_13) true (bi .lss .none t21_14 (.int .u8 128))) fun t22_15 =>
 M.bind (pick (strip t19_13) t22_15 (.bool false)) fun t23_16 =>
 condM t23_16
 (M.bind (C u1y [(strip (strip a0))]) fun t25_17 =>
 M.bind (bd [(.int .i64 0), (.int .i64 0), (.bool false), (.int .i64 0)] [(0, 1, (.int .i64 (-1))), (1, 3, t25_17)]) fun t26_18 =>
 M.bind (st 4 true t2_0 t26_18) fun _ =>
 M.bind (ld (some 4) true t2_0) fun t0_20 => guardM (!isTup t0_20) (M.pure t0_20))
 (M.bind (C u3l [(strip (strip a0))]) fun t28_21 =>
 M.bind (bd [(.int .i64 0), (.int .i64 0), (.bool false), (.int .i64 0)] [(0, 1, t28_21)]) fun t29_22 =>
 M.bind (st 4 true t2_0 t29_22) fun _ =>
 M.bind (ld (some 4) true t2_0) fun t0_24 => guardM (!isTup t0_24) (M.pure t0_24)))) := by
 rw [C, u03 _ _ rfl]; kernel_rfl
theorem uqt (a0 a1 a2 : PV) : C u60 [a0, a1, a2] =
 trunc (M.bind (C u1e [(strip (strip a0)), (strip (strip a1)), (strip (strip a2)), (.fn uce [] [])]) fun t12_0 =>
 M.bind (ex 0 t12_0) fun t13_1 =>
 M.bind (ex 1 (tupDrop 0 t12_0)) fun t14_2 =>
 M.bind (ex 2 (tupDrop 1 (tupDrop 0 t12_0))) fun t15_3 =>
 resT t13_1 (resT t14_2 (resT t15_3 (M.pure (.tup [t13_1, t14_2, t15_3]))))) := by
 rw [C, u03 _ _ rfl]; kernel_rfl
theorem u88 (a0 a1 a2 : PV) : C u2n [a0, a1, a2] =
 trunc (M.bind (al [(.int .i64 0), (.bool false), (.int .i64 0)]) fun t6_0 =>
 M.bind (al [(.int .i64 0)]) fun t7_1 =>
 M.bind (al [(.int .i64 0)]) fun t8_2 =>
 M.bind (al [(.int .i64 0), (.bool false), (.int .i64 0)]) fun t9_3 =>
 M.bind (bi .lss .none (strip a1) (.int .i64 0)) fun t12_4 =>
 M.bind (gd (strip t12_4) false (M.pure (strip a1))) fun t14_5 =>
 M.bind (gd (strip t12_4) false (M.pure (strip a0))) fun t15_6 =>
 M.bind (gd (strip t12_4) false (lnL t15_6)) fun t16_7 =>
 M.bind (gd (strip t12_4) false (bi .gtr .none t14_5 t16_7)) fun t17_8 =>
 M.bind (pick (strip t12_4) (.bool true) t17_8) fun t18_9 =>
 condM t18_9
 (M.bind (ld (some 3) true t9_3) fun t19_10 =>
 M.bind (st 3 true t6_0 t19_10) fun _ =>
 M.bind (st 1 false t7_1 (.int .i64 0)) fun _ =>
 M.bind (st 1 false t8_2 (.int .i64 1)) fun _ =>
 M.bind (ld (some 3) true t6_0) fun t0_14 => guardM (!isTup t0_14) (M.bind (ld none true t7_1) fun t0_15 => guardM (!isTup t0_15) (M.bind (ld none true t8_2) fun t0_16 => guardM (!isTup t0_16) (M.pure (.tup [t0_14, t0_15, t0_16])))))
 (M.bind (mf u3h [] [t9_3, t6_0, t7_1, t8_2]) fun t20_17 =>
 guardM (isPtr t6_0 && isPtr t7_1 && isPtr t8_2) <| deferM CD t20_17 []
 (M.bind (bd [(.slice false true 0 []), (.int .i64 0)] [(0, 1, (strip a0)), (1, 1, (strip a1))]) fun t23_18 =>
 M.bind (bx 2 t23_18) fun t24_19 =>
 M.bind (callV P C (strip a2) [(strip (strip t24_19))]) fun t27_20 =>
 M.bind (st 3 true t6_0 t27_20) fun _ =>
 chk
 (M.bind (noPan (M.pure (strip t24_19))) fun t29_30 =>
 M.bind (noPan (nc P t29_30)) fun t30_31 =>
 M.bind (noPan (fa 1 t30_31)) fun t31_32 =>
 M.bind (noPan (ld (some 3) true t6_0)) fun t28_33 =>
 M.bind (noPan (st 3 true t6_0 t28_33)) fun _ =>
 M.bind (noPan (ld none true t31_32)) fun t32_35 =>
 M.bind (noPan (st 1 true t7_1 t32_35)) fun _ =>
 M.bind (noPan (st 1 false t8_2 (.int .i64 0))) fun _ =>
 M.pure [a0, a1, a2, .undef, .undef, .undef, t6_0, t7_1, t8_2, t9_3, t24_19, (strip a1), t12_4, (strip t12_4), t14_5, t15_6, t16_7, t17_8, t18_9, .undef, t20_17, (strip a0), (strip a1), t23_18, (strip t24_19), (strip a2), (strip t24_19), (strip t27_20), (strip t28_33), t29_30, t30_31, t31_32, (strip t32_35)])
 (M.bind (noPan (M.pure (strip t24_19))) fun t29_22 =>
 M.bind (noPan (nc P t29_22)) fun t30_23 =>
 M.bind (noPan (fa 1 t30_23)) fun t31_24 =>
 M.bind (noPan (ld (some 3) true t6_0)) fun t28_25 =>
 M.bind (noPan (ld none true t31_24)) fun t32_26 =>
 M.bind (noPan (st 3 true t6_0 t28_25)) fun _ =>
 M.bind (noPan (st 1 true t7_1 t32_26)) fun _ =>
 M.bind (noPan (st 1 false t8_2 (.int .i64 0))) fun _ =>
 M.pure [a0, a1, a2, .undef, .undef, .undef, t6_0, t7_1, t8_2, t9_3, t24_19, (strip a1), t12_4, (strip t12_4), t14_5, t15_6, t16_7, t17_8, t18_9, .undef, t20_17, (strip a0), (strip a1), t23_18, (strip t24_19), (strip a2), (strip t24_19), (strip t27_20), (strip t28_25), t29_22, t30_23, t31_24, (strip t32_26)]) <|
 chk
 (M.bind (noPan (M.pure (strip t24_19))) fun t29_38 =>
 M.bind (noPan (nc P t29_38)) fun t30_39 =>
 M.bind (noPan (fa 1 t30_39)) fun t31_40 =>
 M.bind (noPan (ld none true t31_40)) fun t32_41 =>
 M.bind (noPan (ld (some 3) true t6_0)) fun t28_42 =>
 M.bind (noPan (st 3 true t6_0 t28_42)) fun _ =>
 M.bind (noPan (st 1 true t7_1 t32_41)) fun _ =>
 M.bind (noPan (st 1 false t8_2 (.int .i64 0))) fun _ =>
 M.pure [a0, a1, a2, .undef, .undef, .undef, t6_0, t7_1, t8_2, t9_3, t24_19, (strip a1), t12_4, (strip t12_4), t14_5, t15_6, t16_7, t17_8, t18_9, .undef, t20_17, (strip a0), (strip a1), t23_18, (strip t24_19), (strip a2), (strip t24_19), (strip t27_20), (strip t28_42), t29_38, t30_39, t31_40, (strip t32_41)])
 (M.bind (noPan (M.pure (strip t24_19))) fun t29_22 =>
 M.bind (noPan (nc P t29_22)) fun t30_23 =>
 M.bind (noPan (fa 1 t30_23)) fun t31_24 =>
 M.bind (noPan (ld (some 3) true t6_0)) fun t28_25 =>
 M.bind (noPan (ld none true t31_24)) fun t32_26 =>
 M.bind (noPan (st 3 true t6_0 t28_25)) fun _ =>
 M.bind (noPan (st 1 true t7_1 t32_26)) fun _ =>
 M.bind (noPan (st 1 false t8_2 (.int .i64 0))) fun _ =>
 M.pure [a0, a1, a2, .undef, .undef, .undef, t6_0, t7_1, t8_2, t9_3, t24_19, (strip a1), t12_4, (strip t12_4), t14_5, t15_6, t16_7, t17_8, t18_9, .undef, t20_17, (strip a0), (strip a1), t23_18, (strip t24_19), (strip a2), (strip t24_19), (strip t27_20), (strip t28_25), t29_22, t30_23, t31_24, (strip t32_26)]) <|
 M.bind (noPan (M.pure (strip t24_19))) fun t29_46 =>
 M.bind (noPan (nc P t29_46)) fun t30_47 =>
 M.bind (noPan (fa 1 t30_47)) fun t31_48 =>
 M.bind (noPan (ld (some 3) true t6_0)) fun t28_49 =>
 M.bind (noPan (ld none true t31_48)) fun t32_50 =>
 M.bind (noPan (st 3 true t6_0 t28_49)) fun _ =>
 M.bind (noPan (st 1 true t7_1 t32_50)) fun _ =>
 M.bind (noPan (st 1 false t8_2 (.int .i64 0))) fun _ =>
 M.bind (ld (some 3) true t6_0) fun t0_54 => guardM (!isTup t0_54) (M.bind (ld none true t7_1) fun t0_55 => guardM (!isTup t0_55) (M.bind (ld none true t8_2) fun t0_56 => guardM (!isTup t0_56) (M.pure (.tup [t0_54, t0_55, t0_56])))))
 (M.bind (ld (some 3) true t6_0) fun t0_57 => guardM (!isTup t0_57) (M.bind (ld none true t7_1) fun t0_58 => guardM (!isTup t0_58) (M.bind (ld none true t8_2) fun t0_59 => guardM (!isTup t0_59) (M.pure (.tup [t0_57, t0_58, t0_59]))))))) := by
 rw [C, u03 _ _ rfl]; kernel_rfl
noncomputable def u4y (v0 v2 : PV) : M PV := atP P X u1y [1, 1, 1] (mkEnv 35 0 [(0, v0), (2, v2)])
theorem u62 (v0 v2 : PV) : u4y v0 v2 =
 M.bind (C u50 [(strip (strip v0))]) fun t34_0 =>
 M.bind (st 3 true v2 t34_0) fun _ =>
 M.bind (ld (some 3) true v2) fun t0_2 => guardM (!isTup t0_2) (M.pure t0_2) :=
 (u0j P X _ _ _).trans (by kernel_rfl)
theorem ubn (a0 : PV) : C u1y [a0] =
 trunc (M.bind (al [(.int .i64 0), (.bool false), (.int .i64 0)]) fun t2_0 =>
 M.bind (C u10 [(strip (strip a0))]) fun t5_1 =>
 M.bind (bi .eql .none (strip t5_1) (.int .u8 123)) fun t8_2 =>
 condM t8_2
 (M.bind (nc P (strip a0)) fun t11_3 =>
 M.bind (fa 1 t11_3) fun t12_4 =>
 M.bind (ld none false t12_4) fun t13_5 =>
 M.bind (C u18 [(strip (strip a0)), (strip t13_5), (.int .i64 8)]) fun t14_6 =>
 u4y a0 t2_0)
 (M.bind (bi .geq .none (strip t5_1) (.int .u8 124)) fun t17_7 =>
 M.bind (gd (strip t17_7) true (M.pure (strip t5_1))) fun t19_8 =>
 M.bind (gd (strip t17_7) true (bi .leq .none t19_8 (.int .u8 127))) fun t20_9 =>
 M.bind (pick (strip t17_7) t20_9 (.bool false)) fun t21_10 =>
 condM t21_10
 (M.bind (nc P (strip a0)) fun t23_11 =>
 M.bind (fa 1 t23_11) fun t24_12 =>
 M.bind (ld none false t24_12) fun t25_13 =>
 M.bind (bi .add .none t25_13 (.int .i64 1)) fun t26_14 =>
 M.bind (nc P (strip a0)) fun t27_15 =>
 M.bind (fa 1 t27_15) fun t28_16 =>
 M.bind (st 1 true t28_16 t26_14) fun _ =>
 M.bind (cv (.int .i64) true (strip t5_1)) fun t30_18 =>
 M.bind (bi .sub .none (.int .i64 128) t30_18) fun t31_19 =>
 M.bind (bd [(.int .i64 0), (.bool false), (.int .i64 0)] [(0, 1, t31_19)]) fun t32_20 =>
 M.bind (st 3 true t2_0 t32_20) fun _ =>
 M.bind (ld (some 3) true t2_0) fun t0_22 => guardM (!isTup t0_22) (M.pure t0_22))
 (u4y a0 t2_0))) := by
 rw [C, u03 _ _ rfl]; kernel_rfl
theorem u84 (a0 a1 a2 : PV) : C u0q [a0, a1, a2] =
 trunc (M.bind (ld none false a2) fun t8_0 =>
 M.bind (lnL (strip a0)) fun t12_1 =>
 M.bind (callV P C t8_0 [(strip (strip a0)), (strip (strip a1)), (strip t12_1)]) fun t13_2 =>
 M.bind (ex 0 t13_2) fun t14_3 =>
 M.bind (ex 1 (tupDrop 0 t13_2)) fun t15_4 =>
 M.bind (ex 2 (tupDrop 1 (tupDrop 0 t13_2))) fun t16_5 =>
 resT t14_3 (resT t15_4 (resT t16_5 (M.pure (.tup [t14_3, t15_4, t16_5]))))) := by
 rw [C, u03 _ _ rfl]; kernel_rfl
theorem u59 (a0 a1 a2 a3 : PV) : C u1d [a0, a1, a2, a3] =
 trunc (M.bind (C u5h [(strip (strip a0)), (strip (strip a1)), (strip (strip a2))]) fun t19_0 =>
 M.bind (ex 0 (strip t19_0)) fun t20_1 =>
 M.bind (ex 1 (tupDrop 0 (strip t19_0))) fun t21_2 =>
 M.bind (al [(.slice false true 0 []), (.int .i64 0), (.int .i64 0)]) fun t11_3 =>
 M.bind (st 3 true t11_3 t20_1) fun _ =>
 M.bind (bi .neq .none (strip t21_2) (.int .i64 0)) fun t23_5 =>
 condM t23_5
 (resT t21_2 (M.pure (.tup [(.int .u64 0), (.int .i64 0), t21_2])))
 (M.bind (ld (some 3) false t11_3) fun t27_6 =>
 M.bind (callV P C (strip a3) [(strip t27_6)]) fun t28_7 =>
 M.bind (ex 0 (strip t28_7)) fun t29_8 =>
 M.bind (ex 1 (tupDrop 0 (strip t28_7))) fun t30_9 =>
 M.bind (ex 2 (tupDrop 1 (tupDrop 0 (strip t28_7)))) fun t31_10 =>
 resT t29_8 (resT t30_9 (resT t31_10 (M.pure (.tup [t29_8, t30_9, t31_10])))))) := by
 rw [C, u03 _ _ rfl]; kernel_rfl
theorem us6 (a0 : PV) : C ubx [a0] =
 trunc (M.bind (bx 3 a0) fun t1_0 =>
 M.bind (ld (some 3) false t1_0) fun t5_1 =>
 M.bind (C u16 [(strip t5_1), (.int .i64 64)]) fun t6_2 =>
 M.bind (ex 0 t6_2) fun t7_3 =>
 M.bind (ex 1 (tupDrop 0 t6_2)) fun t8_4 =>
 M.bind (ex 2 (tupDrop 1 (tupDrop 0 t6_2))) fun t9_5 =>
 resT t7_3 (resT t8_4 (resT t9_5 (M.pure (.tup [t7_3, t8_4, t9_5]))))) := by
 rw [C, u03 _ _ rfl]; kernel_rfl
theorem u8h (a0 a1 a2 : PV) : C u1a [a0, a1, a2] =
 trunc (M.bind (ld none false a2) fun t8_0 =>
 M.bind (lnL (strip a0)) fun t12_1 =>
 M.bind (callV P C t8_0 [(strip (strip a0)), (strip (strip a1)), (strip t12_1)]) fun t13_2 =>
 M.bind (ex 0 t13_2) fun t14_3 =>
 M.bind (ex 1 (tupDrop 0 t13_2)) fun t15_4 =>
 M.bind (ex 2 (tupDrop 1 (tupDrop 0 t13_2))) fun t16_5 =>
 resT t14_3 (resT t15_4 (resT t16_5 (M.pure (.tup [t14_3, t15_4, t16_5]))))) := by
 rw [C, u03 _ _ rfl]; kernel_rfl
theorem u85 (a0 a1 a2 a3 : PV) : C u47 [a0, a1, a2, a3] =
 trunc (M.bind (C u5h [(strip (strip a0)), (strip (strip a1)), (strip (strip a2))]) fun t19_0 =>
 M.bind (ex 0 (strip t19_0)) fun t20_1 =>
 M.bind (ex 1 (tupDrop 0 (strip t19_0))) fun t21_2 =>
 M.bind (al [(.slice false true 0 []), (.int .i64 0), (.int .i64 0)]) fun t11_3 =>
 M.bind (st 3 true t11_3 t20_1) fun _ =>
 M.bind (bi .neq .none (strip t21_2) (.int .i64 0)) fun t23_5 =>
 condM t23_5
 (resT t21_2 (M.pure (.tup [(.int .i32 0), (.int .i64 0), t21_2])))
 (M.bind (ld (some 3) false t11_3) fun t27_6 =>
 M.bind (callV P C (strip a3) [(strip t27_6)]) fun t28_7 =>
 M.bind (ex 0 (strip t28_7)) fun t29_8 =>
 M.bind (ex 1 (tupDrop 0 (strip t28_7))) fun t30_9 =>
 M.bind (ex 2 (tupDrop 1 (tupDrop 0 (strip t28_7)))) fun t31_10 =>
 M.bind (cv (.int .i32) true (strip t29_8)) fun t33_11 =>
 resT t33_11 (resT t30_9 (resT t31_10 (M.pure (.tup [t33_11, t30_9, t31_10])))))) := by
 rw [C, u03 _ _ rfl]; kernel_rfl
theorem usg (a0 : PV) : C ucc [a0] =
 trunc (M.bind (bx 3 a0) fun t1_0 =>
 M.bind (ld (some 3) false t1_0) fun t5_1 =>
 M.bind (C u0o [(strip t5_1), (.int .i64 32)]) fun t6_2 =>
 M.bind (ex 0 t6_2) fun t7_3 =>
 M.bind (ex 1 (tupDrop 0 t6_2)) fun t8_4 =>
 M.bind (ex 2 (tupDrop 1 (tupDrop 0 t6_2))) fun t9_5 =>
 resT t7_3 (resT t8_4 (resT t9_5 (M.pure (.tup [t7_3, t8_4, t9_5]))))) := by
 rw [C, u03 _ _ rfl]; kernel_rfl
theorem u8f (a0 a1 a2 : PV) : C u19 [a0, a1, a2] =
 trunc (M.bind (ld none false a2) fun t8_0 =>
 M.bind (lnL (strip a0)) fun t12_1 =>
 M.bind (callV P C t8_0 [(strip (strip a0)), (strip (strip a1)), (strip t12_1)]) fun t13_2 =>
 M.bind (ex 0 t13_2) fun t14_3 =>
 M.bind (ex 1 (tupDrop 0 t13_2)) fun t15_4 =>
 M.bind (ex 2 (tupDrop 1 (tupDrop 0 t13_2))) fun t16_5 =>
 resT t14_3 (resT t15_4 (resT t16_5 (M.pure (.tup [t14_3, t15_4, t16_5]))))) := by
 rw [C, u03 _ _ rfl]; kernel_rfl
theorem u5w (a0 a1 a2 a3 : PV) : C u1s [a0, a1, a2, a3] =
 trunc (M.bind (C u5h [(strip (strip a0)), (strip (strip a1)), (strip (strip a2))]) fun t19_0 =>
 M.bind (ex 0 (strip t19_0)) fun t20_1 =>
 M.bind (ex 1 (tupDrop 0 (strip t19_0))) fun t21_2 =>
 M.bind (al [(.slice false true 0 []), (.int .i64 0), (.int .i64 0)]) fun t11_3 =>
 M.bind (st 3 true t11_3 t20_1) fun _ =>
 M.bind (bi .neq .none (strip t21_2) (.int .i64 0)) fun t23_5 =>
 condM t23_5
 (resT t21_2 (M.pure (.tup [(.int .i64 0), (.int .i64 0), t21_2])))
 (M.bind (ld (some 3) false t11_3) fun t27_6 =>
 M.bind (callV P C (strip a3) [(strip t27_6)]) fun t28_7 =>
 M.bind (ex 0 (strip t28_7)) fun t29_8 =>
 M.bind (ex 1 (tupDrop 0 (strip t28_7))) fun t30_9 =>
 M.bind (ex 2 (tupDrop 1 (tupDrop 0 (strip t28_7)))) fun t31_10 =>
 resT t29_8 (resT t30_9 (resT t31_10 (M.pure (.tup [t29_8, t30_9, t31_10])))))) := by
 rw [C, u03 _ _ rfl]; kernel_rfl
theorem use (a0 : PV) : C ucg [a0] =
 trunc (M.bind (bx 3 a0) fun t1_0 =>
 M.bind (ld (some 3) false t1_0) fun t5_1 =>
 M.bind (C u0o [(strip t5_1), (.int .i64 64)]) fun t6_2 =>
 M.bind (ex 0 t6_2) fun t7_3 =>
 M.bind (ex 1 (tupDrop 0 t6_2)) fun t8_4 =>
 M.bind (ex 2 (tupDrop 1 (tupDrop 0 t6_2))) fun t9_5 =>
 resT t7_3 (resT t8_4 (resT t9_5 (M.pure (.tup [t7_3, t8_4, t9_5]))))) := by
 rw [C, u03 _ _ rfl]; kernel_rfl
theorem u8b (a0 a1 a2 : PV) : C u0s [a0, a1, a2] =
 trunc (M.bind (ld none false a2) fun t8_0 =>
 M.bind (lnL (strip a0)) fun t12_1 =>
 M.bind (callV P C t8_0 [(strip (strip a0)), (strip (strip a1)), (strip t12_1)]) fun t13_2 =>
 M.bind (ex 0 t13_2) fun t14_3 =>
 M.bind (ex 1 (tupDrop 0 t13_2)) fun t15_4 =>
 M.bind (ex 2 (tupDrop 1 (tupDrop 0 t13_2))) fun t16_5 =>
 resT t14_3 (resT t15_4 (resT t16_5 (M.pure (.tup [t14_3, t15_4, t16_5]))))) := by
 rw [C, u03 _ _ rfl]; kernel_rfl
theorem u5i (a0 a1 a2 a3 : PV) : C u1e [a0, a1, a2, a3] =
 trunc (M.bind (C u5h [(strip (strip a0)), (strip (strip a1)), (strip (strip a2))]) fun t19_0 =>
 M.bind (ex 0 (strip t19_0)) fun t20_1 =>
 M.bind (ex 1 (tupDrop 0 (strip t19_0))) fun t21_2 =>
 M.bind (al [(.slice false true 0 []), (.int .i64 0), (.int .i64 0)]) fun t11_3 =>
 M.bind (st 3 true t11_3 t20_1) fun _ =>
 M.bind (bi .neq .none (strip t21_2) (.int .i64 0)) fun t23_5 =>
 condM t23_5
 (resT t21_2 (M.pure (.tup [(.int .u32 0), (.int .i64 0), t21_2])))
 (M.bind (ld (some 3) false t11_3) fun t27_6 =>
 M.bind (callV P C (strip a3) [(strip t27_6)]) fun t28_7 =>
 M.bind (ex 0 (strip t28_7)) fun t29_8 =>
 M.bind (ex 1 (tupDrop 0 (strip t28_7))) fun t30_9 =>
 M.bind (ex 2 (tupDrop 1 (tupDrop 0 (strip t28_7)))) fun t31_10 =>
 M.bind (cv (.int .u32) true (strip t29_8)) fun t33_11 =>
 resT t33_11 (resT t30_9 (resT t31_10 (M.pure (.tup [t33_11, t30_9, t31_10])))))) := by
 rw [C, u03 _ _ rfl]; kernel_rfl
theorem uqu (a0 : PV) : C uc1 [a0] =
 trunc (M.bind (bx 3 a0) fun t1_0 =>
 M.bind (ld (some 3) false t1_0) fun t5_1 =>
 M.bind (C u1x [(strip t5_1), (.int .i64 4)]) fun t6_2 =>
 M.bind (ex 0 t6_2) fun t7_3 =>
 M.bind (ex 1 (tupDrop 0 t6_2)) fun t8_4 =>
 M.bind (ex 2 (tupDrop 1 (tupDrop 0 t6_2))) fun t9_5 =>
 resT t7_3 (resT t8_4 (resT t9_5 (M.pure (.tup [t7_3, t8_4, t9_5]))))) := by
 rw [C, u03 _ _ rfl]; kernel_rfl
theorem urr (a0 : PV) : C uc0 [a0] =
 trunc (M.bind (bx 3 a0) fun t1_0 =>
 M.bind (ld (some 3) false t1_0) fun t5_1 =>
 M.bind (C u1x [(strip t5_1), (.int .i64 8)]) fun t6_2 =>
 M.bind (ex 0 t6_2) fun t7_3 =>
 M.bind (ex 1 (tupDrop 0 t6_2)) fun t8_4 =>
 M.bind (ex 2 (tupDrop 1 (tupDrop 0 t6_2))) fun t9_5 =>
 resT t7_3 (resT t8_4 (resT t9_5 (M.pure (.tup [t7_3, t8_4, t9_5]))))) := by
 rw [C, u03 _ _ rfl]; kernel_rfl
theorem uck (a0 a1 : PV) : C u73 [a0, a1] =
 trunc (M.bind (nc P (strip a0)) fun t10_0 =>
 M.bind (fa 20 t10_0) fun t11_1 =>
 M.bind (ld none false t11_1) fun t12_2 =>
 M.bind (bi .neq .none t12_2 (.int .i64 0)) fun t13_3 =>
 condM t13_3
 (M.pure (.int .i64 0))
 (M.bind (noPan (M.pure (strip a1))) fun t16_21 =>
 M.bind (noPan (M.pure (strip a0))) fun t17_22 =>
 M.bind (noPan (nc P t17_22)) fun t18_23 =>
 M.bind (noPan (fa 0 t18_23)) fun t19_24 =>
 M.bind (noPan (M.pure (strip a0))) fun t21_25 =>
 M.bind (noPan (nc P t21_25)) fun t22_26 =>
 M.bind (noPan (fa 1 t22_26)) fun t23_27 =>
 M.bind (noPan (ld none false t19_24)) fun t20_28 =>
 M.bind (noPan (ld none false t23_27)) fun t24_29 =>
 M.bind (noPan (callV P C t16_21 [(strip t20_28), (strip t24_29)])) fun t25_30 =>
 M.bind (noPan (M.pure (strip t25_30))) fun t15_31 =>
 M.bind (noPan (ex 0 t15_31)) fun t26_32 =>
 M.bind (noPan (ex 1 (tupDrop 0 t15_31))) fun t27_33 =>
 M.bind (noPan (ex 2 (tupDrop 1 (tupDrop 0 t15_31)))) fun t28_34 =>
 M.bind (noPan (M.pure t26_32)) fun t6_35 =>
 M.bind (noPan (M.pure t27_33)) fun t7_36 =>
 M.bind (noPan (M.pure t28_34)) fun t8_37 =>
 M.bind (bi .neq .none (strip t8_37) (.int .i64 0)) fun t30_38 =>
 condM t30_38
 (M.bind (C u0g [(strip (strip a0)), (strip (strip t7_36)), (strip (strip t8_37))]) fun t34_39 =>
 M.pure (.int .i64 0))
 (M.bind (nc P (strip a0)) fun t38_40 =>
 M.bind (fa 1 t38_40) fun t39_41 =>
 M.bind (st 1 true t39_41 t7_36) fun _ =>
 resT t6_35 (M.pure t6_35)))) := by
 rw [C, u03 _ _ rfl]; kernel_rfl
theorem ud3 (a0 a1 : PV) : C u4s [a0, a1] =
 trunc (M.bind (C u66 [(strip (strip a0)), (strip (strip a1)), (.fn u2b [] [])]) fun t9_0 =>
 M.bind (ex 0 t9_0) fun t10_1 =>
 M.bind (ex 1 (tupDrop 0 t9_0)) fun t11_2 =>
 M.bind (ex 2 (tupDrop 1 (tupDrop 0 t9_0))) fun t12_3 =>
 resT t10_1 (resT t11_2 (resT t12_3 (M.pure (.tup [t10_1, t11_2, t12_3]))))) := by
 rw [C, u03 _ _ rfl]; kernel_rfl
end Go.Proofs.YthidcpkcfoldmaaGreat.Pi.Q
namespace Go.Proofs.YthidcpkcfoldmaaGreat.Pi.Q
open Go Go.Proofs.YthidcpkcfoldmaaGreat.Pi
theorem ucv : C u4u [] =
 trunc (M.bind (al [(.int .i64 0), (.int .i64 0), (.int .i64 0), (.int .i64 0), (.int .i64 0), (.int .i64 0), (.int .i64 0), (.int .i64 0), (.int .i64 0), (.int .i64 0), (.int .i64 0), (.int .i64 0)]) fun t0_0 =>
 M.bind (bd [(.int .i64 0), (.int .i64 0), (.int .i64 0), (.int .i64 0), (.int .i64 0), (.int .i64 0), (.int .i64 0), (.int .i64 0), (.int .i64 0), (.int .i64 0), (.int .i64 0), (.int .i64 0)] [(0, 1, (.int .i64 (-11))), (1, 1, (.int .i64 (-9))), (2, 1, (.int .i64 (-8))), (3, 1, (.int .i64 (-7))), (4, 1, (.int .i64 (-6))), (5, 1, (.int .i64 (-5))), (6, 1, (.int .i64 (-3))), (7, 1, (.int .i64 (-1))), (8, 1, (.int .i64 (-10))), (9, 1, (.int .i64 (-4))), (10, 1, (.int .i64 (-2))), (11, 1, (.int .i64 (-12)))]) fun t1_1 =>
 M.bind (st 12 true t0_0 t1_1) fun _ =>
 M.bind (ld (some 12) true t0_0) fun t0_3 => guardM (!isTup t0_3) (M.pure t0_3)) := by
 rw [C, u03 _ _ rfl]; kernel_rfl
theorem u7r (a0 a1 a2 a3 : PV) : CD none u4a [a0, a1, a2, a3] =
 noPan (trunc (M.bind (M.pure .niliface) fun t6_0 =>
 M.bind (bi .neq .iface (strip t6_0) .niliface) fun t8_1 =>
 condM t8_1
 (M.bind (ta u0b (.agg [(.int .i64 0), (.int .i64 0)]) false (strip t6_0)) fun t10_2 =>
 M.bind (al [(.int .i64 0), (.int .i64 0)]) fun t5_3 =>
 M.bind (st 2 true t5_3 t10_2) fun _ =>
 nb (ld (some 4) true a0) fun t11_5 =>
 nb (fa 0 t5_3) fun t12_6 =>
 guardM (!clash (tld t12_6) (tld a0) && true) <| nb (ld none true t12_6) fun t13_7 =>
 nb (fa 1 t5_3) fun t14_8 =>
 guardM (!clash (tld t14_8) (tld t12_6) && (!clash (tld t14_8) (.no) && (!clash (tld t14_8) (tld a0) && true))) <| nb (ld none true t14_8) fun t15_9 =>
 guardM (!clash (tst a1) (tld t14_8) && (!clash (tst a1) (.no) && (!clash (tst a1) (tld t12_6) && (!clash (tst a1) (.no) && true)))) <| M.bind (noPan (st 4 true a1 t11_5)) fun _ =>
 guardM (!clash (tst a2) (tld t14_8) && (!clash (tst a2) (.no) && true)) <| M.bind (noPan (st 1 true a2 t13_7)) fun _ =>
 M.bind (noPan (st 1 true a3 t15_9)) fun _ =>
 M.pure (.tup []))
 (M.pure (.tup [])))) := by
 rw [CD, u6z]; kernel_rfl
theorem u7q (r : PV) (a0 a1 a2 a3 : PV) : CD (some r) u4a [a0, a1, a2, a3] =
 noPan (trunc (M.bind (M.pure r) fun t6_0 =>
 M.bind (bi .neq .iface (strip t6_0) .niliface) fun t8_1 =>
 condM t8_1
 (M.bind (ta u0b (.agg [(.int .i64 0), (.int .i64 0)]) false (strip t6_0)) fun t10_2 =>
 M.bind (al [(.int .i64 0), (.int .i64 0)]) fun t5_3 =>
 M.bind (st 2 true t5_3 t10_2) fun _ =>
 nb (ld (some 4) true a0) fun t11_5 =>
 nb (fa 0 t5_3) fun t12_6 =>
 guardM (!clash (tld t12_6) (tld a0) && true) <| nb (ld none true t12_6) fun t13_7 =>
 nb (fa 1 t5_3) fun t14_8 =>
 guardM (!clash (tld t14_8) (tld t12_6) && (!clash (tld t14_8) (.no) && (!clash (tld t14_8) (tld a0) && true))) <| nb (ld none true t14_8) fun t15_9 =>
 guardM (!clash (tst a1) (tld t14_8) && (!clash (tst a1) (.no) && (!clash (tst a1) (tld t12_6) && (!clash (tst a1) (.no) && true)))) <| M.bind (noPan (st 4 true a1 t11_5)) fun _ =>
 guardM (!clash (tst a2) (tld t14_8) && (!clash (tst a2) (.no) && true)) <| M.bind (noPan (st 1 true a2 t13_7)) fun _ =>
 M.bind (noPan (st 1 true a3 t15_9)) fun _ =>
 M.pure (.tup []))
 (M.pure (.tup [])))) := by
 rw [CD, u6z]; kernel_rfl
noncomputable def u4x (v0 v2 : PV) : M PV := atP P X u10 [1, 1] (mkEnv 30 0 [(0, v0), (2, v2)])
theorem u83 (v0 v2 : PV) : u4x v0 v2 =
 nb (nc P (strip v0)) fun t21_0 =>
 nb (fa 0 t21_0) fun t22_1 =>
 nb (ld none false t22_1) fun t23_2 =>
 nb (nc P (strip v0)) fun t25_3 =>
 nb (fa 1 t25_3) fun t26_4 =>
 nb (ld none false t26_4) fun t27_5 =>
 nb (iaS 1 t23_2 t27_5) fun t28_6 =>
 nb (ld none true t28_6) fun t29_7 =>
 resT t29_7 (M.pure t29_7) :=
 (u0j P X _ _ _).trans (by kernel_rfl)
theorem uab (a0 : PV) : C u10 [a0] =
 trunc (nb (nc P (strip a0)) fun t4_0 =>
 nb (fa 1 t4_0) fun t5_1 =>
 nb (ld none false t5_1) fun t6_2 =>
 nb (nc P (strip a0)) fun t8_3 =>
 nb (fa 0 t8_3) fun t9_4 =>
 nb (ld none false t9_4) fun t10_5 =>
 nb (lnL t10_5) fun t11_6 =>
 nb (bi .geq .none t6_2 t11_6) fun t12_7 =>
 condM t12_7
 (M.bind (nc P (strip a0)) fun t15_8 =>
 M.bind (fa 0 t15_8) fun t16_9 =>
 M.bind (ld none false t16_9) fun t17_10 =>
 M.bind (lnL t17_10) fun t18_11 =>
 M.bind (C u18 [(strip (strip a0)), (strip t18_11), (.int .i64 3)]) fun t19_12 =>
 u4x a0 (.int .u8 0))
 (u4x a0 (.int .u8 0))) := by
 rw [C, u03 _ _ rfl]; kernel_rfl
noncomputable def u2r (v2 v4 : PV) : M PV := atP P X u3l [1, 1, 1, 1, 1] (mkEnv 47 0 [(2, v2), (4, v4)])
theorem u7i (v2 v4 : PV) : u2r v2 v4 =
 resT v4 (M.pure v4) :=
 (u0j P X _ _ _).trans (by kernel_rfl)
theorem uaw (a0 : PV) : C u3l [a0] =
 trunc (M.bind (nc P (strip a0)) fun t8_0 =>
 M.bind (fa 1 t8_0) fun t9_1 =>
 M.bind (ld none true t9_1) fun t10_2 =>
 M.bind (noPan (M.pure (strip a0))) fun t12_24 =>
 M.bind (noPan (nc P t12_24)) fun t13_25 =>
 M.bind (noPan (fa 0 t13_25)) fun t14_26 =>
 M.bind (noPan (M.pure (strip a0))) fun t16_27 =>
 M.bind (noPan (nc P t16_27)) fun t17_28 =>
 M.bind (noPan (fa 1 t17_28)) fun t18_29 =>
 M.bind (noPan (M.pure (strip a0))) fun t20_30 =>
 M.bind (noPan (nc P t20_30)) fun t21_31 =>
 M.bind (noPan (fa 0 t21_31)) fun t22_32 =>
 M.bind (noPan (ld none false t14_26)) fun t15_33 =>
 M.bind (noPan (ld none false t18_29)) fun t19_34 =>
 M.bind (noPan (ld none false t22_32)) fun t23_35 =>
 M.bind (noPan (lnL t23_35)) fun t24_36 =>
 M.bind (noPan (C ufw [(strip t15_33), (strip t19_34), (strip t24_36)])) fun t25_37 =>
 M.bind (noPan (M.pure (strip t25_37))) fun t11_38 =>
 M.bind (noPan (ex 0 t11_38)) fun t26_39 =>
 M.bind (noPan (ex 1 (tupDrop 0 t11_38))) fun t27_40 =>
 M.bind (noPan (ex 2 (tupDrop 1 (tupDrop 0 t11_38)))) fun t28_41 =>
 M.bind (noPan (M.pure t26_39)) fun t4_42 =>
 M.bind (noPan (M.pure t27_40)) fun t5_43 =>
 M.bind (noPan (M.pure t28_41)) fun t6_44 =>
 M.bind (C u48 [(strip (strip a0)), (strip (strip t4_42)), (strip (strip t5_43)), (strip (strip t6_44))]) fun t33_45 =>
 M.bind (bi .lss .none (strip t33_45) (.int .i64 0)) fun t36_46 =>
 condM t36_46
 (M.bind (C u18 [(strip (strip a0)), (strip (strip t10_2)), (.int .i64 4)]) fun t39_47 =>
 u2r (.int .i64 0) t33_45)
 (M.bind (bi .gtr .none (strip t33_45) (.int .i64 2147483647)) fun t42_48 =>
 condM t42_48
 (M.bind (C u18 [(strip (strip a0)), (strip (strip t10_2)), (.int .i64 2)]) fun t45_49 =>
 u2r (.int .i64 0) t33_45)
 (u2r (.int .i64 0) t33_45))) := by
 rw [C, u03 _ _ rfl]; kernel_rfl
theorem us3 (a0 : PV) : C uce [a0] =
 trunc (M.bind (bx 3 a0) fun t1_0 =>
 M.bind (ld (some 3) false t1_0) fun t5_1 =>
 M.bind (C u16 [(strip t5_1), (.int .i64 32)]) fun t6_2 =>
 M.bind (ex 0 t6_2) fun t7_3 =>
 M.bind (ex 1 (tupDrop 0 t6_2)) fun t8_4 =>
 M.bind (ex 2 (tupDrop 1 (tupDrop 0 t6_2))) fun t9_5 =>
 resT t7_3 (resT t8_4 (resT t9_5 (M.pure (.tup [t7_3, t8_4, t9_5]))))) := by
 rw [C, u03 _ _ rfl]; kernel_rfl
theorem u7d (a0 a1 a2 a3 : PV) : CD none u3h [a0, a1, a2, a3] =
 noPan (trunc (M.bind (M.pure .niliface) fun t6_0 =>
 M.bind (bi .neq .iface (strip t6_0) .niliface) fun t8_1 =>
 condM t8_1
 (M.bind (ta u0b (.agg [(.int .i64 0), (.int .i64 0)]) false (strip t6_0)) fun t10_2 =>
 M.bind (al [(.int .i64 0), (.int .i64 0)]) fun t5_3 =>
 M.bind (st 2 true t5_3 t10_2) fun _ =>
 nb (ld (some 3) true a0) fun t11_5 =>
 nb (fa 0 t5_3) fun t12_6 =>
 guardM (!clash (tld t12_6) (tld a0) && true) <| nb (ld none true t12_6) fun t13_7 =>
 nb (fa 1 t5_3) fun t14_8 =>
 guardM (!clash (tld t14_8) (tld t12_6) && (!clash (tld t14_8) (.no) && (!clash (tld t14_8) (tld a0) && true))) <| nb (ld none true t14_8) fun t15_9 =>
 guardM (!clash (tst a1) (tld t14_8) && (!clash (tst a1) (.no) && (!clash (tst a1) (tld t12_6) && (!clash (tst a1) (.no) && true)))) <| M.bind (noPan (st 3 true a1 t11_5)) fun _ =>
 guardM (!clash (tst a2) (tld t14_8) && (!clash (tst a2) (.no) && true)) <| M.bind (noPan (st 1 true a2 t13_7)) fun _ =>
 M.bind (noPan (st 1 true a3 t15_9)) fun _ =>
 M.pure (.tup []))
 (M.pure (.tup [])))) := by
 rw [CD, u6z]; kernel_rfl
theorem u79 (r : PV) (a0 a1 a2 a3 : PV) : CD (some r) u3h [a0, a1, a2, a3] =
 noPan (trunc (M.bind (M.pure r) fun t6_0 =>
 M.bind (bi .neq .iface (strip t6_0) .niliface) fun t8_1 =>
 condM t8_1
 (M.bind (ta u0b (.agg [(.int .i64 0), (.int .i64 0)]) false (strip t6_0)) fun t10_2 =>
 M.bind (al [(.int .i64 0), (.int .i64 0)]) fun t5_3 =>
 M.bind (st 2 true t5_3 t10_2) fun _ =>
 nb (ld (some 3) true a0) fun t11_5 =>
 nb (fa 0 t5_3) fun t12_6 =>
 guardM (!clash (tld t12_6) (tld a0) && true) <| nb (ld none true t12_6) fun t13_7 =>
 nb (fa 1 t5_3) fun t14_8 =>
 guardM (!clash (tld t14_8) (tld t12_6) && (!clash (tld t14_8) (.no) && (!clash (tld t14_8) (tld a0) && true))) <| nb (ld none true t14_8) fun t15_9 =>
 guardM (!clash (tst a1) (tld t14_8) && (!clash (tst a1) (.no) && (!clash (tst a1) (tld t12_6) && (!clash (tst a1) (.no) && true)))) <| M.bind (noPan (st 3 true a1 t11_5)) fun _ =>
 guardM (!clash (tst a2) (tld t14_8) && (!clash (tst a2) (.no) && true)) <| M.bind (noPan (st 1 true a2 t13_7)) fun _ =>
 M.bind (noPan (st 1 true a3 t15_9)) fun _ =>
 M.pure (.tup []))
 (M.pure (.tup [])))) := by
 rw [CD, u6z]; kernel_rfl
theorem ual (a0 a1 a2 : PV) : C u18 [a0, a1, a2] =
 trunc (M.bind (bd [(.int .i64 0), (.int .i64 0)] [(0, 1, (strip a1)), (1, 1, (strip a2))]) fun t8_0 =>
 M.bind (mi u0b t8_0) fun t9_1 =>
 M.bind (pn t9_1) fun _ =>
 M.pure (.tup [])) := by
 rw [C, u03 _ _ rfl]; kernel_rfl
noncomputable def u31 (v0 v2 v3 : PV) : M PV := atP P X u50 [1, 1, 1, 1] (mkEnv 44 0 [(0, v0), (2, v2), (3, v3)])
theorem u5p (v0 v2 v3 : PV) : u31 v0 v2 v3 =
 M.bind (nc P (strip v0)) fun t33_0 =>
 M.bind (fa 1 t33_0) fun t34_1 =>
 M.bind (ld none false t34_1) fun t35_2 =>
 M.bind (bi .add .none t35_2 (.int .i64 1)) fun t36_3 =>
 M.bind (nc P (strip v0)) fun t37_4 =>
 M.bind (fa 1 t37_4) fun t38_5 =>
 M.bind (st 1 true t38_5 t36_3) fun _ =>
 M.bind (bi .eql .none (strip v3) (.int .u8 99)) fun t40_7 =>
 M.bind (C u2b [(strip (strip v0))]) fun t42_8 =>
 M.bind (bd [(.int .i64 0), (.bool false), (.int .i64 0)] [(0, 1, (.int .i64 5)), (1, 1, t40_7), (2, 1, t42_8)]) fun t43_9 =>
 M.bind (st 3 true v2 t43_9) fun _ =>
 M.bind (ld (some 3) true v2) fun t0_11 => guardM (!isTup t0_11) (M.pure t0_11) :=
 (u0j P X _ _ _).trans (by kernel_rfl)
theorem uax (a0 : PV) : C u50 [a0] =
 trunc (M.bind (al [(.int .i64 0), (.bool false), (.int .i64 0)]) fun t2_0 =>
 M.bind (C u10 [(strip (strip a0))]) fun t6_1 =>
 M.bind (C u7b [(strip (strip t6_1))]) fun t8_2 =>
 M.bind (bi .neq .none (strip t8_2) (.int .i64 0)) fun t10_3 =>
 condM t10_3
 (M.bind (nc P (strip a0)) fun t12_4 =>
 M.bind (fa 1 t12_4) fun t13_5 =>
 M.bind (ld none false t13_5) fun t14_6 =>
 M.bind (bi .add .none t14_6 (.int .i64 1)) fun t15_7 =>
 M.bind (nc P (strip a0)) fun t16_8 =>
 M.bind (fa 1 t16_8) fun t17_9 =>
 M.bind (st 1 true t17_9 t15_7) fun _ =>
 M.bind (bd [(.int .i64 0), (.bool false), (.int .i64 0)] [(0, 1, (.int .i64 5)), (1, 1, (.bool true)), (2, 1, (strip t8_2))]) fun t19_11 =>
 M.bind (st 3 true t2_0 t19_11) fun _ =>
 M.bind (ld (some 3) true t2_0) fun t0_13 => guardM (!isTup t0_13) (M.pure t0_13))
 (M.bind (bi .neq .none (strip t6_1) (.int .u8 99)) fun t21_14 =>
 M.bind (gd (strip t21_14) true (M.pure (strip t6_1))) fun t23_15 =>
 M.bind (gd (strip t21_14) true (bi .neq .none t23_15 (.int .u8 100))) fun t24_16 =>
 M.bind (pick (strip t21_14) t24_16 (.bool false)) fun t25_17 =>
 condM t25_17
 (M.bind (nc P (strip a0)) fun t28_18 =>
 M.bind (fa 1 t28_18) fun t29_19 =>
 M.bind (ld none false t29_19) fun t30_20 =>
 M.bind (C u18 [(strip (strip a0)), (strip t30_20), (.int .i64 4)]) fun t31_21 =>
 u31 a0 t2_0 t6_1)
 (u31 a0 t2_0 t6_1))) := by
 rw [C, u03 _ _ rfl]; kernel_rfl
theorem uix (a0 a1 a2 : PV) : C u5h [a0, a1, a2] =
 trunc (M.bind (al [(.slice false true 0 []), (.int .i64 0), (.int .i64 0)]) fun t6_0 =>
 M.bind (bi .lss .none (strip a1) (.int .i64 0)) fun t9_1 =>
 M.bind (gd (strip t9_1) false (M.pure (strip a2))) fun t11_2 =>
 M.bind (gd (strip t9_1) false (M.pure (strip a0))) fun t12_3 =>
 M.bind (gd (strip t9_1) false (lnL t12_3)) fun t13_4 =>
 M.bind (gd (strip t9_1) false (bi .gtr .none t11_2 t13_4)) fun t14_5 =>
 M.bind (pick (strip t9_1) (.bool true) t14_5) fun t15_6 =>
 M.bind (gd (strip t15_6) false (M.pure (strip a1))) fun t17_7 =>
 M.bind (gd (strip t15_6) false (M.pure (strip a2))) fun t18_8 =>
 M.bind (gd (strip t15_6) false (bi .gtr .none t17_7 t18_8)) fun t19_9 =>
 M.bind (pick (strip t15_6) (.bool true) t19_9) fun t20_10 =>
 condM t20_10
 (M.bind (bd [(.slice false true 0 []), (.int .i64 0), (.int .i64 0)] []) fun t21_11 =>
 M.bind (st 3 true t6_0 t21_11) fun _ =>
 M.bind (ld (some 3) true t6_0) fun t0_13 => guardM (!isTup t0_13) (M.pure (.tup [t0_13, (.int .i64 1)])))
 (M.bind (bd [(.slice false true 0 []), (.int .i64 0), (.int .i64 0)] [(0, 1, (strip a0)), (1, 1, (strip a1)), (2, 1, (strip a2))]) fun t25_14 =>
 M.bind (st 3 true t6_0 t25_14) fun _ =>
 M.bind (ld (some 3) true t6_0) fun t0_16 => guardM (!isTup t0_16) (M.pure (.tup [t0_16, (.int .i64 0)])))) := by
 rw [C, u03 _ _ rfl]; kernel_rfl
noncomputable def u0v (v1 v2 v4 v5 v6 v7 v8 v9 : PV) : M PV := atP P X u16 [1, 1, 1, 0] (mkEnv 53 0 [(1, v1), (2, v2), (4, v4), (5, v5), (6, v6), (7, v7), (8, v8), (9, v9)])
theorem u78 (v1 v2 v4 v5 v6 v7 v8 v9 : PV) : u0v v1 v2 v4 v5 v6 v7 v8 v9 =
 M.bind (fa 2 v2) fun t17_0 =>
 M.bind (ld none false t17_0) fun t18_1 =>
 M.bind (bi .geq .none (strip v9) t18_1) fun t19_2 =>
 condM t19_2
 (nb (fa 2 v2) fun t20_3 =>
 nb (ld none true t20_3) fun t21_4 =>
 resT t21_4 (M.pure (.tup [(.int .u64 0), t21_4, (.int .i64 3)])))
 (M.bind (fa 0 v2) fun t22_5 =>
 M.bind (ld none false t22_5) fun t23_6 =>
 M.bind (iaS 1 t23_6 (strip v9)) fun t25_7 =>
 M.bind (ld none true t25_7) fun t26_8 =>
 M.bind (bi .sub .none (strip v1) (strip v8)) fun t29_9 =>
 M.bind (bi .lss .none (strip t29_9) (.int .i64 7)) fun t31_10 =>
 M.bind (gd (strip t31_10) true (M.pure (strip t26_8))) fun t33_11 =>
 M.bind (gd (strip t31_10) true (M.pure (strip t29_9))) fun t34_12 =>
 M.bind (gd (strip t31_10) true (bi .shr .none t33_11 t34_12)) fun t35_13 =>
 M.bind (gd (strip t31_10) true (bi .neq .none t35_13 (.int .u8 0))) fun t36_14 =>
 M.bind (pick (strip t31_10) t36_14 (.bool false)) fun t37_15 =>
 condM t37_15
 (resT v9 (M.pure (.tup [(.int .u64 0), v9, (.int .i64 4)])))
 (M.bind (bi .and .none (strip t26_8) (.int .u8 127)) fun t41_16 =>
 M.bind (cv (.int .u64) true t41_16) fun t42_17 =>
 M.bind (bi .shl .none t42_17 (strip v8)) fun t44_18 =>
 M.bind (bi .or .none (strip v7) t44_18) fun t45_19 =>
 M.bind (bi .lss .none (strip t26_8) (.int .u8 128)) fun t47_20 =>
 condM t47_20
 (M.bind (bi .add .none (strip v9) (.int .i64 1)) fun t50_21 =>
 resT t45_19 (resT t50_21 (M.pure (.tup [t45_19, t50_21, (.int .i64 0)]))))
 (M.bind (bi .add .none (strip v8) (.int .i64 7)) fun t52_22 =>
 M.bind (bi .add .none (strip v9) (.int .i64 1)) fun t15_23 =>
 u0v v1 v2 v4 v5 v6 t45_19 t52_22 t15_23))) :=
 (u0j P X _ _ _).trans (by kernel_rfl)
theorem u95 (a0 a1 : PV) : C u16 [a0, a1] =
 trunc (M.bind (bx 3 a0) fun t2_0 =>
 M.bind (fa 1 t2_0) fun t12_1 =>
 M.bind (ld none true t12_1) fun t13_2 =>
 u0v a1 t2_0 (.int .u64 0) (.int .i64 0) (.int .i64 0) (.int .u64 0) (.int .i64 0) t13_2) := by
 rw [C, u03 _ _ rfl]; kernel_rfl
noncomputable def u0r (v1 v2 v4 v5 v6 v7 v8 v9 : PV) : M PV := atP P X u0o [1, 1, 1, 0] (mkEnv 74 0 [(1, v1), (2, v2), (4, v4), (5, v5), (6, v6), (7, v7), (8, v8), (9, v9)])
noncomputable def u1g (v1 v2 v4 v5 v6 v7 v8 v9 v10 : PV) : M PV := atP P X u0o [1, 1, 1, 0, 0, 0, 0, 1, 1, 1] (mkEnv 74 0 [(1, v1), (2, v2), (4, v4), (5, v5), (6, v6), (7, v7), (8, v8), (9, v9), (10, v10)])
noncomputable def u1q (v1 v2 v4 v5 v6 v7 v8 v9 : PV) : M PV := atP P X u0o [1, 1, 1, 0, 0, 0, 0, 1, 1, 1, 1, 1, 1, 0, 1] (mkEnv 74 0 [(1, v1), (2, v2), (4, v4), (5, v5), (6, v6), (7, v7), (8, v8), (9, v9)])
theorem u7h (v1 v2 v4 v5 v6 v7 v8 v9 : PV) : u0r v1 v2 v4 v5 v6 v7 v8 v9 =
 M.bind (fa 2 v2) fun t18_0 =>
 M.bind (ld none false t18_0) fun t19_1 =>
 M.bind (bi .geq .none (strip v9) t19_1) fun t20_2 =>
 condM t20_2
 (nb (fa 2 v2) fun t21_3 =>
 nb (ld none true t21_3) fun t22_4 =>
 resT t22_4 (M.pure (.tup [(.int .i64 0), t22_4, (.int .i64 3)])))
 (M.bind (fa 0 v2) fun t23_5 =>
 M.bind (ld none false t23_5) fun t24_6 =>
 M.bind (iaS 1 t24_6 (strip v9)) fun t26_7 =>
 M.bind (ld none true t26_7) fun t27_8 =>
 M.bind (bi .sub .none (strip v1) (strip v8)) fun t30_9 =>
 M.bind (bi .lss .none (strip t30_9) (.int .i64 7)) fun t32_10 =>
 condM t32_10
 (M.bind (bi .shl .none (strip t27_8) (.int .u64 1)) fun t34_11 =>
 M.bind (cv (.int .i8) true t34_11) fun t35_12 =>
 M.bind (bi .shr .none t35_12 (strip t30_9)) fun t37_13 =>
 M.bind (bi .geq .none (strip t27_8) (.int .u8 128)) fun t39_14 =>
 M.bind (gd (strip t39_14) false (M.pure (strip t37_13))) fun t41_15 =>
 M.bind (gd (strip t39_14) false (bi .neq .none t41_15 (.int .i8 0))) fun t42_16 =>
 M.bind (gd (strip t39_14) false (M.pure (strip t42_16))) fun t43_17 =>
 M.bind (gd t43_17 true (M.pure (strip t37_13))) fun t44_18 =>
 M.bind (gd t43_17 true (bi .neq .none t44_18 (.int .i8 (-1)))) fun t45_19 =>
 M.bind (gd (strip t39_14) false (pick t43_17 t45_19 (.bool false))) fun t46_20 =>
 M.bind (pick (strip t39_14) (.bool true) t46_20) fun t47_21 =>
 condM t47_21
 (resT v9 (M.pure (.tup [(.int .i64 0), v9, (.int .i64 4)])))
 (u1g v1 v2 v4 v5 v6 v7 v8 v9 t27_8))
 (u1g v1 v2 v4 v5 v6 v7 v8 v9 t27_8)) :=
 (u0j P X _ _ _).trans (by kernel_rfl)
theorem u6h (v1 v2 v4 v5 v6 v7 v8 v9 v10 : PV) : u1g v1 v2 v4 v5 v6 v7 v8 v9 v10 =
 M.bind (bi .and .none (strip v10) (.int .u8 127)) fun t51_0 =>
 M.bind (cv (.int .i64) true t51_0) fun t52_1 =>
 M.bind (bi .shl .none t52_1 (strip v8)) fun t54_2 =>
 M.bind (bi .or .none (strip v7) t54_2) fun t55_3 =>
 M.bind (bi .add .none (strip v8) (.int .i64 7)) fun t57_4 =>
 M.bind (bi .lss .none (strip v10) (.int .u8 128)) fun t59_5 =>
 condM t59_5
 (M.bind (bi .and .none (strip v10) (.int .u8 64)) fun t61_6 =>
 M.bind (bi .neq .none t61_6 (.int .u8 0)) fun t62_7 =>
 M.bind (gd (strip t62_7) true (M.pure (strip t57_4))) fun t64_8 =>
 M.bind (gd (strip t62_7) true (bi .lss .none t64_8 (.int .i64 64))) fun t65_9 =>
 M.bind (pick (strip t62_7) t65_9 (.bool false)) fun t66_10 =>
 condM t66_10
 (M.bind (bi .shl .none (.int .i64 (-1)) (strip t57_4)) fun t69_11 =>
 M.bind (bi .or .none (strip t55_3) t69_11) fun t70_12 =>
 u1q v1 v2 v4 v5 v6 t70_12 t57_4 v9)
 (u1q v1 v2 v4 v5 v6 t55_3 t57_4 v9))
 (M.bind (bi .add .none (strip v9) (.int .i64 1)) fun t16_13 =>
 u0r v1 v2 v4 v5 v6 t55_3 t57_4 t16_13) :=
 (u0j P X _ _ _).trans (by kernel_rfl)
theorem u5j (v1 v2 v4 v5 v6 v7 v8 v9 : PV) : u1q v1 v2 v4 v5 v6 v7 v8 v9 =
 M.bind (bi .add .none (strip v9) (.int .i64 1)) fun t73_0 =>
 resT v7 (resT t73_0 (M.pure (.tup [v7, t73_0, (.int .i64 0)]))) :=
 (u0j P X _ _ _).trans (by kernel_rfl)
theorem uak (a0 a1 : PV) : C u0o [a0, a1] =
 trunc (M.bind (bx 3 a0) fun t2_0 =>
 M.bind (fa 1 t2_0) fun t13_1 =>
 M.bind (ld none true t13_1) fun t14_2 =>
 u0r a1 t2_0 (.int .i64 0) (.int .i64 0) (.int .i64 0) (.int .i64 0) (.int .i64 0) t14_2) := by
 rw [C, u03 _ _ rfl]; kernel_rfl
noncomputable def u2d (v1 v2 v4 v5 v6 v7 v8 : PV) : M PV := atP P X u1x [1, 1, 1, 0, 1, 0] (mkEnv 41 0 [(1, v1), (2, v2), (4, v4), (5, v5), (6, v6), (7, v7), (8, v8)])
theorem u51 (v1 v2 v4 v5 v6 v7 v8 : PV) : u2d v1 v2 v4 v5 v6 v7 v8 =
 M.bind (bi .geq .none (strip v8) (.int .i64 0)) fun t21_0 =>
 condM t21_0
 (M.bind (bi .shl .none (strip v7) (.int .u64 8)) fun t25_1 =>
 M.bind (fa 0 v2) fun t26_2 =>
 M.bind (ld none false t26_2) fun t27_3 =>
 M.bind (fa 1 v2) fun t28_4 =>
 M.bind (ld none false t28_4) fun t29_5 =>
 M.bind (bi .add .none t29_5 (strip v8)) fun t31_6 =>
 M.bind (iaS 1 t27_3 t31_6) fun t32_7 =>
 M.bind (ld none false t32_7) fun t33_8 =>
 M.bind (cv (.int .u64) true t33_8) fun t34_9 =>
 M.bind (bi .or .none t25_1 t34_9) fun t35_10 =>
 M.bind (bi .sub .none (strip v8) (.int .i64 1)) fun t23_11 =>
 u2d v1 v2 v4 v5 v6 t35_10 t23_11)
 (nb (fa 1 v2) fun t37_12 =>
 nb (ld none false t37_12) fun t38_13 =>
 nb (bi .add .none t38_13 (strip v1)) fun t40_14 =>
 resT v7 (resT t40_14 (M.pure (.tup [v7, t40_14, (.int .i64 0)])))) :=
 (u0j P X _ _ _).trans (by kernel_rfl)
theorem uaz (a0 a1 : PV) : C u1x [a0, a1] =
 trunc (M.bind (bx 3 a0) fun t2_0 =>
 M.bind (fa 2 t2_0) fun t9_1 =>
 M.bind (ld none false t9_1) fun t10_2 =>
 M.bind (fa 1 t2_0) fun t11_3 =>
 M.bind (ld none false t11_3) fun t12_4 =>
 M.bind (bi .sub .none t10_2 t12_4) fun t13_5 =>
 M.bind (bi .lss .none t13_5 (strip a1)) fun t15_6 =>
 condM t15_6
 (nb (fa 2 t2_0) fun t16_7 =>
 nb (ld none true t16_7) fun t17_8 =>
 resT t17_8 (M.pure (.tup [(.int .u64 0), t17_8, (.int .i64 3)])))
 (M.bind (bi .sub .none (strip a1) (.int .i64 1)) fun t19_9 =>
 u2d a1 t2_0 (.int .u64 0) (.int .i64 0) (.int .i64 0) (.int .u64 0) t19_9)) := by
 rw [C, u03 _ _ rfl]; kernel_rfl
theorem udc (a0 a1 a2 : PV) : C u66 [a0, a1, a2] =
 trunc (M.bind (al [(.int .i64 0)]) fun t6_0 =>
 M.bind (al [(.int .i64 0)]) fun t7_1 =>
 M.bind (al [(.int .i64 0)]) fun t8_2 =>
 M.bind (al [(.int .i64 0)]) fun t9_3 =>
 M.bind (bi .lss .none (strip a1) (.int .i64 0)) fun t12_4 =>
 M.bind (gd (strip t12_4) false (M.pure (strip a1))) fun t14_5 =>
 M.bind (gd (strip t12_4) false (M.pure (strip a0))) fun t15_6 =>
 M.bind (gd (strip t12_4) false (lnL t15_6)) fun t16_7 =>
 M.bind (gd (strip t12_4) false (bi .gtr .none t14_5 t16_7)) fun t17_8 =>
 M.bind (pick (strip t12_4) (.bool true) t17_8) fun t18_9 =>
 condM t18_9
 (M.bind (ld none true t9_3) fun t19_10 =>
 M.bind (st 1 true t6_0 t19_10) fun _ =>
 M.bind (st 1 false t7_1 (.int .i64 0)) fun _ =>
 M.bind (st 1 false t8_2 (.int .i64 1)) fun _ =>
 M.bind (ld none true t6_0) fun t0_14 => guardM (!isTup t0_14) (M.bind (ld none true t7_1) fun t0_15 => guardM (!isTup t0_15) (M.bind (ld none true t8_2) fun t0_16 => guardM (!isTup t0_16) (M.pure (.tup [t0_14, t0_15, t0_16])))))
 (M.bind (mf u6p [] [t9_3, t6_0, t7_1, t8_2]) fun t20_17 =>
 guardM (isPtr t6_0 && isPtr t7_1 && isPtr t8_2) <| deferM CD t20_17 []
 (M.bind (bd [(.slice false true 0 []), (.int .i64 0)] [(0, 1, (strip a0)), (1, 1, (strip a1))]) fun t23_18 =>
 M.bind (bx 2 t23_18) fun t24_19 =>
 M.bind (callV P C (strip a2) [(strip (strip t24_19))]) fun t27_20 =>
 M.bind (st 1 true t6_0 t27_20) fun _ =>
 chk
 (M.bind (noPan (M.pure (strip t24_19))) fun t29_30 =>
 M.bind (noPan (nc P t29_30)) fun t30_31 =>
 M.bind (noPan (fa 1 t30_31)) fun t31_32 =>
 M.bind (noPan (ld none true t6_0)) fun t28_33 =>
 M.bind (noPan (st 1 true t6_0 t28_33)) fun _ =>
 M.bind (noPan (ld none true t31_32)) fun t32_35 =>
 M.bind (noPan (st 1 true t7_1 t32_35)) fun _ =>
 M.bind (noPan (st 1 false t8_2 (.int .i64 0))) fun _ =>
 M.pure [a0, a1, a2, .undef, .undef, .undef, t6_0, t7_1, t8_2, t9_3, t24_19, (strip a1), t12_4, (strip t12_4), t14_5, t15_6, t16_7, t17_8, t18_9, .undef, t20_17, (strip a0), (strip a1), t23_18, (strip t24_19), (strip a2), (strip t24_19), (strip t27_20), (strip t28_33), t29_30, t30_31, t31_32, (strip t32_35)])
 (M.bind (noPan (M.pure (strip t24_19))) fun t29_22 =>
 M.bind (noPan (nc P t29_22)) fun t30_23 =>
 M.bind (noPan (fa 1 t30_23)) fun t31_24 =>
 M.bind (noPan (ld none true t6_0)) fun t28_25 =>
 M.bind (noPan (ld none true t31_24)) fun t32_26 =>
 M.bind (noPan (st 1 true t6_0 t28_25)) fun _ =>
 M.bind (noPan (st 1 true t7_1 t32_26)) fun _ =>
 M.bind (noPan (st 1 false t8_2 (.int .i64 0))) fun _ =>
 M.pure [a0, a1, a2, .undef, .undef, .undef, t6_0, t7_1, t8_2, t9_3, t24_19, (strip a1), t12_4, (strip t12_4), t14_5, t15_6, t16_7, t17_8, t18_9, .undef, t20_17, (strip a0), (strip a1), t23_18, (strip t24_19), (strip a2), (strip t24_19), (strip t27_20), (strip t28_25), t29_22, t30_23, t31_24, (strip t32_26)]) <|
 chk
 (M.bind (noPan (M.pure (strip t24_19))) fun t29_38 =>
 M.bind (noPan (nc P t29_38)) fun t30_39 =>
 M.bind (noPan (fa 1 t30_39)) fun t31_40 =>
 M.bind (noPan (ld none true t31_40)) fun t32_41 =>
 M.bind (noPan (ld none true t6_0)) fun t28_42 =>
 M.bind (noPan (st 1 true t6_0 t28_42)) fun _ =>
 M.bind (noPan (st 1 true t7_1 t32_41)) fun _ =>
 M.bind (noPan (st 1 false t8_2 (.int .i64 0))) fun _ =>
 M.pure [a0, a1, a2, .undef, .undef, .undef, t6_0, t7_1, t8_2, t9_3, t24_19, (strip a1), t12_4, (strip t12_4), t14_5, t15_6, t16_7, t17_8, t18_9, .undef, t20_17, (strip a0), (strip a1), t23_18, (strip t24_19), (strip a2), (strip t24_19), (strip t27_20), (strip t28_42), t29_38, t30_39, t31_40, (strip t32_41)])
 (M.bind (noPan (M.pure (strip t24_19))) fun t29_22 =>
 M.bind (noPan (nc P t29_22)) fun t30_23 =>
 M.bind (noPan (fa 1 t30_23)) fun t31_24 =>
 M.bind (noPan (ld none true t6_0)) fun t28_25 =>
 M.bind (noPan (ld none true t31_24)) fun t32_26 =>
 M.bind (noPan (st 1 true t6_0 t28_25)) fun _ =>
 M.bind (noPan (st 1 true t7_1 t32_26)) fun _ =>
 M.bind (noPan (st 1 false t8_2 (.int .i64 0))) fun _ =>
 M.pure [a0, a1, a2, .undef, .undef, .undef, t6_0, t7_1, t8_2, t9_3, t24_19, (strip a1), t12_4, (strip t12_4), t14_5, t15_6, t16_7, t17_8, t18_9, .undef, t20_17, (strip a0), (strip a1), t23_18, (strip t24_19), (strip a2), (strip t24_19), (strip t27_20), (strip t28_25), t29_22, t30_23, t31_24, (strip t32_26)]) <|
 M.bind (noPan (M.pure (strip t24_19))) fun t29_46 =>
 M.bind (noPan (nc P t29_46)) fun t30_47 =>
 M.bind (noPan (fa 1 t30_47)) fun t31_48 =>
 M.bind (noPan (ld none true t6_0)) fun t28_49 =>
 M.bind (noPan (ld none true t31_48)) fun t32_50 =>
 M.bind (noPan (st 1 true t6_0 t28_49)) fun _ =>
 M.bind (noPan (st 1 true t7_1 t32_50)) fun _ =>
 M.bind (noPan (st 1 false t8_2 (.int .i64 0))) fun _ =>
 M.bind (ld none true t6_0) fun t0_54 => guardM (!isTup t0_54) (M.bind (ld none true t7_1) fun t0_55 => guardM (!isTup t0_55) (M.bind (ld none true t8_2) fun t0_56 => guardM (!isTup t0_56) (M.pure (.tup [t0_54, t0_55, t0_56])))))
 (M.bind (ld none true t6_0) fun t0_57 => guardM (!isTup t0_57) (M.bind (ld none true t7_1) fun t0_58 => guardM (!isTup t0_58) (M.bind (ld none true t8_2) fun t0_59 => guardM (!isTup t0_59) (M.pure (.tup [t0_57, t0_58, t0_59]))))))) := by
 rw [C, u03 _ _ rfl]; kernel_rfl
theorem uaf (a0 : PV) : C u2b [a0] =
 trunc (M.bind (C u10 [(strip (strip a0))]) fun t5_0 =>
 M.bind (C u7b [(strip t5_0)]) fun t6_1 =>
 M.bind (bi .neq .none (strip t6_1) (.int .i64 0)) fun t8_2 =>
 condM t8_2
 (M.bind (nc P (strip a0)) fun t10_3 =>
 M.bind (fa 1 t10_3) fun t11_4 =>
 M.bind (ld none false t11_4) fun t12_5 =>
 M.bind (bi .add .none t12_5 (.int .i64 1)) fun t13_6 =>
 M.bind (nc P (strip a0)) fun t14_7 =>
 M.bind (fa 1 t14_7) fun t15_8 =>
 M.bind (st 1 true t15_8 t13_6) fun _ =>
 resT t6_1 (M.pure t6_1))
 (M.bind (C u3l [(strip (strip a0))]) fun t18_10 =>
 resT t18_10 (M.pure t18_10))) := by
 rw [C, u03 _ _ rfl]; kernel_rfl
theorem urm (a0 a1 a2 : PV) : C ufw [a0, a1, a2] =
 trunc (M.bind (C u1s [(strip (strip a0)), (strip (strip a1)), (strip (strip a2)), (.fn uc9 [] [])]) fun t12_0 =>
 M.bind (ex 0 t12_0) fun t13_1 =>
 M.bind (ex 1 (tupDrop 0 t12_0)) fun t14_2 =>
 M.bind (ex 2 (tupDrop 1 (tupDrop 0 t12_0))) fun t15_3 =>
 resT t13_1 (resT t14_2 (resT t15_3 (M.pure (.tup [t13_1, t14_2, t15_3]))))) := by
 rw [C, u03 _ _ rfl]; kernel_rfl
noncomputable def u5r (v0 v1 v2 v8 : PV) : M PV := atP P X u48 [1, 1] (mkEnv 20 0 [(0, v0), (1, v1), (2, v2), (8, v8)])
theorem u90 (v0 v1 v2 v8 : PV) : u5r v0 v1 v2 v8 =
 M.bind (nc P (strip v0)) fun t17_0 =>
 M.bind (fa 1 t17_0) fun t18_1 =>
 M.bind (st 1 true t18_1 v2) fun _ =>
 resT v1 (M.pure v1) :=
 (u0j P X _ _ _).trans (by kernel_rfl)
theorem u80 (a0 a1 a2 a3 : PV) : C u48 [a0, a1, a2, a3] =
 trunc (M.bind (bi .neq .none (strip a3) (.int .i64 0)) fun t10_0 =>
 condM t10_0
 (M.bind (C u18 [(strip (strip a0)), (strip (strip a2)), (strip (strip a3))]) fun t14_1 =>
 u5r a0 a1 a2 (.int .i64 0))
 (u5r a0 a1 a2 (.int .i64 0))) := by
 rw [C, u03 _ _ rfl]; kernel_rfl
theorem uh8 (a0 : PV) : C u7b [a0] =
 trunc (M.bind (bi .lss .none (strip a0) (.int .u8 105)) fun t4_0 =>
 M.bind (gd (strip t4_0) false (M.pure (strip a0))) fun t6_1 =>
 M.bind (gd (strip t4_0) false (bi .gtr .none t6_1 (.int .u8 116))) fun t7_2 =>
 M.bind (pick (strip t4_0) (.bool true) t7_2) fun t8_3 =>
 condM t8_3
 (M.pure (.int .i64 0))
 (M.bind (C u4u []) fun t9_4 =>
 M.bind (bi .sub .none (strip a0) (.int .u8 105)) fun t11_5 =>
 M.bind (ixA 12 1 none t9_4 t11_5) fun t12_6 =>
 resT t12_6 (M.pure t12_6))) := by
 rw [C, u03 _ _ rfl]; kernel_rfl
theorem uaa (a0 a1 a2 a3 : PV) : CD none u6p [a0, a1, a2, a3] =
 noPan (trunc (M.bind (M.pure .niliface) fun t6_0 =>
 M.bind (bi .neq .iface (strip t6_0) .niliface) fun t8_1 =>
 condM t8_1
 (M.bind (ta u0b (.agg [(.int .i64 0), (.int .i64 0)]) false (strip t6_0)) fun t10_2 =>
 M.bind (al [(.int .i64 0), (.int .i64 0)]) fun t5_3 =>
 M.bind (st 2 true t5_3 t10_2) fun _ =>
 nb (ld none true a0) fun t11_5 =>
 nb (fa 0 t5_3) fun t12_6 =>
 guardM (!clash (tld t12_6) (tld a0) && true) <| nb (ld none true t12_6) fun t13_7 =>
 nb (fa 1 t5_3) fun t14_8 =>
 guardM (!clash (tld t14_8) (tld t12_6) && (!clash (tld t14_8) (.no) && (!clash (tld t14_8) (tld a0) && true))) <| nb (ld none true t14_8) fun t15_9 =>
 guardM (!clash (tst a1) (tld t14_8) && (!clash (tst a1) (.no) && (!clash (tst a1) (tld t12_6) && (!clash (tst a1) (.no) && true)))) <| M.bind (noPan (st 1 true a1 t11_5)) fun _ =>
 guardM (!clash (tst a2) (tld t14_8) && (!clash (tst a2) (.no) && true)) <| M.bind (noPan (st 1 true a2 t13_7)) fun _ =>
 M.bind (noPan (st 1 true a3 t15_9)) fun _ =>
 M.pure (.tup []))
 (M.pure (.tup [])))) := by
 rw [CD, u6z]; kernel_rfl
theorem uaj (r : PV) (a0 a1 a2 a3 : PV) : CD (some r) u6p [a0, a1, a2, a3] =
 noPan (trunc (M.bind (M.pure r) fun t6_0 =>
 M.bind (bi .neq .iface (strip t6_0) .niliface) fun t8_1 =>
 condM t8_1
 (M.bind (ta u0b (.agg [(.int .i64 0), (.int .i64 0)]) false (strip t6_0)) fun t10_2 =>
 M.bind (al [(.int .i64 0), (.int .i64 0)]) fun t5_3 =>
 M.bind (st 2 true t5_3 t10_2) fun _ =>
 nb (ld none true a0) fun t11_5 =>
 nb (fa 0 t5_3) fun t12_6 =>
 guardM (!clash (tld t12_6) (tld a0) && true) <| nb (ld none true t12_6) fun t13_7 =>
 nb (fa 1 t5_3) fun t14_8 =>
 guardM (!clash (tld t14_8) (tld t12_6) && (!clash (tld t14_8) (.no) && (!clash (tld t14_8) (tld a0) && true))) <| nb (ld none true t14_8) fun t15_9 =>
 guardM (!clash (tst a1) (tld t14_8) && (!clash (tst a1) (.no) && (!clash (tst a1) (tld t12_6) && (!clash (tst a1) (.no) && true)))) <| M.bind (noPan (st 1 true a1 t11_5)) fun _ =>
 guardM (!clash (tst a2) (tld t14_8) && (!clash (tst a2) (.no) && true)) <| M.bind (noPan (st 1 true a2 t13_7)) fun _ =>
 M.bind (noPan (st 1 true a3 t15_9)) fun _ =>
 M.pure (.tup []))
 (M.pure (.tup [])))) := by
 rw [CD, u6z]; kernel_rfl
theorem us7 (a0 : PV) : C uc9 [a0] =
 trunc (M.bind (bx 3 a0) fun t1_0 =>
 M.bind (ld (some 3) false t1_0) fun t5_1 =>
 M.bind (C u0o [(strip t5_1), (.int .i64 33)]) fun t6_2 =>
 M.bind (ex 0 t6_2) fun t7_3 =>
 M.bind (ex 1 (tupDrop 0 t6_2)) fun t8_4 =>
 M.bind (ex 2 (tupDrop 1 (tupDrop 0 t6_2))) fun t9_5 =>
 resT t7_3 (resT t8_4 (resT t9_5 (M.pure (.tup [t7_3, t8_4, t9_5]))))) := by
 rw [C, u03 _ _ rfl]; kernel_rfl
end Go.Proofs.YthidcpkcfoldmaaGreat.Pi.Q
namespace Go.Proofs.YthidcpkcfoldmaaGreat.Pi.Q
open Go Go.Proofs.YthidcpkcfoldmaaGreat.Pi
attribute [local congr] ite_congr
def retU : Rs Nat → PV
  | .ok n p => .tup [.int .u64 n, .int .i64 p, .int .i64 0]
  | .err p e => .tup [.int .u64 0, .int .i64 p, .int .i64 e]
theorem dig_lt {B s x : Nat} (hB : B ≤ 64) (hi : s < B) (hx : x < 2 ^ (B - s)) : x * 2 ^ s < 2 ^ 64 := by
  have h1 : (x + 1) * 2 ^ s ≤ 2 ^ (B - s) * 2 ^ s := Nat.mul_le_mul_right _ hx
  have h2 : 2 ^ (B - s) * 2 ^ s = 2 ^ B := by rw [← Nat.pow_add, Nat.sub_add_cancel (by omega)]
  have h3 : 2 ^ B ≤ 2 ^ 64 := Nat.pow_le_pow_right (by omega) hB
  have h4 := Nat.pow_pos (n := s) (show 0 < 2 by omega)
  rw [Nat.add_mul] at h1
  omega
theorem uvm {H : Heap} {b : List UInt8} {z : Bool} {id a e B s n p : Nat} {x y w : PV} (hH : hget H id = some (.cells [BS z b, .int .i64 a, .int .i64 e]))
    (he : e ≤ b.length) (hb : b.length < 2 ^ 62) (hB : B ≤ 64) (hi : s < B) (hn : n < 2 ^ s) :
    run (u0v (.int .i64 B) (.ptr id 0) x y w (.int .u64 n) (.int .i64 s) (.int .i64 p)) H =
      if p < e then
        if B < s + 7 ∧ (b.getD p 0).toNat / 2 ^ (B - s) ≠ 0 then some (.ok (retU (.err p 4)) H)
        else if (b.getD p 0).toNat < 128 then some (.ok (retU (.ok (n + (b.getD p 0).toNat * 2 ^ s) (p + 1))) H)
        else run (u0v (.int .i64 B) (.ptr id 0) x y w (.int .u64 (n + (b.getD p 0).toNat % 128 * 2 ^ s : Nat)) (.int .i64 (s + 7 : Nat)) (.int .i64 (p + 1 : Nat))) H
      else some (.ok (retU (.err e 3)) H) := by
  have hid := get_lt hH
  have hset := u6v hH
  rw [u78]
  by_cases hpe : p < e
  · have hpb : p < b.length := by omega
    have hg := ug9 hpb
    have hgd : b.getD p 0 = b[p] := by simp [hpb]
    rw [hgd]
    generalize b[p] = c at hg hgd ⊢
    have hc := byt_lt c
    generalize hcn : c.toNat = cn at hc
    have s1 : (B : Int) - (s : Int) = ((B - s : Nat) : Int) := by omega
    simp +contextual -dsimp (disch := omega) only [↓goDown, goUp, cr, simprocAttr, hH, hg, byt, hcn, hset, s1, u75, and127, u87, u9s, run_or, Int.toNat_natCast]
    have c0 : ¬ (e : Int) ≤ p := by omega
    rw [if_neg c0, if_pos hpe]
    have key : cn % 128 < 2 ^ (B - s) → IntKind.u64.wrap ((BitVec.ofInt IntKind.u64.bits (n : Int) ||| BitVec.ofInt IntKind.u64.bits (IntKind.u64.wrap (((cn % 128 : Nat) : Int) * 2 ^ shiftN .u64 (s : Int)))).toNat : Int) = ((n + cn % 128 * 2 ^ s : Nat) : Int) :=
      fun h => (uql (by omega) hn (dig_lt hB hi h)).1
    have tail : cn % 128 < 2 ^ (B - s) → ∀ r, (if (cn : Int) < 128 then some (Out.ok (PV.tup [PV.int IntKind.u64 (IntKind.u64.wrap ((BitVec.ofInt IntKind.u64.bits (n : Int) ||| BitVec.ofInt IntKind.u64.bits (IntKind.u64.wrap (((cn % 128 : Nat) : Int) * 2 ^ shiftN .u64 (s : Int)))).toNat : Int)), PV.int IntKind.i64 (p + 1), PV.int IntKind.i64 0]) H) else r) =
        if cn < 128 then some (Out.ok (retU (Rs.ok (n + cn * 2 ^ s) (p + 1))) H) else r := by
      intro h r
      rw [key h]
      by_cases h1 : cn < 128
      · have c1 : (cn : Int) < 128 := by omega
        rw [if_pos h1, if_pos c1, Nat.mod_eq_of_lt h1]; rfl
      · have c1 : ¬ (cn : Int) < 128 := by omega
        rw [if_neg h1, if_neg c1]
    by_cases h7 : B - s < 7
    · have c1 : ((B - s : Nat) : Int) < 7 := by omega
      have c0 : B < s + 7 := by omega
      rw [if_pos c1, shr_u8 cn (s := B - s) (by omega)]
      by_cases hd : cn / 2 ^ (B - s) = 0
      · have hlt : cn < 2 ^ (B - s) := by
          rcases Nat.div_eq_zero_iff.mp hd with h | h
          · have := Nat.pow_pos (n := B - s) (show 0 < 2 by omega); omega
          · exact h
        have hlt2 : cn % 128 < 2 ^ (B - s) := Nat.lt_of_le_of_lt (Nat.mod_le _ _) hlt
        have c2 : ((cn / 2 ^ (B - s) : Nat) : Int) = 0 := by omega
        have c3 : ¬ (B < s + 7 ∧ ¬ cn / 2 ^ (B - s) = 0) := fun h => h.2 hd
        rw [if_pos c2, if_neg c3, tail hlt2, key hlt2]
        rfl
      · have c2 : ¬ ((cn / 2 ^ (B - s) : Nat) : Int) = 0 := by omega
        have c3 : B < s + 7 ∧ ¬ cn / 2 ^ (B - s) = 0 := ⟨c0, hd⟩
        rw [if_neg c2, if_pos c3]; rfl
    · have hlt2 : cn % 128 < 2 ^ (B - s) := by
        have : 2 ^ 7 ≤ 2 ^ (B - s) := Nat.pow_le_pow_right (by omega) (by omega)
        omega
      have c1 : ¬ ((B - s : Nat) : Int) < 7 := by omega
      have c3 : ¬ (B < s + 7 ∧ ¬ cn / 2 ^ (B - s) = 0) := by omega
      rw [if_neg c1, if_neg c3, tail hlt2, key hlt2]
      rfl
  · have c0 : (e : Int) ≤ p := by omega
    simp +contextual -dsimp (disch := omega) only [↓goDown, goUp, cr, simprocAttr, hH, hset, c0]
    rw [if_neg hpe]
    rfl
theorem upj {H : Heap} {b : List UInt8} {z : Bool} {id a e B : Nat} {x y w : PV} (hH : hget H id = some (.cells [BS z b, .int .i64 a, .int .i64 e]))
    (he : e ≤ b.length) (hb : b.length < 2 ^ 62) (hB : B ≤ 64) (hB7 : B % 7 ≠ 0) : ∀ (f i n p : Nat), 7 * i < B → B ≤ 7 * (i + f) → n < 2 ^ (7 * i) →
    run (u0v (.int .i64 B) (.ptr id 0) x y w (.int .u64 n) (.int .i64 (7 * i : Nat)) (.int .i64 p)) H = some (.ok (retU (lebU b B e f i n p)) H)
  | 0, i, n, p, hi, hf, hn => by omega
  | f + 1, i, n, p, hi, hf, hn => by
    rw [uvm hH he hb hB hi hn]
    unfold lebU
    by_cases h1 : p < e
    · simp only [if_pos h1]
      by_cases h2 : B < 7 * i + 7 ∧ (b.getD p 0).toNat / 2 ^ (B - 7 * i) ≠ 0
      · simp only [if_pos h2]
      · simp only [if_neg h2]
        by_cases h3 : (b.getD p 0).toNat < 128
        · simp only [if_pos h3]
        · simp only [if_neg h3]
          have h7 : ¬ B < 7 * i + 7 := by
            intro h
            refine h2 ⟨h, fun h0 => ?_⟩
            rcases Nat.div_eq_zero_iff.mp h0 with h | h'
            · have := Nat.pow_pos (n := B - 7 * i) (show 0 < 2 by omega); omega
            · have : 2 ^ (B - 7 * i) ≤ 2 ^ 6 := Nat.pow_le_pow_right (by omega) (by omega)
              omega
          by_cases h8 : 7 * (i + 1) < B
          · refine upj hH he hb hB hB7 f (i + 1) _ (p + 1) h8 (by omega) ?_
            have h4 : 2 ^ (7 * (i + 1)) = 128 * 2 ^ (7 * i) := by rw [Nat.mul_add, Nat.pow_add, Nat.mul_comm]
            have h5 : (b.getD p 0).toNat % 128 * 2 ^ (7 * i) ≤ 127 * 2 ^ (7 * i) := Nat.mul_le_mul_right _ (by omega)
            omega
          · omega
    · simp only [if_neg h1]
def rdU (b : List UInt8) (B e p : Nat) : Rs Nat := lebU b B e 10 0 0 p
theorem uj2 {H : Heap} {b : List UInt8} {z : Bool} {p e : Int} :
    run (C u5h [BS z b, .int .i64 p, .int .i64 e]) H = if p < 0 ∨ b.length < e ∨ e < p then some (.ok (.tup [.agg [.slice false true 0 [], .int .i64 0, .int .i64 0], .int .i64 1]) H)
      else some (.ok (.tup [.agg [BS z b, .int .i64 p, .int .i64 e], .int .i64 0]) H) := by
  rw [uix]
  simp +contextual -dsimp (disch := omega) only [↓goDown, goUp, cr, simprocAttr, List.length_map]
  by_cases h1 : p < 0
  · simp [h1]
  · by_cases h2 : (b.length : Int) < e
    · simp [h1, h2]
    · by_cases h3 : e < p
      · simp [h1, h2, h3]
      · simp [h1, h2, h3]
theorem u9i {H : Heap} {b : List UInt8} {z : Bool} {p e B : Nat} (he : e ≤ b.length) (hb : b.length < 2 ^ 62) (hB : B = 32 ∨ B = 64) :
    run (C u16 [.agg [BS z b, .int .i64 p, .int .i64 e], .int .i64 B]) H = some (.ok (retU (rdU b B e p)) H) := by
  rw [u95]
  have h : ∀ (x y w : PV), run (u0v (.int .i64 B) (.ptr H.length 0) x y w (.int .u64 0) (.int .i64 0) (.int .i64 p)) (hadd H [.cells [BS z b, .int .i64 p, .int .i64 e]]) = some (.ok (retU (rdU b B e p)) (hadd H [.cells [BS z b, .int .i64 p, .int .i64 e]])) :=
    fun x y w => upj (by rw [u7y]; rfl) he hb (by omega) (by omega) 10 0 0 p (by omega) (by omega) (by decide)
  have hl : ∀ n, (retU (rdU b B e p)).low n = true := by intro n; unfold retU; split <;> simp [u7p, u8n, uit, u8o]
  simp +contextual -dsimp (disch := omega) only [↓goDown, goUp, cr, simprocAttr, h, hl]
end Go.Proofs.YthidcpkcfoldmaaGreat.Pi.Q
namespace Go.Proofs.YthidcpkcfoldmaaGreat.Pi.Q
open Go Go.Proofs.YthidcpkcfoldmaaGreat.Pi
attribute [local congr] ite_congr
def retS : Rs Int → PV
  | .ok n p => .tup [.int .i64 n, .int .i64 p, .int .i64 0]
  | .err p e => .tup [.int .i64 0, .int .i64 p, .int .i64 e]
theorem ux6 {H : Heap} {b : List UInt8} {id B s n p c : Nat} {x y w : PV} (hs : s ≤ 63) (hn : n < 2 ^ s) (hp : p < 2 ^ 62) (hc : c < 256) (hB : s < B):
    run (u1g (.int .i64 B) (.ptr id 0) x y w (.int .i64 (IntKind.i64.wrap n)) (.int .i64 s) (.int .i64 p) (.int .u8 c)) H =
      if c < 128 then some (.ok (retS (.ok (IntKind.i64.wrap (n + lastS c s)) (p + 1))) H)
      else run (u0r (.int .i64 B) (.ptr id 0) x y w (.int .i64 (IntKind.i64.wrap (n + c % 128 * 2 ^ s : Nat))) (.int .i64 (s + 7 : Nat)) (.int .i64 (p + 1 : Nat))) H := by
  rw [u6h]
  have e1 : shiftN .i64 (s : Int) = s := uhm (by omega)
  have key : IntKind.i64.wrap ((BitVec.ofInt IntKind.i64.bits (IntKind.i64.wrap n) ||| BitVec.ofInt IntKind.i64.bits (IntKind.i64.wrap (((c % 128 : Nat) : Int) * 2 ^ shiftN .i64 (s : Int)))).toNat : Int) = IntKind.i64.wrap ((n + c % 128 * 2 ^ s : Nat) : Int) := by
    rw [e1]
    have h := upt (N := (n : Int)) (x := ((c % 128 : Nat) : Int)) hs (by omega) (by exact_mod_cast hn)
    unfold or64 at h
    refine h.trans ?_
    push_cast
    rfl
  have w1 : IntKind.i64.wrap ((c % 128 : Nat) : Int) = ((c % 128 : Nat) : Int) := w_i64 (by omega)
  simp +contextual -dsimp (disch := omega) only [↓goDown, goUp, cr, simprocAttr, u75, and127, u87, u9s, run_or, u5j, key, w1]
  have e2 : ((s : Int) + 7) = ((s + 7 : Nat) : Int) := rfl
  have e3 : ((p : Int) + 1) = ((p + 1 : Nat) : Int) := rfl
  by_cases hlt : c < 128
  · have c1 : (c : Int) < 128 := by omega
    have hm : c % 128 = c := Nat.mod_eq_of_lt hlt
    rw [if_pos c1, if_pos hlt, and64 c hlt, hm]
    by_cases h64 : c < 64
    · rw [if_pos h64, if_pos rfl]
      unfold lastS
      rw [if_pos h64]
      push_cast
      rfl
    · rw [if_neg h64, if_neg (by decide)]
      unfold lastS
      rw [if_neg h64]
      have ep : (2 : Int) ^ (s + 7) = 128 * 2 ^ s := by rw [Int.pow_add, Int.mul_comm]; rfl
      by_cases h7 : s + 7 < 64
      · have c2 : (s : Int) + 7 < 64 := by omega
        rw [if_pos c2, e2, uhm (by omega)]
        have h1 : n + c * 2 ^ s < 2 ^ (s + 7) := by
          have : (c + 1) * 2 ^ s ≤ 128 * 2 ^ s := Nat.mul_le_mul_right _ (by omega)
          have e : 2 ^ (s + 7) = 128 * 2 ^ s := by rw [Nat.pow_add, Nat.mul_comm]
          rw [Nat.add_mul] at this
          omega
        have h := upt (N := ((n + c * 2 ^ s : Nat) : Int)) (x := -1) (s := s + 7) (by omega) (by omega) (by exact_mod_cast h1)
        unfold or64 at h
        have h2 : IntKind.i64.wrap (((n + c * 2 ^ s : Nat) : Int) + -1 * 2 ^ (s + 7)) = IntKind.i64.wrap ((n : Int) + ((c : Int) - 128) * 2 ^ s) := by
          congr 1
          rw [ep, Int.sub_mul]
          push_cast
          omega
        exact congrArg (fun v => some (Out.ok (PV.tup [PV.int IntKind.i64 v, PV.int IntKind.i64 ((p : Int) + 1), PV.int IntKind.i64 0]) H)) (h.trans h2)
      · have c2 : ¬ (s : Int) + 7 < 64 := by omega
        rw [if_neg c2]
        have h2 : IntKind.i64.wrap ((n + c * 2 ^ s : Nat) : Int) = IntKind.i64.wrap ((n : Int) + ((c : Int) - 128) * 2 ^ s) := by
          apply uoe
          have e9 : (128 : Int) * 2 ^ s = 2 ^ (s + 7 - 64) * 18446744073709551616 := by
            rw [← ep, pow64 (s := 64) (by omega), Nat.sub_self, Int.pow_zero, Int.one_mul, ← Int.pow_add]
            congr 1
            omega
          have e8 : ((n + c * 2 ^ s : Nat) : Int) = ((n : Int) + ((c : Int) - 128) * 2 ^ s) + 2 ^ (s + 7 - 64) * 18446744073709551616 := by
            rw [← e9, Int.sub_mul]
            push_cast
            omega
          rw [e8, Int.add_mul_emod_self_right]
        exact congrArg (fun v => some (Out.ok (PV.tup [PV.int IntKind.i64 v, PV.int IntKind.i64 ((p : Int) + 1), PV.int IntKind.i64 0]) H)) h2
  · have c1 : ¬ (c : Int) < 128 := by omega
    rw [if_neg c1, if_neg hlt, e2, e3]
theorem ust {H : Heap} {b : List UInt8} {z : Bool} {id a e B s n p : Nat} {x y w : PV} (hH : hget H id = some (.cells [BS z b, .int .i64 a, .int .i64 e]))
    (he : e ≤ b.length) (hb : b.length < 2 ^ 62) (hB : B = 32 ∨ B = 33 ∨ B = 64) (hs7 : s % 7 = 0) (hi : s < B) (hn : n < 2 ^ s) :
    run (u0r (.int .i64 B) (.ptr id 0) x y w (.int .i64 (IntKind.i64.wrap n)) (.int .i64 s) (.int .i64 p)) H =
      if p < e then
        if B < s + 7 ∧ ¬ okS (B - s) (b.getD p 0).toNat then some (.ok (retS (.err p 4)) H)
        else if (b.getD p 0).toNat < 128 then some (.ok (retS (.ok (IntKind.i64.wrap (n + lastS (b.getD p 0).toNat s)) (p + 1))) H)
        else run (u0r (.int .i64 B) (.ptr id 0) x y w (.int .i64 (IntKind.i64.wrap (n + (b.getD p 0).toNat % 128 * 2 ^ s : Nat))) (.int .i64 (s + 7 : Nat)) (.int .i64 (p + 1 : Nat))) H
      else some (.ok (retS (.err e 3)) H) := by
  have hid := get_lt hH
  have hset := u6v hH
  rw [u7h]
  by_cases hpe : p < e
  · have hpb : p < b.length := by omega
    have hg := ug9 hpb
    have hgd : b.getD p 0 = b[p] := by simp [hpb]
    rw [hgd]
    generalize b[p] = c at hg hgd ⊢
    have hc := byt_lt c
    generalize hcn : c.toNat = cn at hc
    have s1 : (B : Int) - (s : Int) = ((B - s : Nat) : Int) := by omega
    have c0 : ¬ (e : Int) ≤ p := by omega
    have hj := fun (u v w : PV) => ux6 (H := H) (b := b) (id := id) (B := B) (s := s) (n := n) (p := p) (c := cn) (x := u) (y := v) (w := w) (by omega) hn (by omega) hc hi
    simp +contextual -dsimp (disch := omega) only [↓goDown, goUp, cr, simprocAttr, hH, hg, byt, hcn, hset, s1, u75, u87, u9s, run_or, Int.toNat_natCast, hj, c0]
    rw [if_pos hpe]
    by_cases h7 : B - s < 7
    · have c1 : ((B - s : Nat) : Int) < 7 := by omega
      have c3 : B < s + 7 := by omega
      rw [if_pos c1]
      by_cases h128 : cn < 128
      · have c2 : ¬ (128 : Int) ≤ cn := by omega
        have ht := top_ok (h := B - s) (by omega) h128
        rw [if_neg c2]
        by_cases h0 : (IntKind.i8.wrap (IntKind.u8.wrap ((cn : Int) * 2 ^ shiftN .u8 1))).fdiv (2 ^ shiftN .i8 ((B - s : Nat) : Int)) = 0
        · have c4 : ¬ (B < s + 7 ∧ ¬ okS (B - s) cn) := fun h => h.2 (ht.mp (.inl h0))
          rw [if_pos h0, if_neg c4, if_pos h128, if_pos h128]
        · rw [if_neg h0]
          by_cases h1 : (IntKind.i8.wrap (IntKind.u8.wrap ((cn : Int) * 2 ^ shiftN .u8 1))).fdiv (2 ^ shiftN .i8 ((B - s : Nat) : Int)) = -1
          · have c4 : ¬ (B < s + 7 ∧ ¬ okS (B - s) cn) := fun h => h.2 (ht.mp (.inr h1))
            rw [if_pos h1, if_neg c4, if_pos h128, if_pos h128]
          · have c4 : B < s + 7 ∧ ¬ okS (B - s) cn := ⟨c3, fun h => (ht.mpr h).elim h0 h1⟩
            rw [if_neg h1, if_pos c4]
            rfl
      · have c2 : (128 : Int) ≤ cn := by omega
        have c4 : B < s + 7 ∧ ¬ okS (B - s) cn := ⟨c3, fun h => h128 h.1⟩
        rw [if_pos c2, if_pos c4]
        rfl
    · have c1 : ¬ ((B - s : Nat) : Int) < 7 := by omega
      have c4 : ¬ (B < s + 7 ∧ ¬ okS (B - s) cn) := by omega
      rw [if_neg c1, if_neg c4]
  · have c0 : (e : Int) ≤ p := by omega
    simp +contextual -dsimp (disch := omega) only [↓goDown, goUp, cr, simprocAttr, hH, hset, c0]
    rw [if_neg hpe]
    rfl
theorem uqg {H : Heap} {b : List UInt8} {z : Bool} {id a e B : Nat} {x y w : PV} (hH : hget H id = some (.cells [BS z b, .int .i64 a, .int .i64 e]))
    (he : e ≤ b.length) (hb : b.length < 2 ^ 62) (hB : B = 32 ∨ B = 33 ∨ B = 64) : ∀ (f i n p : Nat), 7 * i < B → B ≤ 7 * (i + f) → n < 2 ^ (7 * i) →
    run (u0r (.int .i64 B) (.ptr id 0) x y w (.int .i64 (IntKind.i64.wrap n)) (.int .i64 (7 * i : Nat)) (.int .i64 p)) H = some (.ok (retS (lebS b B e f i n p)) H)
  | 0, i, n, p, hi, hf, hn => by omega
  | f + 1, i, n, p, hi, hf, hn => by
    rw [ust hH he hb hB (by omega) hi hn]
    unfold lebS
    by_cases h1 : p < e
    · simp only [if_pos h1]
      by_cases h2 : B < 7 * i + 7 ∧ ¬ okS (B - 7 * i) (b.getD p 0).toNat
      · simp only [if_pos h2]
      · simp only [if_neg h2]
        by_cases h3 : (b.getD p 0).toNat < 128
        · simp only [if_pos h3]
        · simp only [if_neg h3]
          have h7 : ¬ B < 7 * i + 7 := fun h => h2 ⟨h, fun h0 => h3 h0.1⟩
          refine uqg hH he hb hB f (i + 1) _ (p + 1) (by omega) (by omega) ?_
          have h4 : 2 ^ (7 * (i + 1)) = 128 * 2 ^ (7 * i) := by rw [Nat.mul_add, Nat.pow_add, Nat.mul_comm]
          have h5 : (b.getD p 0).toNat % 128 * 2 ^ (7 * i) ≤ 127 * 2 ^ (7 * i) := Nat.mul_le_mul_right _ (by omega)
          omega
    · simp only [if_neg h1]
theorem u8y {H : Heap} {b : List UInt8} {z : Bool} {p e B : Nat} (he : e ≤ b.length) (hb : b.length < 2 ^ 62) (hB : B = 32 ∨ B = 33 ∨ B = 64) :
    run (C u0o [.agg [BS z b, .int .i64 p, .int .i64 e], .int .i64 B]) H = some (.ok (retS (rdS b B e p)) H) := by
  rw [uak]
  have h : ∀ (x y w : PV), run (u0r (.int .i64 B) (.ptr H.length 0) x y w (.int .i64 0) (.int .i64 0) (.int .i64 p)) (hadd H [.cells [BS z b, .int .i64 p, .int .i64 e]]) = some (.ok (retS (rdS b B e p)) (hadd H [.cells [BS z b, .int .i64 p, .int .i64 e]])) :=
    fun x y w => uqg (by rw [u7y]; rfl) he hb hB 10 0 0 p (by omega) (by omega) (by decide)
  have hl : ∀ n, (retS (rdS b B e p)).low n = true := by intro n; unfold retS; split <;> simp [u7p, u8n, uit, u8o]
  simp +contextual -dsimp (disch := omega) only [↓goDown, goUp, cr, simprocAttr, h, hl]
end Go.Proofs.YthidcpkcfoldmaaGreat.Pi.Q
namespace Go.Proofs.YthidcpkcfoldmaaGreat.Pi.Q
open Go Go.Proofs.YthidcpkcfoldmaaGreat.Pi
attribute [local congr] ite_congr
theorem uvb {b : List UInt8} {B e : Nat} (hB : B % 7 ≠ 0) : ∀ (f i n p : Nat), 7 * i < B → n < 2 ^ (7 * i) → ∀ v q, lebU b B e f i n p = .ok v q → v < 2 ^ B ∧ p < q ∧ q ≤ e
  | 0, i, n, p, hi, hn, v, q, h => by cases h
  | f + 1, i, n, p, hi, hn, v, q, h => by
    unfold lebU at h
    by_cases h1 : p < e
    · simp only [if_pos h1] at h
      by_cases h2 : B < 7 * i + 7 ∧ (b.getD p 0).toNat / 2 ^ (B - 7 * i) ≠ 0
      · simp only [if_pos h2] at h; cases h
      · simp only [if_neg h2] at h
        generalize hc : (b.getD p 0).toNat = c at *
        have hz : ∀ k : Nat, 0 < 2 ^ k := fun k => Nat.pow_pos (by omega)
        have h7 : B < 7 * i + 7 → c < 2 ^ (B - 7 * i) := by
          intro h
          have h0 : c / 2 ^ (B - 7 * i) = 0 := by
            by_cases h0 : c / 2 ^ (B - 7 * i) = 0
            · exact h0
            · exact absurd ⟨h, h0⟩ h2
          rcases Nat.div_eq_zero_iff.mp h0 with h | h
          · have := hz (B - 7 * i); omega
          · exact h
        by_cases h3 : c < 128
        · simp only [if_pos h3, Rs.ok.injEq] at h
          obtain ⟨rfl, rfl⟩ := h
          have hlt : c < 2 ^ (B - 7 * i) := by
            by_cases h : B < 7 * i + 7
            · exact h7 h
            · have : 2 ^ 7 ≤ 2 ^ (B - 7 * i) := Nat.pow_le_pow_right (by omega) (by omega)
              omega
          refine ⟨?_, by omega, by omega⟩
          have h4 : (c + 1) * 2 ^ (7 * i) ≤ 2 ^ (B - 7 * i) * 2 ^ (7 * i) := Nat.mul_le_mul_right _ hlt
          have h5 : 2 ^ (B - 7 * i) * 2 ^ (7 * i) = 2 ^ B := by rw [← Nat.pow_add, Nat.sub_add_cancel (by omega)]
          rw [Nat.add_mul] at h4
          omega
        · simp only [if_neg h3] at h
          have h8 : ¬ B < 7 * i + 7 := by
            intro h
            have h5 := h7 h
            have : 2 ^ (B - 7 * i) ≤ 2 ^ 6 := Nat.pow_le_pow_right (by omega) (by omega)
            omega
          have h4 : 2 ^ (7 * (i + 1)) = 128 * 2 ^ (7 * i) := by rw [Nat.mul_add, Nat.pow_add, Nat.mul_comm]
          have h5 : c % 128 * 2 ^ (7 * i) ≤ 127 * 2 ^ (7 * i) := Nat.mul_le_mul_right _ (by omega)
          obtain ⟨a1, a2, a3⟩ := uvb hB f (i + 1) _ (p + 1) (by omega) (by omega) v q h
          exact ⟨a1, by omega, a3⟩
    · simp only [if_neg h1] at h; cases h
theorem uua {b : List UInt8} {B e : Nat} : ∀ (f i n p : Nat) v q, lebS b B e f i n p = .ok v q → -9223372036854775808 ≤ v ∧ v ≤ 9223372036854775807 ∧ p < q ∧ q ≤ e
  | 0, i, n, p, v, q, h => by cases h
  | f + 1, i, n, p, v, q, h => by
    unfold lebS at h
    by_cases h1 : p < e
    · simp only [if_pos h1] at h
      by_cases h2 : B < 7 * i + 7 ∧ ¬ okS (B - 7 * i) (b.getD p 0).toNat
      · simp only [if_pos h2] at h; cases h
      · simp only [if_neg h2] at h
        by_cases h3 : (b.getD p 0).toNat < 128
        · simp only [if_pos h3, Rs.ok.injEq] at h
          obtain ⟨rfl, rfl⟩ := h
          rw [wi]
          omega
        · simp only [if_neg h3] at h
          obtain ⟨a1, a2, a3, a4⟩ := uua f (i + 1) _ (p + 1) v q h
          exact ⟨a1, a2, by omega, a4⟩
    · simp only [if_neg h1] at h; cases h
theorem uqh {b : List UInt8} {e p v q : Nat} (h : rdU b 32 e p = .ok v q) : v < 2 ^ 32 ∧ p < q ∧ q ≤ e := uvb (by decide) 10 0 0 p (by omega) (by decide) v q h
theorem rdS_lt {b : List UInt8} {B e p q : Nat} {v : Int} (h : rdS b B e p = .ok v q) : -9223372036854775808 ≤ v ∧ v ≤ 9223372036854775807 ∧ p < q ∧ q ≤ e := uua 10 0 0 p v q h
def retK (k : IntKind) : Rs Nat → PV
  | .ok n p => .tup [.int k n, .int .i64 p, .int .i64 0]
  | .err p e => .tup [.int k 0, .int .i64 p, .int .i64 e]
theorem urt {H : Heap} {b : List UInt8} {z : Bool} {p e : Nat} (he : e ≤ b.length) (hb : b.length < 2 ^ 61) :
    run (C uce [.agg [BS z b, .int .i64 p, .int .i64 e]]) H = some (.ok (retU (rdU b 32 e p)) H) := by
  rw [us3]
  have h := u9i (H := hadd H [.cells [BS z b, .int .i64 p, .int .i64 e]]) (z := z) (p := p) (B := 32) he (by omega) (.inl rfl)
  have h : run (C u16 [.agg [BS z b, .int .i64 p, .int .i64 e], .int .i64 32]) (hadd H [.cells [BS z b, .int .i64 p, .int .i64 e]]) = _ := h
  cases hr : rdU b 32 e p <;> rw [hr] at h <;> simp only [retU] at h ⊢ <;>
    simp +contextual -dsimp (disch := omega) only [↓goDown, goUp, cr, simprocAttr, h]
theorem usb {H : Heap} {b : List UInt8} {z : Bool} {p e : Nat} (he : e ≤ b.length) (hb : b.length < 2 ^ 61) :
    run (C uc9 [.agg [BS z b, .int .i64 p, .int .i64 e]]) H = some (.ok (retS (rdS b 33 e p)) H) := by
  rw [us7]
  have h := u8y (H := hadd H [.cells [BS z b, .int .i64 p, .int .i64 e]]) (z := z) (p := p) (B := 33) he (by omega) (.inr (.inl rfl))
  have h : run (C u0o [.agg [BS z b, .int .i64 p, .int .i64 e], .int .i64 33]) (hadd H [.cells [BS z b, .int .i64 p, .int .i64 e]]) = _ := h
  cases hr : rdS b 33 e p <;> rw [hr] at h <;> simp only [retS] at h ⊢ <;>
    simp +contextual -dsimp (disch := omega) only [↓goDown, goUp, cr, simprocAttr, h]
theorem u5u {H : Heap} {b : List UInt8} {z : Bool} {p e : Nat} (he : e ≤ b.length) (hp : p ≤ e) :
    run (C u5h [BS z b, .int .i64 p, .int .i64 e]) H = some (.ok (.tup [.agg [BS z b, .int .i64 p, .int .i64 e], .int .i64 0]) H) := by
  rw [uj2, if_neg (by omega)]
theorem us2 {H : Heap} {b : List UInt8} {z : Bool} {p e : Nat} (he : e ≤ b.length) (hb : b.length < 2 ^ 61) (hp : p ≤ e) :
    run (C u60 [BS z b, .int .i64 p, .int .i64 e]) H = some (.ok (retK .u32 (rdU b 32 e p)) H) := by
  have h1 : run (C u1e [BS z b, .int .i64 p, .int .i64 e, .fn uce [] []]) H = some (.ok (retK .u32 (rdU b 32 e p)) H) := by
    rw [u5i]
    have h := urt (H := hadd H [.cells [BS z b, .int .i64 p, .int .i64 e]]) (z := z) (p := p) he hb
    cases hr : rdU b 32 e p with
    | ok v q =>
      have hv := uqh hr
      rw [hr] at h
      simp only [retU, retK] at h ⊢
      simp +contextual -dsimp (disch := omega) only [↓goDown, goUp, cr, simprocAttr, h, u5u he hp]
    | err a w =>
      rw [hr] at h
      simp only [retU, retK] at h ⊢
      simp +contextual -dsimp (disch := omega) only [↓goDown, goUp, cr, simprocAttr, h, u5u he hp]
  rw [uqt]
  cases hr : rdU b 32 e p <;> rw [hr] at h1 <;> simp only [retK] at h1 ⊢ <;>
    simp +contextual -dsimp (disch := omega) only [↓goDown, goUp, cr, simprocAttr, h1]
theorem us0 {H : Heap} {b : List UInt8} {z : Bool} {p e : Nat} (he : e ≤ b.length) (hb : b.length < 2 ^ 61) (hp : p ≤ e) :
    run (C ufw [BS z b, .int .i64 p, .int .i64 e]) H = some (.ok (retS (rdS b 33 e p)) H) := by
  have h1 : run (C u1s [BS z b, .int .i64 p, .int .i64 e, .fn uc9 [] []]) H = some (.ok (retS (rdS b 33 e p)) H) := by
    rw [u5w]
    have h := usb (H := hadd H [.cells [BS z b, .int .i64 p, .int .i64 e]]) (z := z) (p := p) he hb
    cases hr : rdS b 33 e p <;> rw [hr] at h <;> simp only [retS] at h ⊢ <;>
      simp +contextual -dsimp (disch := omega) only [↓goDown, goUp, cr, simprocAttr, h, u5u he hp]
  rw [urm]
  cases hr : rdS b 33 e p <;> rw [hr] at h1 <;> simp only [retS] at h1 ⊢ <;>
    simp +contextual -dsimp (disch := omega) only [↓goDown, goUp, cr, simprocAttr, h1]
def curB (z : Bool) (b : List UInt8) (p : Nat) : Box := .cells [BS z b, .int .i64 p]
def flt (p e : Nat) : PV := .iface u0b (.agg [.int .i64 p, .int .i64 e])
def outC (z : Bool) (b : List UInt8) (c : Nat) (H : Heap) (q : Nat) {α : Type} (enc : α → PV) : Rs α → Option (Out PV)
  | .ok v p => some (.ok (enc v) (hset H c (curB z b p)))
  | .err p e => some (.pan (flt p e) (hset H c (curB z b q)))
theorem ud6 {H : Heap} {r : PV} {p e : Int} : run (C u18 [r, .int .i64 p, .int .i64 e]) H = some (.pan (.iface u0b (.agg [.int .i64 p, .int .i64 e])) H) := by
  rw [ual]
  simp +contextual -dsimp (disch := omega) only [↓goDown, goUp, cr, simprocAttr]
def rLook (b : List UInt8) (p : Nat) : Rs Nat := if p < b.length then .ok (b.getD p 0).toNat p else .err b.length 3
theorem uwa {H : Heap} {b : List UInt8} {z : Bool} {c p : Nat} (hH : hget H c = some (curB z b p)) (hb : b.length < 2 ^ 61) :
    run (C u10 [.ptr c 0]) H = outC z b c H p (fun x : Nat => .int .u8 x) (rLook b p) := by
  have hid := get_lt hH
  have hset := u6v hH
  rw [uab]
  unfold rLook
  have hH' := hH
  unfold curB at hH
  by_cases hp : p < b.length
  · have hg := ug9 hp
    have hgd : b.getD p 0 = b[p] := by simp [hp]
    have c0 : ¬ (b.length : Int) ≤ p := by omega
    rw [if_pos hp, hgd]
    simp only [outC, hset]
    simp +contextual -dsimp (disch := omega) only [↓goDown, goUp, cr, simprocAttr, hH, hg, byt, c0, List.length_map, u83, Int.toNat_natCast]
  · have c0 : (b.length : Int) ≤ p := by omega
    rw [if_neg hp]
    simp only [outC, hset]
    simp +contextual -dsimp (disch := omega) only [↓goDown, goUp, cr, simprocAttr, hH, c0, List.length_map, ud6]
    rfl
theorem urf {H : Heap} {b : List UInt8} {z : Bool} {c p q : Nat} {v : Int} (hH : hget H c = some (curB z b p)) :
    run (C u48 [.ptr c 0, .int .i64 v, .int .i64 q, .int .i64 0]) H = some (.ok (.int .i64 v) (hset H c (curB z b q))) := by
  have hid := get_lt hH
  unfold curB at hH
  rw [u80]
  simp +contextual -dsimp (disch := omega) only [↓goDown, goUp, cr, simprocAttr, hH, u90]
  rfl
theorem unq {H : Heap} {r v : PV} {q e : Nat} (he : e ≠ 0) :
    run (C u48 [r, v, .int .i64 q, .int .i64 e]) H = some (.pan (flt q e) H) := by
  rw [u80]
  have c0 : ¬ (e : Int) = 0 := by omega
  simp +contextual -dsimp (disch := omega) only [↓goDown, goUp, cr, simprocAttr, c0, ud6]
  rfl
theorem uow {b : List UInt8} {B e : Nat} : ∀ (f i n p : Nat) a w, lebU b B e f i n p = .err a w → w = 3 ∨ w = 4
  | 0, i, n, p, a, w, h => by cases h; exact .inr rfl
  | f + 1, i, n, p, a, w, h => by
    unfold lebU at h
    by_cases h1 : p < e
    · simp only [if_pos h1] at h
      by_cases h2 : B < 7 * i + 7 ∧ (b.getD p 0).toNat / 2 ^ (B - 7 * i) ≠ 0
      · simp only [if_pos h2, Rs.err.injEq] at h; exact .inr h.2.symm
      · simp only [if_neg h2] at h
        by_cases h3 : (b.getD p 0).toNat < 128
        · simp only [if_pos h3] at h; cases h
        · simp only [if_neg h3] at h; exact uow f _ _ _ a w h
    · simp only [if_neg h1, Rs.err.injEq] at h; exact .inl h.2.symm
theorem uof {b : List UInt8} {B e : Nat} : ∀ (f i n p : Nat) a w, lebS b B e f i n p = .err a w → w = 3 ∨ w = 4
  | 0, i, n, p, a, w, h => by cases h; exact .inr rfl
  | f + 1, i, n, p, a, w, h => by
    unfold lebS at h
    by_cases h1 : p < e
    · simp only [if_pos h1] at h
      by_cases h2 : B < 7 * i + 7 ∧ ¬ okS (B - 7 * i) (b.getD p 0).toNat
      · simp only [if_pos h2, Rs.err.injEq] at h; exact .inr h.2.symm
      · simp only [if_neg h2] at h
        by_cases h3 : (b.getD p 0).toNat < 128
        · simp only [if_pos h3] at h; cases h
        · simp only [if_neg h3] at h; exact uof f _ _ _ a w h
    · simp only [if_neg h1, Rs.err.injEq] at h; exact .inl h.2.symm
theorem ut4 {b : List UInt8} {B e p a w : Nat} (h : rdU b B e p = .err a w) : w ≠ 0 := by have := uow 10 0 0 p a w h; omega
theorem uj4 {b : List UInt8} {B e p a w : Nat} (h : rdS b B e p = .err a w) : w ≠ 0 := by have := uof 10 0 0 p a w h; omega
def rS33 (b : List UInt8) (p : Nat) : Rs Int :=
  match rdS b 33 b.length p with
  | .ok n q => if n < 0 then .err p 4 else if 2147483647 < n then .err p 2 else .ok n q
  | .err a w => .err a w
theorem s33_is {H : Heap} {b : List UInt8} {z : Bool} {c p : Nat} (hH : hget H c = some (curB z b p)) (hb : b.length < 2 ^ 61) (hp : p ≤ b.length) :
    ∃ q, run (C u3l [.ptr c 0]) H = outC z b c H q (fun x : Int => .int .i64 x) (rS33 b p) := by
  have hid := get_lt hH
  have hset := u6v hH
  have hs' : Pi.hset H c (.cells [BS z b, .int .i64 p]) = H := hset
  have h1 := us0 (H := H) (b := b) (z := z) (p := p) (Nat.le_refl _) hb hp
  have g1 := fun (q : Nat) (v : Int) => urf (q := q) (v := v) hH
  rw [uaw]
  unfold rS33
  unfold curB at hH
  cases hr : rdS b 33 b.length p with
  | ok v q =>
    have hv := rdS_lt hr
    rw [hr] at h1
    simp only [retS] at h1
    refine ⟨q, ?_⟩
    by_cases n1 : v < 0
    · simp only [n1, if_true, outC]
      simp +contextual -dsimp (disch := omega) only [↓goDown, goUp, cr, simprocAttr, hH, hs', h1, g1, List.length_map, n1, ud6]
      rfl
    · by_cases n2 : 2147483647 < v
      · simp only [n1, n2, if_true, if_false, outC]
        simp +contextual -dsimp (disch := omega) only [↓goDown, goUp, cr, simprocAttr, hH, hs', h1, g1, List.length_map, n1, n2, ud6]
        rfl
      · simp only [n1, n2, if_true, if_false, outC]
        simp +contextual -dsimp (disch := omega) only [↓goDown, goUp, cr, simprocAttr, hH, hs', h1, g1, List.length_map, n1, n2, u7i]
  | err a w =>
    rw [hr] at h1
    simp only [retS] at h1
    refine ⟨p, ?_⟩
    simp only [outC, hset]
    have g2 := fun (u : PV) => unq (H := H) (r := .ptr c 0) (v := u) (q := a) (uj4 hr)
    simp +contextual -dsimp (disch := omega) only [↓goDown, goUp, cr, simprocAttr, hH, hs', h1, g2, List.length_map]
    rfl
def hname (c : Nat) : Int :=
  if c = 115 then -2 else if c = 114 then -4 else if c = 113 then -10 else if c = 112 then -1 else if c = 111 then -3 else if c = 110 then -5 else if c = 109 then -6 else if c = 108 then -7 else if c = 107 then -8 else if c = 106 then -9 else if c = 105 then -11 else if c = 116 then -12 else 0
theorem uh1 {H : Heap} : run (C u4u []) H = some (.ok (.agg [.int .i64 (-11), .int .i64 (-9), .int .i64 (-8), .int .i64 (-7), .int .i64 (-6), .int .i64 (-5), .int .i64 (-3), .int .i64 (-1), .int .i64 (-10), .int .i64 (-4), .int .i64 (-2), .int .i64 (-12)]) H) := by
  rw [ucv]
  simp +contextual -dsimp (disch := omega) only [↓goDown, goUp, cr, simprocAttr]
theorem ugi {len : Nat} {cs : List PV} {k : IntKind} {n : Int} {H : Heap} : run (ixA len 1 none (.agg cs) (.int k n)) H = if 0 ≤ n ∧ n < len then ldFR H (nth cs n.toNat) else none := by
  unfold run ixA fd
  by_cases h : 0 ≤ n ∧ n < len
  · have h1 : (decide (0 ≤ n) && decide (n < (len : Int))) = true := by simp [h]
    rw [if_pos h]
    simp only [h1, cond_true, Nat.mul_one, nth_is]
    cases nth cs n.toNat <;> rfl
  · have h1 : (decide (0 ≤ n) && decide (n < (len : Int))) = false := by
      rw [Bool.and_eq_false_iff]
      by_cases h0 : 0 ≤ n
      · right; simp; omega
      · left; simp; omega
    rw [if_neg h]
    simp only [h1, cond_false]
    rfl
theorem ug7 {c : Nat} (h : c < 105 ∨ 116 < c) : hname c = 0 := by
  unfold hname
  rw [if_neg (by omega), if_neg (by omega), if_neg (by omega), if_neg (by omega), if_neg (by omega), if_neg (by omega), if_neg (by omega), if_neg (by omega), if_neg (by omega), if_neg (by omega), if_neg (by omega), if_neg (by omega)]
theorem upr {H : Heap} {c : Nat} (hc : c < 256) : run (C u7b [.int .u8 c]) H = some (.ok (.int .i64 (hname c)) H) := by
  rw [uh8]
  by_cases h1 : c < 105
  · have c1 : (c : Int) < 105 := by omega
    have : hname c = 0 := ug7 (.inl h1)
    rw [this]
    simp +contextual -dsimp (disch := omega) only [↓goDown, goUp, cr, simprocAttr, c1]
  · by_cases h2 : 116 < c
    · have c1 : ¬ (c : Int) < 105 := by omega
      have c2 : (116 : Int) < c := by omega
      have : hname c = 0 := ug7 (.inr h2)
      rw [this]
      simp +contextual -dsimp (disch := omega) only [↓goDown, goUp, cr, simprocAttr, c1, c2]
    · have h : c = 105 ∨ c = 106 ∨ c = 107 ∨ c = 108 ∨ c = 109 ∨ c = 110 ∨ c = 111 ∨ c = 112 ∨ c = 113 ∨ c = 114 ∨ c = 115 ∨ c = 116 := by omega
      rcases h with rfl | rfl | rfl | rfl | rfl | rfl | rfl | rfl | rfl | rfl | rfl | rfl <;>
        simp +contextual -dsimp (disch := omega) only [↓goDown, goUp, cr, simprocAttr, uh1, ugi, Int.cast_ofNat_Int, hname] <;> rfl
end Go.Proofs.YthidcpkcfoldmaaGreat.Pi.Q
namespace Go.Proofs.YthidcpkcfoldmaaGreat.Pi.Q
open Go Go.Proofs.YthidcpkcfoldmaaGreat.Pi
attribute [local congr] ite_congr
theorem uio {H : Heap} {b : List UInt8} {z : Bool} {c p : Nat} (hH : hget H c = some (curB z b p)) (hb : b.length < 2 ^ 61) (hp : p < b.length) :
    run (C u10 [.ptr c 0]) H = some (.ok (.int .u8 (b.getD p 0).toNat) H) := by
  rw [uwa hH hb]
  unfold rLook
  rw [if_pos hp]
  simp only [outC, u6v hH]
theorem uem {H : Heap} {b : List UInt8} {z : Bool} {c p : Nat} (hH : hget H c = some (curB z b p)) (hb : b.length < 2 ^ 61) (hp : ¬ p < b.length) :
    run (C u10 [.ptr c 0]) H = some (.pan (flt b.length 3) H) := by
  rw [uwa hH hb]
  unfold rLook
  rw [if_neg hp]
  simp only [outC, u6v hH]
def rHeap (b : List UInt8) (p : Nat) : Rs Int :=
  if p < b.length then
    if hname (b.getD p 0).toNat ≠ 0 then .ok (hname (b.getD p 0).toNat) (p + 1) else rS33 b p
  else .err b.length 3
theorem u7o {n a w : Nat} : (flt a w).low n = true := by simp [flt, uc3, ugz, u7p, u8n, u8o]
theorem uub {H : Heap} {b : List UInt8} {z : Bool} {c p : Nat} (hH : hget H c = some (curB z b p)) (hb : b.length < 2 ^ 61) (hp : p ≤ b.length) :
    ∃ q, run (C u2b [.ptr c 0]) H = outC z b c H q (fun x : Int => .int .i64 x) (rHeap b p) := by
  have hid := get_lt hH
  have hset := u6v hH
  rw [uaf]
  unfold rHeap
  by_cases h1 : p < b.length
  · have hl := uio hH hb h1
    have hc := byt_lt (b.getD p 0)
    rw [if_pos h1]
    generalize (b.getD p 0).toNat = x at hl hc ⊢
    have hn := upr (H := H) hc
    by_cases h2 : hname x = 0
    · obtain ⟨q, hs⟩ := s33_is hH hb hp
      refine ⟨q, ?_⟩
      rw [if_neg (by simpa using h2)]
      cases hr : rS33 b p with
      | ok v q' =>
        rw [hr] at hs
        simp only [outC] at hs ⊢
        simp +contextual -dsimp (disch := omega) only [↓goDown, goUp, cr, simprocAttr, hl, hn, h2, hs]
      | err a w =>
        rw [hr] at hs
        simp only [outC] at hs ⊢
        simp +contextual -dsimp (disch := omega) only [↓goDown, goUp, cr, simprocAttr, hl, hn, h2, hs, u7o]
    · refine ⟨p, ?_⟩
      rw [if_pos (by simpa using h2)]
      simp only [outC]
      unfold curB at hH ⊢
      simp +contextual -dsimp (disch := omega) only [↓goDown, goUp, cr, simprocAttr, hl, hn, h2, hH]
      rfl
  · refine ⟨p, ?_⟩
    have hl := uem hH hb h1
    rw [if_neg h1]
    simp only [outC, hset]
    simp +contextual -dsimp (disch := omega) only [↓goDown, goUp, cr, simprocAttr, hl, u7o]
structure VT where
  num : Int
  nul : Bool
  heap : Int
  deriving DecidableEq
def encV (v : VT) : PV := .agg [.int .i64 v.num, .bool v.nul, .int .i64 v.heap]
def rRef (b : List UInt8) (p : Nat) : Rs VT :=
  if p < b.length then
    let x := (b.getD p 0).toNat
    if hname x ≠ 0 then .ok ⟨5, true, hname x⟩ (p + 1)
    else if x ≠ 99 ∧ x ≠ 100 then .err p 4
    else match rHeap b (p + 1) with
      | .ok h q => .ok ⟨5, x == 99, h⟩ q
      | .err a w => .err a w
  else .err b.length 3
theorem ns (p : Nat) : ((p + 1 : Nat) : Int) = (p : Int) + 1 := rfl
theorem ref_is {H : Heap} {b : List UInt8} {z : Bool} {c p : Nat} (hH : hget H c = some (curB z b p)) (hb : b.length < 2 ^ 61) (hp : p ≤ b.length) :
    ∃ q, run (C u50 [.ptr c 0]) H = outC z b c H q encV (rRef b p) := by
  have hid := get_lt hH
  have hset := u6v hH
  rw [uax]
  unfold rRef
  have hH1 : ∀ L, hget (hadd H L) c = some (curB z b p) := fun L => by rw [ud1 hid]; exact hH
  by_cases h1 : p < b.length
  · have hl := fun L => uio (hH1 L) hb h1
    have hc := byt_lt (b.getD p 0)
    rw [if_pos h1]
    generalize (b.getD p 0).toNat = x at hl hc ⊢
    have hn := fun L => upr (H := hadd H L) hc
    by_cases h2 : hname x = 0
    · simp only [h2, ne_eq, not_true_eq_false, if_false]
      by_cases h3 : ¬ x = 99 ∧ ¬ x = 100
      · refine ⟨p, ?_⟩
        rw [if_pos h3]
        have c1 : ¬ (x : Int) = 99 := by omega
        have c2 : ¬ (x : Int) = 100 := by omega
        simp only [outC, hset]
        unfold curB at hH
        simp +contextual -dsimp (disch := omega) only [↓goDown, goUp, cr, simprocAttr, hl, hn, h2, hH, c1, c2, ud6]
        rfl
      · rw [if_neg h3]
        have hH2 : ∀ L, hget (hadd (Pi.hset H c (curB z b (p + 1))) L) c = some (curB z b (p + 1)) := fun L => by
          rw [ubp hid, ujg hid]
        obtain ⟨q, hk⟩ := uub (hH2 [.cells [.int .i64 0, .bool false, .int .i64 0]]) hb (by omega)
        refine ⟨q, ?_⟩
        have so : ∀ u L, Pi.hset (hadd (Pi.hset H c (curB z b (p + 1))) L) c (curB z b u) = hadd (Pi.hset H c (curB z b u)) L := fun u L => by
          rw [uei hid, set_set]
        have fin : ∀ (t : Bool), ((x : Int) == 99) = t → (((x : Int) = 99) = (t = true)) → ((x == 99) = t) → (((x : Int) = 99) ∨ ((x : Int) = 100)) →
            truncR H (run (u31 (.ptr c 0) (.ptr H.length 0) (.int .u8 x)) (hadd H [.cells [.int .i64 0, .bool false, .int .i64 0]])) = outC z b c H q encV (match rHeap b (p + 1) with | .ok h q => .ok ⟨5, x == 99, h⟩ q | .err a w => .err a w) := by
          intro t ht ht2 ht3 ho
          rw [ht3]
          cases hr : rHeap b (p + 1) with
          | ok v q' =>
            rw [hr] at hk
            simp only [outC, so] at hk ⊢
            unfold curB at hH hk ⊢
            simp only [ns] at hk
            simp +contextual -dsimp (disch := omega) only [↓goDown, goUp, cr, simprocAttr, hH, hk, u5p, ht]
            rfl
          | err a w =>
            rw [hr] at hk
            simp only [outC, so] at hk ⊢
            unfold curB at hH hk ⊢
            simp only [ns] at hk
            simp +contextual -dsimp (disch := omega) only [↓goDown, goUp, cr, simprocAttr, hH, hk, u5p, ht, u7o]
        by_cases c1 : x = 99
        · have e1 : ((x : Int) = 99) = True := eq_true (by omega)
          have e2 : ((x : Int) == 99) = true := by simpa using e1
          have e3 : (x == 99) = true := by simpa using c1
          refine Eq.trans ?_ (fin true e2 (by simp [e1]) e3 (.inl (by omega)))
          simp +contextual -dsimp (disch := omega) only [↓goDown, goUp, cr, simprocAttr, hl, hn, h2, e1]
        · have e1 : ((x : Int) = 99) = False := eq_false (by omega)
          have e2 : ((x : Int) == 99) = false := by simpa using e1
          have e3 : (x == 99) = false := by simpa using c1
          have e4 : ((x : Int) = 100) = True := eq_true (by omega)
          refine Eq.trans ?_ (fin false e2 (by simp [e1]) e3 (.inr (by omega)))
          simp +contextual -dsimp (disch := omega) only [↓goDown, goUp, cr, simprocAttr, hl, hn, h2, e1, e4]
    · refine ⟨p, ?_⟩
      rw [if_pos (by simpa using h2)]
      simp only [outC]
      unfold curB at hH ⊢
      simp +contextual -dsimp (disch := omega) only [↓goDown, goUp, cr, simprocAttr, hl, hn, h2, hH, ns]
      rfl
  · refine ⟨p, ?_⟩
    have hl := fun L => uem (hH1 L) hb h1
    rw [if_neg h1]
    simp only [outC, hset]
    simp +contextual -dsimp (disch := omega) only [↓goDown, goUp, cr, simprocAttr, hl, u7o]
end Go.Proofs.YthidcpkcfoldmaaGreat.Pi.Q
namespace Go.Proofs.YthidcpkcfoldmaaGreat.Pi.Q
open Go Go.Proofs.YthidcpkcfoldmaaGreat.Pi
attribute [local congr] ite_congr
theorem uv3 {b : List UInt8} {p q : Nat} {v : Int} (h : rS33 b p = .ok v q) : q ≤ b.length ∧ 0 ≤ v ∧ v ≤ 2147483647 := by
  unfold rS33 at h
  cases hr : rdS b 33 b.length p with
  | ok n q' =>
    rw [hr] at h
    dsimp only at h
    have := rdS_lt hr
    split at h
    · cases h
    · split at h
      · cases h
      · simp only [Rs.ok.injEq] at h
        obtain ⟨rfl, rfl⟩ := h
        omega
  | err a w => rw [hr] at h; cases h
theorem uxr (c : Nat) : -12 ≤ hname c ∧ hname c ≤ 0 := by
  unfold hname
  repeat' (split; omega)
  omega
theorem uog {b : List UInt8} {p q : Nat} {v : Int} (h : rHeap b p = .ok v q) : q ≤ b.length ∧ -12 ≤ v ∧ v ≤ 2147483647 := by
  unfold rHeap at h
  split at h
  · split at h
    · simp only [Rs.ok.injEq] at h
      obtain ⟨rfl, rfl⟩ := h
      have := uxr (b.getD p 0).toNat
      omega
    · have := uv3 h; omega
  · cases h
theorem v00h {b : List UInt8} {p q : Nat} {v : VT} (h : rRef b p = .ok v q) : q ≤ b.length := by
  unfold rRef at h
  split at h
  · dsimp only at h
    split at h
    · simp only [Rs.ok.injEq] at h; omega
    · split at h
      · cases h
      · cases hr : rHeap b (p + 1) with
        | ok n q' => rw [hr] at h; simp only [Rs.ok.injEq] at h; have := uog hr; omega
        | err a w => rw [hr] at h; cases h
  · cases h
theorem uno {v : VT} : strip (encV v) = encV v := nrfl rfl
theorem uwi {v : VT} : stripC (encV v) = encV v := nrfl rfl
theorem umx {v : VT} : isTup (encV v) = false := nrfl rfl
theorem un5 {v : VT} : (encV v).cells = [.int .i64 v.num, .bool v.nul, .int .i64 v.heap] := nrfl rfl
theorem low_V {v : VT} {n : Nat} : (encV v).low n = true := by simp [encV, ugz, u7p, u8n, u8o, uc6]
def rVal (b : List UInt8) (p : Nat) : Rs VT :=
  if p < b.length then
    if (b.getD p 0).toNat = 123 then .err p 8
    else if 124 ≤ (b.getD p 0).toNat ∧ (b.getD p 0).toNat ≤ 127 then .ok ⟨128 - (b.getD p 0).toNat, false, 0⟩ (p + 1)
    else rRef b p
  else .err b.length 3
theorem uuw {b : List UInt8} {p q : Nat} {v : VT} (h : rVal b p = .ok v q) : q ≤ b.length := by
  unfold rVal at h
  split at h
  · split at h
    · cases h
    · split at h
      · simp only [Rs.ok.injEq] at h; omega
      · exact v00h h
  · cases h
theorem val_is {H : Heap} {b : List UInt8} {z : Bool} {c p : Nat} (hH : hget H c = some (curB z b p)) (hb : b.length < 2 ^ 61) (hp : p ≤ b.length) :
    ∃ q, run (C u1y [.ptr c 0]) H = outC z b c H q encV (rVal b p) := by
  have hid := get_lt hH
  have hset := u6v hH
  rw [ubn]
  unfold rVal
  have hH1 : ∀ L, hget (hadd H L) c = some (curB z b p) := fun L => by rw [ud1 hid]; exact hH
  by_cases h1 : p < b.length
  · have hl := fun L => uio (hH1 L) hb h1
    have hc := byt_lt (b.getD p 0)
    rw [if_pos h1]
    generalize (b.getD p 0).toNat = x at hl hc ⊢
    by_cases h2 : x = 123
    · refine ⟨p, ?_⟩
      rw [if_pos h2]
      have c1 : (x : Int) = 123 := by omega
      simp only [outC, hset]
      unfold curB at hH
      simp +contextual -dsimp (disch := omega) only [↓goDown, goUp, cr, simprocAttr, hl, eq_true c1, hH, ud6]
      rfl
    · rw [if_neg h2]
      have c1 : ¬ (x : Int) = 123 := by omega
      by_cases h3 : 124 ≤ x ∧ x ≤ 127
      · refine ⟨p, ?_⟩
        rw [if_pos h3]
        have c2 : (124 : Int) ≤ x := by omega
        have c3 : (x : Int) ≤ 127 := by omega
        simp only [outC]
        unfold curB at hH ⊢
        simp +contextual -dsimp (disch := omega) only [↓goDown, goUp, cr, simprocAttr, hl, c1, c2, c3, hH, ns]
        rfl
      · rw [if_neg h3]
        obtain ⟨q, hk⟩ := ref_is (hH1 [.cells [.int .i64 0, .bool false, .int .i64 0]]) hb hp
        refine ⟨q, ?_⟩
        have so : ∀ u L, Pi.hset (hadd H L) c (curB z b u) = hadd (Pi.hset H c (curB z b u)) L := fun u L => by rw [ufv hid]
        have e3 : ((124 : Int) ≤ x) = (124 ≤ x) := by rw [eq_iff_iff]; omega
        have e4 : ((x : Int) ≤ 127) = (x ≤ 127) := by rw [eq_iff_iff]; omega
        by_cases h4 : 124 ≤ x
        · have h5 : ¬ x ≤ 127 := fun h => h3 ⟨h4, h⟩
          cases hr : rRef b p <;> rw [hr] at hk <;> simp only [outC, so] at hk ⊢ <;>
            simp +contextual -dsimp (disch := omega) only [↓goDown, goUp, cr, simprocAttr, hl, c1, e3, e4, h4, h5, hk, u62, u7o, uno, umx, un5, low_V] <;> rfl
        · cases hr : rRef b p <;> rw [hr] at hk <;> simp only [outC, so] at hk ⊢ <;>
            simp +contextual -dsimp (disch := omega) only [↓goDown, goUp, cr, simprocAttr, hl, c1, e3, e4, h4, hk, u62, u7o, uno, umx, un5, low_V] <;> rfl
  · refine ⟨p, ?_⟩
    have hl := fun L => uem (hH1 L) hb h1
    rw [if_neg h1]
    simp only [outC, hset]
    simp +contextual -dsimp (disch := omega) only [↓goDown, goUp, cr, simprocAttr, hl, u7o]
def accP (sz : Nat) (l : List PV) : PV := match l with | [] => .slice false true 0 [] | l => .slice true false sz l
theorem ap_acc {H : Heap} {sz b : Nat} {l : List PV} {v : PV} {o : Bool} (h : (l.length + 1) * max b 1 ≤ 140737488355328) :
    run (ap true sz b (accP sz l) (.slice o false sz [v])) H = some (.ok (accP sz (l ++ [v])) H) := by
  cases l with
  | nil =>
    unfold accP run ap tail growB
    have h2 : max b 1 ≤ 140737488355328 := by simpa using h
    simp [h2, M.pure]
  | cons x r =>
    unfold accP run ap tail growB
    have h2 : ((x :: r).length + [v].length) * max b 1 ≤ 140737488355328 := by simpa using h
    simp only [beq_self_eq_true, Bool.or_true, cond_true, cond_false, Bool.true_and, decide_eq_true h2]
    rfl
theorem uh4 {sz : Nat} {l : List PV} : isTup (accP sz l) = false := by unfold accP; split <;> rfl
theorem ung {sz n : Nat} {l : List PV} : (accP sz l).low n = true := by unfold accP; split <;> simp [u6n]
theorem usm {sz : Nat} {l : List PV} : (accP sz l).cells = [accP sz l] := by unfold accP; split <;> rfl
theorem urn {sz : Nat} {l : List PV} : isCell (accP sz l) = true := by unfold accP; split <;> rfl
structure BK where
  ty : Int
  res : VT
  deriving DecidableEq
def encB (v : BK) : PV := .agg [.int .i64 v.ty, .int .i64 v.res.num, .bool v.res.nul, .int .i64 v.res.heap]
def rBlock (b : List UInt8) (p : Nat) : Rs BK :=
  if p < b.length then
    if (b.getD p 0).toNat = 64 then .ok ⟨-1, ⟨0, false, 0⟩⟩ (p + 1)
    else if 64 < (b.getD p 0).toNat ∧ (b.getD p 0).toNat < 128 then match rVal b p with
      | .ok v q => .ok ⟨-1, v⟩ q
      | .err a w => .err a w
    else match rS33 b p with
      | .ok v q => .ok ⟨v, ⟨0, false, 0⟩⟩ q
      | .err a w => .err a w
  else .err b.length 3
theorem uxa {H : Heap} {b : List UInt8} {z : Bool} {c p : Nat} (hH : hget H c = some (curB z b p)) (hb : b.length < 2 ^ 61) (hp : p ≤ b.length) :
    ∃ q, run (C u2y [.ptr c 0]) H = outC z b c H q encB (rBlock b p) := by
  have hid := get_lt hH
  have hset := u6v hH
  rw [u9k]
  unfold rBlock
  have hH1 : ∀ L, hget (hadd H L) c = some (curB z b p) := fun L => by rw [ud1 hid]; exact hH
  have so : ∀ u L, Pi.hset (hadd H L) c (curB z b u) = hadd (Pi.hset H c (curB z b u)) L := fun u L => by rw [ufv hid]
  by_cases h1 : p < b.length
  · have hl := fun L => uio (hH1 L) hb h1
    have hc := byt_lt (b.getD p 0)
    rw [if_pos h1]
    generalize (b.getD p 0).toNat = x at hl hc ⊢
    by_cases h2 : x = 64
    · refine ⟨p, ?_⟩
      rw [if_pos h2]
      have c1 : (x : Int) = 64 := by omega
      simp only [outC]
      unfold curB at hH ⊢
      simp +contextual -dsimp (disch := omega) only [↓goDown, goUp, cr, simprocAttr, hl, eq_true c1, hH, ns]
      rfl
    · rw [if_neg h2]
      have c1 : ¬ (x : Int) = 64 := by omega
      have e3 : ((64 : Int) < x) = (64 < x) := by rw [eq_iff_iff]; omega
      have e4 : ((x : Int) < 128) = (x < 128) := by rw [eq_iff_iff]; omega
      by_cases h3 : 64 < x ∧ x < 128
      · rw [if_pos h3]
        obtain ⟨q, hk⟩ := val_is (hH1 [.cells [.int .i64 0, .int .i64 0, .bool false, .int .i64 0]]) hb hp
        refine ⟨q, ?_⟩
        cases hr : rVal b p <;> rw [hr] at hk <;> simp only [outC, so] at hk ⊢ <;>
          simp +contextual -dsimp (disch := omega) only [↓goDown, goUp, cr, simprocAttr, hl, c1, e3, e4, h3.1, h3.2, hk, u7o, uno, uwi, umx, un5, low_V] <;> rfl
      · rw [if_neg h3]
        obtain ⟨q, hk⟩ := s33_is (hH1 [.cells [.int .i64 0, .int .i64 0, .bool false, .int .i64 0]]) hb hp
        refine ⟨q, ?_⟩
        by_cases h4 : 64 < x
        · have h5 : ¬ x < 128 := fun h => h3 ⟨h4, h⟩
          cases hr : rS33 b p <;> rw [hr] at hk <;> simp only [outC, so] at hk ⊢ <;>
            simp +contextual -dsimp (disch := omega) only [↓goDown, goUp, cr, simprocAttr, hl, c1, e3, e4, h4, h5, hk, u7o] <;> rfl
        · cases hr : rS33 b p <;> rw [hr] at hk <;> simp only [outC, so] at hk ⊢ <;>
            simp +contextual -dsimp (disch := omega) only [↓goDown, goUp, cr, simprocAttr, hl, c1, e3, e4, h4, hk, u7o] <;> rfl
  · refine ⟨p, ?_⟩
    have hl := fun L => uem (hH1 L) hb h1
    rw [if_neg h1]
    simp only [outC, hset]
    simp +contextual -dsimp (disch := omega) only [↓goDown, goUp, cr, simprocAttr, hl, u7o]
end Go.Proofs.YthidcpkcfoldmaaGreat.Pi.Q
namespace Go.Proofs.YthidcpkcfoldmaaGreat.Pi.Q
open Go Go.Proofs.YthidcpkcfoldmaaGreat.Pi
attribute [local congr] ite_congr
theorem run_ta {H : Heap} {t : TypeId} {zv v : PV} : run (ta t zv false (.iface t v)) H = some (.ok v H) := by
  unfold run ta
  simp [M.pure]
theorem run_mf {H : Heap} {f : FuncId} {a b : List PV} : run (mf f a b) H = if (a.all isVal && b.all isVal) = true then some (.ok (.fn f (a.map stripC) (b.map stripC)) H) else none := by
  unfold run mf
  cases (a.all isVal && b.all isVal) <;> rfl
theorem bi_if {a : PV} {t : TypeId} {H : Heap} : run (bi .neq .iface (.iface t a) .niliface) H = some (.ok (.bool true) H) := nrfl rfl
theorem bi_ifn {H : Heap} : run (bi .neq .iface .niliface .niliface) H = some (.ok (.bool false) H) := nrfl rfl
theorem cutL {H : Heap} {L : List Box} (k : Nat) : hcut (hadd H L) (H.length + k) = hadd H (L.take k) := by unfold hcut hadd; rw [List.take_append, List.take_of_length_le (by omega), Nat.add_sub_cancel_left]
theorem ufr {n k : Nat} : (n + (k + 1) == n) = false := by simp
def outR {α : Type} (enc : α → PV) (zero : PV) : Rs α → PV
  | .ok v p => .tup [enc v, .int .i64 p, .int .i64 0]
  | .err p e => .tup [zero, .int .i64 p, .int .i64 e]
def atPl (at_ : Int) (b : List UInt8) (zero r : PV) : PV := if at_ < 0 ∨ b.length < at_ then .tup [zero, .int .i64 0, .int .i64 1] else r
theorem unx {b : List UInt8} {z : Bool} (hb : b.length < 2 ^ 61) {one : PV} {r : Nat → Rs Int}
    (hone : ∀ H c p, hget H c = some (curB z b p) → p ≤ b.length → ∃ q, run (callV P C (strip one) [.ptr c 0]) H = outC z b c H q (fun x : Int => .int .i64 x) (r p)) {H : Heap} {at_ : Int} :
    run (C u66 [BS z b, .int .i64 at_, one]) H = some (.ok (atPl at_ b (.int .i64 0) (outR (fun x : Int => .int .i64 x) (.int .i64 0) (r at_.toNat))) H) := by
  rw [udc]
  unfold atPl
  by_cases h1 : at_ < 0
  · rw [if_pos (.inl h1)]
    simp +contextual -dsimp (disch := omega) only [↓goDown, goUp, cr, simprocAttr, eq_true h1]
  · by_cases h2 : (b.length : Int) < at_
    · rw [if_pos (.inr h2)]
      simp +contextual -dsimp (disch := omega) only [↓goDown, goUp, cr, simprocAttr, h1, h2, List.length_map]
    · rw [if_neg (by omega)]
      obtain ⟨p, rfl⟩ := Int.eq_ofNat_of_zero_le (show 0 ≤ at_ by omega)
      rw [Int.toNat_natCast]
      obtain ⟨q, hk⟩ := hone (hadd H [.cells [.int .i64 0], .cells [.int .i64 0], .cells [.int .i64 0], .cells [.int .i64 0], curB z b p]) (H.length + 4) p (by rw [ubi]; rfl) (by omega)
      cases hr : r p <;> rw [hr] at hk <;> simp only [outC, outR, ub3] at hk ⊢ <;> unfold curB at hk <;>
        simp +contextual -dsimp (disch := omega) only [↓goDown, goUp, cr, simprocAttr, h1, h2, List.length_map, run_mf, hk, flt, uaj, uaa, run_ta, bi_if, bi_ifn, cutL, ufr, Nat.reduceBeqDiff]
-- generated
theorem uvs {b : List UInt8} {z : Bool} (hb : b.length < 2 ^ 61) {one : PV} {r : Nat → Rs VT}
    (hone : ∀ H c p, hget H c = some (curB z b p) → p ≤ b.length → ∃ q, run (callV P C (strip one) [.ptr c 0]) H = outC z b c H q encV (r p)) {H : Heap} {at_ : Int} :
    run (C u2n [BS z b, .int .i64 at_, one]) H = some (.ok (atPl at_ b (encV ⟨0, false, 0⟩) (outR encV (encV ⟨0, false, 0⟩) (r at_.toNat))) H) := by
  rw [u88]
  unfold atPl
  by_cases h1 : at_ < 0
  · rw [if_pos (.inl h1)]
    simp +contextual -dsimp (disch := omega) only [↓goDown, goUp, cr, simprocAttr, eq_true h1, encV]
  · by_cases h2 : (b.length : Int) < at_
    · rw [if_pos (.inr h2)]
      simp +contextual -dsimp (disch := omega) only [↓goDown, goUp, cr, simprocAttr, h1, h2, List.length_map, encV]
    · rw [if_neg (by omega)]
      obtain ⟨p, rfl⟩ := Int.eq_ofNat_of_zero_le (show 0 ≤ at_ by omega)
      rw [Int.toNat_natCast]
      obtain ⟨q, hk⟩ := hone (hadd H [.cells [.int .i64 0, .bool false, .int .i64 0], .cells [.int .i64 0], .cells [.int .i64 0], .cells [.int .i64 0, .bool false, .int .i64 0], curB z b p]) (H.length + 4) p (by rw [ubi]; rfl) (by omega)
      cases hr : r p <;> rw [hr] at hk <;> simp only [outC, outR, ub3] at hk ⊢ <;> unfold curB at hk <;>
        simp +contextual -dsimp (disch := omega) only [↓goDown, goUp, cr, simprocAttr, h1, h2, List.length_map, run_mf, hk, flt, u79, u7d, run_ta, bi_if, bi_ifn, cutL, ufr, Nat.reduceBeqDiff, encV]
theorem uvk {b : List UInt8} {z : Bool} (hb : b.length < 2 ^ 61) {one : PV} {r : Nat → Rs BK}
    (hone : ∀ H c p, hget H c = some (curB z b p) → p ≤ b.length → ∃ q, run (callV P C (strip one) [.ptr c 0]) H = outC z b c H q encB (r p)) {H : Heap} {at_ : Int} :
    run (C u3a [BS z b, .int .i64 at_, one]) H = some (.ok (atPl at_ b (encB ⟨0, ⟨0, false, 0⟩⟩) (outR encB (encB ⟨0, ⟨0, false, 0⟩⟩) (r at_.toNat))) H) := by
  rw [u91]
  unfold atPl
  by_cases h1 : at_ < 0
  · rw [if_pos (.inl h1)]
    simp +contextual -dsimp (disch := omega) only [↓goDown, goUp, cr, simprocAttr, eq_true h1, encB]
  · by_cases h2 : (b.length : Int) < at_
    · rw [if_pos (.inr h2)]
      simp +contextual -dsimp (disch := omega) only [↓goDown, goUp, cr, simprocAttr, h1, h2, List.length_map, encB]
    · rw [if_neg (by omega)]
      obtain ⟨p, rfl⟩ := Int.eq_ofNat_of_zero_le (show 0 ≤ at_ by omega)
      rw [Int.toNat_natCast]
      obtain ⟨q, hk⟩ := hone (hadd H [.cells [.int .i64 0, .int .i64 0, .bool false, .int .i64 0], .cells [.int .i64 0], .cells [.int .i64 0], .cells [.int .i64 0, .int .i64 0, .bool false, .int .i64 0], curB z b p]) (H.length + 4) p (by rw [ubi]; rfl) (by omega)
      cases hr : r p <;> rw [hr] at hk <;> simp only [outC, outR, ub3] at hk ⊢ <;> unfold curB at hk <;>
        simp +contextual -dsimp (disch := omega) only [↓goDown, goUp, cr, simprocAttr, h1, h2, List.length_map, run_mf, hk, flt, u7q, u7r, run_ta, bi_if, bi_ifn, cutL, ufr, Nat.reduceBeqDiff, encB]
end Go.Proofs.YthidcpkcfoldmaaGreat.Pi.Q
namespace Go.Proofs.YthidcpkcfoldmaaGreat.Pi.Q
open Go Go.Proofs.YthidcpkcfoldmaaGreat.Pi
attribute [local congr] ite_congr
theorem ucr {at_ : Int} {b : List UInt8} {α : Type} {enc : α → PV} {zero : PV} {r : Rs α} (P : PV → Prop) (h1 : P (.tup [zero, .int .i64 0, .int .i64 1])) (h2 : ∀ v p, r = .ok v p → P (.tup [enc v, .int .i64 (p : Nat), .int .i64 0])) (h3 : ∀ a w, r = .err a w → P (.tup [zero, .int .i64 (a : Nat), .int .i64 (w : Nat)])) : P (atPl at_ b zero (outR enc zero r)) := by
  unfold atPl
  split
  · exact h1
  · cases hr : r with
    | ok v p => exact h2 v p hr
    | err a w => exact h3 a w hr
theorem un4 {H : Heap} {b : List UInt8} {z : Bool} (hb : b.length < 2 ^ 61) {at_ : Int} :
    run (C u2i [BS z b, .int .i64 at_]) H = some (.ok (atPl at_ b (encV ⟨0, false, 0⟩) (outR encV (encV ⟨0, false, 0⟩) (rVal b at_.toNat))) H) := by
  have h := fun L => uvs (z := z) hb (one := .fn u1y [] []) (r := rVal b) (fun H c p hH hp => val_is hH hb hp) (H := hadd H L) (at_ := at_)
  rw [ue4]
  revert h
  refine ucr (fun t => (∀ L, run (C u2n [BS z b, .int .i64 at_, .fn u1y [] []]) (hadd H L) = some (.ok t (hadd H L))) → _ = some (Out.ok t H)) ?_ ?_ ?_ <;> intros <;> rename_i h <;> unfold encV at h ⊢ <;>
    simp +contextual -dsimp (disch := omega) only [↓goDown, goUp, cr, simprocAttr, h]
theorem ujp {H : Heap} {b : List UInt8} {z : Bool} (hb : b.length < 2 ^ 61) {at_ : Int} :
    run (C u4i [BS z b, .int .i64 at_]) H = some (.ok (atPl at_ b (encB ⟨0, ⟨0, false, 0⟩⟩) (outR encB (encB ⟨0, ⟨0, false, 0⟩⟩) (rBlock b at_.toNat))) H) := by
  have h := fun L => uvk (z := z) hb (one := .fn u2y [] []) (r := rBlock b) (fun H c p hH hp => uxa hH hb hp) (H := hadd H L) (at_ := at_)
  rw [ucb]
  revert h
  refine ucr (fun t => (∀ L, run (C u3a [BS z b, .int .i64 at_, .fn u2y [] []]) (hadd H L) = some (.ok t (hadd H L))) → _ = some (Out.ok t H)) ?_ ?_ ?_ <;> intros <;> rename_i h <;> unfold encB at h ⊢ <;>
    simp +contextual -dsimp (disch := omega) only [↓goDown, goUp, cr, simprocAttr, h]
theorem ukq {H : Heap} {b : List UInt8} {z : Bool} (hb : b.length < 2 ^ 61) {at_ : Int} :
    run (C u4s [BS z b, .int .i64 at_]) H = some (.ok (atPl at_ b (.int .i64 0) (outR (fun x : Int => .int .i64 x) (.int .i64 0) (rHeap b at_.toNat))) H) := by
  have h := unx (z := z) hb (one := .fn u2b [] []) (r := rHeap b) (fun H c p hH hp => uub hH hb hp) (H := H) (at_ := at_)
  rw [ud3]
  revert h
  refine ucr (fun t => (run (C u66 [BS z b, .int .i64 at_, .fn u2b [] []]) H = some (.ok t H)) → _ = some (Out.ok t H)) ?_ ?_ ?_ <;> intros <;> rename_i h <;>
    simp +contextual -dsimp (disch := omega) only [↓goDown, goUp, cr, simprocAttr, h]
end Go.Proofs.YthidcpkcfoldmaaGreat.Pi.Q
namespace Go.Proofs.YthidcpkcfoldmaaGreat.Pi.Q
open Go Go.Proofs.YthidcpkcfoldmaaGreat.Pi
attribute [local congr] ite_congr
theorem u2u {H : Heap} {k : IntKind} {n : Int} : run (bi .neq .none (.int k n) (.int k n)) H = some (.ok (.bool false) H) := by
  unfold run
  rw [bi_neq, bne_self_eq_false]
  rfl
end Go.Proofs.YthidcpkcfoldmaaGreat.Pi.Q
namespace Go.Proofs.YthidcpkcfoldmaaGreat.Pi.Q
open Go Go.Proofs.YthidcpkcfoldmaaGreat.Pi
attribute [local congr] ite_congr
structure FT where
  ty : VT
  mu : Bool
  deriving DecidableEq
end Go.Proofs.YthidcpkcfoldmaaGreat.Pi.Q
namespace Go.Proofs.YthidcpkcfoldmaaGreat.Pi.Q
open Go Go.Proofs.YthidcpkcfoldmaaGreat.Pi
attribute [local congr] ite_congr
def shutP (sz : Nat) (l : List PV) : PV := match l with | [] => .slice false true 0 [] | l => .slice false false sz l
theorem uzt {sz : Nat} {l : List PV} : isTup (shutP sz l) = false := by cases l <;> rfl
theorem uxo {sz : Nat} {l : List PV} : isCell (shutP sz l) = true := by cases l <;> rfl
theorem v000 {sz : Nat} {l : List PV} : (shutP sz l).cells = [shutP sz l] := by cases l <;> rfl
theorem low_P {sz : Nat} {l : List PV} {n : Nat} : (shutP sz l).low n = true := by cases l <;> simp [shutP, u6n]
theorem uza {sz : Nat} {l : List PV} : strip (shutP sz l) = shutP sz l := by cases l <;> rfl
theorem uyf {sz : Nat} {l : List PV} : stripC (shutP sz l) = shutP sz l := by cases l <;> rfl
theorem stripC_acc {sz : Nat} {l : List PV} : stripC (accP sz l) = shutP sz l := by cases l <;> rfl
structure CT where
  kind : Int
  ps : List VT
  rs : List VT
  fs : List FT
  deriving DecidableEq
structure ST where
  fin : Bool
  sup : List Int
  comp : CT
  deriving DecidableEq
end Go.Proofs.YthidcpkcfoldmaaGreat.Pi.Q
namespace Go.Proofs.YthidcpkcfoldmaaGreat.Pi.Q
open Go Go.Proofs.YthidcpkcfoldmaaGreat.Pi
attribute [local congr] ite_congr
structure RT where
  types : List ST
  exp : Bool
  deriving DecidableEq
end Go.Proofs.YthidcpkcfoldmaaGreat.Pi.Q
namespace Go.Proofs.YthidcpkcfoldmaaGreat.Pi.Q
open Go Go.Proofs.YthidcpkcfoldmaaGreat.Pi
attribute [local congr] ite_congr
theorem u37 {H : Heap} {k : IntKind} {n : Int} : run (bi .eql .none (.int k n) (.int k n)) H = some (.ok (.bool true) H) := by
  unfold run
  rw [bi_eql, beq_self_eq_true]
  rfl
theorem u2l {H : Heap} {t : Bool} : run (bi .neq .bool (.bool t) (.bool t)) H = some (.ok (.bool false) H) := by cases t <;> rfl
end Go.Proofs.YthidcpkcfoldmaaGreat.Pi.Q
namespace Go.Proofs.YthidcpkcfoldmaaGreat.Pi
open Go.ChangeShapes Go.WideShapes
def litPV : Lit → PV
  | .int k n => .int k n
  | .bool b => .bool b
  | .string s => .str ⟨s.toArray⟩
  | _ => .undef
def wrapE (P : Program) (e : TypeId) (cs : List PV) : PV :=
  match tagg P e with
  | some _ => .agg cs
  | none => cs.headD .undef
mutual
def toldD {H : Type} (P : Program) : TypeId → DataW H → List PV
  | t, .lit l => [litPV l]
  | t, .nil => match P.underlying t with
    | some (.slice e) => [.slice false true 0 []]
    | _ => [.nil]
  | t, .slice elems _ => match P.underlying t with
    | some (.slice e) => [.slice false false (P.cellsOf e) (toldE P e elems)]
    | _ => []
  | t, .agg parts => match P.underlying t with
    | some (.struct fs) => toldF P fs.toList parts
    | _ => []
  | _, _ => []
def toldE {H : Type} (P : Program) (e : TypeId) : List (DataW H) → List PV
  | [] => []
  | d :: r => wrapE P e (toldD P e d) :: toldE P e r
def toldF {H : Type} (P : Program) : List Field → List (DataW H) → List PV
  | f :: fs, d :: r => toldD P f.type d ++ toldF P fs r
  | _, _ => []
end
def laidF (P : Program) : Nat → List Field → Option Nat
  | o, [] => some o
  | o, f :: r => bif f.offset == o then laidF P (o + P.cellsOf f.type) r else none
def plainT (P : Program) (T : List TypeId) (t : TypeId) : Bool :=
  match P.underlying t with
  | some .bool | some (.int _) | some .string => P.cellsOf t == 1 && (tagg P t).isNone
  | some (.slice e) => T.contains e && (decide (0 < P.cellsOf e) && (P.cellsOf t == 1 && (tagg P t).isNone))
  | some (.struct fs) => fs.toList.all (fun f => T.contains f.type) && (laidF P 0 fs.toList == some (P.cellsOf t) && (tagg P t).isSome)
  | _ => false
theorem urs {P : Program} {T : List TypeId} {e : TypeId} (he : plainT P T e = true) {cs : List PV} (hl : cs.length = P.cellsOf e) (hc : ∀ (j : Nat) (c : PV), cs[j]? = some c → isCell c = true) : (wrapE P e cs).cells = cs := by
  have one : P.cellsOf e = 1 → (tagg P e).isNone = true → (wrapE P e cs).cells = cs := fun h1 h2 => by
    obtain ⟨c, rfl⟩ : ∃ c, cs = [c] := by
      cases cs with
      | nil => simp at hl; omega
      | cons c r =>
        cases r with
        | nil => exact ⟨c, rfl⟩
        | cons d r => simp at hl; omega
    have hcell := hc 0 c rfl
    unfold wrapE
    cases ht : tagg P e with
    | some _ => rw [ht] at h2; cases h2
    | none =>
      simp only [List.headD_cons]
      cases c <;> first | rfl | cases hcell
  unfold plainT at he
  split at he
  · simp only [Bool.and_eq_true, beq_iff_eq] at he; exact one he.1 he.2
  · simp only [Bool.and_eq_true, beq_iff_eq] at he; exact one he.1 he.2
  · simp only [Bool.and_eq_true, beq_iff_eq] at he; exact one he.1 he.2
  · simp only [Bool.and_eq_true, beq_iff_eq] at he; exact one he.2.2.1 he.2.2.2
  · simp only [Bool.and_eq_true, beq_iff_eq] at he
    unfold wrapE
    cases ht : tagg P e with
    | some _ => rfl
    | none => rw [ht] at he; cases he.2.2
  · cases he
def ToldOk (W : World) (cs : List Value) (ps : List PV) : Prop :=
  ps.length = cs.length ∧ ∀ (j : Nat) (c : PV), ps[j]? = some c → isCell c = true ∧ ∀ v, cs[j]? = some v → RepF (imOf W) c v
theorem ToldOk.one {W : World} {c : PV} {v : Value} (h1 : isCell c = true) (h2 : RepF (imOf W) c v) : ToldOk W [v] [c] :=
  ⟨rfl, fun j d hd => by
    cases j with
    | zero => simp at hd; subst hd; exact ⟨h1, fun u hu => by simp at hu; subst hu; exact h2⟩
    | succ j => simp at hd⟩
variable {H : Type} {enc : TypeId × Value → H} {P : Program} {W : World} {base : Nat} {spare : Nat → Bool} {held : Bool} {T : List TypeId}
theorem uic {W : World} {a : Addr} {n : Nat} {l : List Value} (hn : 0 < n) (h : W.cells? base a n = some l) : a.spot = none := by
  unfold World.cells? at h
  split at h
  · have h0 := mapM_some_get h 0 0 (by simp [hn])
    have : a.add 0 = a := by simp [Addr.add]
    rw [this] at h0
    unfold World.cell? at h0
    cases hs : a.spot with
    | none => rfl
    | some x =>
      rw [hs] at h0
      have hl := mapM_some_length h
      have hlt : 0 < l.length := by rw [hl]; simpa using hn
      rw [List.getElem?_eq_getElem hlt] at h0
      split at h0 <;> simp at h0
  · cases h
theorem uue {W : World} {a : Addr} {n : Nat} {l : List Value} (h : W.cells? base a n = some l) (hs : a.spot = none) : l.length = n ∧ ∀ (j : Nat) (v : Value), l[j]? = some v → W.cell? ⟨a.block, a.off + j, none⟩ = some v := by
  unfold World.cells? at h
  split at h
  · refine ⟨by simpa using mapM_some_length h, fun j v hv => ?_⟩
    have hj : j < n := by
      have := (List.getElem?_eq_some_iff.mp hv).1
      have h2 := mapM_some_length h
      simp at h2
      omega
    have h0 := mapM_some_get h j j (by simp [hj])
    rw [hv] at h0
    have : a.add j = ⟨a.block, a.off + j, none⟩ := by
      obtain ⟨b, o, sp⟩ := a
      simp only at hs
      subst hs
      unfold Addr.add
      split <;> simp_all
    rw [this] at h0
    exact h0
  · cases h
theorem ulo {P : Program} {e : TypeId} : ∀ (l : List (DataW H)) (i : Nat), (toldE P e l)[i]? = l[i]?.map fun d => wrapE P e (toldD P e d)
  | [], i => by simp [toldE]
  | d :: r, 0 => by simp [toldE]
  | d :: r, i + 1 => by simpa [toldE] using ulo r i
theorem udj {P : Program} {e : TypeId} : ∀ (l : List (DataW H)), (toldE P e l).length = l.length
  | [] => rfl
  | d :: r => by simp [toldE, udj r]
theorem ToldOk.append {W : World} {cs ds : List Value} {ps qs : List PV} (h : ToldOk W cs ps) (k : ToldOk W ds qs) : ToldOk W (cs ++ ds) (ps ++ qs) := by
  refine ⟨by simp [h.1, k.1], fun j c hc => ?_⟩
  by_cases hj : j < ps.length
  · rw [List.getElem?_append_left hj] at hc
    obtain ⟨h1, h2⟩ := h.2 j c hc
    refine ⟨h1, fun v hv => h2 v ?_⟩
    rwa [List.getElem?_append_left (by rw [← h.1]; exact hj)] at hv
  · rw [List.getElem?_append_right (by omega)] at hc
    obtain ⟨h1, h2⟩ := k.2 _ c hc
    refine ⟨h1, fun v hv => h2 v ?_⟩
    rwa [List.getElem?_append_right (by rw [← h.1]; omega), ← h.1] at hv
theorem ufm (n : Nat) (ok : ∀ (t : TypeId) (cs : List Value) (x : DataW H × List MemPlace), T.contains t = true → DataW.trod enc P W base spare held n t cs = some x → cs.length = P.cellsOf t ∧ ToldOk W cs (toldD P t x.1)) (cs : List Value) :
    ∀ (fs : List Field) (o : Nat) (xs : List (DataW H × List MemPlace)), (∀ f ∈ fs, T.contains f.type = true) → laidF P o fs = some cs.length → xs.length = fs.length →
      (∀ (i : Nat) (f : Field), fs[i]? = some f → DataW.trod enc P W base spare held n f.type ((cs.drop f.offset).take (P.cellsOf f.type)) = xs[i]?) → o ≤ cs.length ∧ ToldOk W (cs.drop o) (toldF P fs (xs.map (·.1)))
  | [], o, xs, hT, hl, hx, h => by
    simp only [laidF, Option.some.injEq] at hl
    subst hl
    obtain rfl : xs = [] := List.eq_nil_of_length_eq_zero (by simpa using hx)
    exact ⟨Nat.le_refl _, by simp [toldF], by simp [toldF]⟩
  | f :: fs, o, xs, hT, hl, hx, h => by
    unfold laidF at hl
    cases ho : (f.offset == o) with
    | false => rw [ho] at hl; cases hl
    | true =>
      rw [ho] at hl
      simp only [cond_true] at hl
      obtain rfl : f.offset = o := by simpa using ho
      cases xs with
      | nil => simp at hx
      | cons y ys =>
        have h0 := h 0 f rfl
        simp only [List.getElem?_cons_zero] at h0
        obtain ⟨l1, l2⟩ := ok f.type _ y (hT f (by simp)) h0
        obtain ⟨k1, k2⟩ := ufm n ok cs fs _ ys (fun g hg => hT g (by simp [hg])) hl (by simpa using hx) (fun i g hg => by
          have := h (i + 1) g (by simpa using hg)
          simpa using this)
        refine ⟨by omega, ?_⟩
        have e1 : cs.drop f.offset = (cs.drop f.offset).take (P.cellsOf f.type) ++ cs.drop (f.offset + P.cellsOf f.type) := by
          rw [← List.drop_drop, List.take_append_drop]
        rw [e1]
        simp only [List.map_cons, toldF]
        exact l2.append k2
theorem told_ok (hT : T.all (plainT P T) = true) (hsp : ∀ b, spare b = true) : ∀ (n : Nat) (t : TypeId) (cs : List Value) (x : DataW H × List MemPlace), T.contains t = true → DataW.trod enc P W base spare held n t cs = some x → cs.length = P.cellsOf t ∧ ToldOk W cs (toldD P t x.1) := by
  intro n
  induction n with
  | zero => intro t cs x _ h; simp [DataW.trod] at h
  | succ n ih =>
  intro t cs x ht h
  have hp : plainT P T t = true := List.all_eq_true.mp hT t (by simpa using ht)
  have hp0 := hp
  unfold plainT at hp
  split at hp
  · rename_i hu
    simp only [Bool.and_eq_true, beq_iff_eq] at hp
    obtain ⟨b, rfl, rfl⟩ := DataW.trod_bool hu h
    refine ⟨by simp [hp.1], ?_⟩
    simp only [toldD, litPV]
    exact .one rfl (.bool b)
  · rename_i k hu
    simp only [Bool.and_eq_true, beq_iff_eq] at hp
    obtain ⟨m, rfl, rfl, _⟩ := DataW.trod_int hu h
    refine ⟨by simp [hp.1], ?_⟩
    simp only [toldD, litPV]
    exact .one rfl (.int k m)
  · rename_i hu
    simp only [Bool.and_eq_true, beq_iff_eq] at hp
    obtain ⟨s, rfl, rfl, _⟩ := DataW.trod_string hu h
    refine ⟨by simp [hp.1], ?_⟩
    simp only [toldD, litPV]
    have e : (⟨s.data.toList.toArray⟩ : ByteArray) = s := by rw [Array.toArray_toList]
    rw [e]
    exact .one rfl (.str s)
  · rename_i e hu
    simp only [Bool.and_eq_true, beq_iff_eq, decide_eq_true_eq] at hp
    obtain ⟨he, hz, h1, _⟩ := hp
    have hpe : plainT P T e = true := List.all_eq_true.mp hT e (by simpa using he)
    rcases DataW.trod_slice hu h with ⟨rfl, rfl⟩ | ⟨a, len, cap, elems, rest, m, hm, rfl, rfl, hb, hlc, hcm, hlen, hel, hre, hno⟩
    · refine ⟨by simp [h1], ?_⟩
      simp only [toldD, hu]
      exact .one rfl (.snil 0)
    · obtain rfl : m = n := by omega
      refine ⟨by simp [h1], ?_⟩
      simp only [toldD, hu]
      have each : ∀ (i : Nat) (y : DataW H × List MemPlace), elems[i]? = some y → ∃ l : List Value, W.cells? base (a.add (i * P.cellsOf e)) (P.cellsOf e) = some l ∧ l.length = P.cellsOf e ∧ ToldOk W l (toldD P e y.1) := by
        intro i y hy
        have hi : i < len := by
          have := (List.getElem?_eq_some_iff.mp hy).1
          omega
        have := hel i hi
        rw [hy, Option.bind_eq_some_iff] at this
        obtain ⟨l, hl, hd⟩ := this
        obtain ⟨q1, q2⟩ := ih e l y he hd
        exact ⟨l, hl, q1, q2⟩
      have spot : a.spot = none ∨ cap = 0 := by
        by_cases hc : cap = 0
        · exact .inr hc
        · left
          have add0 : a.add (0 * P.cellsOf e) = a := by simp [Addr.add]
          by_cases hl0 : len = 0
          · obtain ⟨r1, r2⟩ := hre (hsp _)
            have := r2 0 (by omega)
            have hlt : 0 < rest.length := by omega
            rw [List.getElem?_eq_getElem hlt, Option.bind_eq_some_iff] at this
            obtain ⟨l, hl, _⟩ := this
            rw [hl0] at hl
            rw [show (0 + 0) * P.cellsOf e = 0 * P.cellsOf e by simp, add0] at hl
            exact uic hz hl
          · have hlt : 0 < elems.length := by omega
            obtain ⟨l, hl, _⟩ := each 0 _ (List.getElem?_eq_getElem hlt)
            rw [add0] at hl
            exact uic hz hl
      obtain ⟨g, o, sp⟩ := a
      have hcap : cap = 0 → elems = [] := fun h => List.eq_nil_of_length_eq_zero (by omega)
      have hL : (toldE P e (elems.map (·.1))).length = len := by rw [udj, List.length_map, hlen]
      have hget : ∀ (i : Nat) (x : PV), (toldE P e (elems.map (·.1)))[i]? = some x → sp = none ∧ ∃ l : List Value, (∀ (j : Nat) (v : Value), l[j]? = some v → imOf W g (o + i * P.cellsOf e + j) = some v) ∧ l.length = P.cellsOf e ∧ x.cells.length = P.cellsOf e ∧ ∀ (j : Nat) (c : PV), x.cells[j]? = some c → ∀ v, l[j]? = some v → RepF (imOf W) c v := by
        intro i x hx
        rw [ulo, List.getElem?_map] at hx
        cases hy : elems[i]? with
        | none => rw [hy] at hx; simp at hx
        | some y =>
          rw [hy] at hx
          simp only [Option.map_some, Option.some.injEq] at hx
          have hsn : sp = none := by
            rcases spot with h | h
            · exact h
            · rw [hcap h] at hy; simp at hy
          subst hsn
          obtain ⟨l, hl, q1, q2⟩ := each i y hy
          have hadd : (⟨g, o, none⟩ : Addr).add (i * P.cellsOf e) = ⟨g, o + i * P.cellsOf e, none⟩ := by unfold Addr.add; split <;> simp_all
          rw [hadd] at hl
          obtain ⟨_, q3⟩ := uue hl rfl
          have hw := urs hpe (cs := toldD P e y.1) (by rw [q2.1, q1]) (fun j c hc => (q2.2 j c hc).1)
          rw [hx] at hw
          refine ⟨rfl, l, fun j v hv => q3 j v hv, q1, by rw [hw, q2.1, q1], fun j c hc v hv => ?_⟩
          rw [hw] at hc
          exact (q2.2 j c hc).2 v hv
      have hrep := RepF.slice (im := imOf W) (g := g) (o := o) (cap := cap) (sz := P.cellsOf e) (sp := sp) (xs := toldE P e (elems.map (·.1))) (fun i j => (imOf W g (o + i * P.cellsOf e + j)).getD .nilIface) spot (by omega)
        (fun i x hx => (hget i x hx).2.choose_spec.2.2.1)
        (fun i x j c hx hc => by
          obtain ⟨_, l, l1, l2, l3, l4⟩ := hget i x hx
          have hj : j < l.length := by
            have := (List.getElem?_eq_some_iff.mp hc).1
            omega
          rw [l1 j _ (List.getElem?_eq_getElem hj)]
          rfl)
        (fun i x j c hx hc => by
          obtain ⟨_, l, l1, l2, l3, l4⟩ := hget i x hx
          have hj : j < l.length := by
            have := (List.getElem?_eq_some_iff.mp hc).1
            omega
          rw [l1 j _ (List.getElem?_eq_getElem hj)]
          exact l4 j c hc _ (List.getElem?_eq_getElem hj))
      rw [hL] at hrep
      exact .one rfl hrep
  · rename_i fs hu
    simp only [Bool.and_eq_true, beq_iff_eq, List.all_eq_true] at hp
    obtain ⟨hTf, hlaid, _⟩ := hp
    obtain ⟨xs, m, hm, rfl, hcl, hxl, hx⟩ := DataW.trod_struct hu h
    obtain rfl : m = n := by omega
    refine ⟨hcl, ?_⟩
    simp only [toldD, hu]
    have := ufm (T := T) m (fun t cs x ht hk => ih t cs x ht hk) cs fs.toList 0 xs (fun f hf => hTf f hf) (by rw [hcl]; exact hlaid) (by simpa using hxl) (fun i f hf => hx i f (by simpa using hf))
    simpa using this.2
  · cases hp
end Go.Proofs.YthidcpkcfoldmaaGreat.Pi
namespace Go.Proofs.YthidcpkcfoldmaaGreat.Pi
def LZ (z : Bool) (sz : Nat) (l : List PV) : PV := match l with | [] => .slice false z (if z then 0 else sz) [] | l => .slice false false sz l
structure GL (α : Type) where
  z : Bool
  l : List α
  deriving DecidableEq
section
variable {z : Bool} {sz : Nat} {l : List PV} {H : Heap}
theorem u0y : isTup (LZ z sz l) = false := by cases l <;> rfl
theorem u08 : isCell (LZ z sz l) = true := by cases l <;> rfl
theorem u0e : (LZ z sz l).cells = [LZ z sz l] := by cases l <;> rfl
theorem low_Z {n : Nat} : (LZ z sz l).low n = true := by cases l <;> simp [LZ, u6n]
theorem strip_Z : strip (LZ z sz l) = LZ z sz l := by cases l <;> rfl
theorem u09 : stripC (LZ z sz l) = LZ z sz l := by cases l <;> rfl
theorem ln_Z : run (lnL (LZ z sz l)) H = some (.ok (.int .i64 l.length) H) := by cases l <;> rfl
theorem ia_Z {i : Nat} {x : PV} (h : l[i]? = some x) : run (iaS sz (LZ z sz l) (.int .i64 i)) H = some (.ok (.elem x.cells) H) := by
  cases l with
  | nil => simp at h
  | cons a r =>
    show run (iaS sz (.slice false false sz (a :: r)) (.int .i64 i)) H = _
    rw [ub0 (by omega), Int.toNat_natCast, h]
    rfl
end
theorem uvr {sz : Nat} {l : List PV} : Q.shutP sz l = LZ true sz l := by cases l <;> rfl
end Go.Proofs.YthidcpkcfoldmaaGreat.Pi
namespace Go.Proofs.YthidcpkcfoldmaaGreat.Pi
open Go.ChangeShapes Go.WideShapes
mutual
def bulk {H : Type} : DataW H → Nat
  | .lit (.string bytes) => bytes.length + 1
  | .lit _ => 1
  | .nil => 1
  | .ptr d => bulk d + 1
  | .slice elems spare => bulkL elems + bulkL spare + 1
  | .agg parts => bulkL parts + 1
  | _ => 1
def bulkL {H : Type} : List (DataW H) → Nat
  | [] => 0
  | d :: r => bulk d + bulkL r
end
section
variable {H : Type} {enc : TypeId × Value → H} {P : Program} {W : World} {base : Nat} {spare : Nat → Bool} {held : Bool} {A B : Type} {n : Nat} {t e : TypeId}
structure DecArgs (H : Type) where
  enc : TypeId × Value → H
  P : Program
  W : World
  base : Nat
  spare : Nat → Bool
  held : Bool
variable (G : DecArgs H)
def Dec (n : Nat) (t : TypeId) (cells : A → List PV) (ok : A → Prop) (ms : A → Nat) : Prop :=
  ∀ cs x, DataW.trod G.enc G.P G.W G.base G.spare G.held n t cs = some x → ∃ a, toldD G.P t x.1 = cells a ∧ ok a ∧ ms a ≤ bulk x.1
def DecF (n : Nat) (fs : List Field) (cells : A → List PV) (ok : A → Prop) (ms : A → Nat) : Prop :=
  ∀ (xs : List (DataW H × List MemPlace)), xs.length = fs.length → (∀ (i : Nat) (f : Field), fs[i]? = some f → ∃ cs, DataW.trod G.enc G.P G.W G.base G.spare G.held n f.type cs = xs[i]?) →
    ∃ a, toldF G.P fs (xs.map (·.1)) = cells a ∧ ok a ∧ ms a ≤ bulkL (xs.map (·.1))
variable {G}
theorem dec_int {k : IntKind} (hu : G.P.underlying t = some (.int k)) : Dec G n t (fun m : Int => [.int k m]) (fun m => (Lit.int k m).wf = true) (fun _ => 1) := by
  intro cs x h
  obtain ⟨m, rfl, rfl, hw⟩ := DataW.trod_int hu h
  exact ⟨m, by simp [toldD, litPV], hw, by simp [bulk]⟩
theorem dec_bool (hu : G.P.underlying t = some .bool) : Dec G n t (fun b : Bool => [.bool b]) (fun _ => True) (fun _ => 1) := by
  intro cs x h
  obtain ⟨b, rfl, rfl⟩ := DataW.trod_bool hu h
  exact ⟨b, by simp [toldD, litPV], trivial, by simp [bulk]⟩
theorem decF_nil : DecF G n [] (fun _ : Unit => []) (fun _ => True) (fun _ => 0) := by
  intro xs hl _
  exact ⟨(), by simp [toldF], trivial, Nat.zero_le _⟩
theorem decF_cons {f : Field} {fs : List Field} {cA : A → List PV} {okA : A → Prop} {mA : A → Nat} {cB : B → List PV} {okB : B → Prop} {mB : B → Nat} (ha : Dec G n f.type cA okA mA) (hb : DecF G n fs cB okB mB) :
    DecF G n (f :: fs) (fun p : A × B => cA p.1 ++ cB p.2) (fun p => okA p.1 ∧ okB p.2) (fun p => mA p.1 + mB p.2) := by
  intro xs hl h
  cases xs with
  | nil => simp at hl
  | cons y ys =>
    obtain ⟨cs, h0⟩ := h 0 f rfl
    simp only [List.getElem?_cons_zero] at h0
    obtain ⟨a, a1, a2, a3⟩ := ha _ _ h0
    obtain ⟨b, b1, b2, b3⟩ := hb ys (by simpa using hl) (fun i g hg => by simpa using h (i + 1) g (by simpa using hg))
    exact ⟨(a, b), by simp only [List.map_cons, toldF, a1, b1], ⟨a2, b2⟩, by simp only [List.map_cons, bulkL]; omega⟩
theorem dec_struct {fs : Array Field} {l : List Field} (hu : G.P.underlying t = some (.struct fs)) (hl : fs.toList = l) {cells : A → List PV} {ok : A → Prop} {ms : A → Nat} (h : ∀ m, n = m + 1 → DecF G m l cells ok ms) : Dec G n t cells ok (fun a => ms a + 1) := by
  intro cs x hx
  obtain ⟨xs, m, hm, rfl, hcl, hxl, hxi⟩ := DataW.trod_struct hu hx
  subst hl
  obtain ⟨a, a1, a2, a3⟩ := h m hm xs (by simpa using hxl) (fun i f hf => ⟨_, hxi i f (by simpa using hf)⟩)
  exact ⟨a, by simp only [toldD, hu, a1], a2, by simp only [bulk]; omega⟩
theorem Dec.map {cells : A → List PV} {ok : A → Prop} {ms : A → Nat} (h : Dec G n t cells ok ms) (f : A → B) {cB : B → List PV} {okB : B → Prop} {mB : B → Nat} (hc : ∀ a, cells a = cB (f a)) (ho : ∀ a, ok a → okB (f a)) (hm : ∀ a, mB (f a) ≤ ms a) : Dec G n t cB okB mB := by
  intro cs x hx
  obtain ⟨a, a1, a2, a3⟩ := h cs x hx
  exact ⟨f a, by rw [a1, hc], ho a a2, Nat.le_trans (hm a) a3⟩
def sumL {A : Type} (m : A → Nat) : List A → Nat
  | [] => 0
  | a :: r => m a + sumL m r
theorem ula {cells : A → List PV} {ok : A → Prop} {ms : A → Nat} (h : Dec G n e cells ok ms) {ec : A → PV} (hec : ∀ a, wrapE G.P e (cells a) = ec a) : ∀ (ys : List (DataW H × List MemPlace)), (∀ y ∈ ys, ∃ cs, DataW.trod G.enc G.P G.W G.base G.spare G.held n e cs = some y) →
    ∃ l : List A, toldE G.P e (ys.map (·.1)) = l.map ec ∧ (∀ a ∈ l, ok a) ∧ sumL ms l ≤ bulkL (ys.map (·.1)) ∧ l.length = ys.length
  | [], _ => ⟨[], by simp [toldE], by simp, by simp [sumL], rfl⟩
  | y :: ys, hy => by
    obtain ⟨cs, h0⟩ := hy y (by simp)
    obtain ⟨a, a1, a2, a3⟩ := h _ _ h0
    obtain ⟨l, l1, l2, l3, l4⟩ := ula h hec ys (fun z hz => hy z (by simp [hz]))
    refine ⟨a :: l, ?_, ?_, ?_, by simp [l4]⟩
    · simp only [List.map_cons, toldE, a1, hec, l1]
    · intro b hb
      rcases List.mem_cons.mp hb with rfl | hb
      · exact a2
      · exact l2 b hb
    · simp only [List.map_cons, sumL, bulkL]; omega
theorem dec_list {cells : A → List PV} {ok : A → Prop} {ms : A → Nat} (hu : G.P.underlying t = some (.slice e)) (h : ∀ m, n = m + 1 → Dec G m e cells ok ms) {ec : A → PV} (hec : ∀ a, wrapE G.P e (cells a) = ec a) {sz : Nat} (hsz : G.P.cellsOf e = sz) :
    Dec G n t (fun g : GL A => [LZ g.z sz (g.l.map ec)]) (fun g => ∀ a ∈ g.l, ok a) (fun g => sumL ms g.l + 1) := by
  intro cs x hx
  rcases DataW.trod_slice hu hx with ⟨rfl, rfl⟩ | ⟨a, len, cap, elems, rest, m, hm, rfl, rfl, hb, hlc, hcm, hlen, hel, hre, hno⟩
  · exact ⟨⟨true, []⟩, by simp [toldD, hu, LZ], by simp, by simp [bulk, sumL]⟩
  · obtain ⟨l, l1, l2, l3, l4⟩ := ula (h m hm) hec elems (fun y hy => by
      obtain ⟨i, hi⟩ := List.getElem?_of_mem hy
      have hlt : i < len := by
        have := (List.getElem?_eq_some_iff.mp hi).1
        omega
      have := hel i hlt
      rw [hi, Option.bind_eq_some_iff] at this
      obtain ⟨cs, _, hd⟩ := this
      exact ⟨cs, hd⟩)
    refine ⟨⟨false, l⟩, ?_, l2, by simp only [bulk]; omega⟩
    simp only [toldD, hu, l1, hsz]
    cases l <;> rfl
end
end Go.Proofs.YthidcpkcfoldmaaGreat.Pi
namespace Go.Proofs.YthidcpkcfoldmaaGreat.Pi
open Go.ChangeShapes Go.WideShapes
theorem rep_agg {P : Program} {W : World} {base : Nat} {t : TypeId} {fs : Array Field} {v : Value} {ps : List PV} (hu : P.underlying t = some (.struct fs)) (hok : Value.okWide P W .any base t v) (ht : ToldOk W v.cells.toList ps) : Rep [] (imOf W) (.agg ps) v := by
  unfold Value.okWide at hok
  rw [hu] at hok
  obtain ⟨cs, rfl, _, _⟩ := hok
  obtain ⟨h1, h2⟩ := ht
  refine .agg (by simpa [Value.cells] using h1.symm) (fun j c hj => (h2 j c hj).1) fun j c v hc hv => .flat ((h2 j c hc).2 v (by simpa [Value.cells] using hv))
theorem rep_cell {P : Program} {W : World} {base : Nat} {t : TypeId} {d : TypeDesc} {v : Value} {p : PV} (hu : P.underlying t = some d) (hd : ∀ fs, d ≠ .struct fs) (hd2 : ∀ n e, d ≠ .array n e) (hok : Value.okWide P W .any base t v) (ht : ToldOk W v.cells.toList [p]) : Rep [] (imOf W) p v := by
  have hv : v.cells = #[v] := by
    unfold Value.okWide at hok
    rw [hu] at hok
    cases d <;> first | (exact absurd rfl (hd _)) | (exact absurd rfl (hd2 _ _)) | skip
    all_goals (unfold Cell.okWide Cell.ok at hok; simp only [hu] at hok)
    all_goals (cases v <;> first | rfl | (simp at hok; done))
  rw [hv] at ht
  exact .flat ((ht.2 0 p rfl).2 v rfl)
theorem args_nil {im : Nat → Nat → Option Value} : ArgsOk (gOf im) [] #[] := ⟨rfl, fun j p v hp => by simp at hp⟩
theorem args_cons {im : Nat → Nat → Option Value} {p : PV} {v : Value} {ps : List PV} {vs : List Value} (h : Rep [] im p v) (hs : strip p = p) (hr : ArgsOk (gOf im) ps vs.toArray) : ArgsOk (gOf im) (p :: ps) (v :: vs).toArray := by
  refine ⟨by have := hr.size; simp at this ⊢; exact this, fun j q u hq hu => ?_⟩
  cases j with
  | zero =>
    simp at hq hu
    subst hq; subst hu
    exact ⟨.one (.pure h), hs⟩
  | succ j =>
    exact hr.rep j q u (by simpa using hq) (by simpa using hu)
end Go.Proofs.YthidcpkcfoldmaaGreat.Pi
namespace Go.Proofs.YthidcpkcfoldmaaGreat.Pi
open Go.ChangeShapes Go.WideShapes
structure ASl where
  z : Bool
  sz : Nat
  xs : List PV
variable {H : Type} {G : DecArgs H} {n : Nat} {t e : TypeId}
theorem dec_any (hu : G.P.underlying t = some (.slice e)) : Dec G n t (fun s : ASl => [.slice false s.z s.sz s.xs]) (fun _ => True) (fun _ => 0) := by
  intro cs x hx
  rcases DataW.trod_slice hu hx with ⟨rfl, rfl⟩ | ⟨a, len, cap, elems, rest, m, hm, rfl, rfl, hb, hlc, hcm, hlen, hel, hre, hno⟩
  · exact ⟨⟨true, 0, []⟩, by simp [toldD, hu], trivial, Nat.zero_le _⟩
  · exact ⟨⟨false, G.P.cellsOf e, toldE G.P e (elems.map (·.1))⟩, by simp [toldD, hu], trivial, Nat.zero_le _⟩
end Go.Proofs.YthidcpkcfoldmaaGreat.Pi
namespace Go.Proofs.YthidcpkcfoldmaaGreat.Pi.Q
open Go Go.Proofs.YthidcpkcfoldmaaGreat.Pi
def cs_V (v : VT) : List PV := [.int .i64 v.num, .bool v.nul, .int .i64 v.heap]
def ok_V (v : VT) : Prop := (Lit.int .i64 v.num).wf = true ∧ True ∧ (Lit.int .i64 v.heap).wf = true ∧ True
def ms_V (v : VT) : Nat := 1 + (1 + (1 + (0))) + 1
structure CG where
  kind : Int
  ps : GL (VT)
  rs : GL (VT)
  fs : GL (FT)
  deriving DecidableEq
structure SG where
  fin : Bool
  sup : GL (Int)
  comp : CG
  deriving DecidableEq
structure RG where
  types : GL (SG)
  exp : Bool
  deriving DecidableEq
structure LT where
  wide : Bool
  min : Int
  max : Int
  has : Bool
  deriving DecidableEq
def cs_B (v : BK) : List PV := [.int .i64 v.ty, .int .i64 v.res.num, .bool v.res.nul, .int .i64 v.res.heap]
def ok_B (v : BK) : Prop := (Lit.int .i64 v.ty).wf = true ∧ ok_V v.res ∧ True
def ms_B (v : BK) : Nat := 1 + (ms_V v.res + (0)) + 1
def CG.plain (v : CG) : CT := ⟨v.kind, v.ps.l, v.rs.l, v.fs.l⟩
def SG.plain (v : SG) : ST := ⟨v.fin, v.sup.l, v.comp.plain⟩
def RG.plain (v : RG) : RT := ⟨v.types.l.map SG.plain, v.exp⟩
end Go.Proofs.YthidcpkcfoldmaaGreat.Pi.Q
namespace Go.Proofs.YthidcpkcfoldmaaGreat.Pi.Q
open Go Go.Proofs.YthidcpkcfoldmaaGreat.Pi
def encU32 (n : Int) : PV := .int .u32 n
structure MG where
  align : Int
  mem : Int
  off : Int
  deriving DecidableEq
def cs_MG (v : MG) : List PV := [.int .u32 v.align, .int .u32 v.mem, .int .u64 v.off]
def ok_MG (v : MG) : Prop := (Lit.int .u32 v.align).wf = true ∧ (Lit.int .u32 v.mem).wf = true ∧ (Lit.int .u64 v.off).wf = true ∧ True
def ms_MG (v : MG) : Nat := 1 + (1 + (1 + (0))) + 1
structure CH where
  kind : Int
  tag : Int
  label : Int
  deriving DecidableEq
def cs_CH (v : CH) : List PV := [.int .i64 v.kind, .int .u32 v.tag, .int .u32 v.label]
def ok_CH (v : CH) : Prop := (Lit.int .i64 v.kind).wf = true ∧ (Lit.int .u32 v.tag).wf = true ∧ (Lit.int .u32 v.label).wf = true ∧ True
def ms_CH (v : CH) : Nat := 1 + (1 + (1 + (0))) + 1
def encCH (v : CH) : PV := .agg [.int .i64 v.kind, .int .u32 v.tag, .int .u32 v.label]
structure IG where
  op : Int
  x : Int
  y : Int
  n : Int
  mem : MG
  block : BK
  body : ASl
  els : ASl
  hasElse : Bool
  labels : GL (Int)
  types : GL (VT)
  catches : GL (CH)
def cs_IG (v : IG) : List PV := [.int .i64 v.op, .int .u32 v.x, .int .u32 v.y, .int .u64 v.n, .int .u32 v.mem.align, .int .u32 v.mem.mem, .int .u64 v.mem.off, .int .i64 v.block.ty, .int .i64 v.block.res.num, .bool v.block.res.nul, .int .i64 v.block.res.heap, .slice false v.body.z v.body.sz v.body.xs, .slice false v.els.z v.els.sz v.els.xs, .bool v.hasElse, LZ v.labels.z 1 (v.labels.l.map encU32), LZ v.types.z 3 (v.types.l.map encV), LZ v.catches.z 3 (v.catches.l.map encCH)]
def ok_IG (v : IG) : Prop := (Lit.int .i64 v.op).wf = true ∧ (Lit.int .u32 v.x).wf = true ∧ (Lit.int .u32 v.y).wf = true ∧ (Lit.int .u64 v.n).wf = true ∧ ok_MG v.mem ∧ ok_B v.block ∧ True ∧ True ∧ True ∧ (∀ a ∈ v.labels.l, (Lit.int .u32 a).wf = true) ∧ (∀ a ∈ v.types.l, ok_V a) ∧ (∀ a ∈ v.catches.l, ok_CH a) ∧ True
def ms_IG (v : IG) : Nat := 1 + (1 + (1 + (1 + (ms_MG v.mem + (ms_B v.block + (0 + (0 + (1 + ((sumL (fun a => 1) v.labels.l + 1) + ((sumL (fun a => ms_V a) v.types.l + 1) + ((sumL (fun a => ms_CH a) v.catches.l + 1) + (0)))))))))))) + 1
end Go.Proofs.YthidcpkcfoldmaaGreat.Pi.Q
namespace Go.Proofs.YthidcpkcfoldmaaGreat.Pi.Q
open Go Go.Proofs.YthidcpkcfoldmaaGreat.Pi
attribute [local congr] ite_congr
def accB (b : List UInt8) : PV := accP 1 (bytes b)
theorem byt_of {n : Nat} (h : n < 256) : byt (UInt8.ofNat n) = .int .u8 n := by
  unfold byt
  rw [UInt8.toNat_ofNat', Nat.mod_eq_of_lt h]
theorem ucl {n : Nat} (h : n < 256) {K : Heap} : bsR true none [.int .u8 n] K = some (.ok (.slice true false 1 [byt (UInt8.ofNat n)]) K) := by
  rw [byt_of h]
  rfl
theorem ap_B {acc : List UInt8} {c : UInt8} {K : Heap} (h : acc.length + 1 ≤ 140737488355328) : run (ap true 1 1 (accB acc) (.slice true false 1 [byt c])) K = some (.ok (accB (acc ++ [c])) K) := by
  have := ap_acc (H := K) (sz := 1) (b := 1) (l := bytes acc) (v := byt c) (o := true) (by simpa [bytes] using h)
  unfold accB
  rw [this]
  simp [bytes]
def putU (n : Nat) : List UInt8 := if n < 128 then [UInt8.ofNat n] else UInt8.ofNat (n % 128 + 128) :: putU (n / 128)
termination_by n
decreasing_by omega
theorem or128 : ∀ m : Fin 256, IntKind.u8.wrap (BitVec.ofInt 8 (m.val : Int) ||| BitVec.ofInt 8 128).toNat = ((m.val % 128 + 128 : Nat) : Int) := by decide +kernel
theorem uuq (n : Nat) : bi .or .none (.int .u8 ((n % 256 : Nat) : Int)) (.int .u8 128) = M.pure (.int .u8 ((n % 128 + 128 : Nat) : Int)) := by
  rw [run_or]
  have := or128 ⟨n % 256, by omega⟩
  have e : n % 256 % 128 = n % 128 := by omega
  simp only [e] at this
  rw [show IntKind.u8.bits = 8 from rfl, this]
theorem shr7 (n : Nat) : bi .shr .none (.int .u64 (n : Int)) (.int .u64 7) = M.pure (.int .u64 ((n / 128 : Nat) : Int)) := by
  rw [u9s (by omega)]
  have : (n : Int).fdiv (2 ^ shiftN .u64 7) = ((n / 128 : Nat) : Int) := by
    have e : (2 : Int) ^ shiftN .u64 7 = 128 := by decide
    rw [e]
    simp [Int.fdiv_eq_ediv]
  rw [this]
theorem umk {H : Heap} {v2 : PV} : ∀ (m n : Nat) (acc : List UInt8), n < 128 ^ (m + 1) → n < 2 ^ 64 → acc.length + m < 1000 → run (u55 (.int .u64 n) v2 (accB acc)) H = some (.ok (accB (acc ++ putU n)) H)
  | m, n, acc, h, hn, hl => by
    have hap := fun c K => ap_B (acc := acc) (c := c) (K := K) (by omega)
    have ht : isTup (accB (acc ++ [UInt8.ofNat n])) = false := uh4
    by_cases h1 : n < 128
    · have c1 : ¬ (127 : Int) < n := by omega
      have hbs := fun K => ucl (n := n) (by omega) (K := K)
      rw [u7z, putU, if_pos h1]
      simp +contextual -dsimp (disch := omega) only [↓goDown, goUp, cr, simprocAttr, c1, hbs, hap, ht]
    · cases m with
      | zero => simp at h; omega
      | succ m =>
        have c1 : (127 : Int) < n := by omega
        have hw : IntKind.u8.wrap (n : Int) = ((n % 256 : Nat) : Int) := by rw [show IntKind.u8.wrap (n : Int) = (n : Int) % 256 from rfl]; omega
        have hbs := fun K => ucl (n := n % 128 + 128) (by omega) (K := K)
        have ih := umk (H := H) (v2 := v2) m (n / 128) (acc ++ [UInt8.ofNat (n % 128 + 128)]) (by
          have : 128 ^ (m + 1 + 1) = 128 ^ (m + 1) * 128 := Nat.pow_succ ..
          exact Nat.div_lt_of_lt_mul (by omega)) (by omega) (by simp; omega)
        rw [u7z, putU, if_neg h1]
        simp +contextual -dsimp (disch := omega) only [↓goDown, goUp, cr, simprocAttr, c1, hw, uuq, shr7, hbs, hap]
        rw [ih]
        simp
theorem uzc {H : Heap} {n : Nat} (hn : n < 2 ^ 64) : run (C u7f [.int .u64 n]) H = some (.ok (accB (putU n)) H) := by
  rw [umz]
  have h := umk (H := H) (v2 := .slice false true 0 []) 9 n [] (by omega) hn (by simp)
  have h : run (u55 (.int .u64 n) (.slice false true 0 []) (.slice false true 0 [])) H = some (.ok (accB (putU n)) H) := h
  have hl : ∀ k, (accB (putU n)).low k = true := fun k => ung
  simp +contextual -dsimp (disch := omega) only [↓goDown, goUp, cr, simprocAttr, h, hl]
theorem up3 : ∀ (m n : Nat), n < 128 ^ (m + 1) → (putU n).length ≤ m + 1
  | m, n, h => by
    rw [putU]
    split
    · simp
    · cases m with
      | zero => simp at h; omega
      | succ m =>
        have := up3 m (n / 128) (by
          have : 128 ^ (m + 1 + 1) = 128 ^ (m + 1) * 128 := Nat.pow_succ ..
          exact Nat.div_lt_of_lt_mul (by omega))
        simp only [List.length_cons]
        omega
theorem u82 {n : Nat} (h : n < 2 ^ 64) : (putU n).length ≤ 10 := up3 9 n (by omega)
end Go.Proofs.YthidcpkcfoldmaaGreat.Pi.Q
namespace Go.Proofs.YthidcpkcfoldmaaGreat.Pi.Q
open Go Go.Proofs.YthidcpkcfoldmaaGreat.Pi
attribute [local congr] ite_congr
def putS (n : Int) : List UInt8 := if -64 ≤ n ∧ n ≤ 63 then [UInt8.ofNat (n % 128).toNat] else UInt8.ofNat ((n % 128).toNat + 128) :: putS (n / 128)
termination_by n.natAbs
decreasing_by omega
theorem and127 : ∀ m : Fin 256, IntKind.u8.wrap (BitVec.ofInt 8 (m.val : Int) &&& BitVec.ofInt 8 127).toNat = ((m.val % 128 : Nat) : Int) := by decide +kernel
theorem uy6 (n : Nat) : bi .and .none (.int .u8 ((n % 256 : Nat) : Int)) (.int .u8 127) = M.pure (.int .u8 ((n % 128 : Nat) : Int)) := by
  rw [u75]
  have := and127 ⟨n % 256, by omega⟩
  have e : n % 256 % 128 = n % 128 := by omega
  simp only [e] at this
  rw [show IntKind.u8.bits = 8 from rfl, this]
theorem shrS (n : Int) : bi .shr .none (.int .i64 n) (.int .u64 7) = M.pure (.int .i64 (n / 128)) := by
  rw [u9s (by omega)]
  have : n.fdiv (2 ^ shiftN .i64 7) = n / 128 := by
    have e : (2 : Int) ^ shiftN .i64 7 = 128 := by decide
    rw [e]
    simp [Int.fdiv_eq_ediv]
  rw [this]
theorem umu {H : Heap} {v2 : PV} : ∀ (m : Nat) (n : Int) (acc : List UInt8), -(64 * 128 ^ m) ≤ n → n < 64 * 128 ^ m → -9223372036854775808 ≤ n → n ≤ 9223372036854775807 → acc.length + m < 1000 →
    run (u54 (.int .i64 n) v2 (accB acc)) H = some (.ok (accB (acc ++ putS n)) H)
  | m, n, acc, h, h', hn, hn', hl => by
    have hap := fun c K => ap_B (acc := acc) (c := c) (K := K) (by omega)
    have hm : ((n % 128).toNat : Int) = n % 128 := Int.toNat_of_nonneg (by omega)
    have hw : IntKind.u8.wrap n = (((n % 256).toNat % 256 : Nat) : Int) := by rw [show IntKind.u8.wrap n = n % 256 from rfl]; omega
    have e128 : (n % 256).toNat % 128 = (n % 128).toNat := by omega
    by_cases h1 : -64 ≤ n ∧ n ≤ 63
    · have c1 : ¬ n < -64 := by omega
      have c2 : ¬ 63 < n := by omega
      have ha := uy6 (n % 256).toNat
      rw [e128] at ha
      have hbs := fun K => ucl (n := (n % 128).toNat) (by omega) (K := K)
      have ht : isTup (accB (acc ++ [UInt8.ofNat (n % 128).toNat])) = false := uh4
      rw [u7x, putS, if_pos h1]
      simp +contextual -dsimp (disch := omega) only [↓goDown, goUp, cr, simprocAttr, c1, c2, hw, ha, hbs, hap, ht]
    · cases m with
      | zero => simp at h h'; omega
      | succ m =>
        have ho := uuq (n % 256).toNat
        rw [e128] at ho
        have hbs := fun K => ucl (n := (n % 128).toNat + 128) (by omega) (K := K)
        have ih := umu (H := H) (v2 := v2) m (n / 128) (acc ++ [UInt8.ofNat ((n % 128).toNat + 128)]) (by
          have : (128 : Int) ^ (m + 1) = 128 ^ m * 128 := Int.pow_succ ..
          omega) (by
          have : (128 : Int) ^ (m + 1) = 128 ^ m * 128 := Int.pow_succ ..
          omega) (by omega) (by omega) (by simp; omega)
        rw [u7x, putS, if_neg h1]
        by_cases c1 : n < -64
        · simp +contextual -dsimp (disch := omega) only [↓goDown, goUp, cr, simprocAttr, c1, hw, ho, shrS, hbs, hap]
          rw [ih]
          simp
        · have c2 : 63 < n := by omega
          simp +contextual -dsimp (disch := omega) only [↓goDown, goUp, cr, simprocAttr, c1, c2, hw, ho, shrS, hbs, hap]
          rw [ih]
          simp
theorem uj9 {H : Heap} {n : Int} (hn : -9223372036854775808 ≤ n) (hn' : n ≤ 9223372036854775807) : run (C u28 [.int .i64 n]) H = some (.ok (accB (putS n)) H) := by
  rw [unb]
  have h := umu (H := H) (v2 := .slice false true 0 []) 9 n [] (by omega) (by omega) hn hn' (by simp)
  have h : run (u54 (.int .i64 n) (.slice false true 0 []) (.slice false true 0 [])) H = some (.ok (accB (putS n)) H) := h
  have hl : ∀ k, (accB (putS n)).low k = true := fun k => ung
  simp +contextual -dsimp (disch := omega) only [↓goDown, goUp, cr, simprocAttr, h, hl]
end Go.Proofs.YthidcpkcfoldmaaGreat.Pi.Q
namespace Go.Proofs.YthidcpkcfoldmaaGreat.Pi.Q
open Go Go.Proofs.YthidcpkcfoldmaaGreat.Pi
attribute [local congr] ite_congr
inductive Wr where
  | ok (u : List UInt8)
  | err (w : Nat)
theorem uyo {H : Heap} {x : PV} : run (C u1m [x, .bool true]) H = some (.ok (.tup []) H) := by
  rw [u8i]
  simp +contextual -dsimp (disch := omega) only [↓goDown, goUp, cr, simprocAttr, un_not]
theorem uxe {H : Heap} {x : PV} : run (C u1m [x, .bool false]) H = some (.pan (flt 0 4) H) := by
  rw [u8i]
  simp +contextual -dsimp (disch := omega) only [↓goDown, goUp, cr, simprocAttr, un_not]
  rfl
theorem uuu {H : Heap} {n : Int} : run (C u6d [.int .i64 n]) H = some (.ok (.bool (decide (0 ≤ n ∧ n ≤ 2147483647))) H) := by
  rw [ujn]
  by_cases h1 : 0 ≤ n
  · by_cases h2 : n ≤ 2147483647
    · have e : decide (0 ≤ n ∧ n ≤ 2147483647) = true := decide_eq_true ⟨h1, h2⟩
      rw [e]
      simp +contextual -dsimp (disch := omega) only [↓goDown, goUp, cr, simprocAttr, h1, h2]
    · have e : decide (0 ≤ n ∧ n ≤ 2147483647) = false := decide_eq_false (fun h => h2 h.2)
      rw [e]
      simp +contextual -dsimp (disch := omega) only [↓goDown, goUp, cr, simprocAttr, h1, h2]
  · have e : decide (0 ≤ n ∧ n ≤ 2147483647) = false := decide_eq_false (fun h => h1 h.1)
    rw [e]
    simp +contextual -dsimp (disch := omega) only [↓goDown, goUp, cr, simprocAttr, h1]
def find (h : Int) : List Int → Nat → Option Nat
  | [], _ => none
  | a :: r, i => if a = h then some i else find h r (i + 1)
def absI : List Int := [-11, -9, -8, -7, -6, -5, -3, -1, -10, -4, -2, -12]
def wNamed : Option Nat → Wr
  | some j => .ok [UInt8.ofNat (105 + j)]
  | none => .err 4
def wHeap (h : Int) : Wr :=
  if 0 ≤ h then if h ≤ 2147483647 then .ok (putS h) else .err 4 else wNamed (find h absI 0)
theorem u9y : ∀ (m : Nat) (n : Int), -(64 * 128 ^ m) ≤ n → n < 64 * 128 ^ m → (putS n).length ≤ m + 1
  | m, n, h, h' => by
    rw [putS]
    split
    · simp
    · cases m with
      | zero => simp at h h'; omega
      | succ m =>
        have e : (128 : Int) ^ (m + 1) = 128 ^ m * 128 := Int.pow_succ ..
        have := u9y m (n / 128) (by omega) (by omega)
        simp only [List.length_cons]
        omega
theorem uw0 {H : Heap} {c : Nat} {h a : Int} {cs : List PV} {i : Nat} (hi : i < 12) (ha : nth cs i = some (.int .i64 a)) :
    run (u0w (.ptr c 0) (.int .i64 h) (.agg cs) (.int .i64 i)) H =
      if a = h then run (M.bind (C u24 [.ptr c 0, .int .u8 ((105 + i : Nat) : Int)]) fun _ => M.pure (.tup [])) H
      else run (u0w (.ptr c 0) (.int .i64 h) (.agg cs) (.int .i64 ((i + 1 : Nat) : Int))) H := by
  have c1 : (i : Int) < 12 := by omega
  have hx : run (ixA 12 1 none (.agg cs) (.int .i64 i)) H = some (.ok (.int .i64 a) H) := by
    rw [ugi, if_pos ⟨by omega, by omega⟩, Int.toNat_natCast, ha]
    rfl
  have e1 : (105 : Int) + i = ((105 + i : Nat) : Int) := by omega
  have e2 : (i : Int) + 1 = ((i + 1 : Nat) : Int) := rfl
  rw [u6e]
  by_cases hc : a = h
  · rw [if_pos hc]
    have c2 : (a = h) = True := eq_true hc
    simp +contextual -dsimp (disch := omega) only [↓goDown, goUp, cr, simprocAttr, c1, hx, c2, e1]
  · rw [if_neg hc]
    have c2 : (a = h) = False := eq_false hc
    simp +contextual -dsimp (disch := omega) only [↓goDown, goUp, cr, simprocAttr, c1, hx, c2, e2]
end Go.Proofs.YthidcpkcfoldmaaGreat.Pi.Q
namespace Go.Proofs.YthidcpkcfoldmaaGreat.Pi.Q
open Go Go.Proofs.YthidcpkcfoldmaaGreat.Pi
attribute [local congr] ite_congr
def wCat (u : List UInt8) : Wr → Wr
  | .ok v => .ok (u ++ v)
  | .err w => .err w
def wVal (v : VT) : Wr :=
  if v.num = 5 then wCat (if v.nul = false then [100] else if 0 ≤ v.heap then [99] else []) (wHeap v.heap)
  else if 1 ≤ v.num ∧ v.num ≤ 4 ∧ v.nul = false ∧ v.heap = 0 then .ok [UInt8.ofNat (128 - v.num).toNat] else .err 4
end Go.Proofs.YthidcpkcfoldmaaGreat.Pi.Q
namespace Go.Proofs.YthidcpkcfoldmaaGreat.Pi.Q
open Go Go.Proofs.YthidcpkcfoldmaaGreat.Pi
attribute [local congr] ite_congr
theorem eql_V {H : Heap} {v : VT} {n : Int} : run (bi .eql (.struct [.int, .bool, .int]) (.agg [.int .i64 v.num, .bool v.nul, .int .i64 v.heap]) (.agg [.int .i64 n, .bool false, .int .i64 0])) H = some (.ok (.bool (decide (v = ⟨n, false, 0⟩))) H) := by
  obtain ⟨a, t, h⟩ := v
  have e : decide ((⟨a, t, h⟩ : VT) = ⟨n, false, 0⟩) = (a == n && (t == false && h == 0)) := by
    rw [Bool.eq_iff_iff]
    simp
  rw [e]
  unfold run bi
  cases hb1 : (a == n) <;> cases hb2 : (h == 0) <;> cases t <;> simp only [eqPV, u4q, u3o, M.pure, hb1, hb2] <;> rfl
end Go.Proofs.YthidcpkcfoldmaaGreat.Pi.Q
namespace Go.Proofs.YthidcpkcfoldmaaGreat.Pi.Q
open Go Go.Proofs.YthidcpkcfoldmaaGreat.Pi
attribute [local congr] ite_congr
abbrev KR := Res (List UInt8) Unit
def encU (_ : Unit) : PV := .tup []
theorem u1o {u : Unit} : encU u = .tup [] := nrfl rfl
abbrev pB (acc : List UInt8) : Box := .cells [accB acc]
theorem u2e {a : List UInt8} : isCell (accB a) = true := urn
theorem u3y {a : List UInt8} : (accB a).cells = [accB a] := usm
theorem low_B {a : List UInt8} {k : Nat} : (accB a).low k = true := ung
theorem u8d {a : List UInt8} : isTup (accB a) = false := uh4
def kPut (u acc : List UInt8) : KR := if acc.length + u.length ≤ 140737488355328 then .ok () (acc ++ u) else .no
def kMust (b : Bool) (acc : List UInt8) : KR := if b = true then .ok () acc else .err u0b [0, 4]
theorem ap_X {acc u : List UInt8} {K : Heap} : run (ap true 1 1 (accB acc) (accB u)) K = if acc.length + u.length ≤ 140737488355328 then some (.ok (accB (acc ++ u)) K) else none := by
  cases acc with
  | nil => cases u with
    | nil => rfl
    | cons x r =>
      unfold accB accP run ap tail growB
      simp only [bytes, List.map_cons, List.map_nil, List.nil_append, List.length_nil, Nat.zero_add, beq_self_eq_true, Bool.or_true, cond_true, List.isEmpty_cons, cond_false, List.length_cons, List.length_map, Nat.mul_one, Nat.max_self]
      by_cases h : r.length + 1 ≤ 140737488355328
      · rw [decide_eq_true h, if_pos h]; rfl
      · rw [decide_eq_false h, if_neg h]; rfl
  | cons y a =>
    have key : (bytes (y :: a)).length + (bytes u).length = (y :: a).length + u.length := by simp [bytes]
    cases u with
    | nil =>
      unfold accB accP run ap tail growB
      simp only [bytes, List.map_cons, List.map_nil, List.append_nil, List.length_nil, Nat.add_zero, beq_self_eq_true, Bool.or_true, Bool.true_or, cond_true, cond_false, List.length_cons, List.length_map, Nat.mul_one, Nat.max_self, Bool.true_and]
      by_cases h : a.length + 1 ≤ 140737488355328
      · rw [decide_eq_true h, if_pos h]; rfl
      · rw [decide_eq_false h, if_neg h]; rfl
    | cons x r =>
      unfold accB accP run ap tail growB
      simp only [bytes, List.map_cons, List.map_nil, List.length_cons, List.length_map, beq_self_eq_true, Bool.or_true, cond_true, cond_false, Nat.mul_one, Nat.max_self, Bool.true_and]
      by_cases h : a.length + 1 + (r.length + 1) ≤ 140737488355328
      · rw [decide_eq_true h, if_pos h]
        simp only [cond_true, List.cons_append, List.map_cons, List.map_append]
        rfl
      · rw [decide_eq_false h, if_neg h]; rfl
theorem ap_X1 {acc : List UInt8} {c : UInt8} {K : Heap} : run (ap true 1 1 (accB acc) (.slice true false 1 [byt c])) K = if acc.length + 1 ≤ 140737488355328 then some (.ok (accB (acc ++ [c])) K) else none := ap_X (u := [c])
variable {c : Nat} {H : Heap} {L : List Box} {acc : List UInt8}
theorem mustK {b : Bool} (hc : c < List.length H) : runK c (C u1m [.ptr c 0, .bool b]) (St H c (pB acc) L) = outK c H L pB encU (kMust b acc) := by
  cases b with
  | true => rw [toK, uyo]; rfl
  | false =>
    rw [toK, uxe]
    show some (Out.pan _ (hset (St H c (pB acc) L) c .dead)) = some (Out.pan _ (St H c .dead L))
    rw [set_St hc]; rfl
theorem byteK {n : Int} (h0 : 0 ≤ n) (h1 : n < 256) (hc : c < List.length H) : runK c (C u24 [.ptr c 0, .int .u8 n]) (St H c (pB acc) L) = outK c H L pB encU (kPut [UInt8.ofNat n.toNat] acc) := liftK (fun H hc => by
  obtain ⟨n, rfl⟩ := Int.eq_ofNat_of_zero_le h0
  have hbs := fun K => ucl (n := n) (by omega) (K := K)
  rw [ud7, Int.toNat_natCast]
  unfold kPut
  simp +contextual -dsimp (disch := omega) only [↓kDown, kUp, ↓goDown, goUp, cr, simprocAttr, hbs, ap_X1, u2e, u3y, low_B, u1o]) hc
def kNamed : Option Nat → List UInt8 → KR
  | some j, acc => kPut [UInt8.ofNat (105 + j)] acc
  | none, _ => .err u0b [0, 4]
def kHeap (h : Int) (acc : List UInt8) : KR :=
  if 0 ≤ h then if h ≤ 2147483647 then kPut (putS h) acc else .err u0b [0, 4] else kNamed (find h absI 0) acc
theorem urb {h a : Int} {cs : List PV} {i : Nat} (hi : i < 12) (ha : nth cs i = some (.int .i64 a)) (hc : c < List.length H) :
    runK c (u0w (.ptr c 0) (.int .i64 h) (.agg cs) (.int .i64 i)) (St H c (pB acc) []) =
      if a = h then outK c H [] pB encU (kPut [UInt8.ofNat (105 + i)] acc)
      else runK c (u0w (.ptr c 0) (.int .i64 h) (.agg cs) (.int .i64 ((i + 1 : Nat) : Int))) (St H c (pB acc) []) := by
  unfold runK
  rw [uw0 hi ha]
  by_cases hc2 : a = h
  · rw [if_pos hc2, if_pos hc2]
    have hb := byteK (c := c) (H := H) (L := []) (acc := acc) (n := ((105 + i : Nat) : Int)) (by omega) (by omega) hc
    rw [Int.toNat_natCast] at hb
    show runK c _ _ = _
    simp +contextual -dsimp (disch := omega) only [↓kDown, kUp, ↓goDown, goUp, cr, simprocAttr, hb, u1o]
  · rw [if_neg hc2, if_neg hc2]
theorem ui2 {h : Int} {cs : List PV} (hc : c < List.length H) : ∀ (l : List Int) (i : Nat), (∀ k (a : Int), l[k]? = some a → nth cs (i + k) = some (.int .i64 a)) → i + l.length = 12 →
    runK c (u0w (.ptr c 0) (.int .i64 h) (.agg cs) (.int .i64 i)) (St H c (pB acc) []) = outK c H [] pB encU (kNamed (find h l i) acc)
  | [], i, hcs, hi => by
    have c1 : ¬ (i : Int) < 12 := by simp at hi; omega
    rw [u6e]
    simp only [find, kNamed]
    simp +contextual -dsimp (disch := omega) only [↓kDown, kUp, ↓goDown, goUp, cr, simprocAttr, c1, mustK, kMust]
  | a :: r, i, hcs, hi => by
    have hi12 : i < 12 := by simp at hi; omega
    rw [urb hi12 (by simpa using hcs 0 a rfl) hc]
    unfold find
    by_cases hc2 : a = h
    · rw [if_pos hc2, if_pos hc2]; rfl
    · rw [if_neg hc2, if_neg hc2]
      exact ui2 hc r (i + 1) (fun k b hb => by
        have := hcs (k + 1) b (by simpa using hb)
        rwa [show i + (k + 1) = i + 1 + k by omega] at this) (by simp at hi; omega)
theorem heapK {h : Int} (hc : c < List.length H) : runK c (C u4r [.ptr c 0, .int .i64 h]) (St H c (pB acc) L) = outK c H L pB encU (kHeap h acc) := liftK (fun H hc => by
  have hlp : runK c (u0w (.ptr c 0) (.int .i64 h) (.agg [.int .i64 (-11), .int .i64 (-9), .int .i64 (-8), .int .i64 (-7), .int .i64 (-6), .int .i64 (-5), .int .i64 (-3), .int .i64 (-1), .int .i64 (-10), .int .i64 (-4), .int .i64 (-2), .int .i64 (-12)]) (.int .i64 0)) (St H c (pB acc) []) = _ := ui2 (acc := acc) (h := h) (cs := [.int .i64 (-11), .int .i64 (-9), .int .i64 (-8), .int .i64 (-7), .int .i64 (-6), .int .i64 (-5), .int .i64 (-3), .int .i64 (-1), .int .i64 (-10), .int .i64 (-4), .int .i64 (-2), .int .i64 (-12)]) hc absI 0 (fun k a hk => by
      have hk12 : k < 12 := by have := (List.getElem?_eq_some_iff.mp hk).1; simpa [absI] using this
      have : k = 0 ∨ k = 1 ∨ k = 2 ∨ k = 3 ∨ k = 4 ∨ k = 5 ∨ k = 6 ∨ k = 7 ∨ k = 8 ∨ k = 9 ∨ k = 10 ∨ k = 11 := by omega
      rcases this with rfl | rfl | rfl | rfl | rfl | rfl | rfl | rfl | rfl | rfl | rfl | rfl <;> (simp [absI] at hk; subst hk; rfl)) rfl
  rw [uda]
  unfold kHeap
  by_cases h0 : 0 ≤ h
  · have hp := fun (h1 : h ≤ 2147483647) K => uj9 (H := K) (n := h) (by omega) (by omega)
    unfold kPut
    simp +contextual -dsimp (disch := omega) only [↓kDown, kUp, ↓goDown, goUp, cr, simprocAttr, h0, toK (m := C u6d [.int .i64 h]), uuu, mustK, kMust, toK (m := C u28 [.int .i64 h]), hp, ap_X, u2e, u3y, low_B, u1o]
  · simp +contextual -dsimp (disch := omega) only [↓kDown, kUp, ↓goDown, goUp, cr, simprocAttr, h0, toK (m := C u4u []), uh1, hlp]) hc
def kVal (v : VT) (acc : List UInt8) : KR :=
  if v.num = 5 then (if v.nul = false then kPut [100] acc else if 0 ≤ v.heap then kPut [99] acc else .ok () acc).bind fun _ acc => kHeap v.heap acc
  else if 1 ≤ v.num ∧ v.num ≤ 4 ∧ v.nul = false ∧ v.heap = 0 then kPut [UInt8.ofNat (128 - v.num).toNat] acc else .err u0b [0, 4]
theorem valK {v : VT} (hc : c < List.length H) : runK c (C u5f [.ptr c 0, .agg [.int .i64 v.num, .bool v.nul, .int .i64 v.heap]]) (St H c (pB acc) L) = outK c H L pB encU (kVal v acc) := liftK (fun H hc => by
  have h1 := fun L acc => byteK (c := c) (H := H) (L := L) (acc := acc) (n := 100) (by omega) (by omega) hc
  have h0 := fun L acc => byteK (c := c) (H := H) (L := L) (acc := acc) (n := 99) (by omega) (by omega) hc
  have h2 := fun L acc h0 h1 => byteK (c := c) (H := H) (L := L) (acc := acc) (n := 128 - v.num) h0 h1 hc
  rw [ue6]
  unfold kVal
  by_cases h5 : v.num = 5
  · cases v.nul <;> simp +contextual -dsimp (disch := omega) only [↓kDown, kUp, ↓goDown, goUp, cr, simprocAttr, h5, un_not, h1, h0, heapK, u93, u1o] <;> rfl
  · by_cases a1 : 1 ≤ v.num
    · by_cases a2 : v.num ≤ 4
      · cases v.nul <;> simp +contextual -dsimp (disch := omega) only [↓kDown, kUp, ↓goDown, goUp, cr, simprocAttr, h5, eq_true a1, eq_true a2, un_not, mustK, kMust, h2, u1o]
      · simp +contextual -dsimp (disch := omega) only [↓kDown, kUp, ↓goDown, goUp, cr, simprocAttr, h5, eq_true a1, a2, un_not, mustK, kMust, h2, u1o]
    · simp +contextual -dsimp (disch := omega) only [↓kDown, kUp, ↓goDown, goUp, cr, simprocAttr, h5, a1, un_not, mustK, kMust, h2, u1o]) hc
end Go.Proofs.YthidcpkcfoldmaaGreat.Pi.Q
namespace Go.Proofs.YthidcpkcfoldmaaGreat.Pi.Q
open Go Go.Proofs.YthidcpkcfoldmaaGreat.Pi
attribute [local congr] ite_congr
variable {c : Nat} {H : Heap} {L : List Box} {acc : List UInt8}
theorem unkill {K H' : Heap} (hc : c < List.length K) (h : hset H' c .dead = St K c .dead []) : ∃ b, H' = St K c b [] := by
  have hl : List.length H' = List.length K := by
    have := congrArg List.length h
    rw [u9l, len_St] at this
    simpa using this
  have hc' : c < List.length H' := by omega
  refine ⟨H'[c], ?_⟩
  have h2 := congrArg (fun K => hset K c (H'[c])) h
  simp only [set_set, set_St hc] at h2
  rw [← h2]
  unfold hset
  exact (List.set_getElem_self hc').symm
theorem ul3 {m : M PV} {K K' : Heap} {v : PV} (h : runK c m K = some (.ok v K')) : run m K = some (.ok v K') := by
  unfold runK killR at h
  cases hr : run m K with
  | none => rw [hr] at h; cases h
  | some q => cases q with
    | ok a b => rw [hr] at h; exact h
    | pan a b => rw [hr] at h; simp at h
theorem usa {m : M PV} {K K' : Heap} {v : PV} (hc : c < List.length K') (h : runK c m K = some (.pan v (St K' c .dead []))) : ∃ b, run m K = some (.pan v (St K' c b [])) := by
  unfold runK killR at h
  cases hr : run m K with
  | none => rw [hr] at h; cases h
  | some q => cases q with
    | ok a b => rw [hr] at h; simp at h
    | pan a b =>
      rw [hr] at h
      simp only [Option.some.injEq, Out.pan.injEq] at h
      obtain ⟨h1, h2⟩ := h
      obtain ⟨b, rfl⟩ := unkill hc h2
      exact ⟨b, by rw [h1]⟩
theorem uiz {a : List UInt8} : stripC (accB a) = LZ true 1 (bytes a) := stripC_acc.trans uvr
theorem fd1_is {x y : PV} : fd 1 none (.agg [x, y]) = M.pure (stripC y) := rfl
def outW (r : KR) (H : Heap) : Option (Out PV) :=
  match r with
  | .ok _ acc => some (.ok (.tup [LZ true 1 (bytes acc), .int .i64 0]) H)
  | .err t [_, w] => if t = u0b then some (.ok (.tup [.slice false true 0 [], .int .i64 w]) H) else none
  | _ => none
theorem ux5 {f : PV} {r : KR} (hf : strip f = f) (hr : ∀ t l, r = .err t l → t = u0b ∧ ∃ p w, l = [p, w]) (hno : r ≠ .no)
    (h : ∀ (L : List Box) (c : Nat), List.length H ≤ c → c < List.length (hadd H L) → runK c (callV P C f [.ptr c 0]) (St (hadd H L) c (pB []) []) = outK c (hadd H L) [] pB encU r) :
    run (C u5l [f]) H = outW r H := by
  have e0 : ∀ (b b2 b3 : Box), St (hadd H [b2, b3, .dead]) (List.length H + 2) b [] = hadd H [b2, b3, b] := fun b b2 b3 => by
    unfold St hadd hset
    rw [List.append_nil, List.set_append_right _ _ (by omega)]
    simp
  have hh := h [.cells [.slice false true 0 []], .cells [.int .i64 0], .dead] (List.length H + 2) (by omega) (by rw [u39]; simp)
  rw [e0] at hh
  have hp : pB [] = .cells [.slice false true 0 []] := rfl
  rw [uha]
  cases r with
  | ok u acc =>
    simp only [outK, elimK, e0] at hh
    have hh := ul3 hh
    rw [hp] at hh
    simp +contextual -dsimp (disch := omega) only [↓goDown, goUp, cr, simprocAttr, hf, hh, u1o, u2e, u3y, low_B, u8d, ucw, run_mf, run_ta, bi_if, bi_ifn, cutL, ufr, Nat.reduceBeqDiff, outW, uiz, u0y, low_Z, u09, u0e, u08]
  | err t l =>
    obtain ⟨rfl, p, w, rfl⟩ := hr _ _ rfl
    simp only [outK, elimK] at hh
    obtain ⟨b, hh⟩ := usa (by rw [u39]; simp) hh
    rw [e0, hp] at hh
    simp +contextual -dsimp (disch := omega) only [↓goDown, goUp, cr, simprocAttr, hf, hh, un8, ucx, run_mf, run_ta, bi_if, bi_ifn, cutL, ufr, Nat.reduceBeqDiff, outW, List.map_cons, List.map_nil, fd1_is]
  | no => exact absurd rfl hno
def OkR (r : KR) : Prop := (∀ t l, r = .err t l → t = u0b ∧ ∃ p w, l = [p, w]) ∧ r ≠ .no
theorem put_1 {f1 : FuncId} {bx1 : Box} {r : KR} (hr : OkR r) (h : ∀ (K : Heap) (j c : Nat), hget K j = some bx1 → j < c → c < List.length K → runK c (C f1 [.ptr c 0, .ptr j 0]) (St K c (pB []) []) = outK c K [] pB encU r) :
    run (C u5l [.fn f1 [] [.ptr (List.length H) 0]]) (hadd H [bx1]) = outW r (hadd H [bx1]) :=
  ux5 (H := hadd H [bx1]) (f := .fn f1 [] [.ptr (List.length H) 0]) rfl hr.1 hr.2 (fun L c h1 h2 => by
    rw [u2f]
    refine h _ _ _ ?_ ?_ h2
    · rw [uj1, u7y]; rfl
    · rw [u39] at h1; simp at h1; omega)
end Go.Proofs.YthidcpkcfoldmaaGreat.Pi.Q
namespace Go.Proofs.YthidcpkcfoldmaaGreat.Pi.Q
open Go Go.Proofs.YthidcpkcfoldmaaGreat.Pi
attribute [local congr] ite_congr
variable {c : Nat} {H : Heap} {L : List Box} {acc : List UInt8}
theorem wf_u64 {n : Int} (h : (Lit.int .u64 n).wf = true) : 0 ≤ n ∧ n < 18446744073709551616 := by
  simp [Lit.wf, IntKind.min, IntKind.max, IntKind.bits, IntKind.signed] at h
  omega
theorem wf_i64 {n : Int} (h : (Lit.int .i64 n).wf = true) : -9223372036854775808 ≤ n ∧ n ≤ 9223372036854775807 := by
  simp [Lit.wf, IntKind.min, IntKind.max, IntKind.bits, IntKind.signed] at h
  omega
theorem get_j {bx1 : Box} {j : Nat} (hj : hget H j = some bx1) (hjc : j < c) (hc : c < List.length H) {a : Box} {L : List Box} : hget (St H c a L) j = some bx1 := by
  unfold St
  rw [ubp (by omega), ury (by omega)]
  exact hj
theorem pHeapK {h : Int} {j : Nat} (hj : hget H j = some (.cells [.int .i64 h])) (hjc : j < c) (hc : c < List.length H) : runK c (C u3w [.ptr c 0, .ptr j 0]) (St H c (pB acc) []) = outK c H [] pB encU (kHeap h acc) := by
  have hg := fun a L => get_j hj hjc hc (a := a) (L := L)
  rw [u97]
  simp +contextual -dsimp (disch := omega) only [↓kDown, kUp, ↓goDown, goUp, cr, simprocAttr, hg, heapK, u1o]
theorem pValK {v : VT} {j : Nat} (hj : hget H j = some (.cells [.int .i64 v.num, .bool v.nul, .int .i64 v.heap])) (hjc : j < c) (hc : c < List.length H) : runK c (C u42 [.ptr c 0, .ptr j 0]) (St H c (pB acc) []) = outK c H [] pB encU (kVal v acc) := by
  have hg := fun a L => get_j hj hjc hc (a := a) (L := L)
  rw [u9q]
  simp +contextual -dsimp (disch := omega) only [↓kDown, kUp, ↓goDown, goUp, cr, simprocAttr, hg, valK, u1o]
def kBlock (v : BK) (acc : List UInt8) : KR :=
  if 0 ≤ v.ty then if v.res = ⟨0, false, 0⟩ ∧ v.ty ≤ 2147483647 then .ok () (putS v.ty) else .err u0b [0, 4]
  else if v.ty < -1 then .err u0b [0, 4]
  else if v.res = ⟨0, false, 0⟩ then kPut [64] acc else kVal v.res acc
theorem uzs {v : BK} {j : Nat} (hj : hget H j = some (.cells [.int .i64 v.ty, .int .i64 v.res.num, .bool v.res.nul, .int .i64 v.res.heap])) (hjc : j < c) (hc : c < List.length H) : runK c (C u3e [.ptr c 0, .ptr j 0]) (St H c (pB acc) []) = outK c H [] pB encU (kBlock v acc) := by
  have hg := fun a L => get_j hj hjc hc (a := a) (L := L)
  have he := fun K => eql_V (H := K) (v := v.res) (n := 0)
  have hb := fun L acc => byteK (c := c) (H := H) (L := L) (acc := acc) (n := 64) (by omega) (by omega) hc
  have hp := fun (h0 : 0 ≤ v.ty) (h1 : v.ty ≤ 2147483647) K => uj9 (H := K) (n := v.ty) (by omega) (by omega)
  rw [u8v]
  unfold kBlock
  by_cases h1 : v.res = ⟨0, false, 0⟩
  · rw [decide_eq_true h1] at he
    simp +contextual -dsimp (disch := omega) only [↓kDown, kUp, ↓goDown, goUp, cr, simprocAttr, hg, he, eq_true h1, hb, toK (m := C u6d [.int .i64 v.ty]), uuu, mustK, kMust, toK (m := C u28 [.int .i64 v.ty]), hp, u2e, u3y, low_B, u1o] <;> rfl
  · rw [decide_eq_false h1] at he
    simp +contextual -dsimp (disch := omega) only [↓kDown, kUp, ↓goDown, goUp, cr, simprocAttr, hg, he, eq_false h1, hb, valK, mustK, kMust, u1o] <;> rfl
theorem uwr {h : Int} (hr : OkR (kHeap h [])) : run (C u36 [.int .i64 h]) H = outW (kHeap h []) H := by
  have hw := put_1 (H := H) (f1 := u3w) (bx1 := .cells [.int .i64 h]) hr (fun K j c hj h1 h2 => pHeapK hj h1 h2)
  rw [uac]
  cases hk : kHeap h [] with
  | ok u acc =>
    rw [hk] at hw
    simp only [outW] at hw ⊢
    simp +contextual -dsimp (disch := omega) only [↓goDown, goUp, cr, simprocAttr, run_mf, hw, u0e, u08, low_Z, u09, u0y, strip_Z]
  | err t l =>
    obtain ⟨rfl, p, w, rfl⟩ := hr.1 _ _ hk
    rw [hk] at hw
    simp only [outW, if_true] at hw ⊢
    simp +contextual -dsimp (disch := omega) only [↓goDown, goUp, cr, simprocAttr, run_mf, hw, u0e, u08, low_Z, u09, u0y, strip_Z]
  | no => exact absurd hk hr.2
theorem uyx {v : VT} (hr : OkR (kVal v [])) : run (C u3p [.agg [.int .i64 v.num, .bool v.nul, .int .i64 v.heap]]) H = outW (kVal v []) H := by
  have hw := put_1 (H := H) (f1 := u42) (bx1 := .cells [.int .i64 v.num, .bool v.nul, .int .i64 v.heap]) hr (fun K j c hj h1 h2 => pValK hj h1 h2)
  rw [ubb]
  cases hk : kVal v [] with
  | ok u acc =>
    rw [hk] at hw
    simp only [outW] at hw ⊢
    simp +contextual -dsimp (disch := omega) only [↓goDown, goUp, cr, simprocAttr, run_mf, hw, u0e, u08, low_Z, u09, u0y, strip_Z]
  | err t l =>
    obtain ⟨rfl, p, w, rfl⟩ := hr.1 _ _ hk
    rw [hk] at hw
    simp only [outW, if_true] at hw ⊢
    simp +contextual -dsimp (disch := omega) only [↓goDown, goUp, cr, simprocAttr, run_mf, hw, u0e, u08, low_Z, u09, u0y, strip_Z]
  | no => exact absurd hk hr.2
theorem uvw {v : BK} (hr : OkR (kBlock v [])) : run (C u22 [.agg [.int .i64 v.ty, .int .i64 v.res.num, .bool v.res.nul, .int .i64 v.res.heap]]) H = outW (kBlock v []) H := by
  have hw := put_1 (H := H) (f1 := u3e) (bx1 := .cells [.int .i64 v.ty, .int .i64 v.res.num, .bool v.res.nul, .int .i64 v.res.heap]) hr (fun K j c hj h1 h2 => uzs hj h1 h2)
  rw [u9e]
  cases hk : kBlock v [] with
  | ok u acc =>
    rw [hk] at hw
    simp only [outW] at hw ⊢
    simp +contextual -dsimp (disch := omega) only [↓goDown, goUp, cr, simprocAttr, run_mf, hw, u0e, u08, low_Z, u09, u0y, strip_Z]
  | err t l =>
    obtain ⟨rfl, p, w, rfl⟩ := hr.1 _ _ hk
    rw [hk] at hw
    simp only [outW, if_true] at hw ⊢
    simp +contextual -dsimp (disch := omega) only [↓goDown, goUp, cr, simprocAttr, run_mf, hw, u0e, u08, low_Z, u09, u0y, strip_Z]
  | no => exact absurd hk hr.2
end Go.Proofs.YthidcpkcfoldmaaGreat.Pi.Q
namespace Go.Proofs.YthidcpkcfoldmaaGreat.Pi.Q
open Go Go.Proofs.YthidcpkcfoldmaaGreat.Pi
attribute [local congr] ite_congr
structure WS where
  b : List UInt8
  e : Int
abbrev GR := Res WS Unit
variable {c : Nat} {H : Heap} {L : List Box} {b : List UInt8} {f : Int}
theorem WS.eta {s : WS} : (⟨s.b, s.e⟩ : WS) = s := nrfl rfl
def gPut (u : List UInt8) (s : WS) : GR := if s.b.length + u.length ≤ 140737488355328 then .ok () ⟨s.b ++ u, s.e⟩ else .no
def gMust (ok : Bool) (e : Int) (s : WS) : WS := ⟨s.b, if ok = false ∧ s.e = 0 then e else s.e⟩
def codeN (h : Int) : Nat := match find h absI 0 with | some j => 105 + j | none => 0
def gHeap (h : Int) (s : WS) : GR :=
  if h < 0 then gPut [UInt8.ofNat (codeN h)] (gMust (decide (-12 ≤ h)) 4 s) else gPut (putS h) (gMust (decide (h < 2147483648)) 4 s)
end Go.Proofs.YthidcpkcfoldmaaGreat.Pi.Q
namespace Go.Proofs.YthidcpkcfoldmaaGreat.Pi.Q
open Go Go.Proofs.YthidcpkcfoldmaaGreat.Pi
attribute [local congr] ite_congr
variable {c : Nat} {H : Heap} {L : List Box} {b : List UInt8} {f : Int}
theorem uyr (x : Int) : 0 ≤ IntKind.u8.wrap x ∧ IntKind.u8.wrap x < 256 := by
  rw [utz]
  omega
theorem uy1 {x : Int} {K : Heap} : bsR true none [.int .u8 (IntKind.u8.wrap x)] K = some (.ok (.slice true false 1 [byt (UInt8.ofNat (IntKind.u8.wrap x).toNat)]) K) := by
  obtain ⟨h0, h1⟩ := uyr x
  obtain ⟨n, hn⟩ := Int.eq_ofNat_of_zero_le h0
  rw [hn]
  exact ucl (by omega)
def gByte (n : Int) : UInt8 := if n = 7 then 119 else if n = 6 then 120 else UInt8.ofNat (IntKind.u8.wrap (IntKind.i64.wrap (128 - n))).toNat
def gValOk (field : Bool) (v : VT) : Bool := decide (((1 ≤ v.num ∧ v.num ≤ 4) ∨ (field = true ∧ (v.num = 6 ∨ v.num = 7))) ∧ v.nul = false ∧ v.heap = 0)
def gVal (field : Bool) (v : VT) (s : WS) : GR :=
  if v.num = 5 then if v.nul = true then if v.heap < 0 then gHeap v.heap s else (gPut [99] s).bind fun _ s => gHeap v.heap s else (gPut [100] s).bind fun _ s => gHeap v.heap s
  else gPut [gByte v.num] (gMust (gValOk field v) 4 s)
end Go.Proofs.YthidcpkcfoldmaaGreat.Pi.Q
namespace Go.Proofs.YthidcpkcfoldmaaGreat.Pi.Q
open Go Go.Proofs.YthidcpkcfoldmaaGreat.Pi
attribute [local congr] ite_congr
variable {c : Nat} {H : Heap} {L : List Box} {b : List UInt8} {f : Int}
def CT.wide (v : CT) : Prop := (∀ a ∈ v.ps, a.heap ≤ 9223372036854775807) ∧ (∀ a ∈ v.rs, a.heap ≤ 9223372036854775807) ∧ ∀ a ∈ v.fs, a.ty.heap ≤ 9223372036854775807
def ST.wide (v : ST) : Prop := (∀ a ∈ v.sup, a ≤ 9223372036854775807) ∧ v.comp.wide
end Go.Proofs.YthidcpkcfoldmaaGreat.Pi.Q
namespace Go.Proofs.YthidcpkcfoldmaaGreat.Pi.Q
open Go Go.Proofs.YthidcpkcfoldmaaGreat.Pi
attribute [local congr] ite_congr
variable {c : Nat} {H : Heap} {L : List Box} {b : List UInt8} {f : Int}
def doneV (b : List UInt8) (f : Int) : PV := if f = 0 then .tup [accB b, .int .i64 0] else .tup [.slice false true 0 [], .int .i64 f]
end Go.Proofs.YthidcpkcfoldmaaGreat.Pi.Q
namespace Go.Proofs.YthidcpkcfoldmaaGreat.Pi.Q
open Go Go.Proofs.YthidcpkcfoldmaaGreat.Pi
attribute [local congr] ite_congr
variable {c : Nat} {H : Heap} {L : List Box} {b : List UInt8} {f : Int}
def gBlock (v : BK) : GR :=
  if 0 ≤ v.ty then .ok () ⟨putS v.ty, (gMust (decide (v.res = ⟨0, false, 0⟩ ∧ v.ty < 2147483648)) 4 ⟨[], 0⟩).e⟩
  else if v.ty < -1 then .ok () (gMust false 4 ⟨[], 0⟩)
  else if v.res = ⟨0, false, 0⟩ then .ok () ⟨[64], 0⟩ else gVal false v.res ⟨[], 0⟩
def RT.wide (v : RT) : Prop := ∀ t ∈ v.types, t.wide
end Go.Proofs.YthidcpkcfoldmaaGreat.Pi.Q
namespace Go.Proofs.YthidcpkcfoldmaaGreat.Pi.Q
open Go Go.Proofs.YthidcpkcfoldmaaGreat.Pi
def Sim (n : Nat) (k : List UInt8 → KR) (g : WS → GR) : Prop :=
  (∀ acc, acc.length + n ≤ 140737488355328 →
    (∃ a, a.length ≤ acc.length + n ∧ k acc = .ok () a ∧ g ⟨acc, 0⟩ = .ok () ⟨a, 0⟩) ∨ (∃ e b, e ≠ 0 ∧ b.length ≤ acc.length + n ∧ k acc = .err u0b [0, e] ∧ g ⟨acc, 0⟩ = .ok () ⟨b, e⟩)) ∧
  ∀ acc e, e ≠ 0 → acc.length + n ≤ 140737488355328 → ∃ b, b.length ≤ acc.length + n ∧ g ⟨acc, e⟩ = .ok () ⟨b, e⟩
theorem Sim.mono {n m : Nat} {k : List UInt8 → KR} {g : WS → GR} (h : Sim n k g) (hnm : n ≤ m) : Sim m k g := by
  refine ⟨fun acc ha => ?_, fun acc e he ha => ?_⟩
  · rcases h.1 acc (by omega) with ⟨a, h1, h2⟩ | ⟨e, b, h1, h2, h3⟩
    · exact .inl ⟨a, by omega, h2⟩
    · exact .inr ⟨e, b, h1, by omega, h3⟩
  · obtain ⟨b, h1, h2⟩ := h.2 acc e he (by omega)
    exact ⟨b, by omega, h2⟩
theorem Sim.bind {n m : Nat} {k k' : List UInt8 → KR} {g g' : WS → GR} (h : Sim n k g) (h' : Sim m k' g') : Sim (n + m) (fun acc => (k acc).bind fun _ acc => k' acc) (fun s => (g s).bind fun _ s => g' s) := by
  refine ⟨fun acc ha => ?_, fun acc e he ha => ?_⟩
  · rcases h.1 acc (by omega) with ⟨a, h1, h2, h3⟩ | ⟨e, b, h1, h2, h3, h4⟩
    · simp only [h2, h3, Res.bind]
      rcases h'.1 a (by omega) with ⟨a', q1, q2⟩ | ⟨e, b, q1, q2, q3⟩
      · exact .inl ⟨a', by omega, q2⟩
      · exact .inr ⟨e, b, q1, by omega, q3⟩
    · simp only [h3, h4, Res.bind]
      obtain ⟨b', q1, q2⟩ := h'.2 b e h1 (by omega)
      exact .inr ⟨e, b', h1, by omega, rfl, q2⟩
  · obtain ⟨b, h1, h2⟩ := h.2 acc e he (by omega)
    simp only [h2, Res.bind]
    obtain ⟨b', q1, q2⟩ := h'.2 b e he (by omega)
    exact ⟨b', by omega, q2⟩
theorem ucs {u : List UInt8} {n : Nat} (h : u.length ≤ n) : Sim n (kPut u) (gPut u) := by
  refine ⟨fun acc ha => .inl ⟨acc ++ u, by simp; omega, ?_, ?_⟩, fun acc e he ha => ⟨acc ++ u, by simp; omega, ?_⟩⟩
  · exact if_pos (by omega)
  · exact if_pos (show acc.length + u.length ≤ _ by omega)
  · exact if_pos (show acc.length + u.length ≤ _ by omega)
theorem uyz {n : Nat} {e : Int} {g : WS → GR} (he : e ≠ 0) (h : ∀ acc, acc.length + n ≤ 140737488355328 → ∃ b, b.length ≤ acc.length + n ∧ g ⟨acc, 0⟩ = .ok () ⟨b, e⟩) (h2 : ∀ acc f, f ≠ 0 → acc.length + n ≤ 140737488355328 → ∃ b, b.length ≤ acc.length + n ∧ g ⟨acc, f⟩ = .ok () ⟨b, f⟩) : Sim n (fun _ => .err u0b [0, e]) g :=
  ⟨fun acc ha => by obtain ⟨b, h3, h4⟩ := h acc ha; exact .inr ⟨e, b, he, h3, rfl, h4⟩, h2⟩
def Runs (n : Nat) (g : WS → GR) : Prop := ∀ acc e, acc.length + n ≤ 140737488355328 → e ≠ 0 → ∃ b, b.length ≤ acc.length + n ∧ g ⟨acc, e⟩ = .ok () ⟨b, e⟩
theorem Sim.runs {n : Nat} {k : List UInt8 → KR} {g : WS → GR} (h : Sim n k g) : Runs n g := fun acc e ha he => h.2 acc e he ha
theorem Runs.mono {n m : Nat} {g : WS → GR} (h : Runs n g) (hnm : n ≤ m) : Runs m g := fun acc e ha he => by
  obtain ⟨b, h1, h2⟩ := h acc e (by omega) he
  exact ⟨b, by omega, h2⟩
theorem uji {n : Nat} {e : Int} {g : WS → GR} (he : e ≠ 0) (hg : Runs n g) : Sim n (fun _ => .err u0b [0, e]) (fun s => g (gMust false e s)) := by
  refine uyz he (fun acc ha => ?_) (fun acc f hf ha => ?_)
  · have : gMust false e ⟨acc, 0⟩ = ⟨acc, e⟩ := by simp [gMust]
    rw [this]
    exact hg acc e ha he
  · have : gMust false e ⟨acc, f⟩ = ⟨acc, f⟩ := by simp [gMust, hf]
    rw [this]
    exact hg acc f ha hf
theorem ujv {u : List UInt8} {n : Nat} (h : u.length ≤ n) : Runs n (gPut u) := (ucs h).runs
theorem u6i {n : Nat} {k k' : List UInt8 → KR} {g g' : WS → GR} (h : Sim n k g) (hk : ∀ acc, k' acc = k acc) (hg : ∀ s, g' s = g s) : Sim n k' g' := by
  have e1 : k' = k := funext hk
  have e2 : g' = g := funext hg
  rw [e1, e2]
  exact h
theorem uhs {h : Int} : ∀ (l : List Int) (i j : Nat), find h l i = some j → h ∈ l
  | [], i, j, e => by cases e
  | a :: r, i, j, e => by
    unfold find at e
    split at e
    · rename_i ha; rw [ha]; simp
    · exact List.mem_cons_of_mem _ (uhs r (i + 1) j e)
theorem uv0 {h : Int} (hh : h < 0) (h2 : -12 ≤ h) : ∃ j, find h absI 0 = some j ∧ j < 12 := by
  have : h = -11 ∨ h = -9 ∨ h = -8 ∨ h = -7 ∨ h = -6 ∨ h = -5 ∨ h = -3 ∨ h = -1 ∨ h = -10 ∨ h = -4 ∨ h = -2 ∨ h = -12 := by omega
  rcases this with rfl | rfl | rfl | rfl | rfl | rfl | rfl | rfl | rfl | rfl | rfl | rfl <;> exact ⟨_, rfl, by decide⟩
theorem ujz {h : Int} (h1 : -9223372036854775808 ≤ h) (h2 : h ≤ 9223372036854775807) : Sim 10 (kHeap h) (gHeap h) := by
  by_cases h0 : h < 0
  · by_cases h3 : -12 ≤ h
    · obtain ⟨j, hj, hj12⟩ := uv0 h0 h3
      refine u6i (ucs (u := [UInt8.ofNat (105 + j)]) (n := 10) (by simp)) (fun acc => ?_) (fun s => ?_)
      · unfold kHeap; rw [if_neg (by omega), hj]; rfl
      · unfold gHeap
        rw [if_pos h0, decide_eq_true h3]
        have : gMust true 4 s = s := by simp [gMust]
        rw [this]
        unfold codeN
        rw [hj]
    · refine u6i (uji (e := 4) (by decide) (ujv (u := [UInt8.ofNat (codeN h)]) (n := 10) (by simp))) (fun acc => ?_) (fun s => ?_)
      · unfold kHeap
        rw [if_neg (by omega)]
        have : find h absI 0 = none := by
          cases hf : find h absI 0 with
          | none => rfl
          | some j =>
            have := uhs _ _ _ hf
            simp [absI] at this
            omega
        rw [this]
        rfl
      · unfold gHeap
        rw [if_pos h0, decide_eq_false h3]
  · have hten : (putS h).length ≤ 10 := u9y 9 h (by omega) (by omega)
    by_cases h3 : h ≤ 2147483647
    · refine u6i (ucs (u := putS h) hten) (fun acc => ?_) (fun s => ?_)
      · unfold kHeap; rw [if_pos (by omega), if_pos h3]
      · unfold gHeap
        rw [if_neg h0, decide_eq_true (show h < 2147483648 by omega)]
        have : gMust true 4 s = s := by simp [gMust]
        rw [this]
    · refine u6i (uji (e := 4) (by decide) (ujv (u := putS h) hten)) (fun acc => ?_) (fun s => ?_)
      · unfold kHeap; rw [if_pos (by omega), if_neg h3]
      · unfold gHeap
        rw [if_neg h0, decide_eq_false (show ¬ h < 2147483648 by omega)]
def I64 (n : Int) : Prop := -9223372036854775808 ≤ n ∧ n ≤ 9223372036854775807
theorem uu8 {e : Int} {s : WS} : gMust true e s = s := by simp [gMust]
theorem unz {v : VT} (h1 : I64 v.heap) : Sim 11 (kVal v) (gVal false v) := by
  have hh := ujz h1.1 h1.2
  by_cases h5 : v.num = 5
  · cases hn : v.nul with
    | true =>
      by_cases h0 : v.heap < 0
      · refine u6i (hh.mono (by omega)) (fun acc => ?_) (fun s => ?_)
        · unfold kVal; rw [if_pos h5, if_neg (by simp [hn]), if_neg (by omega)]; rfl
        · unfold gVal; rw [if_pos h5, if_pos hn, if_pos h0]
      · refine u6i (Sim.bind (ucs (u := [99]) (n := 1) (by simp)) hh) (fun acc => ?_) (fun s => ?_)
        · unfold kVal; rw [if_pos h5, if_neg (by simp [hn]), if_pos (by omega)]
        · unfold gVal; rw [if_pos h5, if_pos hn, if_neg h0]
    | false =>
      refine u6i (Sim.bind (ucs (u := [100]) (n := 1) (by simp)) hh) (fun acc => ?_) (fun s => ?_)
      · unfold kVal; rw [if_pos h5, if_pos hn]
      · unfold gVal; rw [if_pos h5, if_neg (by simp [hn])]
  · by_cases hc : 1 ≤ v.num ∧ v.num ≤ 4 ∧ v.nul = false ∧ v.heap = 0
    · obtain ⟨c1, c2, c3, c4⟩ := hc
      refine u6i (ucs (u := [UInt8.ofNat (128 - v.num).toNat]) (n := 11) (by simp)) (fun acc => ?_) (fun s => ?_)
      · unfold kVal; rw [if_neg h5, if_pos ⟨c1, c2, c3, c4⟩]
      · unfold gVal
        have e1 : gValOk false v = true := by unfold gValOk; exact decide_eq_true ⟨.inl ⟨c1, c2⟩, c3, c4⟩
        have e2 : gByte v.num = UInt8.ofNat (128 - v.num).toNat := by
          unfold gByte
          rw [if_neg (by omega), if_neg (by omega), w_i64 (by omega), w_u8 (by omega)]
        rw [if_neg h5, e1, uu8, e2]
    · refine u6i (uji (e := 4) (by decide) (ujv (u := [gByte v.num]) (n := 11) (by simp))) (fun acc => ?_) (fun s => ?_)
      · unfold kVal; rw [if_neg h5, if_neg hc]
      · unfold gVal
        have e1 : gValOk false v = false := by
          unfold gValOk
          refine decide_eq_false (fun h => hc ?_)
          obtain ⟨h | h, h3, h4⟩ := h
          · exact ⟨h.1, h.2, h3, h4⟩
          · cases h.1
        rw [if_neg h5, e1]
def CT.w (v : CT) : Prop := (∀ a ∈ v.ps, I64 a.heap) ∧ (∀ a ∈ v.rs, I64 a.heap) ∧ ∀ a ∈ v.fs, I64 a.ty.heap
theorem Runs.bind {n m : Nat} {g g' : WS → GR} (h : Runs n g) (h' : Runs m g') : Runs (n + m) (fun s => (g s).bind fun _ s => g' s) := fun acc e ha he => by
  obtain ⟨b, h1, h2⟩ := h acc e (by omega) he
  simp only [h2, Res.bind]
  obtain ⟨b', q1, q2⟩ := h' b e (by omega) he
  exact ⟨b', by omega, q2⟩
end Go.Proofs.YthidcpkcfoldmaaGreat.Pi.Q
namespace Go.Proofs.YthidcpkcfoldmaaGreat.Pi.Q
open Go Go.Proofs.YthidcpkcfoldmaaGreat.Pi
attribute [local congr] ite_congr
def ST.w (v : ST) : Prop := (∀ a ∈ v.sup, I64 a) ∧ v.comp.w
def RT.w (v : RT) : Prop := ∀ t ∈ v.types, t.w
def Both (k : KR) (g : GR) : Prop := (∃ a, k = .ok () a ∧ g = .ok () ⟨a, 0⟩) ∨ (∃ e b, e ≠ 0 ∧ k = .err u0b [0, e] ∧ g = .ok () ⟨b, e⟩)
theorem Sim.both {n : Nat} {k : List UInt8 → KR} {g : WS → GR} (h : Sim n k g) (hn : n ≤ 140737488355328) : Both (k []) (g ⟨[], 0⟩) := by
  rcases h.1 [] (by simpa using hn) with ⟨a, h1, h2, h3⟩ | ⟨e, b, h1, h2, h3, h4⟩
  · exact .inl ⟨a, h2, h3⟩
  · exact .inr ⟨e, b, h1, h3, h4⟩
theorem ur8 {v : BK} (h1 : I64 v.res.heap) : Both (kBlock v []) (gBlock v) := by
  unfold kBlock gBlock
  by_cases h0 : 0 ≤ v.ty
  · rw [if_pos h0, if_pos h0]
    by_cases hc : v.res = ⟨0, false, 0⟩ ∧ v.ty ≤ 2147483647
    · rw [if_pos hc, decide_eq_true ⟨hc.1, by omega⟩]
      exact .inl ⟨_, rfl, rfl⟩
    · rw [if_neg hc, decide_eq_false (fun h => hc ⟨h.1, by omega⟩)]
      exact .inr ⟨4, _, by decide, rfl, rfl⟩
  · rw [if_neg h0, if_neg h0]
    by_cases h3 : v.ty < -1
    · rw [if_pos h3, if_pos h3]
      exact .inr ⟨4, _, by decide, rfl, rfl⟩
    · rw [if_neg h3, if_neg h3]
      by_cases hz : v.res = ⟨0, false, 0⟩
      · rw [if_pos hz, if_pos hz]
        exact .inl ⟨_, rfl, rfl⟩
      · rw [if_neg hz, if_neg hz]
        exact (unz h1).both (by decide)
end Go.Proofs.YthidcpkcfoldmaaGreat.Pi.Q
namespace Go.Proofs.YthidcpkcfoldmaaGreat.Pi.Q
open Go Go.Proofs.YthidcpkcfoldmaaGreat.Pi
def At (b : List UInt8) (p : Nat) (u : List UInt8) : Prop := p ≤ b.length ∧ ∃ y, b.drop p = u ++ y
theorem u6a {b : List UInt8} {p : Nat} {c : UInt8} {u : List UInt8} (h : At b p (c :: u)) : p < b.length ∧ b.getD p 0 = c ∧ At b (p + 1) u := by
  obtain ⟨h1, y, h2⟩ := h
  have hl : p < b.length := by
    have := congrArg List.length h2
    simp at this
    omega
  have hd := List.drop_eq_getElem_cons hl
  rw [hd, List.cons_append, List.cons.injEq] at h2
  refine ⟨hl, ?_, by omega, y, h2.2⟩
  simp [hl, h2.1]
theorem u2h {b : List UInt8} {p : Nat} {u v : List UInt8} (h : At b p (u ++ v)) : At b p u ∧ At b (p + u.length) v := by
  obtain ⟨h1, y, h2⟩ := h
  have hl : p + (u ++ v).length ≤ b.length := by
    have := congrArg List.length h2
    simp at this
    simp
    omega
  refine ⟨⟨h1, v ++ y, by rw [h2, List.append_assoc]⟩, by simp at hl; omega, y, ?_⟩
  rw [← List.drop_drop, h2, List.append_assoc, List.drop_left]
theorem at_mid {x u y : List UInt8} : At (x ++ u ++ y) x.length u := ⟨by simp, y, by rw [List.append_assoc, List.drop_left]⟩
theorem at_le {b : List UInt8} {p : Nat} {u : List UInt8} (h : At b p u) : p + u.length ≤ b.length := by
  obtain ⟨h1, y, h2⟩ := h
  have := congrArg List.length h2
  simp at this
  omega
theorem u1p {n : Nat} (h : n < 256) : (UInt8.ofNat n).toNat = n := by rw [UInt8.toNat_ofNat', Nat.mod_eq_of_lt h]
theorem pow7 (i : Nat) : 2 ^ (7 * (i + 1)) = 2 ^ (7 * i) * 128 := by rw [Nat.mul_add, Nat.pow_add]
theorem uot {b : List UInt8} {B : Nat} : ∀ (f i n p m : Nat), At b p (putU m) → 7 * i < B → m * 2 ^ (7 * i) < 2 ^ B → m < 128 ^ (f + 1) → lebU b B b.length (f + 1) i n p = .ok (n + m * 2 ^ (7 * i)) (p + (putU m).length)
  | f, i, n, p, m, ha, hi, hm, hf => by
    have hz : ∀ k : Nat, 0 < 2 ^ k := fun k => Nat.pow_pos (by omega)
    rw [putU] at ha ⊢
    unfold lebU
    by_cases h1 : m < 128
    · rw [if_pos h1] at ha ⊢
      obtain ⟨a1, a2, a3⟩ := u6a ha
      simp only [if_pos a1, a2, u1p (show m < 256 by omega)]
      have h2 : ¬ (B < 7 * i + 7 ∧ m / 2 ^ (B - 7 * i) ≠ 0) := by
        rintro ⟨h3, h4⟩
        apply h4
        apply Nat.div_eq_of_lt
        have e : 2 ^ B = 2 ^ (B - 7 * i) * 2 ^ (7 * i) := by rw [← Nat.pow_add, Nat.sub_add_cancel (by omega)]
        rw [e] at hm
        exact Nat.lt_of_mul_lt_mul_right hm
      rw [if_neg h2, if_pos h1]
      simp
    · rw [if_neg h1] at ha ⊢
      obtain ⟨a1, a2, a3⟩ := u6a ha
      have hge : 128 * 2 ^ (7 * i) ≤ m * 2 ^ (7 * i) := Nat.mul_le_mul_right _ (by omega)
      have e7 : 128 * 2 ^ (7 * i) = 2 ^ (7 * i + 7) := by rw [Nat.pow_add, Nat.mul_comm]
      have hB : 7 * i + 7 < B := by
        by_cases h : 7 * i + 7 < B
        · exact h
        · have : 2 ^ B ≤ 2 ^ (7 * i + 7) := Nat.pow_le_pow_right (by omega) (by omega)
          omega
      simp only [if_pos a1, a2, u1p (show m % 128 + 128 < 256 by omega)]
      rw [if_neg (by omega), if_neg (by omega)]
      have e1 : (m % 128 + 128) % 128 = m % 128 := by omega
      have hd : m = m % 128 + 128 * (m / 128) := by omega
      have e2 : m / 128 * 2 ^ (7 * (i + 1)) + m % 128 * 2 ^ (7 * i) = m * 2 ^ (7 * i) := by
        rw [pow7]
        conv => rhs; rw [hd, Nat.add_mul]
        rw [Nat.mul_comm (2 ^ (7 * i)) 128, ← Nat.mul_assoc, Nat.mul_comm (m / 128) 128]
        omega
      cases f with
      | zero => simp at hf; omega
      | succ f =>
      rw [e1, uot f (i + 1) (n + m % 128 * 2 ^ (7 * i)) (p + 1) (m / 128) a3 (by omega) (by omega) (by
        have : 128 ^ (f + 1 + 1) = 128 ^ (f + 1) * 128 := Nat.pow_succ ..
        exact Nat.div_lt_of_lt_mul (by omega))]
      simp only [List.length_cons, Rs.ok.injEq]
      omega
theorem uz7 {b : List UInt8} {B p n : Nat} (ha : At b p (putU n)) (hB : 0 < B) (hB' : B ≤ 64) (hn : n < 2 ^ B) : rdU b B b.length p = .ok n (p + (putU n).length) := by
  have : 2 ^ B ≤ 2 ^ 64 := Nat.pow_le_pow_right (by omega) hB'
  have h := uot (B := B) 9 0 0 p n ha (by omega) (by simpa using hn) (by omega)
  unfold rdU
  simpa using h
theorem uov {b : List UInt8} {B : Nat} (hB : B ≤ 64) : ∀ (f i n p : Nat) (m : Int), At b p (putS m) → 7 * i < B → n < 2 ^ (7 * i) → -(2 ^ (B - 7 * i - 1) : Nat) ≤ m → m < (2 ^ (B - 7 * i - 1) : Nat) → -(64 * 128 ^ f) ≤ m → m < 64 * 128 ^ f →
    lebS b B b.length (f + 1) i n p = .ok (IntKind.i64.wrap (n + m * 2 ^ (7 * i))) (p + (putS m).length)
  | f, i, n, p, m, ha, hi, hn, hm, hm', hf, hf' => by
    have hz : ∀ k : Nat, 0 < 2 ^ k := fun k => Nat.pow_pos (by omega)
    rw [putS] at ha ⊢
    unfold lebS
    by_cases h1 : -64 ≤ m ∧ m ≤ 63
    · rw [if_pos h1] at ha ⊢
      obtain ⟨a1, a2, a3⟩ := u6a ha
      have hlt : (m % 128).toNat < 128 := by omega
      simp only [if_pos a1, a2, u1p (show (m % 128).toNat < 256 by omega)]
      have h2 : ¬ (B < 7 * i + 7 ∧ ¬ okS (B - 7 * i) (m % 128).toNat) := by
        rintro ⟨h3, h4⟩
        apply h4
        unfold okS
        refine ⟨hlt, ?_⟩
        have : B - 7 * i = 1 ∨ B - 7 * i = 2 ∨ B - 7 * i = 3 ∨ B - 7 * i = 4 ∨ B - 7 * i = 5 ∨ B - 7 * i = 6 := by omega
        rcases this with h | h | h | h | h | h <;> rw [h] at hm hm' ⊢ <;> simp at hm hm' ⊢ <;> omega
      rw [if_neg h2, if_pos hlt]
      have h5 : lastS (m % 128).toNat (7 * i) = m * 2 ^ (7 * i) := by
        unfold lastS
        congr 1
        split <;> omega
      rw [h5]
      simp
    · rw [if_neg h1] at ha ⊢
      obtain ⟨a1, a2, a3⟩ := u6a ha
      have hB7 : 7 * i + 7 < B := by
        by_cases h : 7 * i + 7 < B
        · exact h
        · have : 2 ^ (B - 7 * i - 1) ≤ 2 ^ 6 := Nat.pow_le_pow_right (by omega) (by omega)
          omega
      simp only [if_pos a1, a2, u1p (show (m % 128).toNat + 128 < 256 by omega)]
      rw [if_neg (by omega), if_neg (by omega)]
      have e1 : ((m % 128).toNat + 128) % 128 = (m % 128).toNat := by omega
      cases f with
      | zero => simp at hf hf'; omega
      | succ f =>
      have e3 : 2 ^ (B - 7 * i - 1) = 2 ^ (B - 7 * (i + 1) - 1) * 128 := by
        rw [show B - 7 * i - 1 = (B - 7 * (i + 1) - 1) + 7 by omega, Nat.pow_add]
      have e4 : (128 : Int) ^ (f + 1) = 128 ^ f * 128 := Int.pow_succ ..
      have h5 : (m % 128).toNat * 2 ^ (7 * i) ≤ 127 * 2 ^ (7 * i) := Nat.mul_le_mul_right _ (by omega)
      have hp7 := pow7 i
      rw [e1, uov hB f (i + 1) (n + (m % 128).toNat * 2 ^ (7 * i)) (p + 1) (m / 128) a3 (by omega) (by omega) (by omega) (by omega) (by omega) (by omega)]
      have e5 : (((n + (m % 128).toNat * 2 ^ (7 * i) : Nat) : Int) + m / 128 * 2 ^ (7 * (i + 1))) = n + m * 2 ^ (7 * i) := by
        have h7 : (2 : Int) ^ (7 * (i + 1)) = 2 ^ (7 * i) * 128 := by rw [Nat.mul_add, Int.pow_add]; rfl
        have h8 : (((m % 128).toNat : Nat) : Int) = m % 128 := Int.toNat_of_nonneg (by omega)
        have h9 : m = m % 128 + m / 128 * 128 := by omega
        rw [Int.natCast_add, Int.natCast_mul, h8, h7]
        conv => rhs; rw [h9, Int.add_mul]
        have : ((2 ^ (7 * i) : Nat) : Int) = 2 ^ (7 * i) := by simp
        rw [this, Int.mul_assoc, Int.mul_comm 128 (2 ^ (7 * i)), Int.add_assoc]
        
      rw [e5]
      simp only [List.length_cons, Rs.ok.injEq, true_and]
      omega
theorem uw3 {b : List UInt8} {B p : Nat} {n : Int} (ha : At b p (putS n)) (hB : 0 < B) (hB' : B ≤ 64) (hn : -(2 ^ (B - 1) : Nat) ≤ n) (hn' : n < (2 ^ (B - 1) : Nat)) : rdS b B b.length p = .ok n (p + (putS n).length) := by
  have : 2 ^ (B - 1) ≤ 2 ^ 63 := Nat.pow_le_pow_right (by omega) (by omega)
  have h := uov hB' 9 0 0 p n ha (by omega) (by simp) (by simpa using hn) (by simpa using hn') (by omega) (by omega)
  have hw : IntKind.i64.wrap n = n := by rw [wi]; omega
  unfold rdS
  rw [h]
  simp [hw]
end Go.Proofs.YthidcpkcfoldmaaGreat.Pi.Q
namespace Go.Proofs.YthidcpkcfoldmaaGreat.Pi.Q
open Go Go.Proofs.YthidcpkcfoldmaaGreat.Pi
def Back {α : Type} (r : List UInt8 → Nat → Rs α) (w : α → Wr) : Prop := ∀ v u, w v = .ok u → ∀ b p, At b p u → r b p = .ok v (p + u.length)
theorem ud0 : ∀ (h : Int), h < 0 → ∀ j, find h absI 0 = some j → j < 12 ∧ hname (105 + j) = h := by
  intro h hn j hj
  by_cases hin : h = -11 ∨ h = -9 ∨ h = -8 ∨ h = -7 ∨ h = -6 ∨ h = -5 ∨ h = -3 ∨ h = -1 ∨ h = -10 ∨ h = -4 ∨ h = -2 ∨ h = -12
  · rcases hin with rfl | rfl | rfl | rfl | rfl | rfl | rfl | rfl | rfl | rfl | rfl | rfl <;> (cases hj; exact ⟨by decide, by decide⟩)
  · have : find h absI 0 = none := by
      unfold absI
      simp only [find]
      rw [if_neg (by omega), if_neg (by omega), if_neg (by omega), if_neg (by omega), if_neg (by omega), if_neg (by omega), if_neg (by omega), if_neg (by omega), if_neg (by omega), if_neg (by omega), if_neg (by omega), if_neg (by omega)]
    rw [this] at hj
    cases hj
theorem uoi {v : Int} (h0 : 0 ≤ v) (h1 : v ≤ 2147483647) {b : List UInt8} {p : Nat} (ha : At b p (putS v)) : rS33 b p = .ok v (p + (putS v).length) := by
  unfold rS33
  rw [uw3 ha (by decide) (by decide) (by omega) (by simp; omega)]
  simp only
  rw [if_neg (by omega), if_neg (by omega)]
theorem ukg {v : Int} (h0 : 0 ≤ v) : ∃ c r, putS v = c :: r ∧ (c.toNat < 64 ∨ 128 ≤ c.toNat) := by
  rw [putS]
  split
  · refine ⟨_, _, rfl, ?_⟩
    rw [u1p (by omega)]
    omega
  · refine ⟨_, _, rfl, ?_⟩
    rw [u1p (by omega)]
    omega
theorem ufa : Back rHeap wHeap := by
  intro v u h b p ha
  unfold wHeap at h
  split at h
  · split at h
    · rename_i h0 h1
      cases h
      obtain ⟨c, r, hc, hcr⟩ := ukg h0
      have hs := uoi h0 h1 ha
      rw [hc] at ha
      obtain ⟨a1, a2, a3⟩ := u6a ha
      unfold rHeap
      rw [if_pos a1, a2, if_neg (by rw [ug7 (by omega)]; simp), hs]
    · cases h
  · rename_i h0
    unfold wNamed at h
    cases hf : find v absI 0 with
    | some j =>
      rw [hf] at h
      cases h
      obtain ⟨hj, hn⟩ := ud0 v (by omega) j hf
      obtain ⟨a1, a2, a3⟩ := u6a ha
      unfold rHeap
      rw [if_pos a1, a2, u1p (by omega), hn, if_pos (by omega)]
      rfl
    | none => rw [hf] at h; cases h
theorem uvi {u : List UInt8} {w : Wr} {v : List UInt8} (h : wCat u w = .ok v) : ∃ x, w = .ok x ∧ v = u ++ x := by
  cases w with
  | ok x => cases h; exact ⟨x, rfl, rfl⟩
  | err e => cases h
theorem ups : Back rVal wVal := by
  intro v u h b p ha
  obtain ⟨num, nul, heap⟩ := v
  unfold wVal at h
  simp only at h
  split at h
  · rename_i h5
    subst h5
    obtain ⟨x, hx, rfl⟩ := uvi h
    cases nul with
    | false =>
      rw [if_pos rfl] at ha ⊢
      obtain ⟨a1, a2, a3⟩ := u6a ha
      have := ufa _ _ hx _ _ a3
      unfold rVal rRef
      rw [if_pos a1, a2, if_neg (by decide), if_neg (by decide), if_pos a1]
      simp only [a2]
      rw [if_neg (by decide), if_neg (by decide), this]
      simp only [List.length_append, List.length_cons, List.length_nil, Rs.ok.injEq]
      exact ⟨rfl, by omega⟩
    | true =>
      rw [if_neg (by simp)] at ha ⊢
      by_cases h0 : 0 ≤ heap
      · rw [if_pos h0] at ha ⊢
        obtain ⟨a1, a2, a3⟩ := u6a ha
        have := ufa _ _ hx _ _ a3
        unfold rVal rRef
        rw [if_pos a1, a2, if_neg (by decide), if_neg (by decide), if_pos a1]
        simp only [a2]
        rw [if_neg (by decide), if_neg (by decide), this]
        simp only [List.length_append, List.length_cons, List.length_nil, Rs.ok.injEq]
        exact ⟨rfl, by omega⟩
      · rw [if_neg h0] at ha ⊢
        unfold wHeap at hx
        rw [if_neg h0] at hx
        unfold wNamed at hx
        cases hf : find heap absI 0 with
        | some j =>
          rw [hf] at hx
          cases hx
          obtain ⟨hj, hn⟩ := ud0 heap (by omega) j hf
          rw [List.nil_append] at ha ⊢
          obtain ⟨a1, a2, a3⟩ := u6a ha
          unfold rVal rRef
          rw [if_pos a1, a2, u1p (by omega), if_neg (by omega), if_neg (by omega), if_pos a1]
          simp only [a2, u1p (show 105 + j < 256 by omega)]
          rw [hn, if_pos (by omega)]
          rfl
        | none => rw [hf] at hx; cases hx
  · split at h
    · rename_i h5 hc
      obtain ⟨c1, c2, c3, c4⟩ := hc
      cases h
      obtain ⟨a1, a2, a3⟩ := u6a ha
      unfold rVal
      rw [if_pos a1, a2, u1p (by omega), if_neg (by omega), if_pos (by omega)]
      simp only [List.length_cons, List.length_nil, Rs.ok.injEq, VT.mk.injEq, and_true]
      refine ⟨by omega, ?_, ?_⟩
      · exact c3.symm
      · exact c4.symm
    · cases h
def RT.plain (v : RT) : RT := ⟨v.types, decide (v.types.length ≠ 1)⟩
end Go.Proofs.YthidcpkcfoldmaaGreat.Pi.Q
