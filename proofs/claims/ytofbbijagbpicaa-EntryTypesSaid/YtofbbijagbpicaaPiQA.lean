/- What the functions are, told. -/
import Derived.Test.YtofbbijagbpicaaPiK
namespace Go.Proofs.Ytofbbijagbpicaa.Pi.Q
open Go Go.Proofs.Ytofbbijagbpicaa.Pi
set_option linter.unusedVariables false
set_option maxRecDepth 100000
/-- ratchet/ratchetlaw08.EntryWrites -/
theorem ratchetlaw08_EntryWrites_eq (a0 a1 a2 a3 a4 : PV) : C k_ratchetlaw08_EntryWrites [a0, a1, a2, a3, a4] =
 trunc (M.bind (bx 3 a0) fun t5_0 =>
 M.bind (bx 4 a1) fun t6_1 =>
 M.bind (bx 2 a2) fun t7_2 =>
 M.bind (bx 4 a3) fun t8_3 =>
 M.bind (fa 2 t5_0) fun t16_4 =>
 M.bind (ld none false t16_4) fun t17_5 =>
 M.bind (C k_entry_PutHeapType [(strip t17_5)]) fun t18_6 =>
 M.bind (ex 0 (strip t18_6)) fun t19_7 =>
 M.bind (ex 1 (tupDrop 0 (strip t18_6))) fun t20_8 =>
 M.bind (fa 2 t5_0) fun t22_9 =>
 M.bind (ld none false t22_9) fun t23_10 =>
 M.bind (C k_ratchetref08_PutHeapType [(strip t23_10)]) fun t24_11 =>
 M.bind (ex 0 (strip t24_11)) fun t25_12 =>
 M.bind (ex 1 (tupDrop 0 (strip t24_11))) fun t26_13 =>
 M.bind (C k_ratchetlaw08_same [(strip (strip t19_7)), (strip (strip t20_8)), (strip (strip t25_12)), (strip (strip t26_13))]) fun t31_14 =>
 M.bind (un .not t31_14) fun t32_15 =>
 condM t32_15
 (M.pure (.bool false))
 (M.bind (ld (some 3) false t5_0) fun t34_16 =>
 M.bind (C k_entry_PutValType [(strip t34_16)]) fun t35_17 =>
 M.bind (ex 0 (strip t35_17)) fun t36_18 =>
 M.bind (ex 1 (tupDrop 0 (strip t35_17))) fun t37_19 =>
 M.bind (ld (some 3) false t5_0) fun t39_20 =>
 M.bind (C k_ratchetref08_PutValType [(strip t39_20)]) fun t40_21 =>
 M.bind (ex 0 (strip t40_21)) fun t41_22 =>
 M.bind (ex 1 (tupDrop 0 (strip t40_21))) fun t42_23 =>
 M.bind (C k_ratchetlaw08_same [(strip (strip t36_18)), (strip (strip t37_19)), (strip (strip t41_22)), (strip (strip t42_23))]) fun t47_24 =>
 M.bind (un .not t47_24) fun t48_25 =>
 condM t48_25
 (M.pure (.bool false))
 (M.bind (ld (some 4) false t6_1) fun t50_26 =>
 M.bind (C k_entry_PutBlockType [(strip t50_26)]) fun t51_27 =>
 M.bind (ex 0 (strip t51_27)) fun t52_28 =>
 M.bind (ex 1 (tupDrop 0 (strip t51_27))) fun t53_29 =>
 M.bind (ld (some 4) false t6_1) fun t55_30 =>
 M.bind (C k_ratchetref08_PutBlockType [(strip t55_30)]) fun t56_31 =>
 M.bind (ex 0 (strip t56_31)) fun t57_32 =>
 M.bind (ex 1 (tupDrop 0 (strip t56_31))) fun t58_33 =>
 M.bind (C k_ratchetlaw08_same [(strip (strip t52_28)), (strip (strip t53_29)), (strip (strip t57_32)), (strip (strip t58_33))]) fun t63_34 =>
 M.bind (un .not t63_34) fun t64_35 =>
 condM t64_35
 (M.pure (.bool false))
 (M.bind (ld (some 2) false t7_2) fun t66_36 =>
 M.bind (C k_entry_PutRecType [(strip t66_36)]) fun t67_37 =>
 M.bind (ex 0 (strip t67_37)) fun t68_38 =>
 M.bind (ex 1 (tupDrop 0 (strip t67_37))) fun t69_39 =>
 M.bind (ld (some 2) false t7_2) fun t71_40 =>
 M.bind (C k_ratchetref08_PutRecType [(strip t71_40)]) fun t72_41 =>
 M.bind (ex 0 (strip t72_41)) fun t73_42 =>
 M.bind (ex 1 (tupDrop 0 (strip t72_41))) fun t74_43 =>
 M.bind (C k_ratchetlaw08_same [(strip (strip t68_38)), (strip (strip t69_39)), (strip (strip t73_42)), (strip (strip t74_43))]) fun t79_44 =>
 M.bind (un .not t79_44) fun t80_45 =>
 condM t80_45
 (M.pure (.bool false))
 (M.bind (ld (some 4) false t8_3) fun t82_46 =>
 M.bind (C k_entry_PutLimits [(strip t82_46)]) fun t83_47 =>
 M.bind (ex 0 (strip t83_47)) fun t84_48 =>
 M.bind (ex 1 (tupDrop 0 (strip t83_47))) fun t85_49 =>
 M.bind (ld (some 4) false t8_3) fun t87_50 =>
 M.bind (C k_ratchetref08_PutLimits [(strip t87_50)]) fun t88_51 =>
 M.bind (ex 0 (strip t88_51)) fun t89_52 =>
 M.bind (ex 1 (tupDrop 0 (strip t88_51))) fun t90_53 =>
 M.bind (C k_ratchetlaw08_same [(strip (strip t84_48)), (strip (strip t85_49)), (strip (strip t89_52)), (strip (strip t90_53))]) fun t95_54 =>
 M.bind (un .not t95_54) fun t96_55 =>
 condM t96_55
 (M.pure (.bool false))
 (M.bind (C k_entry_PutTag [(strip (strip a4))]) fun t99_56 =>
 M.bind (ex 0 (strip t99_56)) fun t100_57 =>
 M.bind (ex 1 (tupDrop 0 (strip t99_56))) fun t101_58 =>
 M.bind (C k_ratchetref08_PutTag [(strip (strip a4))]) fun t104_59 =>
 M.bind (ex 0 (strip t104_59)) fun t105_60 =>
 M.bind (ex 1 (tupDrop 0 (strip t104_59))) fun t106_61 =>
 M.bind (C k_ratchetlaw08_same [(strip (strip t100_57)), (strip (strip t101_58)), (strip (strip t105_60)), (strip (strip t106_61))]) fun t111_62 =>
 M.bind (gd (strip t111_62) true (C k_ratchetlaw08_awake [])) fun t113_63 =>
 M.bind (pick (strip t111_62) t113_63 (.bool false)) fun t114_64 =>
 resT t114_64 (M.pure t114_64))))))) := by
 rw [C, callW_eq _ _ rfl]; kernel_rfl
noncomputable def p_ratchetlaw08_EntryTypes_1111111111111111010 (v4 v15 v16 v17 : PV) : M PV := atP P X k_ratchetlaw08_EntryTypes [1, 1, 1, 1, 1, 1, 1, 1, 1, 1, 1, 1, 1, 1, 1, 1, 0, 1, 0] (mkEnv 171 0 [(4, v4), (15, v15), (16, v16), (17, v17)])
theorem p_ratchetlaw08_EntryTypes_1111111111111111010_eq (v4 v15 v16 v17 : PV) : p_ratchetlaw08_EntryTypes_1111111111111111010 v4 v15 v16 v17 =
 M.bind (lnL (strip v15)) fun t157_0 =>
 M.bind (bi .lss .none (strip v17) t157_0) fun t158_1 =>
 condM t158_1
 (nb (iaS 3 (strip v15) (strip v17)) fun t163_2 =>
 nb (ld (some 3) false t163_2) fun t164_3 =>
 nb (iaS 3 (strip v16) (strip v17)) fun t167_4 =>
 nb (ld (some 3) false t167_4) fun t168_5 =>
 nb (bi .neq (.struct [.int, .bool, .int]) t164_3 t168_5) fun t169_6 =>
 condM t169_6
 (M.pure (.bool false))
 (M.bind (bi .add .none (strip v17) (.int .i64 1)) fun t160_7 =>
 p_ratchetlaw08_EntryTypes_1111111111111111010 v4 v15 v16 t160_7))
 (M.bind (C k_ratchetlaw08_awake []) fun t170_8 =>
 resT t170_8 (M.pure t170_8)) :=
 (atP_step P X _ _ _).trans (by kernel_rfl)
/-- ratchet/ratchetlaw08.EntryTypes -/
theorem ratchetlaw08_EntryTypes_eq (a0 a1 : PV) : C k_ratchetlaw08_EntryTypes [a0, a1] =
 trunc (M.bind (C k_entry_HeapType [(strip (strip a0)), (strip (strip a1))]) fun t21_0 =>
 M.bind (ex 0 (strip t21_0)) fun t22_1 =>
 M.bind (ex 1 (tupDrop 0 (strip t21_0))) fun t23_2 =>
 M.bind (ex 2 (tupDrop 1 (tupDrop 0 (strip t21_0)))) fun t24_3 =>
 M.bind (C k_ratchetref08_HeapType [(strip (strip a0)), (strip (strip a1))]) fun t28_4 =>
 M.bind (ex 0 (strip t28_4)) fun t29_5 =>
 M.bind (ex 1 (tupDrop 0 (strip t28_4))) fun t30_6 =>
 M.bind (ex 2 (tupDrop 1 (tupDrop 0 (strip t28_4)))) fun t31_7 =>
 M.bind (bi .neq .none (strip t22_1) (strip t29_5)) fun t34_8 =>
 M.bind (gd (strip t34_8) false (M.pure (strip t23_2))) fun t36_9 =>
 M.bind (gd (strip t34_8) false (M.pure (strip t30_6))) fun t37_10 =>
 M.bind (gd (strip t34_8) false (bi .neq .none t36_9 t37_10)) fun t38_11 =>
 M.bind (pick (strip t34_8) (.bool true) t38_11) fun t39_12 =>
 M.bind (gd (strip t39_12) false (M.pure (strip t24_3))) fun t41_13 =>
 M.bind (gd (strip t39_12) false (M.pure (strip t31_7))) fun t42_14 =>
 M.bind (gd (strip t39_12) false (bi .neq .none t41_13 t42_14)) fun t43_15 =>
 M.bind (pick (strip t39_12) (.bool true) t43_15) fun t44_16 =>
 condM t44_16
 (M.pure (.bool false))
 (M.bind (C k_entry_RefType [(strip (strip a0)), (strip (strip a1))]) fun t48_17 =>
 M.bind (ex 0 (strip t48_17)) fun t49_18 =>
 M.bind (ex 1 (tupDrop 0 (strip t48_17))) fun t50_19 =>
 M.bind (ex 2 (tupDrop 1 (tupDrop 0 (strip t48_17)))) fun t51_20 =>
 M.bind (al [(.int .i64 0), (.bool false), (.int .i64 0)]) fun t11_21 =>
 M.bind (st 3 true t11_21 t49_18) fun _ =>
 M.bind (C k_ratchetref08_RefType [(strip (strip a0)), (strip (strip a1))]) fun t55_23 =>
 M.bind (ex 0 (strip t55_23)) fun t56_24 =>
 M.bind (ex 1 (tupDrop 0 (strip t55_23))) fun t57_25 =>
 M.bind (ex 2 (tupDrop 1 (tupDrop 0 (strip t55_23)))) fun t58_26 =>
 M.bind (al [(.int .i64 0), (.bool false), (.int .i64 0)]) fun t12_27 =>
 M.bind (st 3 true t12_27 t56_24) fun _ =>
 M.bind (ld (some 3) false t11_21) fun t59_29 =>
 M.bind (ld (some 3) false t12_27) fun t60_30 =>
 M.bind (bi .neq (.struct [.int, .bool, .int]) t59_29 t60_30) fun t61_31 =>
 M.bind (gd (strip t61_31) false (M.pure (strip t50_19))) fun t63_32 =>
 M.bind (gd (strip t61_31) false (M.pure (strip t57_25))) fun t64_33 =>
 M.bind (gd (strip t61_31) false (bi .neq .none t63_32 t64_33)) fun t65_34 =>
 M.bind (pick (strip t61_31) (.bool true) t65_34) fun t66_35 =>
 M.bind (gd (strip t66_35) false (M.pure (strip t51_20))) fun t68_36 =>
 M.bind (gd (strip t66_35) false (M.pure (strip t58_26))) fun t69_37 =>
 M.bind (gd (strip t66_35) false (bi .neq .none t68_36 t69_37)) fun t70_38 =>
 M.bind (pick (strip t66_35) (.bool true) t70_38) fun t71_39 =>
 condM t71_39
 (M.pure (.bool false))
 (M.bind (C k_entry_ValType [(strip (strip a0)), (strip (strip a1))]) fun t75_40 =>
 M.bind (ex 0 (strip t75_40)) fun t76_41 =>
 M.bind (ex 1 (tupDrop 0 (strip t75_40))) fun t77_42 =>
 M.bind (ex 2 (tupDrop 1 (tupDrop 0 (strip t75_40)))) fun t78_43 =>
 M.bind (st 3 true t11_21 t76_41) fun _ =>
 M.bind (C k_ratchetref08_ValType [(strip (strip a0)), (strip (strip a1))]) fun t82_45 =>
 M.bind (ex 0 (strip t82_45)) fun t83_46 =>
 M.bind (ex 1 (tupDrop 0 (strip t82_45))) fun t84_47 =>
 M.bind (ex 2 (tupDrop 1 (tupDrop 0 (strip t82_45)))) fun t85_48 =>
 M.bind (st 3 true t12_27 t83_46) fun _ =>
 M.bind (ld (some 3) false t11_21) fun t86_50 =>
 M.bind (ld (some 3) false t12_27) fun t87_51 =>
 M.bind (bi .neq (.struct [.int, .bool, .int]) t86_50 t87_51) fun t88_52 =>
 M.bind (gd (strip t88_52) false (M.pure (strip t77_42))) fun t90_53 =>
 M.bind (gd (strip t88_52) false (M.pure (strip t84_47))) fun t91_54 =>
 M.bind (gd (strip t88_52) false (bi .neq .none t90_53 t91_54)) fun t92_55 =>
 M.bind (pick (strip t88_52) (.bool true) t92_55) fun t93_56 =>
 M.bind (gd (strip t93_56) false (M.pure (strip t78_43))) fun t95_57 =>
 M.bind (gd (strip t93_56) false (M.pure (strip t85_48))) fun t96_58 =>
 M.bind (gd (strip t93_56) false (bi .neq .none t95_57 t96_58)) fun t97_59 =>
 M.bind (pick (strip t93_56) (.bool true) t97_59) fun t98_60 =>
 condM t98_60
 (M.pure (.bool false))
 (M.bind (C k_entry_BlockType [(strip (strip a0)), (strip (strip a1))]) fun t102_61 =>
 M.bind (ex 0 (strip t102_61)) fun t103_62 =>
 M.bind (ex 1 (tupDrop 0 (strip t102_61))) fun t104_63 =>
 M.bind (ex 2 (tupDrop 1 (tupDrop 0 (strip t102_61)))) fun t105_64 =>
 M.bind (al [(.int .i64 0), (.int .i64 0), (.bool false), (.int .i64 0)]) fun t13_65 =>
 M.bind (st 4 true t13_65 t103_62) fun _ =>
 M.bind (C k_ratchetref08_BlockType [(strip (strip a0)), (strip (strip a1))]) fun t109_67 =>
 M.bind (ex 0 (strip t109_67)) fun t110_68 =>
 M.bind (ex 1 (tupDrop 0 (strip t109_67))) fun t111_69 =>
 M.bind (ex 2 (tupDrop 1 (tupDrop 0 (strip t109_67)))) fun t112_70 =>
 M.bind (al [(.int .i64 0), (.int .i64 0), (.bool false), (.int .i64 0)]) fun t14_71 =>
 M.bind (st 4 true t14_71 t110_68) fun _ =>
 M.bind (ld (some 4) false t13_65) fun t113_73 =>
 M.bind (ld (some 4) false t14_71) fun t114_74 =>
 M.bind (bi .neq (.struct [.int, .int, .bool, .int]) t113_73 t114_74) fun t115_75 =>
 M.bind (gd (strip t115_75) false (M.pure (strip t104_63))) fun t117_76 =>
 M.bind (gd (strip t115_75) false (M.pure (strip t111_69))) fun t118_77 =>
 M.bind (gd (strip t115_75) false (bi .neq .none t117_76 t118_77)) fun t119_78 =>
 M.bind (pick (strip t115_75) (.bool true) t119_78) fun t120_79 =>
 M.bind (gd (strip t120_79) false (M.pure (strip t105_64))) fun t122_80 =>
 M.bind (gd (strip t120_79) false (M.pure (strip t112_70))) fun t123_81 =>
 M.bind (gd (strip t120_79) false (bi .neq .none t122_80 t123_81)) fun t124_82 =>
 M.bind (pick (strip t120_79) (.bool true) t124_82) fun t125_83 =>
 condM t125_83
 (M.pure (.bool false))
 (M.bind (C k_entry_ValTypes [(strip (strip a0)), (strip (strip a1))]) fun t129_84 =>
 M.bind (ex 0 (strip t129_84)) fun t130_85 =>
 M.bind (ex 1 (tupDrop 0 (strip t129_84))) fun t131_86 =>
 M.bind (ex 2 (tupDrop 1 (tupDrop 0 (strip t129_84)))) fun t132_87 =>
 M.bind (C k_ratchetref08_ValTypes [(strip (strip a0)), (strip (strip a1))]) fun t136_88 =>
 M.bind (ex 0 (strip t136_88)) fun t137_89 =>
 M.bind (ex 1 (tupDrop 0 (strip t136_88))) fun t138_90 =>
 M.bind (ex 2 (tupDrop 1 (tupDrop 0 (strip t136_88)))) fun t139_91 =>
 M.bind (bi .neq .none (strip t131_86) (strip t138_90)) fun t142_92 =>
 M.bind (gd (strip t142_92) false (M.pure (strip t132_87))) fun t144_93 =>
 M.bind (gd (strip t142_92) false (M.pure (strip t139_91))) fun t145_94 =>
 M.bind (gd (strip t142_92) false (bi .neq .none t144_93 t145_94)) fun t146_95 =>
 M.bind (pick (strip t142_92) (.bool true) t146_95) fun t147_96 =>
 M.bind (gd (strip t147_96) false (M.pure (strip t130_85))) fun t149_97 =>
 M.bind (gd (strip t147_96) false (lnL t149_97)) fun t150_98 =>
 M.bind (gd (strip t147_96) false (M.pure (strip t137_89))) fun t151_99 =>
 M.bind (gd (strip t147_96) false (lnL t151_99)) fun t152_100 =>
 M.bind (gd (strip t147_96) false (bi .neq .none t150_98 t152_100)) fun t153_101 =>
 M.bind (pick (strip t147_96) (.bool true) t153_101) fun t154_102 =>
 condM t154_102
 (M.pure (.bool false))
 (p_ratchetlaw08_EntryTypes_1111111111111111010 (.bool false) t130_85 t137_89 (.int .i64 0))))))) := by
 rw [C, callW_eq _ _ rfl]; kernel_rfl
/-- ratchet/ratchetlaw08.EntryGroups -/
theorem ratchetlaw08_EntryGroups_eq (a0 a1 : PV) : C k_ratchetlaw08_EntryGroups [a0, a1] =
 trunc (M.bind (C k_entry_Field [(strip (strip a0)), (strip (strip a1))]) fun t20_0 =>
 M.bind (ex 0 (strip t20_0)) fun t21_1 =>
 M.bind (ex 1 (tupDrop 0 (strip t20_0))) fun t22_2 =>
 M.bind (ex 2 (tupDrop 1 (tupDrop 0 (strip t20_0)))) fun t23_3 =>
 M.bind (al [(.int .i64 0), (.bool false), (.int .i64 0), (.bool false)]) fun t5_4 =>
 M.bind (st 4 true t5_4 t21_1) fun _ =>
 M.bind (C k_ratchetref08_Field [(strip (strip a0)), (strip (strip a1))]) fun t27_6 =>
 M.bind (ex 0 (strip t27_6)) fun t28_7 =>
 M.bind (ex 1 (tupDrop 0 (strip t27_6))) fun t29_8 =>
 M.bind (ex 2 (tupDrop 1 (tupDrop 0 (strip t27_6)))) fun t30_9 =>
 M.bind (al [(.int .i64 0), (.bool false), (.int .i64 0), (.bool false)]) fun t8_10 =>
 M.bind (st 4 true t8_10 t28_7) fun _ =>
 M.bind (ld (some 4) false t5_4) fun t31_12 =>
 M.bind (ld (some 4) false t8_10) fun t32_13 =>
 M.bind (bi .neq (.struct [.int, .bool, .int, .bool]) t31_12 t32_13) fun t33_14 =>
 M.bind (gd (strip t33_14) false (M.pure (strip t22_2))) fun t35_15 =>
 M.bind (gd (strip t33_14) false (M.pure (strip t29_8))) fun t36_16 =>
 M.bind (gd (strip t33_14) false (bi .neq .none t35_15 t36_16)) fun t37_17 =>
 M.bind (pick (strip t33_14) (.bool true) t37_17) fun t38_18 =>
 M.bind (gd (strip t38_18) false (M.pure (strip t23_3))) fun t40_19 =>
 M.bind (gd (strip t38_18) false (M.pure (strip t30_9))) fun t41_20 =>
 M.bind (gd (strip t38_18) false (bi .neq .none t40_19 t41_20)) fun t42_21 =>
 M.bind (pick (strip t38_18) (.bool true) t42_21) fun t43_22 =>
 condM t43_22
 (M.pure (.bool false))
 (M.bind (C k_entry_CompType [(strip (strip a0)), (strip (strip a1))]) fun t47_23 =>
 M.bind (ex 0 (strip t47_23)) fun t48_24 =>
 M.bind (ex 1 (tupDrop 0 (strip t47_23))) fun t49_25 =>
 M.bind (ex 2 (tupDrop 1 (tupDrop 0 (strip t47_23)))) fun t50_26 =>
 M.bind (al [(.int .i64 0), (.slice false true 0 []), (.slice false true 0 []), (.slice false true 0 [])]) fun t11_27 =>
 M.bind (st 4 true t11_27 t48_24) fun _ =>
 M.bind (C k_ratchetref08_CompType [(strip (strip a0)), (strip (strip a1))]) fun t54_29 =>
 M.bind (ex 0 (strip t54_29)) fun t55_30 =>
 M.bind (ex 1 (tupDrop 0 (strip t54_29))) fun t56_31 =>
 M.bind (ex 2 (tupDrop 1 (tupDrop 0 (strip t54_29)))) fun t57_32 =>
 M.bind (al [(.int .i64 0), (.slice false true 0 []), (.slice false true 0 []), (.slice false true 0 [])]) fun t12_33 =>
 M.bind (st 4 true t12_33 t55_30) fun _ =>
 M.bind (bi .neq .none (strip t49_25) (strip t56_31)) fun t60_35 =>
 M.bind (gd (strip t60_35) false (M.pure (strip t50_26))) fun t62_36 =>
 M.bind (gd (strip t60_35) false (M.pure (strip t57_32))) fun t63_37 =>
 M.bind (gd (strip t60_35) false (bi .neq .none t62_36 t63_37)) fun t64_38 =>
 M.bind (pick (strip t60_35) (.bool true) t64_38) fun t65_39 =>
 M.bind (gd (strip t65_39) false (ld (some 4) false t11_27)) fun t67_40 =>
 M.bind (gd (strip t65_39) false (bd [(.bool false), (.slice false true 0 []), (.int .i64 0), (.slice false true 0 []), (.slice false true 0 []), (.slice false true 0 [])] [(2, 4, t67_40)])) fun t68_41 =>
 M.bind (gd (strip t65_39) false (ld (some 4) false t12_33)) fun t69_42 =>
 M.bind (gd (strip t65_39) false (bd [(.bool false), (.slice false true 0 []), (.int .i64 0), (.slice false true 0 []), (.slice false true 0 []), (.slice false true 0 [])] [(2, 4, t69_42)])) fun t70_43 =>
 M.bind (gd (strip t65_39) false (C k_ratchetref05_SameSub [(strip t68_41), (strip t70_43)])) fun t71_44 =>
 M.bind (gd (strip t65_39) false (un .not t71_44)) fun t72_45 =>
 M.bind (pick (strip t65_39) (.bool true) t72_45) fun t73_46 =>
 condM t73_46
 (M.pure (.bool false))
 (M.bind (C k_entry_SubType [(strip (strip a0)), (strip (strip a1))]) fun t77_47 =>
 M.bind (ex 0 (strip t77_47)) fun t78_48 =>
 M.bind (ex 1 (tupDrop 0 (strip t77_47))) fun t79_49 =>
 M.bind (ex 2 (tupDrop 1 (tupDrop 0 (strip t77_47)))) fun t80_50 =>
 M.bind (al [(.bool false), (.slice false true 0 []), (.int .i64 0), (.slice false true 0 []), (.slice false true 0 []), (.slice false true 0 [])]) fun t13_51 =>
 M.bind (st 6 true t13_51 t78_48) fun _ =>
 M.bind (C k_ratchetref08_SubType [(strip (strip a0)), (strip (strip a1))]) fun t84_53 =>
 M.bind (ex 0 (strip t84_53)) fun t85_54 =>
 M.bind (ex 1 (tupDrop 0 (strip t84_53))) fun t86_55 =>
 M.bind (ex 2 (tupDrop 1 (tupDrop 0 (strip t84_53)))) fun t87_56 =>
 M.bind (al [(.bool false), (.slice false true 0 []), (.int .i64 0), (.slice false true 0 []), (.slice false true 0 []), (.slice false true 0 [])]) fun t14_57 =>
 M.bind (st 6 true t14_57 t85_54) fun _ =>
 M.bind (bi .neq .none (strip t79_49) (strip t86_55)) fun t90_59 =>
 M.bind (gd (strip t90_59) false (M.pure (strip t80_50))) fun t92_60 =>
 M.bind (gd (strip t90_59) false (M.pure (strip t87_56))) fun t93_61 =>
 M.bind (gd (strip t90_59) false (bi .neq .none t92_60 t93_61)) fun t94_62 =>
 M.bind (pick (strip t90_59) (.bool true) t94_62) fun t95_63 =>
 M.bind (gd (strip t95_63) false (ld (some 6) false t13_51)) fun t97_64 =>
 M.bind (gd (strip t95_63) false (ld (some 6) false t14_57)) fun t98_65 =>
 M.bind (gd (strip t95_63) false (C k_ratchetref05_SameSub [(strip t97_64), (strip t98_65)])) fun t99_66 =>
 M.bind (gd (strip t95_63) false (un .not t99_66)) fun t100_67 =>
 M.bind (pick (strip t95_63) (.bool true) t100_67) fun t101_68 =>
 condM t101_68
 (M.pure (.bool false))
 (M.bind (C k_entry_RecType [(strip (strip a0)), (strip (strip a1))]) fun t105_69 =>
 M.bind (ex 0 (strip t105_69)) fun t106_70 =>
 M.bind (ex 1 (tupDrop 0 (strip t105_69))) fun t107_71 =>
 M.bind (ex 2 (tupDrop 1 (tupDrop 0 (strip t105_69)))) fun t108_72 =>
 M.bind (al [(.slice false true 0 []), (.bool false)]) fun t15_73 =>
 M.bind (st 2 true t15_73 t106_70) fun _ =>
 M.bind (C k_ratchetref08_RecType [(strip (strip a0)), (strip (strip a1))]) fun t112_75 =>
 M.bind (ex 0 (strip t112_75)) fun t113_76 =>
 M.bind (ex 1 (tupDrop 0 (strip t112_75))) fun t114_77 =>
 M.bind (ex 2 (tupDrop 1 (tupDrop 0 (strip t112_75)))) fun t115_78 =>
 M.bind (al [(.slice false true 0 []), (.bool false)]) fun t16_79 =>
 M.bind (st 2 true t16_79 t113_76) fun _ =>
 M.bind (bi .eql .none (strip t107_71) (strip t114_77)) fun t118_81 =>
 M.bind (gd (strip t118_81) true (M.pure (strip t108_72))) fun t120_82 =>
 M.bind (gd (strip t118_81) true (M.pure (strip t115_78))) fun t121_83 =>
 M.bind (gd (strip t118_81) true (bi .eql .none t120_82 t121_83)) fun t122_84 =>
 M.bind (pick (strip t118_81) t122_84 (.bool false)) fun t123_85 =>
 M.bind (gd (strip t123_85) true (ld (some 2) false t15_73)) fun t125_86 =>
 M.bind (gd (strip t123_85) true (ld (some 2) false t16_79)) fun t126_87 =>
 M.bind (gd (strip t123_85) true (C k_ratchetref05_SameRec [(strip t125_86), (strip t126_87)])) fun t127_88 =>
 M.bind (pick (strip t123_85) t127_88 (.bool false)) fun t128_89 =>
 M.bind (gd (strip t128_89) true (C k_ratchetlaw08_awake [])) fun t130_90 =>
 M.bind (pick (strip t128_89) t130_90 (.bool false)) fun t131_91 =>
 resT t131_91 (M.pure t131_91))))) := by
 rw [C, callW_eq _ _ rfl]; kernel_rfl
/-- ratchet/ratchetlaw08.EntryLeast -/
theorem ratchetlaw08_EntryLeast_eq (a0 a1 : PV) : C k_ratchetlaw08_EntryLeast [a0, a1] =
 trunc (M.bind (C k_entry_RecType [(strip (strip a0)), (strip (strip a1))]) fun t16_0 =>
 M.bind (ex 0 (strip t16_0)) fun t17_1 =>
 M.bind (ex 1 (tupDrop 0 (strip t16_0))) fun t18_2 =>
 M.bind (ex 2 (tupDrop 1 (tupDrop 0 (strip t16_0)))) fun t19_3 =>
 M.bind (al [(.slice false true 0 []), (.bool false)]) fun t5_4 =>
 M.bind (st 2 true t5_4 t17_1) fun _ =>
 M.bind (bi .neq .none (strip t19_3) (.int .i64 0)) fun t21_6 =>
 condM t21_6
 (M.bind (C k_ratchetlaw08_awake []) fun t22_7 =>
 resT t22_7 (M.pure t22_7))
 (M.bind (ld (some 2) false t5_4) fun t24_8 =>
 M.bind (C k_entry_PutRecType [(strip t24_8)]) fun t25_9 =>
 M.bind (ex 0 (strip t25_9)) fun t26_10 =>
 M.bind (ex 1 (tupDrop 0 (strip t25_9))) fun t27_11 =>
 M.bind (bi .neq .none (strip t27_11) (.int .i64 0)) fun t29_12 =>
 M.bind (gd (strip t29_12) false (M.pure (strip t26_10))) fun t31_13 =>
 M.bind (gd (strip t29_12) false (lnL t31_13)) fun t32_14 =>
 M.bind (gd (strip t29_12) false (M.pure (strip t18_2))) fun t33_15 =>
 M.bind (gd (strip t29_12) false (M.pure (strip a1))) fun t34_16 =>
 M.bind (gd (strip t29_12) false (bi .sub .none t33_15 t34_16)) fun t35_17 =>
 M.bind (gd (strip t29_12) false (bi .gtr .none t32_14 t35_17)) fun t36_18 =>
 M.bind (pick (strip t29_12) (.bool true) t36_18) fun t37_19 =>
 condM t37_19
 (M.pure (.bool false))
 (M.bind (C k_entry_RecType [(strip (strip t26_10)), (.int .i64 0)]) fun t40_20 =>
 M.bind (ex 0 (strip t40_20)) fun t41_21 =>
 M.bind (ex 1 (tupDrop 0 (strip t40_20))) fun t42_22 =>
 M.bind (ex 2 (tupDrop 1 (tupDrop 0 (strip t40_20)))) fun t43_23 =>
 M.bind (al [(.slice false true 0 []), (.bool false)]) fun t10_24 =>
 M.bind (st 2 true t10_24 t41_21) fun _ =>
 M.bind (fa 1 t5_4) fun t44_26 =>
 M.bind (ld none false t44_26) fun t45_27 =>
 M.bind (gd (strip t45_27) true (fa 0 t5_4)) fun t47_28 =>
 M.bind (gd (strip t45_27) true (ld none false t47_28)) fun t48_29 =>
 M.bind (gd (strip t45_27) true (lnL t48_29)) fun t49_30 =>
 M.bind (gd (strip t45_27) true (bi .neq .none t49_30 (.int .i64 1))) fun t50_31 =>
 M.bind (pick (strip t45_27) t50_31 (.bool false)) fun t51_32 =>
 M.bind (fa 1 t5_4) fun t52_33 =>
 M.bind (st 1 true t52_33 t51_32) fun _ =>
 M.bind (bi .eql .none (strip t43_23) (.int .i64 0)) fun t54_35 =>
 M.bind (gd (strip t54_35) true (M.pure (strip t42_22))) fun t56_36 =>
 M.bind (gd (strip t54_35) true (M.pure (strip t26_10))) fun t57_37 =>
 M.bind (gd (strip t54_35) true (lnL t57_37)) fun t58_38 =>
 M.bind (gd (strip t54_35) true (bi .eql .none t56_36 t58_38)) fun t59_39 =>
 M.bind (pick (strip t54_35) t59_39 (.bool false)) fun t60_40 =>
 M.bind (gd (strip t60_40) true (ld (some 2) false t5_4)) fun t62_41 =>
 M.bind (gd (strip t60_40) true (ld (some 2) false t10_24)) fun t63_42 =>
 M.bind (gd (strip t60_40) true (C k_ratchetref05_SameRec [(strip t62_41), (strip t63_42)])) fun t64_43 =>
 M.bind (pick (strip t60_40) t64_43 (.bool false)) fun t65_44 =>
 M.bind (gd (strip t65_44) true (C k_ratchetlaw08_awake [])) fun t67_45 =>
 M.bind (pick (strip t65_44) t67_45 (.bool false)) fun t68_46 =>
 resT t68_46 (M.pure t68_46)))) := by
 rw [C, callW_eq _ _ rfl]; kernel_rfl
/-- ratchet/entry.PutHeapType -/
theorem entry_PutHeapType_eq (a0 : PV) : C k_entry_PutHeapType [a0] =
 trunc (M.bind (bx 1 a0) fun t1_0 =>
 M.bind (mf k_entry_PutHeapType_1 [] [t1_0]) fun t4_1 =>
 M.bind (C k_entry_write [(strip t4_1)]) fun t5_2 =>
 M.bind (ex 0 t5_2) fun t6_3 =>
 M.bind (ex 1 (tupDrop 0 t5_2)) fun t7_4 =>
 resT t6_3 (resT t7_4 (M.pure (.tup [t6_3, t7_4])))) := by
 rw [C, callW_eq _ _ rfl]; kernel_rfl
/-- ratchet/ratchetref08.PutHeapType -/
theorem ratchetref08_PutHeapType_eq (a0 : PV) : C k_ratchetref08_PutHeapType [a0] =
 trunc (M.bind (bd [(.slice false true 0 []), (.int .i64 0)] []) fun t5_0 =>
 M.bind (bx 2 t5_0) fun t6_1 =>
 M.bind (C k_ratchetref08_writing_heap [(strip (strip t6_1)), (strip (strip a0))]) fun t9_2 =>
 M.bind (C k_ratchetref08_writing_done [(strip (strip t6_1))]) fun t11_3 =>
 M.bind (ex 0 t11_3) fun t12_4 =>
 M.bind (ex 1 (tupDrop 0 t11_3)) fun t13_5 =>
 resT t12_4 (resT t13_5 (M.pure (.tup [t12_4, t13_5])))) := by
 rw [C, callW_eq _ _ rfl]; kernel_rfl
/-- ratchet/ratchetlaw08.same -/
theorem ratchetlaw08_same_eq (a0 a1 a2 a3 : PV) : C k_ratchetlaw08_same [a0, a1, a2, a3] =
 trunc (M.bind (cv .bytesToStr true (strip a0)) fun t10_0 =>
 M.bind (cv .bytesToStr true (strip a2)) fun t12_1 =>
 M.bind (bi .eql .none t10_0 t12_1) fun t13_2 =>
 M.bind (gd (strip t13_2) true (M.pure (strip a1))) fun t15_3 =>
 M.bind (gd (strip t13_2) true (M.pure (strip a3))) fun t16_4 =>
 M.bind (gd (strip t13_2) true (bi .eql .none t15_3 t16_4)) fun t17_5 =>
 M.bind (pick (strip t13_2) t17_5 (.bool false)) fun t18_6 =>
 M.bind (gd (strip t18_6) true (M.pure (strip a1))) fun t20_7 =>
 M.bind (gd (strip t18_6) true (bi .eql .none t20_7 (.int .i64 0))) fun t21_8 =>
 M.bind (gd (strip t18_6) true (M.pure (strip t21_8))) fun t22_9 =>
 M.bind (gd t22_9 false (M.pure (strip a0))) fun t23_10 =>
 M.bind (gd t22_9 false (lnL t23_10)) fun t24_11 =>
 M.bind (gd t22_9 false (bi .eql .none t24_11 (.int .i64 0))) fun t25_12 =>
 M.bind (gd (strip t18_6) true (pick t22_9 (.bool true) t25_12)) fun t26_13 =>
 M.bind (pick (strip t18_6) t26_13 (.bool false)) fun t27_14 =>
 resT t27_14 (M.pure t27_14)) := by
 rw [C, callW_eq _ _ rfl]; kernel_rfl
/-- ratchet/entry.PutValType -/
theorem entry_PutValType_eq (a0 : PV) : C k_entry_PutValType [a0] =
 trunc (M.bind (bx 3 a0) fun t1_0 =>
 M.bind (mf k_entry_PutValType_1 [] [t1_0]) fun t4_1 =>
 M.bind (C k_entry_write [(strip t4_1)]) fun t5_2 =>
 M.bind (ex 0 t5_2) fun t6_3 =>
 M.bind (ex 1 (tupDrop 0 t5_2)) fun t7_4 =>
 resT t6_3 (resT t7_4 (M.pure (.tup [t6_3, t7_4])))) := by
 rw [C, callW_eq _ _ rfl]; kernel_rfl
/-- ratchet/ratchetref08.PutValType -/
theorem ratchetref08_PutValType_eq (a0 : PV) : C k_ratchetref08_PutValType [a0] =
 trunc (M.bind (bx 3 a0) fun t1_0 =>
 M.bind (bd [(.slice false true 0 []), (.int .i64 0)] []) fun t5_1 =>
 M.bind (bx 2 t5_1) fun t6_2 =>
 M.bind (ld (some 3) false t1_0) fun t8_3 =>
 M.bind (C k_ratchetref08_writing_val [(strip (strip t6_2)), (strip t8_3), (.bool false)]) fun t9_4 =>
 M.bind (C k_ratchetref08_writing_done [(strip (strip t6_2))]) fun t11_5 =>
 M.bind (ex 0 t11_5) fun t12_6 =>
 M.bind (ex 1 (tupDrop 0 t11_5)) fun t13_7 =>
 resT t12_6 (resT t13_7 (M.pure (.tup [t12_6, t13_7])))) := by
 rw [C, callW_eq _ _ rfl]; kernel_rfl
/-- ratchet/entry.PutBlockType -/
theorem entry_PutBlockType_eq (a0 : PV) : C k_entry_PutBlockType [a0] =
 trunc (M.bind (bx 4 a0) fun t1_0 =>
 M.bind (mf k_entry_PutBlockType_1 [] [t1_0]) fun t4_1 =>
 M.bind (C k_entry_write [(strip t4_1)]) fun t5_2 =>
 M.bind (ex 0 t5_2) fun t6_3 =>
 M.bind (ex 1 (tupDrop 0 t5_2)) fun t7_4 =>
 resT t6_3 (resT t7_4 (M.pure (.tup [t6_3, t7_4])))) := by
 rw [C, callW_eq _ _ rfl]; kernel_rfl
noncomputable def p_ratchetref08_PutBlockType_1111 (v2 v3 v4 : PV) : M PV := atP P X k_ratchetref08_PutBlockType [1, 1, 1, 1] (mkEnv 50 0 [(2, v2), (3, v3), (4, v4)])
theorem p_ratchetref08_PutBlockType_1111_eq (v2 v3 v4 : PV) : p_ratchetref08_PutBlockType_1111 v2 v3 v4 =
 M.bind (C k_ratchetref08_writing_done [(strip (strip v4))]) fun t47_0 =>
 M.bind (ex 0 t47_0) fun t48_1 =>
 M.bind (ex 1 (tupDrop 0 t47_0)) fun t49_2 =>
 resT t48_1 (resT t49_2 (M.pure (.tup [t48_1, t49_2]))) :=
 (atP_step P X _ _ _).trans (by kernel_rfl)
/-- ratchet/ratchetref08.PutBlockType -/
theorem ratchetref08_PutBlockType_eq (a0 : PV) : C k_ratchetref08_PutBlockType [a0] =
 trunc (M.bind (bx 4 a0) fun t1_0 =>
 M.bind (bd [(.slice false true 0 []), (.int .i64 0)] []) fun t6_1 =>
 M.bind (bx 2 t6_1) fun t7_2 =>
 M.bind (fa 1 t1_0) fun t8_3 =>
 M.bind (ld (some 3) false t8_3) fun t9_4 =>
 M.bind (bd [(.int .i64 0), (.bool false), (.int .i64 0)] []) fun t10_5 =>
 M.bind (bi .eql (.struct [.int, .bool, .int]) t9_4 t10_5) fun t11_6 =>
 M.bind (fa 0 t1_0) fun t17_7 =>
 M.bind (ld none false t17_7) fun t18_8 =>
 M.bind (bi .geq .none t18_8 (.int .i64 0)) fun t19_9 =>
 condM t19_9
 (M.bind (gd (strip (strip t11_6)) true (fa 0 t1_0)) fun t23_10 =>
 M.bind (gd (strip (strip t11_6)) true (ld none false t23_10)) fun t24_11 =>
 M.bind (gd (strip (strip t11_6)) true (bi .lss .none t24_11 (.int .i64 2147483648))) fun t25_12 =>
 M.bind (pick (strip (strip t11_6)) t25_12 (.bool false)) fun t26_13 =>
 M.bind (C k_ratchetref08_writing_must [(strip (strip t7_2)), (strip t26_13), (.int .i64 4)]) fun t27_14 =>
 M.bind (fa 0 t1_0) fun t29_15 =>
 M.bind (ld none false t29_15) fun t30_16 =>
 M.bind (C k_ratchetref01_PutS [(strip t30_16)]) fun t31_17 =>
 M.bind (nc P (strip t7_2)) fun t32_18 =>
 M.bind (fa 0 t32_18) fun t33_19 =>
 M.bind (st 1 true t33_19 t31_17) fun _ =>
 p_ratchetref08_PutBlockType_1111 (.slice false true 0 []) (.int .i64 0) t7_2)
 (M.bind (fa 0 t1_0) fun t35_21 =>
 M.bind (ld none false t35_21) fun t36_22 =>
 M.bind (bi .lss .none t36_22 (.int .i64 (-1))) fun t37_23 =>
 condM t37_23
 (M.bind (C k_ratchetref08_writing_must [(strip (strip t7_2)), (.bool false), (.int .i64 4)]) fun t39_24 =>
 p_ratchetref08_PutBlockType_1111 (.slice false true 0 []) (.int .i64 0) t7_2)
 (condM t11_6
 (M.bind (bs true none [(.int .u8 64)]) fun t43_25 =>
 M.bind (nc P (strip t7_2)) fun t44_26 =>
 M.bind (fa 0 t44_26) fun t45_27 =>
 M.bind (st 1 true t45_27 t43_25) fun _ =>
 p_ratchetref08_PutBlockType_1111 (.slice false true 0 []) (.int .i64 0) t7_2)
 (M.bind (fa 1 t1_0) fun t13_29 =>
 M.bind (ld (some 3) false t13_29) fun t14_30 =>
 M.bind (C k_ratchetref08_writing_val [(strip (strip t7_2)), (strip t14_30), (.bool false)]) fun t15_31 =>
 p_ratchetref08_PutBlockType_1111 (.slice false true 0 []) (.int .i64 0) t7_2)))) := by
 rw [C, callW_eq _ _ rfl]; kernel_rfl
/-- ratchet/entry.PutRecType -/
theorem entry_PutRecType_eq (a0 : PV) : C k_entry_PutRecType [a0] =
 trunc (M.bind (bx 2 a0) fun t1_0 =>
 M.bind (mf k_entry_PutRecType_1 [] [t1_0]) fun t4_1 =>
 M.bind (C k_entry_write [(strip t4_1)]) fun t5_2 =>
 M.bind (ex 0 t5_2) fun t6_3 =>
 M.bind (ex 1 (tupDrop 0 t5_2)) fun t7_4 =>
 resT t6_3 (resT t7_4 (M.pure (.tup [t6_3, t7_4])))) := by
 rw [C, callW_eq _ _ rfl]; kernel_rfl
noncomputable def p_ratchetref08_PutRecType_111 (v1 v2 v3 v4 : PV) : M PV := atP P X k_ratchetref08_PutRecType [1, 1, 1] (mkEnv 44 0 [(1, v1), (2, v2), (3, v3), (4, v4)])
noncomputable def p_ratchetref08_PutRecType_111010 (v1 v2 v3 v4 v5 : PV) : M PV := atP P X k_ratchetref08_PutRecType [1, 1, 1, 0, 1, 0] (mkEnv 44 0 [(1, v1), (2, v2), (3, v3), (4, v4), (5, v5)])
theorem p_ratchetref08_PutRecType_111_eq (v1 v2 v3 v4 : PV) : p_ratchetref08_PutRecType_111 v1 v2 v3 v4 =
 p_ratchetref08_PutRecType_111010 v1 v2 v3 v4 (.int .i64 0) :=
 (atP_step P X _ _ _).trans (by kernel_rfl)
theorem p_ratchetref08_PutRecType_111010_eq (v1 v2 v3 v4 v5 : PV) : p_ratchetref08_PutRecType_111010 v1 v2 v3 v4 v5 =
 M.bind (fa 0 v1) fun t27_0 =>
 M.bind (ld none false t27_0) fun t28_1 =>
 M.bind (lnL t28_1) fun t29_2 =>
 M.bind (bi .lss .none (strip v5) t29_2) fun t30_3 =>
 condM t30_3
 (M.bind (fa 0 v1) fun t34_4 =>
 M.bind (ld none false t34_4) fun t35_5 =>
 M.bind (iaS 6 t35_5 (strip v5)) fun t37_6 =>
 M.bind (ld (some 6) false t37_6) fun t38_7 =>
 M.bind (C k_ratchetref08_writing_sub [(strip (strip v4)), (strip t38_7)]) fun t39_8 =>
 M.bind (bi .add .none (strip v5) (.int .i64 1)) fun t32_9 =>
 p_ratchetref08_PutRecType_111010 v1 v2 v3 v4 t32_9)
 (M.bind (C k_ratchetref08_writing_done [(strip (strip v4))]) fun t41_10 =>
 M.bind (ex 0 t41_10) fun t42_11 =>
 M.bind (ex 1 (tupDrop 0 t41_10)) fun t43_12 =>
 resT t42_11 (resT t43_12 (M.pure (.tup [t42_11, t43_12])))) :=
 (atP_step P X _ _ _).trans (by kernel_rfl)
/-- ratchet/ratchetref08.PutRecType -/
theorem ratchetref08_PutRecType_eq (a0 : PV) : C k_ratchetref08_PutRecType [a0] =
 trunc (M.bind (bx 2 a0) fun t1_0 =>
 M.bind (bd [(.slice false true 0 []), (.int .i64 0)] []) fun t6_1 =>
 M.bind (bx 2 t6_1) fun t7_2 =>
 M.bind (fa 0 t1_0) fun t8_3 =>
 M.bind (ld none false t8_3) fun t9_4 =>
 M.bind (lnL t9_4) fun t10_5 =>
 M.bind (bi .neq .none t10_5 (.int .i64 1)) fun t11_6 =>
 condM t11_6
 (M.bind (nc P (strip t7_2)) fun t14_7 =>
 M.bind (fa 0 t14_7) fun t15_8 =>
 M.bind (ld none true t15_8) fun t16_9 =>
 M.bind (bs true none [(.int .u8 78)]) fun t17_10 =>
 M.bind (ap true 1 1 t16_9 t17_10) fun t18_11 =>
 M.bind (nc P (strip t7_2)) fun t19_12 =>
 M.bind (fa 0 t19_12) fun t20_13 =>
 M.bind (st 1 true t20_13 t18_11) fun _ =>
 M.bind (fa 0 t1_0) fun t22_15 =>
 M.bind (ld none false t22_15) fun t23_16 =>
 M.bind (lnL t23_16) fun t24_17 =>
 M.bind (C k_ratchetref08_writing_many [(strip (strip t7_2)), (strip t24_17), (.int .i64 10000)]) fun t25_18 =>
 p_ratchetref08_PutRecType_111 t1_0 (.slice false true 0 []) (.int .i64 0) t7_2)
 (p_ratchetref08_PutRecType_111 t1_0 (.slice false true 0 []) (.int .i64 0) t7_2)) := by
 rw [C, callW_eq _ _ rfl]; kernel_rfl
/-- ratchet/entry.PutLimits -/
theorem entry_PutLimits_eq (a0 : PV) : C k_entry_PutLimits [a0] =
 trunc (M.bind (bx 4 a0) fun t1_0 =>
 M.bind (mf k_entry_PutLimits_1 [] [t1_0]) fun t4_1 =>
 M.bind (C k_entry_write [(strip t4_1)]) fun t5_2 =>
 M.bind (ex 0 t5_2) fun t6_3 =>
 M.bind (ex 1 (tupDrop 0 t5_2)) fun t7_4 =>
 resT t6_3 (resT t7_4 (M.pure (.tup [t6_3, t7_4])))) := by
 rw [C, callW_eq _ _ rfl]; kernel_rfl
/-- ratchet/ratchetref08.PutLimits -/
theorem ratchetref08_PutLimits_eq (a0 : PV) : C k_ratchetref08_PutLimits [a0] =
 trunc (M.bind (bx 4 a0) fun t1_0 =>
 M.bind (bd [(.slice false true 0 []), (.int .i64 0)] []) fun t5_1 =>
 M.bind (bx 2 t5_1) fun t6_2 =>
 M.bind (ld (some 4) false t1_0) fun t8_3 =>
 M.bind (C k_ratchetref08_writing_limits [(strip (strip t6_2)), (strip t8_3)]) fun t9_4 =>
 M.bind (C k_ratchetref08_writing_done [(strip (strip t6_2))]) fun t11_5 =>
 M.bind (ex 0 t11_5) fun t12_6 =>
 M.bind (ex 1 (tupDrop 0 t11_5)) fun t13_7 =>
 resT t12_6 (resT t13_7 (M.pure (.tup [t12_6, t13_7])))) := by
 rw [C, callW_eq _ _ rfl]; kernel_rfl
/-- ratchet/entry.PutTag -/
theorem entry_PutTag_eq (a0 : PV) : C k_entry_PutTag [a0] =
 trunc (M.bind (bx 1 a0) fun t1_0 =>
 M.bind (mf k_entry_PutTag_1 [] [t1_0]) fun t4_1 =>
 M.bind (C k_entry_write [(strip t4_1)]) fun t5_2 =>
 M.bind (ex 0 t5_2) fun t6_3 =>
 M.bind (ex 1 (tupDrop 0 t5_2)) fun t7_4 =>
 resT t6_3 (resT t7_4 (M.pure (.tup [t6_3, t7_4])))) := by
 rw [C, callW_eq _ _ rfl]; kernel_rfl
/-- ratchet/ratchetref08.PutTag -/
theorem ratchetref08_PutTag_eq (a0 : PV) : C k_ratchetref08_PutTag [a0] =
 trunc (M.bind (bs true none [(.int .u8 0)]) fun t5_0 =>
 M.bind (bd [(.slice false true 0 []), (.int .i64 0)] [(0, 1, t5_0)]) fun t6_1 =>
 M.bind (bx 2 t6_1) fun t7_2 =>
 M.bind (C k_ratchetref08_writing_index [(strip (strip t7_2)), (strip (strip a0))]) fun t10_3 =>
 M.bind (C k_ratchetref08_writing_done [(strip (strip t7_2))]) fun t12_4 =>
 M.bind (ex 0 t12_4) fun t13_5 =>
 M.bind (ex 1 (tupDrop 0 t12_4)) fun t14_6 =>
 resT t13_5 (resT t14_6 (M.pure (.tup [t13_5, t14_6])))) := by
 rw [C, callW_eq _ _ rfl]; kernel_rfl
/-- ratchet/ratchetlaw08.awake -/
theorem ratchetlaw08_awake_eq : C k_ratchetlaw08_awake [] =
 trunc (M.bind (bd [(.int .i64 0), (.bool false), (.int .i64 0)] [(0, 1, (.int .i64 1))]) fun t4_0 =>
 M.bind (C k_entry_PutValType [(strip t4_0)]) fun t5_1 =>
 M.bind (ex 0 (strip t5_1)) fun t6_2 =>
 M.bind (ex 1 (tupDrop 0 (strip t5_1))) fun t7_3 =>
 M.bind (bi .eql .none (strip t7_3) (.int .i64 0)) fun t9_4 =>
 M.bind (gd (strip t9_4) true (M.pure (strip t6_2))) fun t11_5 =>
 M.bind (gd (strip t9_4) true (cv .bytesToStr true t11_5)) fun t12_6 =>
 M.bind (gd (strip t9_4) true (bi .eql .none t12_6 (.str ⟨#[127]⟩))) fun t13_7 =>
 M.bind (pick (strip t9_4) t13_7 (.bool false)) fun t14_8 =>
 resT t14_8 (M.pure t14_8)) := by
 rw [C, callW_eq _ _ rfl]; kernel_rfl
/-- ratchet/entry.HeapType -/
theorem entry_HeapType_eq (a0 a1 : PV) : C k_entry_HeapType [a0, a1] =
 trunc (M.bind (C k_entry_read_int [(strip (strip a0)), (strip (strip a1)), (.fn k_entry_cursor_heap [] [])]) fun t9_0 =>
 M.bind (ex 0 t9_0) fun t10_1 =>
 M.bind (ex 1 (tupDrop 0 t9_0)) fun t11_2 =>
 M.bind (ex 2 (tupDrop 1 (tupDrop 0 t9_0))) fun t12_3 =>
 resT t10_1 (resT t11_2 (resT t12_3 (M.pure (.tup [t10_1, t11_2, t12_3]))))) := by
 rw [C, callW_eq _ _ rfl]; kernel_rfl
/-- ratchet/ratchetref08.HeapType -/
theorem ratchetref08_HeapType_eq (a0 a1 : PV) : C k_ratchetref08_HeapType [a0, a1] =
 trunc (M.bind (C k_ratchetref08_begin [(strip (strip a0)), (strip (strip a1))]) fun t15_0 =>
 M.bind (ex 0 (strip t15_0)) fun t16_1 =>
 M.bind (ex 1 (tupDrop 0 (strip t15_0))) fun t17_2 =>
 M.bind (un .not (strip t17_2)) fun t19_3 =>
 condM t19_3
 (M.pure (.tup [(.int .i64 0), (.int .i64 0), (.int .i64 1)]))
 (M.bind (C k_ratchetref08_reading_heap [(strip (strip t16_1))]) fun t21_4 =>
 M.bind (C k_ratchetref08_reading_end [(strip (strip t16_1))]) fun t24_5 =>
 M.bind (ex 0 (strip t24_5)) fun t25_6 =>
 M.bind (ex 1 (tupDrop 0 (strip t24_5))) fun t26_7 =>
 M.bind (bi .neq .none (strip t26_7) (.int .i64 0)) fun t28_8 =>
 condM t28_8
 (resT t25_6 (resT t26_7 (M.pure (.tup [(.int .i64 0), t25_6, t26_7]))))
 (resT t21_4 (resT t25_6 (M.pure (.tup [t21_4, t25_6, (.int .i64 0)])))))) := by
 rw [C, callW_eq _ _ rfl]; kernel_rfl
/-- ratchet/entry.RefType -/
theorem entry_RefType_eq (a0 a1 : PV) : C k_entry_RefType [a0, a1] =
 trunc (M.bind (al [(.int .i64 0), (.bool false), (.int .i64 0)]) fun t4_0 =>
 M.bind (C k_entry_read_api_ValType [(strip (strip a0)), (strip (strip a1)), (.fn k_entry_cursor_ref [] [])]) fun t9_1 =>
 M.bind (ex 0 t9_1) fun t10_2 =>
 M.bind (ex 1 (tupDrop 0 t9_1)) fun t11_3 =>
 M.bind (ex 2 (tupDrop 1 (tupDrop 0 t9_1))) fun t12_4 =>
 M.bind (st 3 true t4_0 t10_2) fun _ =>
 M.bind (ld (some 3) true t4_0) fun t0_6 => guardM (!isTup t0_6) (resT t11_3 (resT t12_4 (M.pure (.tup [t0_6, t11_3, t12_4]))))) := by
 rw [C, callW_eq _ _ rfl]; kernel_rfl
/-- ratchet/ratchetref08.RefType -/
theorem ratchetref08_RefType_eq (a0 a1 : PV) : C k_ratchetref08_RefType [a0, a1] =
 trunc (M.bind (al [(.int .i64 0), (.bool false), (.int .i64 0)]) fun t4_0 =>
 M.bind (C k_ratchetref08_valAt [(strip (strip a0)), (strip (strip a1)), (.bool false)]) fun t9_1 =>
 M.bind (ex 0 t9_1) fun t10_2 =>
 M.bind (ex 1 (tupDrop 0 t9_1)) fun t11_3 =>
 M.bind (ex 2 (tupDrop 1 (tupDrop 0 t9_1))) fun t12_4 =>
 M.bind (st 3 true t4_0 t10_2) fun _ =>
 M.bind (ld (some 3) true t4_0) fun t0_6 => guardM (!isTup t0_6) (resT t11_3 (resT t12_4 (M.pure (.tup [t0_6, t11_3, t12_4]))))) := by
 rw [C, callW_eq _ _ rfl]; kernel_rfl
/-- ratchet/entry.ValType -/
theorem entry_ValType_eq (a0 a1 : PV) : C k_entry_ValType [a0, a1] =
 trunc (M.bind (al [(.int .i64 0), (.bool false), (.int .i64 0)]) fun t4_0 =>
 M.bind (C k_entry_read_api_ValType [(strip (strip a0)), (strip (strip a1)), (.fn k_entry_cursor_val [] [])]) fun t9_1 =>
 M.bind (ex 0 t9_1) fun t10_2 =>
 M.bind (ex 1 (tupDrop 0 t9_1)) fun t11_3 =>
 M.bind (ex 2 (tupDrop 1 (tupDrop 0 t9_1))) fun t12_4 =>
 M.bind (st 3 true t4_0 t10_2) fun _ =>
 M.bind (ld (some 3) true t4_0) fun t0_6 => guardM (!isTup t0_6) (resT t11_3 (resT t12_4 (M.pure (.tup [t0_6, t11_3, t12_4]))))) := by
 rw [C, callW_eq _ _ rfl]; kernel_rfl
/-- ratchet/ratchetref08.ValType -/
theorem ratchetref08_ValType_eq (a0 a1 : PV) : C k_ratchetref08_ValType [a0, a1] =
 trunc (M.bind (al [(.int .i64 0), (.bool false), (.int .i64 0)]) fun t4_0 =>
 M.bind (C k_ratchetref08_valAt [(strip (strip a0)), (strip (strip a1)), (.bool true)]) fun t9_1 =>
 M.bind (ex 0 t9_1) fun t10_2 =>
 M.bind (ex 1 (tupDrop 0 t9_1)) fun t11_3 =>
 M.bind (ex 2 (tupDrop 1 (tupDrop 0 t9_1))) fun t12_4 =>
 M.bind (st 3 true t4_0 t10_2) fun _ =>
 M.bind (ld (some 3) true t4_0) fun t0_6 => guardM (!isTup t0_6) (resT t11_3 (resT t12_4 (M.pure (.tup [t0_6, t11_3, t12_4]))))) := by
 rw [C, callW_eq _ _ rfl]; kernel_rfl
/-- ratchet/entry.BlockType -/
theorem entry_BlockType_eq (a0 a1 : PV) : C k_entry_BlockType [a0, a1] =
 trunc (M.bind (al [(.int .i64 0), (.int .i64 0), (.bool false), (.int .i64 0)]) fun t4_0 =>
 M.bind (C k_entry_read_api_Block [(strip (strip a0)), (strip (strip a1)), (.fn k_entry_cursor_block [] [])]) fun t9_1 =>
 M.bind (ex 0 t9_1) fun t10_2 =>
 M.bind (ex 1 (tupDrop 0 t9_1)) fun t11_3 =>
 M.bind (ex 2 (tupDrop 1 (tupDrop 0 t9_1))) fun t12_4 =>
 M.bind (st 4 true t4_0 t10_2) fun _ =>
 M.bind (ld (some 4) true t4_0) fun t0_6 => guardM (!isTup t0_6) (resT t11_3 (resT t12_4 (M.pure (.tup [t0_6, t11_3, t12_4]))))) := by
 rw [C, callW_eq _ _ rfl]; kernel_rfl
/-- ratchet/ratchetref08.BlockType -/
theorem ratchetref08_BlockType_eq (a0 a1 : PV) : C k_ratchetref08_BlockType [a0, a1] =
 trunc (M.bind (al [(.int .i64 0), (.int .i64 0), (.bool false), (.int .i64 0)]) fun t4_0 =>
 M.bind (C k_ratchetref08_begin [(strip (strip a0)), (strip (strip a1))]) fun t15_1 =>
 M.bind (ex 0 (strip t15_1)) fun t16_2 =>
 M.bind (ex 1 (tupDrop 0 (strip t15_1))) fun t17_3 =>
 M.bind (un .not (strip t17_3)) fun t19_4 =>
 condM t19_4
 (M.bind (bd [(.int .i64 0), (.int .i64 0), (.bool false), (.int .i64 0)] []) fun t20_5 =>
 M.bind (st 4 true t4_0 t20_5) fun _ =>
 M.bind (ld (some 4) true t4_0) fun t0_7 => guardM (!isTup t0_7) (M.pure (.tup [t0_7, (.int .i64 0), (.int .i64 1)])))
 (M.bind (C k_ratchetref08_reading_block [(strip (strip t16_2))]) fun t22_8 =>
 M.bind (al [(.int .i64 0), (.int .i64 0), (.bool false), (.int .i64 0)]) fun t9_9 =>
 M.bind (st 4 true t9_9 t22_8) fun _ =>
 M.bind (C k_ratchetref08_reading_end [(strip (strip t16_2))]) fun t25_11 =>
 M.bind (ex 0 (strip t25_11)) fun t26_12 =>
 M.bind (ex 1 (tupDrop 0 (strip t25_11))) fun t27_13 =>
 M.bind (bi .neq .none (strip t27_13) (.int .i64 0)) fun t29_14 =>
 condM t29_14
 (M.bind (bd [(.int .i64 0), (.int .i64 0), (.bool false), (.int .i64 0)] []) fun t30_15 =>
 M.bind (st 4 true t4_0 t30_15) fun _ =>
 M.bind (ld (some 4) true t4_0) fun t0_17 => guardM (!isTup t0_17) (resT t26_12 (resT t27_13 (M.pure (.tup [t0_17, t26_12, t27_13])))))
 (M.bind (ld (some 4) true t9_9) fun t33_18 =>
 M.bind (st 4 true t4_0 t33_18) fun _ =>
 M.bind (ld (some 4) true t4_0) fun t0_20 => guardM (!isTup t0_20) (resT t26_12 (M.pure (.tup [t0_20, t26_12, (.int .i64 0)])))))) := by
 rw [C, callW_eq _ _ rfl]; kernel_rfl
/-- ratchet/entry.ValTypes -/
theorem entry_ValTypes_eq (a0 a1 : PV) : C k_entry_ValTypes [a0, a1] =
 trunc (M.bind (C k_entry_read_L_api_ValType [(strip (strip a0)), (strip (strip a1)), (.fn k_entry_cursor_vals [] [])]) fun t9_0 =>
 M.bind (ex 0 t9_0) fun t10_1 =>
 M.bind (ex 1 (tupDrop 0 t9_0)) fun t11_2 =>
 M.bind (ex 2 (tupDrop 1 (tupDrop 0 t9_0))) fun t12_3 =>
 resT t10_1 (resT t11_2 (resT t12_3 (M.pure (.tup [t10_1, t11_2, t12_3]))))) := by
 rw [C, callW_eq _ _ rfl]; kernel_rfl
/-- ratchet/ratchetref08.ValTypes -/
theorem ratchetref08_ValTypes_eq (a0 a1 : PV) : C k_ratchetref08_ValTypes [a0, a1] =
 trunc (M.bind (C k_ratchetref08_begin [(strip (strip a0)), (strip (strip a1))]) fun t15_0 =>
 M.bind (ex 0 (strip t15_0)) fun t16_1 =>
 M.bind (ex 1 (tupDrop 0 (strip t15_0))) fun t17_2 =>
 M.bind (un .not (strip t17_2)) fun t19_3 =>
 condM t19_3
 (M.pure (.tup [(.slice false true 0 []), (.int .i64 0), (.int .i64 1)]))
 (M.bind (C k_ratchetref08_reading_vals [(strip (strip t16_1))]) fun t21_4 =>
 M.bind (C k_ratchetref08_reading_end [(strip (strip t16_1))]) fun t24_5 =>
 M.bind (ex 0 (strip t24_5)) fun t25_6 =>
 M.bind (ex 1 (tupDrop 0 (strip t24_5))) fun t26_7 =>
 M.bind (bi .neq .none (strip t26_7) (.int .i64 0)) fun t28_8 =>
 condM t28_8
 (resT t25_6 (resT t26_7 (M.pure (.tup [(.slice false true 0 []), t25_6, t26_7]))))
 (resT t21_4 (resT t25_6 (M.pure (.tup [t21_4, t25_6, (.int .i64 0)])))))) := by
 rw [C, callW_eq _ _ rfl]; kernel_rfl
/-- ratchet/entry.Field -/
theorem entry_Field_eq (a0 a1 : PV) : C k_entry_Field [a0, a1] =
 trunc (M.bind (al [(.int .i64 0), (.bool false), (.int .i64 0), (.bool false)]) fun t4_0 =>
 M.bind (C k_entry_read_api_Field [(strip (strip a0)), (strip (strip a1)), (.fn k_entry_cursor_field [] [])]) fun t9_1 =>
 M.bind (ex 0 t9_1) fun t10_2 =>
 M.bind (ex 1 (tupDrop 0 t9_1)) fun t11_3 =>
 M.bind (ex 2 (tupDrop 1 (tupDrop 0 t9_1))) fun t12_4 =>
 M.bind (st 4 true t4_0 t10_2) fun _ =>
 M.bind (ld (some 4) true t4_0) fun t0_6 => guardM (!isTup t0_6) (resT t11_3 (resT t12_4 (M.pure (.tup [t0_6, t11_3, t12_4]))))) := by
 rw [C, callW_eq _ _ rfl]; kernel_rfl
/-- ratchet/ratchetref08.Field -/
theorem ratchetref08_Field_eq (a0 a1 : PV) : C k_ratchetref08_Field [a0, a1] =
 trunc (M.bind (al [(.int .i64 0), (.bool false), (.int .i64 0), (.bool false)]) fun t4_0 =>
 M.bind (C k_ratchetref08_begin [(strip (strip a0)), (strip (strip a1))]) fun t15_1 =>
 M.bind (ex 0 (strip t15_1)) fun t16_2 =>
 M.bind (ex 1 (tupDrop 0 (strip t15_1))) fun t17_3 =>
 M.bind (un .not (strip t17_3)) fun t19_4 =>
 condM t19_4
 (M.bind (bd [(.int .i64 0), (.bool false), (.int .i64 0), (.bool false)] []) fun t20_5 =>
 M.bind (st 4 true t4_0 t20_5) fun _ =>
 M.bind (ld (some 4) true t4_0) fun t0_7 => guardM (!isTup t0_7) (M.pure (.tup [t0_7, (.int .i64 0), (.int .i64 1)])))
 (M.bind (C k_ratchetref08_reading_field [(strip (strip t16_2))]) fun t22_8 =>
 M.bind (al [(.int .i64 0), (.bool false), (.int .i64 0), (.bool false)]) fun t9_9 =>
 M.bind (st 4 true t9_9 t22_8) fun _ =>
 M.bind (C k_ratchetref08_reading_end [(strip (strip t16_2))]) fun t25_11 =>
 M.bind (ex 0 (strip t25_11)) fun t26_12 =>
 M.bind (ex 1 (tupDrop 0 (strip t25_11))) fun t27_13 =>
 M.bind (bi .neq .none (strip t27_13) (.int .i64 0)) fun t29_14 =>
 condM t29_14
 (M.bind (bd [(.int .i64 0), (.bool false), (.int .i64 0), (.bool false)] []) fun t30_15 =>
 M.bind (st 4 true t4_0 t30_15) fun _ =>
 M.bind (ld (some 4) true t4_0) fun t0_17 => guardM (!isTup t0_17) (resT t26_12 (resT t27_13 (M.pure (.tup [t0_17, t26_12, t27_13])))))
 (M.bind (ld (some 4) true t9_9) fun t33_18 =>
 M.bind (st 4 true t4_0 t33_18) fun _ =>
 M.bind (ld (some 4) true t4_0) fun t0_20 => guardM (!isTup t0_20) (resT t26_12 (M.pure (.tup [t0_20, t26_12, (.int .i64 0)])))))) := by
 rw [C, callW_eq _ _ rfl]; kernel_rfl
/-- ratchet/entry.CompType -/
theorem entry_CompType_eq (a0 a1 : PV) : C k_entry_CompType [a0, a1] =
 trunc (M.bind (al [(.int .i64 0), (.slice false true 0 []), (.slice false true 0 []), (.slice false true 0 [])]) fun t4_0 =>
 M.bind (C k_entry_read_api_CompType [(strip (strip a0)), (strip (strip a1)), (.fn k_entry_cursor_comp [] [])]) fun t9_1 =>
 M.bind (ex 0 t9_1) fun t10_2 =>
 M.bind (ex 1 (tupDrop 0 t9_1)) fun t11_3 =>
 M.bind (ex 2 (tupDrop 1 (tupDrop 0 t9_1))) fun t12_4 =>
 M.bind (st 4 true t4_0 t10_2) fun _ =>
 M.bind (ld (some 4) true t4_0) fun t0_6 => guardM (!isTup t0_6) (resT t11_3 (resT t12_4 (M.pure (.tup [t0_6, t11_3, t12_4]))))) := by
 rw [C, callW_eq _ _ rfl]; kernel_rfl
/-- ratchet/ratchetref08.CompType -/
theorem ratchetref08_CompType_eq (a0 a1 : PV) : C k_ratchetref08_CompType [a0, a1] =
 trunc (M.bind (al [(.int .i64 0), (.slice false true 0 []), (.slice false true 0 []), (.slice false true 0 [])]) fun t4_0 =>
 M.bind (C k_ratchetref08_begin [(strip (strip a0)), (strip (strip a1))]) fun t15_1 =>
 M.bind (ex 0 (strip t15_1)) fun t16_2 =>
 M.bind (ex 1 (tupDrop 0 (strip t15_1))) fun t17_3 =>
 M.bind (un .not (strip t17_3)) fun t19_4 =>
 condM t19_4
 (M.bind (bd [(.int .i64 0), (.slice false true 0 []), (.slice false true 0 []), (.slice false true 0 [])] []) fun t20_5 =>
 M.bind (st 4 true t4_0 t20_5) fun _ =>
 M.bind (ld (some 4) true t4_0) fun t0_7 => guardM (!isTup t0_7) (M.pure (.tup [t0_7, (.int .i64 0), (.int .i64 1)])))
 (M.bind (C k_ratchetref08_reading_comp [(strip (strip t16_2))]) fun t22_8 =>
 M.bind (al [(.int .i64 0), (.slice false true 0 []), (.slice false true 0 []), (.slice false true 0 [])]) fun t9_9 =>
 M.bind (st 4 true t9_9 t22_8) fun _ =>
 M.bind (C k_ratchetref08_reading_end [(strip (strip t16_2))]) fun t25_11 =>
 M.bind (ex 0 (strip t25_11)) fun t26_12 =>
 M.bind (ex 1 (tupDrop 0 (strip t25_11))) fun t27_13 =>
 M.bind (bi .neq .none (strip t27_13) (.int .i64 0)) fun t29_14 =>
 condM t29_14
 (M.bind (bd [(.int .i64 0), (.slice false true 0 []), (.slice false true 0 []), (.slice false true 0 [])] []) fun t30_15 =>
 M.bind (st 4 true t4_0 t30_15) fun _ =>
 M.bind (ld (some 4) true t4_0) fun t0_17 => guardM (!isTup t0_17) (resT t26_12 (resT t27_13 (M.pure (.tup [t0_17, t26_12, t27_13])))))
 (M.bind (ld (some 4) true t9_9) fun t33_18 =>
 M.bind (st 4 true t4_0 t33_18) fun _ =>
 M.bind (ld (some 4) true t4_0) fun t0_20 => guardM (!isTup t0_20) (resT t26_12 (M.pure (.tup [t0_20, t26_12, (.int .i64 0)])))))) := by
 rw [C, callW_eq _ _ rfl]; kernel_rfl
noncomputable def p_ratchetref05_SameSub_11010 (v2 v3 v4 v5 : PV) : M PV := atP P X k_ratchetref05_SameSub [1, 1, 0, 1, 0] (mkEnv 72 0 [(2, v2), (3, v3), (4, v4), (5, v5)])
theorem p_ratchetref05_SameSub_11010_eq (v2 v3 v4 v5 : PV) : p_ratchetref05_SameSub_11010 v2 v3 v4 v5 =
 M.bind (fa 1 v2) fun t30_0 =>
 M.bind (ld none false t30_0) fun t31_1 =>
 M.bind (lnL t31_1) fun t32_2 =>
 M.bind (bi .lss .none (strip v5) t32_2) fun t33_3 =>
 condM t33_3
 (nb (fa 1 v2) fun t36_4 =>
 nb (ld none false t36_4) fun t37_5 =>
 nb (iaS 1 t37_5 (strip v5)) fun t39_6 =>
 nb (ld none false t39_6) fun t40_7 =>
 nb (fa 1 v3) fun t41_8 =>
 nb (ld none false t41_8) fun t42_9 =>
 nb (iaS 1 t42_9 (strip v5)) fun t44_10 =>
 nb (ld none false t44_10) fun t45_11 =>
 nb (bi .neq .none t40_7 t45_11) fun t46_12 =>
 condM t46_12
 (M.pure (.bool false))
 (M.bind (bi .add .none (strip v5) (.int .i64 1)) fun t35_13 =>
 p_ratchetref05_SameSub_11010 v2 v3 v4 t35_13))
 (M.bind (fa 2 v2) fun t47_14 =>
 M.bind (fa 1 t47_14) fun t48_15 =>
 M.bind (ld none false t48_15) fun t49_16 =>
 M.bind (fa 2 v3) fun t50_17 =>
 M.bind (fa 1 t50_17) fun t51_18 =>
 M.bind (ld none false t51_18) fun t52_19 =>
 M.bind (C k_ratchetref05_SameVals [(strip t49_16), (strip t52_19)]) fun t53_20 =>
 M.bind (gd (strip t53_20) true (fa 2 v2)) fun t55_21 =>
 M.bind (gd (strip t53_20) true (fa 2 t55_21)) fun t56_22 =>
 M.bind (gd (strip t53_20) true (ld none false t56_22)) fun t57_23 =>
 M.bind (gd (strip t53_20) true (fa 2 v3)) fun t58_24 =>
 M.bind (gd (strip t53_20) true (fa 2 t58_24)) fun t59_25 =>
 M.bind (gd (strip t53_20) true (ld none false t59_25)) fun t60_26 =>
 M.bind (gd (strip t53_20) true (C k_ratchetref05_SameVals [(strip t57_23), (strip t60_26)])) fun t61_27 =>
 M.bind (pick (strip t53_20) t61_27 (.bool false)) fun t62_28 =>
 M.bind (gd (strip t62_28) true (fa 2 v2)) fun t64_29 =>
 M.bind (gd (strip t62_28) true (fa 3 t64_29)) fun t65_30 =>
 M.bind (gd (strip t62_28) true (ld none false t65_30)) fun t66_31 =>
 M.bind (gd (strip t62_28) true (fa 2 v3)) fun t67_32 =>
 M.bind (gd (strip t62_28) true (fa 3 t67_32)) fun t68_33 =>
 M.bind (gd (strip t62_28) true (ld none false t68_33)) fun t69_34 =>
 M.bind (gd (strip t62_28) true (C k_ratchetref05_sameFields [(strip t66_31), (strip t69_34)])) fun t70_35 =>
 M.bind (pick (strip t62_28) t70_35 (.bool false)) fun t71_36 =>
 resT t71_36 (M.pure t71_36)) :=
 (atP_step P X _ _ _).trans (by kernel_rfl)
/-- ratchet/ratchetref05.SameSub -/
theorem ratchetref05_SameSub_eq (a0 a1 : PV) : C k_ratchetref05_SameSub [a0, a1] =
 trunc (M.bind (bx 6 a0) fun t2_0 =>
 M.bind (bx 6 a1) fun t3_1 =>
 M.bind (fa 0 t2_0) fun t6_2 =>
 M.bind (ld none false t6_2) fun t7_3 =>
 M.bind (fa 0 t3_1) fun t8_4 =>
 M.bind (ld none false t8_4) fun t9_5 =>
 M.bind (bi .neq .bool t7_3 t9_5) fun t10_6 =>
 M.bind (gd (strip t10_6) false (fa 1 t2_0)) fun t12_7 =>
 M.bind (gd (strip t10_6) false (ld none false t12_7)) fun t13_8 =>
 M.bind (gd (strip t10_6) false (lnL t13_8)) fun t14_9 =>
 M.bind (gd (strip t10_6) false (fa 1 t3_1)) fun t15_10 =>
 M.bind (gd (strip t10_6) false (ld none false t15_10)) fun t16_11 =>
 M.bind (gd (strip t10_6) false (lnL t16_11)) fun t17_12 =>
 M.bind (gd (strip t10_6) false (bi .neq .none t14_9 t17_12)) fun t18_13 =>
 M.bind (pick (strip t10_6) (.bool true) t18_13) fun t19_14 =>
 M.bind (gd (strip t19_14) false (fa 2 t2_0)) fun t21_15 =>
 M.bind (gd (strip t19_14) false (fa 0 t21_15)) fun t22_16 =>
 M.bind (gd (strip t19_14) false (ld none false t22_16)) fun t23_17 =>
 M.bind (gd (strip t19_14) false (fa 2 t3_1)) fun t24_18 =>
 M.bind (gd (strip t19_14) false (fa 0 t24_18)) fun t25_19 =>
 M.bind (gd (strip t19_14) false (ld none false t25_19)) fun t26_20 =>
 M.bind (gd (strip t19_14) false (bi .neq .none t23_17 t26_20)) fun t27_21 =>
 M.bind (pick (strip t19_14) (.bool true) t27_21) fun t28_22 =>
 condM t28_22
 (M.pure (.bool false))
 (p_ratchetref05_SameSub_11010 t2_0 t3_1 (.bool false) (.int .i64 0))) := by
 rw [C, callW_eq _ _ rfl]; kernel_rfl
/-- ratchet/entry.SubType -/
theorem entry_SubType_eq (a0 a1 : PV) : C k_entry_SubType [a0, a1] =
 trunc (M.bind (al [(.bool false), (.slice false true 0 []), (.int .i64 0), (.slice false true 0 []), (.slice false true 0 []), (.slice false true 0 [])]) fun t4_0 =>
 M.bind (C k_entry_read_api_SubType [(strip (strip a0)), (strip (strip a1)), (.fn k_entry_cursor_sub [] [])]) fun t9_1 =>
 M.bind (ex 0 t9_1) fun t10_2 =>
 M.bind (ex 1 (tupDrop 0 t9_1)) fun t11_3 =>
 M.bind (ex 2 (tupDrop 1 (tupDrop 0 t9_1))) fun t12_4 =>
 M.bind (st 6 true t4_0 t10_2) fun _ =>
 M.bind (ld (some 6) true t4_0) fun t0_6 => guardM (!isTup t0_6) (resT t11_3 (resT t12_4 (M.pure (.tup [t0_6, t11_3, t12_4]))))) := by
 rw [C, callW_eq _ _ rfl]; kernel_rfl
/-- ratchet/ratchetref08.SubType -/
theorem ratchetref08_SubType_eq (a0 a1 : PV) : C k_ratchetref08_SubType [a0, a1] =
 trunc (M.bind (al [(.bool false), (.slice false true 0 []), (.int .i64 0), (.slice false true 0 []), (.slice false true 0 []), (.slice false true 0 [])]) fun t4_0 =>
 M.bind (C k_ratchetref08_begin [(strip (strip a0)), (strip (strip a1))]) fun t15_1 =>
 M.bind (ex 0 (strip t15_1)) fun t16_2 =>
 M.bind (ex 1 (tupDrop 0 (strip t15_1))) fun t17_3 =>
 M.bind (un .not (strip t17_3)) fun t19_4 =>
 condM t19_4
 (M.bind (bd [(.bool false), (.slice false true 0 []), (.int .i64 0), (.slice false true 0 []), (.slice false true 0 []), (.slice false true 0 [])] []) fun t20_5 =>
 M.bind (st 6 true t4_0 t20_5) fun _ =>
 M.bind (ld (some 6) true t4_0) fun t0_7 => guardM (!isTup t0_7) (M.pure (.tup [t0_7, (.int .i64 0), (.int .i64 1)])))
 (M.bind (C k_ratchetref08_reading_sub [(strip (strip t16_2))]) fun t22_8 =>
 M.bind (al [(.bool false), (.slice false true 0 []), (.int .i64 0), (.slice false true 0 []), (.slice false true 0 []), (.slice false true 0 [])]) fun t9_9 =>
 M.bind (st 6 true t9_9 t22_8) fun _ =>
 M.bind (C k_ratchetref08_reading_end [(strip (strip t16_2))]) fun t25_11 =>
 M.bind (ex 0 (strip t25_11)) fun t26_12 =>
 M.bind (ex 1 (tupDrop 0 (strip t25_11))) fun t27_13 =>
 M.bind (bi .neq .none (strip t27_13) (.int .i64 0)) fun t29_14 =>
 condM t29_14
 (M.bind (bd [(.bool false), (.slice false true 0 []), (.int .i64 0), (.slice false true 0 []), (.slice false true 0 []), (.slice false true 0 [])] []) fun t30_15 =>
 M.bind (st 6 true t4_0 t30_15) fun _ =>
 M.bind (ld (some 6) true t4_0) fun t0_17 => guardM (!isTup t0_17) (resT t26_12 (resT t27_13 (M.pure (.tup [t0_17, t26_12, t27_13])))))
 (M.bind (ld (some 6) true t9_9) fun t33_18 =>
 M.bind (st 6 true t4_0 t33_18) fun _ =>
 M.bind (ld (some 6) true t4_0) fun t0_20 => guardM (!isTup t0_20) (resT t26_12 (M.pure (.tup [t0_20, t26_12, (.int .i64 0)])))))) := by
 rw [C, callW_eq _ _ rfl]; kernel_rfl
/-- ratchet/entry.RecType -/
theorem entry_RecType_eq (a0 a1 : PV) : C k_entry_RecType [a0, a1] =
 trunc (M.bind (al [(.slice false true 0 []), (.bool false)]) fun t4_0 =>
 M.bind (C k_entry_read_api_RecType [(strip (strip a0)), (strip (strip a1)), (.fn k_entry_cursor_rec [] [])]) fun t9_1 =>
 M.bind (ex 0 t9_1) fun t10_2 =>
 M.bind (ex 1 (tupDrop 0 t9_1)) fun t11_3 =>
 M.bind (ex 2 (tupDrop 1 (tupDrop 0 t9_1))) fun t12_4 =>
 M.bind (st 2 true t4_0 t10_2) fun _ =>
 M.bind (ld (some 2) true t4_0) fun t0_6 => guardM (!isTup t0_6) (resT t11_3 (resT t12_4 (M.pure (.tup [t0_6, t11_3, t12_4]))))) := by
 rw [C, callW_eq _ _ rfl]; kernel_rfl
/-- ratchet/ratchetref08.RecType -/
theorem ratchetref08_RecType_eq (a0 a1 : PV) : C k_ratchetref08_RecType [a0, a1] =
 trunc (M.bind (al [(.slice false true 0 []), (.bool false)]) fun t4_0 =>
 M.bind (C k_ratchetref08_begin [(strip (strip a0)), (strip (strip a1))]) fun t15_1 =>
 M.bind (ex 0 (strip t15_1)) fun t16_2 =>
 M.bind (ex 1 (tupDrop 0 (strip t15_1))) fun t17_3 =>
 M.bind (un .not (strip t17_3)) fun t19_4 =>
 condM t19_4
 (M.bind (bd [(.slice false true 0 []), (.bool false)] []) fun t20_5 =>
 M.bind (st 2 true t4_0 t20_5) fun _ =>
 M.bind (ld (some 2) true t4_0) fun t0_7 => guardM (!isTup t0_7) (M.pure (.tup [t0_7, (.int .i64 0), (.int .i64 1)])))
 (M.bind (C k_ratchetref08_reading_rec [(strip (strip t16_2))]) fun t22_8 =>
 M.bind (al [(.slice false true 0 []), (.bool false)]) fun t9_9 =>
 M.bind (st 2 true t9_9 t22_8) fun _ =>
 M.bind (C k_ratchetref08_reading_end [(strip (strip t16_2))]) fun t25_11 =>
 M.bind (ex 0 (strip t25_11)) fun t26_12 =>
 M.bind (ex 1 (tupDrop 0 (strip t25_11))) fun t27_13 =>
 M.bind (bi .neq .none (strip t27_13) (.int .i64 0)) fun t29_14 =>
 condM t29_14
 (M.bind (bd [(.slice false true 0 []), (.bool false)] []) fun t30_15 =>
 M.bind (st 2 true t4_0 t30_15) fun _ =>
 M.bind (ld (some 2) true t4_0) fun t0_17 => guardM (!isTup t0_17) (resT t26_12 (resT t27_13 (M.pure (.tup [t0_17, t26_12, t27_13])))))
 (M.bind (ld (some 2) true t9_9) fun t33_18 =>
 M.bind (st 2 true t4_0 t33_18) fun _ =>
 M.bind (ld (some 2) true t4_0) fun t0_20 => guardM (!isTup t0_20) (resT t26_12 (M.pure (.tup [t0_20, t26_12, (.int .i64 0)])))))) := by
 rw [C, callW_eq _ _ rfl]; kernel_rfl
noncomputable def p_ratchetref05_SameRec_11010 (v2 v3 v4 v5 : PV) : M PV := atP P X k_ratchetref05_SameRec [1, 1, 0, 1, 0] (mkEnv 39 0 [(2, v2), (3, v3), (4, v4), (5, v5)])
theorem p_ratchetref05_SameRec_11010_eq (v2 v3 v4 v5 : PV) : p_ratchetref05_SameRec_11010 v2 v3 v4 v5 =
 M.bind (fa 0 v2) fun t21_0 =>
 M.bind (ld none false t21_0) fun t22_1 =>
 M.bind (lnL t22_1) fun t23_2 =>
 M.bind (bi .lss .none (strip v5) t23_2) fun t24_3 =>
 condM t24_3
 (M.bind (noPan (fa 0 v2)) fun t27_16 =>
 M.bind (noPan (M.pure (strip v5))) fun t29_17 =>
 M.bind (noPan (fa 0 v3)) fun t32_18 =>
 M.bind (noPan (M.pure (strip v5))) fun t34_19 =>
 M.bind (noPan (ld none false t27_16)) fun t28_20 =>
 M.bind (noPan (iaS 6 t28_20 t29_17)) fun t30_21 =>
 M.bind (noPan (ld (some 6) false t30_21)) fun t31_22 =>
 M.bind (noPan (ld none false t32_18)) fun t33_23 =>
 M.bind (noPan (iaS 6 t33_23 t34_19)) fun t35_24 =>
 M.bind (noPan (ld (some 6) false t35_24)) fun t36_25 =>
 M.bind (noPan (C k_ratchetref05_SameSub [(strip t31_22), (strip t36_25)])) fun t37_26 =>
 M.bind (noPan (un .not t37_26)) fun t38_27 =>
 condM t38_27
 (M.pure (.bool false))
 (M.bind (bi .add .none (strip v5) (.int .i64 1)) fun t26_28 =>
 p_ratchetref05_SameRec_11010 v2 v3 v4 t26_28))
 (M.pure (.bool true)) :=
 (atP_step P X _ _ _).trans (by kernel_rfl)
/-- ratchet/ratchetref05.SameRec -/
theorem ratchetref05_SameRec_eq (a0 a1 : PV) : C k_ratchetref05_SameRec [a0, a1] =
 trunc (M.bind (bx 2 a0) fun t2_0 =>
 M.bind (bx 2 a1) fun t3_1 =>
 M.bind (fa 1 t2_0) fun t6_2 =>
 M.bind (ld none false t6_2) fun t7_3 =>
 M.bind (fa 1 t3_1) fun t8_4 =>
 M.bind (ld none false t8_4) fun t9_5 =>
 M.bind (bi .neq .bool t7_3 t9_5) fun t10_6 =>
 M.bind (gd (strip t10_6) false (fa 0 t2_0)) fun t12_7 =>
 M.bind (gd (strip t10_6) false (ld none false t12_7)) fun t13_8 =>
 M.bind (gd (strip t10_6) false (lnL t13_8)) fun t14_9 =>
 M.bind (gd (strip t10_6) false (fa 0 t3_1)) fun t15_10 =>
 M.bind (gd (strip t10_6) false (ld none false t15_10)) fun t16_11 =>
 M.bind (gd (strip t10_6) false (lnL t16_11)) fun t17_12 =>
 M.bind (gd (strip t10_6) false (bi .neq .none t14_9 t17_12)) fun t18_13 =>
 M.bind (pick (strip t10_6) (.bool true) t18_13) fun t19_14 =>
 condM t19_14
 (M.pure (.bool false))
 (p_ratchetref05_SameRec_11010 t2_0 t3_1 (.bool false) (.int .i64 0))) := by
 rw [C, callW_eq _ _ rfl]; kernel_rfl
end Go.Proofs.Ytofbbijagbpicaa.Pi.Q
/- What the functions are, told. -/
namespace Go.Proofs.Ytofbbijagbpicaa.Pi.Q
open Go Go.Proofs.Ytofbbijagbpicaa.Pi
set_option linter.unusedVariables false
set_option maxRecDepth 100000
/-- ratchet/entry.write -/
theorem entry_write_eq (a0 : PV) : C k_entry_write [a0] =
 trunc (M.bind (al [(.slice false true 0 [])]) fun t2_0 =>
 M.bind (al [(.int .i64 0)]) fun t3_1 =>
 M.bind (mf k_entry_write_1 [] [t2_0, t3_1]) fun t5_2 =>
 guardM (isPtr t2_0 && isPtr t3_1) <| deferM CD t5_2 []
 (M.bind (bd [(.slice false true 0 [])] []) fun t6_3 =>
 M.bind (bx 1 t6_3) fun t7_4 =>
 M.bind (callV P C (strip a0) [(strip (strip t7_4))]) fun t10_5 =>
 M.bind (nc P (strip t7_4)) fun t12_6 =>
 M.bind (fa 0 t12_6) fun t13_7 =>
 M.bind (ld none true t13_7) fun t14_8 =>
 M.bind (st 1 true t2_0 t14_8) fun _ =>
 M.bind (st 1 false t3_1 (.int .i64 0)) fun _ =>
 M.bind (ld none true t2_0) fun t0_11 => guardM (!isTup t0_11) (M.bind (ld none true t3_1) fun t0_12 => guardM (!isTup t0_12) (M.pure (.tup [t0_11, t0_12]))))
 (M.bind (ld none true t2_0) fun t0_13 => guardM (!isTup t0_13) (M.bind (ld none true t3_1) fun t0_14 => guardM (!isTup t0_14) (M.pure (.tup [t0_13, t0_14]))))) := by
 rw [C, callW_eq _ _ rfl]; kernel_rfl
/-- ratchet/entry.PutHeapType$1 -/
theorem entry_PutHeapType_1_eq (a0 a1 : PV) : C k_entry_PutHeapType_1 [a0, a1] =
 trunc (M.bind (ld none false a1) fun t4_0 =>
 M.bind (C k_entry_pen_heap [(strip (strip a0)), (strip t4_0)]) fun t5_1 =>
 M.pure (.tup [])) := by
 rw [C, callW_eq _ _ rfl]; kernel_rfl
noncomputable def p_entry_pen_heap_1010 (v0 v1 v22 v23 : PV) : M PV := atP P X k_entry_pen_heap [1, 0, 1, 0] (mkEnv 38 0 [(0, v0), (1, v1), (22, v22), (23, v23)])
theorem p_entry_pen_heap_1010_eq (v0 v1 v22 v23 : PV) : p_entry_pen_heap_1010 v0 v1 v22 v23 =
 M.bind (bi .lss .none v23 (.int .i64 12)) fun t24_0 =>
 condM t24_0
 (M.bind (ixA 12 1 none v22 (strip v23)) fun t26_1 =>
 M.bind (bi .eql .none (strip t26_1) (strip v1)) fun t29_2 =>
 condM t29_2
 (M.bind (cv (.int .u8) true (strip v23)) fun t32_3 =>
 M.bind (bi .add .none (.int .u8 105) t32_3) fun t33_4 =>
 M.bind (C k_entry_pen_byte [(strip (strip v0)), (strip t33_4)]) fun t34_5 =>
 M.pure (.tup []))
 (M.bind (bi .add .none (strip v23) (.int .i64 1)) fun t35_6 =>
 p_entry_pen_heap_1010 v0 v1 v22 (strip t35_6)))
 (M.bind (C k_entry_pen_must [(strip (strip v0)), (.bool false)]) fun t37_7 =>
 M.pure (.tup [])) :=
 (atP_step P X _ _ _).trans (by kernel_rfl)
/-- (*ratchet/entry.pen).heap -/
theorem entry_pen_heap_eq (a0 a1 : PV) : C k_entry_pen_heap [a0, a1] =
 trunc (M.bind (bi .geq .none (strip a1) (.int .i64 0)) fun t7_0 =>
 condM t7_0
 (M.bind (C k_entry_fits [(strip (strip a1))]) fun t10_1 =>
 M.bind (C k_entry_pen_must [(strip (strip a0)), (strip t10_1)]) fun t11_2 =>
 chk
 (M.bind (noPan (M.pure (strip a0))) fun t12_14 =>
 M.bind (noPan (M.pure (strip a0))) fun t13_15 =>
 M.bind (noPan (nc P t13_15)) fun t14_16 =>
 M.bind (noPan (fa 0 t14_16)) fun t15_17 =>
 M.bind (noPan (M.pure (strip a1))) fun t17_18 =>
 M.bind (noPan (C k_leb_PutS [(strip t17_18)])) fun t18_19 =>
 M.bind (noPan (ld none true t15_17)) fun t16_20 =>
 M.bind (noPan (ap true 1 1 t16_20 t18_19)) fun t19_21 =>
 M.bind (noPan (nc P t12_14)) fun t20_22 =>
 M.bind (noPan (fa 0 t20_22)) fun t21_23 =>
 M.bind (noPan (st 1 true t21_23 t19_21)) fun _ =>
 M.pure [a0, a1, .undef, .undef, .undef, .undef, (strip a1), t7_0, (strip a0), (strip a1), t10_1, t11_2, t12_14, t13_15, t14_16, t15_17, (strip t16_20), t17_18, t18_19, (strip t19_21), t20_22, t21_23, .undef, .undef, .undef, .undef, .undef, .undef, .undef, .undef, .undef, .undef, .undef, .undef, .undef, .undef, .undef, .undef])
 (M.bind (noPan (M.pure (strip a0))) fun t12_3 =>
 M.bind (noPan (M.pure (strip a0))) fun t13_4 =>
 M.bind (noPan (nc P t13_4)) fun t14_5 =>
 M.bind (noPan (fa 0 t14_5)) fun t15_6 =>
 M.bind (noPan (M.pure (strip a1))) fun t17_7 =>
 M.bind (noPan (ld none true t15_6)) fun t16_8 =>
 M.bind (noPan (C k_leb_PutS [(strip t17_7)])) fun t18_9 =>
 M.bind (noPan (ap true 1 1 t16_8 t18_9)) fun t19_10 =>
 M.bind (noPan (nc P t12_3)) fun t20_11 =>
 M.bind (noPan (fa 0 t20_11)) fun t21_12 =>
 M.bind (noPan (st 1 true t21_12 t19_10)) fun _ =>
 M.pure [a0, a1, .undef, .undef, .undef, .undef, (strip a1), t7_0, (strip a0), (strip a1), t10_1, t11_2, t12_3, t13_4, t14_5, t15_6, (strip t16_8), t17_7, t18_9, (strip t19_10), t20_11, t21_12, .undef, .undef, .undef, .undef, .undef, .undef, .undef, .undef, .undef, .undef, .undef, .undef, .undef, .undef, .undef, .undef]) <|
 M.bind (noPan (M.pure (strip a0))) fun t12_25 =>
 M.bind (noPan (M.pure (strip a0))) fun t13_26 =>
 M.bind (noPan (nc P t13_26)) fun t14_27 =>
 M.bind (noPan (fa 0 t14_27)) fun t15_28 =>
 M.bind (noPan (M.pure (strip a1))) fun t17_29 =>
 M.bind (noPan (ld none true t15_28)) fun t16_30 =>
 M.bind (noPan (C k_leb_PutS [(strip t17_29)])) fun t18_31 =>
 M.bind (noPan (ap true 1 1 t16_30 t18_31)) fun t19_32 =>
 M.bind (noPan (nc P t12_25)) fun t20_33 =>
 M.bind (noPan (fa 0 t20_33)) fun t21_34 =>
 M.bind (noPan (st 1 true t21_34 t19_32)) fun _ =>
 M.pure (.tup []))
 (M.bind (C k_entry_abstract []) fun t22_36 =>
 p_entry_pen_heap_1010 a0 a1 t22_36 (.int .i64 0))) := by
 rw [C, callW_eq _ _ rfl]; kernel_rfl
/-- (*ratchet/ratchetref08.writing).heap -/
theorem ratchetref08_writing_heap_eq (a0 a1 : PV) : C k_ratchetref08_writing_heap [a0, a1] =
 trunc (M.bind (bi .lss .none (strip a1) (.int .i64 0)) fun t5_0 =>
 condM t5_0
 (M.bind (bi .geq .none (strip a1) (.int .i64 (-12))) fun t8_1 =>
 M.bind (C k_ratchetref08_writing_must [(strip (strip a0)), (strip t8_1), (.int .i64 4)]) fun t9_2 =>
 chk
 (M.bind (noPan (M.pure (strip a0))) fun t10_15 =>
 M.bind (noPan (M.pure (strip a0))) fun t11_16 =>
 M.bind (noPan (nc P t11_16)) fun t12_17 =>
 M.bind (noPan (fa 0 t12_17)) fun t13_18 =>
 M.bind (noPan (M.pure (strip a1))) fun t15_19 =>
 M.bind (noPan (C k_ratchetref08_code [(strip t15_19)])) fun t16_20 =>
 M.bind (noPan (bs true none [t16_20])) fun t17_21 =>
 M.bind (noPan (ld none true t13_18)) fun t14_22 =>
 M.bind (noPan (ap true 1 1 t14_22 t17_21)) fun t18_23 =>
 M.bind (noPan (nc P t10_15)) fun t19_24 =>
 M.bind (noPan (fa 0 t19_24)) fun t20_25 =>
 M.bind (noPan (st 1 true t20_25 t18_23)) fun _ =>
 M.pure [a0, a1, .undef, .undef, (strip a1), t5_0, (strip a0), (strip a1), t8_1, t9_2, t10_15, t11_16, t12_17, t13_18, (strip t14_22), t15_19, t16_20, t17_21, (strip t18_23), t19_24, t20_25, .undef, .undef, .undef, .undef, .undef, .undef, .undef, .undef, .undef, .undef, .undef, .undef, .undef, .undef])
 (M.bind (noPan (M.pure (strip a0))) fun t10_3 =>
 M.bind (noPan (M.pure (strip a0))) fun t11_4 =>
 M.bind (noPan (nc P t11_4)) fun t12_5 =>
 M.bind (noPan (fa 0 t12_5)) fun t13_6 =>
 M.bind (noPan (M.pure (strip a1))) fun t15_7 =>
 M.bind (noPan (ld none true t13_6)) fun t14_8 =>
 M.bind (noPan (C k_ratchetref08_code [(strip t15_7)])) fun t16_9 =>
 M.bind (noPan (bs true none [t16_9])) fun t17_10 =>
 M.bind (noPan (ap true 1 1 t14_8 t17_10)) fun t18_11 =>
 M.bind (noPan (nc P t10_3)) fun t19_12 =>
 M.bind (noPan (fa 0 t19_12)) fun t20_13 =>
 M.bind (noPan (st 1 true t20_13 t18_11)) fun _ =>
 M.pure [a0, a1, .undef, .undef, (strip a1), t5_0, (strip a0), (strip a1), t8_1, t9_2, t10_3, t11_4, t12_5, t13_6, (strip t14_8), t15_7, t16_9, t17_10, (strip t18_11), t19_12, t20_13, .undef, .undef, .undef, .undef, .undef, .undef, .undef, .undef, .undef, .undef, .undef, .undef, .undef, .undef]) <|
 M.bind (noPan (M.pure (strip a0))) fun t10_27 =>
 M.bind (noPan (M.pure (strip a0))) fun t11_28 =>
 M.bind (noPan (nc P t11_28)) fun t12_29 =>
 M.bind (noPan (fa 0 t12_29)) fun t13_30 =>
 M.bind (noPan (M.pure (strip a1))) fun t15_31 =>
 M.bind (noPan (ld none true t13_30)) fun t14_32 =>
 M.bind (noPan (C k_ratchetref08_code [(strip t15_31)])) fun t16_33 =>
 M.bind (noPan (bs true none [t16_33])) fun t17_34 =>
 M.bind (noPan (ap true 1 1 t14_32 t17_34)) fun t18_35 =>
 M.bind (noPan (nc P t10_27)) fun t19_36 =>
 M.bind (noPan (fa 0 t19_36)) fun t20_37 =>
 M.bind (noPan (st 1 true t20_37 t18_35)) fun _ =>
 M.pure (.tup []))
 (M.bind (bi .lss .none (strip a1) (.int .i64 2147483648)) fun t23_39 =>
 M.bind (C k_ratchetref08_writing_must [(strip (strip a0)), (strip t23_39), (.int .i64 4)]) fun t24_40 =>
 chk
 (M.bind (noPan (M.pure (strip a0))) fun t25_52 =>
 M.bind (noPan (M.pure (strip a0))) fun t26_53 =>
 M.bind (noPan (nc P t26_53)) fun t27_54 =>
 M.bind (noPan (fa 0 t27_54)) fun t28_55 =>
 M.bind (noPan (M.pure (strip a1))) fun t30_56 =>
 M.bind (noPan (C k_ratchetref01_PutS [(strip t30_56)])) fun t31_57 =>
 M.bind (noPan (ld none true t28_55)) fun t29_58 =>
 M.bind (noPan (ap true 1 1 t29_58 t31_57)) fun t32_59 =>
 M.bind (noPan (nc P t25_52)) fun t33_60 =>
 M.bind (noPan (fa 0 t33_60)) fun t34_61 =>
 M.bind (noPan (st 1 true t34_61 t32_59)) fun _ =>
 M.pure [a0, a1, .undef, .undef, (strip a1), t5_0, .undef, .undef, .undef, .undef, .undef, .undef, .undef, .undef, .undef, .undef, .undef, .undef, .undef, .undef, .undef, (strip a0), (strip a1), t23_39, t24_40, t25_52, t26_53, t27_54, t28_55, (strip t29_58), t30_56, t31_57, (strip t32_59), t33_60, t34_61])
 (M.bind (noPan (M.pure (strip a0))) fun t25_41 =>
 M.bind (noPan (M.pure (strip a0))) fun t26_42 =>
 M.bind (noPan (nc P t26_42)) fun t27_43 =>
 M.bind (noPan (fa 0 t27_43)) fun t28_44 =>
 M.bind (noPan (M.pure (strip a1))) fun t30_45 =>
 M.bind (noPan (ld none true t28_44)) fun t29_46 =>
 M.bind (noPan (C k_ratchetref01_PutS [(strip t30_45)])) fun t31_47 =>
 M.bind (noPan (ap true 1 1 t29_46 t31_47)) fun t32_48 =>
 M.bind (noPan (nc P t25_41)) fun t33_49 =>
 M.bind (noPan (fa 0 t33_49)) fun t34_50 =>
 M.bind (noPan (st 1 true t34_50 t32_48)) fun _ =>
 M.pure [a0, a1, .undef, .undef, (strip a1), t5_0, .undef, .undef, .undef, .undef, .undef, .undef, .undef, .undef, .undef, .undef, .undef, .undef, .undef, .undef, .undef, (strip a0), (strip a1), t23_39, t24_40, t25_41, t26_42, t27_43, t28_44, (strip t29_46), t30_45, t31_47, (strip t32_48), t33_49, t34_50]) <|
 M.bind (noPan (M.pure (strip a0))) fun t25_63 =>
 M.bind (noPan (M.pure (strip a0))) fun t26_64 =>
 M.bind (noPan (nc P t26_64)) fun t27_65 =>
 M.bind (noPan (fa 0 t27_65)) fun t28_66 =>
 M.bind (noPan (M.pure (strip a1))) fun t30_67 =>
 M.bind (noPan (ld none true t28_66)) fun t29_68 =>
 M.bind (noPan (C k_ratchetref01_PutS [(strip t30_67)])) fun t31_69 =>
 M.bind (noPan (ap true 1 1 t29_68 t31_69)) fun t32_70 =>
 M.bind (noPan (nc P t25_63)) fun t33_71 =>
 M.bind (noPan (fa 0 t33_71)) fun t34_72 =>
 M.bind (noPan (st 1 true t34_72 t32_70)) fun _ =>
 M.pure (.tup []))) := by
 rw [C, callW_eq _ _ rfl]; kernel_rfl
/-- (*ratchet/ratchetref08.writing).done -/
theorem ratchetref08_writing_done_eq (a0 : PV) : C k_ratchetref08_writing_done [a0] =
 trunc (M.bind (nc P (strip a0)) fun t5_0 =>
 M.bind (fa 1 t5_0) fun t6_1 =>
 M.bind (ld none false t6_1) fun t7_2 =>
 M.bind (bi .neq .none t7_2 (.int .i64 0)) fun t8_3 =>
 condM t8_3
 (nb (nc P (strip a0)) fun t10_4 =>
 nb (fa 1 t10_4) fun t11_5 =>
 nb (ld none true t11_5) fun t12_6 =>
 resT t12_6 (M.pure (.tup [(.slice false true 0 []), t12_6])))
 (M.bind (nc P (strip a0)) fun t14_7 =>
 M.bind (fa 0 t14_7) fun t15_8 =>
 M.bind (ld none true t15_8) fun t16_9 =>
 resT t16_9 (M.pure (.tup [t16_9, (.int .i64 0)])))) := by
 rw [C, callW_eq _ _ rfl]; kernel_rfl
/-- ratchet/entry.PutValType$1 -/
theorem entry_PutValType_1_eq (a0 a1 : PV) : C k_entry_PutValType_1 [a0, a1] =
 trunc (M.bind (ld (some 3) false a1) fun t4_0 =>
 M.bind (C k_entry_pen_val [(strip (strip a0)), (strip t4_0)]) fun t5_1 =>
 M.pure (.tup [])) := by
 rw [C, callW_eq _ _ rfl]; kernel_rfl
noncomputable def p_entry_pen_val_111 (v0 v3 : PV) : M PV := atP P X k_entry_pen_val [1, 1, 1] (mkEnv 49 0 [(0, v0), (3, v3)])
theorem p_entry_pen_val_111_eq (v0 v3 : PV) : p_entry_pen_val_111 v0 v3 =
 M.bind (fa 2 v3) fun t46_0 =>
 M.bind (ld none false t46_0) fun t47_1 =>
 M.bind (C k_entry_pen_heap [(strip (strip v0)), (strip t47_1)]) fun t48_2 =>
 M.pure (.tup []) :=
 (atP_step P X _ _ _).trans (by kernel_rfl)
/-- (*ratchet/entry.pen).val -/
theorem entry_pen_val_eq (a0 a1 : PV) : C k_entry_pen_val [a0, a1] =
 trunc (M.bind (bx 3 a1) fun t3_0 =>
 M.bind (fa 0 t3_0) fun t4_1 =>
 M.bind (ld none false t4_1) fun t5_2 =>
 M.bind (bi .neq .none t5_2 (.int .i64 5)) fun t6_3 =>
 condM t6_3
 (M.bind (fa 0 t3_0) fun t8_4 =>
 M.bind (ld none false t8_4) fun t9_5 =>
 M.bind (bi .geq .none t9_5 (.int .i64 1)) fun t10_6 =>
 M.bind (gd (strip t10_6) true (fa 0 t3_0)) fun t12_7 =>
 M.bind (gd (strip t10_6) true (ld none false t12_7)) fun t13_8 =>
 M.bind (gd (strip t10_6) true (bi .leq .none t13_8 (.int .i64 4))) fun t14_9 =>
 M.bind (pick (strip t10_6) t14_9 (.bool false)) fun t15_10 =>
 M.bind (gd (strip t15_10) true (fa 1 t3_0)) fun t17_11 =>
 M.bind (gd (strip t15_10) true (ld none false t17_11)) fun t18_12 =>
 M.bind (gd (strip t15_10) true (un .not t18_12)) fun t19_13 =>
 M.bind (pick (strip t15_10) t19_13 (.bool false)) fun t20_14 =>
 M.bind (gd (strip t20_14) true (fa 2 t3_0)) fun t22_15 =>
 M.bind (gd (strip t20_14) true (ld none false t22_15)) fun t23_16 =>
 M.bind (gd (strip t20_14) true (bi .eql .none t23_16 (.int .i64 0))) fun t24_17 =>
 M.bind (pick (strip t20_14) t24_17 (.bool false)) fun t25_18 =>
 M.bind (C k_entry_pen_must [(strip (strip a0)), (strip t25_18)]) fun t26_19 =>
 M.bind (fa 0 t3_0) fun t28_20 =>
 M.bind (ld none false t28_20) fun t29_21 =>
 M.bind (cv (.int .u8) true t29_21) fun t30_22 =>
 M.bind (bi .sub .none (.int .u8 128) t30_22) fun t31_23 =>
 M.bind (C k_entry_pen_byte [(strip (strip a0)), (strip t31_23)]) fun t32_24 =>
 M.pure (.tup []))
 (M.bind (fa 1 t3_0) fun t34_25 =>
 M.bind (ld none false t34_25) fun t35_26 =>
 M.bind (un .not t35_26) fun t36_27 =>
 condM t36_27
 (M.bind (C k_entry_pen_byte [(strip (strip a0)), (.int .u8 100)]) fun t38_28 =>
 p_entry_pen_val_111 a0 t3_0)
 (M.bind (fa 2 t3_0) fun t40_29 =>
 M.bind (ld none false t40_29) fun t41_30 =>
 M.bind (bi .geq .none t41_30 (.int .i64 0)) fun t42_31 =>
 condM t42_31
 (M.bind (C k_entry_pen_byte [(strip (strip a0)), (.int .u8 99)]) fun t44_32 =>
 p_entry_pen_val_111 a0 t3_0)
 (p_entry_pen_val_111 a0 t3_0)))) := by
 rw [C, callW_eq _ _ rfl]; kernel_rfl
noncomputable def p_ratchetref08_writing_val_1111 (v0 v4 : PV) : M PV := atP P X k_ratchetref08_writing_val [1, 1, 1, 1] (mkEnv 100 0 [(0, v0), (4, v4)])
noncomputable def p_ratchetref08_writing_val_10101111 (v0 v4 v7 : PV) : M PV := atP P X k_ratchetref08_writing_val [1, 0, 1, 0, 1, 1, 1, 1] (mkEnv 100 0 [(0, v0), (4, v4), (7, v7)])
noncomputable def p_ratchetref08_writing_val_101011111 (v0 v4 v7 : PV) : M PV := atP P X k_ratchetref08_writing_val [1, 0, 1, 0, 1, 1, 1, 1, 1] (mkEnv 100 0 [(0, v0), (4, v4), (7, v7)])
theorem p_ratchetref08_writing_val_1111_eq (v0 v4 : PV) : p_ratchetref08_writing_val_1111 v0 v4 =
 M.bind (fa 2 v4) fun t97_0 =>
 M.bind (ld none false t97_0) fun t98_1 =>
 M.bind (C k_ratchetref08_writing_heap [(strip (strip v0)), (strip t98_1)]) fun t99_2 =>
 M.pure (.tup []) :=
 (atP_step P X _ _ _).trans (by kernel_rfl)
theorem p_ratchetref08_writing_val_10101111_eq (v0 v4 v7 : PV) : p_ratchetref08_writing_val_10101111 v0 v4 v7 =
 M.bind (fa 0 v4) fun t51_0 =>
 M.bind (ld none false t51_0) fun t52_1 =>
 M.bind (bi .eql .none t52_1 (.int .i64 7)) fun t53_2 =>
 condM t53_2
 (p_ratchetref08_writing_val_101011111 v0 v4 (.int .i64 119))
 (p_ratchetref08_writing_val_101011111 v0 v4 v7) :=
 (atP_step P X _ _ _).trans (by kernel_rfl)
theorem p_ratchetref08_writing_val_101011111_eq (v0 v4 v7 : PV) : p_ratchetref08_writing_val_101011111 v0 v4 v7 =
 M.bind (nc P (strip v0)) fun t56_0 =>
 M.bind (fa 0 t56_0) fun t57_1 =>
 M.bind (ld none true t57_1) fun t58_2 =>
 M.bind (cv (.int .u8) true (strip v7)) fun t60_3 =>
 M.bind (bs true none [t60_3]) fun t61_4 =>
 M.bind (ap true 1 1 t58_2 t61_4) fun t62_5 =>
 M.bind (nc P (strip v0)) fun t63_6 =>
 M.bind (fa 0 t63_6) fun t64_7 =>
 M.bind (st 1 true t64_7 t62_5) fun _ =>
 M.pure (.tup []) :=
 (atP_step P X _ _ _).trans (by kernel_rfl)
/-- (*ratchet/ratchetref08.writing).val -/
theorem ratchetref08_writing_val_eq (a0 a1 a2 : PV) : C k_ratchetref08_writing_val [a0, a1, a2] =
 trunc (M.bind (bx 3 a1) fun t4_0 =>
 M.bind (fa 0 t4_0) fun t8_1 =>
 M.bind (ld none false t8_1) fun t9_2 =>
 M.bind (bi .neq .none t9_2 (.int .i64 5)) fun t10_3 =>
 condM t10_3
 (M.bind (fa 0 t4_0) fun t11_4 =>
 M.bind (ld none false t11_4) fun t12_5 =>
 M.bind (bi .eql .none t12_5 (.int .i64 6)) fun t13_6 =>
 M.bind (gd (strip t13_6) false (fa 0 t4_0)) fun t15_7 =>
 M.bind (gd (strip t13_6) false (ld none false t15_7)) fun t16_8 =>
 M.bind (gd (strip t13_6) false (bi .eql .none t16_8 (.int .i64 7))) fun t17_9 =>
 M.bind (pick (strip t13_6) (.bool true) t17_9) fun t18_10 =>
 M.bind (fa 0 t4_0) fun t20_11 =>
 M.bind (ld none false t20_11) fun t21_12 =>
 M.bind (bi .geq .none t21_12 (.int .i64 1)) fun t22_13 =>
 M.bind (gd (strip t22_13) true (fa 0 t4_0)) fun t24_14 =>
 M.bind (gd (strip t22_13) true (ld none false t24_14)) fun t25_15 =>
 M.bind (gd (strip t22_13) true (bi .leq .none t25_15 (.int .i64 4))) fun t26_16 =>
 M.bind (pick (strip t22_13) t26_16 (.bool false)) fun t27_17 =>
 M.bind (gd (strip t27_17) false (M.pure (strip a2))) fun t29_18 =>
 M.bind (gd (strip t27_17) false (M.pure (strip t29_18))) fun t30_19 =>
 M.bind (gd t30_19 true (M.pure (strip t18_10))) fun t31_20 =>
 M.bind (gd (strip t27_17) false (pick t30_19 t31_20 (.bool false))) fun t32_21 =>
 M.bind (pick (strip t27_17) (.bool true) t32_21) fun t33_22 =>
 M.bind (gd (strip t33_22) true (fa 1 t4_0)) fun t35_23 =>
 M.bind (gd (strip t33_22) true (ld none false t35_23)) fun t36_24 =>
 M.bind (gd (strip t33_22) true (un .not t36_24)) fun t37_25 =>
 M.bind (pick (strip t33_22) t37_25 (.bool false)) fun t38_26 =>
 M.bind (gd (strip t38_26) true (fa 2 t4_0)) fun t40_27 =>
 M.bind (gd (strip t38_26) true (ld none false t40_27)) fun t41_28 =>
 M.bind (gd (strip t38_26) true (bi .eql .none t41_28 (.int .i64 0))) fun t42_29 =>
 M.bind (pick (strip t38_26) t42_29 (.bool false)) fun t43_30 =>
 M.bind (C k_ratchetref08_writing_must [(strip (strip a0)), (strip t43_30), (.int .i64 4)]) fun t44_31 =>
 M.bind (fa 0 t4_0) fun t45_32 =>
 M.bind (ld none false t45_32) fun t46_33 =>
 M.bind (bi .sub .none (.int .i64 128) t46_33) fun t47_34 =>
 M.bind (fa 0 t4_0) fun t48_35 =>
 M.bind (ld none false t48_35) fun t49_36 =>
 M.bind (bi .eql .none t49_36 (.int .i64 6)) fun t50_37 =>
 condM t50_37
 (p_ratchetref08_writing_val_10101111 a0 t4_0 (.int .i64 120))
 (p_ratchetref08_writing_val_10101111 a0 t4_0 t47_34))
 (M.bind (fa 1 t4_0) fun t65_38 =>
 M.bind (ld none false t65_38) fun t66_39 =>
 M.bind (gd (strip t66_39) true (fa 2 t4_0)) fun t68_40 =>
 M.bind (gd (strip t66_39) true (ld none false t68_40)) fun t69_41 =>
 M.bind (gd (strip t66_39) true (bi .lss .none t69_41 (.int .i64 0))) fun t70_42 =>
 M.bind (pick (strip t66_39) t70_42 (.bool false)) fun t71_43 =>
 condM t71_43
 (M.bind (fa 2 t4_0) fun t73_44 =>
 M.bind (ld none false t73_44) fun t74_45 =>
 M.bind (C k_ratchetref08_writing_heap [(strip (strip a0)), (strip t74_45)]) fun t75_46 =>
 M.pure (.tup []))
 (M.bind (fa 1 t4_0) fun t76_47 =>
 M.bind (ld none false t76_47) fun t77_48 =>
 condM t77_48
 (M.bind (nc P (strip a0)) fun t80_49 =>
 M.bind (fa 0 t80_49) fun t81_50 =>
 M.bind (ld none true t81_50) fun t82_51 =>
 M.bind (bs true none [(.int .u8 99)]) fun t83_52 =>
 M.bind (ap true 1 1 t82_51 t83_52) fun t84_53 =>
 M.bind (nc P (strip a0)) fun t85_54 =>
 M.bind (fa 0 t85_54) fun t86_55 =>
 M.bind (st 1 true t86_55 t84_53) fun _ =>
 p_ratchetref08_writing_val_1111 a0 t4_0)
 (M.bind (nc P (strip a0)) fun t89_57 =>
 M.bind (fa 0 t89_57) fun t90_58 =>
 M.bind (ld none true t90_58) fun t91_59 =>
 M.bind (bs true none [(.int .u8 100)]) fun t92_60 =>
 M.bind (ap true 1 1 t91_59 t92_60) fun t93_61 =>
 M.bind (nc P (strip a0)) fun t94_62 =>
 M.bind (fa 0 t94_62) fun t95_63 =>
 M.bind (st 1 true t95_63 t93_61) fun _ =>
 p_ratchetref08_writing_val_1111 a0 t4_0)))) := by
 rw [C, callW_eq _ _ rfl]; kernel_rfl
/-- ratchet/entry.PutBlockType$1 -/
theorem entry_PutBlockType_1_eq (a0 a1 : PV) : C k_entry_PutBlockType_1 [a0, a1] =
 trunc (M.bind (fa 1 a1) fun t4_0 =>
 M.bind (ld (some 3) false t4_0) fun t5_1 =>
 M.bind (bd [(.int .i64 0), (.bool false), (.int .i64 0)] []) fun t6_2 =>
 M.bind (bi .eql (.struct [.int, .bool, .int]) t5_1 t6_2) fun t7_3 =>
 M.bind (fa 0 a1) fun t13_4 =>
 M.bind (ld none false t13_4) fun t14_5 =>
 M.bind (bi .geq .none t14_5 (.int .i64 0)) fun t15_6 =>
 condM t15_6
 (M.bind (gd (strip (strip t7_3)) true (fa 0 a1)) fun t19_7 =>
 M.bind (gd (strip (strip t7_3)) true (ld none false t19_7)) fun t20_8 =>
 M.bind (gd (strip (strip t7_3)) true (C k_entry_fits [(strip t20_8)])) fun t21_9 =>
 M.bind (pick (strip (strip t7_3)) t21_9 (.bool false)) fun t22_10 =>
 M.bind (C k_entry_pen_must [(strip (strip a0)), (strip t22_10)]) fun t23_11 =>
 M.bind (fa 0 a1) fun t25_12 =>
 M.bind (ld none false t25_12) fun t26_13 =>
 M.bind (C k_leb_PutS [(strip t26_13)]) fun t27_14 =>
 M.bind (nc P (strip a0)) fun t28_15 =>
 M.bind (fa 0 t28_15) fun t29_16 =>
 M.bind (st 1 true t29_16 t27_14) fun _ =>
 M.pure (.tup []))
 (M.bind (fa 0 a1) fun t31_18 =>
 M.bind (ld none false t31_18) fun t32_19 =>
 M.bind (bi .lss .none t32_19 (.int .i64 (-1))) fun t33_20 =>
 condM t33_20
 (M.bind (C k_entry_pen_must [(strip (strip a0)), (.bool false)]) fun t35_21 =>
 M.pure (.tup []))
 (condM t7_3
 (M.bind (C k_entry_pen_byte [(strip (strip a0)), (.int .u8 64)]) fun t39_22 =>
 M.pure (.tup []))
 (M.bind (fa 1 a1) fun t9_23 =>
 M.bind (ld (some 3) false t9_23) fun t10_24 =>
 M.bind (C k_entry_pen_val [(strip (strip a0)), (strip t10_24)]) fun t11_25 =>
 M.pure (.tup []))))) := by
 rw [C, callW_eq _ _ rfl]; kernel_rfl
/-- (*ratchet/entry.pen).must -/
theorem entry_pen_must_eq (a0 a1 : PV) : C k_entry_pen_must [a0, a1] =
 trunc (M.bind (un .not (strip a1)) fun t5_0 =>
 condM t5_0
 (M.bind (bd [(.int .i64 0), (.int .i64 0)] [(0, 1, (.int .i64 0)), (1, 1, (.int .i64 4))]) fun t6_1 =>
 M.bind (mi y_entry_fault t6_1) fun t7_2 =>
 M.bind (pn t7_2) fun _ =>
 M.pure (.tup []))
 (M.pure (.tup []))) := by
 rw [C, callW_eq _ _ rfl]; kernel_rfl
/-- ratchet/entry.fits -/
theorem entry_fits_eq (a0 : PV) : C k_entry_fits [a0] =
 trunc (M.bind (bi .geq .none (strip a0) (.int .i64 0)) fun t4_0 =>
 M.bind (gd (strip t4_0) true (M.pure (strip a0))) fun t6_1 =>
 M.bind (gd (strip t4_0) true (bi .leq .none t6_1 (.int .i64 2147483647))) fun t7_2 =>
 M.bind (pick (strip t4_0) t7_2 (.bool false)) fun t8_3 =>
 resT t8_3 (M.pure t8_3)) := by
 rw [C, callW_eq _ _ rfl]; kernel_rfl
noncomputable def p_leb_PutS_1100 (v0 v2 v3 : PV) : M PV := atP P X k_leb_PutS [1, 1, 0, 0] (mkEnv 24 0 [(0, v0), (2, v2), (3, v3)])
theorem p_leb_PutS_1100_eq (v0 v2 v3 : PV) : p_leb_PutS_1100 v0 v2 v3 =
 M.bind (bi .lss .none (strip v0) (.int .i64 (-64))) fun t5_0 =>
 M.bind (gd (strip t5_0) false (M.pure (strip v0))) fun t7_1 =>
 M.bind (gd (strip t5_0) false (bi .gtr .none t7_1 (.int .i64 63))) fun t8_2 =>
 M.bind (pick (strip t5_0) (.bool true) t8_2) fun t9_3 =>
 condM t9_3
 (M.bind (cv (.int .u8) true (strip v0)) fun t14_4 =>
 M.bind (bi .or .none t14_4 (.int .u8 128)) fun t15_5 =>
 M.bind (bs true none [t15_5]) fun t16_6 =>
 M.bind (ap true 1 1 v3 t16_6) fun t17_7 =>
 M.bind (bi .shr .none (strip v0) (.int .u64 7)) fun t11_8 =>
 p_leb_PutS_1100 t11_8 v2 t17_7)
 (M.bind (cv (.int .u8) true (strip v0)) fun t20_9 =>
 M.bind (bi .and .none t20_9 (.int .u8 127)) fun t21_10 =>
 M.bind (bs true none [t21_10]) fun t22_11 =>
 M.bind (ap true 1 1 v3 t22_11) fun t23_12 =>
 resT t23_12 (M.pure t23_12)) :=
 (atP_step P X _ _ _).trans (by kernel_rfl)
/-- ratchet/leb.PutS -/
theorem leb_PutS_eq (a0 : PV) : C k_leb_PutS [a0] =
 trunc (p_leb_PutS_1100 a0 (.slice false true 0 []) (.slice false true 0 [])) := by
 rw [C, callW_eq _ _ rfl]; kernel_rfl
/-- (*ratchet/entry.pen).byte -/
theorem entry_pen_byte_eq (a0 a1 : PV) : C k_entry_pen_byte [a0, a1] =
 trunc (M.bind (nc P (strip a0)) fun t6_0 =>
 M.bind (fa 0 t6_0) fun t7_1 =>
 M.bind (ld none true t7_1) fun t8_2 =>
 M.bind (bs true none [(strip a1)]) fun t10_3 =>
 M.bind (ap true 1 1 t8_2 t10_3) fun t11_4 =>
 M.bind (nc P (strip a0)) fun t12_5 =>
 M.bind (fa 0 t12_5) fun t13_6 =>
 M.bind (st 1 true t13_6 t11_4) fun _ =>
 M.pure (.tup [])) := by
 rw [C, callW_eq _ _ rfl]; kernel_rfl
/-- (*ratchet/ratchetref08.writing).must -/
theorem ratchetref08_writing_must_eq (a0 a1 a2 : PV) : C k_ratchetref08_writing_must [a0, a1, a2] =
 trunc (M.bind (un .not (strip a1)) fun t7_0 =>
 M.bind (gd (strip t7_0) true (M.pure (strip a0))) fun t9_1 =>
 M.bind (gd (strip t7_0) true (nc P t9_1)) fun t10_2 =>
 M.bind (gd (strip t7_0) true (fa 1 t10_2)) fun t11_3 =>
 M.bind (gd (strip t7_0) true (ld none false t11_3)) fun t12_4 =>
 M.bind (gd (strip t7_0) true (bi .eql .none t12_4 (.int .i64 0))) fun t13_5 =>
 M.bind (pick (strip t7_0) t13_5 (.bool false)) fun t14_6 =>
 condM t14_6
 (M.bind (nc P (strip a0)) fun t17_7 =>
 M.bind (fa 1 t17_7) fun t18_8 =>
 M.bind (st 1 true t18_8 a2) fun _ =>
 M.pure (.tup []))
 (M.pure (.tup []))) := by
 rw [C, callW_eq _ _ rfl]; kernel_rfl
noncomputable def p_ratchetref01_PutS_1100 (v0 v2 v3 : PV) : M PV := atP P X k_ratchetref01_PutS [1, 1, 0, 0] (mkEnv 25 0 [(0, v0), (2, v2), (3, v3)])
theorem p_ratchetref01_PutS_1100_eq (v0 v2 v3 : PV) : p_ratchetref01_PutS_1100 v0 v2 v3 =
 M.bind (bi .lss .none (strip v0) (.int .i64 (-64))) fun t5_0 =>
 M.bind (gd (strip t5_0) false (M.pure (strip v0))) fun t7_1 =>
 M.bind (gd (strip t5_0) false (bi .gtr .none t7_1 (.int .i64 63))) fun t8_2 =>
 M.bind (pick (strip t5_0) (.bool true) t8_2) fun t9_3 =>
 condM t9_3
 (M.bind (bi .and .none (strip v0) (.int .i64 127)) fun t12_4 =>
 M.bind (cv (.int .u8) true t12_4) fun t13_5 =>
 M.bind (bi .add .none t13_5 (.int .u8 128)) fun t14_6 =>
 M.bind (bs true none [t14_6]) fun t15_7 =>
 M.bind (ap true 1 1 v3 t15_7) fun t16_8 =>
 M.bind (bi .shr .none (strip v0) (.int .u64 7)) fun t18_9 =>
 p_ratchetref01_PutS_1100 t18_9 v2 t16_8)
 (M.bind (bi .and .none (strip v0) (.int .i64 127)) fun t21_10 =>
 M.bind (cv (.int .u8) true t21_10) fun t22_11 =>
 M.bind (bs true none [t22_11]) fun t23_12 =>
 M.bind (ap true 1 1 v3 t23_12) fun t24_13 =>
 resT t24_13 (M.pure t24_13)) :=
 (atP_step P X _ _ _).trans (by kernel_rfl)
/-- ratchet/ratchetref01.PutS -/
theorem ratchetref01_PutS_eq (a0 : PV) : C k_ratchetref01_PutS [a0] =
 trunc (p_ratchetref01_PutS_1100 a0 (.slice false true 0 []) (.slice false true 0 [])) := by
 rw [C, callW_eq _ _ rfl]; kernel_rfl
/-- ratchet/entry.PutRecType$1 -/
theorem entry_PutRecType_1_eq (a0 a1 : PV) : C k_entry_PutRecType_1 [a0, a1] =
 trunc (M.bind (fa 0 a1) fun t3_0 =>
 M.bind (ld none false t3_0) fun t4_1 =>
 M.bind (lnL t4_1) fun t5_2 =>
 M.bind (bi .eql .none t5_2 (.int .i64 1)) fun t6_3 =>
 condM t6_3
 (M.bind (fa 0 a1) fun t8_4 =>
 M.bind (ld none false t8_4) fun t9_5 =>
 M.bind (iaS 6 t9_5 (.int .i64 0)) fun t10_6 =>
 M.bind (ld (some 6) false t10_6) fun t11_7 =>
 M.bind (C k_entry_pen_sub [(strip (strip a0)), (strip t11_7)]) fun t12_8 =>
 M.pure (.tup []))
 (M.bind (C k_entry_pen_byte [(strip (strip a0)), (.int .u8 78)]) fun t14_9 =>
 M.bind (fa 0 a1) fun t16_10 =>
 M.bind (ld none false t16_10) fun t17_11 =>
 M.bind (mf k_entry_pen_sub [(strip a0)] []) fun t19_12 =>
 M.bind (C k_entry_each_api_SubType [(strip (strip a0)), (strip t17_11), (.int .i64 10000), (strip t19_12)]) fun t20_13 =>
 M.pure (.tup []))) := by
 rw [C, callW_eq _ _ rfl]; kernel_rfl
noncomputable def p_entry_pen_sub_11 (v0 v3 : PV) : M PV := atP P X k_entry_pen_sub [1, 1] (mkEnv 34 0 [(0, v0), (3, v3)])
theorem p_entry_pen_sub_11_eq (v0 v3 : PV) : p_entry_pen_sub_11 v0 v3 =
 M.bind (fa 1 v3) fun t25_0 =>
 M.bind (ld none false t25_0) fun t26_1 =>
 M.bind (mf k_entry_pen_index [(strip v0)] []) fun t28_2 =>
 M.bind (C k_entry_each_int [(strip (strip v0)), (strip t26_1), (.int .i64 1000), (strip t28_2)]) fun t29_3 =>
 M.bind (fa 2 v3) fun t31_4 =>
 M.bind (ld (some 4) false t31_4) fun t32_5 =>
 M.bind (C k_entry_pen_comp [(strip (strip v0)), (strip t32_5)]) fun t33_6 =>
 M.pure (.tup []) :=
 (atP_step P X _ _ _).trans (by kernel_rfl)
/-- (*ratchet/entry.pen).sub -/
theorem entry_pen_sub_eq (a0 a1 : PV) : C k_entry_pen_sub [a0, a1] =
 trunc (M.bind (bx 6 a1) fun t3_0 =>
 M.bind (fa 0 t3_0) fun t7_1 =>
 M.bind (ld none false t7_1) fun t8_2 =>
 M.bind (gd (strip t8_2) true (fa 1 t3_0)) fun t10_3 =>
 M.bind (gd (strip t8_2) true (ld none false t10_3)) fun t11_4 =>
 M.bind (gd (strip t8_2) true (lnL t11_4)) fun t12_5 =>
 M.bind (gd (strip t8_2) true (bi .eql .none t12_5 (.int .i64 0))) fun t13_6 =>
 M.bind (pick (strip t8_2) t13_6 (.bool false)) fun t14_7 =>
 condM t14_7
 (M.bind (fa 2 t3_0) fun t16_8 =>
 M.bind (ld (some 4) false t16_8) fun t17_9 =>
 M.bind (C k_entry_pen_comp [(strip (strip a0)), (strip t17_9)]) fun t18_10 =>
 M.pure (.tup []))
 (M.bind (fa 0 t3_0) fun t20_11 =>
 M.bind (ld none true t20_11) fun t21_12 =>
 condM t21_12
 (M.bind (C k_entry_pen_byte [(strip (strip a0)), (.int .u8 79)]) fun t23_13 =>
 p_entry_pen_sub_11 a0 t3_0)
 (M.bind (C k_entry_pen_byte [(strip (strip a0)), (.int .u8 80)]) fun t5_14 =>
 p_entry_pen_sub_11 a0 t3_0))) := by
 rw [C, callW_eq _ _ rfl]; kernel_rfl
noncomputable def p_entry_each_api_SubType_1 (v0 v1 v3 : PV) : M PV := atP P X k_entry_each_api_SubType [1] (mkEnv 31 0 [(0, v0), (1, v1), (3, v3)])
noncomputable def p_entry_each_api_SubType_1110 (v3 v21 v22 v23 : PV) : M PV := atP P X k_entry_each_api_SubType [1, 1, 1, 0] (mkEnv 31 0 [(3, v3), (21, v21), (22, v22), (23, v23)])
theorem p_entry_each_api_SubType_1_eq (v0 v1 v3 : PV) : p_entry_each_api_SubType_1 v0 v1 v3 =
 M.bind (lnL (strip v1)) fun t18_0 =>
 M.bind (cv (.int .u64) true t18_0) fun t19_1 =>
 M.bind (C k_entry_pen_u [(strip (strip v0)), (strip t19_1)]) fun t20_2 =>
 M.bind (lnL (strip v1)) fun t22_3 =>
 p_entry_each_api_SubType_1110 v3 (strip v1) t22_3 (.int .i64 0) :=
 (atP_step P X _ _ _).trans (by kernel_rfl)
theorem p_entry_each_api_SubType_1110_eq (v3 v21 v22 v23 : PV) : p_entry_each_api_SubType_1110 v3 v21 v22 v23 =
 M.bind (bi .lss .none v23 v22) fun t24_0 =>
 condM t24_0
 (M.bind (iaS 6 v21 v23) fun t25_1 =>
 M.bind (ld (some 6) true t25_1) fun t26_2 =>
 M.bind (al [(.bool false), (.slice false true 0 []), (.int .i64 0), (.slice false true 0 []), (.slice false true 0 []), (.slice false true 0 [])]) fun t9_3 =>
 M.bind (st 6 true t9_3 t26_2) fun _ =>
 M.bind (ld (some 6) false t9_3) fun t28_5 =>
 M.bind (callV P C (strip v3) [(strip t28_5)]) fun t29_6 =>
 M.bind (bi .add .none v23 (.int .i64 1)) fun t30_7 =>
 p_entry_each_api_SubType_1110 v3 v21 v22 (strip t30_7))
 (M.pure (.tup [])) :=
 (atP_step P X _ _ _).trans (by kernel_rfl)
/-- ratchet/entry.each[ratchet/api.SubType] -/
theorem entry_each_api_SubType_eq (a0 a1 a2 a3 : PV) : C k_entry_each_api_SubType [a0, a1, a2, a3] =
 trunc (M.bind (lnL (strip a1)) fun t11_0 =>
 M.bind (bi .gtr .none t11_0 (strip a2)) fun t13_1 =>
 condM t13_1
 (M.bind (bd [(.int .i64 0), (.int .i64 0)] [(0, 1, (.int .i64 0)), (1, 1, (.int .i64 2))]) fun t14_2 =>
 M.bind (mi y_entry_fault t14_2) fun t15_3 =>
 M.bind (pn t15_3) fun _ =>
 p_entry_each_api_SubType_1 a0 a1 a3)
 (p_entry_each_api_SubType_1 a0 a1 a3)) := by
 rw [C, callW_eq _ _ rfl]; kernel_rfl
/-- (*ratchet/ratchetref08.writing).many -/
theorem ratchetref08_writing_many_eq (a0 a1 a2 : PV) : C k_ratchetref08_writing_many [a0, a1, a2] =
 trunc (M.bind (bi .leq .none (strip a1) (strip a2)) fun t9_0 =>
 M.bind (C k_ratchetref08_writing_must [(strip (strip a0)), (strip t9_0), (.int .i64 2)]) fun t10_1 =>
 M.bind (cv (.int .u64) true (strip a1)) fun t13_2 =>
 M.bind (C k_ratchetref08_writing_u [(strip (strip a0)), (strip t13_2)]) fun t14_3 =>
 M.pure (.tup [])) := by
 rw [C, callW_eq _ _ rfl]; kernel_rfl
noncomputable def p_ratchetref08_writing_sub_11 (v0 v3 : PV) : M PV := atP P X k_ratchetref08_writing_sub [1, 1] (mkEnv 50 0 [(0, v0), (3, v3)])
noncomputable def p_ratchetref08_writing_sub_101011 (v0 v3 v4 : PV) : M PV := atP P X k_ratchetref08_writing_sub [1, 0, 1, 0, 1, 1] (mkEnv 50 0 [(0, v0), (3, v3), (4, v4)])
noncomputable def p_ratchetref08_writing_sub_1010111110 (v0 v3 v5 : PV) : M PV := atP P X k_ratchetref08_writing_sub [1, 0, 1, 0, 1, 1, 1, 1, 1, 0] (mkEnv 50 0 [(0, v0), (3, v3), (5, v5)])
theorem p_ratchetref08_writing_sub_11_eq (v0 v3 : PV) : p_ratchetref08_writing_sub_11 v0 v3 =
 M.bind (fa 2 v3) fun t47_0 =>
 M.bind (ld (some 4) false t47_0) fun t48_1 =>
 M.bind (C k_ratchetref08_writing_comp [(strip (strip v0)), (strip t48_1)]) fun t49_2 =>
 M.pure (.tup []) :=
 (atP_step P X _ _ _).trans (by kernel_rfl)
theorem p_ratchetref08_writing_sub_101011_eq (v0 v3 v4 : PV) : p_ratchetref08_writing_sub_101011 v0 v3 v4 =
 M.bind (nc P (strip v0)) fun t19_0 =>
 M.bind (fa 0 t19_0) fun t20_1 =>
 M.bind (ld none true t20_1) fun t21_2 =>
 M.bind (bs true none [(strip v4)]) fun t23_3 =>
 M.bind (ap true 1 1 t21_2 t23_3) fun t24_4 =>
 M.bind (nc P (strip v0)) fun t25_5 =>
 M.bind (fa 0 t25_5) fun t26_6 =>
 M.bind (st 1 true t26_6 t24_4) fun _ =>
 M.bind (fa 1 v3) fun t28_8 =>
 M.bind (ld none false t28_8) fun t29_9 =>
 M.bind (lnL t29_9) fun t30_10 =>
 M.bind (C k_ratchetref08_writing_many [(strip (strip v0)), (strip t30_10), (.int .i64 1000)]) fun t31_11 =>
 p_ratchetref08_writing_sub_1010111110 v0 v3 (.int .i64 0) :=
 (atP_step P X _ _ _).trans (by kernel_rfl)
theorem p_ratchetref08_writing_sub_1010111110_eq (v0 v3 v5 : PV) : p_ratchetref08_writing_sub_1010111110 v0 v3 v5 =
 M.bind (fa 1 v3) fun t33_0 =>
 M.bind (ld none false t33_0) fun t34_1 =>
 M.bind (lnL t34_1) fun t35_2 =>
 M.bind (bi .lss .none (strip v5) t35_2) fun t36_3 =>
 condM t36_3
 (M.bind (fa 1 v3) fun t40_4 =>
 M.bind (ld none false t40_4) fun t41_5 =>
 M.bind (iaS 1 t41_5 (strip v5)) fun t43_6 =>
 M.bind (ld none false t43_6) fun t44_7 =>
 M.bind (C k_ratchetref08_writing_index [(strip (strip v0)), (strip t44_7)]) fun t45_8 =>
 M.bind (bi .add .none (strip v5) (.int .i64 1)) fun t38_9 =>
 p_ratchetref08_writing_sub_1010111110 v0 v3 t38_9)
 (p_ratchetref08_writing_sub_11 v0 v3) :=
 (atP_step P X _ _ _).trans (by kernel_rfl)
/-- (*ratchet/ratchetref08.writing).sub -/
theorem ratchetref08_writing_sub_eq (a0 a1 : PV) : C k_ratchetref08_writing_sub [a0, a1] =
 trunc (M.bind (bx 6 a1) fun t3_0 =>
 M.bind (fa 0 t3_0) fun t6_1 =>
 M.bind (ld none false t6_1) fun t7_2 =>
 M.bind (un .not t7_2) fun t8_3 =>
 M.bind (gd (strip t8_3) false (fa 1 t3_0)) fun t10_4 =>
 M.bind (gd (strip t8_3) false (ld none false t10_4)) fun t11_5 =>
 M.bind (gd (strip t8_3) false (lnL t11_5)) fun t12_6 =>
 M.bind (gd (strip t8_3) false (bi .gtr .none t12_6 (.int .i64 0))) fun t13_7 =>
 M.bind (pick (strip t8_3) (.bool true) t13_7) fun t14_8 =>
 condM t14_8
 (M.bind (fa 0 t3_0) fun t15_9 =>
 M.bind (ld none false t15_9) fun t16_10 =>
 condM t16_10
 (p_ratchetref08_writing_sub_101011 a0 t3_0 (.int .u8 79))
 (p_ratchetref08_writing_sub_101011 a0 t3_0 (.int .u8 80)))
 (p_ratchetref08_writing_sub_11 a0 t3_0)) := by
 rw [C, callW_eq _ _ rfl]; kernel_rfl
/-- ratchet/entry.PutLimits$1 -/
theorem entry_PutLimits_1_eq (a0 a1 : PV) : C k_entry_PutLimits_1 [a0, a1] =
 trunc (M.bind (ld (some 4) false a1) fun t4_0 =>
 M.bind (C k_entry_pen_limits [(strip (strip a0)), (strip t4_0)]) fun t5_1 =>
 M.pure (.tup [])) := by
 rw [C, callW_eq _ _ rfl]; kernel_rfl
noncomputable def p_entry_pen_limits_111 (v0 v3 v4 : PV) : M PV := atP P X k_entry_pen_limits [1, 1, 1] (mkEnv 51 0 [(0, v0), (3, v3), (4, v4)])
noncomputable def p_entry_pen_limits_1111 (v0 v3 v4 : PV) : M PV := atP P X k_entry_pen_limits [1, 1, 1, 1] (mkEnv 51 0 [(0, v0), (3, v3), (4, v4)])
theorem p_entry_pen_limits_111_eq (v0 v3 v4 : PV) : p_entry_pen_limits_111 v0 v3 v4 =
 M.bind (fa 0 v3) fun t7_0 =>
 M.bind (ld none false t7_0) fun t8_1 =>
 condM t8_1
 (M.bind (bi .add .none (strip v4) (.int .u8 4)) fun t10_2 =>
 p_entry_pen_limits_1111 v0 v3 t10_2)
 (p_entry_pen_limits_1111 v0 v3 v4) :=
 (atP_step P X _ _ _).trans (by kernel_rfl)
theorem p_entry_pen_limits_1111_eq (v0 v3 v4 : PV) : p_entry_pen_limits_1111 v0 v3 v4 =
 M.bind (C k_entry_pen_byte [(strip (strip v0)), (strip (strip v4))]) fun t13_0 =>
 M.bind (fa 0 v3) fun t15_1 =>
 M.bind (ld none false t15_1) fun t16_2 =>
 M.bind (gd (strip t16_2) false (fa 1 v3)) fun t18_3 =>
 M.bind (gd (strip t16_2) false (ld none false t18_3)) fun t19_4 =>
 M.bind (gd (strip t16_2) false (bi .lss .none t19_4 (.int .u64 4294967296))) fun t20_5 =>
 M.bind (pick (strip t16_2) (.bool true) t20_5) fun t21_6 =>
 M.bind (C k_entry_pen_must [(strip (strip v0)), (strip t21_6)]) fun t22_7 =>
 M.bind (fa 1 v3) fun t24_8 =>
 M.bind (ld none false t24_8) fun t25_9 =>
 M.bind (C k_entry_pen_u [(strip (strip v0)), (strip t25_9)]) fun t26_10 =>
 M.bind (fa 3 v3) fun t28_11 =>
 M.bind (ld none false t28_11) fun t29_12 =>
 M.bind (gd (strip t29_12) false (fa 2 v3)) fun t31_13 =>
 M.bind (gd (strip t29_12) false (ld none false t31_13)) fun t32_14 =>
 M.bind (gd (strip t29_12) false (bi .eql .none t32_14 (.int .u64 0))) fun t33_15 =>
 M.bind (pick (strip t29_12) (.bool true) t33_15) fun t34_16 =>
 M.bind (gd (strip t34_16) true (fa 0 v3)) fun t36_17 =>
 M.bind (gd (strip t34_16) true (ld none false t36_17)) fun t37_18 =>
 M.bind (gd (strip t34_16) true (M.pure (strip t37_18))) fun t38_19 =>
 M.bind (gd t38_19 false (fa 2 v3)) fun t39_20 =>
 M.bind (gd t38_19 false (ld none false t39_20)) fun t40_21 =>
 M.bind (gd t38_19 false (bi .lss .none t40_21 (.int .u64 4294967296))) fun t41_22 =>
 M.bind (gd (strip t34_16) true (pick t38_19 (.bool true) t41_22)) fun t42_23 =>
 M.bind (pick (strip t34_16) t42_23 (.bool false)) fun t43_24 =>
 M.bind (C k_entry_pen_must [(strip (strip v0)), (strip t43_24)]) fun t44_25 =>
 M.bind (fa 3 v3) fun t45_26 =>
 M.bind (ld none false t45_26) fun t46_27 =>
 condM t46_27
 (M.bind (fa 2 v3) fun t48_28 =>
 M.bind (ld none false t48_28) fun t49_29 =>
 M.bind (C k_entry_pen_u [(strip (strip v0)), (strip t49_29)]) fun t50_30 =>
 M.pure (.tup []))
 (M.pure (.tup [])) :=
 (atP_step P X _ _ _).trans (by kernel_rfl)
/-- (*ratchet/entry.pen).limits -/
theorem entry_pen_limits_eq (a0 a1 : PV) : C k_entry_pen_limits [a0, a1] =
 trunc (M.bind (bx 4 a1) fun t3_0 =>
 M.bind (fa 3 t3_0) fun t5_1 =>
 M.bind (ld none false t5_1) fun t6_2 =>
 condM t6_2
 (p_entry_pen_limits_111 a0 t3_0 (.int .u8 1))
 (p_entry_pen_limits_111 a0 t3_0 (.int .u8 0))) := by
 rw [C, callW_eq _ _ rfl]; kernel_rfl
noncomputable def p_ratchetref08_writing_limits_111 (v0 v3 v4 : PV) : M PV := atP P X k_ratchetref08_writing_limits [1, 1, 1] (mkEnv 58 0 [(0, v0), (3, v3), (4, v4)])
noncomputable def p_ratchetref08_writing_limits_1111 (v0 v3 v4 : PV) : M PV := atP P X k_ratchetref08_writing_limits [1, 1, 1, 1] (mkEnv 58 0 [(0, v0), (3, v3), (4, v4)])
theorem p_ratchetref08_writing_limits_111_eq (v0 v3 v4 : PV) : p_ratchetref08_writing_limits_111 v0 v3 v4 =
 M.bind (fa 3 v3) fun t7_0 =>
 M.bind (ld none false t7_0) fun t8_1 =>
 condM t8_1
 (M.bind (bi .add .none (strip v4) (.int .u8 1)) fun t10_2 =>
 p_ratchetref08_writing_limits_1111 v0 v3 t10_2)
 (p_ratchetref08_writing_limits_1111 v0 v3 v4) :=
 (atP_step P X _ _ _).trans (by kernel_rfl)
theorem p_ratchetref08_writing_limits_1111_eq (v0 v3 v4 : PV) : p_ratchetref08_writing_limits_1111 v0 v3 v4 =
 M.bind (nc P (strip v0)) fun t13_0 =>
 M.bind (fa 0 t13_0) fun t14_1 =>
 M.bind (ld none true t14_1) fun t15_2 =>
 M.bind (bs true none [(strip v4)]) fun t17_3 =>
 M.bind (ap true 1 1 t15_2 t17_3) fun t18_4 =>
 M.bind (nc P (strip v0)) fun t19_5 =>
 M.bind (fa 0 t19_5) fun t20_6 =>
 M.bind (st 1 true t20_6 t18_4) fun _ =>
 M.bind (fa 0 v3) fun t22_8 =>
 M.bind (ld none false t22_8) fun t23_9 =>
 M.bind (gd (strip t23_9) false (fa 1 v3)) fun t25_10 =>
 M.bind (gd (strip t23_9) false (ld none false t25_10)) fun t26_11 =>
 M.bind (gd (strip t23_9) false (bi .lss .none t26_11 (.int .u64 4294967296))) fun t27_12 =>
 M.bind (pick (strip t23_9) (.bool true) t27_12) fun t28_13 =>
 M.bind (C k_ratchetref08_writing_must [(strip (strip v0)), (strip t28_13), (.int .i64 4)]) fun t29_14 =>
 M.bind (fa 1 v3) fun t31_15 =>
 M.bind (ld none false t31_15) fun t32_16 =>
 M.bind (C k_ratchetref08_writing_u [(strip (strip v0)), (strip t32_16)]) fun t33_17 =>
 M.bind (fa 0 v3) fun t35_18 =>
 M.bind (ld none false t35_18) fun t36_19 =>
 M.bind (gd (strip t36_19) false (fa 2 v3)) fun t38_20 =>
 M.bind (gd (strip t36_19) false (ld none false t38_20)) fun t39_21 =>
 M.bind (gd (strip t36_19) false (bi .lss .none t39_21 (.int .u64 4294967296))) fun t40_22 =>
 M.bind (pick (strip t36_19) (.bool true) t40_22) fun t41_23 =>
 M.bind (gd (strip t41_23) true (fa 3 v3)) fun t43_24 =>
 M.bind (gd (strip t41_23) true (ld none false t43_24)) fun t44_25 =>
 M.bind (gd (strip t41_23) true (M.pure (strip t44_25))) fun t45_26 =>
 M.bind (gd t45_26 false (fa 2 v3)) fun t46_27 =>
 M.bind (gd t45_26 false (ld none false t46_27)) fun t47_28 =>
 M.bind (gd t45_26 false (bi .eql .none t47_28 (.int .u64 0))) fun t48_29 =>
 M.bind (gd (strip t41_23) true (pick t45_26 (.bool true) t48_29)) fun t49_30 =>
 M.bind (pick (strip t41_23) t49_30 (.bool false)) fun t50_31 =>
 M.bind (C k_ratchetref08_writing_must [(strip (strip v0)), (strip t50_31), (.int .i64 4)]) fun t51_32 =>
 M.bind (fa 3 v3) fun t52_33 =>
 M.bind (ld none false t52_33) fun t53_34 =>
 condM t53_34
 (M.bind (fa 2 v3) fun t55_35 =>
 M.bind (ld none false t55_35) fun t56_36 =>
 M.bind (C k_ratchetref08_writing_u [(strip (strip v0)), (strip t56_36)]) fun t57_37 =>
 M.pure (.tup []))
 (M.pure (.tup [])) :=
 (atP_step P X _ _ _).trans (by kernel_rfl)
/-- (*ratchet/ratchetref08.writing).limits -/
theorem ratchetref08_writing_limits_eq (a0 a1 : PV) : C k_ratchetref08_writing_limits [a0, a1] =
 trunc (M.bind (bx 4 a1) fun t3_0 =>
 M.bind (fa 0 t3_0) fun t5_1 =>
 M.bind (ld none false t5_1) fun t6_2 =>
 condM t6_2
 (p_ratchetref08_writing_limits_111 a0 t3_0 (.int .u8 4))
 (p_ratchetref08_writing_limits_111 a0 t3_0 (.int .u8 0))) := by
 rw [C, callW_eq _ _ rfl]; kernel_rfl
/-- ratchet/entry.PutTag$1 -/
theorem entry_PutTag_1_eq (a0 a1 : PV) : C k_entry_PutTag_1 [a0, a1] =
 trunc (M.bind (ld none false a1) fun t4_0 =>
 M.bind (C k_entry_pen_tag [(strip (strip a0)), (strip t4_0)]) fun t5_1 =>
 M.pure (.tup [])) := by
 rw [C, callW_eq _ _ rfl]; kernel_rfl
/-- (*ratchet/entry.pen).tag -/
theorem entry_pen_tag_eq (a0 a1 : PV) : C k_entry_pen_tag [a0, a1] =
 trunc (M.bind (C k_entry_pen_byte [(strip (strip a0)), (.int .u8 0)]) fun t5_0 =>
 M.bind (C k_entry_pen_index [(strip (strip a0)), (strip (strip a1))]) fun t8_1 =>
 M.pure (.tup [])) := by
 rw [C, callW_eq _ _ rfl]; kernel_rfl
/-- (*ratchet/ratchetref08.writing).index -/
theorem ratchetref08_writing_index_eq (a0 a1 : PV) : C k_ratchetref08_writing_index [a0, a1] =
 trunc (M.bind (bi .geq .none (strip a1) (.int .i64 0)) fun t6_0 =>
 M.bind (gd (strip t6_0) true (M.pure (strip a1))) fun t8_1 =>
 M.bind (gd (strip t6_0) true (bi .lss .none t8_1 (.int .i64 2147483648))) fun t9_2 =>
 M.bind (pick (strip t6_0) t9_2 (.bool false)) fun t10_3 =>
 M.bind (C k_ratchetref08_writing_must [(strip (strip a0)), (strip t10_3), (.int .i64 4)]) fun t11_4 =>
 M.bind (bi .geq .none (strip a1) (.int .i64 0)) fun t13_5 =>
 condM t13_5
 (M.bind (cv (.int .u64) true (strip a1)) fun t16_6 =>
 M.bind (C k_ratchetref08_writing_u [(strip (strip a0)), (strip t16_6)]) fun t17_7 =>
 M.pure (.tup []))
 (M.pure (.tup []))) := by
 rw [C, callW_eq _ _ rfl]; kernel_rfl
/-- ratchet/entry.read[int] -/
theorem entry_read_int_eq (a0 a1 a2 : PV) : C k_entry_read_int [a0, a1, a2] =
 trunc (M.bind (al [(.int .i64 0)]) fun t6_0 =>
 M.bind (al [(.int .i64 0)]) fun t7_1 =>
 M.bind (al [(.int .i64 0)]) fun t8_2 =>
 M.bind (al [(.int .i64 0)]) fun t9_3 =>
 M.bind (bi .lss .none (strip a1) (.int .i64 0)) fun t12_4 =>
 M.bind (gd (strip t12_4) false (M.pure (strip a1))) fun t14_5 =>
 M.bind (gd (strip t12_4) false (M.pure (strip a0))) fun t15_6 =>
 M.bind (gd (strip t12_4) false (lnL t15_6)) fun t16_7 =>
 M.bind (gd (strip t12_4) false (bi .gtr .none t14_5 t16_7)) fun t17_8 =>
 M.bind (pick (strip t12_4) (.bool true) t17_8) fun t18_9 =>
 condM t18_9
 (M.bind (ld none true t9_3) fun t19_10 =>
 M.bind (st 1 true t6_0 t19_10) fun _ =>
 M.bind (st 1 false t7_1 (.int .i64 0)) fun _ =>
 M.bind (st 1 false t8_2 (.int .i64 1)) fun _ =>
 M.bind (ld none true t6_0) fun t0_14 => guardM (!isTup t0_14) (M.bind (ld none true t7_1) fun t0_15 => guardM (!isTup t0_15) (M.bind (ld none true t8_2) fun t0_16 => guardM (!isTup t0_16) (M.pure (.tup [t0_14, t0_15, t0_16])))))
 (M.bind (mf k_entry_read_int_1 [] [t9_3, t6_0, t7_1, t8_2]) fun t20_17 =>
 guardM (isPtr t6_0 && isPtr t7_1 && isPtr t8_2) <| deferM CD t20_17 []
 (M.bind (bd [(.slice false true 0 []), (.int .i64 0)] [(0, 1, (strip a0)), (1, 1, (strip a1))]) fun t23_18 =>
 M.bind (bx 2 t23_18) fun t24_19 =>
 M.bind (callV P C (strip a2) [(strip (strip t24_19))]) fun t27_20 =>
 M.bind (st 1 true t6_0 t27_20) fun _ =>
 chk
 (M.bind (noPan (M.pure (strip t24_19))) fun t29_30 =>
 M.bind (noPan (nc P t29_30)) fun t30_31 =>
 M.bind (noPan (fa 1 t30_31)) fun t31_32 =>
 M.bind (noPan (ld none true t6_0)) fun t28_33 =>
 M.bind (noPan (st 1 true t6_0 t28_33)) fun _ =>
 M.bind (noPan (ld none true t31_32)) fun t32_35 =>
 M.bind (noPan (st 1 true t7_1 t32_35)) fun _ =>
 M.bind (noPan (st 1 false t8_2 (.int .i64 0))) fun _ =>
 M.pure [a0, a1, a2, .undef, .undef, .undef, t6_0, t7_1, t8_2, t9_3, t24_19, (strip a1), t12_4, (strip t12_4), t14_5, t15_6, t16_7, t17_8, t18_9, .undef, t20_17, (strip a0), (strip a1), t23_18, (strip t24_19), (strip a2), (strip t24_19), (strip t27_20), (strip t28_33), t29_30, t30_31, t31_32, (strip t32_35)])
 (M.bind (noPan (M.pure (strip t24_19))) fun t29_22 =>
 M.bind (noPan (nc P t29_22)) fun t30_23 =>
 M.bind (noPan (fa 1 t30_23)) fun t31_24 =>
 M.bind (noPan (ld none true t6_0)) fun t28_25 =>
 M.bind (noPan (ld none true t31_24)) fun t32_26 =>
 M.bind (noPan (st 1 true t6_0 t28_25)) fun _ =>
 M.bind (noPan (st 1 true t7_1 t32_26)) fun _ =>
 M.bind (noPan (st 1 false t8_2 (.int .i64 0))) fun _ =>
 M.pure [a0, a1, a2, .undef, .undef, .undef, t6_0, t7_1, t8_2, t9_3, t24_19, (strip a1), t12_4, (strip t12_4), t14_5, t15_6, t16_7, t17_8, t18_9, .undef, t20_17, (strip a0), (strip a1), t23_18, (strip t24_19), (strip a2), (strip t24_19), (strip t27_20), (strip t28_25), t29_22, t30_23, t31_24, (strip t32_26)]) <|
 chk
 (M.bind (noPan (M.pure (strip t24_19))) fun t29_38 =>
 M.bind (noPan (nc P t29_38)) fun t30_39 =>
 M.bind (noPan (fa 1 t30_39)) fun t31_40 =>
 M.bind (noPan (ld none true t31_40)) fun t32_41 =>
 M.bind (noPan (ld none true t6_0)) fun t28_42 =>
 M.bind (noPan (st 1 true t6_0 t28_42)) fun _ =>
 M.bind (noPan (st 1 true t7_1 t32_41)) fun _ =>
 M.bind (noPan (st 1 false t8_2 (.int .i64 0))) fun _ =>
 M.pure [a0, a1, a2, .undef, .undef, .undef, t6_0, t7_1, t8_2, t9_3, t24_19, (strip a1), t12_4, (strip t12_4), t14_5, t15_6, t16_7, t17_8, t18_9, .undef, t20_17, (strip a0), (strip a1), t23_18, (strip t24_19), (strip a2), (strip t24_19), (strip t27_20), (strip t28_42), t29_38, t30_39, t31_40, (strip t32_41)])
 (M.bind (noPan (M.pure (strip t24_19))) fun t29_22 =>
 M.bind (noPan (nc P t29_22)) fun t30_23 =>
 M.bind (noPan (fa 1 t30_23)) fun t31_24 =>
 M.bind (noPan (ld none true t6_0)) fun t28_25 =>
 M.bind (noPan (ld none true t31_24)) fun t32_26 =>
 M.bind (noPan (st 1 true t6_0 t28_25)) fun _ =>
 M.bind (noPan (st 1 true t7_1 t32_26)) fun _ =>
 M.bind (noPan (st 1 false t8_2 (.int .i64 0))) fun _ =>
 M.pure [a0, a1, a2, .undef, .undef, .undef, t6_0, t7_1, t8_2, t9_3, t24_19, (strip a1), t12_4, (strip t12_4), t14_5, t15_6, t16_7, t17_8, t18_9, .undef, t20_17, (strip a0), (strip a1), t23_18, (strip t24_19), (strip a2), (strip t24_19), (strip t27_20), (strip t28_25), t29_22, t30_23, t31_24, (strip t32_26)]) <|
 M.bind (noPan (M.pure (strip t24_19))) fun t29_46 =>
 M.bind (noPan (nc P t29_46)) fun t30_47 =>
 M.bind (noPan (fa 1 t30_47)) fun t31_48 =>
 M.bind (noPan (ld none true t6_0)) fun t28_49 =>
 M.bind (noPan (ld none true t31_48)) fun t32_50 =>
 M.bind (noPan (st 1 true t6_0 t28_49)) fun _ =>
 M.bind (noPan (st 1 true t7_1 t32_50)) fun _ =>
 M.bind (noPan (st 1 false t8_2 (.int .i64 0))) fun _ =>
 M.bind (ld none true t6_0) fun t0_54 => guardM (!isTup t0_54) (M.bind (ld none true t7_1) fun t0_55 => guardM (!isTup t0_55) (M.bind (ld none true t8_2) fun t0_56 => guardM (!isTup t0_56) (M.pure (.tup [t0_54, t0_55, t0_56])))))
 (M.bind (ld none true t6_0) fun t0_57 => guardM (!isTup t0_57) (M.bind (ld none true t7_1) fun t0_58 => guardM (!isTup t0_58) (M.bind (ld none true t8_2) fun t0_59 => guardM (!isTup t0_59) (M.pure (.tup [t0_57, t0_58, t0_59]))))))) := by
 rw [C, callW_eq _ _ rfl]; kernel_rfl
/-- (*ratchet/entry.cursor).heap -/
theorem entry_cursor_heap_eq (a0 : PV) : C k_entry_cursor_heap [a0] =
 trunc (M.bind (C k_entry_cursor_look [(strip (strip a0))]) fun t5_0 =>
 M.bind (C k_entry_named [(strip t5_0)]) fun t6_1 =>
 M.bind (bi .neq .none (strip t6_1) (.int .i64 0)) fun t8_2 =>
 condM t8_2
 (M.bind (nc P (strip a0)) fun t10_3 =>
 M.bind (fa 1 t10_3) fun t11_4 =>
 M.bind (ld none false t11_4) fun t12_5 =>
 M.bind (bi .add .none t12_5 (.int .i64 1)) fun t13_6 =>
 M.bind (nc P (strip a0)) fun t14_7 =>
 M.bind (fa 1 t14_7) fun t15_8 =>
 M.bind (st 1 true t15_8 t13_6) fun _ =>
 resT t6_1 (M.pure t6_1))
 (M.bind (C k_entry_cursor_s33 [(strip (strip a0))]) fun t18_10 =>
 resT t18_10 (M.pure t18_10))) := by
 rw [C, callW_eq _ _ rfl]; kernel_rfl
/-- ratchet/ratchetref08.begin -/
theorem ratchetref08_begin_eq (a0 a1 : PV) : C k_ratchetref08_begin [a0, a1] =
 trunc (M.bind (bd [(.slice false true 0 []), (.int .i64 0), (.int .i64 0), (.int .i64 0)] [(0, 1, (strip a0)), (1, 1, (strip a1))]) fun t8_0 =>
 M.bind (bx 4 t8_0) fun t9_1 =>
 M.bind (bi .geq .none (strip a1) (.int .i64 0)) fun t11_2 =>
 M.bind (gd (strip t11_2) true (M.pure (strip a1))) fun t13_3 =>
 M.bind (gd (strip t11_2) true (M.pure (strip a0))) fun t14_4 =>
 M.bind (gd (strip t11_2) true (lnL t14_4)) fun t15_5 =>
 M.bind (gd (strip t11_2) true (bi .leq .none t13_3 t15_5)) fun t16_6 =>
 M.bind (pick (strip t11_2) t16_6 (.bool false)) fun t17_7 =>
 resT t9_1 (resT t17_7 (M.pure (.tup [t9_1, t17_7])))) := by
 rw [C, callW_eq _ _ rfl]; kernel_rfl
noncomputable def p_ratchetref08_reading_heap_111111 (v0 v2 v5 v6 : PV) : M PV := atP P X k_ratchetref08_reading_heap [1, 1, 1, 1, 1, 1] (mkEnv 64 0 [(0, v0), (2, v2), (5, v5), (6, v6)])
noncomputable def p_ratchetref08_reading_heap_1111111 (v0 v2 v6 : PV) : M PV := atP P X k_ratchetref08_reading_heap [1, 1, 1, 1, 1, 1, 1] (mkEnv 64 0 [(0, v0), (2, v2), (6, v6)])
theorem p_ratchetref08_reading_heap_111111_eq (v0 v2 v5 v6 : PV) : p_ratchetref08_reading_heap_111111 v0 v2 v5 v6 =
 M.bind (nc P (strip v0)) fun t47_0 =>
 M.bind (fa 3 t47_0) fun t48_1 =>
 M.bind (ld none false t48_1) fun t49_2 =>
 M.bind (bi .eql .none t49_2 (.int .i64 0)) fun t50_3 =>
 M.bind (gd (strip t50_3) true (M.pure (strip v6))) fun t52_4 =>
 M.bind (gd (strip t50_3) true (bi .geq .none t52_4 (.int .i64 2147483648))) fun t53_5 =>
 M.bind (pick (strip t50_3) t53_5 (.bool false)) fun t54_6 =>
 condM t54_6
 (M.bind (C k_ratchetref08_reading_fail [(strip (strip v0)), (strip (strip v5)), (.int .i64 2)]) fun t57_7 =>
 p_ratchetref08_reading_heap_1111111 v0 v2 v6)
 (p_ratchetref08_reading_heap_1111111 v0 v2 v6) :=
 (atP_step P X _ _ _).trans (by kernel_rfl)
theorem p_ratchetref08_reading_heap_1111111_eq (v0 v2 v6 : PV) : p_ratchetref08_reading_heap_1111111 v0 v2 v6 =
 M.bind (nc P (strip v0)) fun t59_0 =>
 M.bind (fa 3 t59_0) fun t60_1 =>
 M.bind (ld none false t60_1) fun t61_2 =>
 M.bind (bi .neq .none t61_2 (.int .i64 0)) fun t62_3 =>
 condM t62_3
 (M.pure (.int .i64 0))
 (resT v6 (M.pure v6)) :=
 (atP_step P X _ _ _).trans (by kernel_rfl)
/-- (*ratchet/ratchetref08.reading).heap -/
theorem ratchetref08_reading_heap_eq (a0 : PV) : C k_ratchetref08_reading_heap [a0] =
 trunc (M.bind (C k_ratchetref08_reading_peek [(strip (strip a0))]) fun t9_0 =>
 M.bind (ex 0 (strip t9_0)) fun t10_1 =>
 M.bind (ex 1 (tupDrop 0 (strip t9_0))) fun t11_2 =>
 M.bind (gd (strip (strip t11_2)) true (M.pure (strip t10_1))) fun t14_3 =>
 M.bind (gd (strip (strip t11_2)) true (C k_ratchetref08_abstract [(strip t14_3)])) fun t15_4 =>
 M.bind (gd (strip (strip t11_2)) true (bi .neq .none t15_4 (.int .i64 0))) fun t16_5 =>
 M.bind (pick (strip (strip t11_2)) t16_5 (.bool false)) fun t17_6 =>
 condM t17_6
 (M.bind (nc P (strip a0)) fun t19_7 =>
 M.bind (fa 1 t19_7) fun t20_8 =>
 M.bind (ld none false t20_8) fun t21_9 =>
 M.bind (bi .add .none t21_9 (.int .i64 1)) fun t22_10 =>
 M.bind (nc P (strip a0)) fun t23_11 =>
 M.bind (fa 1 t23_11) fun t24_12 =>
 M.bind (st 1 true t24_12 t22_10) fun _ =>
 M.bind (C k_ratchetref08_abstract [(strip (strip t10_1))]) fun t26_14 =>
 resT t26_14 (M.pure t26_14))
 (M.bind (nc P (strip a0)) fun t28_15 =>
 M.bind (fa 1 t28_15) fun t29_16 =>
 M.bind (ld none true t29_16) fun t30_17 =>
 M.bind (C k_ratchetref08_reading_number [(strip (strip a0)), (.int .i64 33), (.bool true)]) fun t32_18 =>
 M.bind (cv (.int .i64) true t32_18) fun t33_19 =>
 M.bind (nc P (strip a0)) fun t35_20 =>
 M.bind (fa 3 t35_20) fun t36_21 =>
 M.bind (ld none false t36_21) fun t37_22 =>
 M.bind (bi .eql .none t37_22 (.int .i64 0)) fun t38_23 =>
 M.bind (gd (strip t38_23) true (M.pure (strip t33_19))) fun t40_24 =>
 M.bind (gd (strip t38_23) true (bi .lss .none t40_24 (.int .i64 0))) fun t41_25 =>
 M.bind (pick (strip t38_23) t41_25 (.bool false)) fun t42_26 =>
 condM t42_26
 (M.bind (C k_ratchetref08_reading_fail [(strip (strip a0)), (strip (strip t30_17)), (.int .i64 4)]) fun t45_27 =>
 p_ratchetref08_reading_heap_111111 a0 (.int .i64 0) t30_17 t33_19)
 (p_ratchetref08_reading_heap_111111 a0 (.int .i64 0) t30_17 t33_19))) := by
 rw [C, callW_eq _ _ rfl]; kernel_rfl
/-- (*ratchet/ratchetref08.reading).end -/
theorem ratchetref08_reading_end_eq (a0 : PV) : C k_ratchetref08_reading_end [a0] =
 trunc (M.bind (nc P (strip a0)) fun t5_0 =>
 M.bind (fa 3 t5_0) fun t6_1 =>
 M.bind (ld none false t6_1) fun t7_2 =>
 M.bind (bi .neq .none t7_2 (.int .i64 0)) fun t8_3 =>
 condM t8_3
 (nb (nc P (strip a0)) fun t10_4 =>
 nb (fa 2 t10_4) fun t11_5 =>
 nb (ld none true t11_5) fun t12_6 =>
 nb (nc P (strip a0)) fun t14_7 =>
 nb (fa 3 t14_7) fun t15_8 =>
 nb (ld none true t15_8) fun t16_9 =>
 resT t12_6 (resT t16_9 (M.pure (.tup [t12_6, t16_9]))))
 (M.bind (nc P (strip a0)) fun t18_10 =>
 M.bind (fa 1 t18_10) fun t19_11 =>
 M.bind (ld none true t19_11) fun t20_12 =>
 resT t20_12 (M.pure (.tup [t20_12, (.int .i64 0)])))) := by
 rw [C, callW_eq _ _ rfl]; kernel_rfl
/-- ratchet/entry.read[ratchet/api.ValType] -/
theorem entry_read_api_ValType_eq (a0 a1 a2 : PV) : C k_entry_read_api_ValType [a0, a1, a2] =
 trunc (M.bind (al [(.int .i64 0), (.bool false), (.int .i64 0)]) fun t6_0 =>
 M.bind (al [(.int .i64 0)]) fun t7_1 =>
 M.bind (al [(.int .i64 0)]) fun t8_2 =>
 M.bind (al [(.int .i64 0), (.bool false), (.int .i64 0)]) fun t9_3 =>
 M.bind (bi .lss .none (strip a1) (.int .i64 0)) fun t12_4 =>
 M.bind (gd (strip t12_4) false (M.pure (strip a1))) fun t14_5 =>
 M.bind (gd (strip t12_4) false (M.pure (strip a0))) fun t15_6 =>
 M.bind (gd (strip t12_4) false (lnL t15_6)) fun t16_7 =>
 M.bind (gd (strip t12_4) false (bi .gtr .none t14_5 t16_7)) fun t17_8 =>
 M.bind (pick (strip t12_4) (.bool true) t17_8) fun t18_9 =>
 condM t18_9
 (M.bind (ld (some 3) true t9_3) fun t19_10 =>
 M.bind (st 3 true t6_0 t19_10) fun _ =>
 M.bind (st 1 false t7_1 (.int .i64 0)) fun _ =>
 M.bind (st 1 false t8_2 (.int .i64 1)) fun _ =>
 M.bind (ld (some 3) true t6_0) fun t0_14 => guardM (!isTup t0_14) (M.bind (ld none true t7_1) fun t0_15 => guardM (!isTup t0_15) (M.bind (ld none true t8_2) fun t0_16 => guardM (!isTup t0_16) (M.pure (.tup [t0_14, t0_15, t0_16])))))
 (M.bind (mf k_entry_read_api_ValType_1 [] [t9_3, t6_0, t7_1, t8_2]) fun t20_17 =>
 guardM (isPtr t6_0 && isPtr t7_1 && isPtr t8_2) <| deferM CD t20_17 []
 (M.bind (bd [(.slice false true 0 []), (.int .i64 0)] [(0, 1, (strip a0)), (1, 1, (strip a1))]) fun t23_18 =>
 M.bind (bx 2 t23_18) fun t24_19 =>
 M.bind (callV P C (strip a2) [(strip (strip t24_19))]) fun t27_20 =>
 M.bind (st 3 true t6_0 t27_20) fun _ =>
 chk
 (M.bind (noPan (M.pure (strip t24_19))) fun t29_30 =>
 M.bind (noPan (nc P t29_30)) fun t30_31 =>
 M.bind (noPan (fa 1 t30_31)) fun t31_32 =>
 M.bind (noPan (ld (some 3) true t6_0)) fun t28_33 =>
 M.bind (noPan (st 3 true t6_0 t28_33)) fun _ =>
 M.bind (noPan (ld none true t31_32)) fun t32_35 =>
 M.bind (noPan (st 1 true t7_1 t32_35)) fun _ =>
 M.bind (noPan (st 1 false t8_2 (.int .i64 0))) fun _ =>
 M.pure [a0, a1, a2, .undef, .undef, .undef, t6_0, t7_1, t8_2, t9_3, t24_19, (strip a1), t12_4, (strip t12_4), t14_5, t15_6, t16_7, t17_8, t18_9, .undef, t20_17, (strip a0), (strip a1), t23_18, (strip t24_19), (strip a2), (strip t24_19), (strip t27_20), (strip t28_33), t29_30, t30_31, t31_32, (strip t32_35)])
 (M.bind (noPan (M.pure (strip t24_19))) fun t29_22 =>
 M.bind (noPan (nc P t29_22)) fun t30_23 =>
 M.bind (noPan (fa 1 t30_23)) fun t31_24 =>
 M.bind (noPan (ld (some 3) true t6_0)) fun t28_25 =>
 M.bind (noPan (ld none true t31_24)) fun t32_26 =>
 M.bind (noPan (st 3 true t6_0 t28_25)) fun _ =>
 M.bind (noPan (st 1 true t7_1 t32_26)) fun _ =>
 M.bind (noPan (st 1 false t8_2 (.int .i64 0))) fun _ =>
 M.pure [a0, a1, a2, .undef, .undef, .undef, t6_0, t7_1, t8_2, t9_3, t24_19, (strip a1), t12_4, (strip t12_4), t14_5, t15_6, t16_7, t17_8, t18_9, .undef, t20_17, (strip a0), (strip a1), t23_18, (strip t24_19), (strip a2), (strip t24_19), (strip t27_20), (strip t28_25), t29_22, t30_23, t31_24, (strip t32_26)]) <|
 chk
 (M.bind (noPan (M.pure (strip t24_19))) fun t29_38 =>
 M.bind (noPan (nc P t29_38)) fun t30_39 =>
 M.bind (noPan (fa 1 t30_39)) fun t31_40 =>
 M.bind (noPan (ld none true t31_40)) fun t32_41 =>
 M.bind (noPan (ld (some 3) true t6_0)) fun t28_42 =>
 M.bind (noPan (st 3 true t6_0 t28_42)) fun _ =>
 M.bind (noPan (st 1 true t7_1 t32_41)) fun _ =>
 M.bind (noPan (st 1 false t8_2 (.int .i64 0))) fun _ =>
 M.pure [a0, a1, a2, .undef, .undef, .undef, t6_0, t7_1, t8_2, t9_3, t24_19, (strip a1), t12_4, (strip t12_4), t14_5, t15_6, t16_7, t17_8, t18_9, .undef, t20_17, (strip a0), (strip a1), t23_18, (strip t24_19), (strip a2), (strip t24_19), (strip t27_20), (strip t28_42), t29_38, t30_39, t31_40, (strip t32_41)])
 (M.bind (noPan (M.pure (strip t24_19))) fun t29_22 =>
 M.bind (noPan (nc P t29_22)) fun t30_23 =>
 M.bind (noPan (fa 1 t30_23)) fun t31_24 =>
 M.bind (noPan (ld (some 3) true t6_0)) fun t28_25 =>
 M.bind (noPan (ld none true t31_24)) fun t32_26 =>
 M.bind (noPan (st 3 true t6_0 t28_25)) fun _ =>
 M.bind (noPan (st 1 true t7_1 t32_26)) fun _ =>
 M.bind (noPan (st 1 false t8_2 (.int .i64 0))) fun _ =>
 M.pure [a0, a1, a2, .undef, .undef, .undef, t6_0, t7_1, t8_2, t9_3, t24_19, (strip a1), t12_4, (strip t12_4), t14_5, t15_6, t16_7, t17_8, t18_9, .undef, t20_17, (strip a0), (strip a1), t23_18, (strip t24_19), (strip a2), (strip t24_19), (strip t27_20), (strip t28_25), t29_22, t30_23, t31_24, (strip t32_26)]) <|
 M.bind (noPan (M.pure (strip t24_19))) fun t29_46 =>
 M.bind (noPan (nc P t29_46)) fun t30_47 =>
 M.bind (noPan (fa 1 t30_47)) fun t31_48 =>
 M.bind (noPan (ld (some 3) true t6_0)) fun t28_49 =>
 M.bind (noPan (ld none true t31_48)) fun t32_50 =>
 M.bind (noPan (st 3 true t6_0 t28_49)) fun _ =>
 M.bind (noPan (st 1 true t7_1 t32_50)) fun _ =>
 M.bind (noPan (st 1 false t8_2 (.int .i64 0))) fun _ =>
 M.bind (ld (some 3) true t6_0) fun t0_54 => guardM (!isTup t0_54) (M.bind (ld none true t7_1) fun t0_55 => guardM (!isTup t0_55) (M.bind (ld none true t8_2) fun t0_56 => guardM (!isTup t0_56) (M.pure (.tup [t0_54, t0_55, t0_56])))))
 (M.bind (ld (some 3) true t6_0) fun t0_57 => guardM (!isTup t0_57) (M.bind (ld none true t7_1) fun t0_58 => guardM (!isTup t0_58) (M.bind (ld none true t8_2) fun t0_59 => guardM (!isTup t0_59) (M.pure (.tup [t0_57, t0_58, t0_59]))))))) := by
 rw [C, callW_eq _ _ rfl]; kernel_rfl
end Go.Proofs.Ytofbbijagbpicaa.Pi.Q
/- What the functions are, told. -/
namespace Go.Proofs.Ytofbbijagbpicaa.Pi.Q
open Go Go.Proofs.Ytofbbijagbpicaa.Pi
set_option linter.unusedVariables false
set_option maxRecDepth 100000
noncomputable def p_entry_cursor_ref_1111 (v0 v2 v3 : PV) : M PV := atP P X k_entry_cursor_ref [1, 1, 1, 1] (mkEnv 44 0 [(0, v0), (2, v2), (3, v3)])
theorem p_entry_cursor_ref_1111_eq (v0 v2 v3 : PV) : p_entry_cursor_ref_1111 v0 v2 v3 =
 M.bind (nc P (strip v0)) fun t33_0 =>
 M.bind (fa 1 t33_0) fun t34_1 =>
 M.bind (ld none false t34_1) fun t35_2 =>
 M.bind (bi .add .none t35_2 (.int .i64 1)) fun t36_3 =>
 M.bind (nc P (strip v0)) fun t37_4 =>
 M.bind (fa 1 t37_4) fun t38_5 =>
 M.bind (st 1 true t38_5 t36_3) fun _ =>
 M.bind (bi .eql .none (strip v3) (.int .u8 99)) fun t40_7 =>
 M.bind (C k_entry_cursor_heap [(strip (strip v0))]) fun t42_8 =>
 M.bind (bd [(.int .i64 0), (.bool false), (.int .i64 0)] [(0, 1, (.int .i64 5)), (1, 1, t40_7), (2, 1, t42_8)]) fun t43_9 =>
 M.bind (st 3 true v2 t43_9) fun _ =>
 M.bind (ld (some 3) true v2) fun t0_11 => guardM (!isTup t0_11) (M.pure t0_11) :=
 (atP_step P X _ _ _).trans (by kernel_rfl)
/-- (*ratchet/entry.cursor).ref -/
theorem entry_cursor_ref_eq (a0 : PV) : C k_entry_cursor_ref [a0] =
 trunc (M.bind (al [(.int .i64 0), (.bool false), (.int .i64 0)]) fun t2_0 =>
 M.bind (C k_entry_cursor_look [(strip (strip a0))]) fun t6_1 =>
 M.bind (C k_entry_named [(strip (strip t6_1))]) fun t8_2 =>
 M.bind (bi .neq .none (strip t8_2) (.int .i64 0)) fun t10_3 =>
 condM t10_3
 (M.bind (nc P (strip a0)) fun t12_4 =>
 M.bind (fa 1 t12_4) fun t13_5 =>
 M.bind (ld none false t13_5) fun t14_6 =>
 M.bind (bi .add .none t14_6 (.int .i64 1)) fun t15_7 =>
 M.bind (nc P (strip a0)) fun t16_8 =>
 M.bind (fa 1 t16_8) fun t17_9 =>
 M.bind (st 1 true t17_9 t15_7) fun _ =>
 M.bind (bd [(.int .i64 0), (.bool false), (.int .i64 0)] [(0, 1, (.int .i64 5)), (1, 1, (.bool true)), (2, 1, (strip t8_2))]) fun t19_11 =>
 M.bind (st 3 true t2_0 t19_11) fun _ =>
 M.bind (ld (some 3) true t2_0) fun t0_13 => guardM (!isTup t0_13) (M.pure t0_13))
 (M.bind (bi .neq .none (strip t6_1) (.int .u8 99)) fun t21_14 =>
 M.bind (gd (strip t21_14) true (M.pure (strip t6_1))) fun t23_15 =>
 M.bind (gd (strip t21_14) true (bi .neq .none t23_15 (.int .u8 100))) fun t24_16 =>
 M.bind (pick (strip t21_14) t24_16 (.bool false)) fun t25_17 =>
 condM t25_17
 (M.bind (nc P (strip a0)) fun t28_18 =>
 M.bind (fa 1 t28_18) fun t29_19 =>
 M.bind (ld none false t29_19) fun t30_20 =>
 M.bind (C k_entry_cursor_fail [(strip (strip a0)), (strip t30_20), (.int .i64 4)]) fun t31_21 =>
 p_entry_cursor_ref_1111 a0 t2_0 t6_1)
 (p_entry_cursor_ref_1111 a0 t2_0 t6_1))) := by
 rw [C, callW_eq _ _ rfl]; kernel_rfl
/-- ratchet/ratchetref08.valAt -/
theorem ratchetref08_valAt_eq (a0 a1 a2 : PV) : C k_ratchetref08_valAt [a0, a1, a2] =
 trunc (M.bind (al [(.int .i64 0), (.bool false), (.int .i64 0)]) fun t6_0 =>
 M.bind (C k_ratchetref08_begin [(strip (strip a0)), (strip (strip a1))]) fun t17_1 =>
 M.bind (ex 0 (strip t17_1)) fun t18_2 =>
 M.bind (ex 1 (tupDrop 0 (strip t17_1))) fun t19_3 =>
 M.bind (un .not (strip t19_3)) fun t21_4 =>
 condM t21_4
 (M.bind (bd [(.int .i64 0), (.bool false), (.int .i64 0)] []) fun t22_5 =>
 M.bind (st 3 true t6_0 t22_5) fun _ =>
 M.bind (ld (some 3) true t6_0) fun t0_7 => guardM (!isTup t0_7) (M.pure (.tup [t0_7, (.int .i64 0), (.int .i64 1)])))
 (M.bind (C k_ratchetref08_reading_val [(strip (strip t18_2)), (strip (strip a2)), (.bool false)]) fun t25_8 =>
 M.bind (al [(.int .i64 0), (.bool false), (.int .i64 0)]) fun t11_9 =>
 M.bind (st 3 true t11_9 t25_8) fun _ =>
 M.bind (C k_ratchetref08_reading_end [(strip (strip t18_2))]) fun t28_11 =>
 M.bind (ex 0 (strip t28_11)) fun t29_12 =>
 M.bind (ex 1 (tupDrop 0 (strip t28_11))) fun t30_13 =>
 M.bind (bi .neq .none (strip t30_13) (.int .i64 0)) fun t32_14 =>
 condM t32_14
 (M.bind (bd [(.int .i64 0), (.bool false), (.int .i64 0)] []) fun t33_15 =>
 M.bind (st 3 true t6_0 t33_15) fun _ =>
 M.bind (ld (some 3) true t6_0) fun t0_17 => guardM (!isTup t0_17) (resT t29_12 (resT t30_13 (M.pure (.tup [t0_17, t29_12, t30_13])))))
 (M.bind (ld (some 3) true t11_9) fun t36_18 =>
 M.bind (st 3 true t6_0 t36_18) fun _ =>
 M.bind (ld (some 3) true t6_0) fun t0_20 => guardM (!isTup t0_20) (resT t29_12 (M.pure (.tup [t0_20, t29_12, (.int .i64 0)])))))) := by
 rw [C, callW_eq _ _ rfl]; kernel_rfl
noncomputable def p_entry_cursor_val_111 (v0 v2 : PV) : M PV := atP P X k_entry_cursor_val [1, 1, 1] (mkEnv 35 0 [(0, v0), (2, v2)])
theorem p_entry_cursor_val_111_eq (v0 v2 : PV) : p_entry_cursor_val_111 v0 v2 =
 M.bind (C k_entry_cursor_ref [(strip (strip v0))]) fun t34_0 =>
 M.bind (st 3 true v2 t34_0) fun _ =>
 M.bind (ld (some 3) true v2) fun t0_2 => guardM (!isTup t0_2) (M.pure t0_2) :=
 (atP_step P X _ _ _).trans (by kernel_rfl)
/-- (*ratchet/entry.cursor).val -/
theorem entry_cursor_val_eq (a0 : PV) : C k_entry_cursor_val [a0] =
 trunc (M.bind (al [(.int .i64 0), (.bool false), (.int .i64 0)]) fun t2_0 =>
 M.bind (C k_entry_cursor_look [(strip (strip a0))]) fun t5_1 =>
 M.bind (bi .eql .none (strip t5_1) (.int .u8 123)) fun t8_2 =>
 condM t8_2
 (M.bind (nc P (strip a0)) fun t11_3 =>
 M.bind (fa 1 t11_3) fun t12_4 =>
 M.bind (ld none false t12_4) fun t13_5 =>
 M.bind (C k_entry_cursor_fail [(strip (strip a0)), (strip t13_5), (.int .i64 8)]) fun t14_6 =>
 p_entry_cursor_val_111 a0 t2_0)
 (M.bind (bi .geq .none (strip t5_1) (.int .u8 124)) fun t17_7 =>
 M.bind (gd (strip t17_7) true (M.pure (strip t5_1))) fun t19_8 =>
 M.bind (gd (strip t17_7) true (bi .leq .none t19_8 (.int .u8 127))) fun t20_9 =>
 M.bind (pick (strip t17_7) t20_9 (.bool false)) fun t21_10 =>
 condM t21_10
 (M.bind (nc P (strip a0)) fun t23_11 =>
 M.bind (fa 1 t23_11) fun t24_12 =>
 M.bind (ld none false t24_12) fun t25_13 =>
 M.bind (bi .add .none t25_13 (.int .i64 1)) fun t26_14 =>
 M.bind (nc P (strip a0)) fun t27_15 =>
 M.bind (fa 1 t27_15) fun t28_16 =>
 M.bind (st 1 true t28_16 t26_14) fun _ =>
 M.bind (cv (.int .i64) true (strip t5_1)) fun t30_18 =>
 M.bind (bi .sub .none (.int .i64 128) t30_18) fun t31_19 =>
 M.bind (bd [(.int .i64 0), (.bool false), (.int .i64 0)] [(0, 1, t31_19)]) fun t32_20 =>
 M.bind (st 3 true t2_0 t32_20) fun _ =>
 M.bind (ld (some 3) true t2_0) fun t0_22 => guardM (!isTup t0_22) (M.pure t0_22))
 (p_entry_cursor_val_111 a0 t2_0))) := by
 rw [C, callW_eq _ _ rfl]; kernel_rfl
/-- ratchet/entry.read[ratchet/api.Block] -/
theorem entry_read_api_Block_eq (a0 a1 a2 : PV) : C k_entry_read_api_Block [a0, a1, a2] =
 trunc (M.bind (al [(.int .i64 0), (.int .i64 0), (.bool false), (.int .i64 0)]) fun t6_0 =>
 M.bind (al [(.int .i64 0)]) fun t7_1 =>
 M.bind (al [(.int .i64 0)]) fun t8_2 =>
 M.bind (al [(.int .i64 0), (.int .i64 0), (.bool false), (.int .i64 0)]) fun t9_3 =>
 M.bind (bi .lss .none (strip a1) (.int .i64 0)) fun t12_4 =>
 M.bind (gd (strip t12_4) false (M.pure (strip a1))) fun t14_5 =>
 M.bind (gd (strip t12_4) false (M.pure (strip a0))) fun t15_6 =>
 M.bind (gd (strip t12_4) false (lnL t15_6)) fun t16_7 =>
 M.bind (gd (strip t12_4) false (bi .gtr .none t14_5 t16_7)) fun t17_8 =>
 M.bind (pick (strip t12_4) (.bool true) t17_8) fun t18_9 =>
 condM t18_9
 (M.bind (ld (some 4) true t9_3) fun t19_10 =>
 M.bind (st 4 true t6_0 t19_10) fun _ =>
 M.bind (st 1 false t7_1 (.int .i64 0)) fun _ =>
 M.bind (st 1 false t8_2 (.int .i64 1)) fun _ =>
 M.bind (ld (some 4) true t6_0) fun t0_14 => guardM (!isTup t0_14) (M.bind (ld none true t7_1) fun t0_15 => guardM (!isTup t0_15) (M.bind (ld none true t8_2) fun t0_16 => guardM (!isTup t0_16) (M.pure (.tup [t0_14, t0_15, t0_16])))))
 (M.bind (mf k_entry_read_api_Block_1 [] [t9_3, t6_0, t7_1, t8_2]) fun t20_17 =>
 guardM (isPtr t6_0 && isPtr t7_1 && isPtr t8_2) <| deferM CD t20_17 []
 (M.bind (bd [(.slice false true 0 []), (.int .i64 0)] [(0, 1, (strip a0)), (1, 1, (strip a1))]) fun t23_18 =>
 M.bind (bx 2 t23_18) fun t24_19 =>
 M.bind (callV P C (strip a2) [(strip (strip t24_19))]) fun t27_20 =>
 M.bind (st 4 true t6_0 t27_20) fun _ =>
 chk
 (M.bind (noPan (M.pure (strip t24_19))) fun t29_30 =>
 M.bind (noPan (nc P t29_30)) fun t30_31 =>
 M.bind (noPan (fa 1 t30_31)) fun t31_32 =>
 M.bind (noPan (ld (some 4) true t6_0)) fun t28_33 =>
 M.bind (noPan (st 4 true t6_0 t28_33)) fun _ =>
 M.bind (noPan (ld none true t31_32)) fun t32_35 =>
 M.bind (noPan (st 1 true t7_1 t32_35)) fun _ =>
 M.bind (noPan (st 1 false t8_2 (.int .i64 0))) fun _ =>
 M.pure [a0, a1, a2, .undef, .undef, .undef, t6_0, t7_1, t8_2, t9_3, t24_19, (strip a1), t12_4, (strip t12_4), t14_5, t15_6, t16_7, t17_8, t18_9, .undef, t20_17, (strip a0), (strip a1), t23_18, (strip t24_19), (strip a2), (strip t24_19), (strip t27_20), (strip t28_33), t29_30, t30_31, t31_32, (strip t32_35)])
 (M.bind (noPan (M.pure (strip t24_19))) fun t29_22 =>
 M.bind (noPan (nc P t29_22)) fun t30_23 =>
 M.bind (noPan (fa 1 t30_23)) fun t31_24 =>
 M.bind (noPan (ld (some 4) true t6_0)) fun t28_25 =>
 M.bind (noPan (ld none true t31_24)) fun t32_26 =>
 M.bind (noPan (st 4 true t6_0 t28_25)) fun _ =>
 M.bind (noPan (st 1 true t7_1 t32_26)) fun _ =>
 M.bind (noPan (st 1 false t8_2 (.int .i64 0))) fun _ =>
 M.pure [a0, a1, a2, .undef, .undef, .undef, t6_0, t7_1, t8_2, t9_3, t24_19, (strip a1), t12_4, (strip t12_4), t14_5, t15_6, t16_7, t17_8, t18_9, .undef, t20_17, (strip a0), (strip a1), t23_18, (strip t24_19), (strip a2), (strip t24_19), (strip t27_20), (strip t28_25), t29_22, t30_23, t31_24, (strip t32_26)]) <|
 chk
 (M.bind (noPan (M.pure (strip t24_19))) fun t29_38 =>
 M.bind (noPan (nc P t29_38)) fun t30_39 =>
 M.bind (noPan (fa 1 t30_39)) fun t31_40 =>
 M.bind (noPan (ld none true t31_40)) fun t32_41 =>
 M.bind (noPan (ld (some 4) true t6_0)) fun t28_42 =>
 M.bind (noPan (st 4 true t6_0 t28_42)) fun _ =>
 M.bind (noPan (st 1 true t7_1 t32_41)) fun _ =>
 M.bind (noPan (st 1 false t8_2 (.int .i64 0))) fun _ =>
 M.pure [a0, a1, a2, .undef, .undef, .undef, t6_0, t7_1, t8_2, t9_3, t24_19, (strip a1), t12_4, (strip t12_4), t14_5, t15_6, t16_7, t17_8, t18_9, .undef, t20_17, (strip a0), (strip a1), t23_18, (strip t24_19), (strip a2), (strip t24_19), (strip t27_20), (strip t28_42), t29_38, t30_39, t31_40, (strip t32_41)])
 (M.bind (noPan (M.pure (strip t24_19))) fun t29_22 =>
 M.bind (noPan (nc P t29_22)) fun t30_23 =>
 M.bind (noPan (fa 1 t30_23)) fun t31_24 =>
 M.bind (noPan (ld (some 4) true t6_0)) fun t28_25 =>
 M.bind (noPan (ld none true t31_24)) fun t32_26 =>
 M.bind (noPan (st 4 true t6_0 t28_25)) fun _ =>
 M.bind (noPan (st 1 true t7_1 t32_26)) fun _ =>
 M.bind (noPan (st 1 false t8_2 (.int .i64 0))) fun _ =>
 M.pure [a0, a1, a2, .undef, .undef, .undef, t6_0, t7_1, t8_2, t9_3, t24_19, (strip a1), t12_4, (strip t12_4), t14_5, t15_6, t16_7, t17_8, t18_9, .undef, t20_17, (strip a0), (strip a1), t23_18, (strip t24_19), (strip a2), (strip t24_19), (strip t27_20), (strip t28_25), t29_22, t30_23, t31_24, (strip t32_26)]) <|
 M.bind (noPan (M.pure (strip t24_19))) fun t29_46 =>
 M.bind (noPan (nc P t29_46)) fun t30_47 =>
 M.bind (noPan (fa 1 t30_47)) fun t31_48 =>
 M.bind (noPan (ld (some 4) true t6_0)) fun t28_49 =>
 M.bind (noPan (ld none true t31_48)) fun t32_50 =>
 M.bind (noPan (st 4 true t6_0 t28_49)) fun _ =>
 M.bind (noPan (st 1 true t7_1 t32_50)) fun _ =>
 M.bind (noPan (st 1 false t8_2 (.int .i64 0))) fun _ =>
 M.bind (ld (some 4) true t6_0) fun t0_54 => guardM (!isTup t0_54) (M.bind (ld none true t7_1) fun t0_55 => guardM (!isTup t0_55) (M.bind (ld none true t8_2) fun t0_56 => guardM (!isTup t0_56) (M.pure (.tup [t0_54, t0_55, t0_56])))))
 (M.bind (ld (some 4) true t6_0) fun t0_57 => guardM (!isTup t0_57) (M.bind (ld none true t7_1) fun t0_58 => guardM (!isTup t0_58) (M.bind (ld none true t8_2) fun t0_59 => guardM (!isTup t0_59) (M.pure (.tup [t0_57, t0_58, t0_59]))))))) := by
 rw [C, callW_eq _ _ rfl]; kernel_rfl
/-- (*ratchet/entry.cursor).block -/
theorem entry_cursor_block_eq (a0 : PV) : C k_entry_cursor_block [a0] =
 trunc (M.bind (al [(.int .i64 0), (.int .i64 0), (.bool false), (.int .i64 0)]) fun t2_0 =>
 M.bind (C k_entry_cursor_look [(strip (strip a0))]) fun t5_1 =>
 M.bind (bi .eql .none (strip t5_1) (.int .u8 64)) fun t8_2 =>
 condM t8_2
 (M.bind (nc P (strip a0)) fun t10_3 =>
 M.bind (fa 1 t10_3) fun t11_4 =>
 M.bind (ld none false t11_4) fun t12_5 =>
 M.bind (bi .add .none t12_5 (.int .i64 1)) fun t13_6 =>
 M.bind (nc P (strip a0)) fun t14_7 =>
 M.bind (fa 1 t14_7) fun t15_8 =>
 M.bind (st 1 true t15_8 t13_6) fun _ =>
 M.bind (bd [(.int .i64 0), (.int .i64 0), (.bool false), (.int .i64 0)] [(0, 1, (.int .i64 (-1)))]) fun t16_10 =>
 M.bind (st 4 true t2_0 t16_10) fun _ =>
 M.bind (ld (some 4) true t2_0) fun t0_12 => guardM (!isTup t0_12) (M.pure t0_12))
 (M.bind (bi .gtr .none (strip t5_1) (.int .u8 64)) fun t19_13 =>
 M.bind (gd (strip t19_13) true (M.pure (strip t5_1))) fun t21_14 =>
 M.bind (gd (strip t19_13) true (bi .lss .none t21_14 (.int .u8 128))) fun t22_15 =>
 M.bind (pick (strip t19_13) t22_15 (.bool false)) fun t23_16 =>
 condM t23_16
 (M.bind (C k_entry_cursor_val [(strip (strip a0))]) fun t25_17 =>
 M.bind (bd [(.int .i64 0), (.int .i64 0), (.bool false), (.int .i64 0)] [(0, 1, (.int .i64 (-1))), (1, 3, t25_17)]) fun t26_18 =>
 M.bind (st 4 true t2_0 t26_18) fun _ =>
 M.bind (ld (some 4) true t2_0) fun t0_20 => guardM (!isTup t0_20) (M.pure t0_20))
 (M.bind (C k_entry_cursor_s33 [(strip (strip a0))]) fun t28_21 =>
 M.bind (bd [(.int .i64 0), (.int .i64 0), (.bool false), (.int .i64 0)] [(0, 1, t28_21)]) fun t29_22 =>
 M.bind (st 4 true t2_0 t29_22) fun _ =>
 M.bind (ld (some 4) true t2_0) fun t0_24 => guardM (!isTup t0_24) (M.pure t0_24)))) := by
 rw [C, callW_eq _ _ rfl]; kernel_rfl
noncomputable def p_ratchetref08_reading_block_1111111 (v0 v2 v5 v6 : PV) : M PV := atP P X k_ratchetref08_reading_block [1, 1, 1, 1, 1, 1, 1] (mkEnv 70 0 [(0, v0), (2, v2), (5, v5), (6, v6)])
noncomputable def p_ratchetref08_reading_block_11111111 (v2 v6 : PV) : M PV := atP P X k_ratchetref08_reading_block [1, 1, 1, 1, 1, 1, 1, 1] (mkEnv 70 0 [(2, v2), (6, v6)])
theorem p_ratchetref08_reading_block_1111111_eq (v0 v2 v5 v6 : PV) : p_ratchetref08_reading_block_1111111 v0 v2 v5 v6 =
 M.bind (nc P (strip v0)) fun t57_0 =>
 M.bind (fa 3 t57_0) fun t58_1 =>
 M.bind (ld none false t58_1) fun t59_2 =>
 M.bind (bi .eql .none t59_2 (.int .i64 0)) fun t60_3 =>
 M.bind (gd (strip t60_3) true (M.pure (strip v6))) fun t62_4 =>
 M.bind (gd (strip t60_3) true (bi .geq .none t62_4 (.int .i64 2147483648))) fun t63_5 =>
 M.bind (pick (strip t60_3) t63_5 (.bool false)) fun t64_6 =>
 condM t64_6
 (M.bind (C k_ratchetref08_reading_fail [(strip (strip v0)), (strip (strip v5)), (.int .i64 2)]) fun t67_7 =>
 p_ratchetref08_reading_block_11111111 v2 v6)
 (p_ratchetref08_reading_block_11111111 v2 v6) :=
 (atP_step P X _ _ _).trans (by kernel_rfl)
theorem p_ratchetref08_reading_block_11111111_eq (v2 v6 : PV) : p_ratchetref08_reading_block_11111111 v2 v6 =
 M.bind (bd [(.int .i64 0), (.int .i64 0), (.bool false), (.int .i64 0)] [(0, 1, (strip v6))]) fun t69_0 =>
 M.bind (st 4 true v2 t69_0) fun _ =>
 M.bind (ld (some 4) true v2) fun t0_2 => guardM (!isTup t0_2) (M.pure t0_2) :=
 (atP_step P X _ _ _).trans (by kernel_rfl)
/-- (*ratchet/ratchetref08.reading).block -/
theorem ratchetref08_reading_block_eq (a0 : PV) : C k_ratchetref08_reading_block [a0] =
 trunc (M.bind (al [(.int .i64 0), (.int .i64 0), (.bool false), (.int .i64 0)]) fun t2_0 =>
 M.bind (C k_ratchetref08_reading_peek [(strip (strip a0))]) fun t9_1 =>
 M.bind (ex 0 (strip t9_1)) fun t10_2 =>
 M.bind (ex 1 (tupDrop 0 (strip t9_1))) fun t11_3 =>
 M.bind (gd (strip (strip t11_3)) true (M.pure (strip t10_2))) fun t14_4 =>
 M.bind (gd (strip (strip t11_3)) true (bi .eql .none t14_4 (.int .u8 64))) fun t15_5 =>
 M.bind (pick (strip (strip t11_3)) t15_5 (.bool false)) fun t16_6 =>
 condM t16_6
 (M.bind (nc P (strip a0)) fun t18_7 =>
 M.bind (fa 1 t18_7) fun t19_8 =>
 M.bind (ld none false t19_8) fun t20_9 =>
 M.bind (bi .add .none t20_9 (.int .i64 1)) fun t21_10 =>
 M.bind (nc P (strip a0)) fun t22_11 =>
 M.bind (fa 1 t22_11) fun t23_12 =>
 M.bind (st 1 true t23_12 t21_10) fun _ =>
 M.bind (bd [(.int .i64 0), (.int .i64 0), (.bool false), (.int .i64 0)] [(0, 1, (.int .i64 (-1)))]) fun t24_14 =>
 M.bind (st 4 true t2_0 t24_14) fun _ =>
 M.bind (ld (some 4) true t2_0) fun t0_16 => guardM (!isTup t0_16) (M.pure t0_16))
 (M.bind (gd (strip (strip t11_3)) true (M.pure (strip t10_2))) fun t27_17 =>
 M.bind (gd (strip (strip t11_3)) true (bi .gtr .none t27_17 (.int .u8 64))) fun t28_18 =>
 M.bind (pick (strip (strip t11_3)) t28_18 (.bool false)) fun t29_19 =>
 M.bind (gd (strip t29_19) true (M.pure (strip t10_2))) fun t31_20 =>
 M.bind (gd (strip t29_19) true (bi .lss .none t31_20 (.int .u8 128))) fun t32_21 =>
 M.bind (pick (strip t29_19) t32_21 (.bool false)) fun t33_22 =>
 condM t33_22
 (M.bind (C k_ratchetref08_reading_val [(strip (strip a0)), (.bool true), (.bool false)]) fun t35_23 =>
 M.bind (bd [(.int .i64 0), (.int .i64 0), (.bool false), (.int .i64 0)] [(0, 1, (.int .i64 (-1))), (1, 3, t35_23)]) fun t36_24 =>
 M.bind (st 4 true t2_0 t36_24) fun _ =>
 M.bind (ld (some 4) true t2_0) fun t0_26 => guardM (!isTup t0_26) (M.pure t0_26))
 (M.bind (nc P (strip a0)) fun t38_27 =>
 M.bind (fa 1 t38_27) fun t39_28 =>
 M.bind (ld none true t39_28) fun t40_29 =>
 M.bind (C k_ratchetref08_reading_number [(strip (strip a0)), (.int .i64 33), (.bool true)]) fun t42_30 =>
 M.bind (cv (.int .i64) true t42_30) fun t43_31 =>
 M.bind (nc P (strip a0)) fun t45_32 =>
 M.bind (fa 3 t45_32) fun t46_33 =>
 M.bind (ld none false t46_33) fun t47_34 =>
 M.bind (bi .eql .none t47_34 (.int .i64 0)) fun t48_35 =>
 M.bind (gd (strip t48_35) true (M.pure (strip t43_31))) fun t50_36 =>
 M.bind (gd (strip t48_35) true (bi .lss .none t50_36 (.int .i64 0))) fun t51_37 =>
 M.bind (pick (strip t48_35) t51_37 (.bool false)) fun t52_38 =>
 condM t52_38
 (M.bind (C k_ratchetref08_reading_fail [(strip (strip a0)), (strip (strip t40_29)), (.int .i64 4)]) fun t55_39 =>
 p_ratchetref08_reading_block_1111111 a0 t2_0 t40_29 t43_31)
 (p_ratchetref08_reading_block_1111111 a0 t2_0 t40_29 t43_31)))) := by
 rw [C, callW_eq _ _ rfl]; kernel_rfl
/-- ratchet/entry.read[[]ratchet/api.ValType] -/
theorem entry_read_L_api_ValType_eq (a0 a1 a2 : PV) : C k_entry_read_L_api_ValType [a0, a1, a2] =
 trunc (M.bind (al [(.slice false true 0 [])]) fun t6_0 =>
 M.bind (al [(.int .i64 0)]) fun t7_1 =>
 M.bind (al [(.int .i64 0)]) fun t8_2 =>
 M.bind (al [(.slice false true 0 [])]) fun t9_3 =>
 M.bind (bi .lss .none (strip a1) (.int .i64 0)) fun t12_4 =>
 M.bind (gd (strip t12_4) false (M.pure (strip a1))) fun t14_5 =>
 M.bind (gd (strip t12_4) false (M.pure (strip a0))) fun t15_6 =>
 M.bind (gd (strip t12_4) false (lnL t15_6)) fun t16_7 =>
 M.bind (gd (strip t12_4) false (bi .gtr .none t14_5 t16_7)) fun t17_8 =>
 M.bind (pick (strip t12_4) (.bool true) t17_8) fun t18_9 =>
 condM t18_9
 (M.bind (ld none true t9_3) fun t19_10 =>
 M.bind (st 1 true t6_0 t19_10) fun _ =>
 M.bind (st 1 false t7_1 (.int .i64 0)) fun _ =>
 M.bind (st 1 false t8_2 (.int .i64 1)) fun _ =>
 M.bind (ld none true t6_0) fun t0_14 => guardM (!isTup t0_14) (M.bind (ld none true t7_1) fun t0_15 => guardM (!isTup t0_15) (M.bind (ld none true t8_2) fun t0_16 => guardM (!isTup t0_16) (M.pure (.tup [t0_14, t0_15, t0_16])))))
 (M.bind (mf k_entry_read_L_api_ValType_1 [] [t9_3, t6_0, t7_1, t8_2]) fun t20_17 =>
 guardM (isPtr t6_0 && isPtr t7_1 && isPtr t8_2) <| deferM CD t20_17 []
 (M.bind (bd [(.slice false true 0 []), (.int .i64 0)] [(0, 1, (strip a0)), (1, 1, (strip a1))]) fun t23_18 =>
 M.bind (bx 2 t23_18) fun t24_19 =>
 M.bind (callV P C (strip a2) [(strip (strip t24_19))]) fun t27_20 =>
 M.bind (st 1 true t6_0 t27_20) fun _ =>
 chk
 (M.bind (noPan (M.pure (strip t24_19))) fun t29_30 =>
 M.bind (noPan (nc P t29_30)) fun t30_31 =>
 M.bind (noPan (fa 1 t30_31)) fun t31_32 =>
 M.bind (noPan (ld none true t6_0)) fun t28_33 =>
 M.bind (noPan (st 1 true t6_0 t28_33)) fun _ =>
 M.bind (noPan (ld none true t31_32)) fun t32_35 =>
 M.bind (noPan (st 1 true t7_1 t32_35)) fun _ =>
 M.bind (noPan (st 1 false t8_2 (.int .i64 0))) fun _ =>
 M.pure [a0, a1, a2, .undef, .undef, .undef, t6_0, t7_1, t8_2, t9_3, t24_19, (strip a1), t12_4, (strip t12_4), t14_5, t15_6, t16_7, t17_8, t18_9, .undef, t20_17, (strip a0), (strip a1), t23_18, (strip t24_19), (strip a2), (strip t24_19), (strip t27_20), (strip t28_33), t29_30, t30_31, t31_32, (strip t32_35)])
 (M.bind (noPan (M.pure (strip t24_19))) fun t29_22 =>
 M.bind (noPan (nc P t29_22)) fun t30_23 =>
 M.bind (noPan (fa 1 t30_23)) fun t31_24 =>
 M.bind (noPan (ld none true t6_0)) fun t28_25 =>
 M.bind (noPan (ld none true t31_24)) fun t32_26 =>
 M.bind (noPan (st 1 true t6_0 t28_25)) fun _ =>
 M.bind (noPan (st 1 true t7_1 t32_26)) fun _ =>
 M.bind (noPan (st 1 false t8_2 (.int .i64 0))) fun _ =>
 M.pure [a0, a1, a2, .undef, .undef, .undef, t6_0, t7_1, t8_2, t9_3, t24_19, (strip a1), t12_4, (strip t12_4), t14_5, t15_6, t16_7, t17_8, t18_9, .undef, t20_17, (strip a0), (strip a1), t23_18, (strip t24_19), (strip a2), (strip t24_19), (strip t27_20), (strip t28_25), t29_22, t30_23, t31_24, (strip t32_26)]) <|
 chk
 (M.bind (noPan (M.pure (strip t24_19))) fun t29_38 =>
 M.bind (noPan (nc P t29_38)) fun t30_39 =>
 M.bind (noPan (fa 1 t30_39)) fun t31_40 =>
 M.bind (noPan (ld none true t31_40)) fun t32_41 =>
 M.bind (noPan (ld none true t6_0)) fun t28_42 =>
 M.bind (noPan (st 1 true t6_0 t28_42)) fun _ =>
 M.bind (noPan (st 1 true t7_1 t32_41)) fun _ =>
 M.bind (noPan (st 1 false t8_2 (.int .i64 0))) fun _ =>
 M.pure [a0, a1, a2, .undef, .undef, .undef, t6_0, t7_1, t8_2, t9_3, t24_19, (strip a1), t12_4, (strip t12_4), t14_5, t15_6, t16_7, t17_8, t18_9, .undef, t20_17, (strip a0), (strip a1), t23_18, (strip t24_19), (strip a2), (strip t24_19), (strip t27_20), (strip t28_42), t29_38, t30_39, t31_40, (strip t32_41)])
 (M.bind (noPan (M.pure (strip t24_19))) fun t29_22 =>
 M.bind (noPan (nc P t29_22)) fun t30_23 =>
 M.bind (noPan (fa 1 t30_23)) fun t31_24 =>
 M.bind (noPan (ld none true t6_0)) fun t28_25 =>
 M.bind (noPan (ld none true t31_24)) fun t32_26 =>
 M.bind (noPan (st 1 true t6_0 t28_25)) fun _ =>
 M.bind (noPan (st 1 true t7_1 t32_26)) fun _ =>
 M.bind (noPan (st 1 false t8_2 (.int .i64 0))) fun _ =>
 M.pure [a0, a1, a2, .undef, .undef, .undef, t6_0, t7_1, t8_2, t9_3, t24_19, (strip a1), t12_4, (strip t12_4), t14_5, t15_6, t16_7, t17_8, t18_9, .undef, t20_17, (strip a0), (strip a1), t23_18, (strip t24_19), (strip a2), (strip t24_19), (strip t27_20), (strip t28_25), t29_22, t30_23, t31_24, (strip t32_26)]) <|
 M.bind (noPan (M.pure (strip t24_19))) fun t29_46 =>
 M.bind (noPan (nc P t29_46)) fun t30_47 =>
 M.bind (noPan (fa 1 t30_47)) fun t31_48 =>
 M.bind (noPan (ld none true t6_0)) fun t28_49 =>
 M.bind (noPan (ld none true t31_48)) fun t32_50 =>
 M.bind (noPan (st 1 true t6_0 t28_49)) fun _ =>
 M.bind (noPan (st 1 true t7_1 t32_50)) fun _ =>
 M.bind (noPan (st 1 false t8_2 (.int .i64 0))) fun _ =>
 M.bind (ld none true t6_0) fun t0_54 => guardM (!isTup t0_54) (M.bind (ld none true t7_1) fun t0_55 => guardM (!isTup t0_55) (M.bind (ld none true t8_2) fun t0_56 => guardM (!isTup t0_56) (M.pure (.tup [t0_54, t0_55, t0_56])))))
 (M.bind (ld none true t6_0) fun t0_57 => guardM (!isTup t0_57) (M.bind (ld none true t7_1) fun t0_58 => guardM (!isTup t0_58) (M.bind (ld none true t8_2) fun t0_59 => guardM (!isTup t0_59) (M.pure (.tup [t0_57, t0_58, t0_59]))))))) := by
 rw [C, callW_eq _ _ rfl]; kernel_rfl
/-- (*ratchet/entry.cursor).vals -/
theorem entry_cursor_vals_eq (a0 : PV) : C k_entry_cursor_vals [a0] =
 trunc (M.bind (mf k_entry_cursor_val [(strip a0)] []) fun t5_0 =>
 M.bind (C k_entry_list_api_ValType [(strip (strip a0)), (.int .u32 1000), (strip t5_0)]) fun t6_1 =>
 resT t6_1 (M.pure t6_1)) := by
 rw [C, callW_eq _ _ rfl]; kernel_rfl
noncomputable def p_ratchetref08_reading_vals_111010 (v0 v2 v3 v4 v5 : PV) : M PV := atP P X k_ratchetref08_reading_vals [1, 1, 1, 0, 1, 0] (mkEnv 26 0 [(0, v0), (2, v2), (3, v3), (4, v4), (5, v5)])
theorem p_ratchetref08_reading_vals_111010_eq (v0 v2 v3 v4 v5 : PV) : p_ratchetref08_reading_vals_111010 v0 v2 v3 v4 v5 =
 M.bind (bi .lss .none (strip v5) (strip v3)) fun t10_0 =>
 M.bind (gd (strip t10_0) true (M.pure (strip v0))) fun t12_1 =>
 M.bind (gd (strip t10_0) true (nc P t12_1)) fun t13_2 =>
 M.bind (gd (strip t10_0) true (fa 3 t13_2)) fun t14_3 =>
 M.bind (gd (strip t10_0) true (ld none false t14_3)) fun t15_4 =>
 M.bind (gd (strip t10_0) true (bi .eql .none t15_4 (.int .i64 0))) fun t16_5 =>
 M.bind (pick (strip t10_0) t16_5 (.bool false)) fun t17_6 =>
 condM t17_6
 (M.bind (C k_ratchetref08_reading_val [(strip (strip v0)), (.bool true), (.bool false)]) fun t22_7 =>
 M.bind (bs true (some 3) [t22_7]) fun t23_8 =>
 M.bind (ap true 3 24 v4 t23_8) fun t24_9 =>
 M.bind (bi .add .none (strip v5) (.int .i64 1)) fun t19_10 =>
 p_ratchetref08_reading_vals_111010 v0 v2 v3 t24_9 t19_10)
 (resT v4 (M.pure v4)) :=
 (atP_step P X _ _ _).trans (by kernel_rfl)
/-- (*ratchet/ratchetref08.reading).vals -/
theorem ratchetref08_reading_vals_eq (a0 : PV) : C k_ratchetref08_reading_vals [a0] =
 trunc (M.bind (C k_ratchetref08_reading_many [(strip (strip a0)), (.int .i64 1000)]) fun t7_0 =>
 p_ratchetref08_reading_vals_111010 a0 (.slice false true 0 []) t7_0 (.slice false true 0 []) (.int .i64 0)) := by
 rw [C, callW_eq _ _ rfl]; kernel_rfl
/-- ratchet/entry.read[ratchet/api.Field] -/
theorem entry_read_api_Field_eq (a0 a1 a2 : PV) : C k_entry_read_api_Field [a0, a1, a2] =
 trunc (M.bind (al [(.int .i64 0), (.bool false), (.int .i64 0), (.bool false)]) fun t6_0 =>
 M.bind (al [(.int .i64 0)]) fun t7_1 =>
 M.bind (al [(.int .i64 0)]) fun t8_2 =>
 M.bind (al [(.int .i64 0), (.bool false), (.int .i64 0), (.bool false)]) fun t9_3 =>
 M.bind (bi .lss .none (strip a1) (.int .i64 0)) fun t12_4 =>
 M.bind (gd (strip t12_4) false (M.pure (strip a1))) fun t14_5 =>
 M.bind (gd (strip t12_4) false (M.pure (strip a0))) fun t15_6 =>
 M.bind (gd (strip t12_4) false (lnL t15_6)) fun t16_7 =>
 M.bind (gd (strip t12_4) false (bi .gtr .none t14_5 t16_7)) fun t17_8 =>
 M.bind (pick (strip t12_4) (.bool true) t17_8) fun t18_9 =>
 condM t18_9
 (M.bind (ld (some 4) true t9_3) fun t19_10 =>
 M.bind (st 4 true t6_0 t19_10) fun _ =>
 M.bind (st 1 false t7_1 (.int .i64 0)) fun _ =>
 M.bind (st 1 false t8_2 (.int .i64 1)) fun _ =>
 M.bind (ld (some 4) true t6_0) fun t0_14 => guardM (!isTup t0_14) (M.bind (ld none true t7_1) fun t0_15 => guardM (!isTup t0_15) (M.bind (ld none true t8_2) fun t0_16 => guardM (!isTup t0_16) (M.pure (.tup [t0_14, t0_15, t0_16])))))
 (M.bind (mf k_entry_read_api_Field_1 [] [t9_3, t6_0, t7_1, t8_2]) fun t20_17 =>
 guardM (isPtr t6_0 && isPtr t7_1 && isPtr t8_2) <| deferM CD t20_17 []
 (M.bind (bd [(.slice false true 0 []), (.int .i64 0)] [(0, 1, (strip a0)), (1, 1, (strip a1))]) fun t23_18 =>
 M.bind (bx 2 t23_18) fun t24_19 =>
 M.bind (callV P C (strip a2) [(strip (strip t24_19))]) fun t27_20 =>
 M.bind (st 4 true t6_0 t27_20) fun _ =>
 chk
 (M.bind (noPan (M.pure (strip t24_19))) fun t29_30 =>
 M.bind (noPan (nc P t29_30)) fun t30_31 =>
 M.bind (noPan (fa 1 t30_31)) fun t31_32 =>
 M.bind (noPan (ld (some 4) true t6_0)) fun t28_33 =>
 M.bind (noPan (st 4 true t6_0 t28_33)) fun _ =>
 M.bind (noPan (ld none true t31_32)) fun t32_35 =>
 M.bind (noPan (st 1 true t7_1 t32_35)) fun _ =>
 M.bind (noPan (st 1 false t8_2 (.int .i64 0))) fun _ =>
 M.pure [a0, a1, a2, .undef, .undef, .undef, t6_0, t7_1, t8_2, t9_3, t24_19, (strip a1), t12_4, (strip t12_4), t14_5, t15_6, t16_7, t17_8, t18_9, .undef, t20_17, (strip a0), (strip a1), t23_18, (strip t24_19), (strip a2), (strip t24_19), (strip t27_20), (strip t28_33), t29_30, t30_31, t31_32, (strip t32_35)])
 (M.bind (noPan (M.pure (strip t24_19))) fun t29_22 =>
 M.bind (noPan (nc P t29_22)) fun t30_23 =>
 M.bind (noPan (fa 1 t30_23)) fun t31_24 =>
 M.bind (noPan (ld (some 4) true t6_0)) fun t28_25 =>
 M.bind (noPan (ld none true t31_24)) fun t32_26 =>
 M.bind (noPan (st 4 true t6_0 t28_25)) fun _ =>
 M.bind (noPan (st 1 true t7_1 t32_26)) fun _ =>
 M.bind (noPan (st 1 false t8_2 (.int .i64 0))) fun _ =>
 M.pure [a0, a1, a2, .undef, .undef, .undef, t6_0, t7_1, t8_2, t9_3, t24_19, (strip a1), t12_4, (strip t12_4), t14_5, t15_6, t16_7, t17_8, t18_9, .undef, t20_17, (strip a0), (strip a1), t23_18, (strip t24_19), (strip a2), (strip t24_19), (strip t27_20), (strip t28_25), t29_22, t30_23, t31_24, (strip t32_26)]) <|
 chk
 (M.bind (noPan (M.pure (strip t24_19))) fun t29_38 =>
 M.bind (noPan (nc P t29_38)) fun t30_39 =>
 M.bind (noPan (fa 1 t30_39)) fun t31_40 =>
 M.bind (noPan (ld none true t31_40)) fun t32_41 =>
 M.bind (noPan (ld (some 4) true t6_0)) fun t28_42 =>
 M.bind (noPan (st 4 true t6_0 t28_42)) fun _ =>
 M.bind (noPan (st 1 true t7_1 t32_41)) fun _ =>
 M.bind (noPan (st 1 false t8_2 (.int .i64 0))) fun _ =>
 M.pure [a0, a1, a2, .undef, .undef, .undef, t6_0, t7_1, t8_2, t9_3, t24_19, (strip a1), t12_4, (strip t12_4), t14_5, t15_6, t16_7, t17_8, t18_9, .undef, t20_17, (strip a0), (strip a1), t23_18, (strip t24_19), (strip a2), (strip t24_19), (strip t27_20), (strip t28_42), t29_38, t30_39, t31_40, (strip t32_41)])
 (M.bind (noPan (M.pure (strip t24_19))) fun t29_22 =>
 M.bind (noPan (nc P t29_22)) fun t30_23 =>
 M.bind (noPan (fa 1 t30_23)) fun t31_24 =>
 M.bind (noPan (ld (some 4) true t6_0)) fun t28_25 =>
 M.bind (noPan (ld none true t31_24)) fun t32_26 =>
 M.bind (noPan (st 4 true t6_0 t28_25)) fun _ =>
 M.bind (noPan (st 1 true t7_1 t32_26)) fun _ =>
 M.bind (noPan (st 1 false t8_2 (.int .i64 0))) fun _ =>
 M.pure [a0, a1, a2, .undef, .undef, .undef, t6_0, t7_1, t8_2, t9_3, t24_19, (strip a1), t12_4, (strip t12_4), t14_5, t15_6, t16_7, t17_8, t18_9, .undef, t20_17, (strip a0), (strip a1), t23_18, (strip t24_19), (strip a2), (strip t24_19), (strip t27_20), (strip t28_25), t29_22, t30_23, t31_24, (strip t32_26)]) <|
 M.bind (noPan (M.pure (strip t24_19))) fun t29_46 =>
 M.bind (noPan (nc P t29_46)) fun t30_47 =>
 M.bind (noPan (fa 1 t30_47)) fun t31_48 =>
 M.bind (noPan (ld (some 4) true t6_0)) fun t28_49 =>
 M.bind (noPan (ld none true t31_48)) fun t32_50 =>
 M.bind (noPan (st 4 true t6_0 t28_49)) fun _ =>
 M.bind (noPan (st 1 true t7_1 t32_50)) fun _ =>
 M.bind (noPan (st 1 false t8_2 (.int .i64 0))) fun _ =>
 M.bind (ld (some 4) true t6_0) fun t0_54 => guardM (!isTup t0_54) (M.bind (ld none true t7_1) fun t0_55 => guardM (!isTup t0_55) (M.bind (ld none true t8_2) fun t0_56 => guardM (!isTup t0_56) (M.pure (.tup [t0_54, t0_55, t0_56])))))
 (M.bind (ld (some 4) true t6_0) fun t0_57 => guardM (!isTup t0_57) (M.bind (ld none true t7_1) fun t0_58 => guardM (!isTup t0_58) (M.bind (ld none true t8_2) fun t0_59 => guardM (!isTup t0_59) (M.pure (.tup [t0_57, t0_58, t0_59]))))))) := by
 rw [C, callW_eq _ _ rfl]; kernel_rfl
noncomputable def p_entry_cursor_field_111 (v0 v2 v3 : PV) : M PV := atP P X k_entry_cursor_field [1, 1, 1] (mkEnv 36 0 [(0, v0), (2, v2), (3, v3)])
theorem p_entry_cursor_field_111_eq (v0 v2 v3 : PV) : p_entry_cursor_field_111 v0 v2 v3 =
 M.bind (C k_entry_cursor_small [(strip (strip v0)), (.int .u8 1)]) fun t32_0 =>
 M.bind (bi .eql .none t32_0 (.int .u8 1)) fun t33_1 =>
 M.bind (fa 3 v3) fun t34_2 =>
 M.bind (st 1 true t34_2 t33_1) fun _ =>
 M.bind (ld (some 4) true v3) fun t35_4 =>
 M.bind (st 4 true v2 t35_4) fun _ =>
 M.bind (ld (some 4) true v2) fun t0_6 => guardM (!isTup t0_6) (M.pure t0_6) :=
 (atP_step P X _ _ _).trans (by kernel_rfl)
/-- (*ratchet/entry.cursor).field -/
theorem entry_cursor_field_eq (a0 : PV) : C k_entry_cursor_field [a0] =
 trunc (M.bind (al [(.int .i64 0), (.bool false), (.int .i64 0), (.bool false)]) fun t2_0 =>
 M.bind (al [(.int .i64 0), (.bool false), (.int .i64 0), (.bool false)]) fun t3_1 =>
 M.bind (C k_entry_cursor_look [(strip (strip a0))]) fun t5_2 =>
 M.bind (bi .eql .none t5_2 (.int .u8 120)) fun t10_3 =>
 condM t10_3
 (M.bind (fa 0 t3_1) fun t11_4 =>
 M.bind (fa 0 t11_4) fun t12_5 =>
 M.bind (st 1 false t12_5 (.int .i64 6)) fun _ =>
 M.bind (nc P (strip a0)) fun t14_7 =>
 M.bind (fa 1 t14_7) fun t15_8 =>
 M.bind (ld none false t15_8) fun t16_9 =>
 M.bind (bi .add .none t16_9 (.int .i64 1)) fun t17_10 =>
 M.bind (nc P (strip a0)) fun t18_11 =>
 M.bind (fa 1 t18_11) fun t19_12 =>
 M.bind (st 1 true t19_12 t17_10) fun _ =>
 p_entry_cursor_field_111 a0 t2_0 t3_1)
 (M.bind (bi .eql .none t5_2 (.int .u8 119)) fun t21_14 =>
 condM t21_14
 (M.bind (fa 0 t3_1) fun t22_15 =>
 M.bind (fa 0 t22_15) fun t23_16 =>
 M.bind (st 1 false t23_16 (.int .i64 7)) fun _ =>
 M.bind (nc P (strip a0)) fun t25_18 =>
 M.bind (fa 1 t25_18) fun t26_19 =>
 M.bind (ld none false t26_19) fun t27_20 =>
 M.bind (bi .add .none t27_20 (.int .i64 1)) fun t28_21 =>
 M.bind (nc P (strip a0)) fun t29_22 =>
 M.bind (fa 1 t29_22) fun t30_23 =>
 M.bind (st 1 true t30_23 t28_21) fun _ =>
 p_entry_cursor_field_111 a0 t2_0 t3_1)
 (M.bind (C k_entry_cursor_val [(strip (strip a0))]) fun t7_25 =>
 M.bind (fa 0 t3_1) fun t8_26 =>
 M.bind (st 3 true t8_26 t7_25) fun _ =>
 p_entry_cursor_field_111 a0 t2_0 t3_1))) := by
 rw [C, callW_eq _ _ rfl]; kernel_rfl
/-- (*ratchet/ratchetref08.reading).field -/
theorem ratchetref08_reading_field_eq (a0 : PV) : C k_ratchetref08_reading_field [a0] =
 trunc (M.bind (al [(.int .i64 0), (.bool false), (.int .i64 0), (.bool false)]) fun t2_0 =>
 M.bind (C k_ratchetref08_reading_val [(strip (strip a0)), (.bool true), (.bool true)]) fun t5_1 =>
 M.bind (al [(.int .i64 0), (.bool false), (.int .i64 0)]) fun t3_2 =>
 M.bind (st 3 true t3_2 t5_1) fun _ =>
 M.bind (nc P (strip a0)) fun t7_4 =>
 M.bind (fa 3 t7_4) fun t8_5 =>
 M.bind (ld none false t8_5) fun t9_6 =>
 M.bind (bi .neq .none t9_6 (.int .i64 0)) fun t10_7 =>
 condM t10_7
 (M.bind (bd [(.int .i64 0), (.bool false), (.int .i64 0), (.bool false)] []) fun t11_8 =>
 M.bind (st 4 true t2_0 t11_8) fun _ =>
 M.bind (ld (some 4) true t2_0) fun t0_10 => guardM (!isTup t0_10) (M.pure t0_10))
 (chk
 (M.bind (noPan (M.pure (strip a0))) fun t13_17 =>
 M.bind (noPan (C k_ratchetref08_reading_small [(strip t13_17), (.int .u8 1)])) fun t14_18 =>
 M.bind (noPan (bi .eql .none t14_18 (.int .u8 1))) fun t15_19 =>
 M.bind (noPan (ld (some 3) false t3_2)) fun t12_20 =>
 M.bind (noPan (bd [(.int .i64 0), (.bool false), (.int .i64 0), (.bool false)] [(0, 3, t12_20), (3, 1, t15_19)])) fun t16_21 =>
 M.bind (noPan (st 4 true t2_0 t16_21)) fun _ =>
 M.pure [a0, .undef, t2_0, t3_2, (strip a0), (strip t5_1), (strip a0), t7_4, t8_5, t9_6, t10_7, .undef, t12_20, t13_17, t14_18, t15_19, (strip t16_21)])
 (M.bind (noPan (M.pure (strip a0))) fun t13_11 =>
 M.bind (noPan (ld (some 3) false t3_2)) fun t12_12 =>
 M.bind (noPan (C k_ratchetref08_reading_small [(strip t13_11), (.int .u8 1)])) fun t14_13 =>
 M.bind (noPan (bi .eql .none t14_13 (.int .u8 1))) fun t15_14 =>
 M.bind (noPan (bd [(.int .i64 0), (.bool false), (.int .i64 0), (.bool false)] [(0, 3, t12_12), (3, 1, t15_14)])) fun t16_15 =>
 M.bind (noPan (st 4 true t2_0 t16_15)) fun _ =>
 M.pure [a0, .undef, t2_0, t3_2, (strip a0), (strip t5_1), (strip a0), t7_4, t8_5, t9_6, t10_7, .undef, t12_12, t13_11, t14_13, t15_14, (strip t16_15)]) <|
 M.bind (noPan (M.pure (strip a0))) fun t13_23 =>
 M.bind (noPan (ld (some 3) false t3_2)) fun t12_24 =>
 M.bind (noPan (C k_ratchetref08_reading_small [(strip t13_23), (.int .u8 1)])) fun t14_25 =>
 M.bind (noPan (bi .eql .none t14_25 (.int .u8 1))) fun t15_26 =>
 M.bind (noPan (bd [(.int .i64 0), (.bool false), (.int .i64 0), (.bool false)] [(0, 3, t12_24), (3, 1, t15_26)])) fun t16_27 =>
 M.bind (noPan (st 4 true t2_0 t16_27)) fun _ =>
 M.bind (ld (some 4) true t2_0) fun t0_29 => guardM (!isTup t0_29) (M.pure t0_29))) := by
 rw [C, callW_eq _ _ rfl]; kernel_rfl
/-- ratchet/entry.read[ratchet/api.CompType] -/
theorem entry_read_api_CompType_eq (a0 a1 a2 : PV) : C k_entry_read_api_CompType [a0, a1, a2] =
 trunc (M.bind (al [(.int .i64 0), (.slice false true 0 []), (.slice false true 0 []), (.slice false true 0 [])]) fun t6_0 =>
 M.bind (al [(.int .i64 0)]) fun t7_1 =>
 M.bind (al [(.int .i64 0)]) fun t8_2 =>
 M.bind (al [(.int .i64 0), (.slice false true 0 []), (.slice false true 0 []), (.slice false true 0 [])]) fun t9_3 =>
 M.bind (bi .lss .none (strip a1) (.int .i64 0)) fun t12_4 =>
 M.bind (gd (strip t12_4) false (M.pure (strip a1))) fun t14_5 =>
 M.bind (gd (strip t12_4) false (M.pure (strip a0))) fun t15_6 =>
 M.bind (gd (strip t12_4) false (lnL t15_6)) fun t16_7 =>
 M.bind (gd (strip t12_4) false (bi .gtr .none t14_5 t16_7)) fun t17_8 =>
 M.bind (pick (strip t12_4) (.bool true) t17_8) fun t18_9 =>
 condM t18_9
 (M.bind (ld (some 4) true t9_3) fun t19_10 =>
 M.bind (st 4 true t6_0 t19_10) fun _ =>
 M.bind (st 1 false t7_1 (.int .i64 0)) fun _ =>
 M.bind (st 1 false t8_2 (.int .i64 1)) fun _ =>
 M.bind (ld (some 4) true t6_0) fun t0_14 => guardM (!isTup t0_14) (M.bind (ld none true t7_1) fun t0_15 => guardM (!isTup t0_15) (M.bind (ld none true t8_2) fun t0_16 => guardM (!isTup t0_16) (M.pure (.tup [t0_14, t0_15, t0_16])))))
 (M.bind (mf k_entry_read_api_CompType_1 [] [t9_3, t6_0, t7_1, t8_2]) fun t20_17 =>
 guardM (isPtr t6_0 && isPtr t7_1 && isPtr t8_2) <| deferM CD t20_17 []
 (M.bind (bd [(.slice false true 0 []), (.int .i64 0)] [(0, 1, (strip a0)), (1, 1, (strip a1))]) fun t23_18 =>
 M.bind (bx 2 t23_18) fun t24_19 =>
 M.bind (callV P C (strip a2) [(strip (strip t24_19))]) fun t27_20 =>
 M.bind (st 4 true t6_0 t27_20) fun _ =>
 chk
 (M.bind (noPan (M.pure (strip t24_19))) fun t29_30 =>
 M.bind (noPan (nc P t29_30)) fun t30_31 =>
 M.bind (noPan (fa 1 t30_31)) fun t31_32 =>
 M.bind (noPan (ld (some 4) true t6_0)) fun t28_33 =>
 M.bind (noPan (st 4 true t6_0 t28_33)) fun _ =>
 M.bind (noPan (ld none true t31_32)) fun t32_35 =>
 M.bind (noPan (st 1 true t7_1 t32_35)) fun _ =>
 M.bind (noPan (st 1 false t8_2 (.int .i64 0))) fun _ =>
 M.pure [a0, a1, a2, .undef, .undef, .undef, t6_0, t7_1, t8_2, t9_3, t24_19, (strip a1), t12_4, (strip t12_4), t14_5, t15_6, t16_7, t17_8, t18_9, .undef, t20_17, (strip a0), (strip a1), t23_18, (strip t24_19), (strip a2), (strip t24_19), (strip t27_20), (strip t28_33), t29_30, t30_31, t31_32, (strip t32_35)])
 (M.bind (noPan (M.pure (strip t24_19))) fun t29_22 =>
 M.bind (noPan (nc P t29_22)) fun t30_23 =>
 M.bind (noPan (fa 1 t30_23)) fun t31_24 =>
 M.bind (noPan (ld (some 4) true t6_0)) fun t28_25 =>
 M.bind (noPan (ld none true t31_24)) fun t32_26 =>
 M.bind (noPan (st 4 true t6_0 t28_25)) fun _ =>
 M.bind (noPan (st 1 true t7_1 t32_26)) fun _ =>
 M.bind (noPan (st 1 false t8_2 (.int .i64 0))) fun _ =>
 M.pure [a0, a1, a2, .undef, .undef, .undef, t6_0, t7_1, t8_2, t9_3, t24_19, (strip a1), t12_4, (strip t12_4), t14_5, t15_6, t16_7, t17_8, t18_9, .undef, t20_17, (strip a0), (strip a1), t23_18, (strip t24_19), (strip a2), (strip t24_19), (strip t27_20), (strip t28_25), t29_22, t30_23, t31_24, (strip t32_26)]) <|
 chk
 (M.bind (noPan (M.pure (strip t24_19))) fun t29_38 =>
 M.bind (noPan (nc P t29_38)) fun t30_39 =>
 M.bind (noPan (fa 1 t30_39)) fun t31_40 =>
 M.bind (noPan (ld none true t31_40)) fun t32_41 =>
 M.bind (noPan (ld (some 4) true t6_0)) fun t28_42 =>
 M.bind (noPan (st 4 true t6_0 t28_42)) fun _ =>
 M.bind (noPan (st 1 true t7_1 t32_41)) fun _ =>
 M.bind (noPan (st 1 false t8_2 (.int .i64 0))) fun _ =>
 M.pure [a0, a1, a2, .undef, .undef, .undef, t6_0, t7_1, t8_2, t9_3, t24_19, (strip a1), t12_4, (strip t12_4), t14_5, t15_6, t16_7, t17_8, t18_9, .undef, t20_17, (strip a0), (strip a1), t23_18, (strip t24_19), (strip a2), (strip t24_19), (strip t27_20), (strip t28_42), t29_38, t30_39, t31_40, (strip t32_41)])
 (M.bind (noPan (M.pure (strip t24_19))) fun t29_22 =>
 M.bind (noPan (nc P t29_22)) fun t30_23 =>
 M.bind (noPan (fa 1 t30_23)) fun t31_24 =>
 M.bind (noPan (ld (some 4) true t6_0)) fun t28_25 =>
 M.bind (noPan (ld none true t31_24)) fun t32_26 =>
 M.bind (noPan (st 4 true t6_0 t28_25)) fun _ =>
 M.bind (noPan (st 1 true t7_1 t32_26)) fun _ =>
 M.bind (noPan (st 1 false t8_2 (.int .i64 0))) fun _ =>
 M.pure [a0, a1, a2, .undef, .undef, .undef, t6_0, t7_1, t8_2, t9_3, t24_19, (strip a1), t12_4, (strip t12_4), t14_5, t15_6, t16_7, t17_8, t18_9, .undef, t20_17, (strip a0), (strip a1), t23_18, (strip t24_19), (strip a2), (strip t24_19), (strip t27_20), (strip t28_25), t29_22, t30_23, t31_24, (strip t32_26)]) <|
 M.bind (noPan (M.pure (strip t24_19))) fun t29_46 =>
 M.bind (noPan (nc P t29_46)) fun t30_47 =>
 M.bind (noPan (fa 1 t30_47)) fun t31_48 =>
 M.bind (noPan (ld (some 4) true t6_0)) fun t28_49 =>
 M.bind (noPan (ld none true t31_48)) fun t32_50 =>
 M.bind (noPan (st 4 true t6_0 t28_49)) fun _ =>
 M.bind (noPan (st 1 true t7_1 t32_50)) fun _ =>
 M.bind (noPan (st 1 false t8_2 (.int .i64 0))) fun _ =>
 M.bind (ld (some 4) true t6_0) fun t0_54 => guardM (!isTup t0_54) (M.bind (ld none true t7_1) fun t0_55 => guardM (!isTup t0_55) (M.bind (ld none true t8_2) fun t0_56 => guardM (!isTup t0_56) (M.pure (.tup [t0_54, t0_55, t0_56])))))
 (M.bind (ld (some 4) true t6_0) fun t0_57 => guardM (!isTup t0_57) (M.bind (ld none true t7_1) fun t0_58 => guardM (!isTup t0_58) (M.bind (ld none true t8_2) fun t0_59 => guardM (!isTup t0_59) (M.pure (.tup [t0_57, t0_58, t0_59]))))))) := by
 rw [C, callW_eq _ _ rfl]; kernel_rfl
/-- (*ratchet/entry.cursor).comp -/
theorem entry_cursor_comp_eq (a0 : PV) : C k_entry_cursor_comp [a0] =
 trunc (M.bind (al [(.int .i64 0), (.slice false true 0 []), (.slice false true 0 []), (.slice false true 0 [])]) fun t2_0 =>
 M.bind (C k_entry_cursor_look [(strip (strip a0))]) fun t6_1 =>
 M.bind (nc P (strip a0)) fun t8_2 =>
 M.bind (fa 1 t8_2) fun t9_3 =>
 M.bind (ld none false t9_3) fun t10_4 =>
 M.bind (bi .add .none t10_4 (.int .i64 1)) fun t11_5 =>
 M.bind (nc P (strip a0)) fun t12_6 =>
 M.bind (fa 1 t12_6) fun t13_7 =>
 M.bind (st 1 true t13_7 t11_5) fun _ =>
 M.bind (bi .eql .none (strip t6_1) (.int .u8 96)) fun t16_9 =>
 condM t16_9
 (M.bind (C k_entry_cursor_vals [(strip (strip a0))]) fun t18_10 =>
 M.bind (bd [(.int .i64 0), (.slice false true 0 []), (.slice false true 0 []), (.slice false true 0 [])] [(0, 1, (.int .i64 1)), (1, 1, t18_10)]) fun t19_11 =>
 M.bind (al [(.int .i64 0), (.slice false true 0 []), (.slice false true 0 []), (.slice false true 0 [])]) fun t4_12 =>
 M.bind (st 4 true t4_12 t19_11) fun _ =>
 M.bind (C k_entry_cursor_vals [(strip (strip a0))]) fun t21_14 =>
 M.bind (fa 2 t4_12) fun t22_15 =>
 M.bind (st 1 true t22_15 t21_14) fun _ =>
 M.bind (ld (some 4) true t4_12) fun t23_17 =>
 M.bind (st 4 true t2_0 t23_17) fun _ =>
 M.bind (ld (some 4) true t2_0) fun t0_19 => guardM (!isTup t0_19) (M.pure t0_19))
 (M.bind (bi .eql .none (strip t6_1) (.int .u8 95)) fun t25_20 =>
 condM t25_20
 (M.bind (mf k_entry_cursor_field [(strip a0)] []) fun t28_21 =>
 M.bind (C k_entry_list_api_Field [(strip (strip a0)), (.int .u32 10000), (strip t28_21)]) fun t29_22 =>
 M.bind (bd [(.int .i64 0), (.slice false true 0 []), (.slice false true 0 []), (.slice false true 0 [])] [(0, 1, (.int .i64 2)), (3, 1, t29_22)]) fun t30_23 =>
 M.bind (st 4 true t2_0 t30_23) fun _ =>
 M.bind (ld (some 4) true t2_0) fun t0_25 => guardM (!isTup t0_25) (M.pure t0_25))
 (M.bind (bi .eql .none (strip t6_1) (.int .u8 94)) fun t32_26 =>
 condM t32_26
 (M.bind (C k_entry_cursor_field [(strip (strip a0))]) fun t34_27 =>
 M.bind (bs true (some 4) [t34_27]) fun t35_28 =>
 M.bind (bd [(.int .i64 0), (.slice false true 0 []), (.slice false true 0 []), (.slice false true 0 [])] [(0, 1, (.int .i64 3)), (3, 1, t35_28)]) fun t36_29 =>
 M.bind (st 4 true t2_0 t36_29) fun _ =>
 M.bind (ld (some 4) true t2_0) fun t0_31 => guardM (!isTup t0_31) (M.pure t0_31))
 (M.bind (nc P (strip a0)) fun t39_32 =>
 M.bind (fa 1 t39_32) fun t40_33 =>
 M.bind (ld none false t40_33) fun t41_34 =>
 M.bind (bi .sub .none t41_34 (.int .i64 1)) fun t42_35 =>
 M.bind (C k_entry_cursor_fail [(strip (strip a0)), (strip t42_35), (.int .i64 4)]) fun t43_36 =>
 M.bind (bd [(.int .i64 0), (.slice false true 0 []), (.slice false true 0 []), (.slice false true 0 [])] []) fun t44_37 =>
 M.bind (st 4 true t2_0 t44_37) fun _ =>
 M.bind (ld (some 4) true t2_0) fun t0_39 => guardM (!isTup t0_39) (M.pure t0_39))))) := by
 rw [C, callW_eq _ _ rfl]; kernel_rfl
noncomputable def p_ratchetref08_reading_comp_11111010111011010 (v0 v2 v5 v7 v8 v9 : PV) : M PV := atP P X k_ratchetref08_reading_comp [1, 1, 1, 1, 1, 0, 1, 0, 1, 1, 1, 0, 1, 1, 0, 1, 0] (mkEnv 80 0 [(0, v0), (2, v2), (5, v5), (7, v7), (8, v8), (9, v9)])
theorem p_ratchetref08_reading_comp_11111010111011010_eq (v0 v2 v5 v7 v8 v9 : PV) : p_ratchetref08_reading_comp_11111010111011010 v0 v2 v5 v7 v8 v9 =
 M.bind (bi .lss .none (strip v9) (strip v7)) fun t52_0 =>
 M.bind (gd (strip t52_0) true (M.pure (strip v0))) fun t54_1 =>
 M.bind (gd (strip t52_0) true (nc P t54_1)) fun t55_2 =>
 M.bind (gd (strip t52_0) true (fa 3 t55_2)) fun t56_3 =>
 M.bind (gd (strip t52_0) true (ld none false t56_3)) fun t57_4 =>
 M.bind (gd (strip t52_0) true (bi .eql .none t57_4 (.int .i64 0))) fun t58_5 =>
 M.bind (pick (strip t52_0) t58_5 (.bool false)) fun t59_6 =>
 condM t59_6
 (chk
 (M.bind (noPan (fa 3 v8)) fun t62_15 =>
 M.bind (noPan (M.pure (strip v0))) fun t64_16 =>
 M.bind (noPan (C k_ratchetref08_reading_field [(strip t64_16)])) fun t65_17 =>
 M.bind (noPan (bs true (some 4) [t65_17])) fun t66_18 =>
 M.bind (noPan (ld none true t62_15)) fun t63_19 =>
 M.bind (noPan (ap true 4 32 t63_19 t66_18)) fun t67_20 =>
 M.bind (noPan (fa 3 v8)) fun t68_21 =>
 M.bind (noPan (st 1 true t68_21 t67_20)) fun _ =>
 M.pure [v0, .undef, v2, .undef, .undef, v5, .undef, v7, v8, v9, .undef, .undef, .undef, .undef, .undef, .undef, .undef, .undef, .undef, .undef, .undef, .undef, .undef, .undef, .undef, .undef, .undef, .undef, .undef, .undef, .undef, .undef, .undef, .undef, .undef, .undef, .undef, .undef, .undef, .undef, .undef, .undef, .undef, .undef, .undef, .undef, .undef, .undef, .undef, .undef, (strip v9), (strip v7), t52_0, (strip t52_0), t54_1, t55_2, t56_3, t57_4, t58_5, t59_6, .undef, .undef, t62_15, (strip t63_19), t64_16, t65_17, t66_18, (strip t67_20), t68_21, .undef, .undef, .undef, .undef, .undef, .undef, .undef, .undef, .undef, .undef, .undef])
 (M.bind (noPan (fa 3 v8)) fun t62_7 =>
 M.bind (noPan (M.pure (strip v0))) fun t64_8 =>
 M.bind (noPan (ld none true t62_7)) fun t63_9 =>
 M.bind (noPan (C k_ratchetref08_reading_field [(strip t64_8)])) fun t65_10 =>
 M.bind (noPan (bs true (some 4) [t65_10])) fun t66_11 =>
 M.bind (noPan (ap true 4 32 t63_9 t66_11)) fun t67_12 =>
 M.bind (noPan (fa 3 v8)) fun t68_13 =>
 M.bind (noPan (st 1 true t68_13 t67_12)) fun _ =>
 M.pure [v0, .undef, v2, .undef, .undef, v5, .undef, v7, v8, v9, .undef, .undef, .undef, .undef, .undef, .undef, .undef, .undef, .undef, .undef, .undef, .undef, .undef, .undef, .undef, .undef, .undef, .undef, .undef, .undef, .undef, .undef, .undef, .undef, .undef, .undef, .undef, .undef, .undef, .undef, .undef, .undef, .undef, .undef, .undef, .undef, .undef, .undef, .undef, .undef, (strip v9), (strip v7), t52_0, (strip t52_0), t54_1, t55_2, t56_3, t57_4, t58_5, t59_6, .undef, .undef, t62_7, (strip t63_9), t64_8, t65_10, t66_11, (strip t67_12), t68_13, .undef, .undef, .undef, .undef, .undef, .undef, .undef, .undef, .undef, .undef, .undef]) <|
 M.bind (noPan (fa 3 v8)) fun t62_23 =>
 M.bind (noPan (M.pure (strip v0))) fun t64_24 =>
 M.bind (noPan (ld none true t62_23)) fun t63_25 =>
 M.bind (noPan (C k_ratchetref08_reading_field [(strip t64_24)])) fun t65_26 =>
 M.bind (noPan (bs true (some 4) [t65_26])) fun t66_27 =>
 M.bind (noPan (ap true 4 32 t63_25 t66_27)) fun t67_28 =>
 M.bind (noPan (fa 3 v8)) fun t68_29 =>
 M.bind (noPan (st 1 true t68_29 t67_28)) fun _ =>
 M.bind (bi .add .none (strip v9) (.int .i64 1)) fun t61_31 =>
 p_ratchetref08_reading_comp_11111010111011010 v0 v2 v5 v7 v8 t61_31)
 (M.bind (ld (some 4) true v8) fun t69_32 =>
 M.bind (st 4 true v2 t69_32) fun _ =>
 M.bind (ld (some 4) true v2) fun t0_34 => guardM (!isTup t0_34) (M.pure t0_34)) :=
 (atP_step P X _ _ _).trans (by kernel_rfl)
/-- (*ratchet/ratchetref08.reading).comp -/
theorem ratchetref08_reading_comp_eq (a0 : PV) : C k_ratchetref08_reading_comp [a0] =
 trunc (M.bind (al [(.int .i64 0), (.slice false true 0 []), (.slice false true 0 []), (.slice false true 0 [])]) fun t2_0 =>
 M.bind (C k_ratchetref08_reading_peek [(strip (strip a0))]) fun t12_1 =>
 M.bind (ex 0 (strip t12_1)) fun t13_2 =>
 M.bind (ex 1 (tupDrop 0 (strip t12_1))) fun t14_3 =>
 M.bind (un .not (strip t14_3)) fun t16_4 =>
 condM t16_4
 (M.bind (nc P (strip a0)) fun t19_5 =>
 M.bind (fa 0 t19_5) fun t20_6 =>
 M.bind (ld none false t20_6) fun t21_7 =>
 M.bind (lnL t21_7) fun t22_8 =>
 M.bind (C k_ratchetref08_reading_fail [(strip (strip a0)), (strip t22_8), (.int .i64 3)]) fun t23_9 =>
 M.bind (bd [(.int .i64 0), (.slice false true 0 []), (.slice false true 0 []), (.slice false true 0 [])] []) fun t24_10 =>
 M.bind (st 4 true t2_0 t24_10) fun _ =>
 M.bind (ld (some 4) true t2_0) fun t0_12 => guardM (!isTup t0_12) (M.pure t0_12))
 (M.bind (nc P (strip a0)) fun t26_13 =>
 M.bind (fa 1 t26_13) fun t27_14 =>
 M.bind (ld none true t27_14) fun t28_15 =>
 M.bind (nc P (strip a0)) fun t30_16 =>
 M.bind (fa 1 t30_16) fun t31_17 =>
 M.bind (ld none false t31_17) fun t32_18 =>
 M.bind (bi .add .none t32_18 (.int .i64 1)) fun t33_19 =>
 M.bind (nc P (strip a0)) fun t34_20 =>
 M.bind (fa 1 t34_20) fun t35_21 =>
 M.bind (st 1 true t35_21 t33_19) fun _ =>
 M.bind (bi .eql .none (strip t13_2) (.int .u8 96)) fun t38_23 =>
 condM t38_23
 (M.bind (C k_ratchetref08_reading_vals [(strip (strip a0))]) fun t40_24 =>
 M.bind (C k_ratchetref08_reading_vals [(strip (strip a0))]) fun t43_25 =>
 M.bind (bd [(.int .i64 0), (.slice false true 0 []), (.slice false true 0 []), (.slice false true 0 [])] [(0, 1, (.int .i64 1)), (1, 1, (strip t40_24)), (2, 1, t43_25)]) fun t44_26 =>
 M.bind (st 4 true t2_0 t44_26) fun _ =>
 M.bind (ld (some 4) true t2_0) fun t0_28 => guardM (!isTup t0_28) (M.pure t0_28))
 (M.bind (bi .eql .none (strip t13_2) (.int .u8 95)) fun t46_29 =>
 condM t46_29
 (M.bind (C k_ratchetref08_reading_many [(strip (strip a0)), (.int .i64 10000)]) fun t48_30 =>
 M.bind (bd [(.int .i64 0), (.slice false true 0 []), (.slice false true 0 []), (.slice false true 0 [])] [(0, 1, (.int .i64 2))]) fun t49_31 =>
 M.bind (al [(.int .i64 0), (.slice false true 0 []), (.slice false true 0 []), (.slice false true 0 [])]) fun t8_32 =>
 M.bind (st 4 true t8_32 t49_31) fun _ =>
 p_ratchetref08_reading_comp_11111010111011010 a0 t2_0 t28_15 t48_30 t8_32 (.int .i64 0))
 (M.bind (bi .eql .none (strip t13_2) (.int .u8 94)) fun t71_34 =>
 condM t71_34
 (M.bind (C k_ratchetref08_reading_field [(strip (strip a0))]) fun t73_35 =>
 M.bind (bs true (some 4) [t73_35]) fun t74_36 =>
 M.bind (bd [(.int .i64 0), (.slice false true 0 []), (.slice false true 0 []), (.slice false true 0 [])] [(0, 1, (.int .i64 3)), (3, 1, t74_36)]) fun t75_37 =>
 M.bind (st 4 true t2_0 t75_37) fun _ =>
 M.bind (ld (some 4) true t2_0) fun t0_39 => guardM (!isTup t0_39) (M.pure t0_39))
 (M.bind (C k_ratchetref08_reading_fail [(strip (strip a0)), (strip (strip t28_15)), (.int .i64 4)]) fun t78_40 =>
 M.bind (bd [(.int .i64 0), (.slice false true 0 []), (.slice false true 0 []), (.slice false true 0 [])] []) fun t79_41 =>
 M.bind (st 4 true t2_0 t79_41) fun _ =>
 M.bind (ld (some 4) true t2_0) fun t0_43 => guardM (!isTup t0_43) (M.pure t0_43)))))) := by
 rw [C, callW_eq _ _ rfl]; kernel_rfl
noncomputable def p_ratchetref05_SameVals_11010 (v0 v1 v4 v5 : PV) : M PV := atP P X k_ratchetref05_SameVals [1, 1, 0, 1, 0] (mkEnv 27 0 [(0, v0), (1, v1), (4, v4), (5, v5)])
theorem p_ratchetref05_SameVals_11010_eq (v0 v1 v4 v5 : PV) : p_ratchetref05_SameVals_11010 v0 v1 v4 v5 =
 M.bind (lnL (strip v0)) fun t13_0 =>
 M.bind (bi .lss .none (strip v5) t13_0) fun t14_1 =>
 condM t14_1
 (M.bind (noPan (M.pure (strip v0))) fun t17_12 =>
 M.bind (noPan (M.pure (strip v5))) fun t18_13 =>
 M.bind (noPan (iaS 3 t17_12 t18_13)) fun t19_14 =>
 M.bind (noPan (M.pure (strip v1))) fun t21_15 =>
 M.bind (noPan (M.pure (strip v5))) fun t22_16 =>
 M.bind (noPan (iaS 3 t21_15 t22_16)) fun t23_17 =>
 M.bind (noPan (ld (some 3) false t19_14)) fun t20_18 =>
 M.bind (noPan (ld (some 3) false t23_17)) fun t24_19 =>
 M.bind (noPan (C k_ratchetref05_Same [(strip t20_18), (strip t24_19)])) fun t25_20 =>
 M.bind (noPan (un .not t25_20)) fun t26_21 =>
 condM t26_21
 (M.pure (.bool false))
 (M.bind (bi .add .none (strip v5) (.int .i64 1)) fun t16_22 =>
 p_ratchetref05_SameVals_11010 v0 v1 v4 t16_22))
 (M.pure (.bool true)) :=
 (atP_step P X _ _ _).trans (by kernel_rfl)
/-- ratchet/ratchetref05.SameVals -/
theorem ratchetref05_SameVals_eq (a0 a1 : PV) : C k_ratchetref05_SameVals [a0, a1] =
 trunc (M.bind (lnL (strip a0)) fun t7_0 =>
 M.bind (lnL (strip a1)) fun t9_1 =>
 M.bind (bi .neq .none t7_0 t9_1) fun t10_2 =>
 condM t10_2
 (M.pure (.bool false))
 (p_ratchetref05_SameVals_11010 a0 a1 (.bool false) (.int .i64 0))) := by
 rw [C, callW_eq _ _ rfl]; kernel_rfl
noncomputable def p_ratchetref05_sameFields_11010 (v0 v1 v4 v5 : PV) : M PV := atP P X k_ratchetref05_sameFields [1, 1, 0, 1, 0] (mkEnv 42 0 [(0, v0), (1, v1), (4, v4), (5, v5)])
theorem p_ratchetref05_sameFields_11010_eq (v0 v1 v4 v5 : PV) : p_ratchetref05_sameFields_11010 v0 v1 v4 v5 =
 M.bind (lnL (strip v0)) fun t13_0 =>
 M.bind (bi .lss .none (strip v5) t13_0) fun t14_1 =>
 condM t14_1
 (M.bind (noPan (M.pure (strip v0))) fun t17_27 =>
 M.bind (noPan (M.pure (strip v5))) fun t18_28 =>
 M.bind (noPan (iaS 4 t17_27 t18_28)) fun t19_29 =>
 M.bind (noPan (fa 3 t19_29)) fun t20_30 =>
 M.bind (noPan (M.pure (strip v1))) fun t22_31 =>
 M.bind (noPan (M.pure (strip v5))) fun t23_32 =>
 M.bind (noPan (iaS 4 t22_31 t23_32)) fun t24_33 =>
 M.bind (noPan (fa 3 t24_33)) fun t25_34 =>
 M.bind (noPan (ld none false t20_30)) fun t21_35 =>
 M.bind (noPan (ld none false t25_34)) fun t26_36 =>
 M.bind (noPan (bi .neq .bool t21_35 t26_36)) fun t27_37 =>
 M.bind (noPan (M.pure (strip t27_37))) fun t28_38 =>
 M.bind (noPan (gd t28_38 false (M.pure (strip v0)))) fun t29_39 =>
 M.bind (noPan (gd t28_38 false (M.pure (strip v5)))) fun t30_40 =>
 M.bind (noPan (gd t28_38 false (iaS 4 t29_39 t30_40))) fun t31_41 =>
 M.bind (noPan (gd t28_38 false (fa 0 t31_41))) fun t32_42 =>
 M.bind (noPan (gd t28_38 false (M.pure (strip v1)))) fun t34_43 =>
 M.bind (noPan (gd t28_38 false (M.pure (strip v5)))) fun t35_44 =>
 M.bind (noPan (gd t28_38 false (iaS 4 t34_43 t35_44))) fun t36_45 =>
 M.bind (noPan (gd t28_38 false (fa 0 t36_45))) fun t37_46 =>
 M.bind (noPan (gd t28_38 false (ld (some 3) false t32_42))) fun t33_47 =>
 M.bind (noPan (gd t28_38 false (ld (some 3) false t37_46))) fun t38_48 =>
 M.bind (noPan (gd t28_38 false (C k_ratchetref05_Same [(strip t33_47), (strip t38_48)]))) fun t39_49 =>
 M.bind (noPan (gd t28_38 false (un .not t39_49))) fun t40_50 =>
 M.bind (noPan (pick t28_38 (.bool true) t40_50)) fun t41_51 =>
 condM t41_51
 (M.pure (.bool false))
 (M.bind (bi .add .none (strip v5) (.int .i64 1)) fun t16_52 =>
 p_ratchetref05_sameFields_11010 v0 v1 v4 t16_52))
 (M.pure (.bool true)) :=
 (atP_step P X _ _ _).trans (by kernel_rfl)
/-- ratchet/ratchetref05.sameFields -/
theorem ratchetref05_sameFields_eq (a0 a1 : PV) : C k_ratchetref05_sameFields [a0, a1] =
 trunc (M.bind (lnL (strip a0)) fun t7_0 =>
 M.bind (lnL (strip a1)) fun t9_1 =>
 M.bind (bi .neq .none t7_0 t9_1) fun t10_2 =>
 condM t10_2
 (M.pure (.bool false))
 (p_ratchetref05_sameFields_11010 a0 a1 (.bool false) (.int .i64 0))) := by
 rw [C, callW_eq _ _ rfl]; kernel_rfl
end Go.Proofs.Ytofbbijagbpicaa.Pi.Q
