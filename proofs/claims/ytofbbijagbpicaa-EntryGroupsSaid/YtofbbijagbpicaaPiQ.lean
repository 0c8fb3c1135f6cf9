/- What the functions are, told. -/
import Derived.Test.YtofbbijagbpicaaPiK
namespace Go.Proofs.Ytofbbijagbpicaa.Pi.Q
open Go Go.Proofs.Ytofbbijagbpicaa.Pi
set_option linter.unusedVariables false
set_option maxRecDepth 100000
noncomputable def p_ratchetlaw08_EntryTypes_1111111111111111010 (v4 v15 v16 v17 : PV) : M PV := atP P X k_ratchetlaw08_EntryTypes [1, 1, 1, 1, 1, 1, 1, 1, 1, 1, 1, 1, 1, 1, 1, 1, 0, 1, 0] (mkEnv 171 0 [(4, v4), (15, v15), (16, v16), (17, v17)])
theorem p_ratchetlaw08_EntryTypes_1111111111111111010_eq (v4 v15 v16 v17 : PV) : p_ratchetlaw08_EntryTypes_1111111111111111010 v4 v15 v16 v17 =
 M.bind (lnL (strip v15)) fun t157_0 =>
 M.bind (bi .lss .none (strip v17) t157_0) fun t158_1 =>
 condM t158_1
 (nb (iaS 3 (strip v15) (strip v17)) fun t163_2 =>
 nb (ld (some 3) false t163_2) fun t164_3 =>
 nb (iaS 3 (strip v16) (strip v17)) fun t167_4 =>
 nb (ld (some 3) false t167_4) fun t168_5 =>
 nb (bi .neq (.struct [.int, .bool, .int]) t164_3 t168_5) fun t169_6 =>
 condM t169_6
 (M.pure (.bool false))
 (M.bind (bi .add .none (strip v17) (.int .i64 1)) fun t160_7 =>
 p_ratchetlaw08_EntryTypes_1111111111111111010 v4 v15 v16 t160_7))
 (M.bind (C k_ratchetlaw08_awake []) fun t170_8 =>
 resT t170_8 (M.pure t170_8)) :=
 (atP_step P X _ _ _).trans (by kernel_rfl)
/-- ratchet/ratchetlaw08.EntryTypes -/
theorem ratchetlaw08_EntryTypes_eq (a0 a1 : PV) : C k_ratchetlaw08_EntryTypes [a0, a1] =
 trunc (M.bind (C k_entry_HeapType [(strip (strip a0)), (strip (strip a1))]) fun t21_0 =>
 M.bind (ex 0 (strip t21_0)) fun t22_1 =>
 M.bind (ex 1 (tupDrop 0 (strip t21_0))) fun t23_2 =>
 M.bind (ex 2 (tupDrop 1 (tupDrop 0 (strip t21_0)))) fun t24_3 =>
 M.bind (C k_ratchetref08_HeapType [(strip (strip a0)), (strip (strip a1))]) fun t28_4 =>
 M.bind (ex 0 (strip t28_4)) fun t29_5 =>
 M.bind (ex 1 (tupDrop 0 (strip t28_4))) fun t30_6 =>
 M.bind (ex 2 (tupDrop 1 (tupDrop 0 (strip t28_4)))) fun t31_7 =>
 M.bind (bi .neq .none (strip t22_1) (strip t29_5)) fun t34_8 =>
 M.bind (gd (strip t34_8) false (M.pure (strip t23_2))) fun t36_9 =>
 M.bind (gd (strip t34_8) false (M.pure (strip t30_6))) fun t37_10 =>
 M.bind (gd (strip t34_8) false (bi .neq .none t36_9 t37_10)) fun t38_11 =>
 M.bind (pick (strip t34_8) (.bool true) t38_11) fun t39_12 =>
 M.bind (gd (strip t39_12) false (M.pure (strip t24_3))) fun t41_13 =>
 M.bind (gd (strip t39_12) false (M.pure (strip t31_7))) fun t42_14 =>
 M.bind (gd (strip t39_12) false (bi .neq .none t41_13 t42_14)) fun t43_15 =>
 M.bind (pick (strip t39_12) (.bool true) t43_15) fun t44_16 =>
 condM t44_16
 (M.pure (.bool false))
 (M.bind (C k_entry_RefType [(strip (strip a0)), (strip (strip a1))]) fun t48_17 =>
 M.bind (ex 0 (strip t48_17)) fun t49_18 =>
 M.bind (ex 1 (tupDrop 0 (strip t48_17))) fun t50_19 =>
 M.bind (ex 2 (tupDrop 1 (tupDrop 0 (strip t48_17)))) fun t51_20 =>
 M.bind (al [(.int .i64 0), (.bool false), (.int .i64 0)]) fun t11_21 =>
 M.bind (st 3 true t11_21 t49_18) fun _ =>
 M.bind (C k_ratchetref08_RefType [(strip (strip a0)), (strip (strip a1))]) fun t55_23 =>
 M.bind (ex 0 (strip t55_23)) fun t56_24 =>
 M.bind (ex 1 (tupDrop 0 (strip t55_23))) fun t57_25 =>
 M.bind (ex 2 (tupDrop 1 (tupDrop 0 (strip t55_23)))) fun t58_26 =>
 M.bind (al [(.int .i64 0), (.bool false), (.int .i64 0)]) fun t12_27 =>
 M.bind (st 3 true t12_27 t56_24) fun _ =>
 M.bind (ld (some 3) false t11_21) fun t59_29 =>
 M.bind (ld (some 3) false t12_27) fun t60_30 =>
 M.bind (bi .neq (.struct [.int, .bool, .int]) t59_29 t60_30) fun t61_31 =>
 M.bind (gd (strip t61_31) false (M.pure (strip t50_19))) fun t63_32 =>
 M.bind (gd (strip t61_31) false (M.pure (strip t57_25))) fun t64_33 =>
 M.bind (gd (strip t61_31) false (bi .neq .none t63_32 t64_33)) fun t65_34 =>
 M.bind (pick (strip t61_31) (.bool true) t65_34) fun t66_35 =>
 M.bind (gd (strip t66_35) false (M.pure (strip t51_20))) fun t68_36 =>
 M.bind (gd (strip t66_35) false (M.pure (strip t58_26))) fun t69_37 =>
 M.bind (gd (strip t66_35) false (bi .neq .none t68_36 t69_37)) fun t70_38 =>
 M.bind (pick (strip t66_35) (.bool true) t70_38) fun t71_39 =>
 condM t71_39
 (M.pure (.bool false))
 (M.bind (C k_entry_ValType [(strip (strip a0)), (strip (strip a1))]) fun t75_40 =>
 M.bind (ex 0 (strip t75_40)) fun t76_41 =>
 M.bind (ex 1 (tupDrop 0 (strip t75_40))) fun t77_42 =>
 M.bind (ex 2 (tupDrop 1 (tupDrop 0 (strip t75_40)))) fun t78_43 =>
 M.bind (st 3 true t11_21 t76_41) fun _ =>
 M.bind (C k_ratchetref08_ValType [(strip (strip a0)), (strip (strip a1))]) fun t82_45 =>
 M.bind (ex 0 (strip t82_45)) fun t83_46 =>
 M.bind (ex 1 (tupDrop 0 (strip t82_45))) fun t84_47 =>
 M.bind (ex 2 (tupDrop 1 (tupDrop 0 (strip t82_45)))) fun t85_48 =>
 M.bind (st 3 true t12_27 t83_46) fun _ =>
 M.bind (ld (some 3) false t11_21) fun t86_50 =>
 M.bind (ld (some 3) false t12_27) fun t87_51 =>
 M.bind (bi .neq (.struct [.int, .bool, .int]) t86_50 t87_51) fun t88_52 =>
 M.bind (gd (strip t88_52) false (M.pure (strip t77_42))) fun t90_53 =>
 M.bind (gd (strip t88_52) false (M.pure (strip t84_47))) fun t91_54 =>
 M.bind (gd (strip t88_52) false (bi .neq .none t90_53 t91_54)) fun t92_55 =>
 M.bind (pick (strip t88_52) (.bool true) t92_55) fun t93_56 =>
 M.bind (gd (strip t93_56) false (M.pure (strip t78_43))) fun t95_57 =>
 M.bind (gd (strip t93_56) false (M.pure (strip t85_48))) fun t96_58 =>
 M.bind (gd (strip t93_56) false (bi .neq .none t95_57 t96_58)) fun t97_59 =>
 M.bind (pick (strip t93_56) (.bool true) t97_59) fun t98_60 =>
 condM t98_60
 (M.pure (.bool false))
 (M.bind (C k_entry_BlockType [(strip (strip a0)), (strip (strip a1))]) fun t102_61 =>
 M.bind (ex 0 (strip t102_61)) fun t103_62 =>
 M.bind (ex 1 (tupDrop 0 (strip t102_61))) fun t104_63 =>
 M.bind (ex 2 (tupDrop 1 (tupDrop 0 (strip t102_61)))) fun t105_64 =>
 M.bind (al [(.int .i64 0), (.int .i64 0), (.bool false), (.int .i64 0)]) fun t13_65 =>
 M.bind (st 4 true t13_65 t103_62) fun _ =>
 M.bind (C k_ratchetref08_BlockType [(strip (strip a0)), (strip (strip a1))]) fun t109_67 =>
 M.bind (ex 0 (strip t109_67)) fun t110_68 =>
 M.bind (ex 1 (tupDrop 0 (strip t109_67))) fun t111_69 =>
 M.bind (ex 2 (tupDrop 1 (tupDrop 0 (strip t109_67)))) fun t112_70 =>
 M.bind (al [(.int .i64 0), (.int .i64 0), (.bool false), (.int .i64 0)]) fun t14_71 =>
 M.bind (st 4 true t14_71 t110_68) fun _ =>
 M.bind (ld (some 4) false t13_65) fun t113_73 =>
 M.bind (ld (some 4) false t14_71) fun t114_74 =>
 M.bind (bi .neq (.struct [.int, .int, .bool, .int]) t113_73 t114_74) fun t115_75 =>
 M.bind (gd (strip t115_75) false (M.pure (strip t104_63))) fun t117_76 =>
 M.bind (gd (strip t115_75) false (M.pure (strip t111_69))) fun t118_77 =>
 M.bind (gd (strip t115_75) false (bi .neq .none t117_76 t118_77)) fun t119_78 =>
 M.bind (pick (strip t115_75) (.bool true) t119_78) fun t120_79 =>
 M.bind (gd (strip t120_79) false (M.pure (strip t105_64))) fun t122_80 =>
 M.bind (gd (strip t120_79) false (M.pure (strip t112_70))) fun t123_81 =>
 M.bind (gd (strip t120_79) false (bi .neq .none t122_80 t123_81)) fun t124_82 =>
 M.bind (pick (strip t120_79) (.bool true) t124_82) fun t125_83 =>
 condM t125_83
 (M.pure (.bool false))
 (M.bind (C k_entry_ValTypes [(strip (strip a0)), (strip (strip a1))]) fun t129_84 =>
 M.bind (ex 0 (strip t129_84)) fun t130_85 =>
 M.bind (ex 1 (tupDrop 0 (strip t129_84))) fun t131_86 =>
 M.bind (ex 2 (tupDrop 1 (tupDrop 0 (strip t129_84)))) fun t132_87 =>
 M.bind (C k_ratchetref08_ValTypes [(strip (strip a0)), (strip (strip a1))]) fun t136_88 =>
 M.bind (ex 0 (strip t136_88)) fun t137_89 =>
 M.bind (ex 1 (tupDrop 0 (strip t136_88))) fun t138_90 =>
 M.bind (ex 2 (tupDrop 1 (tupDrop 0 (strip t136_88)))) fun t139_91 =>
 M.bind (bi .neq .none (strip t131_86) (strip t138_90)) fun t142_92 =>
 M.bind (gd (strip t142_92) false (M.pure (strip t132_87))) fun t144_93 =>
 M.bind (gd (strip t142_92) false (M.pure (strip t139_91))) fun t145_94 =>
 M.bind (gd (strip t142_92) false (bi .neq .none t144_93 t145_94)) fun t146_95 =>
 M.bind (pick (strip t142_92) (.bool true) t146_95) fun t147_96 =>
 M.bind (gd (strip t147_96) false (M.pure (strip t130_85))) fun t149_97 =>
 M.bind (gd (strip t147_96) false (lnL t149_97)) fun t150_98 =>
 M.bind (gd (strip t147_96) false (M.pure (strip t137_89))) fun t151_99 =>
 M.bind (gd (strip t147_96) false (lnL t151_99)) fun t152_100 =>
 M.bind (gd (strip t147_96) false (bi .neq .none t150_98 t152_100)) fun t153_101 =>
 M.bind (pick (strip t147_96) (.bool true) t153_101) fun t154_102 =>
 condM t154_102
 (M.pure (.bool false))
 (p_ratchetlaw08_EntryTypes_1111111111111111010 (.bool false) t130_85 t137_89 (.int .i64 0))))))) := by
 rw [C, callW_eq _ _ rfl]; kernel_rfl
/-- ratchet/ratchetlaw08.EntryGroups -/
theorem ratchetlaw08_EntryGroups_eq (a0 a1 : PV) : C k_ratchetlaw08_EntryGroups [a0, a1] =
 trunc (M.bind (C k_entry_Field [(strip (strip a0)), (strip (strip a1))]) fun t20_0 =>
 M.bind (ex 0 (strip t20_0)) fun t21_1 =>
 M.bind (ex 1 (tupDrop 0 (strip t20_0))) fun t22_2 =>
 M.bind (ex 2 (tupDrop 1 (tupDrop 0 (strip t20_0)))) fun t23_3 =>
 M.bind (al [(.int .i64 0), (.bool false), (.int .i64 0), (.bool false)]) fun t5_4 =>
 M.bind (st 4 true t5_4 t21_1) fun _ =>
 M.bind (C k_ratchetref08_Field [(strip (strip a0)), (strip (strip a1))]) fun t27_6 =>
 M.bind (ex 0 (strip t27_6)) fun t28_7 =>
 M.bind (ex 1 (tupDrop 0 (strip t27_6))) fun t29_8 =>
 M.bind (ex 2 (tupDrop 1 (tupDrop 0 (strip t27_6)))) fun t30_9 =>
 M.bind (al [(.int .i64 0), (.bool false), (.int .i64 0), (.bool false)]) fun t8_10 =>
 M.bind (st 4 true t8_10 t28_7) fun _ =>
 M.bind (ld (some 4) false t5_4) fun t31_12 =>
 M.bind (ld (some 4) false t8_10) fun t32_13 =>
 M.bind (bi .neq (.struct [.int, .bool, .int, .bool]) t31_12 t32_13) fun t33_14 =>
 M.bind (gd (strip t33_14) false (M.pure (strip t22_2))) fun t35_15 =>
 M.bind (gd (strip t33_14) false (M.pure (strip t29_8))) fun t36_16 =>
 M.bind (gd (strip t33_14) false (bi .neq .none t35_15 t36_16)) fun t37_17 =>
 M.bind (pick (strip t33_14) (.bool true) t37_17) fun t38_18 =>
 M.bind (gd (strip t38_18) false (M.pure (strip t23_3))) fun t40_19 =>
 M.bind (gd (strip t38_18) false (M.pure (strip t30_9))) fun t41_20 =>
 M.bind (gd (strip t38_18) false (bi .neq .none t40_19 t41_20)) fun t42_21 =>
 M.bind (pick (strip t38_18) (.bool true) t42_21) fun t43_22 =>
 condM t43_22
 (M.pure (.bool false))
 (M.bind (C k_entry_CompType [(strip (strip a0)), (strip (strip a1))]) fun t47_23 =>
 M.bind (ex 0 (strip t47_23)) fun t48_24 =>
 M.bind (ex 1 (tupDrop 0 (strip t47_23))) fun t49_25 =>
 M.bind (ex 2 (tupDrop 1 (tupDrop 0 (strip t47_23)))) fun t50_26 =>
 M.bind (al [(.int .i64 0), (.slice false true 0 []), (.slice false true 0 []), (.slice false true 0 [])]) fun t11_27 =>
 M.bind (st 4 true t11_27 t48_24) fun _ =>
 M.bind (C k_ratchetref08_CompType [(strip (strip a0)), (strip (strip a1))]) fun t54_29 =>
 M.bind (ex 0 (strip t54_29)) fun t55_30 =>
 M.bind (ex 1 (tupDrop 0 (strip t54_29))) fun t56_31 =>
 M.bind (ex 2 (tupDrop 1 (tupDrop 0 (strip t54_29)))) fun t57_32 =>
 M.bind (al [(.int .i64 0), (.slice false true 0 []), (.slice false true 0 []), (.slice false true 0 [])]) fun t12_33 =>
 M.bind (st 4 true t12_33 t55_30) fun _ =>
 M.bind (bi .neq .none (strip t49_25) (strip t56_31)) fun t60_35 =>
 M.bind (gd (strip t60_35) false (M.pure (strip t50_26))) fun t62_36 =>
 M.bind (gd (strip t60_35) false (M.pure (strip t57_32))) fun t63_37 =>
 M.bind (gd (strip t60_35) false (bi .neq .none t62_36 t63_37)) fun t64_38 =>
 M.bind (pick (strip t60_35) (.bool true) t64_38) fun t65_39 =>
 M.bind (gd (strip t65_39) false (ld (some 4) false t11_27)) fun t67_40 =>
 M.bind (gd (strip t65_39) false (bd [(.bool false), (.slice false true 0 []), (.int .i64 0), (.slice false true 0 []), (.slice false true 0 []), (.slice false true 0 [])] [(2, 4, t67_40)])) fun t68_41 =>
 M.bind (gd (strip t65_39) false (ld (some 4) false t12_33)) fun t69_42 =>
 M.bind (gd (strip t65_39) false (bd [(.bool false), (.slice false true 0 []), (.int .i64 0), (.slice false true 0 []), (.slice false true 0 []), (.slice false true 0 [])] [(2, 4, t69_42)])) fun t70_43 =>
 M.bind (gd (strip t65_39) false (C k_ratchetref05_SameSub [(strip t68_41), (strip t70_43)])) fun t71_44 =>
 M.bind (gd (strip t65_39) false (un .not t71_44)) fun t72_45 =>
 M.bind (pick (strip t65_39) (.bool true) t72_45) fun t73_46 =>
 condM t73_46
 (M.pure (.bool false))
 (M.bind (C k_entry_SubType [(strip (strip a0)), (strip (strip a1))]) fun t77_47 =>
 M.bind (ex 0 (strip t77_47)) fun t78_48 =>
 M.bind (ex 1 (tupDrop 0 (strip t77_47))) fun t79_49 =>
 M.bind (ex 2 (tupDrop 1 (tupDrop 0 (strip t77_47)))) fun t80_50 =>
 M.bind (al [(.bool false), (.slice false true 0 []), (.int .i64 0), (.slice false true 0 []), (.slice false true 0 []), (.slice false true 0 [])]) fun t13_51 =>
 M.bind (st 6 true t13_51 t78_48) fun _ =>
 M.bind (C k_ratchetref08_SubType [(strip (strip a0)), (strip (strip a1))]) fun t84_53 =>
 M.bind (ex 0 (strip t84_53)) fun t85_54 =>
 M.bind (ex 1 (tupDrop 0 (strip t84_53))) fun t86_55 =>
 M.bind (ex 2 (tupDrop 1 (tupDrop 0 (strip t84_53)))) fun t87_56 =>
 M.bind (al [(.bool false), (.slice false true 0 []), (.int .i64 0), (.slice false true 0 []), (.slice false true 0 []), (.slice false true 0 [])]) fun t14_57 =>
 M.bind (st 6 true t14_57 t85_54) fun _ =>
 M.bind (bi .neq .none (strip t79_49) (strip t86_55)) fun t90_59 =>
 M.bind (gd (strip t90_59) false (M.pure (strip t80_50))) fun t92_60 =>
 M.bind (gd (strip t90_59) false (M.pure (strip t87_56))) fun t93_61 =>
 M.bind (gd (strip t90_59) false (bi .neq .none t92_60 t93_61)) fun t94_62 =>
 M.bind (pick (strip t90_59) (.bool true) t94_62) fun t95_63 =>
 M.bind (gd (strip t95_63) false (ld (some 6) false t13_51)) fun t97_64 =>
 M.bind (gd (strip t95_63) false (ld (some 6) false t14_57)) fun t98_65 =>
 M.bind (gd (strip t95_63) false (C k_ratchetref05_SameSub [(strip t97_64), (strip t98_65)])) fun t99_66 =>
 M.bind (gd (strip t95_63) false (un .not t99_66)) fun t100_67 =>
 M.bind (pick (strip t95_63) (.bool true) t100_67) fun t101_68 =>
 condM t101_68
 (M.pure (.bool false))
 (M.bind (C k_entry_RecType [(strip (strip a0)), (strip (strip a1))]) fun t105_69 =>
 M.bind (ex 0 (strip t105_69)) fun t106_70 =>
 M.bind (ex 1 (tupDrop 0 (strip t105_69))) fun t107_71 =>
 M.bind (ex 2 (tupDrop 1 (tupDrop 0 (strip t105_69)))) fun t108_72 =>
 M.bind (al [(.slice false true 0 []), (.bool false)]) fun t15_73 =>
 M.bind (st 2 true t15_73 t106_70) fun _ =>
 M.bind (C k_ratchetref08_RecType [(strip (strip a0)), (strip (strip a1))]) fun t112_75 =>
 M.bind (ex 0 (strip t112_75)) fun t113_76 =>
 M.bind (ex 1 (tupDrop 0 (strip t112_75))) fun t114_77 =>
 M.bind (ex 2 (tupDrop 1 (tupDrop 0 (strip t112_75)))) fun t115_78 =>
 M.bind (al [(.slice false true 0 []), (.bool false)]) fun t16_79 =>
 M.bind (st 2 true t16_79 t113_76) fun _ =>
 M.bind (bi .eql .none (strip t107_71) (strip t114_77)) fun t118_81 =>
 M.bind (gd (strip t118_81) true (M.pure (strip t108_72))) fun t120_82 =>
 M.bind (gd (strip t118_81) true (M.pure (strip t115_78))) fun t121_83 =>
 M.bind (gd (strip t118_81) true (bi .eql .none t120_82 t121_83)) fun t122_84 =>
 M.bind (pick (strip t118_81) t122_84 (.bool false)) fun t123_85 =>
 M.bind (gd (strip t123_85) true (ld (some 2) false t15_73)) fun t125_86 =>
 M.bind (gd (strip t123_85) true (ld (some 2) false t16_79)) fun t126_87 =>
 M.bind (gd (strip t123_85) true (C k_ratchetref05_SameRec [(strip t125_86), (strip t126_87)])) fun t127_88 =>
 M.bind (pick (strip t123_85) t127_88 (.bool false)) fun t128_89 =>
 M.bind (gd (strip t128_89) true (C k_ratchetlaw08_awake [])) fun t130_90 =>
 M.bind (pick (strip t128_89) t130_90 (.bool false)) fun t131_91 =>
 resT t131_91 (M.pure t131_91))))) := by
 rw [C, callW_eq _ _ rfl]; kernel_rfl
/-- ratchet/entry.PutValType -/
theorem entry_PutValType_eq (a0 : PV) : C k_entry_PutValType [a0] =
 trunc (M.bind (bx 3 a0) fun t1_0 =>
 M.bind (mf k_entry_PutValType_1 [] [t1_0]) fun t4_1 =>
 M.bind (C k_entry_write [(strip t4_1)]) fun t5_2 =>
 M.bind (ex 0 t5_2) fun t6_3 =>
 M.bind (ex 1 (tupDrop 0 t5_2)) fun t7_4 =>
 resT t6_3 (resT t7_4 (M.pure (.tup [t6_3, t7_4])))) := by
 rw [C, callW_eq _ _ rfl]; kernel_rfl
/-- ratchet/ratchetlaw08.awake -/
theorem ratchetlaw08_awake_eq : C k_ratchetlaw08_awake [] =
 trunc (M.bind (bd [(.int .i64 0), (.bool false), (.int .i64 0)] [(0, 1, (.int .i64 1))]) fun t4_0 =>
 M.bind (C k_entry_PutValType [(strip t4_0)]) fun t5_1 =>
 M.bind (ex 0 (strip t5_1)) fun t6_2 =>
 M.bind (ex 1 (tupDrop 0 (strip t5_1))) fun t7_3 =>
 M.bind (bi .eql .none (strip t7_3) (.int .i64 0)) fun t9_4 =>
 M.bind (gd (strip t9_4) true (M.pure (strip t6_2))) fun t11_5 =>
 M.bind (gd (strip t9_4) true (cv .bytesToStr true t11_5)) fun t12_6 =>
 M.bind (gd (strip t9_4) true (bi .eql .none t12_6 (.str ⟨#[127]⟩))) fun t13_7 =>
 M.bind (pick (strip t9_4) t13_7 (.bool false)) fun t14_8 =>
 resT t14_8 (M.pure t14_8)) := by
 rw [C, callW_eq _ _ rfl]; kernel_rfl
/-- ratchet/entry.HeapType -/
theorem entry_HeapType_eq (a0 a1 : PV) : C k_entry_HeapType [a0, a1] =
 trunc (M.bind (C k_entry_read_int [(strip (strip a0)), (strip (strip a1)), (.fn k_entry_cursor_heap [] [])]) fun t9_0 =>
 M.bind (ex 0 t9_0) fun t10_1 =>
 M.bind (ex 1 (tupDrop 0 t9_0)) fun t11_2 =>
 M.bind (ex 2 (tupDrop 1 (tupDrop 0 t9_0))) fun t12_3 =>
 resT t10_1 (resT t11_2 (resT t12_3 (M.pure (.tup [t10_1, t11_2, t12_3]))))) := by
 rw [C, callW_eq _ _ rfl]; kernel_rfl
/-- ratchet/ratchetref08.HeapType -/
theorem ratchetref08_HeapType_eq (a0 a1 : PV) : C k_ratchetref08_HeapType [a0, a1] =
 trunc (M.bind (C k_ratchetref08_begin [(strip (strip a0)), (strip (strip a1))]) fun t15_0 =>
 M.bind (ex 0 (strip t15_0)) fun t16_1 =>
 M.bind (ex 1 (tupDrop 0 (strip t15_0))) fun t17_2 =>
 M.bind (un .not (strip t17_2)) fun t19_3 =>
 condM t19_3
 (M.pure (.tup [(.int .i64 0), (.int .i64 0), (.int .i64 1)]))
 (M.bind (C k_ratchetref08_reading_heap [(strip (strip t16_1))]) fun t21_4 =>
 M.bind (C k_ratchetref08_reading_end [(strip (strip t16_1))]) fun t24_5 =>
 M.bind (ex 0 (strip t24_5)) fun t25_6 =>
 M.bind (ex 1 (tupDrop 0 (strip t24_5))) fun t26_7 =>
 M.bind (bi .neq .none (strip t26_7) (.int .i64 0)) fun t28_8 =>
 condM t28_8
 (resT t25_6 (resT t26_7 (M.pure (.tup [(.int .i64 0), t25_6, t26_7]))))
 (resT t21_4 (resT t25_6 (M.pure (.tup [t21_4, t25_6, (.int .i64 0)])))))) := by
 rw [C, callW_eq _ _ rfl]; kernel_rfl
/-- ratchet/entry.RefType -/
theorem entry_RefType_eq (a0 a1 : PV) : C k_entry_RefType [a0, a1] =
 trunc (M.bind (al [(.int .i64 0), (.bool false), (.int .i64 0)]) fun t4_0 =>
 M.bind (C k_entry_read_api_ValType [(strip (strip a0)), (strip (strip a1)), (.fn k_entry_cursor_ref [] [])]) fun t9_1 =>
 M.bind (ex 0 t9_1) fun t10_2 =>
 M.bind (ex 1 (tupDrop 0 t9_1)) fun t11_3 =>
 M.bind (ex 2 (tupDrop 1 (tupDrop 0 t9_1))) fun t12_4 =>
 M.bind (st 3 true t4_0 t10_2) fun _ =>
 M.bind (ld (some 3) true t4_0) fun t0_6 => guardM (!isTup t0_6) (resT t11_3 (resT t12_4 (M.pure (.tup [t0_6, t11_3, t12_4]))))) := by
 rw [C, callW_eq _ _ rfl]; kernel_rfl
/-- ratchet/ratchetref08.RefType -/
theorem ratchetref08_RefType_eq (a0 a1 : PV) : C k_ratchetref08_RefType [a0, a1] =
 trunc (M.bind (al [(.int .i64 0), (.bool false), (.int .i64 0)]) fun t4_0 =>
 M.bind (C k_ratchetref08_valAt [(strip (strip a0)), (strip (strip a1)), (.bool false)]) fun t9_1 =>
 M.bind (ex 0 t9_1) fun t10_2 =>
 M.bind (ex 1 (tupDrop 0 t9_1)) fun t11_3 =>
 M.bind (ex 2 (tupDrop 1 (tupDrop 0 t9_1))) fun t12_4 =>
 M.bind (st 3 true t4_0 t10_2) fun _ =>
 M.bind (ld (some 3) true t4_0) fun t0_6 => guardM (!isTup t0_6) (resT t11_3 (resT t12_4 (M.pure (.tup [t0_6, t11_3, t12_4]))))) := by
 rw [C, callW_eq _ _ rfl]; kernel_rfl
/-- ratchet/entry.ValType -/
theorem entry_ValType_eq (a0 a1 : PV) : C k_entry_ValType [a0, a1] =
 trunc (M.bind (al [(.int .i64 0), (.bool false), (.int .i64 0)]) fun t4_0 =>
 M.bind (C k_entry_read_api_ValType [(strip (strip a0)), (strip (strip a1)), (.fn k_entry_cursor_val [] [])]) fun t9_1 =>
 M.bind (ex 0 t9_1) fun t10_2 =>
 M.bind (ex 1 (tupDrop 0 t9_1)) fun t11_3 =>
 M.bind (ex 2 (tupDrop 1 (tupDrop 0 t9_1))) fun t12_4 =>
 M.bind (st 3 true t4_0 t10_2) fun _ =>
 M.bind (ld (some 3) true t4_0) fun t0_6 => guardM (!isTup t0_6) (resT t11_3 (resT t12_4 (M.pure (.tup [t0_6, t11_3, t12_4]))))) := by
 rw [C, callW_eq _ _ rfl]; kernel_rfl
/-- ratchet/ratchetref08.ValType -/
theorem ratchetref08_ValType_eq (a0 a1 : PV) : C k_ratchetref08_ValType [a0, a1] =
 trunc (M.bind (al [(.int .i64 0), (.bool false), (.int .i64 0)]) fun t4_0 =>
 M.bind (C k_ratchetref08_valAt [(strip (strip a0)), (strip (strip a1)), (.bool true)]) fun t9_1 =>
 M.bind (ex 0 t9_1) fun t10_2 =>
 M.bind (ex 1 (tupDrop 0 t9_1)) fun t11_3 =>
 M.bind (ex 2 (tupDrop 1 (tupDrop 0 t9_1))) fun t12_4 =>
 M.bind (st 3 true t4_0 t10_2) fun _ =>
 M.bind (ld (some 3) true t4_0) fun t0_6 => guardM (!isTup t0_6) (resT t11_3 (resT t12_4 (M.pure (.tup [t0_6, t11_3, t12_4]))))) := by
 rw [C, callW_eq _ _ rfl]; kernel_rfl
/-- ratchet/entry.BlockType -/
theorem entry_BlockType_eq (a0 a1 : PV) : C k_entry_BlockType [a0, a1] =
 trunc (M.bind (al [(.int .i64 0), (.int .i64 0), (.bool false), (.int .i64 0)]) fun t4_0 =>
 M.bind (C k_entry_read_api_Block [(strip (strip a0)), (strip (strip a1)), (.fn k_entry_cursor_block [] [])]) fun t9_1 =>
 M.bind (ex 0 t9_1) fun t10_2 =>
 M.bind (ex 1 (tupDrop 0 t9_1)) fun t11_3 =>
 M.bind (ex 2 (tupDrop 1 (tupDrop 0 t9_1))) fun t12_4 =>
 M.bind (st 4 true t4_0 t10_2) fun _ =>
 M.bind (ld (some 4) true t4_0) fun t0_6 => guardM (!isTup t0_6) (resT t11_3 (resT t12_4 (M.pure (.tup [t0_6, t11_3, t12_4]))))) := by
 rw [C, callW_eq _ _ rfl]; kernel_rfl
/-- ratchet/ratchetref08.BlockType -/
theorem ratchetref08_BlockType_eq (a0 a1 : PV) : C k_ratchetref08_BlockType [a0, a1] =
 trunc (M.bind (al [(.int .i64 0), (.int .i64 0), (.bool false), (.int .i64 0)]) fun t4_0 =>
 M.bind (C k_ratchetref08_begin [(strip (strip a0)), (strip (strip a1))]) fun t15_1 =>
 M.bind (ex 0 (strip t15_1)) fun t16_2 =>
 M.bind (ex 1 (tupDrop 0 (strip t15_1))) fun t17_3 =>
 M.bind (un .not (strip t17_3)) fun t19_4 =>
 condM t19_4
 (M.bind (bd [(.int .i64 0), (.int .i64 0), (.bool false), (.int .i64 0)] []) fun t20_5 =>
 M.bind (st 4 true t4_0 t20_5) fun _ =>
 M.bind (ld (some 4) true t4_0) fun t0_7 => guardM (!isTup t0_7) (M.pure (.tup [t0_7, (.int .i64 0), (.int .i64 1)])))
 (M.bind (C k_ratchetref08_reading_block [(strip (strip t16_2))]) fun t22_8 =>
 M.bind (al [(.int .i64 0), (.int .i64 0), (.bool false), (.int .i64 0)]) fun t9_9 =>
 M.bind (st 4 true t9_9 t22_8) fun _ =>
 M.bind (C k_ratchetref08_reading_end [(strip (strip t16_2))]) fun t25_11 =>
 M.bind (ex 0 (strip t25_11)) fun t26_12 =>
 M.bind (ex 1 (tupDrop 0 (strip t25_11))) fun t27_13 =>
 M.bind (bi .neq .none (strip t27_13) (.int .i64 0)) fun t29_14 =>
 condM t29_14
 (M.bind (bd [(.int .i64 0), (.int .i64 0), (.bool false), (.int .i64 0)] []) fun t30_15 =>
 M.bind (st 4 true t4_0 t30_15) fun _ =>
 M.bind (ld (some 4) true t4_0) fun t0_17 => guardM (!isTup t0_17) (resT t26_12 (resT t27_13 (M.pure (.tup [t0_17, t26_12, t27_13])))))
 (M.bind (ld (some 4) true t9_9) fun t33_18 =>
 M.bind (st 4 true t4_0 t33_18) fun _ =>
 M.bind (ld (some 4) true t4_0) fun t0_20 => guardM (!isTup t0_20) (resT t26_12 (M.pure (.tup [t0_20, t26_12, (.int .i64 0)])))))) := by
 rw [C, callW_eq _ _ rfl]; kernel_rfl
/-- ratchet/entry.ValTypes -/
theorem entry_ValTypes_eq (a0 a1 : PV) : C k_entry_ValTypes [a0, a1] =
 trunc (M.bind (C k_entry_read_L_api_ValType [(strip (strip a0)), (strip (strip a1)), (.fn k_entry_cursor_vals [] [])]) fun t9_0 =>
 M.bind (ex 0 t9_0) fun t10_1 =>
 M.bind (ex 1 (tupDrop 0 t9_0)) fun t11_2 =>
 M.bind (ex 2 (tupDrop 1 (tupDrop 0 t9_0))) fun t12_3 =>
 resT t10_1 (resT t11_2 (resT t12_3 (M.pure (.tup [t10_1, t11_2, t12_3]))))) := by
 rw [C, callW_eq _ _ rfl]; kernel_rfl
/-- ratchet/ratchetref08.ValTypes -/
theorem ratchetref08_ValTypes_eq (a0 a1 : PV) : C k_ratchetref08_ValTypes [a0, a1] =
 trunc (M.bind (C k_ratchetref08_begin [(strip (strip a0)), (strip (strip a1))]) fun t15_0 =>
 M.bind (ex 0 (strip t15_0)) fun t16_1 =>
 M.bind (ex 1 (tupDrop 0 (strip t15_0))) fun t17_2 =>
 M.bind (un .not (strip t17_2)) fun t19_3 =>
 condM t19_3
 (M.pure (.tup [(.slice false true 0 []), (.int .i64 0), (.int .i64 1)]))
 (M.bind (C k_ratchetref08_reading_vals [(strip (strip t16_1))]) fun t21_4 =>
 M.bind (C k_ratchetref08_reading_end [(strip (strip t16_1))]) fun t24_5 =>
 M.bind (ex 0 (strip t24_5)) fun t25_6 =>
 M.bind (ex 1 (tupDrop 0 (strip t24_5))) fun t26_7 =>
 M.bind (bi .neq .none (strip t26_7) (.int .i64 0)) fun t28_8 =>
 condM t28_8
 (resT t25_6 (resT t26_7 (M.pure (.tup [(.slice false true 0 []), t25_6, t26_7]))))
 (resT t21_4 (resT t25_6 (M.pure (.tup [t21_4, t25_6, (.int .i64 0)])))))) := by
 rw [C, callW_eq _ _ rfl]; kernel_rfl
/-- ratchet/entry.Field -/
theorem entry_Field_eq (a0 a1 : PV) : C k_entry_Field [a0, a1] =
 trunc (M.bind (al [(.int .i64 0), (.bool false), (.int .i64 0), (.bool false)]) fun t4_0 =>
 M.bind (C k_entry_read_api_Field [(strip (strip a0)), (strip (strip a1)), (.fn k_entry_cursor_field [] [])]) fun t9_1 =>
 M.bind (ex 0 t9_1) fun t10_2 =>
 M.bind (ex 1 (tupDrop 0 t9_1)) fun t11_3 =>
 M.bind (ex 2 (tupDrop 1 (tupDrop 0 t9_1))) fun t12_4 =>
 M.bind (st 4 true t4_0 t10_2) fun _ =>
 M.bind (ld (some 4) true t4_0) fun t0_6 => guardM (!isTup t0_6) (resT t11_3 (resT t12_4 (M.pure (.tup [t0_6, t11_3, t12_4]))))) := by
 rw [C, callW_eq _ _ rfl]; kernel_rfl
/-- ratchet/ratchetref08.Field -/
theorem ratchetref08_Field_eq (a0 a1 : PV) : C k_ratchetref08_Field [a0, a1] =
 trunc (M.bind (al [(.int .i64 0), (.bool false), (.int .i64 0), (.bool false)]) fun t4_0 =>
 M.bind (C k_ratchetref08_begin [(strip (strip a0)), (strip (strip a1))]) fun t15_1 =>
 M.bind (ex 0 (strip t15_1)) fun t16_2 =>
 M.bind (ex 1 (tupDrop 0 (strip t15_1))) fun t17_3 =>
 M.bind (un .not (strip t17_3)) fun t19_4 =>
 condM t19_4
 (M.bind (bd [(.int .i64 0), (.bool false), (.int .i64 0), (.bool false)] []) fun t20_5 =>
 M.bind (st 4 true t4_0 t20_5) fun _ =>
 M.bind (ld (some 4) true t4_0) fun t0_7 => guardM (!isTup t0_7) (M.pure (.tup [t0_7, (.int .i64 0), (.int .i64 1)])))
 (M.bind (C k_ratchetref08_reading_field [(strip (strip t16_2))]) fun t22_8 =>
 M.bind (al [(.int .i64 0), (.bool false), (.int .i64 0), (.bool false)]) fun t9_9 =>
 M.bind (st 4 true t9_9 t22_8) fun _ =>
 M.bind (C k_ratchetref08_reading_end [(strip (strip t16_2))]) fun t25_11 =>
 M.bind (ex 0 (strip t25_11)) fun t26_12 =>
 M.bind (ex 1 (tupDrop 0 (strip t25_11))) fun t27_13 =>
 M.bind (bi .neq .none (strip t27_13) (.int .i64 0)) fun t29_14 =>
 condM t29_14
 (M.bind (bd [(.int .i64 0), (.bool false), (.int .i64 0), (.bool false)] []) fun t30_15 =>
 M.bind (st 4 true t4_0 t30_15) fun _ =>
 M.bind (ld (some 4) true t4_0) fun t0_17 => guardM (!isTup t0_17) (resT t26_12 (resT t27_13 (M.pure (.tup [t0_17, t26_12, t27_13])))))
 (M.bind (ld (some 4) true t9_9) fun t33_18 =>
 M.bind (st 4 true t4_0 t33_18) fun _ =>
 M.bind (ld (some 4) true t4_0) fun t0_20 => guardM (!isTup t0_20) (resT t26_12 (M.pure (.tup [t0_20, t26_12, (.int .i64 0)])))))) := by
 rw [C, callW_eq _ _ rfl]; kernel_rfl
/-- ratchet/entry.CompType -/
theorem entry_CompType_eq (a0 a1 : PV) : C k_entry_CompType [a0, a1] =
 trunc (M.bind (al [(.int .i64 0), (.slice false true 0 []), (.slice false true 0 []), (.slice false true 0 [])]) fun t4_0 =>
 M.bind (C k_entry_read_api_CompType [(strip (strip a0)), (strip (strip a1)), (.fn k_entry_cursor_comp [] [])]) fun t9_1 =>
 M.bind (ex 0 t9_1) fun t10_2 =>
 M.bind (ex 1 (tupDrop 0 t9_1)) fun t11_3 =>
 M.bind (ex 2 (tupDrop 1 (tupDrop 0 t9_1))) fun t12_4 =>
 M.bind (st 4 true t4_0 t10_2) fun _ =>
 M.bind (ld (some 4) true t4_0) fun t0_6 => guardM (!isTup t0_6) (resT t11_3 (resT t12_4 (M.pure (.tup [t0_6, t11_3, t12_4]))))) := by
 rw [C, callW_eq _ _ rfl]; kernel_rfl
/-- ratchet/ratchetref08.CompType -/
theorem ratchetref08_CompType_eq (a0 a1 : PV) : C k_ratchetref08_CompType [a0, a1] =
 trunc (M.bind (al [(.int .i64 0), (.slice false true 0 []), (.slice false true 0 []), (.slice false true 0 [])]) fun t4_0 =>
 M.bind (C k_ratchetref08_begin [(strip (strip a0)), (strip (strip a1))]) fun t15_1 =>
 M.bind (ex 0 (strip t15_1)) fun t16_2 =>
 M.bind (ex 1 (tupDrop 0 (strip t15_1))) fun t17_3 =>
 M.bind (un .not (strip t17_3)) fun t19_4 =>
 condM t19_4
 (M.bind (bd [(.int .i64 0), (.slice false true 0 []), (.slice false true 0 []), (.slice false true 0 [])] []) fun t20_5 =>
 M.bind (st 4 true t4_0 t20_5) fun _ =>
 M.bind (ld (some 4) true t4_0) fun t0_7 => guardM (!isTup t0_7) (M.pure (.tup [t0_7, (.int .i64 0), (.int .i64 1)])))
 (M.bind (C k_ratchetref08_reading_comp [(strip (strip t16_2))]) fun t22_8 =>
 M.bind (al [(.int .i64 0), (.slice false true 0 []), (.slice false true 0 []), (.slice false true 0 [])]) fun t9_9 =>
 M.bind (st 4 true t9_9 t22_8) fun _ =>
 M.bind (C k_ratchetref08_reading_end [(strip (strip t16_2))]) fun t25_11 =>
 M.bind (ex 0 (strip t25_11)) fun t26_12 =>
 M.bind (ex 1 (tupDrop 0 (strip t25_11))) fun t27_13 =>
 M.bind (bi .neq .none (strip t27_13) (.int .i64 0)) fun t29_14 =>
 condM t29_14
 (M.bind (bd [(.int .i64 0), (.slice false true 0 []), (.slice false true 0 []), (.slice false true 0 [])] []) fun t30_15 =>
 M.bind (st 4 true t4_0 t30_15) fun _ =>
 M.bind (ld (some 4) true t4_0) fun t0_17 => guardM (!isTup t0_17) (resT t26_12 (resT t27_13 (M.pure (.tup [t0_17, t26_12, t27_13])))))
 (M.bind (ld (some 4) true t9_9) fun t33_18 =>
 M.bind (st 4 true t4_0 t33_18) fun _ =>
 M.bind (ld (some 4) true t4_0) fun t0_20 => guardM (!isTup t0_20) (resT t26_12 (M.pure (.tup [t0_20, t26_12, (.int .i64 0)])))))) := by
 rw [C, callW_eq _ _ rfl]; kernel_rfl
noncomputable def p_ratchetref05_SameSub_11010 (v2 v3 v4 v5 : PV) : M PV := atP P X k_ratchetref05_SameSub [1, 1, 0, 1, 0] (mkEnv 72 0 [(2, v2), (3, v3), (4, v4), (5, v5)])
theorem p_ratchetref05_SameSub_11010_eq (v2 v3 v4 v5 : PV) : p_ratchetref05_SameSub_11010 v2 v3 v4 v5 =
 M.bind (fa 1 v2) fun t30_0 =>
 M.bind (ld none false t30_0) fun t31_1 =>
 M.bind (lnL t31_1) fun t32_2 =>
 M.bind (bi .lss .none (strip v5) t32_2) fun t33_3 =>
 condM t33_3
 (nb (fa 1 v2) fun t36_4 =>
 nb (ld none false t36_4) fun t37_5 =>
 nb (iaS 1 t37_5 (strip v5)) fun t39_6 =>
 nb (ld none false t39_6) fun t40_7 =>
 nb (fa 1 v3) fun t41_8 =>
 nb (ld none false t41_8) fun t42_9 =>
 nb (iaS 1 t42_9 (strip v5)) fun t44_10 =>
 nb (ld none false t44_10) fun t45_11 =>
 nb (bi .neq .none t40_7 t45_11) fun t46_12 =>
 condM t46_12
 (M.pure (.bool false))
 (M.bind (bi .add .none (strip v5) (.int .i64 1)) fun t35_13 =>
 p_ratchetref05_SameSub_11010 v2 v3 v4 t35_13))
 (M.bind (fa 2 v2) fun t47_14 =>
 M.bind (fa 1 t47_14) fun t48_15 =>
 M.bind (ld none false t48_15) fun t49_16 =>
 M.bind (fa 2 v3) fun t50_17 =>
 M.bind (fa 1 t50_17) fun t51_18 =>
 M.bind (ld none false t51_18) fun t52_19 =>
 M.bind (C k_ratchetref05_SameVals [(strip t49_16), (strip t52_19)]) fun t53_20 =>
 M.bind (gd (strip t53_20) true (fa 2 v2)) fun t55_21 =>
 M.bind (gd (strip t53_20) true (fa 2 t55_21)) fun t56_22 =>
 M.bind (gd (strip t53_20) true (ld none false t56_22)) fun t57_23 =>
 M.bind (gd (strip t53_20) true (fa 2 v3)) fun t58_24 =>
 M.bind (gd (strip t53_20) true (fa 2 t58_24)) fun t59_25 =>
 M.bind (gd (strip t53_20) true (ld none false t59_25)) fun t60_26 =>
 M.bind (gd (strip t53_20) true (C k_ratchetref05_SameVals [(strip t57_23), (strip t60_26)])) fun t61_27 =>
 M.bind (pick (strip t53_20) t61_27 (.bool false)) fun t62_28 =>
 M.bind (gd (strip t62_28) true (fa 2 v2)) fun t64_29 =>
 M.bind (gd (strip t62_28) true (fa 3 t64_29)) fun t65_30 =>
 M.bind (gd (strip t62_28) true (ld none false t65_30)) fun t66_31 =>
 M.bind (gd (strip t62_28) true (fa 2 v3)) fun t67_32 =>
 M.bind (gd (strip t62_28) true (fa 3 t67_32)) fun t68_33 =>
 M.bind (gd (strip t62_28) true (ld none false t68_33)) fun t69_34 =>
 M.bind (gd (strip t62_28) true (C k_ratchetref05_sameFields [(strip t66_31), (strip t69_34)])) fun t70_35 =>
 M.bind (pick (strip t62_28) t70_35 (.bool false)) fun t71_36 =>
 resT t71_36 (M.pure t71_36)) :=
 (atP_step P X _ _ _).trans (by kernel_rfl)
/-- ratchet/ratchetref05.SameSub -/
theorem ratchetref05_SameSub_eq (a0 a1 : PV) : C k_ratchetref05_SameSub [a0, a1] =
 trunc (M.bind (bx 6 a0) fun t2_0 =>
 M.bind (bx 6 a1) fun t3_1 =>
 M.bind (fa 0 t2_0) fun t6_2 =>
 M.bind (ld none false t6_2) fun t7_3 =>
 M.bind (fa 0 t3_1) fun t8_4 =>
 M.bind (ld none false t8_4) fun t9_5 =>
 M.bind (bi .neq .bool t7_3 t9_5) fun t10_6 =>
 M.bind (gd (strip t10_6) false (fa 1 t2_0)) fun t12_7 =>
 M.bind (gd (strip t10_6) false (ld none false t12_7)) fun t13_8 =>
 M.bind (gd (strip t10_6) false (lnL t13_8)) fun t14_9 =>
 M.bind (gd (strip t10_6) false (fa 1 t3_1)) fun t15_10 =>
 M.bind (gd (strip t10_6) false (ld none false t15_10)) fun t16_11 =>
 M.bind (gd (strip t10_6) false (lnL t16_11)) fun t17_12 =>
 M.bind (gd (strip t10_6) false (bi .neq .none t14_9 t17_12)) fun t18_13 =>
 M.bind (pick (strip t10_6) (.bool true) t18_13) fun t19_14 =>
 M.bind (gd (strip t19_14) false (fa 2 t2_0)) fun t21_15 =>
 M.bind (gd (strip t19_14) false (fa 0 t21_15)) fun t22_16 =>
 M.bind (gd (strip t19_14) false (ld none false t22_16)) fun t23_17 =>
 M.bind (gd (strip t19_14) false (fa 2 t3_1)) fun t24_18 =>
 M.bind (gd (strip t19_14) false (fa 0 t24_18)) fun t25_19 =>
 M.bind (gd (strip t19_14) false (ld none false t25_19)) fun t26_20 =>
 M.bind (gd (strip t19_14) false (bi .neq .none t23_17 t26_20)) fun t27_21 =>
 M.bind (pick (strip t19_14) (.bool true) t27_21) fun t28_22 =>
 condM t28_22
 (M.pure (.bool false))
 (p_ratchetref05_SameSub_11010 t2_0 t3_1 (.bool false) (.int .i64 0))) := by
 rw [C, callW_eq _ _ rfl]; kernel_rfl
/-- ratchet/entry.SubType -/
theorem entry_SubType_eq (a0 a1 : PV) : C k_entry_SubType [a0, a1] =
 trunc (M.bind (al [(.bool false), (.slice false true 0 []), (.int .i64 0), (.slice false true 0 []), (.slice false true 0 []), (.slice false true 0 [])]) fun t4_0 =>
 M.bind (C k_entry_read_api_SubType [(strip (strip a0)), (strip (strip a1)), (.fn k_entry_cursor_sub [] [])]) fun t9_1 =>
 M.bind (ex 0 t9_1) fun t10_2 =>
 M.bind (ex 1 (tupDrop 0 t9_1)) fun t11_3 =>
 M.bind (ex 2 (tupDrop 1 (tupDrop 0 t9_1))) fun t12_4 =>
 M.bind (st 6 true t4_0 t10_2) fun _ =>
 M.bind (ld (some 6) true t4_0) fun t0_6 => guardM (!isTup t0_6) (resT t11_3 (resT t12_4 (M.pure (.tup [t0_6, t11_3, t12_4]))))) := by
 rw [C, callW_eq _ _ rfl]; kernel_rfl
/-- ratchet/ratchetref08.SubType -/
theorem ratchetref08_SubType_eq (a0 a1 : PV) : C k_ratchetref08_SubType [a0, a1] =
 trunc (M.bind (al [(.bool false), (.slice false true 0 []), (.int .i64 0), (.slice false true 0 []), (.slice false true 0 []), (.slice false true 0 [])]) fun t4_0 =>
 M.bind (C k_ratchetref08_begin [(strip (strip a0)), (strip (strip a1))]) fun t15_1 =>
 M.bind (ex 0 (strip t15_1)) fun t16_2 =>
 M.bind (ex 1 (tupDrop 0 (strip t15_1))) fun t17_3 =>
 M.bind (un .not (strip t17_3)) fun t19_4 =>
 condM t19_4
 (M.bind (bd [(.bool false), (.slice false true 0 []), (.int .i64 0), (.slice false true 0 []), (.slice false true 0 []), (.slice false true 0 [])] []) fun t20_5 =>
 M.bind (st 6 true t4_0 t20_5) fun _ =>
 M.bind (ld (some 6) true t4_0) fun t0_7 => guardM (!isTup t0_7) (M.pure (.tup [t0_7, (.int .i64 0), (.int .i64 1)])))
 (M.bind (C k_ratchetref08_reading_sub [(strip (strip t16_2))]) fun t22_8 =>
 M.bind (al [(.bool false), (.slice false true 0 []), (.int .i64 0), (.slice false true 0 []), (.slice false true 0 []), (.slice false true 0 [])]) fun t9_9 =>
 M.bind (st 6 true t9_9 t22_8) fun _ =>
 M.bind (C k_ratchetref08_reading_end [(strip (strip t16_2))]) fun t25_11 =>
 M.bind (ex 0 (strip t25_11)) fun t26_12 =>
 M.bind (ex 1 (tupDrop 0 (strip t25_11))) fun t27_13 =>
 M.bind (bi .neq .none (strip t27_13) (.int .i64 0)) fun t29_14 =>
 condM t29_14
 (M.bind (bd [(.bool false), (.slice false true 0 []), (.int .i64 0), (.slice false true 0 []), (.slice false true 0 []), (.slice false true 0 [])] []) fun t30_15 =>
 M.bind (st 6 true t4_0 t30_15) fun _ =>
 M.bind (ld (some 6) true t4_0) fun t0_17 => guardM (!isTup t0_17) (resT t26_12 (resT t27_13 (M.pure (.tup [t0_17, t26_12, t27_13])))))
 (M.bind (ld (some 6) true t9_9) fun t33_18 =>
 M.bind (st 6 true t4_0 t33_18) fun _ =>
 M.bind (ld (some 6) true t4_0) fun t0_20 => guardM (!isTup t0_20) (resT t26_12 (M.pure (.tup [t0_20, t26_12, (.int .i64 0)])))))) := by
 rw [C, callW_eq _ _ rfl]; kernel_rfl
/-- ratchet/entry.RecType -/
theorem entry_RecType_eq (a0 a1 : PV) : C k_entry_RecType [a0, a1] =
 trunc (M.bind (al [(.slice false true 0 []), (.bool false)]) fun t4_0 =>
 M.bind (C k_entry_read_api_RecType [(strip (strip a0)), (strip (strip a1)), (.fn k_entry_cursor_rec [] [])]) fun t9_1 =>
 M.bind (ex 0 t9_1) fun t10_2 =>
 M.bind (ex 1 (tupDrop 0 t9_1)) fun t11_3 =>
 M.bind (ex 2 (tupDrop 1 (tupDrop 0 t9_1))) fun t12_4 =>
 M.bind (st 2 true t4_0 t10_2) fun _ =>
 M.bind (ld (some 2) true t4_0) fun t0_6 => guardM (!isTup t0_6) (resT t11_3 (resT t12_4 (M.pure (.tup [t0_6, t11_3, t12_4]))))) := by
 rw [C, callW_eq _ _ rfl]; kernel_rfl
/-- ratchet/ratchetref08.RecType -/
theorem ratchetref08_RecType_eq (a0 a1 : PV) : C k_ratchetref08_RecType [a0, a1] =
 trunc (M.bind (al [(.slice false true 0 []), (.bool false)]) fun t4_0 =>
 M.bind (C k_ratchetref08_begin [(strip (strip a0)), (strip (strip a1))]) fun t15_1 =>
 M.bind (ex 0 (strip t15_1)) fun t16_2 =>
 M.bind (ex 1 (tupDrop 0 (strip t15_1))) fun t17_3 =>
 M.bind (un .not (strip t17_3)) fun t19_4 =>
 condM t19_4
 (M.bind (bd [(.slice false true 0 []), (.bool false)] []) fun t20_5 =>
 M.bind (st 2 true t4_0 t20_5) fun _ =>
 M.bind (ld (some 2) true t4_0) fun t0_7 => guardM (!isTup t0_7) (M.pure (.tup [t0_7, (.int .i64 0), (.int .i64 1)])))
 (M.bind (C k_ratchetref08_reading_rec [(strip (strip t16_2))]) fun t22_8 =>
 M.bind (al [(.slice false true 0 []), (.bool false)]) fun t9_9 =>
 M.bind (st 2 true t9_9 t22_8) fun _ =>
 M.bind (C k_ratchetref08_reading_end [(strip (strip t16_2))]) fun t25_11 =>
 M.bind (ex 0 (strip t25_11)) fun t26_12 =>
 M.bind (ex 1 (tupDrop 0 (strip t25_11))) fun t27_13 =>
 M.bind (bi .neq .none (strip t27_13) (.int .i64 0)) fun t29_14 =>
 condM t29_14
 (M.bind (bd [(.slice false true 0 []), (.bool false)] []) fun t30_15 =>
 M.bind (st 2 true t4_0 t30_15) fun _ =>
 M.bind (ld (some 2) true t4_0) fun t0_17 => guardM (!isTup t0_17) (resT t26_12 (resT t27_13 (M.pure (.tup [t0_17, t26_12, t27_13])))))
 (M.bind (ld (some 2) true t9_9) fun t33_18 =>
 M.bind (st 2 true t4_0 t33_18) fun _ =>
 M.bind (ld (some 2) true t4_0) fun t0_20 => guardM (!isTup t0_20) (resT t26_12 (M.pure (.tup [t0_20, t26_12, (.int .i64 0)])))))) := by
 rw [C, callW_eq _ _ rfl]; kernel_rfl
noncomputable def p_ratchetref05_SameRec_11010 (v2 v3 v4 v5 : PV) : M PV := atP P X k_ratchetref05_SameRec [1, 1, 0, 1, 0] (mkEnv 39 0 [(2, v2), (3, v3), (4, v4), (5, v5)])
theorem p_ratchetref05_SameRec_11010_eq (v2 v3 v4 v5 : PV) : p_ratchetref05_SameRec_11010 v2 v3 v4 v5 =
 M.bind (fa 0 v2) fun t21_0 =>
 M.bind (ld none false t21_0) fun t22_1 =>
 M.bind (lnL t22_1) fun t23_2 =>
 M.bind (bi .lss .none (strip v5) t23_2) fun t24_3 =>
 condM t24_3
 (M.bind (noPan (fa 0 v2)) fun t27_16 =>
 M.bind (noPan (M.pure (strip v5))) fun t29_17 =>
 M.bind (noPan (fa 0 v3)) fun t32_18 =>
 M.bind (noPan (M.pure (strip v5))) fun t34_19 =>
 M.bind (noPan (ld none false t27_16)) fun t28_20 =>
 M.bind (noPan (iaS 6 t28_20 t29_17)) fun t30_21 =>
 M.bind (noPan (ld (some 6) false t30_21)) fun t31_22 =>
 M.bind (noPan (ld none false t32_18)) fun t33_23 =>
 M.bind (noPan (iaS 6 t33_23 t34_19)) fun t35_24 =>
 M.bind (noPan (ld (some 6) false t35_24)) fun t36_25 =>
 M.bind (noPan (C k_ratchetref05_SameSub [(strip t31_22), (strip t36_25)])) fun t37_26 =>
 M.bind (noPan (un .not t37_26)) fun t38_27 =>
 condM t38_27
 (M.pure (.bool false))
 (M.bind (bi .add .none (strip v5) (.int .i64 1)) fun t26_28 =>
 p_ratchetref05_SameRec_11010 v2 v3 v4 t26_28))
 (M.pure (.bool true)) :=
 (atP_step P X _ _ _).trans (by kernel_rfl)
/-- ratchet/ratchetref05.SameRec -/
theorem ratchetref05_SameRec_eq (a0 a1 : PV) : C k_ratchetref05_SameRec [a0, a1] =
 trunc (M.bind (bx 2 a0) fun t2_0 =>
 M.bind (bx 2 a1) fun t3_1 =>
 M.bind (fa 1 t2_0) fun t6_2 =>
 M.bind (ld none false t6_2) fun t7_3 =>
 M.bind (fa 1 t3_1) fun t8_4 =>
 M.bind (ld none false t8_4) fun t9_5 =>
 M.bind (bi .neq .bool t7_3 t9_5) fun t10_6 =>
 M.bind (gd (strip t10_6) false (fa 0 t2_0)) fun t12_7 =>
 M.bind (gd (strip t10_6) false (ld none false t12_7)) fun t13_8 =>
 M.bind (gd (strip t10_6) false (lnL t13_8)) fun t14_9 =>
 M.bind (gd (strip t10_6) false (fa 0 t3_1)) fun t15_10 =>
 M.bind (gd (strip t10_6) false (ld none false t15_10)) fun t16_11 =>
 M.bind (gd (strip t10_6) false (lnL t16_11)) fun t17_12 =>
 M.bind (gd (strip t10_6) false (bi .neq .none t14_9 t17_12)) fun t18_13 =>
 M.bind (pick (strip t10_6) (.bool true) t18_13) fun t19_14 =>
 condM t19_14
 (M.pure (.bool false))
 (p_ratchetref05_SameRec_11010 t2_0 t3_1 (.bool false) (.int .i64 0))) := by
 rw [C, callW_eq _ _ rfl]; kernel_rfl
/-- ratchet/entry.write -/
theorem entry_write_eq (a0 : PV) : C k_entry_write [a0] =
 trunc (M.bind (al [(.slice false true 0 [])]) fun t2_0 =>
 M.bind (al [(.int .i64 0)]) fun t3_1 =>
 M.bind (mf k_entry_write_1 [] [t2_0, t3_1]) fun t5_2 =>
 guardM (isPtr t2_0 && isPtr t3_1) <| deferM CD t5_2 []
 (M.bind (bd [(.slice false true 0 [])] []) fun t6_3 =>
 M.bind (bx 1 t6_3) fun t7_4 =>
 M.bind (callV P C (strip a0) [(strip (strip t7_4))]) fun t10_5 =>
 M.bind (nc P (strip t7_4)) fun t12_6 =>
 M.bind (fa 0 t12_6) fun t13_7 =>
 M.bind (ld none true t13_7) fun t14_8 =>
 M.bind (st 1 true t2_0 t14_8) fun _ =>
 M.bind (st 1 false t3_1 (.int .i64 0)) fun _ =>
 M.bind (ld none true t2_0) fun t0_11 => guardM (!isTup t0_11) (M.bind (ld none true t3_1) fun t0_12 => guardM (!isTup t0_12) (M.pure (.tup [t0_11, t0_12]))))
 (M.bind (ld none true t2_0) fun t0_13 => guardM (!isTup t0_13) (M.bind (ld none true t3_1) fun t0_14 => guardM (!isTup t0_14) (M.pure (.tup [t0_13, t0_14]))))) := by
 rw [C, callW_eq _ _ rfl]; kernel_rfl
/-- ratchet/entry.PutValType$1 -/
theorem entry_PutValType_1_eq (a0 a1 : PV) : C k_entry_PutValType_1 [a0, a1] =
 trunc (M.bind (ld (some 3) false a1) fun t4_0 =>
 M.bind (C k_entry_pen_val [(strip (strip a0)), (strip t4_0)]) fun t5_1 =>
 M.pure (.tup [])) := by
 rw [C, callW_eq _ _ rfl]; kernel_rfl
noncomputable def p_entry_pen_val_111 (v0 v3 : PV) : M PV := atP P X k_entry_pen_val [1, 1, 1] (mkEnv 49 0 [(0, v0), (3, v3)])
theorem p_entry_pen_val_111_eq (v0 v3 : PV) : p_entry_pen_val_111 v0 v3 =
 M.bind (fa 2 v3) fun t46_0 =>
 M.bind (ld none false t46_0) fun t47_1 =>
 M.bind (C k_entry_pen_heap [(strip (strip v0)), (strip t47_1)]) fun t48_2 =>
 M.pure (.tup []) :=
 (atP_step P X _ _ _).trans (by kernel_rfl)
/-- (*ratchet/entry.pen).val -/
theorem entry_pen_val_eq (a0 a1 : PV) : C k_entry_pen_val [a0, a1] =
 trunc (M.bind (bx 3 a1) fun t3_0 =>
 M.bind (fa 0 t3_0) fun t4_1 =>
 M.bind (ld none false t4_1) fun t5_2 =>
 M.bind (bi .neq .none t5_2 (.int .i64 5)) fun t6_3 =>
 condM t6_3
 (M.bind (fa 0 t3_0) fun t8_4 =>
 M.bind (ld none false t8_4) fun t9_5 =>
 M.bind (bi .geq .none t9_5 (.int .i64 1)) fun t10_6 =>
 M.bind (gd (strip t10_6) true (fa 0 t3_0)) fun t12_7 =>
 M.bind (gd (strip t10_6) true (ld none false t12_7)) fun t13_8 =>
 M.bind (gd (strip t10_6) true (bi .leq .none t13_8 (.int .i64 4))) fun t14_9 =>
 M.bind (pick (strip t10_6) t14_9 (.bool false)) fun t15_10 =>
 M.bind (gd (strip t15_10) true (fa 1 t3_0)) fun t17_11 =>
 M.bind (gd (strip t15_10) true (ld none false t17_11)) fun t18_12 =>
 M.bind (gd (strip t15_10) true (un .not t18_12)) fun t19_13 =>
 M.bind (pick (strip t15_10) t19_13 (.bool false)) fun t20_14 =>
 M.bind (gd (strip t20_14) true (fa 2 t3_0)) fun t22_15 =>
 M.bind (gd (strip t20_14) true (ld none false t22_15)) fun t23_16 =>
 M.bind (gd (strip t20_14) true (bi .eql .none t23_16 (.int .i64 0))) fun t24_17 =>
 M.bind (pick (strip t20_14) t24_17 (.bool false)) fun t25_18 =>
 M.bind (C k_entry_pen_must [(strip (strip a0)), (strip t25_18)]) fun t26_19 =>
 M.bind (fa 0 t3_0) fun t28_20 =>
 M.bind (ld none false t28_20) fun t29_21 =>
 M.bind (cv (.int .u8) true t29_21) fun t30_22 =>
 M.bind (bi .sub .none (.int .u8 128) t30_22) fun t31_23 =>
 M.bind (C k_entry_pen_byte [(strip (strip a0)), (strip t31_23)]) fun t32_24 =>
 M.pure (.tup []))
 (M.bind (fa 1 t3_0) fun t34_25 =>
 M.bind (ld none false t34_25) fun t35_26 =>
 M.bind (un .not t35_26) fun t36_27 =>
 condM t36_27
 (M.bind (C k_entry_pen_byte [(strip (strip a0)), (.int .u8 100)]) fun t38_28 =>
 p_entry_pen_val_111 a0 t3_0)
 (M.bind (fa 2 t3_0) fun t40_29 =>
 M.bind (ld none false t40_29) fun t41_30 =>
 M.bind (bi .geq .none t41_30 (.int .i64 0)) fun t42_31 =>
 condM t42_31
 (M.bind (C k_entry_pen_byte [(strip (strip a0)), (.int .u8 99)]) fun t44_32 =>
 p_entry_pen_val_111 a0 t3_0)
 (p_entry_pen_val_111 a0 t3_0)))) := by
 rw [C, callW_eq _ _ rfl]; kernel_rfl
/-- (*ratchet/entry.pen).must -/
theorem entry_pen_must_eq (a0 a1 : PV) : C k_entry_pen_must [a0, a1] =
 trunc (M.bind (un .not (strip a1)) fun t5_0 =>
 condM t5_0
 (M.bind (bd [(.int .i64 0), (.int .i64 0)] [(0, 1, (.int .i64 0)), (1, 1, (.int .i64 4))]) fun t6_1 =>
 M.bind (mi y_entry_fault t6_1) fun t7_2 =>
 M.bind (pn t7_2) fun _ =>
 M.pure (.tup []))
 (M.pure (.tup []))) := by
 rw [C, callW_eq _ _ rfl]; kernel_rfl
/-- (*ratchet/entry.pen).byte -/
theorem entry_pen_byte_eq (a0 a1 : PV) : C k_entry_pen_byte [a0, a1] =
 trunc (M.bind (nc P (strip a0)) fun t6_0 =>
 M.bind (fa 0 t6_0) fun t7_1 =>
 M.bind (ld none true t7_1) fun t8_2 =>
 M.bind (bs true none [(strip a1)]) fun t10_3 =>
 M.bind (ap true 1 1 t8_2 t10_3) fun t11_4 =>
 M.bind (nc P (strip a0)) fun t12_5 =>
 M.bind (fa 0 t12_5) fun t13_6 =>
 M.bind (st 1 true t13_6 t11_4) fun _ =>
 M.pure (.tup [])) := by
 rw [C, callW_eq _ _ rfl]; kernel_rfl
/-- ratchet/entry.read[int] -/
theorem entry_read_int_eq (a0 a1 a2 : PV) : C k_entry_read_int [a0, a1, a2] =
 trunc (M.bind (al [(.int .i64 0)]) fun t6_0 =>
 M.bind (al [(.int .i64 0)]) fun t7_1 =>
 M.bind (al [(.int .i64 0)]) fun t8_2 =>
 M.bind (al [(.int .i64 0)]) fun t9_3 =>
 M.bind (bi .lss .none (strip a1) (.int .i64 0)) fun t12_4 =>
 M.bind (gd (strip t12_4) false (M.pure (strip a1))) fun t14_5 =>
 M.bind (gd (strip t12_4) false (M.pure (strip a0))) fun t15_6 =>
 M.bind (gd (strip t12_4) false (lnL t15_6)) fun t16_7 =>
 M.bind (gd (strip t12_4) false (bi .gtr .none t14_5 t16_7)) fun t17_8 =>
 M.bind (pick (strip t12_4) (.bool true) t17_8) fun t18_9 =>
 condM t18_9
 (M.bind (ld none true t9_3) fun t19_10 =>
 M.bind (st 1 true t6_0 t19_10) fun _ =>
 M.bind (st 1 false t7_1 (.int .i64 0)) fun _ =>
 M.bind (st 1 false t8_2 (.int .i64 1)) fun _ =>
 M.bind (ld none true t6_0) fun t0_14 => guardM (!isTup t0_14) (M.bind (ld none true t7_1) fun t0_15 => guardM (!isTup t0_15) (M.bind (ld none true t8_2) fun t0_16 => guardM (!isTup t0_16) (M.pure (.tup [t0_14, t0_15, t0_16])))))
 (M.bind (mf k_entry_read_int_1 [] [t9_3, t6_0, t7_1, t8_2]) fun t20_17 =>
 guardM (isPtr t6_0 && isPtr t7_1 && isPtr t8_2) <| deferM CD t20_17 []
 (M.bind (bd [(.slice false true 0 []), (.int .i64 0)] [(0, 1, (strip a0)), (1, 1, (strip a1))]) fun t23_18 =>
 M.bind (bx 2 t23_18) fun t24_19 =>
 M.bind (callV P C (strip a2) [(strip (strip t24_19))]) fun t27_20 =>
 M.bind (st 1 true t6_0 t27_20) fun _ =>
 chk
 (M.bind (noPan (M.pure (strip t24_19))) fun t29_30 =>
 M.bind (noPan (nc P t29_30)) fun t30_31 =>
 M.bind (noPan (fa 1 t30_31)) fun t31_32 =>
 M.bind (noPan (ld none true t6_0)) fun t28_33 =>
 M.bind (noPan (st 1 true t6_0 t28_33)) fun _ =>
 M.bind (noPan (ld none true t31_32)) fun t32_35 =>
 M.bind (noPan (st 1 true t7_1 t32_35)) fun _ =>
 M.bind (noPan (st 1 false t8_2 (.int .i64 0))) fun _ =>
 M.pure [a0, a1, a2, .undef, .undef, .undef, t6_0, t7_1, t8_2, t9_3, t24_19, (strip a1), t12_4, (strip t12_4), t14_5, t15_6, t16_7, t17_8, t18_9, .undef, t20_17, (strip a0), (strip a1), t23_18, (strip t24_19), (strip a2), (strip t24_19), (strip t27_20), (strip t28_33), t29_30, t30_31, t31_32, (strip t32_35)])
 (M.bind (noPan (M.pure (strip t24_19))) fun t29_22 =>
 M.bind (noPan (nc P t29_22)) fun t30_23 =>
 M.bind (noPan (fa 1 t30_23)) fun t31_24 =>
 M.bind (noPan (ld none true t6_0)) fun t28_25 =>
 M.bind (noPan (ld none true t31_24)) fun t32_26 =>
 M.bind (noPan (st 1 true t6_0 t28_25)) fun _ =>
 M.bind (noPan (st 1 true t7_1 t32_26)) fun _ =>
 M.bind (noPan (st 1 false t8_2 (.int .i64 0))) fun _ =>
 M.pure [a0, a1, a2, .undef, .undef, .undef, t6_0, t7_1, t8_2, t9_3, t24_19, (strip a1), t12_4, (strip t12_4), t14_5, t15_6, t16_7, t17_8, t18_9, .undef, t20_17, (strip a0), (strip a1), t23_18, (strip t24_19), (strip a2), (strip t24_19), (strip t27_20), (strip t28_25), t29_22, t30_23, t31_24, (strip t32_26)]) <|
 chk
 (M.bind (noPan (M.pure (strip t24_19))) fun t29_38 =>
 M.bind (noPan (nc P t29_38)) fun t30_39 =>
 M.bind (noPan (fa 1 t30_39)) fun t31_40 =>
 M.bind (noPan (ld none true t31_40)) fun t32_41 =>
 M.bind (noPan (ld none true t6_0)) fun t28_42 =>
 M.bind (noPan (st 1 true t6_0 t28_42)) fun _ =>
 M.bind (noPan (st 1 true t7_1 t32_41)) fun _ =>
 M.bind (noPan (st 1 false t8_2 (.int .i64 0))) fun _ =>
 M.pure [a0, a1, a2, .undef, .undef, .undef, t6_0, t7_1, t8_2, t9_3, t24_19, (strip a1), t12_4, (strip t12_4), t14_5, t15_6, t16_7, t17_8, t18_9, .undef, t20_17, (strip a0), (strip a1), t23_18, (strip t24_19), (strip a2), (strip t24_19), (strip t27_20), (strip t28_42), t29_38, t30_39, t31_40, (strip t32_41)])
 (M.bind (noPan (M.pure (strip t24_19))) fun t29_22 =>
 M.bind (noPan (nc P t29_22)) fun t30_23 =>
 M.bind (noPan (fa 1 t30_23)) fun t31_24 =>
 M.bind (noPan (ld none true t6_0)) fun t28_25 =>
 M.bind (noPan (ld none true t31_24)) fun t32_26 =>
 M.bind (noPan (st 1 true t6_0 t28_25)) fun _ =>
 M.bind (noPan (st 1 true t7_1 t32_26)) fun _ =>
 M.bind (noPan (st 1 false t8_2 (.int .i64 0))) fun _ =>
 M.pure [a0, a1, a2, .undef, .undef, .undef, t6_0, t7_1, t8_2, t9_3, t24_19, (strip a1), t12_4, (strip t12_4), t14_5, t15_6, t16_7, t17_8, t18_9, .undef, t20_17, (strip a0), (strip a1), t23_18, (strip t24_19), (strip a2), (strip t24_19), (strip t27_20), (strip t28_25), t29_22, t30_23, t31_24, (strip t32_26)]) <|
 M.bind (noPan (M.pure (strip t24_19))) fun t29_46 =>
 M.bind (noPan (nc P t29_46)) fun t30_47 =>
 M.bind (noPan (fa 1 t30_47)) fun t31_48 =>
 M.bind (noPan (ld none true t6_0)) fun t28_49 =>
 M.bind (noPan (ld none true t31_48)) fun t32_50 =>
 M.bind (noPan (st 1 true t6_0 t28_49)) fun _ =>
 M.bind (noPan (st 1 true t7_1 t32_50)) fun _ =>
 M.bind (noPan (st 1 false t8_2 (.int .i64 0))) fun _ =>
 M.bind (ld none true t6_0) fun t0_54 => guardM (!isTup t0_54) (M.bind (ld none true t7_1) fun t0_55 => guardM (!isTup t0_55) (M.bind (ld none true t8_2) fun t0_56 => guardM (!isTup t0_56) (M.pure (.tup [t0_54, t0_55, t0_56])))))
 (M.bind (ld none true t6_0) fun t0_57 => guardM (!isTup t0_57) (M.bind (ld none true t7_1) fun t0_58 => guardM (!isTup t0_58) (M.bind (ld none true t8_2) fun t0_59 => guardM (!isTup t0_59) (M.pure (.tup [t0_57, t0_58, t0_59]))))))) := by
 rw [C, callW_eq _ _ rfl]; kernel_rfl
/-- (*ratchet/entry.cursor).heap -/
theorem entry_cursor_heap_eq (a0 : PV) : C k_entry_cursor_heap [a0] =
 trunc (M.bind (C k_entry_cursor_look [(strip (strip a0))]) fun t5_0 =>
 M.bind (C k_entry_named [(strip t5_0)]) fun t6_1 =>
 M.bind (bi .neq .none (strip t6_1) (.int .i64 0)) fun t8_2 =>
 condM t8_2
 (M.bind (nc P (strip a0)) fun t10_3 =>
 M.bind (fa 1 t10_3) fun t11_4 =>
 M.bind (ld none false t11_4) fun t12_5 =>
 M.bind (bi .add .none t12_5 (.int .i64 1)) fun t13_6 =>
 M.bind (nc P (strip a0)) fun t14_7 =>
 M.bind (fa 1 t14_7) fun t15_8 =>
 M.bind (st 1 true t15_8 t13_6) fun _ =>
 resT t6_1 (M.pure t6_1))
 (M.bind (C k_entry_cursor_s33 [(strip (strip a0))]) fun t18_10 =>
 resT t18_10 (M.pure t18_10))) := by
 rw [C, callW_eq _ _ rfl]; kernel_rfl
/-- ratchet/ratchetref08.begin -/
theorem ratchetref08_begin_eq (a0 a1 : PV) : C k_ratchetref08_begin [a0, a1] =
 trunc (M.bind (bd [(.slice false true 0 []), (.int .i64 0), (.int .i64 0), (.int .i64 0)] [(0, 1, (strip a0)), (1, 1, (strip a1))]) fun t8_0 =>
 M.bind (bx 4 t8_0) fun t9_1 =>
 M.bind (bi .geq .none (strip a1) (.int .i64 0)) fun t11_2 =>
 M.bind (gd (strip t11_2) true (M.pure (strip a1))) fun t13_3 =>
 M.bind (gd (strip t11_2) true (M.pure (strip a0))) fun t14_4 =>
 M.bind (gd (strip t11_2) true (lnL t14_4)) fun t15_5 =>
 M.bind (gd (strip t11_2) true (bi .leq .none t13_3 t15_5)) fun t16_6 =>
 M.bind (pick (strip t11_2) t16_6 (.bool false)) fun t17_7 =>
 resT t9_1 (resT t17_7 (M.pure (.tup [t9_1, t17_7])))) := by
 rw [C, callW_eq _ _ rfl]; kernel_rfl
noncomputable def p_ratchetref08_reading_heap_111111 (v0 v2 v5 v6 : PV) : M PV := atP P X k_ratchetref08_reading_heap [1, 1, 1, 1, 1, 1] (mkEnv 64 0 [(0, v0), (2, v2), (5, v5), (6, v6)])
noncomputable def p_ratchetref08_reading_heap_1111111 (v0 v2 v6 : PV) : M PV := atP P X k_ratchetref08_reading_heap [1, 1, 1, 1, 1, 1, 1] (mkEnv 64 0 [(0, v0), (2, v2), (6, v6)])
theorem p_ratchetref08_reading_heap_111111_eq (v0 v2 v5 v6 : PV) : p_ratchetref08_reading_heap_111111 v0 v2 v5 v6 =
 M.bind (nc P (strip v0)) fun t47_0 =>
 M.bind (fa 3 t47_0) fun t48_1 =>
 M.bind (ld none false t48_1) fun t49_2 =>
 M.bind (bi .eql .none t49_2 (.int .i64 0)) fun t50_3 =>
 M.bind (gd (strip t50_3) true (M.pure (strip v6))) fun t52_4 =>
 M.bind (gd (strip t50_3) true (bi .geq .none t52_4 (.int .i64 2147483648))) fun t53_5 =>
 M.bind (pick (strip t50_3) t53_5 (.bool false)) fun t54_6 =>
 condM t54_6
 (M.bind (C k_ratchetref08_reading_fail [(strip (strip v0)), (strip (strip v5)), (.int .i64 2)]) fun t57_7 =>
 p_ratchetref08_reading_heap_1111111 v0 v2 v6)
 (p_ratchetref08_reading_heap_1111111 v0 v2 v6) :=
 (atP_step P X _ _ _).trans (by kernel_rfl)
theorem p_ratchetref08_reading_heap_1111111_eq (v0 v2 v6 : PV) : p_ratchetref08_reading_heap_1111111 v0 v2 v6 =
 M.bind (nc P (strip v0)) fun t59_0 =>
 M.bind (fa 3 t59_0) fun t60_1 =>
 M.bind (ld none false t60_1) fun t61_2 =>
 M.bind (bi .neq .none t61_2 (.int .i64 0)) fun t62_3 =>
 condM t62_3
 (M.pure (.int .i64 0))
 (resT v6 (M.pure v6)) :=
 (atP_step P X _ _ _).trans (by kernel_rfl)
/-- (*ratchet/ratchetref08.reading).heap -/
theorem ratchetref08_reading_heap_eq (a0 : PV) : C k_ratchetref08_reading_heap [a0] =
 trunc (M.bind (C k_ratchetref08_reading_peek [(strip (strip a0))]) fun t9_0 =>
 M.bind (ex 0 (strip t9_0)) fun t10_1 =>
 M.bind (ex 1 (tupDrop 0 (strip t9_0))) fun t11_2 =>
 M.bind (gd (strip (strip t11_2)) true (M.pure (strip t10_1))) fun t14_3 =>
 M.bind (gd (strip (strip t11_2)) true (C k_ratchetref08_abstract [(strip t14_3)])) fun t15_4 =>
 M.bind (gd (strip (strip t11_2)) true (bi .neq .none t15_4 (.int .i64 0))) fun t16_5 =>
 M.bind (pick (strip (strip t11_2)) t16_5 (.bool false)) fun t17_6 =>
 condM t17_6
 (M.bind (nc P (strip a0)) fun t19_7 =>
 M.bind (fa 1 t19_7) fun t20_8 =>
 M.bind (ld none false t20_8) fun t21_9 =>
 M.bind (bi .add .none t21_9 (.int .i64 1)) fun t22_10 =>
 M.bind (nc P (strip a0)) fun t23_11 =>
 M.bind (fa 1 t23_11) fun t24_12 =>
 M.bind (st 1 true t24_12 t22_10) fun _ =>
 M.bind (C k_ratchetref08_abstract [(strip (strip t10_1))]) fun t26_14 =>
 resT t26_14 (M.pure t26_14))
 (M.bind (nc P (strip a0)) fun t28_15 =>
 M.bind (fa 1 t28_15) fun t29_16 =>
 M.bind (ld none true t29_16) fun t30_17 =>
 M.bind (C k_ratchetref08_reading_number [(strip (strip a0)), (.int .i64 33), (.bool true)]) fun t32_18 =>
 M.bind (cv (.int .i64) true t32_18) fun t33_19 =>
 M.bind (nc P (strip a0)) fun t35_20 =>
 M.bind (fa 3 t35_20) fun t36_21 =>
 M.bind (ld none false t36_21) fun t37_22 =>
 M.bind (bi .eql .none t37_22 (.int .i64 0)) fun t38_23 =>
 M.bind (gd (strip t38_23) true (M.pure (strip t33_19))) fun t40_24 =>
 M.bind (gd (strip t38_23) true (bi .lss .none t40_24 (.int .i64 0))) fun t41_25 =>
 M.bind (pick (strip t38_23) t41_25 (.bool false)) fun t42_26 =>
 condM t42_26
 (M.bind (C k_ratchetref08_reading_fail [(strip (strip a0)), (strip (strip t30_17)), (.int .i64 4)]) fun t45_27 =>
 p_ratchetref08_reading_heap_111111 a0 (.int .i64 0) t30_17 t33_19)
 (p_ratchetref08_reading_heap_111111 a0 (.int .i64 0) t30_17 t33_19))) := by
 rw [C, callW_eq _ _ rfl]; kernel_rfl
/-- (*ratchet/ratchetref08.reading).end -/
theorem ratchetref08_reading_end_eq (a0 : PV) : C k_ratchetref08_reading_end [a0] =
 trunc (M.bind (nc P (strip a0)) fun t5_0 =>
 M.bind (fa 3 t5_0) fun t6_1 =>
 M.bind (ld none false t6_1) fun t7_2 =>
 M.bind (bi .neq .none t7_2 (.int .i64 0)) fun t8_3 =>
 condM t8_3
 (nb (nc P (strip a0)) fun t10_4 =>
 nb (fa 2 t10_4) fun t11_5 =>
 nb (ld none true t11_5) fun t12_6 =>
 nb (nc P (strip a0)) fun t14_7 =>
 nb (fa 3 t14_7) fun t15_8 =>
 nb (ld none true t15_8) fun t16_9 =>
 resT t12_6 (resT t16_9 (M.pure (.tup [t12_6, t16_9]))))
 (M.bind (nc P (strip a0)) fun t18_10 =>
 M.bind (fa 1 t18_10) fun t19_11 =>
 M.bind (ld none true t19_11) fun t20_12 =>
 resT t20_12 (M.pure (.tup [t20_12, (.int .i64 0)])))) := by
 rw [C, callW_eq _ _ rfl]; kernel_rfl
/-- ratchet/entry.read[ratchet/api.ValType] -/
theorem entry_read_api_ValType_eq (a0 a1 a2 : PV) : C k_entry_read_api_ValType [a0, a1, a2] =
 trunc (M.bind (al [(.int .i64 0), (.bool false), (.int .i64 0)]) fun t6_0 =>
 M.bind (al [(.int .i64 0)]) fun t7_1 =>
 M.bind (al [(.int .i64 0)]) fun t8_2 =>
 M.bind (al [(.int .i64 0), (.bool false), (.int .i64 0)]) fun t9_3 =>
 M.bind (bi .lss .none (strip a1) (.int .i64 0)) fun t12_4 =>
 M.bind (gd (strip t12_4) false (M.pure (strip a1))) fun t14_5 =>
 M.bind (gd (strip t12_4) false (M.pure (strip a0))) fun t15_6 =>
 M.bind (gd (strip t12_4) false (lnL t15_6)) fun t16_7 =>
 M.bind (gd (strip t12_4) false (bi .gtr .none t14_5 t16_7)) fun t17_8 =>
 M.bind (pick (strip t12_4) (.bool true) t17_8) fun t18_9 =>
 condM t18_9
 (M.bind (ld (some 3) true t9_3) fun t19_10 =>
 M.bind (st 3 true t6_0 t19_10) fun _ =>
 M.bind (st 1 false t7_1 (.int .i64 0)) fun _ =>
 M.bind (st 1 false t8_2 (.int .i64 1)) fun _ =>
 M.bind (ld (some 3) true t6_0) fun t0_14 => guardM (!isTup t0_14) (M.bind (ld none true t7_1) fun t0_15 => guardM (!isTup t0_15) (M.bind (ld none true t8_2) fun t0_16 => guardM (!isTup t0_16) (M.pure (.tup [t0_14, t0_15, t0_16])))))
 (M.bind (mf k_entry_read_api_ValType_1 [] [t9_3, t6_0, t7_1, t8_2]) fun t20_17 =>
 guardM (isPtr t6_0 && isPtr t7_1 && isPtr t8_2) <| deferM CD t20_17 []
 (M.bind (bd [(.slice false true 0 []), (.int .i64 0)] [(0, 1, (strip a0)), (1, 1, (strip a1))]) fun t23_18 =>
 M.bind (bx 2 t23_18) fun t24_19 =>
 M.bind (callV P C (strip a2) [(strip (strip t24_19))]) fun t27_20 =>
 M.bind (st 3 true t6_0 t27_20) fun _ =>
 chk
 (M.bind (noPan (M.pure (strip t24_19))) fun t29_30 =>
 M.bind (noPan (nc P t29_30)) fun t30_31 =>
 M.bind (noPan (fa 1 t30_31)) fun t31_32 =>
 M.bind (noPan (ld (some 3) true t6_0)) fun t28_33 =>
 M.bind (noPan (st 3 true t6_0 t28_33)) fun _ =>
 M.bind (noPan (ld none true t31_32)) fun t32_35 =>
 M.bind (noPan (st 1 true t7_1 t32_35)) fun _ =>
 M.bind (noPan (st 1 false t8_2 (.int .i64 0))) fun _ =>
 M.pure [a0, a1, a2, .undef, .undef, .undef, t6_0, t7_1, t8_2, t9_3, t24_19, (strip a1), t12_4, (strip t12_4), t14_5, t15_6, t16_7, t17_8, t18_9, .undef, t20_17, (strip a0), (strip a1), t23_18, (strip t24_19), (strip a2), (strip t24_19), (strip t27_20), (strip t28_33), t29_30, t30_31, t31_32, (strip t32_35)])
 (M.bind (noPan (M.pure (strip t24_19))) fun t29_22 =>
 M.bind (noPan (nc P t29_22)) fun t30_23 =>
 M.bind (noPan (fa 1 t30_23)) fun t31_24 =>
 M.bind (noPan (ld (some 3) true t6_0)) fun t28_25 =>
 M.bind (noPan (ld none true t31_24)) fun t32_26 =>
 M.bind (noPan (st 3 true t6_0 t28_25)) fun _ =>
 M.bind (noPan (st 1 true t7_1 t32_26)) fun _ =>
 M.bind (noPan (st 1 false t8_2 (.int .i64 0))) fun _ =>
 M.pure [a0, a1, a2, .undef, .undef, .undef, t6_0, t7_1, t8_2, t9_3, t24_19, (strip a1), t12_4, (strip t12_4), t14_5, t15_6, t16_7, t17_8, t18_9, .undef, t20_17, (strip a0), (strip a1), t23_18, (strip t24_19), (strip a2), (strip t24_19), (strip t27_20), (strip t28_25), t29_22, t30_23, t31_24, (strip t32_26)]) <|
 chk
 (M.bind (noPan (M.pure (strip t24_19))) fun t29_38 =>
 M.bind (noPan (nc P t29_38)) fun t30_39 =>
 M.bind (noPan (fa 1 t30_39)) fun t31_40 =>
 M.bind (noPan (ld none true t31_40)) fun t32_41 =>
 M.bind (noPan (ld (some 3) true t6_0)) fun t28_42 =>
 M.bind (noPan (st 3 true t6_0 t28_42)) fun _ =>
 M.bind (noPan (st 1 true t7_1 t32_41)) fun _ =>
 M.bind (noPan (st 1 false t8_2 (.int .i64 0))) fun _ =>
 M.pure [a0, a1, a2, .undef, .undef, .undef, t6_0, t7_1, t8_2, t9_3, t24_19, (strip a1), t12_4, (strip t12_4), t14_5, t15_6, t16_7, t17_8, t18_9, .undef, t20_17, (strip a0), (strip a1), t23_18, (strip t24_19), (strip a2), (strip t24_19), (strip t27_20), (strip t28_42), t29_38, t30_39, t31_40, (strip t32_41)])
 (M.bind (noPan (M.pure (strip t24_19))) fun t29_22 =>
 M.bind (noPan (nc P t29_22)) fun t30_23 =>
 M.bind (noPan (fa 1 t30_23)) fun t31_24 =>
 M.bind (noPan (ld (some 3) true t6_0)) fun t28_25 =>
 M.bind (noPan (ld none true t31_24)) fun t32_26 =>
 M.bind (noPan (st 3 true t6_0 t28_25)) fun _ =>
 M.bind (noPan (st 1 true t7_1 t32_26)) fun _ =>
 M.bind (noPan (st 1 false t8_2 (.int .i64 0))) fun _ =>
 M.pure [a0, a1, a2, .undef, .undef, .undef, t6_0, t7_1, t8_2, t9_3, t24_19, (strip a1), t12_4, (strip t12_4), t14_5, t15_6, t16_7, t17_8, t18_9, .undef, t20_17, (strip a0), (strip a1), t23_18, (strip t24_19), (strip a2), (strip t24_19), (strip t27_20), (strip t28_25), t29_22, t30_23, t31_24, (strip t32_26)]) <|
 M.bind (noPan (M.pure (strip t24_19))) fun t29_46 =>
 M.bind (noPan (nc P t29_46)) fun t30_47 =>
 M.bind (noPan (fa 1 t30_47)) fun t31_48 =>
 M.bind (noPan (ld (some 3) true t6_0)) fun t28_49 =>
 M.bind (noPan (ld none true t31_48)) fun t32_50 =>
 M.bind (noPan (st 3 true t6_0 t28_49)) fun _ =>
 M.bind (noPan (st 1 true t7_1 t32_50)) fun _ =>
 M.bind (noPan (st 1 false t8_2 (.int .i64 0))) fun _ =>
 M.bind (ld (some 3) true t6_0) fun t0_54 => guardM (!isTup t0_54) (M.bind (ld none true t7_1) fun t0_55 => guardM (!isTup t0_55) (M.bind (ld none true t8_2) fun t0_56 => guardM (!isTup t0_56) (M.pure (.tup [t0_54, t0_55, t0_56])))))
 (M.bind (ld (some 3) true t6_0) fun t0_57 => guardM (!isTup t0_57) (M.bind (ld none true t7_1) fun t0_58 => guardM (!isTup t0_58) (M.bind (ld none true t8_2) fun t0_59 => guardM (!isTup t0_59) (M.pure (.tup [t0_57, t0_58, t0_59]))))))) := by
 rw [C, callW_eq _ _ rfl]; kernel_rfl
noncomputable def p_entry_cursor_ref_1111 (v0 v2 v3 : PV) : M PV := atP P X k_entry_cursor_ref [1, 1, 1, 1] (mkEnv 44 0 [(0, v0), (2, v2), (3, v3)])
theorem p_entry_cursor_ref_1111_eq (v0 v2 v3 : PV) : p_entry_cursor_ref_1111 v0 v2 v3 =
 M.bind (nc P (strip v0)) fun t33_0 =>
 M.bind (fa 1 t33_0) fun t34_1 =>
 M.bind (ld none false t34_1) fun t35_2 =>
 M.bind (bi .add .none t35_2 (.int .i64 1)) fun t36_3 =>
 M.bind (nc P (strip v0)) fun t37_4 =>
 M.bind (fa 1 t37_4) fun t38_5 =>
 M.bind (st 1 true t38_5 t36_3) fun _ =>
 M.bind (bi .eql .none (strip v3) (.int .u8 99)) fun t40_7 =>
 M.bind (C k_entry_cursor_heap [(strip (strip v0))]) fun t42_8 =>
 M.bind (bd [(.int .i64 0), (.bool false), (.int .i64 0)] [(0, 1, (.int .i64 5)), (1, 1, t40_7), (2, 1, t42_8)]) fun t43_9 =>
 M.bind (st 3 true v2 t43_9) fun _ =>
 M.bind (ld (some 3) true v2) fun t0_11 => guardM (!isTup t0_11) (M.pure t0_11) :=
 (atP_step P X _ _ _).trans (by kernel_rfl)
/-- (*ratchet/entry.cursor).ref -/
theorem entry_cursor_ref_eq (a0 : PV) : C k_entry_cursor_ref [a0] =
 trunc (M.bind (al [(.int .i64 0), (.bool false), (.int .i64 0)]) fun t2_0 =>
 M.bind (C k_entry_cursor_look [(strip (strip a0))]) fun t6_1 =>
 M.bind (C k_entry_named [(strip (strip t6_1))]) fun t8_2 =>
 M.bind (bi .neq .none (strip t8_2) (.int .i64 0)) fun t10_3 =>
 condM t10_3
 (M.bind (nc P (strip a0)) fun t12_4 =>
 M.bind (fa 1 t12_4) fun t13_5 =>
 M.bind (ld none false t13_5) fun t14_6 =>
 M.bind (bi .add .none t14_6 (.int .i64 1)) fun t15_7 =>
 M.bind (nc P (strip a0)) fun t16_8 =>
 M.bind (fa 1 t16_8) fun t17_9 =>
 M.bind (st 1 true t17_9 t15_7) fun _ =>
 M.bind (bd [(.int .i64 0), (.bool false), (.int .i64 0)] [(0, 1, (.int .i64 5)), (1, 1, (.bool true)), (2, 1, (strip t8_2))]) fun t19_11 =>
 M.bind (st 3 true t2_0 t19_11) fun _ =>
 M.bind (ld (some 3) true t2_0) fun t0_13 => guardM (!isTup t0_13) (M.pure t0_13))
 (M.bind (bi .neq .none (strip t6_1) (.int .u8 99)) fun t21_14 =>
 M.bind (gd (strip t21_14) true (M.pure (strip t6_1))) fun t23_15 =>
 M.bind (gd (strip t21_14) true (bi .neq .none t23_15 (.int .u8 100))) fun t24_16 =>
 M.bind (pick (strip t21_14) t24_16 (.bool false)) fun t25_17 =>
 condM t25_17
 (M.bind (nc P (strip a0)) fun t28_18 =>
 M.bind (fa 1 t28_18) fun t29_19 =>
 M.bind (ld none false t29_19) fun t30_20 =>
 M.bind (C k_entry_cursor_fail [(strip (strip a0)), (strip t30_20), (.int .i64 4)]) fun t31_21 =>
 p_entry_cursor_ref_1111 a0 t2_0 t6_1)
 (p_entry_cursor_ref_1111 a0 t2_0 t6_1))) := by
 rw [C, callW_eq _ _ rfl]; kernel_rfl
/-- ratchet/ratchetref08.valAt -/
theorem ratchetref08_valAt_eq (a0 a1 a2 : PV) : C k_ratchetref08_valAt [a0, a1, a2] =
 trunc (M.bind (al [(.int .i64 0), (.bool false), (.int .i64 0)]) fun t6_0 =>
 M.bind (C k_ratchetref08_begin [(strip (strip a0)), (strip (strip a1))]) fun t17_1 =>
 M.bind (ex 0 (strip t17_1)) fun t18_2 =>
 M.bind (ex 1 (tupDrop 0 (strip t17_1))) fun t19_3 =>
 M.bind (un .not (strip t19_3)) fun t21_4 =>
 condM t21_4
 (M.bind (bd [(.int .i64 0), (.bool false), (.int .i64 0)] []) fun t22_5 =>
 M.bind (st 3 true t6_0 t22_5) fun _ =>
 M.bind (ld (some 3) true t6_0) fun t0_7 => guardM (!isTup t0_7) (M.pure (.tup [t0_7, (.int .i64 0), (.int .i64 1)])))
 (M.bind (C k_ratchetref08_reading_val [(strip (strip t18_2)), (strip (strip a2)), (.bool false)]) fun t25_8 =>
 M.bind (al [(.int .i64 0), (.bool false), (.int .i64 0)]) fun t11_9 =>
 M.bind (st 3 true t11_9 t25_8) fun _ =>
 M.bind (C k_ratchetref08_reading_end [(strip (strip t18_2))]) fun t28_11 =>
 M.bind (ex 0 (strip t28_11)) fun t29_12 =>
 M.bind (ex 1 (tupDrop 0 (strip t28_11))) fun t30_13 =>
 M.bind (bi .neq .none (strip t30_13) (.int .i64 0)) fun t32_14 =>
 condM t32_14
 (M.bind (bd [(.int .i64 0), (.bool false), (.int .i64 0)] []) fun t33_15 =>
 M.bind (st 3 true t6_0 t33_15) fun _ =>
 M.bind (ld (some 3) true t6_0) fun t0_17 => guardM (!isTup t0_17) (resT t29_12 (resT t30_13 (M.pure (.tup [t0_17, t29_12, t30_13])))))
 (M.bind (ld (some 3) true t11_9) fun t36_18 =>
 M.bind (st 3 true t6_0 t36_18) fun _ =>
 M.bind (ld (some 3) true t6_0) fun t0_20 => guardM (!isTup t0_20) (resT t29_12 (M.pure (.tup [t0_20, t29_12, (.int .i64 0)])))))) := by
 rw [C, callW_eq _ _ rfl]; kernel_rfl
noncomputable def p_entry_cursor_val_111 (v0 v2 : PV) : M PV := atP P X k_entry_cursor_val [1, 1, 1] (mkEnv 35 0 [(0, v0), (2, v2)])
theorem p_entry_cursor_val_111_eq (v0 v2 : PV) : p_entry_cursor_val_111 v0 v2 =
 M.bind (C k_entry_cursor_ref [(strip (strip v0))]) fun t34_0 =>
 M.bind (st 3 true v2 t34_0) fun _ =>
 M.bind (ld (some 3) true v2) fun t0_2 => guardM (!isTup t0_2) (M.pure t0_2) :=
 (atP_step P X _ _ _).trans (by kernel_rfl)
/-- (*ratchet/entry.cursor).val -/
theorem entry_cursor_val_eq (a0 : PV) : C k_entry_cursor_val [a0] =
 trunc (M.bind (al [(.int .i64 0), (.bool false), (.int .i64 0)]) fun t2_0 =>
 M.bind (C k_entry_cursor_look [(strip (strip a0))]) fun t5_1 =>
 M.bind (bi .eql .none (strip t5_1) (.int .u8 123)) fun t8_2 =>
 condM t8_2
 (M.bind (nc P (strip a0)) fun t11_3 =>
 M.bind (fa 1 t11_3) fun t12_4 =>
 M.bind (ld none false t12_4) fun t13_5 =>
 M.bind (C k_entry_cursor_fail [(strip (strip a0)), (strip t13_5), (.int .i64 8)]) fun t14_6 =>
 p_entry_cursor_val_111 a0 t2_0)
 (M.bind (bi .geq .none (strip t5_1) (.int .u8 124)) fun t17_7 =>
 M.bind (gd (strip t17_7) true (M.pure (strip t5_1))) fun t19_8 =>
 M.bind (gd (strip t17_7) true (bi .leq .none t19_8 (.int .u8 127))) fun t20_9 =>
 M.bind (pick (strip t17_7) t20_9 (.bool false)) fun t21_10 =>
 condM t21_10
 (M.bind (nc P (strip a0)) fun t23_11 =>
 M.bind (fa 1 t23_11) fun t24_12 =>
 M.bind (ld none false t24_12) fun t25_13 =>
 M.bind (bi .add .none t25_13 (.int .i64 1)) fun t26_14 =>
 M.bind (nc P (strip a0)) fun t27_15 =>
 M.bind (fa 1 t27_15) fun t28_16 =>
 M.bind (st 1 true t28_16 t26_14) fun _ =>
 M.bind (cv (.int .i64) true (strip t5_1)) fun t30_18 =>
 M.bind (bi .sub .none (.int .i64 128) t30_18) fun t31_19 =>
 M.bind (bd [(.int .i64 0), (.bool false), (.int .i64 0)] [(0, 1, t31_19)]) fun t32_20 =>
 M.bind (st 3 true t2_0 t32_20) fun _ =>
 M.bind (ld (some 3) true t2_0) fun t0_22 => guardM (!isTup t0_22) (M.pure t0_22))
 (p_entry_cursor_val_111 a0 t2_0))) := by
 rw [C, callW_eq _ _ rfl]; kernel_rfl
/-- ratchet/entry.read[ratchet/api.Block] -/
theorem entry_read_api_Block_eq (a0 a1 a2 : PV) : C k_entry_read_api_Block [a0, a1, a2] =
 trunc (M.bind (al [(.int .i64 0), (.int .i64 0), (.bool false), (.int .i64 0)]) fun t6_0 =>
 M.bind (al [(.int .i64 0)]) fun t7_1 =>
 M.bind (al [(.int .i64 0)]) fun t8_2 =>
 M.bind (al [(.int .i64 0), (.int .i64 0), (.bool false), (.int .i64 0)]) fun t9_3 =>
 M.bind (bi .lss .none (strip a1) (.int .i64 0)) fun t12_4 =>
 M.bind (gd (strip t12_4) false (M.pure (strip a1))) fun t14_5 =>
 M.bind (gd (strip t12_4) false (M.pure (strip a0))) fun t15_6 =>
 M.bind (gd (strip t12_4) false (lnL t15_6)) fun t16_7 =>
 M.bind (gd (strip t12_4) false (bi .gtr .none t14_5 t16_7)) fun t17_8 =>
 M.bind (pick (strip t12_4) (.bool true) t17_8) fun t18_9 =>
 condM t18_9
 (M.bind (ld (some 4) true t9_3) fun t19_10 =>
 M.bind (st 4 true t6_0 t19_10) fun _ =>
 M.bind (st 1 false t7_1 (.int .i64 0)) fun _ =>
 M.bind (st 1 false t8_2 (.int .i64 1)) fun _ =>
 M.bind (ld (some 4) true t6_0) fun t0_14 => guardM (!isTup t0_14) (M.bind (ld none true t7_1) fun t0_15 => guardM (!isTup t0_15) (M.bind (ld none true t8_2) fun t0_16 => guardM (!isTup t0_16) (M.pure (.tup [t0_14, t0_15, t0_16])))))
 (M.bind (mf k_entry_read_api_Block_1 [] [t9_3, t6_0, t7_1, t8_2]) fun t20_17 =>
 guardM (isPtr t6_0 && isPtr t7_1 && isPtr t8_2) <| deferM CD t20_17 []
 (M.bind (bd [(.slice false true 0 []), (.int .i64 0)] [(0, 1, (strip a0)), (1, 1, (strip a1))]) fun t23_18 =>
 M.bind (bx 2 t23_18) fun t24_19 =>
 M.bind (callV P C (strip a2) [(strip (strip t24_19))]) fun t27_20 =>
 M.bind (st 4 true t6_0 t27_20) fun _ =>
 chk
 (M.bind (noPan (M.pure (strip t24_19))) fun t29_30 =>
 M.bind (noPan (nc P t29_30)) fun t30_31 =>
 M.bind (noPan (fa 1 t30_31)) fun t31_32 =>
 M.bind (noPan (ld (some 4) true t6_0)) fun t28_33 =>
 M.bind (noPan (st 4 true t6_0 t28_33)) fun _ =>
 M.bind (noPan (ld none true t31_32)) fun t32_35 =>
 M.bind (noPan (st 1 true t7_1 t32_35)) fun _ =>
 M.bind (noPan (st 1 false t8_2 (.int .i64 0))) fun _ =>
 M.pure [a0, a1, a2, .undef, .undef, .undef, t6_0, t7_1, t8_2, t9_3, t24_19, (strip a1), t12_4, (strip t12_4), t14_5, t15_6, t16_7, t17_8, t18_9, .undef, t20_17, (strip a0), (strip a1), t23_18, (strip t24_19), (strip a2), (strip t24_19), (strip t27_20), (strip t28_33), t29_30, t30_31, t31_32, (strip t32_35)])
 (M.bind (noPan (M.pure (strip t24_19))) fun t29_22 =>
 M.bind (noPan (nc P t29_22)) fun t30_23 =>
 M.bind (noPan (fa 1 t30_23)) fun t31_24 =>
 M.bind (noPan (ld (some 4) true t6_0)) fun t28_25 =>
 M.bind (noPan (ld none true t31_24)) fun t32_26 =>
 M.bind (noPan (st 4 true t6_0 t28_25)) fun _ =>
 M.bind (noPan (st 1 true t7_1 t32_26)) fun _ =>
 M.bind (noPan (st 1 false t8_2 (.int .i64 0))) fun _ =>
 M.pure [a0, a1, a2, .undef, .undef, .undef, t6_0, t7_1, t8_2, t9_3, t24_19, (strip a1), t12_4, (strip t12_4), t14_5, t15_6, t16_7, t17_8, t18_9, .undef, t20_17, (strip a0), (strip a1), t23_18, (strip t24_19), (strip a2), (strip t24_19), (strip t27_20), (strip t28_25), t29_22, t30_23, t31_24, (strip t32_26)]) <|
 chk
 (M.bind (noPan (M.pure (strip t24_19))) fun t29_38 =>
 M.bind (noPan (nc P t29_38)) fun t30_39 =>
 M.bind (noPan (fa 1 t30_39)) fun t31_40 =>
 M.bind (noPan (ld none true t31_40)) fun t32_41 =>
 M.bind (noPan (ld (some 4) true t6_0)) fun t28_42 =>
 M.bind (noPan (st 4 true t6_0 t28_42)) fun _ =>
 M.bind (noPan (st 1 true t7_1 t32_41)) fun _ =>
 M.bind (noPan (st 1 false t8_2 (.int .i64 0))) fun _ =>
 M.pure [a0, a1, a2, .undef, .undef, .undef, t6_0, t7_1, t8_2, t9_3, t24_19, (strip a1), t12_4, (strip t12_4), t14_5, t15_6, t16_7, t17_8, t18_9, .undef, t20_17, (strip a0), (strip a1), t23_18, (strip t24_19), (strip a2), (strip t24_19), (strip t27_20), (strip t28_42), t29_38, t30_39, t31_40, (strip t32_41)])
 (M.bind (noPan (M.pure (strip t24_19))) fun t29_22 =>
 M.bind (noPan (nc P t29_22)) fun t30_23 =>
 M.bind (noPan (fa 1 t30_23)) fun t31_24 =>
 M.bind (noPan (ld (some 4) true t6_0)) fun t28_25 =>
 M.bind (noPan (ld none true t31_24)) fun t32_26 =>
 M.bind (noPan (st 4 true t6_0 t28_25)) fun _ =>
 M.bind (noPan (st 1 true t7_1 t32_26)) fun _ =>
 M.bind (noPan (st 1 false t8_2 (.int .i64 0))) fun _ =>
 M.pure [a0, a1, a2, .undef, .undef, .undef, t6_0, t7_1, t8_2, t9_3, t24_19, (strip a1), t12_4, (strip t12_4), t14_5, t15_6, t16_7, t17_8, t18_9, .undef, t20_17, (strip a0), (strip a1), t23_18, (strip t24_19), (strip a2), (strip t24_19), (strip t27_20), (strip t28_25), t29_22, t30_23, t31_24, (strip t32_26)]) <|
 M.bind (noPan (M.pure (strip t24_19))) fun t29_46 =>
 M.bind (noPan (nc P t29_46)) fun t30_47 =>
 M.bind (noPan (fa 1 t30_47)) fun t31_48 =>
 M.bind (noPan (ld (some 4) true t6_0)) fun t28_49 =>
 M.bind (noPan (ld none true t31_48)) fun t32_50 =>
 M.bind (noPan (st 4 true t6_0 t28_49)) fun _ =>
 M.bind (noPan (st 1 true t7_1 t32_50)) fun _ =>
 M.bind (noPan (st 1 false t8_2 (.int .i64 0))) fun _ =>
 M.bind (ld (some 4) true t6_0) fun t0_54 => guardM (!isTup t0_54) (M.bind (ld none true t7_1) fun t0_55 => guardM (!isTup t0_55) (M.bind (ld none true t8_2) fun t0_56 => guardM (!isTup t0_56) (M.pure (.tup [t0_54, t0_55, t0_56])))))
 (M.bind (ld (some 4) true t6_0) fun t0_57 => guardM (!isTup t0_57) (M.bind (ld none true t7_1) fun t0_58 => guardM (!isTup t0_58) (M.bind (ld none true t8_2) fun t0_59 => guardM (!isTup t0_59) (M.pure (.tup [t0_57, t0_58, t0_59]))))))) := by
 rw [C, callW_eq _ _ rfl]; kernel_rfl
/-- (*ratchet/entry.cursor).block -/
theorem entry_cursor_block_eq (a0 : PV) : C k_entry_cursor_block [a0] =
 trunc (M.bind (al [(.int .i64 0), (.int .i64 0), (.bool false), (.int .i64 0)]) fun t2_0 =>
 M.bind (C k_entry_cursor_look [(strip (strip a0))]) fun t5_1 =>
 M.bind (bi .eql .none (strip t5_1) (.int .u8 64)) fun t8_2 =>
 condM t8_2
 (M.bind (nc P (strip a0)) fun t10_3 =>
 M.bind (fa 1 t10_3) fun t11_4 =>
 M.bind (ld none false t11_4) fun t12_5 =>
 M.bind (bi .add .none t12_5 (.int .i64 1)) fun t13_6 =>
 M.bind (nc P (strip a0)) fun t14_7 =>
 M.bind (fa 1 t14_7) fun t15_8 =>
 M.bind (st 1 true t15_8 t13_6) fun _ =>
 M.bind (bd [(.int .i64 0), (.int .i64 0), (.bool false), (.int .i64 0)] [(0, 1, (.int .i64 (-1)))]) fun t16_10 =>
 M.bind (st 4 true t2_0 t16_10) fun _ =>
 M.bind (ld (some 4) true t2_0) fun t0_12 => guardM (!isTup t0_12) (M.pure t0_12))
 (M.bind (bi .gtr .none (strip t5_1) (.int .u8 64)) fun t19_13 =>
 M.bind (gd (strip t19_13) true (M.pure (strip t5_1))) fun t21_14 =>
 M.bind (gd (strip t19_13) true (bi .lss .none t21_14 (.int .u8 128))) fun t22_15 =>
 M.bind (pick (strip t19_13) t22_15 (.bool false)) fun t23_16 =>
 condM t23_16
 (M.bind (C k_entry_cursor_val [(strip (strip a0))]) fun t25_17 =>
 M.bind (bd [(.int .i64 0), (.int .i64 0), (.bool false), (.int .i64 0)] [(0, 1, (.int .i64 (-1))), (1, 3, t25_17)]) fun t26_18 =>
 M.bind (st 4 true t2_0 t26_18) fun _ =>
 M.bind (ld (some 4) true t2_0) fun t0_20 => guardM (!isTup t0_20) (M.pure t0_20))
 (M.bind (C k_entry_cursor_s33 [(strip (strip a0))]) fun t28_21 =>
 M.bind (bd [(.int .i64 0), (.int .i64 0), (.bool false), (.int .i64 0)] [(0, 1, t28_21)]) fun t29_22 =>
 M.bind (st 4 true t2_0 t29_22) fun _ =>
 M.bind (ld (some 4) true t2_0) fun t0_24 => guardM (!isTup t0_24) (M.pure t0_24)))) := by
 rw [C, callW_eq _ _ rfl]; kernel_rfl
noncomputable def p_ratchetref08_reading_block_1111111 (v0 v2 v5 v6 : PV) : M PV := atP P X k_ratchetref08_reading_block [1, 1, 1, 1, 1, 1, 1] (mkEnv 70 0 [(0, v0), (2, v2), (5, v5), (6, v6)])
noncomputable def p_ratchetref08_reading_block_11111111 (v2 v6 : PV) : M PV := atP P X k_ratchetref08_reading_block [1, 1, 1, 1, 1, 1, 1, 1] (mkEnv 70 0 [(2, v2), (6, v6)])
theorem p_ratchetref08_reading_block_1111111_eq (v0 v2 v5 v6 : PV) : p_ratchetref08_reading_block_1111111 v0 v2 v5 v6 =
 M.bind (nc P (strip v0)) fun t57_0 =>
 M.bind (fa 3 t57_0) fun t58_1 =>
 M.bind (ld none false t58_1) fun t59_2 =>
 M.bind (bi .eql .none t59_2 (.int .i64 0)) fun t60_3 =>
 M.bind (gd (strip t60_3) true (M.pure (strip v6))) fun t62_4 =>
 M.bind (gd (strip t60_3) true (bi .geq .none t62_4 (.int .i64 2147483648))) fun t63_5 =>
 M.bind (pick (strip t60_3) t63_5 (.bool false)) fun t64_6 =>
 condM t64_6
 (M.bind (C k_ratchetref08_reading_fail [(strip (strip v0)), (strip (strip v5)), (.int .i64 2)]) fun t67_7 =>
 p_ratchetref08_reading_block_11111111 v2 v6)
 (p_ratchetref08_reading_block_11111111 v2 v6) :=
 (atP_step P X _ _ _).trans (by kernel_rfl)
theorem p_ratchetref08_reading_block_11111111_eq (v2 v6 : PV) : p_ratchetref08_reading_block_11111111 v2 v6 =
 M.bind (bd [(.int .i64 0), (.int .i64 0), (.bool false), (.int .i64 0)] [(0, 1, (strip v6))]) fun t69_0 =>
 M.bind (st 4 true v2 t69_0) fun _ =>
 M.bind (ld (some 4) true v2) fun t0_2 => guardM (!isTup t0_2) (M.pure t0_2) :=
 (atP_step P X _ _ _).trans (by kernel_rfl)
/-- (*ratchet/ratchetref08.reading).block -/
theorem ratchetref08_reading_block_eq (a0 : PV) : C k_ratchetref08_reading_block [a0] =
 trunc (M.bind (al [(.int .i64 0), (.int .i64 0), (.bool false), (.int .i64 0)]) fun t2_0 =>
 M.bind (C k_ratchetref08_reading_peek [(strip (strip a0))]) fun t9_1 =>
 M.bind (ex 0 (strip t9_1)) fun t10_2 =>
 M.bind (ex 1 (tupDrop 0 (strip t9_1))) fun t11_3 =>
 M.bind (gd (strip (strip t11_3)) true (M.pure (strip t10_2))) fun t14_4 =>
 M.bind (gd (strip (strip t11_3)) true (bi .eql .none t14_4 (.int .u8 64))) fun t15_5 =>
 M.bind (pick (strip (strip t11_3)) t15_5 (.bool false)) fun t16_6 =>
 condM t16_6
 (M.bind (nc P (strip a0)) fun t18_7 =>
 M.bind (fa 1 t18_7) fun t19_8 =>
 M.bind (ld none false t19_8) fun t20_9 =>
 M.bind (bi .add .none t20_9 (.int .i64 1)) fun t21_10 =>
 M.bind (nc P (strip a0)) fun t22_11 =>
 M.bind (fa 1 t22_11) fun t23_12 =>
 M.bind (st 1 true t23_12 t21_10) fun _ =>
 M.bind (bd [(.int .i64 0), (.int .i64 0), (.bool false), (.int .i64 0)] [(0, 1, (.int .i64 (-1)))]) fun t24_14 =>
 M.bind (st 4 true t2_0 t24_14) fun _ =>
 M.bind (ld (some 4) true t2_0) fun t0_16 => guardM (!isTup t0_16) (M.pure t0_16))
 (M.bind (gd (strip (strip t11_3)) true (M.pure (strip t10_2))) fun t27_17 =>
 M.bind (gd (strip (strip t11_3)) true (bi .gtr .none t27_17 (.int .u8 64))) fun t28_18 =>
 M.bind (pick (strip (strip t11_3)) t28_18 (.bool false)) fun t29_19 =>
 M.bind (gd (strip t29_19) true (M.pure (strip t10_2))) fun t31_20 =>
 M.bind (gd (strip t29_19) true (bi .lss .none t31_20 (.int .u8 128))) fun t32_21 =>
 M.bind (pick (strip t29_19) t32_21 (.bool false)) fun t33_22 =>
 condM t33_22
 (M.bind (C k_ratchetref08_reading_val [(strip (strip a0)), (.bool true), (.bool false)]) fun t35_23 =>
 M.bind (bd [(.int .i64 0), (.int .i64 0), (.bool false), (.int .i64 0)] [(0, 1, (.int .i64 (-1))), (1, 3, t35_23)]) fun t36_24 =>
 M.bind (st 4 true t2_0 t36_24) fun _ =>
 M.bind (ld (some 4) true t2_0) fun t0_26 => guardM (!isTup t0_26) (M.pure t0_26))
 (M.bind (nc P (strip a0)) fun t38_27 =>
 M.bind (fa 1 t38_27) fun t39_28 =>
 M.bind (ld none true t39_28) fun t40_29 =>
 M.bind (C k_ratchetref08_reading_number [(strip (strip a0)), (.int .i64 33), (.bool true)]) fun t42_30 =>
 M.bind (cv (.int .i64) true t42_30) fun t43_31 =>
 M.bind (nc P (strip a0)) fun t45_32 =>
 M.bind (fa 3 t45_32) fun t46_33 =>
 M.bind (ld none false t46_33) fun t47_34 =>
 M.bind (bi .eql .none t47_34 (.int .i64 0)) fun t48_35 =>
 M.bind (gd (strip t48_35) true (M.pure (strip t43_31))) fun t50_36 =>
 M.bind (gd (strip t48_35) true (bi .lss .none t50_36 (.int .i64 0))) fun t51_37 =>
 M.bind (pick (strip t48_35) t51_37 (.bool false)) fun t52_38 =>
 condM t52_38
 (M.bind (C k_ratchetref08_reading_fail [(strip (strip a0)), (strip (strip t40_29)), (.int .i64 4)]) fun t55_39 =>
 p_ratchetref08_reading_block_1111111 a0 t2_0 t40_29 t43_31)
 (p_ratchetref08_reading_block_1111111 a0 t2_0 t40_29 t43_31)))) := by
 rw [C, callW_eq _ _ rfl]; kernel_rfl
/-- ratchet/entry.read[[]ratchet/api.ValType] -/
theorem entry_read_L_api_ValType_eq (a0 a1 a2 : PV) : C k_entry_read_L_api_ValType [a0, a1, a2] =
 trunc (M.bind (al [(.slice false true 0 [])]) fun t6_0 =>
 M.bind (al [(.int .i64 0)]) fun t7_1 =>
 M.bind (al [(.int .i64 0)]) fun t8_2 =>
 M.bind (al [(.slice false true 0 [])]) fun t9_3 =>
 M.bind (bi .lss .none (strip a1) (.int .i64 0)) fun t12_4 =>
 M.bind (gd (strip t12_4) false (M.pure (strip a1))) fun t14_5 =>
 M.bind (gd (strip t12_4) false (M.pure (strip a0))) fun t15_6 =>
 M.bind (gd (strip t12_4) false (lnL t15_6)) fun t16_7 =>
 M.bind (gd (strip t12_4) false (bi .gtr .none t14_5 t16_7)) fun t17_8 =>
 M.bind (pick (strip t12_4) (.bool true) t17_8) fun t18_9 =>
 condM t18_9
 (M.bind (ld none true t9_3) fun t19_10 =>
 M.bind (st 1 true t6_0 t19_10) fun _ =>
 M.bind (st 1 false t7_1 (.int .i64 0)) fun _ =>
 M.bind (st 1 false t8_2 (.int .i64 1)) fun _ =>
 M.bind (ld none true t6_0) fun t0_14 => guardM (!isTup t0_14) (M.bind (ld none true t7_1) fun t0_15 => guardM (!isTup t0_15) (M.bind (ld none true t8_2) fun t0_16 => guardM (!isTup t0_16) (M.pure (.tup [t0_14, t0_15, t0_16])))))
 (M.bind (mf k_entry_read_L_api_ValType_1 [] [t9_3, t6_0, t7_1, t8_2]) fun t20_17 =>
 guardM (isPtr t6_0 && isPtr t7_1 && isPtr t8_2) <| deferM CD t20_17 []
 (M.bind (bd [(.slice false true 0 []), (.int .i64 0)] [(0, 1, (strip a0)), (1, 1, (strip a1))]) fun t23_18 =>
 M.bind (bx 2 t23_18) fun t24_19 =>
 M.bind (callV P C (strip a2) [(strip (strip t24_19))]) fun t27_20 =>
 M.bind (st 1 true t6_0 t27_20) fun _ =>
 chk
 (M.bind (noPan (M.pure (strip t24_19))) fun t29_30 =>
 M.bind (noPan (nc P t29_30)) fun t30_31 =>
 M.bind (noPan (fa 1 t30_31)) fun t31_32 =>
 M.bind (noPan (ld none true t6_0)) fun t28_33 =>
 M.bind (noPan (st 1 true t6_0 t28_33)) fun _ =>
 M.bind (noPan (ld none true t31_32)) fun t32_35 =>
 M.bind (noPan (st 1 true t7_1 t32_35)) fun _ =>
 M.bind (noPan (st 1 false t8_2 (.int .i64 0))) fun _ =>
 M.pure [a0, a1, a2, .undef, .undef, .undef, t6_0, t7_1, t8_2, t9_3, t24_19, (strip a1), t12_4, (strip t12_4), t14_5, t15_6, t16_7, t17_8, t18_9, .undef, t20_17, (strip a0), (strip a1), t23_18, (strip t24_19), (strip a2), (strip t24_19), (strip t27_20), (strip t28_33), t29_30, t30_31, t31_32, (strip t32_35)])
 (M.bind (noPan (M.pure (strip t24_19))) fun t29_22 =>
 M.bind (noPan (nc P t29_22)) fun t30_23 =>
 M.bind (noPan (fa 1 t30_23)) fun t31_24 =>
 M.bind (noPan (ld none true t6_0)) fun t28_25 =>
 M.bind (noPan (ld none true t31_24)) fun t32_26 =>
 M.bind (noPan (st 1 true t6_0 t28_25)) fun _ =>
 M.bind (noPan (st 1 true t7_1 t32_26)) fun _ =>
 M.bind (noPan (st 1 false t8_2 (.int .i64 0))) fun _ =>
 M.pure [a0, a1, a2, .undef, .undef, .undef, t6_0, t7_1, t8_2, t9_3, t24_19, (strip a1), t12_4, (strip t12_4), t14_5, t15_6, t16_7, t17_8, t18_9, .undef, t20_17, (strip a0), (strip a1), t23_18, (strip t24_19), (strip a2), (strip t24_19), (strip t27_20), (strip t28_25), t29_22, t30_23, t31_24, (strip t32_26)]) <|
 chk
 (M.bind (noPan (M.pure (strip t24_19))) fun t29_38 =>
 M.bind (noPan (nc P t29_38)) fun t30_39 =>
 M.bind (noPan (fa 1 t30_39)) fun t31_40 =>
 M.bind (noPan (ld none true t31_40)) fun t32_41 =>
 M.bind (noPan (ld none true t6_0)) fun t28_42 =>
 M.bind (noPan (st 1 true t6_0 t28_42)) fun _ =>
 M.bind (noPan (st 1 true t7_1 t32_41)) fun _ =>
 M.bind (noPan (st 1 false t8_2 (.int .i64 0))) fun _ =>
 M.pure [a0, a1, a2, .undef, .undef, .undef, t6_0, t7_1, t8_2, t9_3, t24_19, (strip a1), t12_4, (strip t12_4), t14_5, t15_6, t16_7, t17_8, t18_9, .undef, t20_17, (strip a0), (strip a1), t23_18, (strip t24_19), (strip a2), (strip t24_19), (strip t27_20), (strip t28_42), t29_38, t30_39, t31_40, (strip t32_41)])
 (M.bind (noPan (M.pure (strip t24_19))) fun t29_22 =>
 M.bind (noPan (nc P t29_22)) fun t30_23 =>
 M.bind (noPan (fa 1 t30_23)) fun t31_24 =>
 M.bind (noPan (ld none true t6_0)) fun t28_25 =>
 M.bind (noPan (ld none true t31_24)) fun t32_26 =>
 M.bind (noPan (st 1 true t6_0 t28_25)) fun _ =>
 M.bind (noPan (st 1 true t7_1 t32_26)) fun _ =>
 M.bind (noPan (st 1 false t8_2 (.int .i64 0))) fun _ =>
 M.pure [a0, a1, a2, .undef, .undef, .undef, t6_0, t7_1, t8_2, t9_3, t24_19, (strip a1), t12_4, (strip t12_4), t14_5, t15_6, t16_7, t17_8, t18_9, .undef, t20_17, (strip a0), (strip a1), t23_18, (strip t24_19), (strip a2), (strip t24_19), (strip t27_20), (strip t28_25), t29_22, t30_23, t31_24, (strip t32_26)]) <|
 M.bind (noPan (M.pure (strip t24_19))) fun t29_46 =>
 M.bind (noPan (nc P t29_46)) fun t30_47 =>
 M.bind (noPan (fa 1 t30_47)) fun t31_48 =>
 M.bind (noPan (ld none true t6_0)) fun t28_49 =>
 M.bind (noPan (ld none true t31_48)) fun t32_50 =>
 M.bind (noPan (st 1 true t6_0 t28_49)) fun _ =>
 M.bind (noPan (st 1 true t7_1 t32_50)) fun _ =>
 M.bind (noPan (st 1 false t8_2 (.int .i64 0))) fun _ =>
 M.bind (ld none true t6_0) fun t0_54 => guardM (!isTup t0_54) (M.bind (ld none true t7_1) fun t0_55 => guardM (!isTup t0_55) (M.bind (ld none true t8_2) fun t0_56 => guardM (!isTup t0_56) (M.pure (.tup [t0_54, t0_55, t0_56])))))
 (M.bind (ld none true t6_0) fun t0_57 => guardM (!isTup t0_57) (M.bind (ld none true t7_1) fun t0_58 => guardM (!isTup t0_58) (M.bind (ld none true t8_2) fun t0_59 => guardM (!isTup t0_59) (M.pure (.tup [t0_57, t0_58, t0_59]))))))) := by
 rw [C, callW_eq _ _ rfl]; kernel_rfl
/-- (*ratchet/entry.cursor).vals -/
theorem entry_cursor_vals_eq (a0 : PV) : C k_entry_cursor_vals [a0] =
 trunc (M.bind (mf k_entry_cursor_val [(strip a0)] []) fun t5_0 =>
 M.bind (C k_entry_list_api_ValType [(strip (strip a0)), (.int .u32 1000), (strip t5_0)]) fun t6_1 =>
 resT t6_1 (M.pure t6_1)) := by
 rw [C, callW_eq _ _ rfl]; kernel_rfl
noncomputable def p_ratchetref08_reading_vals_111010 (v0 v2 v3 v4 v5 : PV) : M PV := atP P X k_ratchetref08_reading_vals [1, 1, 1, 0, 1, 0] (mkEnv 26 0 [(0, v0), (2, v2), (3, v3), (4, v4), (5, v5)])
theorem p_ratchetref08_reading_vals_111010_eq (v0 v2 v3 v4 v5 : PV) : p_ratchetref08_reading_vals_111010 v0 v2 v3 v4 v5 =
 M.bind (bi .lss .none (strip v5) (strip v3)) fun t10_0 =>
 M.bind (gd (strip t10_0) true (M.pure (strip v0))) fun t12_1 =>
 M.bind (gd (strip t10_0) true (nc P t12_1)) fun t13_2 =>
 M.bind (gd (strip t10_0) true (fa 3 t13_2)) fun t14_3 =>
 M.bind (gd (strip t10_0) true (ld none false t14_3)) fun t15_4 =>
 M.bind (gd (strip t10_0) true (bi .eql .none t15_4 (.int .i64 0))) fun t16_5 =>
 M.bind (pick (strip t10_0) t16_5 (.bool false)) fun t17_6 =>
 condM t17_6
 (M.bind (C k_ratchetref08_reading_val [(strip (strip v0)), (.bool true), (.bool false)]) fun t22_7 =>
 M.bind (bs true (some 3) [t22_7]) fun t23_8 =>
 M.bind (ap true 3 24 v4 t23_8) fun t24_9 =>
 M.bind (bi .add .none (strip v5) (.int .i64 1)) fun t19_10 =>
 p_ratchetref08_reading_vals_111010 v0 v2 v3 t24_9 t19_10)
 (resT v4 (M.pure v4)) :=
 (atP_step P X _ _ _).trans (by kernel_rfl)
/-- (*ratchet/ratchetref08.reading).vals -/
theorem ratchetref08_reading_vals_eq (a0 : PV) : C k_ratchetref08_reading_vals [a0] =
 trunc (M.bind (C k_ratchetref08_reading_many [(strip (strip a0)), (.int .i64 1000)]) fun t7_0 =>
 p_ratchetref08_reading_vals_111010 a0 (.slice false true 0 []) t7_0 (.slice false true 0 []) (.int .i64 0)) := by
 rw [C, callW_eq _ _ rfl]; kernel_rfl
/-- ratchet/entry.read[ratchet/api.Field] -/
theorem entry_read_api_Field_eq (a0 a1 a2 : PV) : C k_entry_read_api_Field [a0, a1, a2] =
 trunc (M.bind (al [(.int .i64 0), (.bool false), (.int .i64 0), (.bool false)]) fun t6_0 =>
 M.bind (al [(.int .i64 0)]) fun t7_1 =>
 M.bind (al [(.int .i64 0)]) fun t8_2 =>
 M.bind (al [(.int .i64 0), (.bool false), (.int .i64 0), (.bool false)]) fun t9_3 =>
 M.bind (bi .lss .none (strip a1) (.int .i64 0)) fun t12_4 =>
 M.bind (gd (strip t12_4) false (M.pure (strip a1))) fun t14_5 =>
 M.bind (gd (strip t12_4) false (M.pure (strip a0))) fun t15_6 =>
 M.bind (gd (strip t12_4) false (lnL t15_6)) fun t16_7 =>
 M.bind (gd (strip t12_4) false (bi .gtr .none t14_5 t16_7)) fun t17_8 =>
 M.bind (pick (strip t12_4) (.bool true) t17_8) fun t18_9 =>
 condM t18_9
 (M.bind (ld (some 4) true t9_3) fun t19_10 =>
 M.bind (st 4 true t6_0 t19_10) fun _ =>
 M.bind (st 1 false t7_1 (.int .i64 0)) fun _ =>
 M.bind (st 1 false t8_2 (.int .i64 1)) fun _ =>
 M.bind (ld (some 4) true t6_0) fun t0_14 => guardM (!isTup t0_14) (M.bind (ld none true t7_1) fun t0_15 => guardM (!isTup t0_15) (M.bind (ld none true t8_2) fun t0_16 => guardM (!isTup t0_16) (M.pure (.tup [t0_14, t0_15, t0_16])))))
 (M.bind (mf k_entry_read_api_Field_1 [] [t9_3, t6_0, t7_1, t8_2]) fun t20_17 =>
 guardM (isPtr t6_0 && isPtr t7_1 && isPtr t8_2) <| deferM CD t20_17 []
 (M.bind (bd [(.slice false true 0 []), (.int .i64 0)] [(0, 1, (strip a0)), (1, 1, (strip a1))]) fun t23_18 =>
 M.bind (bx 2 t23_18) fun t24_19 =>
 M.bind (callV P C (strip a2) [(strip (strip t24_19))]) fun t27_20 =>
 M.bind (st 4 true t6_0 t27_20) fun _ =>
 chk
 (M.bind (noPan (M.pure (strip t24_19))) fun t29_30 =>
 M.bind (noPan (nc P t29_30)) fun t30_31 =>
 M.bind (noPan (fa 1 t30_31)) fun t31_32 =>
 M.bind (noPan (ld (some 4) true t6_0)) fun t28_33 =>
 M.bind (noPan (st 4 true t6_0 t28_33)) fun _ =>
 M.bind (noPan (ld none true t31_32)) fun t32_35 =>
 M.bind (noPan (st 1 true t7_1 t32_35)) fun _ =>
 M.bind (noPan (st 1 false t8_2 (.int .i64 0))) fun _ =>
 M.pure [a0, a1, a2, .undef, .undef, .undef, t6_0, t7_1, t8_2, t9_3, t24_19, (strip a1), t12_4, (strip t12_4), t14_5, t15_6, t16_7, t17_8, t18_9, .undef, t20_17, (strip a0), (strip a1), t23_18, (strip t24_19), (strip a2), (strip t24_19), (strip t27_20), (strip t28_33), t29_30, t30_31, t31_32, (strip t32_35)])
 (M.bind (noPan (M.pure (strip t24_19))) fun t29_22 =>
 M.bind (noPan (nc P t29_22)) fun t30_23 =>
 M.bind (noPan (fa 1 t30_23)) fun t31_24 =>
 M.bind (noPan (ld (some 4) true t6_0)) fun t28_25 =>
 M.bind (noPan (ld none true t31_24)) fun t32_26 =>
 M.bind (noPan (st 4 true t6_0 t28_25)) fun _ =>
 M.bind (noPan (st 1 true t7_1 t32_26)) fun _ =>
 M.bind (noPan (st 1 false t8_2 (.int .i64 0))) fun _ =>
 M.pure [a0, a1, a2, .undef, .undef, .undef, t6_0, t7_1, t8_2, t9_3, t24_19, (strip a1), t12_4, (strip t12_4), t14_5, t15_6, t16_7, t17_8, t18_9, .undef, t20_17, (strip a0), (strip a1), t23_18, (strip t24_19), (strip a2), (strip t24_19), (strip t27_20), (strip t28_25), t29_22, t30_23, t31_24, (strip t32_26)]) <|
 chk
 (M.bind (noPan (M.pure (strip t24_19))) fun t29_38 =>
 M.bind (noPan (nc P t29_38)) fun t30_39 =>
 M.bind (noPan (fa 1 t30_39)) fun t31_40 =>
 M.bind (noPan (ld none true t31_40)) fun t32_41 =>
 M.bind (noPan (ld (some 4) true t6_0)) fun t28_42 =>
 M.bind (noPan (st 4 true t6_0 t28_42)) fun _ =>
 M.bind (noPan (st 1 true t7_1 t32_41)) fun _ =>
 M.bind (noPan (st 1 false t8_2 (.int .i64 0))) fun _ =>
 M.pure [a0, a1, a2, .undef, .undef, .undef, t6_0, t7_1, t8_2, t9_3, t24_19, (strip a1), t12_4, (strip t12_4), t14_5, t15_6, t16_7, t17_8, t18_9, .undef, t20_17, (strip a0), (strip a1), t23_18, (strip t24_19), (strip a2), (strip t24_19), (strip t27_20), (strip t28_42), t29_38, t30_39, t31_40, (strip t32_41)])
 (M.bind (noPan (M.pure (strip t24_19))) fun t29_22 =>
 M.bind (noPan (nc P t29_22)) fun t30_23 =>
 M.bind (noPan (fa 1 t30_23)) fun t31_24 =>
 M.bind (noPan (ld (some 4) true t6_0)) fun t28_25 =>
 M.bind (noPan (ld none true t31_24)) fun t32_26 =>
 M.bind (noPan (st 4 true t6_0 t28_25)) fun _ =>
 M.bind (noPan (st 1 true t7_1 t32_26)) fun _ =>
 M.bind (noPan (st 1 false t8_2 (.int .i64 0))) fun _ =>
 M.pure [a0, a1, a2, .undef, .undef, .undef, t6_0, t7_1, t8_2, t9_3, t24_19, (strip a1), t12_4, (strip t12_4), t14_5, t15_6, t16_7, t17_8, t18_9, .undef, t20_17, (strip a0), (strip a1), t23_18, (strip t24_19), (strip a2), (strip t24_19), (strip t27_20), (strip t28_25), t29_22, t30_23, t31_24, (strip t32_26)]) <|
 M.bind (noPan (M.pure (strip t24_19))) fun t29_46 =>
 M.bind (noPan (nc P t29_46)) fun t30_47 =>
 M.bind (noPan (fa 1 t30_47)) fun t31_48 =>
 M.bind (noPan (ld (some 4) true t6_0)) fun t28_49 =>
 M.bind (noPan (ld none true t31_48)) fun t32_50 =>
 M.bind (noPan (st 4 true t6_0 t28_49)) fun _ =>
 M.bind (noPan (st 1 true t7_1 t32_50)) fun _ =>
 M.bind (noPan (st 1 false t8_2 (.int .i64 0))) fun _ =>
 M.bind (ld (some 4) true t6_0) fun t0_54 => guardM (!isTup t0_54) (M.bind (ld none true t7_1) fun t0_55 => guardM (!isTup t0_55) (M.bind (ld none true t8_2) fun t0_56 => guardM (!isTup t0_56) (M.pure (.tup [t0_54, t0_55, t0_56])))))
 (M.bind (ld (some 4) true t6_0) fun t0_57 => guardM (!isTup t0_57) (M.bind (ld none true t7_1) fun t0_58 => guardM (!isTup t0_58) (M.bind (ld none true t8_2) fun t0_59 => guardM (!isTup t0_59) (M.pure (.tup [t0_57, t0_58, t0_59]))))))) := by
 rw [C, callW_eq _ _ rfl]; kernel_rfl
noncomputable def p_entry_cursor_field_111 (v0 v2 v3 : PV) : M PV := atP P X k_entry_cursor_field [1, 1, 1] (mkEnv 36 0 [(0, v0), (2, v2), (3, v3)])
theorem p_entry_cursor_field_111_eq (v0 v2 v3 : PV) : p_entry_cursor_field_111 v0 v2 v3 =
 M.bind (C k_entry_cursor_small [(strip (strip v0)), (.int .u8 1)]) fun t32_0 =>
 M.bind (bi .eql .none t32_0 (.int .u8 1)) fun t33_1 =>
 M.bind (fa 3 v3) fun t34_2 =>
 M.bind (st 1 true t34_2 t33_1) fun _ =>
 M.bind (ld (some 4) true v3) fun t35_4 =>
 M.bind (st 4 true v2 t35_4) fun _ =>
 M.bind (ld (some 4) true v2) fun t0_6 => guardM (!isTup t0_6) (M.pure t0_6) :=
 (atP_step P X _ _ _).trans (by kernel_rfl)
/-- (*ratchet/entry.cursor).field -/
theorem entry_cursor_field_eq (a0 : PV) : C k_entry_cursor_field [a0] =
 trunc (M.bind (al [(.int .i64 0), (.bool false), (.int .i64 0), (.bool false)]) fun t2_0 =>
 M.bind (al [(.int .i64 0), (.bool false), (.int .i64 0), (.bool false)]) fun t3_1 =>
 M.bind (C k_entry_cursor_look [(strip (strip a0))]) fun t5_2 =>
 M.bind (bi .eql .none t5_2 (.int .u8 120)) fun t10_3 =>
 condM t10_3
 (M.bind (fa 0 t3_1) fun t11_4 =>
 M.bind (fa 0 t11_4) fun t12_5 =>
 M.bind (st 1 false t12_5 (.int .i64 6)) fun _ =>
 M.bind (nc P (strip a0)) fun t14_7 =>
 M.bind (fa 1 t14_7) fun t15_8 =>
 M.bind (ld none false t15_8) fun t16_9 =>
 M.bind (bi .add .none t16_9 (.int .i64 1)) fun t17_10 =>
 M.bind (nc P (strip a0)) fun t18_11 =>
 M.bind (fa 1 t18_11) fun t19_12 =>
 M.bind (st 1 true t19_12 t17_10) fun _ =>
 p_entry_cursor_field_111 a0 t2_0 t3_1)
 (M.bind (bi .eql .none t5_2 (.int .u8 119)) fun t21_14 =>
 condM t21_14
 (M.bind (fa 0 t3_1) fun t22_15 =>
 M.bind (fa 0 t22_15) fun t23_16 =>
 M.bind (st 1 false t23_16 (.int .i64 7)) fun _ =>
 M.bind (nc P (strip a0)) fun t25_18 =>
 M.bind (fa 1 t25_18) fun t26_19 =>
 M.bind (ld none false t26_19) fun t27_20 =>
 M.bind (bi .add .none t27_20 (.int .i64 1)) fun t28_21 =>
 M.bind (nc P (strip a0)) fun t29_22 =>
 M.bind (fa 1 t29_22) fun t30_23 =>
 M.bind (st 1 true t30_23 t28_21) fun _ =>
 p_entry_cursor_field_111 a0 t2_0 t3_1)
 (M.bind (C k_entry_cursor_val [(strip (strip a0))]) fun t7_25 =>
 M.bind (fa 0 t3_1) fun t8_26 =>
 M.bind (st 3 true t8_26 t7_25) fun _ =>
 p_entry_cursor_field_111 a0 t2_0 t3_1))) := by
 rw [C, callW_eq _ _ rfl]; kernel_rfl
/-- (*ratchet/ratchetref08.reading).field -/
theorem ratchetref08_reading_field_eq (a0 : PV) : C k_ratchetref08_reading_field [a0] =
 trunc (M.bind (al [(.int .i64 0), (.bool false), (.int .i64 0), (.bool false)]) fun t2_0 =>
 M.bind (C k_ratchetref08_reading_val [(strip (strip a0)), (.bool true), (.bool true)]) fun t5_1 =>
 M.bind (al [(.int .i64 0), (.bool false), (.int .i64 0)]) fun t3_2 =>
 M.bind (st 3 true t3_2 t5_1) fun _ =>
 M.bind (nc P (strip a0)) fun t7_4 =>
 M.bind (fa 3 t7_4) fun t8_5 =>
 M.bind (ld none false t8_5) fun t9_6 =>
 M.bind (bi .neq .none t9_6 (.int .i64 0)) fun t10_7 =>
 condM t10_7
 (M.bind (bd [(.int .i64 0), (.bool false), (.int .i64 0), (.bool false)] []) fun t11_8 =>
 M.bind (st 4 true t2_0 t11_8) fun _ =>
 M.bind (ld (some 4) true t2_0) fun t0_10 => guardM (!isTup t0_10) (M.pure t0_10))
 (chk
 (M.bind (noPan (M.pure (strip a0))) fun t13_17 =>
 M.bind (noPan (C k_ratchetref08_reading_small [(strip t13_17), (.int .u8 1)])) fun t14_18 =>
 M.bind (noPan (bi .eql .none t14_18 (.int .u8 1))) fun t15_19 =>
 M.bind (noPan (ld (some 3) false t3_2)) fun t12_20 =>
 M.bind (noPan (bd [(.int .i64 0), (.bool false), (.int .i64 0), (.bool false)] [(0, 3, t12_20), (3, 1, t15_19)])) fun t16_21 =>
 M.bind (noPan (st 4 true t2_0 t16_21)) fun _ =>
 M.pure [a0, .undef, t2_0, t3_2, (strip a0), (strip t5_1), (strip a0), t7_4, t8_5, t9_6, t10_7, .undef, t12_20, t13_17, t14_18, t15_19, (strip t16_21)])
 (M.bind (noPan (M.pure (strip a0))) fun t13_11 =>
 M.bind (noPan (ld (some 3) false t3_2)) fun t12_12 =>
 M.bind (noPan (C k_ratchetref08_reading_small [(strip t13_11), (.int .u8 1)])) fun t14_13 =>
 M.bind (noPan (bi .eql .none t14_13 (.int .u8 1))) fun t15_14 =>
 M.bind (noPan (bd [(.int .i64 0), (.bool false), (.int .i64 0), (.bool false)] [(0, 3, t12_12), (3, 1, t15_14)])) fun t16_15 =>
 M.bind (noPan (st 4 true t2_0 t16_15)) fun _ =>
 M.pure [a0, .undef, t2_0, t3_2, (strip a0), (strip t5_1), (strip a0), t7_4, t8_5, t9_6, t10_7, .undef, t12_12, t13_11, t14_13, t15_14, (strip t16_15)]) <|
 M.bind (noPan (M.pure (strip a0))) fun t13_23 =>
 M.bind (noPan (ld (some 3) false t3_2)) fun t12_24 =>
 M.bind (noPan (C k_ratchetref08_reading_small [(strip t13_23), (.int .u8 1)])) fun t14_25 =>
 M.bind (noPan (bi .eql .none t14_25 (.int .u8 1))) fun t15_26 =>
 M.bind (noPan (bd [(.int .i64 0), (.bool false), (.int .i64 0), (.bool false)] [(0, 3, t12_24), (3, 1, t15_26)])) fun t16_27 =>
 M.bind (noPan (st 4 true t2_0 t16_27)) fun _ =>
 M.bind (ld (some 4) true t2_0) fun t0_29 => guardM (!isTup t0_29) (M.pure t0_29))) := by
 rw [C, callW_eq _ _ rfl]; kernel_rfl
/-- ratchet/entry.read[ratchet/api.CompType] -/
theorem entry_read_api_CompType_eq (a0 a1 a2 : PV) : C k_entry_read_api_CompType [a0, a1, a2] =
 trunc (M.bind (al [(.int .i64 0), (.slice false true 0 []), (.slice false true 0 []), (.slice false true 0 [])]) fun t6_0 =>
 M.bind (al [(.int .i64 0)]) fun t7_1 =>
 M.bind (al [(.int .i64 0)]) fun t8_2 =>
 M.bind (al [(.int .i64 0), (.slice false true 0 []), (.slice false true 0 []), (.slice false true 0 [])]) fun t9_3 =>
 M.bind (bi .lss .none (strip a1) (.int .i64 0)) fun t12_4 =>
 M.bind (gd (strip t12_4) false (M.pure (strip a1))) fun t14_5 =>
 M.bind (gd (strip t12_4) false (M.pure (strip a0))) fun t15_6 =>
 M.bind (gd (strip t12_4) false (lnL t15_6)) fun t16_7 =>
 M.bind (gd (strip t12_4) false (bi .gtr .none t14_5 t16_7)) fun t17_8 =>
 M.bind (pick (strip t12_4) (.bool true) t17_8) fun t18_9 =>
 condM t18_9
 (M.bind (ld (some 4) true t9_3) fun t19_10 =>
 M.bind (st 4 true t6_0 t19_10) fun _ =>
 M.bind (st 1 false t7_1 (.int .i64 0)) fun _ =>
 M.bind (st 1 false t8_2 (.int .i64 1)) fun _ =>
 M.bind (ld (some 4) true t6_0) fun t0_14 => guardM (!isTup t0_14) (M.bind (ld none true t7_1) fun t0_15 => guardM (!isTup t0_15) (M.bind (ld none true t8_2) fun t0_16 => guardM (!isTup t0_16) (M.pure (.tup [t0_14, t0_15, t0_16])))))
 (M.bind (mf k_entry_read_api_CompType_1 [] [t9_3, t6_0, t7_1, t8_2]) fun t20_17 =>
 guardM (isPtr t6_0 && isPtr t7_1 && isPtr t8_2) <| deferM CD t20_17 []
 (M.bind (bd [(.slice false true 0 []), (.int .i64 0)] [(0, 1, (strip a0)), (1, 1, (strip a1))]) fun t23_18 =>
 M.bind (bx 2 t23_18) fun t24_19 =>
 M.bind (callV P C (strip a2) [(strip (strip t24_19))]) fun t27_20 =>
 M.bind (st 4 true t6_0 t27_20) fun _ =>
 chk
 (M.bind (noPan (M.pure (strip t24_19))) fun t29_30 =>
 M.bind (noPan (nc P t29_30)) fun t30_31 =>
 M.bind (noPan (fa 1 t30_31)) fun t31_32 =>
 M.bind (noPan (ld (some 4) true t6_0)) fun t28_33 =>
 M.bind (noPan (st 4 true t6_0 t28_33)) fun _ =>
 M.bind (noPan (ld none true t31_32)) fun t32_35 =>
 M.bind (noPan (st 1 true t7_1 t32_35)) fun _ =>
 M.bind (noPan (st 1 false t8_2 (.int .i64 0))) fun _ =>
 M.pure [a0, a1, a2, .undef, .undef, .undef, t6_0, t7_1, t8_2, t9_3, t24_19, (strip a1), t12_4, (strip t12_4), t14_5, t15_6, t16_7, t17_8, t18_9, .undef, t20_17, (strip a0), (strip a1), t23_18, (strip t24_19), (strip a2), (strip t24_19), (strip t27_20), (strip t28_33), t29_30, t30_31, t31_32, (strip t32_35)])
 (M.bind (noPan (M.pure (strip t24_19))) fun t29_22 =>
 M.bind (noPan (nc P t29_22)) fun t30_23 =>
 M.bind (noPan (fa 1 t30_23)) fun t31_24 =>
 M.bind (noPan (ld (some 4) true t6_0)) fun t28_25 =>
 M.bind (noPan (ld none true t31_24)) fun t32_26 =>
 M.bind (noPan (st 4 true t6_0 t28_25)) fun _ =>
 M.bind (noPan (st 1 true t7_1 t32_26)) fun _ =>
 M.bind (noPan (st 1 false t8_2 (.int .i64 0))) fun _ =>
 M.pure [a0, a1, a2, .undef, .undef, .undef, t6_0, t7_1, t8_2, t9_3, t24_19, (strip a1), t12_4, (strip t12_4), t14_5, t15_6, t16_7, t17_8, t18_9, .undef, t20_17, (strip a0), (strip a1), t23_18, (strip t24_19), (strip a2), (strip t24_19), (strip t27_20), (strip t28_25), t29_22, t30_23, t31_24, (strip t32_26)]) <|
 chk
 (M.bind (noPan (M.pure (strip t24_19))) fun t29_38 =>
 M.bind (noPan (nc P t29_38)) fun t30_39 =>
 M.bind (noPan (fa 1 t30_39)) fun t31_40 =>
 M.bind (noPan (ld none true t31_40)) fun t32_41 =>
 M.bind (noPan (ld (some 4) true t6_0)) fun t28_42 =>
 M.bind (noPan (st 4 true t6_0 t28_42)) fun _ =>
 M.bind (noPan (st 1 true t7_1 t32_41)) fun _ =>
 M.bind (noPan (st 1 false t8_2 (.int .i64 0))) fun _ =>
 M.pure [a0, a1, a2, .undef, .undef, .undef, t6_0, t7_1, t8_2, t9_3, t24_19, (strip a1), t12_4, (strip t12_4), t14_5, t15_6, t16_7, t17_8, t18_9, .undef, t20_17, (strip a0), (strip a1), t23_18, (strip t24_19), (strip a2), (strip t24_19), (strip t27_20), (strip t28_42), t29_38, t30_39, t31_40, (strip t32_41)])
 (M.bind (noPan (M.pure (strip t24_19))) fun t29_22 =>
 M.bind (noPan (nc P t29_22)) fun t30_23 =>
 M.bind (noPan (fa 1 t30_23)) fun t31_24 =>
 M.bind (noPan (ld (some 4) true t6_0)) fun t28_25 =>
 M.bind (noPan (ld none true t31_24)) fun t32_26 =>
 M.bind (noPan (st 4 true t6_0 t28_25)) fun _ =>
 M.bind (noPan (st 1 true t7_1 t32_26)) fun _ =>
 M.bind (noPan (st 1 false t8_2 (.int .i64 0))) fun _ =>
 M.pure [a0, a1, a2, .undef, .undef, .undef, t6_0, t7_1, t8_2, t9_3, t24_19, (strip a1), t12_4, (strip t12_4), t14_5, t15_6, t16_7, t17_8, t18_9, .undef, t20_17, (strip a0), (strip a1), t23_18, (strip t24_19), (strip a2), (strip t24_19), (strip t27_20), (strip t28_25), t29_22, t30_23, t31_24, (strip t32_26)]) <|
 M.bind (noPan (M.pure (strip t24_19))) fun t29_46 =>
 M.bind (noPan (nc P t29_46)) fun t30_47 =>
 M.bind (noPan (fa 1 t30_47)) fun t31_48 =>
 M.bind (noPan (ld (some 4) true t6_0)) fun t28_49 =>
 M.bind (noPan (ld none true t31_48)) fun t32_50 =>
 M.bind (noPan (st 4 true t6_0 t28_49)) fun _ =>
 M.bind (noPan (st 1 true t7_1 t32_50)) fun _ =>
 M.bind (noPan (st 1 false t8_2 (.int .i64 0))) fun _ =>
 M.bind (ld (some 4) true t6_0) fun t0_54 => guardM (!isTup t0_54) (M.bind (ld none true t7_1) fun t0_55 => guardM (!isTup t0_55) (M.bind (ld none true t8_2) fun t0_56 => guardM (!isTup t0_56) (M.pure (.tup [t0_54, t0_55, t0_56])))))
 (M.bind (ld (some 4) true t6_0) fun t0_57 => guardM (!isTup t0_57) (M.bind (ld none true t7_1) fun t0_58 => guardM (!isTup t0_58) (M.bind (ld none true t8_2) fun t0_59 => guardM (!isTup t0_59) (M.pure (.tup [t0_57, t0_58, t0_59]))))))) := by
 rw [C, callW_eq _ _ rfl]; kernel_rfl
/-- (*ratchet/entry.cursor).comp -/
theorem entry_cursor_comp_eq (a0 : PV) : C k_entry_cursor_comp [a0] =
 trunc (M.bind (al [(.int .i64 0), (.slice false true 0 []), (.slice false true 0 []), (.slice false true 0 [])]) fun t2_0 =>
 M.bind (C k_entry_cursor_look [(strip (strip a0))]) fun t6_1 =>
 M.bind (nc P (strip a0)) fun t8_2 =>
 M.bind (fa 1 t8_2) fun t9_3 =>
 M.bind (ld none false t9_3) fun t10_4 =>
 M.bind (bi .add .none t10_4 (.int .i64 1)) fun t11_5 =>
 M.bind (nc P (strip a0)) fun t12_6 =>
 M.bind (fa 1 t12_6) fun t13_7 =>
 M.bind (st 1 true t13_7 t11_5) fun _ =>
 M.bind (bi .eql .none (strip t6_1) (.int .u8 96)) fun t16_9 =>
 condM t16_9
 (M.bind (C k_entry_cursor_vals [(strip (strip a0))]) fun t18_10 =>
 M.bind (bd [(.int .i64 0), (.slice false true 0 []), (.slice false true 0 []), (.slice false true 0 [])] [(0, 1, (.int .i64 1)), (1, 1, t18_10)]) fun t19_11 =>
 M.bind (al [(.int .i64 0), (.slice false true 0 []), (.slice false true 0 []), (.slice false true 0 [])]) fun t4_12 =>
 M.bind (st 4 true t4_12 t19_11) fun _ =>
 M.bind (C k_entry_cursor_vals [(strip (strip a0))]) fun t21_14 =>
 M.bind (fa 2 t4_12) fun t22_15 =>
 M.bind (st 1 true t22_15 t21_14) fun _ =>
 M.bind (ld (some 4) true t4_12) fun t23_17 =>
 M.bind (st 4 true t2_0 t23_17) fun _ =>
 M.bind (ld (some 4) true t2_0) fun t0_19 => guardM (!isTup t0_19) (M.pure t0_19))
 (M.bind (bi .eql .none (strip t6_1) (.int .u8 95)) fun t25_20 =>
 condM t25_20
 (M.bind (mf k_entry_cursor_field [(strip a0)] []) fun t28_21 =>
 M.bind (C k_entry_list_api_Field [(strip (strip a0)), (.int .u32 10000), (strip t28_21)]) fun t29_22 =>
 M.bind (bd [(.int .i64 0), (.slice false true 0 []), (.slice false true 0 []), (.slice false true 0 [])] [(0, 1, (.int .i64 2)), (3, 1, t29_22)]) fun t30_23 =>
 M.bind (st 4 true t2_0 t30_23) fun _ =>
 M.bind (ld (some 4) true t2_0) fun t0_25 => guardM (!isTup t0_25) (M.pure t0_25))
 (M.bind (bi .eql .none (strip t6_1) (.int .u8 94)) fun t32_26 =>
 condM t32_26
 (M.bind (C k_entry_cursor_field [(strip (strip a0))]) fun t34_27 =>
 M.bind (bs true (some 4) [t34_27]) fun t35_28 =>
 M.bind (bd [(.int .i64 0), (.slice false true 0 []), (.slice false true 0 []), (.slice false true 0 [])] [(0, 1, (.int .i64 3)), (3, 1, t35_28)]) fun t36_29 =>
 M.bind (st 4 true t2_0 t36_29) fun _ =>
 M.bind (ld (some 4) true t2_0) fun t0_31 => guardM (!isTup t0_31) (M.pure t0_31))
 (M.bind (nc P (strip a0)) fun t39_32 =>
 M.bind (fa 1 t39_32) fun t40_33 =>
 M.bind (ld none false t40_33) fun t41_34 =>
 M.bind (bi .sub .none t41_34 (.int .i64 1)) fun t42_35 =>
 M.bind (C k_entry_cursor_fail [(strip (strip a0)), (strip t42_35), (.int .i64 4)]) fun t43_36 =>
 M.bind (bd [(.int .i64 0), (.slice false true 0 []), (.slice false true 0 []), (.slice false true 0 [])] []) fun t44_37 =>
 M.bind (st 4 true t2_0 t44_37) fun _ =>
 M.bind (ld (some 4) true t2_0) fun t0_39 => guardM (!isTup t0_39) (M.pure t0_39))))) := by
 rw [C, callW_eq _ _ rfl]; kernel_rfl
noncomputable def p_ratchetref08_reading_comp_11111010111011010 (v0 v2 v5 v7 v8 v9 : PV) : M PV := atP P X k_ratchetref08_reading_comp [1, 1, 1, 1, 1, 0, 1, 0, 1, 1, 1, 0, 1, 1, 0, 1, 0] (mkEnv 80 0 [(0, v0), (2, v2), (5, v5), (7, v7), (8, v8), (9, v9)])
theorem p_ratchetref08_reading_comp_11111010111011010_eq (v0 v2 v5 v7 v8 v9 : PV) : p_ratchetref08_reading_comp_11111010111011010 v0 v2 v5 v7 v8 v9 =
 M.bind (bi .lss .none (strip v9) (strip v7)) fun t52_0 =>
 M.bind (gd (strip t52_0) true (M.pure (strip v0))) fun t54_1 =>
 M.bind (gd (strip t52_0) true (nc P t54_1)) fun t55_2 =>
 M.bind (gd (strip t52_0) true (fa 3 t55_2)) fun t56_3 =>
 M.bind (gd (strip t52_0) true (ld none false t56_3)) fun t57_4 =>
 M.bind (gd (strip t52_0) true (bi .eql .none t57_4 (.int .i64 0))) fun t58_5 =>
 M.bind (pick (strip t52_0) t58_5 (.bool false)) fun t59_6 =>
 condM t59_6
 (chk
 (M.bind (noPan (fa 3 v8)) fun t62_15 =>
 M.bind (noPan (M.pure (strip v0))) fun t64_16 =>
 M.bind (noPan (C k_ratchetref08_reading_field [(strip t64_16)])) fun t65_17 =>
 M.bind (noPan (bs true (some 4) [t65_17])) fun t66_18 =>
 M.bind (noPan (ld none true t62_15)) fun t63_19 =>
 M.bind (noPan (ap true 4 32 t63_19 t66_18)) fun t67_20 =>
 M.bind (noPan (fa 3 v8)) fun t68_21 =>
 M.bind (noPan (st 1 true t68_21 t67_20)) fun _ =>
 M.pure [v0, .undef, v2, .undef, .undef, v5, .undef, v7, v8, v9, .undef, .undef, .undef, .undef, .undef, .undef, .undef, .undef, .undef, .undef, .undef, .undef, .undef, .undef, .undef, .undef, .undef, .undef, .undef, .undef, .undef, .undef, .undef, .undef, .undef, .undef, .undef, .undef, .undef, .undef, .undef, .undef, .undef, .undef, .undef, .undef, .undef, .undef, .undef, .undef, (strip v9), (strip v7), t52_0, (strip t52_0), t54_1, t55_2, t56_3, t57_4, t58_5, t59_6, .undef, .undef, t62_15, (strip t63_19), t64_16, t65_17, t66_18, (strip t67_20), t68_21, .undef, .undef, .undef, .undef, .undef, .undef, .undef, .undef, .undef, .undef, .undef])
 (M.bind (noPan (fa 3 v8)) fun t62_7 =>
 M.bind (noPan (M.pure (strip v0))) fun t64_8 =>
 M.bind (noPan (ld none true t62_7)) fun t63_9 =>
 M.bind (noPan (C k_ratchetref08_reading_field [(strip t64_8)])) fun t65_10 =>
 M.bind (noPan (bs true (some 4) [t65_10])) fun t66_11 =>
 M.bind (noPan (ap true 4 32 t63_9 t66_11)) fun t67_12 =>
 M.bind (noPan (fa 3 v8)) fun t68_13 =>
 M.bind (noPan (st 1 true t68_13 t67_12)) fun _ =>
 M.pure [v0, .undef, v2, .undef, .undef, v5, .undef, v7, v8, v9, .undef, .undef, .undef, .undef, .undef, .undef, .undef, .undef, .undef, .undef, .undef, .undef, .undef, .undef, .undef, .undef, .undef, .undef, .undef, .undef, .undef, .undef, .undef, .undef, .undef, .undef, .undef, .undef, .undef, .undef, .undef, .undef, .undef, .undef, .undef, .undef, .undef, .undef, .undef, .undef, (strip v9), (strip v7), t52_0, (strip t52_0), t54_1, t55_2, t56_3, t57_4, t58_5, t59_6, .undef, .undef, t62_7, (strip t63_9), t64_8, t65_10, t66_11, (strip t67_12), t68_13, .undef, .undef, .undef, .undef, .undef, .undef, .undef, .undef, .undef, .undef, .undef]) <|
 M.bind (noPan (fa 3 v8)) fun t62_23 =>
 M.bind (noPan (M.pure (strip v0))) fun t64_24 =>
 M.bind (noPan (ld none true t62_23)) fun t63_25 =>
 M.bind (noPan (C k_ratchetref08_reading_field [(strip t64_24)])) fun t65_26 =>
 M.bind (noPan (bs true (some 4) [t65_26])) fun t66_27 =>
 M.bind (noPan (ap true 4 32 t63_25 t66_27)) fun t67_28 =>
 M.bind (noPan (fa 3 v8)) fun t68_29 =>
 M.bind (noPan (st 1 true t68_29 t67_28)) fun _ =>
 M.bind (bi .add .none (strip v9) (.int .i64 1)) fun t61_31 =>
 p_ratchetref08_reading_comp_11111010111011010 v0 v2 v5 v7 v8 t61_31)
 (M.bind (ld (some 4) true v8) fun t69_32 =>
 M.bind (st 4 true v2 t69_32) fun _ =>
 M.bind (ld (some 4) true v2) fun t0_34 => guardM (!isTup t0_34) (M.pure t0_34)) :=
 (atP_step P X _ _ _).trans (by kernel_rfl)
/-- (*ratchet/ratchetref08.reading).comp -/
theorem ratchetref08_reading_comp_eq (a0 : PV) : C k_ratchetref08_reading_comp [a0] =
 trunc (M.bind (al [(.int .i64 0), (.slice false true 0 []), (.slice false true 0 []), (.slice false true 0 [])]) fun t2_0 =>
 M.bind (C k_ratchetref08_reading_peek [(strip (strip a0))]) fun t12_1 =>
 M.bind (ex 0 (strip t12_1)) fun t13_2 =>
 M.bind (ex 1 (tupDrop 0 (strip t12_1))) fun t14_3 =>
 M.bind (un .not (strip t14_3)) fun t16_4 =>
 condM t16_4
 (M.bind (nc P (strip a0)) fun t19_5 =>
 M.bind (fa 0 t19_5) fun t20_6 =>
 M.bind (ld none false t20_6) fun t21_7 =>
 M.bind (lnL t21_7) fun t22_8 =>
 M.bind (C k_ratchetref08_reading_fail [(strip (strip a0)), (strip t22_8), (.int .i64 3)]) fun t23_9 =>
 M.bind (bd [(.int .i64 0), (.slice false true 0 []), (.slice false true 0 []), (.slice false true 0 [])] []) fun t24_10 =>
 M.bind (st 4 true t2_0 t24_10) fun _ =>
 M.bind (ld (some 4) true t2_0) fun t0_12 => guardM (!isTup t0_12) (M.pure t0_12))
 (M.bind (nc P (strip a0)) fun t26_13 =>
 M.bind (fa 1 t26_13) fun t27_14 =>
 M.bind (ld none true t27_14) fun t28_15 =>
 M.bind (nc P (strip a0)) fun t30_16 =>
 M.bind (fa 1 t30_16) fun t31_17 =>
 M.bind (ld none false t31_17) fun t32_18 =>
 M.bind (bi .add .none t32_18 (.int .i64 1)) fun t33_19 =>
 M.bind (nc P (strip a0)) fun t34_20 =>
 M.bind (fa 1 t34_20) fun t35_21 =>
 M.bind (st 1 true t35_21 t33_19) fun _ =>
 M.bind (bi .eql .none (strip t13_2) (.int .u8 96)) fun t38_23 =>
 condM t38_23
 (M.bind (C k_ratchetref08_reading_vals [(strip (strip a0))]) fun t40_24 =>
 M.bind (C k_ratchetref08_reading_vals [(strip (strip a0))]) fun t43_25 =>
 M.bind (bd [(.int .i64 0), (.slice false true 0 []), (.slice false true 0 []), (.slice false true 0 [])] [(0, 1, (.int .i64 1)), (1, 1, (strip t40_24)), (2, 1, t43_25)]) fun t44_26 =>
 M.bind (st 4 true t2_0 t44_26) fun _ =>
 M.bind (ld (some 4) true t2_0) fun t0_28 => guardM (!isTup t0_28) (M.pure t0_28))
 (M.bind (bi .eql .none (strip t13_2) (.int .u8 95)) fun t46_29 =>
 condM t46_29
 (M.bind (C k_ratchetref08_reading_many [(strip (strip a0)), (.int .i64 10000)]) fun t48_30 =>
 M.bind (bd [(.int .i64 0), (.slice false true 0 []), (.slice false true 0 []), (.slice false true 0 [])] [(0, 1, (.int .i64 2))]) fun t49_31 =>
 M.bind (al [(.int .i64 0), (.slice false true 0 []), (.slice false true 0 []), (.slice false true 0 [])]) fun t8_32 =>
 M.bind (st 4 true t8_32 t49_31) fun _ =>
 p_ratchetref08_reading_comp_11111010111011010 a0 t2_0 t28_15 t48_30 t8_32 (.int .i64 0))
 (M.bind (bi .eql .none (strip t13_2) (.int .u8 94)) fun t71_34 =>
 condM t71_34
 (M.bind (C k_ratchetref08_reading_field [(strip (strip a0))]) fun t73_35 =>
 M.bind (bs true (some 4) [t73_35]) fun t74_36 =>
 M.bind (bd [(.int .i64 0), (.slice false true 0 []), (.slice false true 0 []), (.slice false true 0 [])] [(0, 1, (.int .i64 3)), (3, 1, t74_36)]) fun t75_37 =>
 M.bind (st 4 true t2_0 t75_37) fun _ =>
 M.bind (ld (some 4) true t2_0) fun t0_39 => guardM (!isTup t0_39) (M.pure t0_39))
 (M.bind (C k_ratchetref08_reading_fail [(strip (strip a0)), (strip (strip t28_15)), (.int .i64 4)]) fun t78_40 =>
 M.bind (bd [(.int .i64 0), (.slice false true 0 []), (.slice false true 0 []), (.slice false true 0 [])] []) fun t79_41 =>
 M.bind (st 4 true t2_0 t79_41) fun _ =>
 M.bind (ld (some 4) true t2_0) fun t0_43 => guardM (!isTup t0_43) (M.pure t0_43)))))) := by
 rw [C, callW_eq _ _ rfl]; kernel_rfl
noncomputable def p_ratchetref05_SameVals_11010 (v0 v1 v4 v5 : PV) : M PV := atP P X k_ratchetref05_SameVals [1, 1, 0, 1, 0] (mkEnv 27 0 [(0, v0), (1, v1), (4, v4), (5, v5)])
theorem p_ratchetref05_SameVals_11010_eq (v0 v1 v4 v5 : PV) : p_ratchetref05_SameVals_11010 v0 v1 v4 v5 =
 M.bind (lnL (strip v0)) fun t13_0 =>
 M.bind (bi .lss .none (strip v5) t13_0) fun t14_1 =>
 condM t14_1
 (M.bind (noPan (M.pure (strip v0))) fun t17_12 =>
 M.bind (noPan (M.pure (strip v5))) fun t18_13 =>
 M.bind (noPan (iaS 3 t17_12 t18_13)) fun t19_14 =>
 M.bind (noPan (M.pure (strip v1))) fun t21_15 =>
 M.bind (noPan (M.pure (strip v5))) fun t22_16 =>
 M.bind (noPan (iaS 3 t21_15 t22_16)) fun t23_17 =>
 M.bind (noPan (ld (some 3) false t19_14)) fun t20_18 =>
 M.bind (noPan (ld (some 3) false t23_17)) fun t24_19 =>
 M.bind (noPan (C k_ratchetref05_Same [(strip t20_18), (strip t24_19)])) fun t25_20 =>
 M.bind (noPan (un .not t25_20)) fun t26_21 =>
 condM t26_21
 (M.pure (.bool false))
 (M.bind (bi .add .none (strip v5) (.int .i64 1)) fun t16_22 =>
 p_ratchetref05_SameVals_11010 v0 v1 v4 t16_22))
 (M.pure (.bool true)) :=
 (atP_step P X _ _ _).trans (by kernel_rfl)
/-- ratchet/ratchetref05.SameVals -/
theorem ratchetref05_SameVals_eq (a0 a1 : PV) : C k_ratchetref05_SameVals [a0, a1] =
 trunc (M.bind (lnL (strip a0)) fun t7_0 =>
 M.bind (lnL (strip a1)) fun t9_1 =>
 M.bind (bi .neq .none t7_0 t9_1) fun t10_2 =>
 condM t10_2
 (M.pure (.bool false))
 (p_ratchetref05_SameVals_11010 a0 a1 (.bool false) (.int .i64 0))) := by
 rw [C, callW_eq _ _ rfl]; kernel_rfl
noncomputable def p_ratchetref05_sameFields_11010 (v0 v1 v4 v5 : PV) : M PV := atP P X k_ratchetref05_sameFields [1, 1, 0, 1, 0] (mkEnv 42 0 [(0, v0), (1, v1), (4, v4), (5, v5)])
theorem p_ratchetref05_sameFields_11010_eq (v0 v1 v4 v5 : PV) : p_ratchetref05_sameFields_11010 v0 v1 v4 v5 =
 M.bind (lnL (strip v0)) fun t13_0 =>
 M.bind (bi .lss .none (strip v5) t13_0) fun t14_1 =>
 condM t14_1
 (M.bind (noPan (M.pure (strip v0))) fun t17_27 =>
 M.bind (noPan (M.pure (strip v5))) fun t18_28 =>
 M.bind (noPan (iaS 4 t17_27 t18_28)) fun t19_29 =>
 M.bind (noPan (fa 3 t19_29)) fun t20_30 =>
 M.bind (noPan (M.pure (strip v1))) fun t22_31 =>
 M.bind (noPan (M.pure (strip v5))) fun t23_32 =>
 M.bind (noPan (iaS 4 t22_31 t23_32)) fun t24_33 =>
 M.bind (noPan (fa 3 t24_33)) fun t25_34 =>
 M.bind (noPan (ld none false t20_30)) fun t21_35 =>
 M.bind (noPan (ld none false t25_34)) fun t26_36 =>
 M.bind (noPan (bi .neq .bool t21_35 t26_36)) fun t27_37 =>
 M.bind (noPan (M.pure (strip t27_37))) fun t28_38 =>
 M.bind (noPan (gd t28_38 false (M.pure (strip v0)))) fun t29_39 =>
 M.bind (noPan (gd t28_38 false (M.pure (strip v5)))) fun t30_40 =>
 M.bind (noPan (gd t28_38 false (iaS 4 t29_39 t30_40))) fun t31_41 =>
 M.bind (noPan (gd t28_38 false (fa 0 t31_41))) fun t32_42 =>
 M.bind (noPan (gd t28_38 false (M.pure (strip v1)))) fun t34_43 =>
 M.bind (noPan (gd t28_38 false (M.pure (strip v5)))) fun t35_44 =>
 M.bind (noPan (gd t28_38 false (iaS 4 t34_43 t35_44))) fun t36_45 =>
 M.bind (noPan (gd t28_38 false (fa 0 t36_45))) fun t37_46 =>
 M.bind (noPan (gd t28_38 false (ld (some 3) false t32_42))) fun t33_47 =>
 M.bind (noPan (gd t28_38 false (ld (some 3) false t37_46))) fun t38_48 =>
 M.bind (noPan (gd t28_38 false (C k_ratchetref05_Same [(strip t33_47), (strip t38_48)]))) fun t39_49 =>
 M.bind (noPan (gd t28_38 false (un .not t39_49))) fun t40_50 =>
 M.bind (noPan (pick t28_38 (.bool true) t40_50)) fun t41_51 =>
 condM t41_51
 (M.pure (.bool false))
 (M.bind (bi .add .none (strip v5) (.int .i64 1)) fun t16_52 =>
 p_ratchetref05_sameFields_11010 v0 v1 v4 t16_52))
 (M.pure (.bool true)) :=
 (atP_step P X _ _ _).trans (by kernel_rfl)
/-- ratchet/ratchetref05.sameFields -/
theorem ratchetref05_sameFields_eq (a0 a1 : PV) : C k_ratchetref05_sameFields [a0, a1] =
 trunc (M.bind (lnL (strip a0)) fun t7_0 =>
 M.bind (lnL (strip a1)) fun t9_1 =>
 M.bind (bi .neq .none t7_0 t9_1) fun t10_2 =>
 condM t10_2
 (M.pure (.bool false))
 (p_ratchetref05_sameFields_11010 a0 a1 (.bool false) (.int .i64 0))) := by
 rw [C, callW_eq _ _ rfl]; kernel_rfl
/-- ratchet/entry.read[ratchet/api.SubType] -/
theorem entry_read_api_SubType_eq (a0 a1 a2 : PV) : C k_entry_read_api_SubType [a0, a1, a2] =
 trunc (M.bind (al [(.bool false), (.slice false true 0 []), (.int .i64 0), (.slice false true 0 []), (.slice false true 0 []), (.slice false true 0 [])]) fun t6_0 =>
 M.bind (al [(.int .i64 0)]) fun t7_1 =>
 M.bind (al [(.int .i64 0)]) fun t8_2 =>
 M.bind (al [(.bool false), (.slice false true 0 []), (.int .i64 0), (.slice false true 0 []), (.slice false true 0 []), (.slice false true 0 [])]) fun t9_3 =>
 M.bind (bi .lss .none (strip a1) (.int .i64 0)) fun t12_4 =>
 M.bind (gd (strip t12_4) false (M.pure (strip a1))) fun t14_5 =>
 M.bind (gd (strip t12_4) false (M.pure (strip a0))) fun t15_6 =>
 M.bind (gd (strip t12_4) false (lnL t15_6)) fun t16_7 =>
 M.bind (gd (strip t12_4) false (bi .gtr .none t14_5 t16_7)) fun t17_8 =>
 M.bind (pick (strip t12_4) (.bool true) t17_8) fun t18_9 =>
 condM t18_9
 (M.bind (ld (some 6) true t9_3) fun t19_10 =>
 M.bind (st 6 true t6_0 t19_10) fun _ =>
 M.bind (st 1 false t7_1 (.int .i64 0)) fun _ =>
 M.bind (st 1 false t8_2 (.int .i64 1)) fun _ =>
 M.bind (ld (some 6) true t6_0) fun t0_14 => guardM (!isTup t0_14) (M.bind (ld none true t7_1) fun t0_15 => guardM (!isTup t0_15) (M.bind (ld none true t8_2) fun t0_16 => guardM (!isTup t0_16) (M.pure (.tup [t0_14, t0_15, t0_16])))))
 (M.bind (mf k_entry_read_api_SubType_1 [] [t9_3, t6_0, t7_1, t8_2]) fun t20_17 =>
 guardM (isPtr t6_0 && isPtr t7_1 && isPtr t8_2) <| deferM CD t20_17 []
 (M.bind (bd [(.slice false true 0 []), (.int .i64 0)] [(0, 1, (strip a0)), (1, 1, (strip a1))]) fun t23_18 =>
 M.bind (bx 2 t23_18) fun t24_19 =>
 M.bind (callV P C (strip a2) [(strip (strip t24_19))]) fun t27_20 =>
 M.bind (st 6 true t6_0 t27_20) fun _ =>
 chk
 (M.bind (noPan (M.pure (strip t24_19))) fun t29_30 =>
 M.bind (noPan (nc P t29_30)) fun t30_31 =>
 M.bind (noPan (fa 1 t30_31)) fun t31_32 =>
 M.bind (noPan (ld (some 6) true t6_0)) fun t28_33 =>
 M.bind (noPan (st 6 true t6_0 t28_33)) fun _ =>
 M.bind (noPan (ld none true t31_32)) fun t32_35 =>
 M.bind (noPan (st 1 true t7_1 t32_35)) fun _ =>
 M.bind (noPan (st 1 false t8_2 (.int .i64 0))) fun _ =>
 M.pure [a0, a1, a2, .undef, .undef, .undef, t6_0, t7_1, t8_2, t9_3, t24_19, (strip a1), t12_4, (strip t12_4), t14_5, t15_6, t16_7, t17_8, t18_9, .undef, t20_17, (strip a0), (strip a1), t23_18, (strip t24_19), (strip a2), (strip t24_19), (strip t27_20), (strip t28_33), t29_30, t30_31, t31_32, (strip t32_35)])
 (M.bind (noPan (M.pure (strip t24_19))) fun t29_22 =>
 M.bind (noPan (nc P t29_22)) fun t30_23 =>
 M.bind (noPan (fa 1 t30_23)) fun t31_24 =>
 M.bind (noPan (ld (some 6) true t6_0)) fun t28_25 =>
 M.bind (noPan (ld none true t31_24)) fun t32_26 =>
 M.bind (noPan (st 6 true t6_0 t28_25)) fun _ =>
 M.bind (noPan (st 1 true t7_1 t32_26)) fun _ =>
 M.bind (noPan (st 1 false t8_2 (.int .i64 0))) fun _ =>
 M.pure [a0, a1, a2, .undef, .undef, .undef, t6_0, t7_1, t8_2, t9_3, t24_19, (strip a1), t12_4, (strip t12_4), t14_5, t15_6, t16_7, t17_8, t18_9, .undef, t20_17, (strip a0), (strip a1), t23_18, (strip t24_19), (strip a2), (strip t24_19), (strip t27_20), (strip t28_25), t29_22, t30_23, t31_24, (strip t32_26)]) <|
 chk
 (M.bind (noPan (M.pure (strip t24_19))) fun t29_38 =>
 M.bind (noPan (nc P t29_38)) fun t30_39 =>
 M.bind (noPan (fa 1 t30_39)) fun t31_40 =>
 M.bind (noPan (ld none true t31_40)) fun t32_41 =>
 M.bind (noPan (ld (some 6) true t6_0)) fun t28_42 =>
 M.bind (noPan (st 6 true t6_0 t28_42)) fun _ =>
 M.bind (noPan (st 1 true t7_1 t32_41)) fun _ =>
 M.bind (noPan (st 1 false t8_2 (.int .i64 0))) fun _ =>
 M.pure [a0, a1, a2, .undef, .undef, .undef, t6_0, t7_1, t8_2, t9_3, t24_19, (strip a1), t12_4, (strip t12_4), t14_5, t15_6, t16_7, t17_8, t18_9, .undef, t20_17, (strip a0), (strip a1), t23_18, (strip t24_19), (strip a2), (strip t24_19), (strip t27_20), (strip t28_42), t29_38, t30_39, t31_40, (strip t32_41)])
 (M.bind (noPan (M.pure (strip t24_19))) fun t29_22 =>
 M.bind (noPan (nc P t29_22)) fun t30_23 =>
 M.bind (noPan (fa 1 t30_23)) fun t31_24 =>
 M.bind (noPan (ld (some 6) true t6_0)) fun t28_25 =>
 M.bind (noPan (ld none true t31_24)) fun t32_26 =>
 M.bind (noPan (st 6 true t6_0 t28_25)) fun _ =>
 M.bind (noPan (st 1 true t7_1 t32_26)) fun _ =>
 M.bind (noPan (st 1 false t8_2 (.int .i64 0))) fun _ =>
 M.pure [a0, a1, a2, .undef, .undef, .undef, t6_0, t7_1, t8_2, t9_3, t24_19, (strip a1), t12_4, (strip t12_4), t14_5, t15_6, t16_7, t17_8, t18_9, .undef, t20_17, (strip a0), (strip a1), t23_18, (strip t24_19), (strip a2), (strip t24_19), (strip t27_20), (strip t28_25), t29_22, t30_23, t31_24, (strip t32_26)]) <|
 M.bind (noPan (M.pure (strip t24_19))) fun t29_46 =>
 M.bind (noPan (nc P t29_46)) fun t30_47 =>
 M.bind (noPan (fa 1 t30_47)) fun t31_48 =>
 M.bind (noPan (ld (some 6) true t6_0)) fun t28_49 =>
 M.bind (noPan (ld none true t31_48)) fun t32_50 =>
 M.bind (noPan (st 6 true t6_0 t28_49)) fun _ =>
 M.bind (noPan (st 1 true t7_1 t32_50)) fun _ =>
 M.bind (noPan (st 1 false t8_2 (.int .i64 0))) fun _ =>
 M.bind (ld (some 6) true t6_0) fun t0_54 => guardM (!isTup t0_54) (M.bind (ld none true t7_1) fun t0_55 => guardM (!isTup t0_55) (M.bind (ld none true t8_2) fun t0_56 => guardM (!isTup t0_56) (M.pure (.tup [t0_54, t0_55, t0_56])))))
 (M.bind (ld (some 6) true t6_0) fun t0_57 => guardM (!isTup t0_57) (M.bind (ld none true t7_1) fun t0_58 => guardM (!isTup t0_58) (M.bind (ld none true t8_2) fun t0_59 => guardM (!isTup t0_59) (M.pure (.tup [t0_57, t0_58, t0_59]))))))) := by
 rw [C, callW_eq _ _ rfl]; kernel_rfl
/-- (*ratchet/entry.cursor).sub -/
theorem entry_cursor_sub_eq (a0 : PV) : C k_entry_cursor_sub [a0] =
 trunc (M.bind (al [(.bool false), (.slice false true 0 []), (.int .i64 0), (.slice false true 0 []), (.slice false true 0 []), (.slice false true 0 [])]) fun t2_0 =>
 M.bind (C k_entry_cursor_look [(strip (strip a0))]) fun t6_1 =>
 M.bind (bi .neq .none (strip t6_1) (.int .u8 80)) fun t8_2 =>
 M.bind (gd (strip t8_2) true (M.pure (strip t6_1))) fun t10_3 =>
 M.bind (gd (strip t8_2) true (bi .neq .none t10_3 (.int .u8 79))) fun t11_4 =>
 M.bind (pick (strip t8_2) t11_4 (.bool false)) fun t12_5 =>
 condM t12_5
 (M.bind (C k_entry_cursor_comp [(strip (strip a0))]) fun t14_6 =>
 M.bind (bd [(.bool false), (.slice false true 0 []), (.int .i64 0), (.slice false true 0 []), (.slice false true 0 []), (.slice false true 0 [])] [(0, 1, (.bool true)), (2, 4, t14_6)]) fun t15_7 =>
 M.bind (st 6 true t2_0 t15_7) fun _ =>
 M.bind (ld (some 6) true t2_0) fun t0_9 => guardM (!isTup t0_9) (M.pure t0_9))
 (M.bind (nc P (strip a0)) fun t17_10 =>
 M.bind (fa 1 t17_10) fun t18_11 =>
 M.bind (ld none false t18_11) fun t19_12 =>
 M.bind (bi .add .none t19_12 (.int .i64 1)) fun t20_13 =>
 M.bind (nc P (strip a0)) fun t21_14 =>
 M.bind (fa 1 t21_14) fun t22_15 =>
 M.bind (st 1 true t22_15 t20_13) fun _ =>
 M.bind (bi .eql .none (strip t6_1) (.int .u8 79)) fun t24_17 =>
 M.bind (mf k_entry_cursor_index [(strip a0)] []) fun t27_18 =>
 M.bind (C k_entry_list_int [(strip (strip a0)), (.int .u32 1000), (strip t27_18)]) fun t28_19 =>
 M.bind (bd [(.bool false), (.slice false true 0 []), (.int .i64 0), (.slice false true 0 []), (.slice false true 0 []), (.slice false true 0 [])] [(0, 1, t24_17), (1, 1, t28_19)]) fun t29_20 =>
 M.bind (al [(.bool false), (.slice false true 0 []), (.int .i64 0), (.slice false true 0 []), (.slice false true 0 []), (.slice false true 0 [])]) fun t4_21 =>
 M.bind (st 6 true t4_21 t29_20) fun _ =>
 M.bind (C k_entry_cursor_comp [(strip (strip a0))]) fun t31_23 =>
 M.bind (fa 2 t4_21) fun t32_24 =>
 M.bind (st 4 true t32_24 t31_23) fun _ =>
 M.bind (ld (some 6) true t4_21) fun t33_26 =>
 M.bind (st 6 true t2_0 t33_26) fun _ =>
 M.bind (ld (some 6) true t2_0) fun t0_28 => guardM (!isTup t0_28) (M.pure t0_28))) := by
 rw [C, callW_eq _ _ rfl]; kernel_rfl
noncomputable def p_ratchetref08_reading_sub_111111010 (v0 v2 v5 v6 v7 : PV) : M PV := atP P X k_ratchetref08_reading_sub [1, 1, 1, 1, 1, 1, 0, 1, 0] (mkEnv 61 0 [(0, v0), (2, v2), (5, v5), (6, v6), (7, v7)])
theorem p_ratchetref08_reading_sub_111111010_eq (v0 v2 v5 v6 v7 : PV) : p_ratchetref08_reading_sub_111111010 v0 v2 v5 v6 v7 =
 M.bind (bi .lss .none (strip v7) (strip v6)) fun t40_0 =>
 M.bind (gd (strip t40_0) true (M.pure (strip v0))) fun t42_1 =>
 M.bind (gd (strip t40_0) true (nc P t42_1)) fun t43_2 =>
 M.bind (gd (strip t40_0) true (fa 3 t43_2)) fun t44_3 =>
 M.bind (gd (strip t40_0) true (ld none false t44_3)) fun t45_4 =>
 M.bind (gd (strip t40_0) true (bi .eql .none t45_4 (.int .i64 0))) fun t46_5 =>
 M.bind (pick (strip t40_0) t46_5 (.bool false)) fun t47_6 =>
 condM t47_6
 (chk
 (M.bind (noPan (fa 1 v5)) fun t50_15 =>
 M.bind (noPan (M.pure (strip v0))) fun t52_16 =>
 M.bind (noPan (C k_ratchetref08_reading_typeAt [(strip t52_16)])) fun t53_17 =>
 M.bind (noPan (bs true none [t53_17])) fun t54_18 =>
 M.bind (noPan (ld none true t50_15)) fun t51_19 =>
 M.bind (noPan (ap true 1 8 t51_19 t54_18)) fun t55_20 =>
 M.bind (noPan (fa 1 v5)) fun t56_21 =>
 M.bind (noPan (st 1 true t56_21 t55_20)) fun _ =>
 M.pure [v0, .undef, v2, .undef, .undef, v5, v6, v7, .undef, .undef, .undef, .undef, .undef, .undef, .undef, .undef, .undef, .undef, .undef, .undef, .undef, .undef, .undef, .undef, .undef, .undef, .undef, .undef, .undef, .undef, .undef, .undef, .undef, .undef, .undef, .undef, .undef, .undef, (strip v7), (strip v6), t40_0, (strip t40_0), t42_1, t43_2, t44_3, t45_4, t46_5, t47_6, .undef, .undef, t50_15, (strip t51_19), t52_16, t53_17, t54_18, (strip t55_20), t56_21, .undef, .undef, .undef, .undef])
 (M.bind (noPan (fa 1 v5)) fun t50_7 =>
 M.bind (noPan (M.pure (strip v0))) fun t52_8 =>
 M.bind (noPan (ld none true t50_7)) fun t51_9 =>
 M.bind (noPan (C k_ratchetref08_reading_typeAt [(strip t52_8)])) fun t53_10 =>
 M.bind (noPan (bs true none [t53_10])) fun t54_11 =>
 M.bind (noPan (ap true 1 8 t51_9 t54_11)) fun t55_12 =>
 M.bind (noPan (fa 1 v5)) fun t56_13 =>
 M.bind (noPan (st 1 true t56_13 t55_12)) fun _ =>
 M.pure [v0, .undef, v2, .undef, .undef, v5, v6, v7, .undef, .undef, .undef, .undef, .undef, .undef, .undef, .undef, .undef, .undef, .undef, .undef, .undef, .undef, .undef, .undef, .undef, .undef, .undef, .undef, .undef, .undef, .undef, .undef, .undef, .undef, .undef, .undef, .undef, .undef, (strip v7), (strip v6), t40_0, (strip t40_0), t42_1, t43_2, t44_3, t45_4, t46_5, t47_6, .undef, .undef, t50_7, (strip t51_9), t52_8, t53_10, t54_11, (strip t55_12), t56_13, .undef, .undef, .undef, .undef]) <|
 M.bind (noPan (fa 1 v5)) fun t50_23 =>
 M.bind (noPan (M.pure (strip v0))) fun t52_24 =>
 M.bind (noPan (ld none true t50_23)) fun t51_25 =>
 M.bind (noPan (C k_ratchetref08_reading_typeAt [(strip t52_24)])) fun t53_26 =>
 M.bind (noPan (bs true none [t53_26])) fun t54_27 =>
 M.bind (noPan (ap true 1 8 t51_25 t54_27)) fun t55_28 =>
 M.bind (noPan (fa 1 v5)) fun t56_29 =>
 M.bind (noPan (st 1 true t56_29 t55_28)) fun _ =>
 M.bind (bi .add .none (strip v7) (.int .i64 1)) fun t49_31 =>
 p_ratchetref08_reading_sub_111111010 v0 v2 v5 v6 t49_31)
 (M.bind (C k_ratchetref08_reading_comp [(strip (strip v0))]) fun t58_32 =>
 M.bind (fa 2 v5) fun t59_33 =>
 M.bind (st 4 true t59_33 t58_32) fun _ =>
 M.bind (ld (some 6) true v5) fun t60_35 =>
 M.bind (st 6 true v2 t60_35) fun _ =>
 M.bind (ld (some 6) true v2) fun t0_37 => guardM (!isTup t0_37) (M.pure t0_37)) :=
 (atP_step P X _ _ _).trans (by kernel_rfl)
/-- (*ratchet/ratchetref08.reading).sub -/
theorem ratchetref08_reading_sub_eq (a0 : PV) : C k_ratchetref08_reading_sub [a0] =
 trunc (M.bind (al [(.bool false), (.slice false true 0 []), (.int .i64 0), (.slice false true 0 []), (.slice false true 0 []), (.slice false true 0 [])]) fun t2_0 =>
 M.bind (C k_ratchetref08_reading_peek [(strip (strip a0))]) fun t10_1 =>
 M.bind (ex 0 (strip t10_1)) fun t11_2 =>
 M.bind (ex 1 (tupDrop 0 (strip t10_1))) fun t12_3 =>
 M.bind (un .not (strip t12_3)) fun t14_4 =>
 M.bind (gd (strip t14_4) false (M.pure (strip t11_2))) fun t16_5 =>
 M.bind (gd (strip t14_4) false (bi .neq .none t16_5 (.int .u8 80))) fun t17_6 =>
 M.bind (gd (strip t14_4) false (M.pure (strip t17_6))) fun t18_7 =>
 M.bind (gd t18_7 true (M.pure (strip t11_2))) fun t19_8 =>
 M.bind (gd t18_7 true (bi .neq .none t19_8 (.int .u8 79))) fun t20_9 =>
 M.bind (gd (strip t14_4) false (pick t18_7 t20_9 (.bool false))) fun t21_10 =>
 M.bind (pick (strip t14_4) (.bool true) t21_10) fun t22_11 =>
 condM t22_11
 (M.bind (C k_ratchetref08_reading_comp [(strip (strip a0))]) fun t24_12 =>
 M.bind (bd [(.bool false), (.slice false true 0 []), (.int .i64 0), (.slice false true 0 []), (.slice false true 0 []), (.slice false true 0 [])] [(0, 1, (.bool true)), (2, 4, t24_12)]) fun t25_13 =>
 M.bind (st 6 true t2_0 t25_13) fun _ =>
 M.bind (ld (some 6) true t2_0) fun t0_15 => guardM (!isTup t0_15) (M.pure t0_15))
 (M.bind (nc P (strip a0)) fun t27_16 =>
 M.bind (fa 1 t27_16) fun t28_17 =>
 M.bind (ld none false t28_17) fun t29_18 =>
 M.bind (bi .add .none t29_18 (.int .i64 1)) fun t30_19 =>
 M.bind (nc P (strip a0)) fun t31_20 =>
 M.bind (fa 1 t31_20) fun t32_21 =>
 M.bind (st 1 true t32_21 t30_19) fun _ =>
 M.bind (bi .eql .none (strip t11_2) (.int .u8 79)) fun t34_23 =>
 M.bind (bd [(.bool false), (.slice false true 0 []), (.int .i64 0), (.slice false true 0 []), (.slice false true 0 []), (.slice false true 0 [])] [(0, 1, t34_23)]) fun t35_24 =>
 M.bind (al [(.bool false), (.slice false true 0 []), (.int .i64 0), (.slice false true 0 []), (.slice false true 0 []), (.slice false true 0 [])]) fun t5_25 =>
 M.bind (st 6 true t5_25 t35_24) fun _ =>
 M.bind (C k_ratchetref08_reading_many [(strip (strip a0)), (.int .i64 1000)]) fun t37_27 =>
 p_ratchetref08_reading_sub_111111010 a0 t2_0 t5_25 t37_27 (.int .i64 0))) := by
 rw [C, callW_eq _ _ rfl]; kernel_rfl
/-- ratchet/entry.read[ratchet/api.RecType] -/
theorem entry_read_api_RecType_eq (a0 a1 a2 : PV) : C k_entry_read_api_RecType [a0, a1, a2] =
 trunc (M.bind (al [(.slice false true 0 []), (.bool false)]) fun t6_0 =>
 M.bind (al [(.int .i64 0)]) fun t7_1 =>
 M.bind (al [(.int .i64 0)]) fun t8_2 =>
 M.bind (al [(.slice false true 0 []), (.bool false)]) fun t9_3 =>
 M.bind (bi .lss .none (strip a1) (.int .i64 0)) fun t12_4 =>
 M.bind (gd (strip t12_4) false (M.pure (strip a1))) fun t14_5 =>
 M.bind (gd (strip t12_4) false (M.pure (strip a0))) fun t15_6 =>
 M.bind (gd (strip t12_4) false (lnL t15_6)) fun t16_7 =>
 M.bind (gd (strip t12_4) false (bi .gtr .none t14_5 t16_7)) fun t17_8 =>
 M.bind (pick (strip t12_4) (.bool true) t17_8) fun t18_9 =>
 condM t18_9
 (M.bind (ld (some 2) true t9_3) fun t19_10 =>
 M.bind (st 2 true t6_0 t19_10) fun _ =>
 M.bind (st 1 false t7_1 (.int .i64 0)) fun _ =>
 M.bind (st 1 false t8_2 (.int .i64 1)) fun _ =>
 M.bind (ld (some 2) true t6_0) fun t0_14 => guardM (!isTup t0_14) (M.bind (ld none true t7_1) fun t0_15 => guardM (!isTup t0_15) (M.bind (ld none true t8_2) fun t0_16 => guardM (!isTup t0_16) (M.pure (.tup [t0_14, t0_15, t0_16])))))
 (M.bind (mf k_entry_read_api_RecType_1 [] [t9_3, t6_0, t7_1, t8_2]) fun t20_17 =>
 guardM (isPtr t6_0 && isPtr t7_1 && isPtr t8_2) <| deferM CD t20_17 []
 (M.bind (bd [(.slice false true 0 []), (.int .i64 0)] [(0, 1, (strip a0)), (1, 1, (strip a1))]) fun t23_18 =>
 M.bind (bx 2 t23_18) fun t24_19 =>
 M.bind (callV P C (strip a2) [(strip (strip t24_19))]) fun t27_20 =>
 M.bind (st 2 true t6_0 t27_20) fun _ =>
 chk
 (M.bind (noPan (M.pure (strip t24_19))) fun t29_30 =>
 M.bind (noPan (nc P t29_30)) fun t30_31 =>
 M.bind (noPan (fa 1 t30_31)) fun t31_32 =>
 M.bind (noPan (ld (some 2) true t6_0)) fun t28_33 =>
 M.bind (noPan (st 2 true t6_0 t28_33)) fun _ =>
 M.bind (noPan (ld none true t31_32)) fun t32_35 =>
 M.bind (noPan (st 1 true t7_1 t32_35)) fun _ =>
 M.bind (noPan (st 1 false t8_2 (.int .i64 0))) fun _ =>
 M.pure [a0, a1, a2, .undef, .undef, .undef, t6_0, t7_1, t8_2, t9_3, t24_19, (strip a1), t12_4, (strip t12_4), t14_5, t15_6, t16_7, t17_8, t18_9, .undef, t20_17, (strip a0), (strip a1), t23_18, (strip t24_19), (strip a2), (strip t24_19), (strip t27_20), (strip t28_33), t29_30, t30_31, t31_32, (strip t32_35)])
 (M.bind (noPan (M.pure (strip t24_19))) fun t29_22 =>
 M.bind (noPan (nc P t29_22)) fun t30_23 =>
 M.bind (noPan (fa 1 t30_23)) fun t31_24 =>
 M.bind (noPan (ld (some 2) true t6_0)) fun t28_25 =>
 M.bind (noPan (ld none true t31_24)) fun t32_26 =>
 M.bind (noPan (st 2 true t6_0 t28_25)) fun _ =>
 M.bind (noPan (st 1 true t7_1 t32_26)) fun _ =>
 M.bind (noPan (st 1 false t8_2 (.int .i64 0))) fun _ =>
 M.pure [a0, a1, a2, .undef, .undef, .undef, t6_0, t7_1, t8_2, t9_3, t24_19, (strip a1), t12_4, (strip t12_4), t14_5, t15_6, t16_7, t17_8, t18_9, .undef, t20_17, (strip a0), (strip a1), t23_18, (strip t24_19), (strip a2), (strip t24_19), (strip t27_20), (strip t28_25), t29_22, t30_23, t31_24, (strip t32_26)]) <|
 chk
 (M.bind (noPan (M.pure (strip t24_19))) fun t29_38 =>
 M.bind (noPan (nc P t29_38)) fun t30_39 =>
 M.bind (noPan (fa 1 t30_39)) fun t31_40 =>
 M.bind (noPan (ld none true t31_40)) fun t32_41 =>
 M.bind (noPan (ld (some 2) true t6_0)) fun t28_42 =>
 M.bind (noPan (st 2 true t6_0 t28_42)) fun _ =>
 M.bind (noPan (st 1 true t7_1 t32_41)) fun _ =>
 M.bind (noPan (st 1 false t8_2 (.int .i64 0))) fun _ =>
 M.pure [a0, a1, a2, .undef, .undef, .undef, t6_0, t7_1, t8_2, t9_3, t24_19, (strip a1), t12_4, (strip t12_4), t14_5, t15_6, t16_7, t17_8, t18_9, .undef, t20_17, (strip a0), (strip a1), t23_18, (strip t24_19), (strip a2), (strip t24_19), (strip t27_20), (strip t28_42), t29_38, t30_39, t31_40, (strip t32_41)])
 (M.bind (noPan (M.pure (strip t24_19))) fun t29_22 =>
 M.bind (noPan (nc P t29_22)) fun t30_23 =>
 M.bind (noPan (fa 1 t30_23)) fun t31_24 =>
 M.bind (noPan (ld (some 2) true t6_0)) fun t28_25 =>
 M.bind (noPan (ld none true t31_24)) fun t32_26 =>
 M.bind (noPan (st 2 true t6_0 t28_25)) fun _ =>
 M.bind (noPan (st 1 true t7_1 t32_26)) fun _ =>
 M.bind (noPan (st 1 false t8_2 (.int .i64 0))) fun _ =>
 M.pure [a0, a1, a2, .undef, .undef, .undef, t6_0, t7_1, t8_2, t9_3, t24_19, (strip a1), t12_4, (strip t12_4), t14_5, t15_6, t16_7, t17_8, t18_9, .undef, t20_17, (strip a0), (strip a1), t23_18, (strip t24_19), (strip a2), (strip t24_19), (strip t27_20), (strip t28_25), t29_22, t30_23, t31_24, (strip t32_26)]) <|
 M.bind (noPan (M.pure (strip t24_19))) fun t29_46 =>
 M.bind (noPan (nc P t29_46)) fun t30_47 =>
 M.bind (noPan (fa 1 t30_47)) fun t31_48 =>
 M.bind (noPan (ld (some 2) true t6_0)) fun t28_49 =>
 M.bind (noPan (ld none true t31_48)) fun t32_50 =>
 M.bind (noPan (st 2 true t6_0 t28_49)) fun _ =>
 M.bind (noPan (st 1 true t7_1 t32_50)) fun _ =>
 M.bind (noPan (st 1 false t8_2 (.int .i64 0))) fun _ =>
 M.bind (ld (some 2) true t6_0) fun t0_54 => guardM (!isTup t0_54) (M.bind (ld none true t7_1) fun t0_55 => guardM (!isTup t0_55) (M.bind (ld none true t8_2) fun t0_56 => guardM (!isTup t0_56) (M.pure (.tup [t0_54, t0_55, t0_56])))))
 (M.bind (ld (some 2) true t6_0) fun t0_57 => guardM (!isTup t0_57) (M.bind (ld none true t7_1) fun t0_58 => guardM (!isTup t0_58) (M.bind (ld none true t8_2) fun t0_59 => guardM (!isTup t0_59) (M.pure (.tup [t0_57, t0_58, t0_59]))))))) := by
 rw [C, callW_eq _ _ rfl]; kernel_rfl
/-- (*ratchet/entry.cursor).rec -/
theorem entry_cursor_rec_eq (a0 : PV) : C k_entry_cursor_rec [a0] =
 trunc (M.bind (al [(.slice false true 0 []), (.bool false)]) fun t2_0 =>
 M.bind (C k_entry_cursor_look [(strip (strip a0))]) fun t4_1 =>
 M.bind (bi .neq .none t4_1 (.int .u8 78)) fun t5_2 =>
 condM t5_2
 (M.bind (C k_entry_cursor_sub [(strip (strip a0))]) fun t7_3 =>
 M.bind (bs true (some 6) [t7_3]) fun t8_4 =>
 M.bind (bd [(.slice false true 0 []), (.bool false)] [(0, 1, t8_4)]) fun t9_5 =>
 M.bind (st 2 true t2_0 t9_5) fun _ =>
 M.bind (ld (some 2) true t2_0) fun t0_7 => guardM (!isTup t0_7) (M.pure t0_7))
 (M.bind (nc P (strip a0)) fun t11_8 =>
 M.bind (fa 1 t11_8) fun t12_9 =>
 M.bind (ld none false t12_9) fun t13_10 =>
 M.bind (bi .add .none t13_10 (.int .i64 1)) fun t14_11 =>
 M.bind (nc P (strip a0)) fun t15_12 =>
 M.bind (fa 1 t15_12) fun t16_13 =>
 M.bind (st 1 true t16_13 t14_11) fun _ =>
 M.bind (mf k_entry_cursor_sub [(strip a0)] []) fun t19_15 =>
 M.bind (C k_entry_list_api_SubType [(strip (strip a0)), (.int .u32 10000), (strip t19_15)]) fun t20_16 =>
 M.bind (bd [(.slice false true 0 []), (.bool false)] [(1, 1, (.bool true)), (0, 1, t20_16)]) fun t21_17 =>
 M.bind (st 2 true t2_0 t21_17) fun _ =>
 M.bind (ld (some 2) true t2_0) fun t0_19 => guardM (!isTup t0_19) (M.pure t0_19))) := by
 rw [C, callW_eq _ _ rfl]; kernel_rfl
noncomputable def p_ratchetref08_reading_rec_111111010 (v0 v2 v5 v6 v7 : PV) : M PV := atP P X k_ratchetref08_reading_rec [1, 1, 1, 1, 1, 1, 0, 1, 0] (mkEnv 53 0 [(0, v0), (2, v2), (5, v5), (6, v6), (7, v7)])
theorem p_ratchetref08_reading_rec_111111010_eq (v0 v2 v5 v6 v7 : PV) : p_ratchetref08_reading_rec_111111010 v0 v2 v5 v6 v7 =
 M.bind (bi .lss .none (strip v7) (strip v6)) fun t35_0 =>
 M.bind (gd (strip t35_0) true (M.pure (strip v0))) fun t37_1 =>
 M.bind (gd (strip t35_0) true (nc P t37_1)) fun t38_2 =>
 M.bind (gd (strip t35_0) true (fa 3 t38_2)) fun t39_3 =>
 M.bind (gd (strip t35_0) true (ld none false t39_3)) fun t40_4 =>
 M.bind (gd (strip t35_0) true (bi .eql .none t40_4 (.int .i64 0))) fun t41_5 =>
 M.bind (pick (strip t35_0) t41_5 (.bool false)) fun t42_6 =>
 condM t42_6
 (chk
 (M.bind (noPan (fa 0 v5)) fun t45_15 =>
 M.bind (noPan (M.pure (strip v0))) fun t47_16 =>
 M.bind (noPan (C k_ratchetref08_reading_sub [(strip t47_16)])) fun t48_17 =>
 M.bind (noPan (bs true (some 6) [t48_17])) fun t49_18 =>
 M.bind (noPan (ld none true t45_15)) fun t46_19 =>
 M.bind (noPan (ap true 6 112 t46_19 t49_18)) fun t50_20 =>
 M.bind (noPan (fa 0 v5)) fun t51_21 =>
 M.bind (noPan (st 1 true t51_21 t50_20)) fun _ =>
 M.pure [v0, .undef, v2, .undef, .undef, v5, v6, v7, .undef, .undef, .undef, .undef, .undef, .undef, .undef, .undef, .undef, .undef, .undef, .undef, .undef, .undef, .undef, .undef, .undef, .undef, .undef, .undef, .undef, .undef, .undef, .undef, .undef, (strip v7), (strip v6), t35_0, (strip t35_0), t37_1, t38_2, t39_3, t40_4, t41_5, t42_6, .undef, .undef, t45_15, (strip t46_19), t47_16, t48_17, t49_18, (strip t50_20), t51_21, .undef])
 (M.bind (noPan (fa 0 v5)) fun t45_7 =>
 M.bind (noPan (M.pure (strip v0))) fun t47_8 =>
 M.bind (noPan (ld none true t45_7)) fun t46_9 =>
 M.bind (noPan (C k_ratchetref08_reading_sub [(strip t47_8)])) fun t48_10 =>
 M.bind (noPan (bs true (some 6) [t48_10])) fun t49_11 =>
 M.bind (noPan (ap true 6 112 t46_9 t49_11)) fun t50_12 =>
 M.bind (noPan (fa 0 v5)) fun t51_13 =>
 M.bind (noPan (st 1 true t51_13 t50_12)) fun _ =>
 M.pure [v0, .undef, v2, .undef, .undef, v5, v6, v7, .undef, .undef, .undef, .undef, .undef, .undef, .undef, .undef, .undef, .undef, .undef, .undef, .undef, .undef, .undef, .undef, .undef, .undef, .undef, .undef, .undef, .undef, .undef, .undef, .undef, (strip v7), (strip v6), t35_0, (strip t35_0), t37_1, t38_2, t39_3, t40_4, t41_5, t42_6, .undef, .undef, t45_7, (strip t46_9), t47_8, t48_10, t49_11, (strip t50_12), t51_13, .undef]) <|
 M.bind (noPan (fa 0 v5)) fun t45_23 =>
 M.bind (noPan (M.pure (strip v0))) fun t47_24 =>
 M.bind (noPan (ld none true t45_23)) fun t46_25 =>
 M.bind (noPan (C k_ratchetref08_reading_sub [(strip t47_24)])) fun t48_26 =>
 M.bind (noPan (bs true (some 6) [t48_26])) fun t49_27 =>
 M.bind (noPan (ap true 6 112 t46_25 t49_27)) fun t50_28 =>
 M.bind (noPan (fa 0 v5)) fun t51_29 =>
 M.bind (noPan (st 1 true t51_29 t50_28)) fun _ =>
 M.bind (bi .add .none (strip v7) (.int .i64 1)) fun t44_31 =>
 p_ratchetref08_reading_rec_111111010 v0 v2 v5 v6 t44_31)
 (M.bind (ld (some 2) true v5) fun t52_32 =>
 M.bind (st 2 true v2 t52_32) fun _ =>
 M.bind (ld (some 2) true v2) fun t0_34 => guardM (!isTup t0_34) (M.pure t0_34)) :=
 (atP_step P X _ _ _).trans (by kernel_rfl)
/-- (*ratchet/ratchetref08.reading).rec -/
theorem ratchetref08_reading_rec_eq (a0 : PV) : C k_ratchetref08_reading_rec [a0] =
 trunc (M.bind (al [(.slice false true 0 []), (.bool false)]) fun t2_0 =>
 M.bind (C k_ratchetref08_reading_peek [(strip (strip a0))]) fun t10_1 =>
 M.bind (ex 0 (strip t10_1)) fun t11_2 =>
 M.bind (ex 1 (tupDrop 0 (strip t10_1))) fun t12_3 =>
 M.bind (un .not (strip t12_3)) fun t14_4 =>
 M.bind (gd (strip t14_4) false (M.pure (strip t11_2))) fun t16_5 =>
 M.bind (gd (strip t14_4) false (bi .neq .none t16_5 (.int .u8 78))) fun t17_6 =>
 M.bind (pick (strip t14_4) (.bool true) t17_6) fun t18_7 =>
 condM t18_7
 (M.bind (C k_ratchetref08_reading_sub [(strip (strip a0))]) fun t20_8 =>
 M.bind (bs true (some 6) [t20_8]) fun t21_9 =>
 M.bind (bd [(.slice false true 0 []), (.bool false)] [(0, 1, t21_9)]) fun t22_10 =>
 M.bind (st 2 true t2_0 t22_10) fun _ =>
 M.bind (ld (some 2) true t2_0) fun t0_12 => guardM (!isTup t0_12) (M.pure t0_12))
 (M.bind (nc P (strip a0)) fun t24_13 =>
 M.bind (fa 1 t24_13) fun t25_14 =>
 M.bind (ld none false t25_14) fun t26_15 =>
 M.bind (bi .add .none t26_15 (.int .i64 1)) fun t27_16 =>
 M.bind (nc P (strip a0)) fun t28_17 =>
 M.bind (fa 1 t28_17) fun t29_18 =>
 M.bind (st 1 true t29_18 t27_16) fun _ =>
 M.bind (bd [(.slice false true 0 []), (.bool false)] [(1, 1, (.bool true))]) fun t30_20 =>
 M.bind (al [(.slice false true 0 []), (.bool false)]) fun t5_21 =>
 M.bind (st 2 true t5_21 t30_20) fun _ =>
 M.bind (C k_ratchetref08_reading_many [(strip (strip a0)), (.int .i64 10000)]) fun t32_23 =>
 p_ratchetref08_reading_rec_111111010 a0 t2_0 t5_21 t32_23 (.int .i64 0))) := by
 rw [C, callW_eq _ _ rfl]; kernel_rfl
theorem entry_write_1_deq (a0 a1 : PV) : CD none k_entry_write_1 [a0, a1] =
 noPan (trunc (M.bind (M.pure .niliface) fun t3_0 =>
 M.bind (bi .neq .iface (strip t3_0) .niliface) fun t5_1 =>
 condM t5_1
 (nb (M.pure (strip t3_0)) fun t6_2 =>
 nb (ta y_entry_fault (.agg [(.int .i64 0), (.int .i64 0)]) false t6_2) fun t7_3 =>
 nb (fd 1 none t7_3) fun t8_4 =>
 guardM (!clash (tst a0) (.no) && (!clash (tst a0) (.no) && (!clash (tst a0) (.no) && true))) <| M.bind (noPan (st 1 false a0 (.slice false true 0 []))) fun _ =>
 M.bind (noPan (st 1 true a1 t8_4)) fun _ =>
 M.pure (.tup []))
 (M.pure (.tup [])))) := by
 rw [CD, callDW_eq]; kernel_rfl
theorem entry_write_1_req (r : PV) (a0 a1 : PV) : CD (some r) k_entry_write_1 [a0, a1] =
 noPan (trunc (M.bind (M.pure r) fun t3_0 =>
 M.bind (bi .neq .iface (strip t3_0) .niliface) fun t5_1 =>
 condM t5_1
 (nb (M.pure (strip t3_0)) fun t6_2 =>
 nb (ta y_entry_fault (.agg [(.int .i64 0), (.int .i64 0)]) false t6_2) fun t7_3 =>
 nb (fd 1 none t7_3) fun t8_4 =>
 guardM (!clash (tst a0) (.no) && (!clash (tst a0) (.no) && (!clash (tst a0) (.no) && true))) <| M.bind (noPan (st 1 false a0 (.slice false true 0 []))) fun _ =>
 M.bind (noPan (st 1 true a1 t8_4)) fun _ =>
 M.pure (.tup []))
 (M.pure (.tup [])))) := by
 rw [CD, callDW_eq]; kernel_rfl
/-- ratchet/entry.abstract -/
theorem entry_abstract_eq : C k_entry_abstract [] =
 trunc (M.bind (al [(.int .i64 0), (.int .i64 0), (.int .i64 0), (.int .i64 0), (.int .i64 0), (.int .i64 0), (.int .i64 0), (.int .i64 0), (.int .i64 0), (.int .i64 0), (.int .i64 0), (.int .i64 0)]) fun t0_0 =>
 M.bind (bd [(.int .i64 0), (.int .i64 0), (.int .i64 0), (.int .i64 0), (.int .i64 0), (.int .i64 0), (.int .i64 0), (.int .i64 0), (.int .i64 0), (.int .i64 0), (.int .i64 0), (.int .i64 0)] [(0, 1, (.int .i64 (-11))), (1, 1, (.int .i64 (-9))), (2, 1, (.int .i64 (-8))), (3, 1, (.int .i64 (-7))), (4, 1, (.int .i64 (-6))), (5, 1, (.int .i64 (-5))), (6, 1, (.int .i64 (-3))), (7, 1, (.int .i64 (-1))), (8, 1, (.int .i64 (-10))), (9, 1, (.int .i64 (-4))), (10, 1, (.int .i64 (-2))), (11, 1, (.int .i64 (-12)))]) fun t1_1 =>
 M.bind (st 12 true t0_0 t1_1) fun _ =>
 M.bind (ld (some 12) true t0_0) fun t0_3 => guardM (!isTup t0_3) (M.pure t0_3)) := by
 rw [C, callW_eq _ _ rfl]; kernel_rfl
theorem entry_read_int_1_deq (a0 a1 a2 a3 : PV) : CD none k_entry_read_int_1 [a0, a1, a2, a3] =
 noPan (trunc (M.bind (M.pure .niliface) fun t6_0 =>
 M.bind (bi .neq .iface (strip t6_0) .niliface) fun t8_1 =>
 condM t8_1
 (M.bind (ta y_entry_fault (.agg [(.int .i64 0), (.int .i64 0)]) false (strip t6_0)) fun t10_2 =>
 M.bind (al [(.int .i64 0), (.int .i64 0)]) fun t5_3 =>
 M.bind (st 2 true t5_3 t10_2) fun _ =>
 nb (ld none true a0) fun t11_5 =>
 nb (fa 0 t5_3) fun t12_6 =>
 guardM (!clash (tld t12_6) (tld a0) && true) <| nb (ld none true t12_6) fun t13_7 =>
 nb (fa 1 t5_3) fun t14_8 =>
 guardM (!clash (tld t14_8) (tld t12_6) && (!clash (tld t14_8) (.no) && (!clash (tld t14_8) (tld a0) && true))) <| nb (ld none true t14_8) fun t15_9 =>
 guardM (!clash (tst a1) (tld t14_8) && (!clash (tst a1) (.no) && (!clash (tst a1) (tld t12_6) && (!clash (tst a1) (.no) && true)))) <| M.bind (noPan (st 1 true a1 t11_5)) fun _ =>
 guardM (!clash (tst a2) (tld t14_8) && (!clash (tst a2) (.no) && true)) <| M.bind (noPan (st 1 true a2 t13_7)) fun _ =>
 M.bind (noPan (st 1 true a3 t15_9)) fun _ =>
 M.pure (.tup []))
 (M.pure (.tup [])))) := by
 rw [CD, callDW_eq]; kernel_rfl
theorem entry_read_int_1_req (r : PV) (a0 a1 a2 a3 : PV) : CD (some r) k_entry_read_int_1 [a0, a1, a2, a3] =
 noPan (trunc (M.bind (M.pure r) fun t6_0 =>
 M.bind (bi .neq .iface (strip t6_0) .niliface) fun t8_1 =>
 condM t8_1
 (M.bind (ta y_entry_fault (.agg [(.int .i64 0), (.int .i64 0)]) false (strip t6_0)) fun t10_2 =>
 M.bind (al [(.int .i64 0), (.int .i64 0)]) fun t5_3 =>
 M.bind (st 2 true t5_3 t10_2) fun _ =>
 nb (ld none true a0) fun t11_5 =>
 nb (fa 0 t5_3) fun t12_6 =>
 guardM (!clash (tld t12_6) (tld a0) && true) <| nb (ld none true t12_6) fun t13_7 =>
 nb (fa 1 t5_3) fun t14_8 =>
 guardM (!clash (tld t14_8) (tld t12_6) && (!clash (tld t14_8) (.no) && (!clash (tld t14_8) (tld a0) && true))) <| nb (ld none true t14_8) fun t15_9 =>
 guardM (!clash (tst a1) (tld t14_8) && (!clash (tst a1) (.no) && (!clash (tst a1) (tld t12_6) && (!clash (tst a1) (.no) && true)))) <| M.bind (noPan (st 1 true a1 t11_5)) fun _ =>
 guardM (!clash (tst a2) (tld t14_8) && (!clash (tst a2) (.no) && true)) <| M.bind (noPan (st 1 true a2 t13_7)) fun _ =>
 M.bind (noPan (st 1 true a3 t15_9)) fun _ =>
 M.pure (.tup []))
 (M.pure (.tup [])))) := by
 rw [CD, callDW_eq]; kernel_rfl
/-- ratchet/entry.named -/
theorem entry_named_eq (a0 : PV) : C k_entry_named [a0] =
 trunc (M.bind (bi .lss .none (strip a0) (.int .u8 105)) fun t4_0 =>
 M.bind (gd (strip t4_0) false (M.pure (strip a0))) fun t6_1 =>
 M.bind (gd (strip t4_0) false (bi .gtr .none t6_1 (.int .u8 116))) fun t7_2 =>
 M.bind (pick (strip t4_0) (.bool true) t7_2) fun t8_3 =>
 condM t8_3
 (M.pure (.int .i64 0))
 (M.bind (C k_entry_abstract []) fun t9_4 =>
 M.bind (bi .sub .none (strip a0) (.int .u8 105)) fun t11_5 =>
 M.bind (ixA 12 1 none t9_4 t11_5) fun t12_6 =>
 resT t12_6 (M.pure t12_6))) := by
 rw [C, callW_eq _ _ rfl]; kernel_rfl
noncomputable def p_entry_cursor_look_11 (v0 v2 : PV) : M PV := atP P X k_entry_cursor_look [1, 1] (mkEnv 30 0 [(0, v0), (2, v2)])
theorem p_entry_cursor_look_11_eq (v0 v2 : PV) : p_entry_cursor_look_11 v0 v2 =
 nb (nc P (strip v0)) fun t21_0 =>
 nb (fa 0 t21_0) fun t22_1 =>
 nb (ld none false t22_1) fun t23_2 =>
 nb (nc P (strip v0)) fun t25_3 =>
 nb (fa 1 t25_3) fun t26_4 =>
 nb (ld none false t26_4) fun t27_5 =>
 nb (iaS 1 t23_2 t27_5) fun t28_6 =>
 nb (ld none true t28_6) fun t29_7 =>
 resT t29_7 (M.pure t29_7) :=
 (atP_step P X _ _ _).trans (by kernel_rfl)
/-- (*ratchet/entry.cursor).look -/
theorem entry_cursor_look_eq (a0 : PV) : C k_entry_cursor_look [a0] =
 trunc (nb (nc P (strip a0)) fun t4_0 =>
 nb (fa 1 t4_0) fun t5_1 =>
 nb (ld none false t5_1) fun t6_2 =>
 nb (nc P (strip a0)) fun t8_3 =>
 nb (fa 0 t8_3) fun t9_4 =>
 nb (ld none false t9_4) fun t10_5 =>
 nb (lnL t10_5) fun t11_6 =>
 nb (bi .geq .none t6_2 t11_6) fun t12_7 =>
 condM t12_7
 (M.bind (nc P (strip a0)) fun t15_8 =>
 M.bind (fa 0 t15_8) fun t16_9 =>
 M.bind (ld none false t16_9) fun t17_10 =>
 M.bind (lnL t17_10) fun t18_11 =>
 M.bind (C k_entry_cursor_fail [(strip (strip a0)), (strip t18_11), (.int .i64 3)]) fun t19_12 =>
 p_entry_cursor_look_11 a0 (.int .u8 0))
 (p_entry_cursor_look_11 a0 (.int .u8 0))) := by
 rw [C, callW_eq _ _ rfl]; kernel_rfl
noncomputable def p_entry_cursor_s33_11111 (v2 v4 : PV) : M PV := atP P X k_entry_cursor_s33 [1, 1, 1, 1, 1] (mkEnv 47 0 [(2, v2), (4, v4)])
theorem p_entry_cursor_s33_11111_eq (v2 v4 : PV) : p_entry_cursor_s33_11111 v2 v4 =
 resT v4 (M.pure v4) :=
 (atP_step P X _ _ _).trans (by kernel_rfl)
/-- (*ratchet/entry.cursor).s33 -/
theorem entry_cursor_s33_eq (a0 : PV) : C k_entry_cursor_s33 [a0] =
 trunc (M.bind (nc P (strip a0)) fun t8_0 =>
 M.bind (fa 1 t8_0) fun t9_1 =>
 M.bind (ld none true t9_1) fun t10_2 =>
 M.bind (noPan (M.pure (strip a0))) fun t12_24 =>
 M.bind (noPan (nc P t12_24)) fun t13_25 =>
 M.bind (noPan (fa 0 t13_25)) fun t14_26 =>
 M.bind (noPan (M.pure (strip a0))) fun t16_27 =>
 M.bind (noPan (nc P t16_27)) fun t17_28 =>
 M.bind (noPan (fa 1 t17_28)) fun t18_29 =>
 M.bind (noPan (M.pure (strip a0))) fun t20_30 =>
 M.bind (noPan (nc P t20_30)) fun t21_31 =>
 M.bind (noPan (fa 0 t21_31)) fun t22_32 =>
 M.bind (noPan (ld none false t14_26)) fun t15_33 =>
 M.bind (noPan (ld none false t18_29)) fun t19_34 =>
 M.bind (noPan (ld none false t22_32)) fun t23_35 =>
 M.bind (noPan (lnL t23_35)) fun t24_36 =>
 M.bind (noPan (C k_leb_S33 [(strip t15_33), (strip t19_34), (strip t24_36)])) fun t25_37 =>
 M.bind (noPan (M.pure (strip t25_37))) fun t11_38 =>
 M.bind (noPan (ex 0 t11_38)) fun t26_39 =>
 M.bind (noPan (ex 1 (tupDrop 0 t11_38))) fun t27_40 =>
 M.bind (noPan (ex 2 (tupDrop 1 (tupDrop 0 t11_38)))) fun t28_41 =>
 M.bind (noPan (M.pure t26_39)) fun t4_42 =>
 M.bind (noPan (M.pure t27_40)) fun t5_43 =>
 M.bind (noPan (M.pure t28_41)) fun t6_44 =>
 M.bind (C k_entry_got_int64 [(strip (strip a0)), (strip (strip t4_42)), (strip (strip t5_43)), (strip (strip t6_44))]) fun t33_45 =>
 M.bind (bi .lss .none (strip t33_45) (.int .i64 0)) fun t36_46 =>
 condM t36_46
 (M.bind (C k_entry_cursor_fail [(strip (strip a0)), (strip (strip t10_2)), (.int .i64 4)]) fun t39_47 =>
 p_entry_cursor_s33_11111 (.int .i64 0) t33_45)
 (M.bind (bi .gtr .none (strip t33_45) (.int .i64 2147483647)) fun t42_48 =>
 condM t42_48
 (M.bind (C k_entry_cursor_fail [(strip (strip a0)), (strip (strip t10_2)), (.int .i64 2)]) fun t45_49 =>
 p_entry_cursor_s33_11111 (.int .i64 0) t33_45)
 (p_entry_cursor_s33_11111 (.int .i64 0) t33_45))) := by
 rw [C, callW_eq _ _ rfl]; kernel_rfl
/-- (*ratchet/ratchetref08.reading).peek -/
theorem ratchetref08_reading_peek_eq (a0 : PV) : C k_ratchetref08_reading_peek [a0] =
 trunc (nb (nc P (strip a0)) fun t5_0 =>
 nb (fa 3 t5_0) fun t6_1 =>
 nb (ld none false t6_1) fun t7_2 =>
 nb (bi .neq .none t7_2 (.int .i64 0)) fun t8_3 =>
 nb (gd (strip t8_3) false (M.pure (strip a0))) fun t10_4 =>
 nb (gd (strip t8_3) false (nc P t10_4)) fun t11_5 =>
 nb (gd (strip t8_3) false (fa 1 t11_5)) fun t12_6 =>
 nb (gd (strip t8_3) false (ld none false t12_6)) fun t13_7 =>
 nb (gd (strip t8_3) false (M.pure (strip a0))) fun t14_8 =>
 nb (gd (strip t8_3) false (nc P t14_8)) fun t15_9 =>
 nb (gd (strip t8_3) false (fa 0 t15_9)) fun t16_10 =>
 nb (gd (strip t8_3) false (ld none false t16_10)) fun t17_11 =>
 nb (gd (strip t8_3) false (lnL t17_11)) fun t18_12 =>
 nb (gd (strip t8_3) false (bi .geq .none t13_7 t18_12)) fun t19_13 =>
 nb (pick (strip t8_3) (.bool true) t19_13) fun t20_14 =>
 condM t20_14
 (M.pure (.tup [(.int .u8 0), (.bool false)]))
 (nb (nc P (strip a0)) fun t22_15 =>
 nb (fa 0 t22_15) fun t23_16 =>
 nb (ld none false t23_16) fun t24_17 =>
 nb (nc P (strip a0)) fun t26_18 =>
 nb (fa 1 t26_18) fun t27_19 =>
 nb (ld none false t27_19) fun t28_20 =>
 nb (iaS 1 t24_17 t28_20) fun t29_21 =>
 nb (ld none true t29_21) fun t30_22 =>
 resT t30_22 (M.pure (.tup [t30_22, (.bool true)])))) := by
 rw [C, callW_eq _ _ rfl]; kernel_rfl
/-- ratchet/ratchetref08.abstract -/
theorem ratchetref08_abstract_eq (a0 : PV) : C k_ratchetref08_abstract [a0] =
 trunc (M.bind (bi .eql .none (strip a0) (.int .u8 115)) fun t5_0 =>
 condM t5_0
 (M.pure (.int .i64 (-2)))
 (M.bind (bi .eql .none (strip a0) (.int .u8 114)) fun t7_1 =>
 condM t7_1
 (M.pure (.int .i64 (-4)))
 (M.bind (bi .eql .none (strip a0) (.int .u8 113)) fun t9_2 =>
 condM t9_2
 (M.pure (.int .i64 (-10)))
 (M.bind (bi .eql .none (strip a0) (.int .u8 112)) fun t11_3 =>
 condM t11_3
 (M.pure (.int .i64 (-1)))
 (M.bind (bi .eql .none (strip a0) (.int .u8 111)) fun t13_4 =>
 condM t13_4
 (M.pure (.int .i64 (-3)))
 (M.bind (bi .eql .none (strip a0) (.int .u8 110)) fun t15_5 =>
 condM t15_5
 (M.pure (.int .i64 (-5)))
 (M.bind (bi .eql .none (strip a0) (.int .u8 109)) fun t17_6 =>
 condM t17_6
 (M.pure (.int .i64 (-6)))
 (M.bind (bi .eql .none (strip a0) (.int .u8 108)) fun t19_7 =>
 condM t19_7
 (M.pure (.int .i64 (-7)))
 (M.bind (bi .eql .none (strip a0) (.int .u8 107)) fun t21_8 =>
 condM t21_8
 (M.pure (.int .i64 (-8)))
 (M.bind (bi .eql .none (strip a0) (.int .u8 106)) fun t23_9 =>
 condM t23_9
 (M.pure (.int .i64 (-9)))
 (M.bind (bi .eql .none (strip a0) (.int .u8 105)) fun t25_10 =>
 condM t25_10
 (M.pure (.int .i64 (-11)))
 (M.bind (bi .eql .none (strip a0) (.int .u8 116)) fun t27_11 =>
 condM t27_11
 (M.pure (.int .i64 (-12)))
 (M.pure (.int .i64 0)))))))))))))) := by
 rw [C, callW_eq _ _ rfl]; kernel_rfl
/-- (*ratchet/ratchetref08.reading).number -/
theorem ratchetref08_reading_number_eq (a0 a1 a2 : PV) : C k_ratchetref08_reading_number [a0, a1, a2] =
 trunc (M.bind (nc P (strip a0)) fun t11_0 =>
 M.bind (fa 3 t11_0) fun t12_1 =>
 M.bind (ld none false t12_1) fun t13_2 =>
 M.bind (bi .neq .none t13_2 (.int .i64 0)) fun t14_3 =>
 condM t14_3
 (M.pure (.int .u64 0))
 (M.bind (noPan (M.pure (strip a0))) fun t16_27 =>
 M.bind (noPan (nc P t16_27)) fun t17_28 =>
 M.bind (noPan (fa 0 t17_28)) fun t18_29 =>
 M.bind (noPan (M.pure (strip a0))) fun t20_30 =>
 M.bind (noPan (nc P t20_30)) fun t21_31 =>
 M.bind (noPan (fa 1 t21_31)) fun t22_32 =>
 M.bind (noPan (M.pure (strip a0))) fun t24_33 =>
 M.bind (noPan (nc P t24_33)) fun t25_34 =>
 M.bind (noPan (fa 0 t25_34)) fun t26_35 =>
 M.bind (noPan (M.pure (strip a1))) fun t29_36 =>
 M.bind (noPan (M.pure (strip a2))) fun t30_37 =>
 M.bind (noPan (ld none false t18_29)) fun t19_38 =>
 M.bind (noPan (ld none false t22_32)) fun t23_39 =>
 M.bind (noPan (ld none false t26_35)) fun t27_40 =>
 M.bind (noPan (lnL t27_40)) fun t28_41 =>
 M.bind (noPan (C k_ratchetref01_Number [(strip t19_38), (strip t23_39), (strip t28_41), (strip t29_36), (strip t30_37)])) fun t31_42 =>
 M.bind (noPan (M.pure (strip t31_42))) fun t15_43 =>
 M.bind (noPan (ex 0 t15_43)) fun t32_44 =>
 M.bind (noPan (ex 1 (tupDrop 0 t15_43))) fun t33_45 =>
 M.bind (noPan (ex 2 (tupDrop 1 (tupDrop 0 t15_43)))) fun t34_46 =>
 M.bind (noPan (M.pure t32_44)) fun t7_47 =>
 M.bind (noPan (M.pure t33_45)) fun t8_48 =>
 M.bind (noPan (M.pure t34_46)) fun t9_49 =>
 M.bind (bi .neq .none (strip t9_49) (.int .i64 0)) fun t36_50 =>
 condM t36_50
 (M.bind (C k_ratchetref08_reading_fail [(strip (strip a0)), (strip (strip t8_48)), (strip (strip t9_49))]) fun t40_51 =>
 M.pure (.int .u64 0))
 (M.bind (nc P (strip a0)) fun t43_52 =>
 M.bind (fa 1 t43_52) fun t44_53 =>
 M.bind (st 1 true t44_53 t8_48) fun _ =>
 resT t7_47 (M.pure t7_47)))) := by
 rw [C, callW_eq _ _ rfl]; kernel_rfl
/-- (*ratchet/ratchetref08.reading).fail -/
theorem ratchetref08_reading_fail_eq (a0 a1 a2 : PV) : C k_ratchetref08_reading_fail [a0, a1, a2] =
 trunc (M.bind (nc P (strip a0)) fun t7_0 =>
 M.bind (fa 3 t7_0) fun t8_1 =>
 M.bind (ld none false t8_1) fun t9_2 =>
 M.bind (bi .eql .none t9_2 (.int .i64 0)) fun t10_3 =>
 condM t10_3
 (M.bind (nc P (strip a0)) fun t13_4 =>
 M.bind (fa 2 t13_4) fun t14_5 =>
 M.bind (st 1 true t14_5 a1) fun _ =>
 M.bind (nc P (strip a0)) fun t17_7 =>
 M.bind (fa 3 t17_7) fun t18_8 =>
 M.bind (st 1 true t18_8 a2) fun _ =>
 M.pure (.tup []))
 (M.pure (.tup []))) := by
 rw [C, callW_eq _ _ rfl]; kernel_rfl
theorem entry_read_api_ValType_1_deq (a0 a1 a2 a3 : PV) : CD none k_entry_read_api_ValType_1 [a0, a1, a2, a3] =
 noPan (trunc (M.bind (M.pure .niliface) fun t6_0 =>
 M.bind (bi .neq .iface (strip t6_0) .niliface) fun t8_1 =>
 condM t8_1
 (M.bind (ta y_entry_fault (.agg [(.int .i64 0), (.int .i64 0)]) false (strip t6_0)) fun t10_2 =>
 M.bind (al [(.int .i64 0), (.int .i64 0)]) fun t5_3 =>
 M.bind (st 2 true t5_3 t10_2) fun _ =>
 nb (ld (some 3) true a0) fun t11_5 =>
 nb (fa 0 t5_3) fun t12_6 =>
 guardM (!clash (tld t12_6) (tld a0) && true) <| nb (ld none true t12_6) fun t13_7 =>
 nb (fa 1 t5_3) fun t14_8 =>
 guardM (!clash (tld t14_8) (tld t12_6) && (!clash (tld t14_8) (.no) && (!clash (tld t14_8) (tld a0) && true))) <| nb (ld none true t14_8) fun t15_9 =>
 guardM (!clash (tst a1) (tld t14_8) && (!clash (tst a1) (.no) && (!clash (tst a1) (tld t12_6) && (!clash (tst a1) (.no) && true)))) <| M.bind (noPan (st 3 true a1 t11_5)) fun _ =>
 guardM (!clash (tst a2) (tld t14_8) && (!clash (tst a2) (.no) && true)) <| M.bind (noPan (st 1 true a2 t13_7)) fun _ =>
 M.bind (noPan (st 1 true a3 t15_9)) fun _ =>
 M.pure (.tup []))
 (M.pure (.tup [])))) := by
 rw [CD, callDW_eq]; kernel_rfl
theorem entry_read_api_ValType_1_req (r : PV) (a0 a1 a2 a3 : PV) : CD (some r) k_entry_read_api_ValType_1 [a0, a1, a2, a3] =
 noPan (trunc (M.bind (M.pure r) fun t6_0 =>
 M.bind (bi .neq .iface (strip t6_0) .niliface) fun t8_1 =>
 condM t8_1
 (M.bind (ta y_entry_fault (.agg [(.int .i64 0), (.int .i64 0)]) false (strip t6_0)) fun t10_2 =>
 M.bind (al [(.int .i64 0), (.int .i64 0)]) fun t5_3 =>
 M.bind (st 2 true t5_3 t10_2) fun _ =>
 nb (ld (some 3) true a0) fun t11_5 =>
 nb (fa 0 t5_3) fun t12_6 =>
 guardM (!clash (tld t12_6) (tld a0) && true) <| nb (ld none true t12_6) fun t13_7 =>
 nb (fa 1 t5_3) fun t14_8 =>
 guardM (!clash (tld t14_8) (tld t12_6) && (!clash (tld t14_8) (.no) && (!clash (tld t14_8) (tld a0) && true))) <| nb (ld none true t14_8) fun t15_9 =>
 guardM (!clash (tst a1) (tld t14_8) && (!clash (tst a1) (.no) && (!clash (tst a1) (tld t12_6) && (!clash (tst a1) (.no) && true)))) <| M.bind (noPan (st 3 true a1 t11_5)) fun _ =>
 guardM (!clash (tst a2) (tld t14_8) && (!clash (tst a2) (.no) && true)) <| M.bind (noPan (st 1 true a2 t13_7)) fun _ =>
 M.bind (noPan (st 1 true a3 t15_9)) fun _ =>
 M.pure (.tup []))
 (M.pure (.tup [])))) := by
 rw [CD, callDW_eq]; kernel_rfl
/-- (*ratchet/entry.cursor).fail -/
theorem entry_cursor_fail_eq (a0 a1 a2 : PV) : C k_entry_cursor_fail [a0, a1, a2] =
 trunc (M.bind (bd [(.int .i64 0), (.int .i64 0)] [(0, 1, (strip a1)), (1, 1, (strip a2))]) fun t8_0 =>
 M.bind (mi y_entry_fault t8_0) fun t9_1 =>
 M.bind (pn t9_1) fun _ =>
 M.pure (.tup [])) := by
 rw [C, callW_eq _ _ rfl]; kernel_rfl
noncomputable def p_ratchetref08_reading_val_11111111 (v0 v6 v9 : PV) : M PV := atP P X k_ratchetref08_reading_val [1, 1, 1, 1, 1, 1, 1, 1] (mkEnv 108 0 [(0, v0), (6, v6), (9, v9)])
theorem p_ratchetref08_reading_val_11111111_eq (v0 v6 v9 : PV) : p_ratchetref08_reading_val_11111111 v0 v6 v9 =
 M.bind (nc P (strip v0)) fun t100_0 =>
 M.bind (fa 1 t100_0) fun t101_1 =>
 M.bind (ld none false t101_1) fun t102_2 =>
 M.bind (bi .add .none t102_2 (.int .i64 1)) fun t103_3 =>
 M.bind (nc P (strip v0)) fun t104_4 =>
 M.bind (fa 1 t104_4) fun t105_5 =>
 M.bind (st 1 true t105_5 t103_3) fun _ =>
 M.bind (bd [(.int .i64 0), (.bool false), (.int .i64 0)] [(0, 1, (strip v9))]) fun t107_7 =>
 M.bind (st 3 true v6 t107_7) fun _ =>
 M.bind (ld (some 3) true v6) fun t0_9 => guardM (!isTup t0_9) (M.pure t0_9) :=
 (atP_step P X _ _ _).trans (by kernel_rfl)
/-- (*ratchet/ratchetref08.reading).val -/
theorem ratchetref08_reading_val_eq (a0 a1 a2 : PV) : C k_ratchetref08_reading_val [a0, a1, a2] =
 trunc (M.bind (al [(.int .i64 0), (.bool false), (.int .i64 0)]) fun t6_0 =>
 M.bind (C k_ratchetref08_reading_peek [(strip (strip a0))]) fun t12_1 =>
 M.bind (ex 0 (strip t12_1)) fun t13_2 =>
 M.bind (ex 1 (tupDrop 0 (strip t12_1))) fun t14_3 =>
 M.bind (un .not (strip t14_3)) fun t16_4 =>
 condM t16_4
 (M.bind (nc P (strip a0)) fun t19_5 =>
 M.bind (fa 0 t19_5) fun t20_6 =>
 M.bind (ld none false t20_6) fun t21_7 =>
 M.bind (lnL t21_7) fun t22_8 =>
 M.bind (C k_ratchetref08_reading_fail [(strip (strip a0)), (strip t22_8), (.int .i64 3)]) fun t23_9 =>
 M.bind (bd [(.int .i64 0), (.bool false), (.int .i64 0)] []) fun t24_10 =>
 M.bind (st 3 true t6_0 t24_10) fun _ =>
 M.bind (ld (some 3) true t6_0) fun t0_12 => guardM (!isTup t0_12) (M.pure t0_12))
 (M.bind (bi .eql .none (strip t13_2) (.int .u8 99)) fun t26_13 =>
 M.bind (gd (strip t26_13) false (M.pure (strip t13_2))) fun t28_14 =>
 M.bind (gd (strip t26_13) false (bi .eql .none t28_14 (.int .u8 100))) fun t29_15 =>
 M.bind (pick (strip t26_13) (.bool true) t29_15) fun t30_16 =>
 condM t30_16
 (M.bind (nc P (strip a0)) fun t32_17 =>
 M.bind (fa 1 t32_17) fun t33_18 =>
 M.bind (ld none false t33_18) fun t34_19 =>
 M.bind (bi .add .none t34_19 (.int .i64 1)) fun t35_20 =>
 M.bind (nc P (strip a0)) fun t36_21 =>
 M.bind (fa 1 t36_21) fun t37_22 =>
 M.bind (st 1 true t37_22 t35_20) fun _ =>
 M.bind (bi .eql .none (strip t13_2) (.int .u8 99)) fun t39_24 =>
 M.bind (C k_ratchetref08_reading_heap [(strip (strip a0))]) fun t41_25 =>
 M.bind (bd [(.int .i64 0), (.bool false), (.int .i64 0)] [(0, 1, (.int .i64 5)), (1, 1, t39_24), (2, 1, t41_25)]) fun t42_26 =>
 M.bind (st 3 true t6_0 t42_26) fun _ =>
 M.bind (ld (some 3) true t6_0) fun t0_28 => guardM (!isTup t0_28) (M.pure t0_28))
 (M.bind (C k_ratchetref08_abstract [(strip (strip t13_2))]) fun t44_29 =>
 M.bind (bi .neq .none t44_29 (.int .i64 0)) fun t45_30 =>
 condM t45_30
 (M.bind (nc P (strip a0)) fun t47_31 =>
 M.bind (fa 1 t47_31) fun t48_32 =>
 M.bind (ld none false t48_32) fun t49_33 =>
 M.bind (bi .add .none t49_33 (.int .i64 1)) fun t50_34 =>
 M.bind (nc P (strip a0)) fun t51_35 =>
 M.bind (fa 1 t51_35) fun t52_36 =>
 M.bind (st 1 true t52_36 t50_34) fun _ =>
 M.bind (C k_ratchetref08_abstract [(strip (strip t13_2))]) fun t54_38 =>
 M.bind (bd [(.int .i64 0), (.bool false), (.int .i64 0)] [(0, 1, (.int .i64 5)), (1, 1, (.bool true)), (2, 1, t54_38)]) fun t55_39 =>
 M.bind (st 3 true t6_0 t55_39) fun _ =>
 M.bind (ld (some 3) true t6_0) fun t0_41 => guardM (!isTup t0_41) (M.pure t0_41))
 (M.bind (gd (strip (strip a1)) true (M.pure (strip t13_2))) fun t58_42 =>
 M.bind (gd (strip (strip a1)) true (bi .eql .none t58_42 (.int .u8 123))) fun t59_43 =>
 M.bind (pick (strip (strip a1)) t59_43 (.bool false)) fun t60_44 =>
 condM t60_44
 (M.bind (nc P (strip a0)) fun t63_45 =>
 M.bind (fa 1 t63_45) fun t64_46 =>
 M.bind (ld none false t64_46) fun t65_47 =>
 M.bind (C k_ratchetref08_reading_fail [(strip (strip a0)), (strip t65_47), (.int .i64 8)]) fun t66_48 =>
 M.bind (bd [(.int .i64 0), (.bool false), (.int .i64 0)] []) fun t67_49 =>
 M.bind (st 3 true t6_0 t67_49) fun _ =>
 M.bind (ld (some 3) true t6_0) fun t0_51 => guardM (!isTup t0_51) (M.pure t0_51))
 (M.bind (gd (strip (strip a1)) true (M.pure (strip t13_2))) fun t77_52 =>
 M.bind (gd (strip (strip a1)) true (bi .geq .none t77_52 (.int .u8 124))) fun t78_53 =>
 M.bind (pick (strip (strip a1)) t78_53 (.bool false)) fun t79_54 =>
 M.bind (gd (strip t79_54) true (M.pure (strip t13_2))) fun t81_55 =>
 M.bind (gd (strip t79_54) true (bi .leq .none t81_55 (.int .u8 127))) fun t82_56 =>
 M.bind (pick (strip t79_54) t82_56 (.bool false)) fun t83_57 =>
 condM t83_57
 (M.bind (cv (.int .i64) true (strip t13_2)) fun t85_58 =>
 M.bind (bi .sub .none (.int .i64 128) t85_58) fun t86_59 =>
 p_ratchetref08_reading_val_11111111 a0 t6_0 t86_59)
 (M.bind (gd (strip (strip a2)) true (M.pure (strip t13_2))) fun t90_60 =>
 M.bind (gd (strip (strip a2)) true (bi .eql .none t90_60 (.int .u8 120))) fun t91_61 =>
 M.bind (pick (strip (strip a2)) t91_61 (.bool false)) fun t92_62 =>
 condM t92_62
 (p_ratchetref08_reading_val_11111111 a0 t6_0 (.int .i64 6))
 (M.bind (gd (strip (strip a2)) true (M.pure (strip t13_2))) fun t96_63 =>
 M.bind (gd (strip (strip a2)) true (bi .eql .none t96_63 (.int .u8 119))) fun t97_64 =>
 M.bind (pick (strip (strip a2)) t97_64 (.bool false)) fun t98_65 =>
 condM t98_65
 (p_ratchetref08_reading_val_11111111 a0 t6_0 (.int .i64 7))
 (M.bind (nc P (strip a0)) fun t70_66 =>
 M.bind (fa 1 t70_66) fun t71_67 =>
 M.bind (ld none false t71_67) fun t72_68 =>
 M.bind (C k_ratchetref08_reading_fail [(strip (strip a0)), (strip t72_68), (.int .i64 4)]) fun t73_69 =>
 p_ratchetref08_reading_val_11111111 a0 t6_0 (.int .i64 0))))))))) := by
 rw [C, callW_eq _ _ rfl]; kernel_rfl
theorem entry_read_api_Block_1_deq (a0 a1 a2 a3 : PV) : CD none k_entry_read_api_Block_1 [a0, a1, a2, a3] =
 noPan (trunc (M.bind (M.pure .niliface) fun t6_0 =>
 M.bind (bi .neq .iface (strip t6_0) .niliface) fun t8_1 =>
 condM t8_1
 (M.bind (ta y_entry_fault (.agg [(.int .i64 0), (.int .i64 0)]) false (strip t6_0)) fun t10_2 =>
 M.bind (al [(.int .i64 0), (.int .i64 0)]) fun t5_3 =>
 M.bind (st 2 true t5_3 t10_2) fun _ =>
 nb (ld (some 4) true a0) fun t11_5 =>
 nb (fa 0 t5_3) fun t12_6 =>
 guardM (!clash (tld t12_6) (tld a0) && true) <| nb (ld none true t12_6) fun t13_7 =>
 nb (fa 1 t5_3) fun t14_8 =>
 guardM (!clash (tld t14_8) (tld t12_6) && (!clash (tld t14_8) (.no) && (!clash (tld t14_8) (tld a0) && true))) <| nb (ld none true t14_8) fun t15_9 =>
 guardM (!clash (tst a1) (tld t14_8) && (!clash (tst a1) (.no) && (!clash (tst a1) (tld t12_6) && (!clash (tst a1) (.no) && true)))) <| M.bind (noPan (st 4 true a1 t11_5)) fun _ =>
 guardM (!clash (tst a2) (tld t14_8) && (!clash (tst a2) (.no) && true)) <| M.bind (noPan (st 1 true a2 t13_7)) fun _ =>
 M.bind (noPan (st 1 true a3 t15_9)) fun _ =>
 M.pure (.tup []))
 (M.pure (.tup [])))) := by
 rw [CD, callDW_eq]; kernel_rfl
theorem entry_read_api_Block_1_req (r : PV) (a0 a1 a2 a3 : PV) : CD (some r) k_entry_read_api_Block_1 [a0, a1, a2, a3] =
 noPan (trunc (M.bind (M.pure r) fun t6_0 =>
 M.bind (bi .neq .iface (strip t6_0) .niliface) fun t8_1 =>
 condM t8_1
 (M.bind (ta y_entry_fault (.agg [(.int .i64 0), (.int .i64 0)]) false (strip t6_0)) fun t10_2 =>
 M.bind (al [(.int .i64 0), (.int .i64 0)]) fun t5_3 =>
 M.bind (st 2 true t5_3 t10_2) fun _ =>
 nb (ld (some 4) true a0) fun t11_5 =>
 nb (fa 0 t5_3) fun t12_6 =>
 guardM (!clash (tld t12_6) (tld a0) && true) <| nb (ld none true t12_6) fun t13_7 =>
 nb (fa 1 t5_3) fun t14_8 =>
 guardM (!clash (tld t14_8) (tld t12_6) && (!clash (tld t14_8) (.no) && (!clash (tld t14_8) (tld a0) && true))) <| nb (ld none true t14_8) fun t15_9 =>
 guardM (!clash (tst a1) (tld t14_8) && (!clash (tst a1) (.no) && (!clash (tst a1) (tld t12_6) && (!clash (tst a1) (.no) && true)))) <| M.bind (noPan (st 4 true a1 t11_5)) fun _ =>
 guardM (!clash (tst a2) (tld t14_8) && (!clash (tst a2) (.no) && true)) <| M.bind (noPan (st 1 true a2 t13_7)) fun _ =>
 M.bind (noPan (st 1 true a3 t15_9)) fun _ =>
 M.pure (.tup []))
 (M.pure (.tup [])))) := by
 rw [CD, callDW_eq]; kernel_rfl
theorem entry_read_L_api_ValType_1_deq (a0 a1 a2 a3 : PV) : CD none k_entry_read_L_api_ValType_1 [a0, a1, a2, a3] =
 noPan (trunc (M.bind (M.pure .niliface) fun t6_0 =>
 M.bind (bi .neq .iface (strip t6_0) .niliface) fun t8_1 =>
 condM t8_1
 (M.bind (ta y_entry_fault (.agg [(.int .i64 0), (.int .i64 0)]) false (strip t6_0)) fun t10_2 =>
 M.bind (al [(.int .i64 0), (.int .i64 0)]) fun t5_3 =>
 M.bind (st 2 true t5_3 t10_2) fun _ =>
 nb (ld none true a0) fun t11_5 =>
 nb (fa 0 t5_3) fun t12_6 =>
 guardM (!clash (tld t12_6) (tld a0) && true) <| nb (ld none true t12_6) fun t13_7 =>
 nb (fa 1 t5_3) fun t14_8 =>
 guardM (!clash (tld t14_8) (tld t12_6) && (!clash (tld t14_8) (.no) && (!clash (tld t14_8) (tld a0) && true))) <| nb (ld none true t14_8) fun t15_9 =>
 guardM (!clash (tst a1) (tld t14_8) && (!clash (tst a1) (.no) && (!clash (tst a1) (tld t12_6) && (!clash (tst a1) (.no) && true)))) <| M.bind (noPan (st 1 true a1 t11_5)) fun _ =>
 guardM (!clash (tst a2) (tld t14_8) && (!clash (tst a2) (.no) && true)) <| M.bind (noPan (st 1 true a2 t13_7)) fun _ =>
 M.bind (noPan (st 1 true a3 t15_9)) fun _ =>
 M.pure (.tup []))
 (M.pure (.tup [])))) := by
 rw [CD, callDW_eq]; kernel_rfl
theorem entry_read_L_api_ValType_1_req (r : PV) (a0 a1 a2 a3 : PV) : CD (some r) k_entry_read_L_api_ValType_1 [a0, a1, a2, a3] =
 noPan (trunc (M.bind (M.pure r) fun t6_0 =>
 M.bind (bi .neq .iface (strip t6_0) .niliface) fun t8_1 =>
 condM t8_1
 (M.bind (ta y_entry_fault (.agg [(.int .i64 0), (.int .i64 0)]) false (strip t6_0)) fun t10_2 =>
 M.bind (al [(.int .i64 0), (.int .i64 0)]) fun t5_3 =>
 M.bind (st 2 true t5_3 t10_2) fun _ =>
 nb (ld none true a0) fun t11_5 =>
 nb (fa 0 t5_3) fun t12_6 =>
 guardM (!clash (tld t12_6) (tld a0) && true) <| nb (ld none true t12_6) fun t13_7 =>
 nb (fa 1 t5_3) fun t14_8 =>
 guardM (!clash (tld t14_8) (tld t12_6) && (!clash (tld t14_8) (.no) && (!clash (tld t14_8) (tld a0) && true))) <| nb (ld none true t14_8) fun t15_9 =>
 guardM (!clash (tst a1) (tld t14_8) && (!clash (tst a1) (.no) && (!clash (tst a1) (tld t12_6) && (!clash (tst a1) (.no) && true)))) <| M.bind (noPan (st 1 true a1 t11_5)) fun _ =>
 guardM (!clash (tst a2) (tld t14_8) && (!clash (tst a2) (.no) && true)) <| M.bind (noPan (st 1 true a2 t13_7)) fun _ =>
 M.bind (noPan (st 1 true a3 t15_9)) fun _ =>
 M.pure (.tup []))
 (M.pure (.tup [])))) := by
 rw [CD, callDW_eq]; kernel_rfl
noncomputable def p_entry_list_api_ValType_1111 (v2 v6 v8 : PV) : M PV := atP P X k_entry_list_api_ValType [1, 1, 1, 1] (mkEnv 32 0 [(2, v2), (6, v6), (8, v8)])
noncomputable def p_entry_list_api_ValType_11111010 (v2 v6 v9 v22 v23 : PV) : M PV := atP P X k_entry_list_api_ValType [1, 1, 1, 1, 1, 0, 1, 0] (mkEnv 32 0 [(2, v2), (6, v6), (9, v9), (22, v22), (23, v23)])
theorem p_entry_list_api_ValType_1111_eq (v2 v6 v8 : PV) : p_entry_list_api_ValType_1111 v2 v6 v8 =
 p_entry_list_api_ValType_11111010 v2 v6 (.slice false true 0 []) (strip v8) (.int .u32 0) :=
 (atP_step P X _ _ _).trans (by kernel_rfl)
theorem p_entry_list_api_ValType_11111010_eq (v2 v6 v9 v22 v23 : PV) : p_entry_list_api_ValType_11111010 v2 v6 v9 v22 v23 =
 M.bind (bi .lss .none v23 v22) fun t24_0 =>
 condM t24_0
 (M.bind (callV P C (strip v2) []) fun t27_1 =>
 M.bind (bs true (some 3) [t27_1]) fun t28_2 =>
 M.bind (ap true 3 24 v9 t28_2) fun t29_3 =>
 M.bind (bi .add .none v23 (.int .u32 1)) fun t30_4 =>
 p_entry_list_api_ValType_11111010 v2 v6 t29_3 v22 (strip t30_4))
 (resT v9 (M.pure v9)) :=
 (atP_step P X _ _ _).trans (by kernel_rfl)
/-- ratchet/entry.list[ratchet/api.ValType] -/
theorem entry_list_api_ValType_eq (a0 a1 a2 : PV) : C k_entry_list_api_ValType [a0, a1, a2] =
 trunc (M.bind (nc P (strip a0)) fun t11_0 =>
 M.bind (fa 1 t11_0) fun t12_1 =>
 M.bind (ld none true t12_1) fun t13_2 =>
 M.bind (C k_entry_cursor_u32 [(strip (strip a0))]) fun t15_3 =>
 M.bind (bi .gtr .none (strip t15_3) (strip a1)) fun t18_4 =>
 condM t18_4
 (M.bind (C k_entry_cursor_fail [(strip (strip a0)), (strip (strip t13_2)), (.int .i64 2)]) fun t21_5 =>
 p_entry_list_api_ValType_1111 a2 (.slice false true 0 []) t15_3)
 (p_entry_list_api_ValType_1111 a2 (.slice false true 0 []) t15_3)) := by
 rw [C, callW_eq _ _ rfl]; kernel_rfl
/-- (*ratchet/ratchetref08.reading).many -/
theorem ratchetref08_reading_many_eq (a0 a1 : PV) : C k_ratchetref08_reading_many [a0, a1] =
 trunc (M.bind (nc P (strip a0)) fun t8_0 =>
 M.bind (fa 1 t8_0) fun t9_1 =>
 M.bind (ld none true t9_1) fun t10_2 =>
 M.bind (C k_ratchetref08_reading_number [(strip (strip a0)), (.int .i64 32), (.bool false)]) fun t12_3 =>
 M.bind (nc P (strip a0)) fun t14_4 =>
 M.bind (fa 3 t14_4) fun t15_5 =>
 M.bind (ld none false t15_5) fun t16_6 =>
 M.bind (bi .eql .none t16_6 (.int .i64 0)) fun t17_7 =>
 M.bind (gd (strip t17_7) true (M.pure (strip t12_3))) fun t19_8 =>
 M.bind (gd (strip t17_7) true (M.pure (strip a1))) fun t20_9 =>
 M.bind (gd (strip t17_7) true (cv (.int .u64) true t20_9)) fun t21_10 =>
 M.bind (gd (strip t17_7) true (bi .gtr .none t19_8 t21_10)) fun t22_11 =>
 M.bind (pick (strip t17_7) t22_11 (.bool false)) fun t23_12 =>
 condM t23_12
 (M.bind (C k_ratchetref08_reading_fail [(strip (strip a0)), (strip (strip t10_2)), (.int .i64 2)]) fun t26_13 =>
 M.pure (.int .i64 0))
 (M.bind (cv (.int .i64) true (strip t12_3)) fun t28_14 =>
 resT t28_14 (M.pure t28_14))) := by
 rw [C, callW_eq _ _ rfl]; kernel_rfl
theorem entry_read_api_Field_1_deq (a0 a1 a2 a3 : PV) : CD none k_entry_read_api_Field_1 [a0, a1, a2, a3] =
 noPan (trunc (M.bind (M.pure .niliface) fun t6_0 =>
 M.bind (bi .neq .iface (strip t6_0) .niliface) fun t8_1 =>
 condM t8_1
 (M.bind (ta y_entry_fault (.agg [(.int .i64 0), (.int .i64 0)]) false (strip t6_0)) fun t10_2 =>
 M.bind (al [(.int .i64 0), (.int .i64 0)]) fun t5_3 =>
 M.bind (st 2 true t5_3 t10_2) fun _ =>
 nb (ld (some 4) true a0) fun t11_5 =>
 nb (fa 0 t5_3) fun t12_6 =>
 guardM (!clash (tld t12_6) (tld a0) && true) <| nb (ld none true t12_6) fun t13_7 =>
 nb (fa 1 t5_3) fun t14_8 =>
 guardM (!clash (tld t14_8) (tld t12_6) && (!clash (tld t14_8) (.no) && (!clash (tld t14_8) (tld a0) && true))) <| nb (ld none true t14_8) fun t15_9 =>
 guardM (!clash (tst a1) (tld t14_8) && (!clash (tst a1) (.no) && (!clash (tst a1) (tld t12_6) && (!clash (tst a1) (.no) && true)))) <| M.bind (noPan (st 4 true a1 t11_5)) fun _ =>
 guardM (!clash (tst a2) (tld t14_8) && (!clash (tst a2) (.no) && true)) <| M.bind (noPan (st 1 true a2 t13_7)) fun _ =>
 M.bind (noPan (st 1 true a3 t15_9)) fun _ =>
 M.pure (.tup []))
 (M.pure (.tup [])))) := by
 rw [CD, callDW_eq]; kernel_rfl
theorem entry_read_api_Field_1_req (r : PV) (a0 a1 a2 a3 : PV) : CD (some r) k_entry_read_api_Field_1 [a0, a1, a2, a3] =
 noPan (trunc (M.bind (M.pure r) fun t6_0 =>
 M.bind (bi .neq .iface (strip t6_0) .niliface) fun t8_1 =>
 condM t8_1
 (M.bind (ta y_entry_fault (.agg [(.int .i64 0), (.int .i64 0)]) false (strip t6_0)) fun t10_2 =>
 M.bind (al [(.int .i64 0), (.int .i64 0)]) fun t5_3 =>
 M.bind (st 2 true t5_3 t10_2) fun _ =>
 nb (ld (some 4) true a0) fun t11_5 =>
 nb (fa 0 t5_3) fun t12_6 =>
 guardM (!clash (tld t12_6) (tld a0) && true) <| nb (ld none true t12_6) fun t13_7 =>
 nb (fa 1 t5_3) fun t14_8 =>
 guardM (!clash (tld t14_8) (tld t12_6) && (!clash (tld t14_8) (.no) && (!clash (tld t14_8) (tld a0) && true))) <| nb (ld none true t14_8) fun t15_9 =>
 guardM (!clash (tst a1) (tld t14_8) && (!clash (tst a1) (.no) && (!clash (tst a1) (tld t12_6) && (!clash (tst a1) (.no) && true)))) <| M.bind (noPan (st 4 true a1 t11_5)) fun _ =>
 guardM (!clash (tst a2) (tld t14_8) && (!clash (tst a2) (.no) && true)) <| M.bind (noPan (st 1 true a2 t13_7)) fun _ =>
 M.bind (noPan (st 1 true a3 t15_9)) fun _ =>
 M.pure (.tup []))
 (M.pure (.tup [])))) := by
 rw [CD, callDW_eq]; kernel_rfl
noncomputable def p_entry_cursor_small_111 (v0 v4 v5 : PV) : M PV := atP P X k_entry_cursor_small [1, 1, 1] (mkEnv 25 0 [(0, v0), (4, v4), (5, v5)])
theorem p_entry_cursor_small_111_eq (v0 v4 v5 : PV) : p_entry_cursor_small_111 v0 v4 v5 =
 M.bind (nc P (strip v0)) fun t18_0 =>
 M.bind (fa 1 t18_0) fun t19_1 =>
 M.bind (ld none false t19_1) fun t20_2 =>
 M.bind (bi .add .none t20_2 (.int .i64 1)) fun t21_3 =>
 M.bind (nc P (strip v0)) fun t22_4 =>
 M.bind (fa 1 t22_4) fun t23_5 =>
 M.bind (st 1 true t23_5 t21_3) fun _ =>
 resT v5 (M.pure v5) :=
 (atP_step P X _ _ _).trans (by kernel_rfl)
/-- (*ratchet/entry.cursor).small -/
theorem entry_cursor_small_eq (a0 a1 : PV) : C k_entry_cursor_small [a0, a1] =
 trunc (M.bind (C k_entry_cursor_look [(strip (strip a0))]) fun t7_0 =>
 M.bind (bi .gtr .none (strip t7_0) (strip a1)) fun t10_1 =>
 condM t10_1
 (M.bind (nc P (strip a0)) fun t13_2 =>
 M.bind (fa 1 t13_2) fun t14_3 =>
 M.bind (ld none false t14_3) fun t15_4 =>
 M.bind (C k_entry_cursor_fail [(strip (strip a0)), (strip t15_4), (.int .i64 4)]) fun t16_5 =>
 p_entry_cursor_small_111 a0 (.int .u8 0) t7_0)
 (p_entry_cursor_small_111 a0 (.int .u8 0) t7_0)) := by
 rw [C, callW_eq _ _ rfl]; kernel_rfl
noncomputable def p_ratchetref08_reading_small_1111 (v0 v4 v5 : PV) : M PV := atP P X k_ratchetref08_reading_small [1, 1, 1, 1] (mkEnv 38 0 [(0, v0), (4, v4), (5, v5)])
theorem p_ratchetref08_reading_small_1111_eq (v0 v4 v5 : PV) : p_ratchetref08_reading_small_1111 v0 v4 v5 =
 M.bind (nc P (strip v0)) fun t31_0 =>
 M.bind (fa 1 t31_0) fun t32_1 =>
 M.bind (ld none false t32_1) fun t33_2 =>
 M.bind (bi .add .none t33_2 (.int .i64 1)) fun t34_3 =>
 M.bind (nc P (strip v0)) fun t35_4 =>
 M.bind (fa 1 t35_4) fun t36_5 =>
 M.bind (st 1 true t36_5 t34_3) fun _ =>
 resT v5 (M.pure v5) :=
 (atP_step P X _ _ _).trans (by kernel_rfl)
/-- (*ratchet/ratchetref08.reading).small -/
theorem ratchetref08_reading_small_eq (a0 a1 : PV) : C k_ratchetref08_reading_small [a0, a1] =
 trunc (M.bind (C k_ratchetref08_reading_peek [(strip (strip a0))]) fun t9_0 =>
 M.bind (ex 0 (strip t9_0)) fun t10_1 =>
 M.bind (ex 1 (tupDrop 0 (strip t9_0))) fun t11_2 =>
 M.bind (un .not (strip t11_2)) fun t13_3 =>
 condM t13_3
 (M.bind (nc P (strip a0)) fun t16_4 =>
 M.bind (fa 0 t16_4) fun t17_5 =>
 M.bind (ld none false t17_5) fun t18_6 =>
 M.bind (lnL t18_6) fun t19_7 =>
 M.bind (C k_ratchetref08_reading_fail [(strip (strip a0)), (strip t19_7), (.int .i64 3)]) fun t20_8 =>
 M.pure (.int .u8 0))
 (M.bind (bi .gtr .none (strip t10_1) (strip a1)) fun t23_9 =>
 condM t23_9
 (M.bind (nc P (strip a0)) fun t26_10 =>
 M.bind (fa 1 t26_10) fun t27_11 =>
 M.bind (ld none false t27_11) fun t28_12 =>
 M.bind (C k_ratchetref08_reading_fail [(strip (strip a0)), (strip t28_12), (.int .i64 4)]) fun t29_13 =>
 p_ratchetref08_reading_small_1111 a0 (.int .u8 0) t10_1)
 (p_ratchetref08_reading_small_1111 a0 (.int .u8 0) t10_1))) := by
 rw [C, callW_eq _ _ rfl]; kernel_rfl
theorem entry_read_api_CompType_1_deq (a0 a1 a2 a3 : PV) : CD none k_entry_read_api_CompType_1 [a0, a1, a2, a3] =
 noPan (trunc (M.bind (M.pure .niliface) fun t6_0 =>
 M.bind (bi .neq .iface (strip t6_0) .niliface) fun t8_1 =>
 condM t8_1
 (M.bind (ta y_entry_fault (.agg [(.int .i64 0), (.int .i64 0)]) false (strip t6_0)) fun t10_2 =>
 M.bind (al [(.int .i64 0), (.int .i64 0)]) fun t5_3 =>
 M.bind (st 2 true t5_3 t10_2) fun _ =>
 nb (ld (some 4) true a0) fun t11_5 =>
 nb (fa 0 t5_3) fun t12_6 =>
 guardM (!clash (tld t12_6) (tld a0) && true) <| nb (ld none true t12_6) fun t13_7 =>
 nb (fa 1 t5_3) fun t14_8 =>
 guardM (!clash (tld t14_8) (tld t12_6) && (!clash (tld t14_8) (.no) && (!clash (tld t14_8) (tld a0) && true))) <| nb (ld none true t14_8) fun t15_9 =>
 guardM (!clash (tst a1) (tld t14_8) && (!clash (tst a1) (.no) && (!clash (tst a1) (tld t12_6) && (!clash (tst a1) (.no) && true)))) <| M.bind (noPan (st 4 true a1 t11_5)) fun _ =>
 guardM (!clash (tst a2) (tld t14_8) && (!clash (tst a2) (.no) && true)) <| M.bind (noPan (st 1 true a2 t13_7)) fun _ =>
 M.bind (noPan (st 1 true a3 t15_9)) fun _ =>
 M.pure (.tup []))
 (M.pure (.tup [])))) := by
 rw [CD, callDW_eq]; kernel_rfl
theorem entry_read_api_CompType_1_req (r : PV) (a0 a1 a2 a3 : PV) : CD (some r) k_entry_read_api_CompType_1 [a0, a1, a2, a3] =
 noPan (trunc (M.bind (M.pure r) fun t6_0 =>
 M.bind (bi .neq .iface (strip t6_0) .niliface) fun t8_1 =>
 condM t8_1
 (M.bind (ta y_entry_fault (.agg [(.int .i64 0), (.int .i64 0)]) false (strip t6_0)) fun t10_2 =>
 M.bind (al [(.int .i64 0), (.int .i64 0)]) fun t5_3 =>
 M.bind (st 2 true t5_3 t10_2) fun _ =>
 nb (ld (some 4) true a0) fun t11_5 =>
 nb (fa 0 t5_3) fun t12_6 =>
 guardM (!clash (tld t12_6) (tld a0) && true) <| nb (ld none true t12_6) fun t13_7 =>
 nb (fa 1 t5_3) fun t14_8 =>
 guardM (!clash (tld t14_8) (tld t12_6) && (!clash (tld t14_8) (.no) && (!clash (tld t14_8) (tld a0) && true))) <| nb (ld none true t14_8) fun t15_9 =>
 guardM (!clash (tst a1) (tld t14_8) && (!clash (tst a1) (.no) && (!clash (tst a1) (tld t12_6) && (!clash (tst a1) (.no) && true)))) <| M.bind (noPan (st 4 true a1 t11_5)) fun _ =>
 guardM (!clash (tst a2) (tld t14_8) && (!clash (tst a2) (.no) && true)) <| M.bind (noPan (st 1 true a2 t13_7)) fun _ =>
 M.bind (noPan (st 1 true a3 t15_9)) fun _ =>
 M.pure (.tup []))
 (M.pure (.tup [])))) := by
 rw [CD, callDW_eq]; kernel_rfl
noncomputable def p_entry_list_api_Field_1111 (v2 v6 v8 : PV) : M PV := atP P X k_entry_list_api_Field [1, 1, 1, 1] (mkEnv 32 0 [(2, v2), (6, v6), (8, v8)])
noncomputable def p_entry_list_api_Field_11111010 (v2 v6 v9 v22 v23 : PV) : M PV := atP P X k_entry_list_api_Field [1, 1, 1, 1, 1, 0, 1, 0] (mkEnv 32 0 [(2, v2), (6, v6), (9, v9), (22, v22), (23, v23)])
theorem p_entry_list_api_Field_1111_eq (v2 v6 v8 : PV) : p_entry_list_api_Field_1111 v2 v6 v8 =
 p_entry_list_api_Field_11111010 v2 v6 (.slice false true 0 []) (strip v8) (.int .u32 0) :=
 (atP_step P X _ _ _).trans (by kernel_rfl)
theorem p_entry_list_api_Field_11111010_eq (v2 v6 v9 v22 v23 : PV) : p_entry_list_api_Field_11111010 v2 v6 v9 v22 v23 =
 M.bind (bi .lss .none v23 v22) fun t24_0 =>
 condM t24_0
 (M.bind (callV P C (strip v2) []) fun t27_1 =>
 M.bind (bs true (some 4) [t27_1]) fun t28_2 =>
 M.bind (ap true 4 32 v9 t28_2) fun t29_3 =>
 M.bind (bi .add .none v23 (.int .u32 1)) fun t30_4 =>
 p_entry_list_api_Field_11111010 v2 v6 t29_3 v22 (strip t30_4))
 (resT v9 (M.pure v9)) :=
 (atP_step P X _ _ _).trans (by kernel_rfl)
/-- ratchet/entry.list[ratchet/api.Field] -/
theorem entry_list_api_Field_eq (a0 a1 a2 : PV) : C k_entry_list_api_Field [a0, a1, a2] =
 trunc (M.bind (nc P (strip a0)) fun t11_0 =>
 M.bind (fa 1 t11_0) fun t12_1 =>
 M.bind (ld none true t12_1) fun t13_2 =>
 M.bind (C k_entry_cursor_u32 [(strip (strip a0))]) fun t15_3 =>
 M.bind (bi .gtr .none (strip t15_3) (strip a1)) fun t18_4 =>
 condM t18_4
 (M.bind (C k_entry_cursor_fail [(strip (strip a0)), (strip (strip t13_2)), (.int .i64 2)]) fun t21_5 =>
 p_entry_list_api_Field_1111 a2 (.slice false true 0 []) t15_3)
 (p_entry_list_api_Field_1111 a2 (.slice false true 0 []) t15_3)) := by
 rw [C, callW_eq _ _ rfl]; kernel_rfl
/-- ratchet/ratchetref05.Same -/
theorem ratchetref05_Same_eq (a0 a1 : PV) : C k_ratchetref05_Same [a0, a1] =
 trunc (M.bind (bx 3 a0) fun t2_0 =>
 M.bind (bx 3 a1) fun t3_1 =>
 M.bind (fa 0 t2_0) fun t5_2 =>
 M.bind (ld none false t5_2) fun t6_3 =>
 M.bind (fa 0 t3_1) fun t7_4 =>
 M.bind (ld none false t7_4) fun t8_5 =>
 M.bind (bi .eql .none t6_3 t8_5) fun t9_6 =>
 M.bind (gd (strip t9_6) true (fa 0 t2_0)) fun t11_7 =>
 M.bind (gd (strip t9_6) true (ld none false t11_7)) fun t12_8 =>
 M.bind (gd (strip t9_6) true (bi .neq .none t12_8 (.int .i64 5))) fun t13_9 =>
 M.bind (gd (strip t9_6) true (M.pure (strip t13_9))) fun t14_10 =>
 M.bind (gd t14_10 false (fa 1 t2_0)) fun t15_11 =>
 M.bind (gd t14_10 false (ld none false t15_11)) fun t16_12 =>
 M.bind (gd t14_10 false (fa 1 t3_1)) fun t17_13 =>
 M.bind (gd t14_10 false (ld none false t17_13)) fun t18_14 =>
 M.bind (gd t14_10 false (bi .eql .bool t16_12 t18_14)) fun t19_15 =>
 M.bind (gd t14_10 false (M.pure (strip t19_15))) fun t20_16 =>
 M.bind (gd t20_16 true (fa 2 t2_0)) fun t21_17 =>
 M.bind (gd t20_16 true (ld none false t21_17)) fun t22_18 =>
 M.bind (gd t20_16 true (fa 2 t3_1)) fun t23_19 =>
 M.bind (gd t20_16 true (ld none false t23_19)) fun t24_20 =>
 M.bind (gd t20_16 true (bi .eql .none t22_18 t24_20)) fun t25_21 =>
 M.bind (gd t14_10 false (pick t20_16 t25_21 (.bool false))) fun t26_22 =>
 M.bind (gd (strip t9_6) true (pick t14_10 (.bool true) t26_22)) fun t27_23 =>
 M.bind (pick (strip t9_6) t27_23 (.bool false)) fun t28_24 =>
 resT t28_24 (M.pure t28_24)) := by
 rw [C, callW_eq _ _ rfl]; kernel_rfl
theorem entry_read_api_SubType_1_deq (a0 a1 a2 a3 : PV) : CD none k_entry_read_api_SubType_1 [a0, a1, a2, a3] =
 noPan (trunc (M.bind (M.pure .niliface) fun t6_0 =>
 M.bind (bi .neq .iface (strip t6_0) .niliface) fun t8_1 =>
 condM t8_1
 (M.bind (ta y_entry_fault (.agg [(.int .i64 0), (.int .i64 0)]) false (strip t6_0)) fun t10_2 =>
 M.bind (al [(.int .i64 0), (.int .i64 0)]) fun t5_3 =>
 M.bind (st 2 true t5_3 t10_2) fun _ =>
 nb (ld (some 6) true a0) fun t11_5 =>
 nb (fa 0 t5_3) fun t12_6 =>
 guardM (!clash (tld t12_6) (tld a0) && true) <| nb (ld none true t12_6) fun t13_7 =>
 nb (fa 1 t5_3) fun t14_8 =>
 guardM (!clash (tld t14_8) (tld t12_6) && (!clash (tld t14_8) (.no) && (!clash (tld t14_8) (tld a0) && true))) <| nb (ld none true t14_8) fun t15_9 =>
 guardM (!clash (tst a1) (tld t14_8) && (!clash (tst a1) (.no) && (!clash (tst a1) (tld t12_6) && (!clash (tst a1) (.no) && true)))) <| M.bind (noPan (st 6 true a1 t11_5)) fun _ =>
 guardM (!clash (tst a2) (tld t14_8) && (!clash (tst a2) (.no) && true)) <| M.bind (noPan (st 1 true a2 t13_7)) fun _ =>
 M.bind (noPan (st 1 true a3 t15_9)) fun _ =>
 M.pure (.tup []))
 (M.pure (.tup [])))) := by
 rw [CD, callDW_eq]; kernel_rfl
theorem entry_read_api_SubType_1_req (r : PV) (a0 a1 a2 a3 : PV) : CD (some r) k_entry_read_api_SubType_1 [a0, a1, a2, a3] =
 noPan (trunc (M.bind (M.pure r) fun t6_0 =>
 M.bind (bi .neq .iface (strip t6_0) .niliface) fun t8_1 =>
 condM t8_1
 (M.bind (ta y_entry_fault (.agg [(.int .i64 0), (.int .i64 0)]) false (strip t6_0)) fun t10_2 =>
 M.bind (al [(.int .i64 0), (.int .i64 0)]) fun t5_3 =>
 M.bind (st 2 true t5_3 t10_2) fun _ =>
 nb (ld (some 6) true a0) fun t11_5 =>
 nb (fa 0 t5_3) fun t12_6 =>
 guardM (!clash (tld t12_6) (tld a0) && true) <| nb (ld none true t12_6) fun t13_7 =>
 nb (fa 1 t5_3) fun t14_8 =>
 guardM (!clash (tld t14_8) (tld t12_6) && (!clash (tld t14_8) (.no) && (!clash (tld t14_8) (tld a0) && true))) <| nb (ld none true t14_8) fun t15_9 =>
 guardM (!clash (tst a1) (tld t14_8) && (!clash (tst a1) (.no) && (!clash (tst a1) (tld t12_6) && (!clash (tst a1) (.no) && true)))) <| M.bind (noPan (st 6 true a1 t11_5)) fun _ =>
 guardM (!clash (tst a2) (tld t14_8) && (!clash (tst a2) (.no) && true)) <| M.bind (noPan (st 1 true a2 t13_7)) fun _ =>
 M.bind (noPan (st 1 true a3 t15_9)) fun _ =>
 M.pure (.tup []))
 (M.pure (.tup [])))) := by
 rw [CD, callDW_eq]; kernel_rfl
noncomputable def p_entry_list_int_1111 (v2 v6 v8 : PV) : M PV := atP P X k_entry_list_int [1, 1, 1, 1] (mkEnv 32 0 [(2, v2), (6, v6), (8, v8)])
noncomputable def p_entry_list_int_11111010 (v2 v6 v9 v22 v23 : PV) : M PV := atP P X k_entry_list_int [1, 1, 1, 1, 1, 0, 1, 0] (mkEnv 32 0 [(2, v2), (6, v6), (9, v9), (22, v22), (23, v23)])
theorem p_entry_list_int_1111_eq (v2 v6 v8 : PV) : p_entry_list_int_1111 v2 v6 v8 =
 p_entry_list_int_11111010 v2 v6 (.slice false true 0 []) (strip v8) (.int .u32 0) :=
 (atP_step P X _ _ _).trans (by kernel_rfl)
theorem p_entry_list_int_11111010_eq (v2 v6 v9 v22 v23 : PV) : p_entry_list_int_11111010 v2 v6 v9 v22 v23 =
 M.bind (bi .lss .none v23 v22) fun t24_0 =>
 condM t24_0
 (M.bind (callV P C (strip v2) []) fun t27_1 =>
 M.bind (bs true none [t27_1]) fun t28_2 =>
 M.bind (ap true 1 8 v9 t28_2) fun t29_3 =>
 M.bind (bi .add .none v23 (.int .u32 1)) fun t30_4 =>
 p_entry_list_int_11111010 v2 v6 t29_3 v22 (strip t30_4))
 (resT v9 (M.pure v9)) :=
 (atP_step P X _ _ _).trans (by kernel_rfl)
/-- ratchet/entry.list[int] -/
theorem entry_list_int_eq (a0 a1 a2 : PV) : C k_entry_list_int [a0, a1, a2] =
 trunc (M.bind (nc P (strip a0)) fun t11_0 =>
 M.bind (fa 1 t11_0) fun t12_1 =>
 M.bind (ld none true t12_1) fun t13_2 =>
 M.bind (C k_entry_cursor_u32 [(strip (strip a0))]) fun t15_3 =>
 M.bind (bi .gtr .none (strip t15_3) (strip a1)) fun t18_4 =>
 condM t18_4
 (M.bind (C k_entry_cursor_fail [(strip (strip a0)), (strip (strip t13_2)), (.int .i64 2)]) fun t21_5 =>
 p_entry_list_int_1111 a2 (.slice false true 0 []) t15_3)
 (p_entry_list_int_1111 a2 (.slice false true 0 []) t15_3)) := by
 rw [C, callW_eq _ _ rfl]; kernel_rfl
noncomputable def p_entry_cursor_index_1111 (v2 v4 : PV) : M PV := atP P X k_entry_cursor_index [1, 1, 1, 1] (mkEnv 18 0 [(2, v2), (4, v4)])
theorem p_entry_cursor_index_1111_eq (v2 v4 : PV) : p_entry_cursor_index_1111 v2 v4 =
 M.bind (cv (.int .i64) true (strip v4)) fun t17_0 =>
 resT t17_0 (M.pure t17_0) :=
 (atP_step P X _ _ _).trans (by kernel_rfl)
/-- (*ratchet/entry.cursor).index -/
theorem entry_cursor_index_eq (a0 : PV) : C k_entry_cursor_index [a0] =
 trunc (M.bind (nc P (strip a0)) fun t6_0 =>
 M.bind (fa 1 t6_0) fun t7_1 =>
 M.bind (ld none true t7_1) fun t8_2 =>
 M.bind (C k_entry_cursor_u32 [(strip (strip a0))]) fun t10_3 =>
 M.bind (bi .gtr .none (strip t10_3) (.int .u32 2147483647)) fun t12_4 =>
 condM t12_4
 (M.bind (C k_entry_cursor_fail [(strip (strip a0)), (strip (strip t8_2)), (.int .i64 2)]) fun t15_5 =>
 p_entry_cursor_index_1111 (.int .i64 0) t10_3)
 (p_entry_cursor_index_1111 (.int .i64 0) t10_3)) := by
 rw [C, callW_eq _ _ rfl]; kernel_rfl
/-- (*ratchet/ratchetref08.reading).typeAt -/
theorem ratchetref08_reading_typeAt_eq (a0 : PV) : C k_ratchetref08_reading_typeAt [a0] =
 trunc (M.bind (nc P (strip a0)) fun t6_0 =>
 M.bind (fa 1 t6_0) fun t7_1 =>
 M.bind (ld none true t7_1) fun t8_2 =>
 M.bind (C k_ratchetref08_reading_number [(strip (strip a0)), (.int .i64 32), (.bool false)]) fun t10_3 =>
 M.bind (nc P (strip a0)) fun t12_4 =>
 M.bind (fa 3 t12_4) fun t13_5 =>
 M.bind (ld none false t13_5) fun t14_6 =>
 M.bind (bi .eql .none t14_6 (.int .i64 0)) fun t15_7 =>
 M.bind (gd (strip t15_7) true (M.pure (strip t10_3))) fun t17_8 =>
 M.bind (gd (strip t15_7) true (bi .geq .none t17_8 (.int .u64 2147483648))) fun t18_9 =>
 M.bind (pick (strip t15_7) t18_9 (.bool false)) fun t19_10 =>
 condM t19_10
 (M.bind (C k_ratchetref08_reading_fail [(strip (strip a0)), (strip (strip t8_2)), (.int .i64 2)]) fun t22_11 =>
 M.pure (.int .i64 0))
 (M.bind (cv (.int .i64) true (strip t10_3)) fun t24_12 =>
 resT t24_12 (M.pure t24_12))) := by
 rw [C, callW_eq _ _ rfl]; kernel_rfl
theorem entry_read_api_RecType_1_deq (a0 a1 a2 a3 : PV) : CD none k_entry_read_api_RecType_1 [a0, a1, a2, a3] =
 noPan (trunc (M.bind (M.pure .niliface) fun t6_0 =>
 M.bind (bi .neq .iface (strip t6_0) .niliface) fun t8_1 =>
 condM t8_1
 (M.bind (ta y_entry_fault (.agg [(.int .i64 0), (.int .i64 0)]) false (strip t6_0)) fun t10_2 =>
 M.bind (al [(.int .i64 0), (.int .i64 0)]) fun t5_3 =>
 M.bind (st 2 true t5_3 t10_2) fun _ =>
 nb (ld (some 2) true a0) fun t11_5 =>
 nb (fa 0 t5_3) fun t12_6 =>
 guardM (!clash (tld t12_6) (tld a0) && true) <| nb (ld none true t12_6) fun t13_7 =>
 nb (fa 1 t5_3) fun t14_8 =>
 guardM (!clash (tld t14_8) (tld t12_6) && (!clash (tld t14_8) (.no) && (!clash (tld t14_8) (tld a0) && true))) <| nb (ld none true t14_8) fun t15_9 =>
 guardM (!clash (tst a1) (tld t14_8) && (!clash (tst a1) (.no) && (!clash (tst a1) (tld t12_6) && (!clash (tst a1) (.no) && true)))) <| M.bind (noPan (st 2 true a1 t11_5)) fun _ =>
 guardM (!clash (tst a2) (tld t14_8) && (!clash (tst a2) (.no) && true)) <| M.bind (noPan (st 1 true a2 t13_7)) fun _ =>
 M.bind (noPan (st 1 true a3 t15_9)) fun _ =>
 M.pure (.tup []))
 (M.pure (.tup [])))) := by
 rw [CD, callDW_eq]; kernel_rfl
theorem entry_read_api_RecType_1_req (r : PV) (a0 a1 a2 a3 : PV) : CD (some r) k_entry_read_api_RecType_1 [a0, a1, a2, a3] =
 noPan (trunc (M.bind (M.pure r) fun t6_0 =>
 M.bind (bi .neq .iface (strip t6_0) .niliface) fun t8_1 =>
 condM t8_1
 (M.bind (ta y_entry_fault (.agg [(.int .i64 0), (.int .i64 0)]) false (strip t6_0)) fun t10_2 =>
 M.bind (al [(.int .i64 0), (.int .i64 0)]) fun t5_3 =>
 M.bind (st 2 true t5_3 t10_2) fun _ =>
 nb (ld (some 2) true a0) fun t11_5 =>
 nb (fa 0 t5_3) fun t12_6 =>
 guardM (!clash (tld t12_6) (tld a0) && true) <| nb (ld none true t12_6) fun t13_7 =>
 nb (fa 1 t5_3) fun t14_8 =>
 guardM (!clash (tld t14_8) (tld t12_6) && (!clash (tld t14_8) (.no) && (!clash (tld t14_8) (tld a0) && true))) <| nb (ld none true t14_8) fun t15_9 =>
 guardM (!clash (tst a1) (tld t14_8) && (!clash (tst a1) (.no) && (!clash (tst a1) (tld t12_6) && (!clash (tst a1) (.no) && true)))) <| M.bind (noPan (st 2 true a1 t11_5)) fun _ =>
 guardM (!clash (tst a2) (tld t14_8) && (!clash (tst a2) (.no) && true)) <| M.bind (noPan (st 1 true a2 t13_7)) fun _ =>
 M.bind (noPan (st 1 true a3 t15_9)) fun _ =>
 M.pure (.tup []))
 (M.pure (.tup [])))) := by
 rw [CD, callDW_eq]; kernel_rfl
noncomputable def p_entry_list_api_SubType_1111 (v2 v6 v8 : PV) : M PV := atP P X k_entry_list_api_SubType [1, 1, 1, 1] (mkEnv 32 0 [(2, v2), (6, v6), (8, v8)])
noncomputable def p_entry_list_api_SubType_11111010 (v2 v6 v9 v22 v23 : PV) : M PV := atP P X k_entry_list_api_SubType [1, 1, 1, 1, 1, 0, 1, 0] (mkEnv 32 0 [(2, v2), (6, v6), (9, v9), (22, v22), (23, v23)])
theorem p_entry_list_api_SubType_1111_eq (v2 v6 v8 : PV) : p_entry_list_api_SubType_1111 v2 v6 v8 =
 p_entry_list_api_SubType_11111010 v2 v6 (.slice false true 0 []) (strip v8) (.int .u32 0) :=
 (atP_step P X _ _ _).trans (by kernel_rfl)
theorem p_entry_list_api_SubType_11111010_eq (v2 v6 v9 v22 v23 : PV) : p_entry_list_api_SubType_11111010 v2 v6 v9 v22 v23 =
 M.bind (bi .lss .none v23 v22) fun t24_0 =>
 condM t24_0
 (M.bind (callV P C (strip v2) []) fun t27_1 =>
 M.bind (bs true (some 6) [t27_1]) fun t28_2 =>
 M.bind (ap true 6 112 v9 t28_2) fun t29_3 =>
 M.bind (bi .add .none v23 (.int .u32 1)) fun t30_4 =>
 p_entry_list_api_SubType_11111010 v2 v6 t29_3 v22 (strip t30_4))
 (resT v9 (M.pure v9)) :=
 (atP_step P X _ _ _).trans (by kernel_rfl)
/-- ratchet/entry.list[ratchet/api.SubType] -/
theorem entry_list_api_SubType_eq (a0 a1 a2 : PV) : C k_entry_list_api_SubType [a0, a1, a2] =
 trunc (M.bind (nc P (strip a0)) fun t11_0 =>
 M.bind (fa 1 t11_0) fun t12_1 =>
 M.bind (ld none true t12_1) fun t13_2 =>
 M.bind (C k_entry_cursor_u32 [(strip (strip a0))]) fun t15_3 =>
 M.bind (bi .gtr .none (strip t15_3) (strip a1)) fun t18_4 =>
 condM t18_4
 (M.bind (C k_entry_cursor_fail [(strip (strip a0)), (strip (strip t13_2)), (.int .i64 2)]) fun t21_5 =>
 p_entry_list_api_SubType_1111 a2 (.slice false true 0 []) t15_3)
 (p_entry_list_api_SubType_1111 a2 (.slice false true 0 []) t15_3)) := by
 rw [C, callW_eq _ _ rfl]; kernel_rfl
/-- ratchet/leb.S33 -/
theorem leb_S33_eq (a0 a1 a2 : PV) : C k_leb_S33 [a0, a1, a2] =
 trunc (M.bind (C k_leb_number_int64_int64 [(strip (strip a0)), (strip (strip a1)), (strip (strip a2)), (.fn k_leb_s33 [] [])]) fun t12_0 =>
 M.bind (ex 0 t12_0) fun t13_1 =>
 M.bind (ex 1 (tupDrop 0 t12_0)) fun t14_2 =>
 M.bind (ex 2 (tupDrop 1 (tupDrop 0 t12_0))) fun t15_3 =>
 resT t13_1 (resT t14_2 (resT t15_3 (M.pure (.tup [t13_1, t14_2, t15_3]))))) := by
 rw [C, callW_eq _ _ rfl]; kernel_rfl
noncomputable def p_entry_got_int64_11 (v0 v1 v2 v8 : PV) : M PV := atP P X k_entry_got_int64 [1, 1] (mkEnv 20 0 [(0, v0), (1, v1), (2, v2), (8, v8)])
theorem p_entry_got_int64_11_eq (v0 v1 v2 v8 : PV) : p_entry_got_int64_11 v0 v1 v2 v8 =
 M.bind (nc P (strip v0)) fun t17_0 =>
 M.bind (fa 1 t17_0) fun t18_1 =>
 M.bind (st 1 true t18_1 v2) fun _ =>
 resT v1 (M.pure v1) :=
 (atP_step P X _ _ _).trans (by kernel_rfl)
/-- ratchet/entry.got[int64] -/
theorem entry_got_int64_eq (a0 a1 a2 a3 : PV) : C k_entry_got_int64 [a0, a1, a2, a3] =
 trunc (M.bind (bi .neq .none (strip a3) (.int .i64 0)) fun t10_0 =>
 condM t10_0
 (M.bind (C k_entry_cursor_fail [(strip (strip a0)), (strip (strip a2)), (strip (strip a3))]) fun t14_1 =>
 p_entry_got_int64_11 a0 a1 a2 (.int .i64 0))
 (p_entry_got_int64_11 a0 a1 a2 (.int .i64 0))) := by
 rw [C, callW_eq _ _ rfl]; kernel_rfl
noncomputable def p_ratchetref01_Number_1111010 (v0 v1 v2 v3 v4 v10 v11 v12 v13 v14 v15 : PV) : M PV := atP P X k_ratchetref01_Number [1, 1, 1, 1, 0, 1, 0] (mkEnv 91 0 [(0, v0), (1, v1), (2, v2), (3, v3), (4, v4), (10, v10), (11, v11), (12, v12), (13, v13), (14, v14), (15, v15)])
noncomputable def p_ratchetref01_Number_111101001001111101 (v0 v1 v2 v3 v4 v10 v11 v12 v13 v14 v15 : PV) : M PV := atP P X k_ratchetref01_Number [1, 1, 1, 1, 0, 1, 0, 0, 1, 0, 0, 1, 1, 1, 1, 1, 0, 1] (mkEnv 91 0 [(0, v0), (1, v1), (2, v2), (3, v3), (4, v4), (10, v10), (11, v11), (12, v12), (13, v13), (14, v14), (15, v15)])
theorem p_ratchetref01_Number_1111010_eq (v0 v1 v2 v3 v4 v10 v11 v12 v13 v14 v15 : PV) : p_ratchetref01_Number_1111010 v0 v1 v2 v3 v4 v10 v11 v12 v13 v14 v15 =
 M.bind (bi .lss .none (strip v15) (strip v13)) fun t27_0 =>
 condM t27_0
 (M.bind (bi .add .none (strip v1) (strip v15)) fun t32_1 =>
 M.bind (bi .geq .none t32_1 (strip v2)) fun t34_2 =>
 condM t34_2
 (resT v2 (M.pure (.tup [(.int .u64 0), v2, (.int .i64 3)])))
 (M.bind (bi .add .none (strip v1) (strip v15)) fun t39_3 =>
 M.bind (iaS 1 (strip v0) t39_3) fun t40_4 =>
 M.bind (ld none true t40_4) fun t41_5 =>
 M.bind (bi .sub .none (strip v13) (.int .i64 1)) fun t44_6 =>
 M.bind (bi .eql .none (strip v15) t44_6) fun t45_7 =>
 M.bind (gd (strip t45_7) true (M.pure (strip t41_5))) fun t47_8 =>
 M.bind (gd (strip t45_7) true (M.pure (strip v3))) fun t48_9 =>
 M.bind (gd (strip t45_7) true (M.pure (strip v15))) fun t49_10 =>
 M.bind (gd (strip t45_7) true (M.pure (strip v4))) fun t50_11 =>
 M.bind (gd (strip t45_7) true (C k_ratchetref01_last [(strip t47_8), (strip t48_9), (strip t49_10), (strip t50_11)])) fun t51_12 =>
 M.bind (gd (strip t45_7) true (un .not t51_12)) fun t52_13 =>
 M.bind (pick (strip t45_7) t52_13 (.bool false)) fun t53_14 =>
 condM t53_14
 (M.bind (bi .add .none (strip v1) (strip v15)) fun t56_15 =>
 resT t56_15 (M.pure (.tup [(.int .u64 0), t56_15, (.int .i64 4)])))
 (M.bind (bi .rem .none (strip t41_5) (.int .u8 128)) fun t59_16 =>
 M.bind (cv (.int .u64) true t59_16) fun t60_17 =>
 M.bind (bi .mul .none (.int .i64 7) (strip v15)) fun t62_18 =>
 M.bind (cv (.int .u64) true t62_18) fun t63_19 =>
 M.bind (bi .shl .none t60_17 t63_19) fun t64_20 =>
 M.bind (bi .add .none (strip v14) t64_20) fun t65_21 =>
 M.bind (bi .lss .none (strip t41_5) (.int .u8 128)) fun t67_22 =>
 condM t67_22
 (M.bind (gd (strip (strip v4)) true (M.pure (strip t41_5))) fun t70_23 =>
 M.bind (gd (strip (strip v4)) true (bi .geq .none t70_23 (.int .u8 64))) fun t71_24 =>
 M.bind (pick (strip (strip v4)) t71_24 (.bool false)) fun t72_25 =>
 M.bind (gd (strip t72_25) true (M.pure (strip v15))) fun t74_26 =>
 M.bind (gd (strip t72_25) true (bi .mul .none (.int .i64 7) t74_26)) fun t75_27 =>
 M.bind (gd (strip t72_25) true (bi .add .none t75_27 (.int .i64 7))) fun t76_28 =>
 M.bind (gd (strip t72_25) true (bi .lss .none t76_28 (.int .i64 64))) fun t77_29 =>
 M.bind (pick (strip t72_25) t77_29 (.bool false)) fun t78_30 =>
 condM t78_30
 (M.bind (bi .mul .none (.int .i64 7) (strip v15)) fun t81_31 =>
 M.bind (bi .add .none t81_31 (.int .i64 7)) fun t82_32 =>
 M.bind (cv (.int .u64) true t82_32) fun t83_33 =>
 M.bind (bi .shl .none (.int .u64 1) t83_33) fun t84_34 =>
 M.bind (bi .sub .none (strip t65_21) t84_34) fun t85_35 =>
 p_ratchetref01_Number_111101001001111101 v0 v1 v2 v3 v4 v10 v11 v12 v13 t85_35 v15)
 (p_ratchetref01_Number_111101001001111101 v0 v1 v2 v3 v4 v10 v11 v12 v13 t65_21 v15))
 (M.bind (bi .add .none (strip v15) (.int .i64 1)) fun t29_36 =>
 p_ratchetref01_Number_1111010 v0 v1 v2 v3 v4 v10 v11 v12 v13 t65_21 t29_36))))
 (M.pure (.tup [(.int .u64 0), (.int .i64 0), (.int .i64 4)])) :=
 (atP_step P X _ _ _).trans (by kernel_rfl)
theorem p_ratchetref01_Number_111101001001111101_eq (v0 v1 v2 v3 v4 v10 v11 v12 v13 v14 v15 : PV) : p_ratchetref01_Number_111101001001111101 v0 v1 v2 v3 v4 v10 v11 v12 v13 v14 v15 =
 M.bind (bi .add .none (strip v1) (strip v15)) fun t89_0 =>
 M.bind (bi .add .none t89_0 (.int .i64 1)) fun t90_1 =>
 resT v14 (resT t90_1 (M.pure (.tup [v14, t90_1, (.int .i64 0)]))) :=
 (atP_step P X _ _ _).trans (by kernel_rfl)
/-- ratchet/ratchetref01.Number -/
theorem ratchetref01_Number_eq (a0 a1 a2 a3 a4 : PV) : C k_ratchetref01_Number [a0, a1, a2, a3, a4] =
 trunc (M.bind (C k_ratchetref01_reads [(strip (strip a0)), (strip (strip a1)), (strip (strip a2))]) fun t20_0 =>
 M.bind (un .not t20_0) fun t21_1 =>
 condM t21_1
 (M.pure (.tup [(.int .u64 0), (.int .i64 0), (.int .i64 1)]))
 (M.bind (bi .add .none (strip a3) (.int .i64 6)) fun t23_2 =>
 M.bind (bi .quo .none t23_2 (.int .i64 7)) fun t24_3 =>
 p_ratchetref01_Number_1111010 a0 a1 a2 a3 a4 (.int .u64 0) (.int .i64 0) (.int .i64 0) t24_3 (.int .u64 0) (.int .i64 0))) := by
 rw [C, callW_eq _ _ rfl]; kernel_rfl
/-- (*ratchet/entry.cursor).u32 -/
theorem entry_cursor_u32_eq (a0 : PV) : C k_entry_cursor_u32 [a0] =
 trunc (M.bind (noPan (M.pure (strip a0))) fun t7_21 =>
 M.bind (noPan (nc P t7_21)) fun t8_22 =>
 M.bind (noPan (fa 0 t8_22)) fun t9_23 =>
 M.bind (noPan (M.pure (strip a0))) fun t11_24 =>
 M.bind (noPan (nc P t11_24)) fun t12_25 =>
 M.bind (noPan (fa 1 t12_25)) fun t13_26 =>
 M.bind (noPan (M.pure (strip a0))) fun t15_27 =>
 M.bind (noPan (nc P t15_27)) fun t16_28 =>
 M.bind (noPan (fa 0 t16_28)) fun t17_29 =>
 M.bind (noPan (ld none false t9_23)) fun t10_30 =>
 M.bind (noPan (ld none false t13_26)) fun t14_31 =>
 M.bind (noPan (ld none false t17_29)) fun t18_32 =>
 M.bind (noPan (lnL t18_32)) fun t19_33 =>
 M.bind (noPan (C k_leb_U32 [(strip t10_30), (strip t14_31), (strip t19_33)])) fun t20_34 =>
 M.bind (noPan (M.pure (strip t20_34))) fun t6_35 =>
 M.bind (noPan (ex 0 t6_35)) fun t21_36 =>
 M.bind (noPan (ex 1 (tupDrop 0 t6_35))) fun t22_37 =>
 M.bind (noPan (ex 2 (tupDrop 1 (tupDrop 0 t6_35)))) fun t23_38 =>
 M.bind (noPan (M.pure t21_36)) fun t3_39 =>
 M.bind (noPan (M.pure t22_37)) fun t4_40 =>
 M.bind (noPan (M.pure t23_38)) fun t5_41 =>
 M.bind (C k_entry_got_uint32 [(strip (strip a0)), (strip (strip t3_39)), (strip (strip t4_40)), (strip (strip t5_41))]) fun t28_42 =>
 resT t28_42 (M.pure t28_42)) := by
 rw [C, callW_eq _ _ rfl]; kernel_rfl
/-- ratchet/leb.number[int64,int64] -/
theorem leb_number_int64_int64_eq (a0 a1 a2 a3 : PV) : C k_leb_number_int64_int64 [a0, a1, a2, a3] =
 trunc (M.bind (C k_leb_opened [(strip (strip a0)), (strip (strip a1)), (strip (strip a2))]) fun t19_0 =>
 M.bind (ex 0 (strip t19_0)) fun t20_1 =>
 M.bind (ex 1 (tupDrop 0 (strip t19_0))) fun t21_2 =>
 M.bind (al [(.slice false true 0 []), (.int .i64 0), (.int .i64 0)]) fun t11_3 =>
 M.bind (st 3 true t11_3 t20_1) fun _ =>
 M.bind (bi .neq .none (strip t21_2) (.int .i64 0)) fun t23_5 =>
 condM t23_5
 (resT t21_2 (M.pure (.tup [(.int .i64 0), (.int .i64 0), t21_2])))
 (M.bind (ld (some 3) false t11_3) fun t27_6 =>
 M.bind (callV P C (strip a3) [(strip t27_6)]) fun t28_7 =>
 M.bind (ex 0 (strip t28_7)) fun t29_8 =>
 M.bind (ex 1 (tupDrop 0 (strip t28_7))) fun t30_9 =>
 M.bind (ex 2 (tupDrop 1 (tupDrop 0 (strip t28_7)))) fun t31_10 =>
 resT t29_8 (resT t30_9 (resT t31_10 (M.pure (.tup [t29_8, t30_9, t31_10])))))) := by
 rw [C, callW_eq _ _ rfl]; kernel_rfl
/-- ratchet/leb.s33 -/
theorem leb_s33_eq (a0 : PV) : C k_leb_s33 [a0] =
 trunc (M.bind (bx 3 a0) fun t1_0 =>
 M.bind (ld (some 3) false t1_0) fun t5_1 =>
 M.bind (C k_leb_window_signed [(strip t5_1), (.int .i64 33)]) fun t6_2 =>
 M.bind (ex 0 t6_2) fun t7_3 =>
 M.bind (ex 1 (tupDrop 0 t6_2)) fun t8_4 =>
 M.bind (ex 2 (tupDrop 1 (tupDrop 0 t6_2))) fun t9_5 =>
 resT t7_3 (resT t8_4 (resT t9_5 (M.pure (.tup [t7_3, t8_4, t9_5]))))) := by
 rw [C, callW_eq _ _ rfl]; kernel_rfl
/-- ratchet/ratchetref01.reads -/
theorem ratchetref01_reads_eq (a0 a1 a2 : PV) : C k_ratchetref01_reads [a0, a1, a2] =
 trunc (M.bind (bi .geq .none (strip a1) (.int .i64 0)) fun t8_0 =>
 M.bind (gd (strip t8_0) true (M.pure (strip a2))) fun t10_1 =>
 M.bind (gd (strip t8_0) true (M.pure (strip a0))) fun t11_2 =>
 M.bind (gd (strip t8_0) true (lnL t11_2)) fun t12_3 =>
 M.bind (gd (strip t8_0) true (bi .leq .none t10_1 t12_3)) fun t13_4 =>
 M.bind (pick (strip t8_0) t13_4 (.bool false)) fun t14_5 =>
 M.bind (gd (strip t14_5) true (M.pure (strip a1))) fun t16_6 =>
 M.bind (gd (strip t14_5) true (M.pure (strip a2))) fun t17_7 =>
 M.bind (gd (strip t14_5) true (bi .leq .none t16_6 t17_7)) fun t18_8 =>
 M.bind (pick (strip t14_5) t18_8 (.bool false)) fun t19_9 =>
 resT t19_9 (M.pure t19_9)) := by
 rw [C, callW_eq _ _ rfl]; kernel_rfl
/-- ratchet/ratchetref01.last -/
theorem ratchetref01_last_eq (a0 a1 a2 a3 : PV) : C k_ratchetref01_last [a0, a1, a2, a3] =
 trunc (M.bind (bi .mul .none (.int .i64 7) (strip a2)) fun t13_0 =>
 M.bind (bi .sub .none (strip a1) t13_0) fun t14_1 =>
 M.bind (bi .geq .none (strip a0) (.int .u8 128)) fun t16_2 =>
 condM t16_2
 (M.pure (.bool false))
 (M.bind (cv (.int .i64) true (strip a0)) fun t18_3 =>
 M.bind (cv (.int .u64) true (strip t14_1)) fun t20_4 =>
 M.bind (bi .shr .none t18_3 t20_4) fun t21_5 =>
 M.bind (un .not (strip a3)) fun t23_6 =>
 condM t23_6
 (M.bind (bi .eql .none (strip t21_5) (.int .i64 0)) fun t25_7 =>
 resT t25_7 (M.pure t25_7))
 (M.bind (cv (.int .i64) true (strip a0)) fun t27_8 =>
 M.bind (bi .sub .none (strip t14_1) (.int .i64 1)) fun t29_9 =>
 M.bind (cv (.int .u64) true t29_9) fun t30_10 =>
 M.bind (bi .shr .none t27_8 t30_10) fun t31_11 =>
 M.bind (bi .eql .none (strip t31_11) (.int .i64 0)) fun t33_12 =>
 M.bind (gd (strip t33_12) false (M.pure (strip t31_11))) fun t35_13 =>
 M.bind (gd (strip t33_12) false (M.pure (strip t14_1))) fun t36_14 =>
 M.bind (gd (strip t33_12) false (bi .sub .none (.int .i64 8) t36_14)) fun t37_15 =>
 M.bind (gd (strip t33_12) false (cv (.int .u64) true t37_15)) fun t38_16 =>
 M.bind (gd (strip t33_12) false (bi .shl .none (.int .i64 1) t38_16)) fun t39_17 =>
 M.bind (gd (strip t33_12) false (bi .sub .none t39_17 (.int .i64 1))) fun t40_18 =>
 M.bind (gd (strip t33_12) false (bi .eql .none t35_13 t40_18)) fun t41_19 =>
 M.bind (pick (strip t33_12) (.bool true) t41_19) fun t42_20 =>
 resT t42_20 (M.pure t42_20)))) := by
 rw [C, callW_eq _ _ rfl]; kernel_rfl
/-- ratchet/leb.U32 -/
theorem leb_U32_eq (a0 a1 a2 : PV) : C k_leb_U32 [a0, a1, a2] =
 trunc (M.bind (C k_leb_number_uint32_uint64 [(strip (strip a0)), (strip (strip a1)), (strip (strip a2)), (.fn k_leb_u32 [] [])]) fun t12_0 =>
 M.bind (ex 0 t12_0) fun t13_1 =>
 M.bind (ex 1 (tupDrop 0 t12_0)) fun t14_2 =>
 M.bind (ex 2 (tupDrop 1 (tupDrop 0 t12_0))) fun t15_3 =>
 resT t13_1 (resT t14_2 (resT t15_3 (M.pure (.tup [t13_1, t14_2, t15_3]))))) := by
 rw [C, callW_eq _ _ rfl]; kernel_rfl
noncomputable def p_entry_got_uint32_11 (v0 v1 v2 v8 : PV) : M PV := atP P X k_entry_got_uint32 [1, 1] (mkEnv 20 0 [(0, v0), (1, v1), (2, v2), (8, v8)])
theorem p_entry_got_uint32_11_eq (v0 v1 v2 v8 : PV) : p_entry_got_uint32_11 v0 v1 v2 v8 =
 M.bind (nc P (strip v0)) fun t17_0 =>
 M.bind (fa 1 t17_0) fun t18_1 =>
 M.bind (st 1 true t18_1 v2) fun _ =>
 resT v1 (M.pure v1) :=
 (atP_step P X _ _ _).trans (by kernel_rfl)
/-- ratchet/entry.got[uint32] -/
theorem entry_got_uint32_eq (a0 a1 a2 a3 : PV) : C k_entry_got_uint32 [a0, a1, a2, a3] =
 trunc (M.bind (bi .neq .none (strip a3) (.int .i64 0)) fun t10_0 =>
 condM t10_0
 (M.bind (C k_entry_cursor_fail [(strip (strip a0)), (strip (strip a2)), (strip (strip a3))]) fun t14_1 =>
 p_entry_got_uint32_11 a0 a1 a2 (.int .u32 0))
 (p_entry_got_uint32_11 a0 a1 a2 (.int .u32 0))) := by
 rw [C, callW_eq _ _ rfl]; kernel_rfl
/-- ratchet/leb.opened -/
theorem leb_opened_eq (a0 a1 a2 : PV) : C k_leb_opened [a0, a1, a2] =
 trunc (M.bind (al [(.slice false true 0 []), (.int .i64 0), (.int .i64 0)]) fun t6_0 =>
 M.bind (bi .lss .none (strip a1) (.int .i64 0)) fun t9_1 =>
 M.bind (gd (strip t9_1) false (M.pure (strip a2))) fun t11_2 =>
 M.bind (gd (strip t9_1) false (M.pure (strip a0))) fun t12_3 =>
 M.bind (gd (strip t9_1) false (lnL t12_3)) fun t13_4 =>
 M.bind (gd (strip t9_1) false (bi .gtr .none t11_2 t13_4)) fun t14_5 =>
 M.bind (pick (strip t9_1) (.bool true) t14_5) fun t15_6 =>
 M.bind (gd (strip t15_6) false (M.pure (strip a1))) fun t17_7 =>
 M.bind (gd (strip t15_6) false (M.pure (strip a2))) fun t18_8 =>
 M.bind (gd (strip t15_6) false (bi .gtr .none t17_7 t18_8)) fun t19_9 =>
 M.bind (pick (strip t15_6) (.bool true) t19_9) fun t20_10 =>
 condM t20_10
 (M.bind (bd [(.slice false true 0 []), (.int .i64 0), (.int .i64 0)] []) fun t21_11 =>
 M.bind (st 3 true t6_0 t21_11) fun _ =>
 M.bind (ld (some 3) true t6_0) fun t0_13 => guardM (!isTup t0_13) (M.pure (.tup [t0_13, (.int .i64 1)])))
 (M.bind (bd [(.slice false true 0 []), (.int .i64 0), (.int .i64 0)] [(0, 1, (strip a0)), (1, 1, (strip a1)), (2, 1, (strip a2))]) fun t25_14 =>
 M.bind (st 3 true t6_0 t25_14) fun _ =>
 M.bind (ld (some 3) true t6_0) fun t0_16 => guardM (!isTup t0_16) (M.pure (.tup [t0_16, (.int .i64 0)])))) := by
 rw [C, callW_eq _ _ rfl]; kernel_rfl
noncomputable def p_leb_window_signed_1110 (v1 v2 v4 v5 v6 v7 v8 v9 : PV) : M PV := atP P X k_leb_window_signed [1, 1, 1, 0] (mkEnv 74 0 [(1, v1), (2, v2), (4, v4), (5, v5), (6, v6), (7, v7), (8, v8), (9, v9)])
noncomputable def p_leb_window_signed_1110000111 (v1 v2 v4 v5 v6 v7 v8 v9 v10 : PV) : M PV := atP P X k_leb_window_signed [1, 1, 1, 0, 0, 0, 0, 1, 1, 1] (mkEnv 74 0 [(1, v1), (2, v2), (4, v4), (5, v5), (6, v6), (7, v7), (8, v8), (9, v9), (10, v10)])
noncomputable def p_leb_window_signed_111000011111101 (v1 v2 v4 v5 v6 v7 v8 v9 : PV) : M PV := atP P X k_leb_window_signed [1, 1, 1, 0, 0, 0, 0, 1, 1, 1, 1, 1, 1, 0, 1] (mkEnv 74 0 [(1, v1), (2, v2), (4, v4), (5, v5), (6, v6), (7, v7), (8, v8), (9, v9)])
theorem p_leb_window_signed_1110_eq (v1 v2 v4 v5 v6 v7 v8 v9 : PV) : p_leb_window_signed_1110 v1 v2 v4 v5 v6 v7 v8 v9 =
 M.bind (fa 2 v2) fun t18_0 =>
 M.bind (ld none false t18_0) fun t19_1 =>
 M.bind (bi .geq .none (strip v9) t19_1) fun t20_2 =>
 condM t20_2
 (nb (fa 2 v2) fun t21_3 =>
 nb (ld none true t21_3) fun t22_4 =>
 resT t22_4 (M.pure (.tup [(.int .i64 0), t22_4, (.int .i64 3)])))
 (M.bind (fa 0 v2) fun t23_5 =>
 M.bind (ld none false t23_5) fun t24_6 =>
 M.bind (iaS 1 t24_6 (strip v9)) fun t26_7 =>
 M.bind (ld none true t26_7) fun t27_8 =>
 M.bind (bi .sub .none (strip v1) (strip v8)) fun t30_9 =>
 M.bind (bi .lss .none (strip t30_9) (.int .i64 7)) fun t32_10 =>
 condM t32_10
 (M.bind (bi .shl .none (strip t27_8) (.int .u64 1)) fun t34_11 =>
 M.bind (cv (.int .i8) true t34_11) fun t35_12 =>
 M.bind (bi .shr .none t35_12 (strip t30_9)) fun t37_13 =>
 M.bind (bi .geq .none (strip t27_8) (.int .u8 128)) fun t39_14 =>
 M.bind (gd (strip t39_14) false (M.pure (strip t37_13))) fun t41_15 =>
 M.bind (gd (strip t39_14) false (bi .neq .none t41_15 (.int .i8 0))) fun t42_16 =>
 M.bind (gd (strip t39_14) false (M.pure (strip t42_16))) fun t43_17 =>
 M.bind (gd t43_17 true (M.pure (strip t37_13))) fun t44_18 =>
 M.bind (gd t43_17 true (bi .neq .none t44_18 (.int .i8 (-1)))) fun t45_19 =>
 M.bind (gd (strip t39_14) false (pick t43_17 t45_19 (.bool false))) fun t46_20 =>
 M.bind (pick (strip t39_14) (.bool true) t46_20) fun t47_21 =>
 condM t47_21
 (resT v9 (M.pure (.tup [(.int .i64 0), v9, (.int .i64 4)])))
 (p_leb_window_signed_1110000111 v1 v2 v4 v5 v6 v7 v8 v9 t27_8))
 (p_leb_window_signed_1110000111 v1 v2 v4 v5 v6 v7 v8 v9 t27_8)) :=
 (atP_step P X _ _ _).trans (by kernel_rfl)
theorem p_leb_window_signed_1110000111_eq (v1 v2 v4 v5 v6 v7 v8 v9 v10 : PV) : p_leb_window_signed_1110000111 v1 v2 v4 v5 v6 v7 v8 v9 v10 =
 M.bind (bi .and .none (strip v10) (.int .u8 127)) fun t51_0 =>
 M.bind (cv (.int .i64) true t51_0) fun t52_1 =>
 M.bind (bi .shl .none t52_1 (strip v8)) fun t54_2 =>
 M.bind (bi .or .none (strip v7) t54_2) fun t55_3 =>
 M.bind (bi .add .none (strip v8) (.int .i64 7)) fun t57_4 =>
 M.bind (bi .lss .none (strip v10) (.int .u8 128)) fun t59_5 =>
 condM t59_5
 (M.bind (bi .and .none (strip v10) (.int .u8 64)) fun t61_6 =>
 M.bind (bi .neq .none t61_6 (.int .u8 0)) fun t62_7 =>
 M.bind (gd (strip t62_7) true (M.pure (strip t57_4))) fun t64_8 =>
 M.bind (gd (strip t62_7) true (bi .lss .none t64_8 (.int .i64 64))) fun t65_9 =>
 M.bind (pick (strip t62_7) t65_9 (.bool false)) fun t66_10 =>
 condM t66_10
 (M.bind (bi .shl .none (.int .i64 (-1)) (strip t57_4)) fun t69_11 =>
 M.bind (bi .or .none (strip t55_3) t69_11) fun t70_12 =>
 p_leb_window_signed_111000011111101 v1 v2 v4 v5 v6 t70_12 t57_4 v9)
 (p_leb_window_signed_111000011111101 v1 v2 v4 v5 v6 t55_3 t57_4 v9))
 (M.bind (bi .add .none (strip v9) (.int .i64 1)) fun t16_13 =>
 p_leb_window_signed_1110 v1 v2 v4 v5 v6 t55_3 t57_4 t16_13) :=
 (atP_step P X _ _ _).trans (by kernel_rfl)
theorem p_leb_window_signed_111000011111101_eq (v1 v2 v4 v5 v6 v7 v8 v9 : PV) : p_leb_window_signed_111000011111101 v1 v2 v4 v5 v6 v7 v8 v9 =
 M.bind (bi .add .none (strip v9) (.int .i64 1)) fun t73_0 =>
 resT v7 (resT t73_0 (M.pure (.tup [v7, t73_0, (.int .i64 0)]))) :=
 (atP_step P X _ _ _).trans (by kernel_rfl)
/-- (ratchet/leb.window).signed -/
theorem leb_window_signed_eq (a0 a1 : PV) : C k_leb_window_signed [a0, a1] =
 trunc (M.bind (bx 3 a0) fun t2_0 =>
 M.bind (fa 1 t2_0) fun t13_1 =>
 M.bind (ld none true t13_1) fun t14_2 =>
 p_leb_window_signed_1110 a1 t2_0 (.int .i64 0) (.int .i64 0) (.int .i64 0) (.int .i64 0) (.int .i64 0) t14_2) := by
 rw [C, callW_eq _ _ rfl]; kernel_rfl
/-- ratchet/leb.number[uint32,uint64] -/
theorem leb_number_uint32_uint64_eq (a0 a1 a2 a3 : PV) : C k_leb_number_uint32_uint64 [a0, a1, a2, a3] =
 trunc (M.bind (C k_leb_opened [(strip (strip a0)), (strip (strip a1)), (strip (strip a2))]) fun t19_0 =>
 M.bind (ex 0 (strip t19_0)) fun t20_1 =>
 M.bind (ex 1 (tupDrop 0 (strip t19_0))) fun t21_2 =>
 M.bind (al [(.slice false true 0 []), (.int .i64 0), (.int .i64 0)]) fun t11_3 =>
 M.bind (st 3 true t11_3 t20_1) fun _ =>
 M.bind (bi .neq .none (strip t21_2) (.int .i64 0)) fun t23_5 =>
 condM t23_5
 (resT t21_2 (M.pure (.tup [(.int .u32 0), (.int .i64 0), t21_2])))
 (M.bind (ld (some 3) false t11_3) fun t27_6 =>
 M.bind (callV P C (strip a3) [(strip t27_6)]) fun t28_7 =>
 M.bind (ex 0 (strip t28_7)) fun t29_8 =>
 M.bind (ex 1 (tupDrop 0 (strip t28_7))) fun t30_9 =>
 M.bind (ex 2 (tupDrop 1 (tupDrop 0 (strip t28_7)))) fun t31_10 =>
 M.bind (cv (.int .u32) true (strip t29_8)) fun t33_11 =>
 resT t33_11 (resT t30_9 (resT t31_10 (M.pure (.tup [t33_11, t30_9, t31_10])))))) := by
 rw [C, callW_eq _ _ rfl]; kernel_rfl
/-- ratchet/leb.u32 -/
theorem leb_u32_eq (a0 : PV) : C k_leb_u32 [a0] =
 trunc (M.bind (bx 3 a0) fun t1_0 =>
 M.bind (ld (some 3) false t1_0) fun t5_1 =>
 M.bind (C k_leb_window_unsigned [(strip t5_1), (.int .i64 32)]) fun t6_2 =>
 M.bind (ex 0 t6_2) fun t7_3 =>
 M.bind (ex 1 (tupDrop 0 t6_2)) fun t8_4 =>
 M.bind (ex 2 (tupDrop 1 (tupDrop 0 t6_2))) fun t9_5 =>
 resT t7_3 (resT t8_4 (resT t9_5 (M.pure (.tup [t7_3, t8_4, t9_5]))))) := by
 rw [C, callW_eq _ _ rfl]; kernel_rfl
noncomputable def p_leb_window_unsigned_1110 (v1 v2 v4 v5 v6 v7 v8 v9 : PV) : M PV := atP P X k_leb_window_unsigned [1, 1, 1, 0] (mkEnv 53 0 [(1, v1), (2, v2), (4, v4), (5, v5), (6, v6), (7, v7), (8, v8), (9, v9)])
theorem p_leb_window_unsigned_1110_eq (v1 v2 v4 v5 v6 v7 v8 v9 : PV) : p_leb_window_unsigned_1110 v1 v2 v4 v5 v6 v7 v8 v9 =
 M.bind (fa 2 v2) fun t17_0 =>
 M.bind (ld none false t17_0) fun t18_1 =>
 M.bind (bi .geq .none (strip v9) t18_1) fun t19_2 =>
 condM t19_2
 (nb (fa 2 v2) fun t20_3 =>
 nb (ld none true t20_3) fun t21_4 =>
 resT t21_4 (M.pure (.tup [(.int .u64 0), t21_4, (.int .i64 3)])))
 (M.bind (fa 0 v2) fun t22_5 =>
 M.bind (ld none false t22_5) fun t23_6 =>
 M.bind (iaS 1 t23_6 (strip v9)) fun t25_7 =>
 M.bind (ld none true t25_7) fun t26_8 =>
 M.bind (bi .sub .none (strip v1) (strip v8)) fun t29_9 =>
 M.bind (bi .lss .none (strip t29_9) (.int .i64 7)) fun t31_10 =>
 M.bind (gd (strip t31_10) true (M.pure (strip t26_8))) fun t33_11 =>
 M.bind (gd (strip t31_10) true (M.pure (strip t29_9))) fun t34_12 =>
 M.bind (gd (strip t31_10) true (bi .shr .none t33_11 t34_12)) fun t35_13 =>
 M.bind (gd (strip t31_10) true (bi .neq .none t35_13 (.int .u8 0))) fun t36_14 =>
 M.bind (pick (strip t31_10) t36_14 (.bool false)) fun t37_15 =>
 condM t37_15
 (resT v9 (M.pure (.tup [(.int .u64 0), v9, (.int .i64 4)])))
 (M.bind (bi .and .none (strip t26_8) (.int .u8 127)) fun t41_16 =>
 M.bind (cv (.int .u64) true t41_16) fun t42_17 =>
 M.bind (bi .shl .none t42_17 (strip v8)) fun t44_18 =>
 M.bind (bi .or .none (strip v7) t44_18) fun t45_19 =>
 M.bind (bi .lss .none (strip t26_8) (.int .u8 128)) fun t47_20 =>
 condM t47_20
 (M.bind (bi .add .none (strip v9) (.int .i64 1)) fun t50_21 =>
 resT t45_19 (resT t50_21 (M.pure (.tup [t45_19, t50_21, (.int .i64 0)]))))
 (M.bind (bi .add .none (strip v8) (.int .i64 7)) fun t52_22 =>
 M.bind (bi .add .none (strip v9) (.int .i64 1)) fun t15_23 =>
 p_leb_window_unsigned_1110 v1 v2 v4 v5 v6 t45_19 t52_22 t15_23))) :=
 (atP_step P X _ _ _).trans (by kernel_rfl)
/-- (ratchet/leb.window).unsigned -/
theorem leb_window_unsigned_eq (a0 a1 : PV) : C k_leb_window_unsigned [a0, a1] =
 trunc (M.bind (bx 3 a0) fun t2_0 =>
 M.bind (fa 1 t2_0) fun t12_1 =>
 M.bind (ld none true t12_1) fun t13_2 =>
 p_leb_window_unsigned_1110 a1 t2_0 (.int .u64 0) (.int .i64 0) (.int .i64 0) (.int .u64 0) (.int .i64 0) t13_2) := by
 rw [C, callW_eq _ _ rfl]; kernel_rfl
end Go.Proofs.Ytofbbijagbpicaa.Pi.Q
