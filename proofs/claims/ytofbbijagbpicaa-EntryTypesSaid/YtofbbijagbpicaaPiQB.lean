/- What the functions are, told. -/
import Derived.Test.YtofbbijagbpicaaPiK
namespace Go.Proofs.Ytofbbijagbpicaa.Pi.Q
open Go Go.Proofs.Ytofbbijagbpicaa.Pi
set_option linter.unusedVariables false
set_option maxRecDepth 100000
/-- ratchet/entry.read[ratchet/api.SubType] -/
theorem entry_read_api_SubType_eq (a0 a1 a2 : PV) : C k_entry_read_api_SubType [a0, a1, a2] =
 trunc (M.bind (al [(.bool false), (.slice false true 0 []), (.int .i64 0), (.slice false true 0 []), (.slice false true 0 []), (.slice false true 0 [])]) fun t6_0 =>
 M.bind (al [(.int .i64 0)]) fun t7_1 =>
 M.bind (al [(.int .i64 0)]) fun t8_2 =>
 M.bind (al [(.bool false), (.slice false true 0 []), (.int .i64 0), (.slice false true 0 []), (.slice false true 0 []), (.slice false true 0 [])]) fun t9_3 =>
 M.bind (bi .lss .none (strip a1) (.int .i64 0)) fun t12_4 =>
 M.bind (gd (strip t12_4) false (M.pure (strip a1))) fun t14_5 =>
 M.bind (gd (strip t12_4) false (M.pure (strip a0))) fun t15_6 =>
 M.bind (gd (strip t12_4) false (lnL t15_6)) fun t16_7 =>
 M.bind (gd (strip t12_4) false (bi .gtr .none t14_5 t16_7)) fun t17_8 =>
 M.bind (pick (strip t12_4) (.bool true) t17_8) fun t18_9 =>
 condM t18_9
 (M.bind (ld (some 6) true t9_3) fun t19_10 =>
 M.bind (st 6 true t6_0 t19_10) fun _ =>
 M.bind (st 1 false t7_1 (.int .i64 0)) fun _ =>
 M.bind (st 1 false t8_2 (.int .i64 1)) fun _ =>
 M.bind (ld (some 6) true t6_0) fun t0_14 => guardM (!isTup t0_14) (M.bind (ld none true t7_1) fun t0_15 => guardM (!isTup t0_15) (M.bind (ld none true t8_2) fun t0_16 => guardM (!isTup t0_16) (M.pure (.tup [t0_14, t0_15, t0_16])))))
 (M.bind (mf k_entry_read_api_SubType_1 [] [t9_3, t6_0, t7_1, t8_2]) fun t20_17 =>
 guardM (isPtr t6_0 && isPtr t7_1 && isPtr t8_2) <| deferM CD t20_17 []
 (M.bind (bd [(.slice false true 0 []), (.int .i64 0)] [(0, 1, (strip a0)), (1, 1, (strip a1))]) fun t23_18 =>
 M.bind (bx 2 t23_18) fun t24_19 =>
 M.bind (callV P C (strip a2) [(strip (strip t24_19))]) fun t27_20 =>
 M.bind (st 6 true t6_0 t27_20) fun _ =>
 chk
 (M.bind (noPan (M.pure (strip t24_19))) fun t29_30 =>
 M.bind (noPan (nc P t29_30)) fun t30_31 =>
 M.bind (noPan (fa 1 t30_31)) fun t31_32 =>
 M.bind (noPan (ld (some 6) true t6_0)) fun t28_33 =>
 M.bind (noPan (st 6 true t6_0 t28_33)) fun _ =>
 M.bind (noPan (ld none true t31_32)) fun t32_35 =>
 M.bind (noPan (st 1 true t7_1 t32_35)) fun _ =>
 M.bind (noPan (st 1 false t8_2 (.int .i64 0))) fun _ =>
 M.pure [a0, a1, a2, .undef, .undef, .undef, t6_0, t7_1, t8_2, t9_3, t24_19, (strip a1), t12_4, (strip t12_4), t14_5, t15_6, t16_7, t17_8, t18_9, .undef, t20_17, (strip a0), (strip a1), t23_18, (strip t24_19), (strip a2), (strip t24_19), (strip t27_20), (strip t28_33), t29_30, t30_31, t31_32, (strip t32_35)])
 (M.bind (noPan (M.pure (strip t24_19))) fun t29_22 =>
 M.bind (noPan (nc P t29_22)) fun t30_23 =>
 M.bind (noPan (fa 1 t30_23)) fun t31_24 =>
 M.bind (noPan (ld (some 6) true t6_0)) fun t28_25 =>
 M.bind (noPan (ld none true t31_24)) fun t32_26 =>
 M.bind (noPan (st 6 true t6_0 t28_25)) fun _ =>
 M.bind (noPan (st 1 true t7_1 t32_26)) fun _ =>
 M.bind (noPan (st 1 false t8_2 (.int .i64 0))) fun _ =>
 M.pure [a0, a1, a2, .undef, .undef, .undef, t6_0, t7_1, t8_2, t9_3, t24_19, (strip a1), t12_4, (strip t12_4), t14_5, t15_6, t16_7, t17_8, t18_9, .undef, t20_17, (strip a0), (strip a1), t23_18, (strip t24_19), (strip a2), (strip t24_19), (strip t27_20), (strip t28_25), t29_22, t30_23, t31_24, (strip t32_26)]) <|
 chk
 (M.bind (noPan (M.pure (strip t24_19))) fun t29_38 =>
 M.bind (noPan (nc P t29_38)) fun t30_39 =>
 M.bind (noPan (fa 1 t30_39)) fun t31_40 =>
 M.bind (noPan (ld none true t31_40)) fun t32_41 =>
 M.bind (noPan (ld (some 6) true t6_0)) fun t28_42 =>
 M.bind (noPan (st 6 true t6_0 t28_42)) fun _ =>
 M.bind (noPan (st 1 true t7_1 t32_41)) fun _ =>
 M.bind (noPan (st 1 false t8_2 (.int .i64 0))) fun _ =>
 M.pure [a0, a1, a2, .undef, .undef, .undef, t6_0, t7_1, t8_2, t9_3, t24_19, (strip a1), t12_4, (strip t12_4), t14_5, t15_6, t16_7, t17_8, t18_9, .undef, t20_17, (strip a0), (strip a1), t23_18, (strip t24_19), (strip a2), (strip t24_19), (strip t27_20), (strip t28_42), t29_38, t30_39, t31_40, (strip t32_41)])
 (M.bind (noPan (M.pure (strip t24_19))) fun t29_22 =>
 M.bind (noPan (nc P t29_22)) fun t30_23 =>
 M.bind (noPan (fa 1 t30_23)) fun t31_24 =>
 M.bind (noPan (ld (some 6) true t6_0)) fun t28_25 =>
 M.bind (noPan (ld none true t31_24)) fun t32_26 =>
 M.bind (noPan (st 6 true t6_0 t28_25)) fun _ =>
 M.bind (noPan (st 1 true t7_1 t32_26)) fun _ =>
 M.bind (noPan (st 1 false t8_2 (.int .i64 0))) fun _ =>
 M.pure [a0, a1, a2, .undef, .undef, .undef, t6_0, t7_1, t8_2, t9_3, t24_19, (strip a1), t12_4, (strip t12_4), t14_5, t15_6, t16_7, t17_8, t18_9, .undef, t20_17, (strip a0), (strip a1), t23_18, (strip t24_19), (strip a2), (strip t24_19), (strip t27_20), (strip t28_25), t29_22, t30_23, t31_24, (strip t32_26)]) <|
 M.bind (noPan (M.pure (strip t24_19))) fun t29_46 =>
 M.bind (noPan (nc P t29_46)) fun t30_47 =>
 M.bind (noPan (fa 1 t30_47)) fun t31_48 =>
 M.bind (noPan (ld (some 6) true t6_0)) fun t28_49 =>
 M.bind (noPan (ld none true t31_48)) fun t32_50 =>
 M.bind (noPan (st 6 true t6_0 t28_49)) fun _ =>
 M.bind (noPan (st 1 true t7_1 t32_50)) fun _ =>
 M.bind (noPan (st 1 false t8_2 (.int .i64 0))) fun _ =>
 M.bind (ld (some 6) true t6_0) fun t0_54 => guardM (!isTup t0_54) (M.bind (ld none true t7_1) fun t0_55 => guardM (!isTup t0_55) (M.bind (ld none true t8_2) fun t0_56 => guardM (!isTup t0_56) (M.pure (.tup [t0_54, t0_55, t0_56])))))
 (M.bind (ld (some 6) true t6_0) fun t0_57 => guardM (!isTup t0_57) (M.bind (ld none true t7_1) fun t0_58 => guardM (!isTup t0_58) (M.bind (ld none true t8_2) fun t0_59 => guardM (!isTup t0_59) (M.pure (.tup [t0_57, t0_58, t0_59]))))))) := by
 rw [C, callW_eq _ _ rfl]; kernel_rfl
/-- (*ratchet/entry.cursor).sub -/
theorem entry_cursor_sub_eq (a0 : PV) : C k_entry_cursor_sub [a0] =
 trunc (M.bind (al [(.bool false), (.slice false true 0 []), (.int .i64 0), (.slice false true 0 []), (.slice false true 0 []), (.slice false true 0 [])]) fun t2_0 =>
 M.bind (C k_entry_cursor_look [(strip (strip a0))]) fun t6_1 =>
 M.bind (bi .neq .none (strip t6_1) (.int .u8 80)) fun t8_2 =>
 M.bind (gd (strip t8_2) true (M.pure (strip t6_1))) fun t10_3 =>
 M.bind (gd (strip t8_2) true (bi .neq .none t10_3 (.int .u8 79))) fun t11_4 =>
 M.bind (pick (strip t8_2) t11_4 (.bool false)) fun t12_5 =>
 condM t12_5
 (M.bind (C k_entry_cursor_comp [(strip (strip a0))]) fun t14_6 =>
 M.bind (bd [(.bool false), (.slice false true 0 []), (.int .i64 0), (.slice false true 0 []), (.slice false true 0 []), (.slice false true 0 [])] [(0, 1, (.bool true)), (2, 4, t14_6)]) fun t15_7 =>
 M.bind (st 6 true t2_0 t15_7) fun _ =>
 M.bind (ld (some 6) true t2_0) fun t0_9 => guardM (!isTup t0_9) (M.pure t0_9))
 (M.bind (nc P (strip a0)) fun t17_10 =>
 M.bind (fa 1 t17_10) fun t18_11 =>
 M.bind (ld none false t18_11) fun t19_12 =>
 M.bind (bi .add .none t19_12 (.int .i64 1)) fun t20_13 =>
 M.bind (nc P (strip a0)) fun t21_14 =>
 M.bind (fa 1 t21_14) fun t22_15 =>
 M.bind (st 1 true t22_15 t20_13) fun _ =>
 M.bind (bi .eql .none (strip t6_1) (.int .u8 79)) fun t24_17 =>
 M.bind (mf k_entry_cursor_index [(strip a0)] []) fun t27_18 =>
 M.bind (C k_entry_list_int [(strip (strip a0)), (.int .u32 1000), (strip t27_18)]) fun t28_19 =>
 M.bind (bd [(.bool false), (.slice false true 0 []), (.int .i64 0), (.slice false true 0 []), (.slice false true 0 []), (.slice false true 0 [])] [(0, 1, t24_17), (1, 1, t28_19)]) fun t29_20 =>
 M.bind (al [(.bool false), (.slice false true 0 []), (.int .i64 0), (.slice false true 0 []), (.slice false true 0 []), (.slice false true 0 [])]) fun t4_21 =>
 M.bind (st 6 true t4_21 t29_20) fun _ =>
 M.bind (C k_entry_cursor_comp [(strip (strip a0))]) fun t31_23 =>
 M.bind (fa 2 t4_21) fun t32_24 =>
 M.bind (st 4 true t32_24 t31_23) fun _ =>
 M.bind (ld (some 6) true t4_21) fun t33_26 =>
 M.bind (st 6 true t2_0 t33_26) fun _ =>
 M.bind (ld (some 6) true t2_0) fun t0_28 => guardM (!isTup t0_28) (M.pure t0_28))) := by
 rw [C, callW_eq _ _ rfl]; kernel_rfl
noncomputable def p_ratchetref08_reading_sub_111111010 (v0 v2 v5 v6 v7 : PV) : M PV := atP P X k_ratchetref08_reading_sub [1, 1, 1, 1, 1, 1, 0, 1, 0] (mkEnv 61 0 [(0, v0), (2, v2), (5, v5), (6, v6), (7, v7)])
theorem p_ratchetref08_reading_sub_111111010_eq (v0 v2 v5 v6 v7 : PV) : p_ratchetref08_reading_sub_111111010 v0 v2 v5 v6 v7 =
 M.bind (bi .lss .none (strip v7) (strip v6)) fun t40_0 =>
 M.bind (gd (strip t40_0) true (M.pure (strip v0))) fun t42_1 =>
 M.bind (gd (strip t40_0) true (nc P t42_1)) fun t43_2 =>
 M.bind (gd (strip t40_0) true (fa 3 t43_2)) fun t44_3 =>
 M.bind (gd (strip t40_0) true (ld none false t44_3)) fun t45_4 =>
 M.bind (gd (strip t40_0) true (bi .eql .none t45_4 (.int .i64 0))) fun t46_5 =>
 M.bind (pick (strip t40_0) t46_5 (.bool false)) fun t47_6 =>
 condM t47_6
 (chk
 (M.bind (noPan (fa 1 v5)) fun t50_15 =>
 M.bind (noPan (M.pure (strip v0))) fun t52_16 =>
 M.bind (noPan (C k_ratchetref08_reading_typeAt [(strip t52_16)])) fun t53_17 =>
 M.bind (noPan (bs true none [t53_17])) fun t54_18 =>
 M.bind (noPan (ld none true t50_15)) fun t51_19 =>
 M.bind (noPan (ap true 1 8 t51_19 t54_18)) fun t55_20 =>
 M.bind (noPan (fa 1 v5)) fun t56_21 =>
 M.bind (noPan (st 1 true t56_21 t55_20)) fun _ =>
 M.pure [v0, .undef, v2, .undef, .undef, v5, v6, v7, .undef, .undef, .undef, .undef, .undef, .undef, .undef, .undef, .undef, .undef, .undef, .undef, .undef, .undef, .undef, .undef, .undef, .undef, .undef, .undef, .undef, .undef, .undef, .undef, .undef, .undef, .undef, .undef, .undef, .undef, (strip v7), (strip v6), t40_0, (strip t40_0), t42_1, t43_2, t44_3, t45_4, t46_5, t47_6, .undef, .undef, t50_15, (strip t51_19), t52_16, t53_17, t54_18, (strip t55_20), t56_21, .undef, .undef, .undef, .undef])
 (M.bind (noPan (fa 1 v5)) fun t50_7 =>
 M.bind (noPan (M.pure (strip v0))) fun t52_8 =>
 M.bind (noPan (ld none true t50_7)) fun t51_9 =>
 M.bind (noPan (C k_ratchetref08_reading_typeAt [(strip t52_8)])) fun t53_10 =>
 M.bind (noPan (bs true none [t53_10])) fun t54_11 =>
 M.bind (noPan (ap true 1 8 t51_9 t54_11)) fun t55_12 =>
 M.bind (noPan (fa 1 v5)) fun t56_13 =>
 M.bind (noPan (st 1 true t56_13 t55_12)) fun _ =>
 M.pure [v0, .undef, v2, .undef, .undef, v5, v6, v7, .undef, .undef, .undef, .undef, .undef, .undef, .undef, .undef, .undef, .undef, .undef, .undef, .undef, .undef, .undef, .undef, .undef, .undef, .undef, .undef, .undef, .undef, .undef, .undef, .undef, .undef, .undef, .undef, .undef, .undef, (strip v7), (strip v6), t40_0, (strip t40_0), t42_1, t43_2, t44_3, t45_4, t46_5, t47_6, .undef, .undef, t50_7, (strip t51_9), t52_8, t53_10, t54_11, (strip t55_12), t56_13, .undef, .undef, .undef, .undef]) <|
 M.bind (noPan (fa 1 v5)) fun t50_23 =>
 M.bind (noPan (M.pure (strip v0))) fun t52_24 =>
 M.bind (noPan (ld none true t50_23)) fun t51_25 =>
 M.bind (noPan (C k_ratchetref08_reading_typeAt [(strip t52_24)])) fun t53_26 =>
 M.bind (noPan (bs true none [t53_26])) fun t54_27 =>
 M.bind (noPan (ap true 1 8 t51_25 t54_27)) fun t55_28 =>
 M.bind (noPan (fa 1 v5)) fun t56_29 =>
 M.bind (noPan (st 1 true t56_29 t55_28)) fun _ =>
 M.bind (bi .add .none (strip v7) (.int .i64 1)) fun t49_31 =>
 p_ratchetref08_reading_sub_111111010 v0 v2 v5 v6 t49_31)
 (M.bind (C k_ratchetref08_reading_comp [(strip (strip v0))]) fun t58_32 =>
 M.bind (fa 2 v5) fun t59_33 =>
 M.bind (st 4 true t59_33 t58_32) fun _ =>
 M.bind (ld (some 6) true v5) fun t60_35 =>
 M.bind (st 6 true v2 t60_35) fun _ =>
 M.bind (ld (some 6) true v2) fun t0_37 => guardM (!isTup t0_37) (M.pure t0_37)) :=
 (atP_step P X _ _ _).trans (by kernel_rfl)
/-- (*ratchet/ratchetref08.reading).sub -/
theorem ratchetref08_reading_sub_eq (a0 : PV) : C k_ratchetref08_reading_sub [a0] =
 trunc (M.bind (al [(.bool false), (.slice false true 0 []), (.int .i64 0), (.slice false true 0 []), (.slice false true 0 []), (.slice false true 0 [])]) fun t2_0 =>
 M.bind (C k_ratchetref08_reading_peek [(strip (strip a0))]) fun t10_1 =>
 M.bind (ex 0 (strip t10_1)) fun t11_2 =>
 M.bind (ex 1 (tupDrop 0 (strip t10_1))) fun t12_3 =>
 M.bind (un .not (strip t12_3)) fun t14_4 =>
 M.bind (gd (strip t14_4) false (M.pure (strip t11_2))) fun t16_5 =>
 M.bind (gd (strip t14_4) false (bi .neq .none t16_5 (.int .u8 80))) fun t17_6 =>
 M.bind (gd (strip t14_4) false (M.pure (strip t17_6))) fun t18_7 =>
 M.bind (gd t18_7 true (M.pure (strip t11_2))) fun t19_8 =>
 M.bind (gd t18_7 true (bi .neq .none t19_8 (.int .u8 79))) fun t20_9 =>
 M.bind (gd (strip t14_4) false (pick t18_7 t20_9 (.bool false))) fun t21_10 =>
 M.bind (pick (strip t14_4) (.bool true) t21_10) fun t22_11 =>
 condM t22_11
 (M.bind (C k_ratchetref08_reading_comp [(strip (strip a0))]) fun t24_12 =>
 M.bind (bd [(.bool false), (.slice false true 0 []), (.int .i64 0), (.slice false true 0 []), (.slice false true 0 []), (.slice false true 0 [])] [(0, 1, (.bool true)), (2, 4, t24_12)]) fun t25_13 =>
 M.bind (st 6 true t2_0 t25_13) fun _ =>
 M.bind (ld (some 6) true t2_0) fun t0_15 => guardM (!isTup t0_15) (M.pure t0_15))
 (M.bind (nc P (strip a0)) fun t27_16 =>
 M.bind (fa 1 t27_16) fun t28_17 =>
 M.bind (ld none false t28_17) fun t29_18 =>
 M.bind (bi .add .none t29_18 (.int .i64 1)) fun t30_19 =>
 M.bind (nc P (strip a0)) fun t31_20 =>
 M.bind (fa 1 t31_20) fun t32_21 =>
 M.bind (st 1 true t32_21 t30_19) fun _ =>
 M.bind (bi .eql .none (strip t11_2) (.int .u8 79)) fun t34_23 =>
 M.bind (bd [(.bool false), (.slice false true 0 []), (.int .i64 0), (.slice false true 0 []), (.slice false true 0 []), (.slice false true 0 [])] [(0, 1, t34_23)]) fun t35_24 =>
 M.bind (al [(.bool false), (.slice false true 0 []), (.int .i64 0), (.slice false true 0 []), (.slice false true 0 []), (.slice false true 0 [])]) fun t5_25 =>
 M.bind (st 6 true t5_25 t35_24) fun _ =>
 M.bind (C k_ratchetref08_reading_many [(strip (strip a0)), (.int .i64 1000)]) fun t37_27 =>
 p_ratchetref08_reading_sub_111111010 a0 t2_0 t5_25 t37_27 (.int .i64 0))) := by
 rw [C, callW_eq _ _ rfl]; kernel_rfl
/-- ratchet/entry.read[ratchet/api.RecType] -/
theorem entry_read_api_RecType_eq (a0 a1 a2 : PV) : C k_entry_read_api_RecType [a0, a1, a2] =
 trunc (M.bind (al [(.slice false true 0 []), (.bool false)]) fun t6_0 =>
 M.bind (al [(.int .i64 0)]) fun t7_1 =>
 M.bind (al [(.int .i64 0)]) fun t8_2 =>
 M.bind (al [(.slice false true 0 []), (.bool false)]) fun t9_3 =>
 M.bind (bi .lss .none (strip a1) (.int .i64 0)) fun t12_4 =>
 M.bind (gd (strip t12_4) false (M.pure (strip a1))) fun t14_5 =>
 M.bind (gd (strip t12_4) false (M.pure (strip a0))) fun t15_6 =>
 M.bind (gd (strip t12_4) false (lnL t15_6)) fun t16_7 =>
 M.bind (gd (strip t12_4) false (bi .gtr .none t14_5 t16_7)) fun t17_8 =>
 M.bind (pick (strip t12_4) (.bool true) t17_8) fun t18_9 =>
 condM t18_9
 (M.bind (ld (some 2) true t9_3) fun t19_10 =>
 M.bind (st 2 true t6_0 t19_10) fun _ =>
 M.bind (st 1 false t7_1 (.int .i64 0)) fun _ =>
 M.bind (st 1 false t8_2 (.int .i64 1)) fun _ =>
 M.bind (ld (some 2) true t6_0) fun t0_14 => guardM (!isTup t0_14) (M.bind (ld none true t7_1) fun t0_15 => guardM (!isTup t0_15) (M.bind (ld none true t8_2) fun t0_16 => guardM (!isTup t0_16) (M.pure (.tup [t0_14, t0_15, t0_16])))))
 (M.bind (mf k_entry_read_api_RecType_1 [] [t9_3, t6_0, t7_1, t8_2]) fun t20_17 =>
 guardM (isPtr t6_0 && isPtr t7_1 && isPtr t8_2) <| deferM CD t20_17 []
 (M.bind (bd [(.slice false true 0 []), (.int .i64 0)] [(0, 1, (strip a0)), (1, 1, (strip a1))]) fun t23_18 =>
 M.bind (bx 2 t23_18) fun t24_19 =>
 M.bind (callV P C (strip a2) [(strip (strip t24_19))]) fun t27_20 =>
 M.bind (st 2 true t6_0 t27_20) fun _ =>
 chk
 (M.bind (noPan (M.pure (strip t24_19))) fun t29_30 =>
 M.bind (noPan (nc P t29_30)) fun t30_31 =>
 M.bind (noPan (fa 1 t30_31)) fun t31_32 =>
 M.bind (noPan (ld (some 2) true t6_0)) fun t28_33 =>
 M.bind (noPan (st 2 true t6_0 t28_33)) fun _ =>
 M.bind (noPan (ld none true t31_32)) fun t32_35 =>
 M.bind (noPan (st 1 true t7_1 t32_35)) fun _ =>
 M.bind (noPan (st 1 false t8_2 (.int .i64 0))) fun _ =>
 M.pure [a0, a1, a2, .undef, .undef, .undef, t6_0, t7_1, t8_2, t9_3, t24_19, (strip a1), t12_4, (strip t12_4), t14_5, t15_6, t16_7, t17_8, t18_9, .undef, t20_17, (strip a0), (strip a1), t23_18, (strip t24_19), (strip a2), (strip t24_19), (strip t27_20), (strip t28_33), t29_30, t30_31, t31_32, (strip t32_35)])
 (M.bind (noPan (M.pure (strip t24_19))) fun t29_22 =>
 M.bind (noPan (nc P t29_22)) fun t30_23 =>
 M.bind (noPan (fa 1 t30_23)) fun t31_24 =>
 M.bind (noPan (ld (some 2) true t6_0)) fun t28_25 =>
 M.bind (noPan (ld none true t31_24)) fun t32_26 =>
 M.bind (noPan (st 2 true t6_0 t28_25)) fun _ =>
 M.bind (noPan (st 1 true t7_1 t32_26)) fun _ =>
 M.bind (noPan (st 1 false t8_2 (.int .i64 0))) fun _ =>
 M.pure [a0, a1, a2, .undef, .undef, .undef, t6_0, t7_1, t8_2, t9_3, t24_19, (strip a1), t12_4, (strip t12_4), t14_5, t15_6, t16_7, t17_8, t18_9, .undef, t20_17, (strip a0), (strip a1), t23_18, (strip t24_19), (strip a2), (strip t24_19), (strip t27_20), (strip t28_25), t29_22, t30_23, t31_24, (strip t32_26)]) <|
 chk
 (M.bind (noPan (M.pure (strip t24_19))) fun t29_38 =>
 M.bind (noPan (nc P t29_38)) fun t30_39 =>
 M.bind (noPan (fa 1 t30_39)) fun t31_40 =>
 M.bind (noPan (ld none true t31_40)) fun t32_41 =>
 M.bind (noPan (ld (some 2) true t6_0)) fun t28_42 =>
 M.bind (noPan (st 2 true t6_0 t28_42)) fun _ =>
 M.bind (noPan (st 1 true t7_1 t32_41)) fun _ =>
 M.bind (noPan (st 1 false t8_2 (.int .i64 0))) fun _ =>
 M.pure [a0, a1, a2, .undef, .undef, .undef, t6_0, t7_1, t8_2, t9_3, t24_19, (strip a1), t12_4, (strip t12_4), t14_5, t15_6, t16_7, t17_8, t18_9, .undef, t20_17, (strip a0), (strip a1), t23_18, (strip t24_19), (strip a2), (strip t24_19), (strip t27_20), (strip t28_42), t29_38, t30_39, t31_40, (strip t32_41)])
 (M.bind (noPan (M.pure (strip t24_19))) fun t29_22 =>
 M.bind (noPan (nc P t29_22)) fun t30_23 =>
 M.bind (noPan (fa 1 t30_23)) fun t31_24 =>
 M.bind (noPan (ld (some 2) true t6_0)) fun t28_25 =>
 M.bind (noPan (ld none true t31_24)) fun t32_26 =>
 M.bind (noPan (st 2 true t6_0 t28_25)) fun _ =>
 M.bind (noPan (st 1 true t7_1 t32_26)) fun _ =>
 M.bind (noPan (st 1 false t8_2 (.int .i64 0))) fun _ =>
 M.pure [a0, a1, a2, .undef, .undef, .undef, t6_0, t7_1, t8_2, t9_3, t24_19, (strip a1), t12_4, (strip t12_4), t14_5, t15_6, t16_7, t17_8, t18_9, .undef, t20_17, (strip a0), (strip a1), t23_18, (strip t24_19), (strip a2), (strip t24_19), (strip t27_20), (strip t28_25), t29_22, t30_23, t31_24, (strip t32_26)]) <|
 M.bind (noPan (M.pure (strip t24_19))) fun t29_46 =>
 M.bind (noPan (nc P t29_46)) fun t30_47 =>
 M.bind (noPan (fa 1 t30_47)) fun t31_48 =>
 M.bind (noPan (ld (some 2) true t6_0)) fun t28_49 =>
 M.bind (noPan (ld none true t31_48)) fun t32_50 =>
 M.bind (noPan (st 2 true t6_0 t28_49)) fun _ =>
 M.bind (noPan (st 1 true t7_1 t32_50)) fun _ =>
 M.bind (noPan (st 1 false t8_2 (.int .i64 0))) fun _ =>
 M.bind (ld (some 2) true t6_0) fun t0_54 => guardM (!isTup t0_54) (M.bind (ld none true t7_1) fun t0_55 => guardM (!isTup t0_55) (M.bind (ld none true t8_2) fun t0_56 => guardM (!isTup t0_56) (M.pure (.tup [t0_54, t0_55, t0_56])))))
 (M.bind (ld (some 2) true t6_0) fun t0_57 => guardM (!isTup t0_57) (M.bind (ld none true t7_1) fun t0_58 => guardM (!isTup t0_58) (M.bind (ld none true t8_2) fun t0_59 => guardM (!isTup t0_59) (M.pure (.tup [t0_57, t0_58, t0_59]))))))) := by
 rw [C, callW_eq _ _ rfl]; kernel_rfl
/-- (*ratchet/entry.cursor).rec -/
theorem entry_cursor_rec_eq (a0 : PV) : C k_entry_cursor_rec [a0] =
 trunc (M.bind (al [(.slice false true 0 []), (.bool false)]) fun t2_0 =>
 M.bind (C k_entry_cursor_look [(strip (strip a0))]) fun t4_1 =>
 M.bind (bi .neq .none t4_1 (.int .u8 78)) fun t5_2 =>
 condM t5_2
 (M.bind (C k_entry_cursor_sub [(strip (strip a0))]) fun t7_3 =>
 M.bind (bs true (some 6) [t7_3]) fun t8_4 =>
 M.bind (bd [(.slice false true 0 []), (.bool false)] [(0, 1, t8_4)]) fun t9_5 =>
 M.bind (st 2 true t2_0 t9_5) fun _ =>
 M.bind (ld (some 2) true t2_0) fun t0_7 => guardM (!isTup t0_7) (M.pure t0_7))
 (M.bind (nc P (strip a0)) fun t11_8 =>
 M.bind (fa 1 t11_8) fun t12_9 =>
 M.bind (ld none false t12_9) fun t13_10 =>
 M.bind (bi .add .none t13_10 (.int .i64 1)) fun t14_11 =>
 M.bind (nc P (strip a0)) fun t15_12 =>
 M.bind (fa 1 t15_12) fun t16_13 =>
 M.bind (st 1 true t16_13 t14_11) fun _ =>
 M.bind (mf k_entry_cursor_sub [(strip a0)] []) fun t19_15 =>
 M.bind (C k_entry_list_api_SubType [(strip (strip a0)), (.int .u32 10000), (strip t19_15)]) fun t20_16 =>
 M.bind (bd [(.slice false true 0 []), (.bool false)] [(1, 1, (.bool true)), (0, 1, t20_16)]) fun t21_17 =>
 M.bind (st 2 true t2_0 t21_17) fun _ =>
 M.bind (ld (some 2) true t2_0) fun t0_19 => guardM (!isTup t0_19) (M.pure t0_19))) := by
 rw [C, callW_eq _ _ rfl]; kernel_rfl
noncomputable def p_ratchetref08_reading_rec_111111010 (v0 v2 v5 v6 v7 : PV) : M PV := atP P X k_ratchetref08_reading_rec [1, 1, 1, 1, 1, 1, 0, 1, 0] (mkEnv 53 0 [(0, v0), (2, v2), (5, v5), (6, v6), (7, v7)])
theorem p_ratchetref08_reading_rec_111111010_eq (v0 v2 v5 v6 v7 : PV) : p_ratchetref08_reading_rec_111111010 v0 v2 v5 v6 v7 =
 M.bind (bi .lss .none (strip v7) (strip v6)) fun t35_0 =>
 M.bind (gd (strip t35_0) true (M.pure (strip v0))) fun t37_1 =>
 M.bind (gd (strip t35_0) true (nc P t37_1)) fun t38_2 =>
 M.bind (gd (strip t35_0) true (fa 3 t38_2)) fun t39_3 =>
 M.bind (gd (strip t35_0) true (ld none false t39_3)) fun t40_4 =>
 M.bind (gd (strip t35_0) true (bi .eql .none t40_4 (.int .i64 0))) fun t41_5 =>
 M.bind (pick (strip t35_0) t41_5 (.bool false)) fun t42_6 =>
 condM t42_6
 (chk
 (M.bind (noPan (fa 0 v5)) fun t45_15 =>
 M.bind (noPan (M.pure (strip v0))) fun t47_16 =>
 M.bind (noPan (C k_ratchetref08_reading_sub [(strip t47_16)])) fun t48_17 =>
 M.bind (noPan (bs true (some 6) [t48_17])) fun t49_18 =>
 M.bind (noPan (ld none true t45_15)) fun t46_19 =>
 M.bind (noPan (ap true 6 112 t46_19 t49_18)) fun t50_20 =>
 M.bind (noPan (fa 0 v5)) fun t51_21 =>
 M.bind (noPan (st 1 true t51_21 t50_20)) fun _ =>
 M.pure [v0, .undef, v2, .undef, .undef, v5, v6, v7, .undef, .undef, .undef, .undef, .undef, .undef, .undef, .undef, .undef, .undef, .undef, .undef, .undef, .undef, .undef, .undef, .undef, .undef, .undef, .undef, .undef, .undef, .undef, .undef, .undef, (strip v7), (strip v6), t35_0, (strip t35_0), t37_1, t38_2, t39_3, t40_4, t41_5, t42_6, .undef, .undef, t45_15, (strip t46_19), t47_16, t48_17, t49_18, (strip t50_20), t51_21, .undef])
 (M.bind (noPan (fa 0 v5)) fun t45_7 =>
 M.bind (noPan (M.pure (strip v0))) fun t47_8 =>
 M.bind (noPan (ld none true t45_7)) fun t46_9 =>
 M.bind (noPan (C k_ratchetref08_reading_sub [(strip t47_8)])) fun t48_10 =>
 M.bind (noPan (bs true (some 6) [t48_10])) fun t49_11 =>
 M.bind (noPan (ap true 6 112 t46_9 t49_11)) fun t50_12 =>
 M.bind (noPan (fa 0 v5)) fun t51_13 =>
 M.bind (noPan (st 1 true t51_13 t50_12)) fun _ =>
 M.pure [v0, .undef, v2, .undef, .undef, v5, v6, v7, .undef, .undef, .undef, .undef, .undef, .undef, .undef, .undef, .undef, .undef, .undef, .undef, .undef, .undef, .undef, .undef, .undef, .undef, .undef, .undef, .undef, .undef, .undef, .undef, .undef, (strip v7), (strip v6), t35_0, (strip t35_0), t37_1, t38_2, t39_3, t40_4, t41_5, t42_6, .undef, .undef, t45_7, (strip t46_9), t47_8, t48_10, t49_11, (strip t50_12), t51_13, .undef]) <|
 M.bind (noPan (fa 0 v5)) fun t45_23 =>
 M.bind (noPan (M.pure (strip v0))) fun t47_24 =>
 M.bind (noPan (ld none true t45_23)) fun t46_25 =>
 M.bind (noPan (C k_ratchetref08_reading_sub [(strip t47_24)])) fun t48_26 =>
 M.bind (noPan (bs true (some 6) [t48_26])) fun t49_27 =>
 M.bind (noPan (ap true 6 112 t46_25 t49_27)) fun t50_28 =>
 M.bind (noPan (fa 0 v5)) fun t51_29 =>
 M.bind (noPan (st 1 true t51_29 t50_28)) fun _ =>
 M.bind (bi .add .none (strip v7) (.int .i64 1)) fun t44_31 =>
 p_ratchetref08_reading_rec_111111010 v0 v2 v5 v6 t44_31)
 (M.bind (ld (some 2) true v5) fun t52_32 =>
 M.bind (st 2 true v2 t52_32) fun _ =>
 M.bind (ld (some 2) true v2) fun t0_34 => guardM (!isTup t0_34) (M.pure t0_34)) :=
 (atP_step P X _ _ _).trans (by kernel_rfl)
/-- (*ratchet/ratchetref08.reading).rec -/
theorem ratchetref08_reading_rec_eq (a0 : PV) : C k_ratchetref08_reading_rec [a0] =
 trunc (M.bind (al [(.slice false true 0 []), (.bool false)]) fun t2_0 =>
 M.bind (C k_ratchetref08_reading_peek [(strip (strip a0))]) fun t10_1 =>
 M.bind (ex 0 (strip t10_1)) fun t11_2 =>
 M.bind (ex 1 (tupDrop 0 (strip t10_1))) fun t12_3 =>
 M.bind (un .not (strip t12_3)) fun t14_4 =>
 M.bind (gd (strip t14_4) false (M.pure (strip t11_2))) fun t16_5 =>
 M.bind (gd (strip t14_4) false (bi .neq .none t16_5 (.int .u8 78))) fun t17_6 =>
 M.bind (pick (strip t14_4) (.bool true) t17_6) fun t18_7 =>
 condM t18_7
 (M.bind (C k_ratchetref08_reading_sub [(strip (strip a0))]) fun t20_8 =>
 M.bind (bs true (some 6) [t20_8]) fun t21_9 =>
 M.bind (bd [(.slice false true 0 []), (.bool false)] [(0, 1, t21_9)]) fun t22_10 =>
 M.bind (st 2 true t2_0 t22_10) fun _ =>
 M.bind (ld (some 2) true t2_0) fun t0_12 => guardM (!isTup t0_12) (M.pure t0_12))
 (M.bind (nc P (strip a0)) fun t24_13 =>
 M.bind (fa 1 t24_13) fun t25_14 =>
 M.bind (ld none false t25_14) fun t26_15 =>
 M.bind (bi .add .none t26_15 (.int .i64 1)) fun t27_16 =>
 M.bind (nc P (strip a0)) fun t28_17 =>
 M.bind (fa 1 t28_17) fun t29_18 =>
 M.bind (st 1 true t29_18 t27_16) fun _ =>
 M.bind (bd [(.slice false true 0 []), (.bool false)] [(1, 1, (.bool true))]) fun t30_20 =>
 M.bind (al [(.slice false true 0 []), (.bool false)]) fun t5_21 =>
 M.bind (st 2 true t5_21 t30_20) fun _ =>
 M.bind (C k_ratchetref08_reading_many [(strip (strip a0)), (.int .i64 10000)]) fun t32_23 =>
 p_ratchetref08_reading_rec_111111010 a0 t2_0 t5_21 t32_23 (.int .i64 0))) := by
 rw [C, callW_eq _ _ rfl]; kernel_rfl
theorem entry_write_1_deq (a0 a1 : PV) : CD none k_entry_write_1 [a0, a1] =
 noPan (trunc (M.bind (M.pure .niliface) fun t3_0 =>
 M.bind (bi .neq .iface (strip t3_0) .niliface) fun t5_1 =>
 condM t5_1
 (nb (M.pure (strip t3_0)) fun t6_2 =>
 nb (ta y_entry_fault (.agg [(.int .i64 0), (.int .i64 0)]) false t6_2) fun t7_3 =>
 nb (fd 1 none t7_3) fun t8_4 =>
 guardM (!clash (tst a0) (.no) && (!clash (tst a0) (.no) && (!clash (tst a0) (.no) && true))) <| M.bind (noPan (st 1 false a0 (.slice false true 0 []))) fun _ =>
 M.bind (noPan (st 1 true a1 t8_4)) fun _ =>
 M.pure (.tup []))
 (M.pure (.tup [])))) := by
 rw [CD, callDW_eq]; kernel_rfl
theorem entry_write_1_req (r : PV) (a0 a1 : PV) : CD (some r) k_entry_write_1 [a0, a1] =
 noPan (trunc (M.bind (M.pure r) fun t3_0 =>
 M.bind (bi .neq .iface (strip t3_0) .niliface) fun t5_1 =>
 condM t5_1
 (nb (M.pure (strip t3_0)) fun t6_2 =>
 nb (ta y_entry_fault (.agg [(.int .i64 0), (.int .i64 0)]) false t6_2) fun t7_3 =>
 nb (fd 1 none t7_3) fun t8_4 =>
 guardM (!clash (tst a0) (.no) && (!clash (tst a0) (.no) && (!clash (tst a0) (.no) && true))) <| M.bind (noPan (st 1 false a0 (.slice false true 0 []))) fun _ =>
 M.bind (noPan (st 1 true a1 t8_4)) fun _ =>
 M.pure (.tup []))
 (M.pure (.tup [])))) := by
 rw [CD, callDW_eq]; kernel_rfl
/-- ratchet/entry.abstract -/
theorem entry_abstract_eq : C k_entry_abstract [] =
 trunc (M.bind (al [(.int .i64 0), (.int .i64 0), (.int .i64 0), (.int .i64 0), (.int .i64 0), (.int .i64 0), (.int .i64 0), (.int .i64 0), (.int .i64 0), (.int .i64 0), (.int .i64 0), (.int .i64 0)]) fun t0_0 =>
 M.bind (bd [(.int .i64 0), (.int .i64 0), (.int .i64 0), (.int .i64 0), (.int .i64 0), (.int .i64 0), (.int .i64 0), (.int .i64 0), (.int .i64 0), (.int .i64 0), (.int .i64 0), (.int .i64 0)] [(0, 1, (.int .i64 (-11))), (1, 1, (.int .i64 (-9))), (2, 1, (.int .i64 (-8))), (3, 1, (.int .i64 (-7))), (4, 1, (.int .i64 (-6))), (5, 1, (.int .i64 (-5))), (6, 1, (.int .i64 (-3))), (7, 1, (.int .i64 (-1))), (8, 1, (.int .i64 (-10))), (9, 1, (.int .i64 (-4))), (10, 1, (.int .i64 (-2))), (11, 1, (.int .i64 (-12)))]) fun t1_1 =>
 M.bind (st 12 true t0_0 t1_1) fun _ =>
 M.bind (ld (some 12) true t0_0) fun t0_3 => guardM (!isTup t0_3) (M.pure t0_3)) := by
 rw [C, callW_eq _ _ rfl]; kernel_rfl
noncomputable def p_ratchetref08_code_1010 (v0 v2 v3 : PV) : M PV := atP P X k_ratchetref08_code [1, 0, 1, 0] (mkEnv 15 0 [(0, v0), (2, v2), (3, v3)])
theorem p_ratchetref08_code_1010_eq (v0 v2 v3 : PV) : p_ratchetref08_code_1010 v0 v2 v3 =
 M.bind (bi .leq .none (strip v3) (.int .i64 116)) fun t5_0 =>
 condM t5_0
 (M.bind (cv (.int .u8) true (strip v3)) fun t9_1 =>
 M.bind (C k_ratchetref08_abstract [(strip t9_1)]) fun t10_2 =>
 M.bind (bi .eql .none t10_2 (strip v0)) fun t12_3 =>
 condM t12_3
 (M.bind (cv (.int .u8) true (strip v3)) fun t14_4 =>
 resT t14_4 (M.pure t14_4))
 (M.bind (bi .add .none (strip v3) (.int .i64 1)) fun t7_5 =>
 p_ratchetref08_code_1010 v0 v2 t7_5))
 (M.pure (.int .u8 0)) :=
 (atP_step P X _ _ _).trans (by kernel_rfl)
/-- ratchet/ratchetref08.code -/
theorem ratchetref08_code_eq (a0 : PV) : C k_ratchetref08_code [a0] =
 trunc (p_ratchetref08_code_1010 a0 (.int .u8 0) (.int .i64 105)) := by
 rw [C, callW_eq _ _ rfl]; kernel_rfl
/-- (*ratchet/entry.pen).comp -/
theorem entry_pen_comp_eq (a0 a1 : PV) : C k_entry_pen_comp [a0, a1] =
 trunc (M.bind (bx 4 a1) fun t3_0 =>
 M.bind (fa 0 t3_0) fun t5_1 =>
 M.bind (ld none false t5_1) fun t6_2 =>
 M.bind (bi .eql .none t6_2 (.int .i64 1)) fun t7_3 =>
 M.bind (gd (strip t7_3) false (fa 1 t3_0)) fun t9_4 =>
 M.bind (gd (strip t7_3) false (ld none false t9_4)) fun t10_5 =>
 M.bind (gd (strip t7_3) false (lnL t10_5)) fun t11_6 =>
 M.bind (gd (strip t7_3) false (fa 2 t3_0)) fun t12_7 =>
 M.bind (gd (strip t7_3) false (ld none false t12_7)) fun t13_8 =>
 M.bind (gd (strip t7_3) false (lnL t13_8)) fun t14_9 =>
 M.bind (gd (strip t7_3) false (bi .add .none t11_6 t14_9)) fun t15_10 =>
 M.bind (gd (strip t7_3) false (bi .eql .none t15_10 (.int .i64 0))) fun t16_11 =>
 M.bind (pick (strip t7_3) (.bool true) t16_11) fun t17_12 =>
 M.bind (C k_entry_pen_must [(strip (strip a0)), (strip t17_12)]) fun t18_13 =>
 M.bind (fa 0 t3_0) fun t19_14 =>
 M.bind (ld none false t19_14) fun t20_15 =>
 M.bind (bi .eql .none t20_15 (.int .i64 1)) fun t24_16 =>
 condM t24_16
 (M.bind (fa 3 t3_0) fun t26_17 =>
 M.bind (ld none false t26_17) fun t27_18 =>
 M.bind (lnL t27_18) fun t28_19 =>
 M.bind (bi .eql .none t28_19 (.int .i64 0)) fun t29_20 =>
 M.bind (C k_entry_pen_must [(strip (strip a0)), (strip t29_20)]) fun t30_21 =>
 M.bind (C k_entry_pen_byte [(strip (strip a0)), (.int .u8 96)]) fun t32_22 =>
 M.bind (fa 1 t3_0) fun t34_23 =>
 M.bind (ld none false t34_23) fun t35_24 =>
 M.bind (C k_entry_pen_vals [(strip (strip a0)), (strip t35_24)]) fun t36_25 =>
 M.bind (fa 2 t3_0) fun t38_26 =>
 M.bind (ld none false t38_26) fun t39_27 =>
 M.bind (C k_entry_pen_vals [(strip (strip a0)), (strip t39_27)]) fun t40_28 =>
 M.pure (.tup []))
 (M.bind (bi .eql .none t20_15 (.int .i64 2)) fun t42_29 =>
 condM t42_29
 (M.bind (C k_entry_pen_byte [(strip (strip a0)), (.int .u8 95)]) fun t44_30 =>
 M.bind (fa 3 t3_0) fun t46_31 =>
 M.bind (ld none false t46_31) fun t47_32 =>
 M.bind (mf k_entry_pen_field [(strip a0)] []) fun t49_33 =>
 M.bind (C k_entry_each_api_Field [(strip (strip a0)), (strip t47_32), (.int .i64 10000), (strip t49_33)]) fun t50_34 =>
 M.pure (.tup []))
 (M.bind (bi .eql .none t20_15 (.int .i64 3)) fun t52_35 =>
 condM t52_35
 (M.bind (fa 3 t3_0) fun t54_36 =>
 M.bind (ld none false t54_36) fun t55_37 =>
 M.bind (lnL t55_37) fun t56_38 =>
 M.bind (bi .eql .none t56_38 (.int .i64 1)) fun t57_39 =>
 M.bind (C k_entry_pen_must [(strip (strip a0)), (strip t57_39)]) fun t58_40 =>
 M.bind (C k_entry_pen_byte [(strip (strip a0)), (.int .u8 94)]) fun t60_41 =>
 M.bind (fa 3 t3_0) fun t62_42 =>
 M.bind (ld none false t62_42) fun t63_43 =>
 M.bind (iaS 4 t63_43 (.int .i64 0)) fun t64_44 =>
 M.bind (ld (some 4) false t64_44) fun t65_45 =>
 M.bind (C k_entry_pen_field [(strip (strip a0)), (strip t65_45)]) fun t66_46 =>
 M.pure (.tup []))
 (M.bind (C k_entry_pen_must [(strip (strip a0)), (.bool false)]) fun t22_47 =>
 M.pure (.tup []))))) := by
 rw [C, callW_eq _ _ rfl]; kernel_rfl
noncomputable def p_entry_each_int_1 (v0 v1 v3 : PV) : M PV := atP P X k_entry_each_int [1] (mkEnv 31 0 [(0, v0), (1, v1), (3, v3)])
noncomputable def p_entry_each_int_1110 (v3 v21 v22 v23 : PV) : M PV := atP P X k_entry_each_int [1, 1, 1, 0] (mkEnv 31 0 [(3, v3), (21, v21), (22, v22), (23, v23)])
theorem p_entry_each_int_1_eq (v0 v1 v3 : PV) : p_entry_each_int_1 v0 v1 v3 =
 M.bind (lnL (strip v1)) fun t18_0 =>
 M.bind (cv (.int .u64) true t18_0) fun t19_1 =>
 M.bind (C k_entry_pen_u [(strip (strip v0)), (strip t19_1)]) fun t20_2 =>
 M.bind (lnL (strip v1)) fun t22_3 =>
 p_entry_each_int_1110 v3 (strip v1) t22_3 (.int .i64 0) :=
 (atP_step P X _ _ _).trans (by kernel_rfl)
theorem p_entry_each_int_1110_eq (v3 v21 v22 v23 : PV) : p_entry_each_int_1110 v3 v21 v22 v23 =
 M.bind (bi .lss .none v23 v22) fun t24_0 =>
 condM t24_0
 (M.bind (iaS 1 v21 v23) fun t25_1 =>
 M.bind (ld none true t25_1) fun t26_2 =>
 M.bind (callV P C (strip v3) [(strip (strip t26_2))]) fun t29_3 =>
 M.bind (bi .add .none v23 (.int .i64 1)) fun t30_4 =>
 p_entry_each_int_1110 v3 v21 v22 (strip t30_4))
 (M.pure (.tup [])) :=
 (atP_step P X _ _ _).trans (by kernel_rfl)
/-- ratchet/entry.each[int] -/
theorem entry_each_int_eq (a0 a1 a2 a3 : PV) : C k_entry_each_int [a0, a1, a2, a3] =
 trunc (M.bind (lnL (strip a1)) fun t11_0 =>
 M.bind (bi .gtr .none t11_0 (strip a2)) fun t13_1 =>
 condM t13_1
 (M.bind (bd [(.int .i64 0), (.int .i64 0)] [(0, 1, (.int .i64 0)), (1, 1, (.int .i64 2))]) fun t14_2 =>
 M.bind (mi y_entry_fault t14_2) fun t15_3 =>
 M.bind (pn t15_3) fun _ =>
 p_entry_each_int_1 a0 a1 a3)
 (p_entry_each_int_1 a0 a1 a3)) := by
 rw [C, callW_eq _ _ rfl]; kernel_rfl
/-- (*ratchet/entry.pen).index -/
theorem entry_pen_index_eq (a0 a1 : PV) : C k_entry_pen_index [a0, a1] =
 trunc (M.bind (C k_entry_fits [(strip (strip a1))]) fun t6_0 =>
 M.bind (C k_entry_pen_must [(strip (strip a0)), (strip t6_0)]) fun t7_1 =>
 M.bind (cv (.int .u64) true (strip a1)) fun t10_2 =>
 M.bind (C k_entry_pen_u [(strip (strip a0)), (strip t10_2)]) fun t11_3 =>
 M.pure (.tup [])) := by
 rw [C, callW_eq _ _ rfl]; kernel_rfl
/-- (*ratchet/entry.pen).u -/
theorem entry_pen_u_eq (a0 a1 : PV) : C k_entry_pen_u [a0, a1] =
 trunc (chk
 (M.bind (noPan (M.pure (strip a0))) fun t4_11 =>
 M.bind (noPan (M.pure (strip a0))) fun t5_12 =>
 M.bind (noPan (nc P t5_12)) fun t6_13 =>
 M.bind (noPan (fa 0 t6_13)) fun t7_14 =>
 M.bind (noPan (M.pure (strip a1))) fun t9_15 =>
 M.bind (noPan (C k_leb_PutU [(strip t9_15)])) fun t10_16 =>
 M.bind (noPan (ld none true t7_14)) fun t8_17 =>
 M.bind (noPan (ap true 1 1 t8_17 t10_16)) fun t11_18 =>
 M.bind (noPan (nc P t4_11)) fun t12_19 =>
 M.bind (noPan (fa 0 t12_19)) fun t13_20 =>
 M.bind (noPan (st 1 true t13_20 t11_18)) fun _ =>
 M.pure [a0, a1, .undef, .undef, t4_11, t5_12, t6_13, t7_14, (strip t8_17), t9_15, t10_16, (strip t11_18), t12_19, t13_20])
 (M.bind (noPan (M.pure (strip a0))) fun t4_0 =>
 M.bind (noPan (M.pure (strip a0))) fun t5_1 =>
 M.bind (noPan (nc P t5_1)) fun t6_2 =>
 M.bind (noPan (fa 0 t6_2)) fun t7_3 =>
 M.bind (noPan (M.pure (strip a1))) fun t9_4 =>
 M.bind (noPan (ld none true t7_3)) fun t8_5 =>
 M.bind (noPan (C k_leb_PutU [(strip t9_4)])) fun t10_6 =>
 M.bind (noPan (ap true 1 1 t8_5 t10_6)) fun t11_7 =>
 M.bind (noPan (nc P t4_0)) fun t12_8 =>
 M.bind (noPan (fa 0 t12_8)) fun t13_9 =>
 M.bind (noPan (st 1 true t13_9 t11_7)) fun _ =>
 M.pure [a0, a1, .undef, .undef, t4_0, t5_1, t6_2, t7_3, (strip t8_5), t9_4, t10_6, (strip t11_7), t12_8, t13_9]) <|
 M.bind (noPan (M.pure (strip a0))) fun t4_22 =>
 M.bind (noPan (M.pure (strip a0))) fun t5_23 =>
 M.bind (noPan (nc P t5_23)) fun t6_24 =>
 M.bind (noPan (fa 0 t6_24)) fun t7_25 =>
 M.bind (noPan (M.pure (strip a1))) fun t9_26 =>
 M.bind (noPan (ld none true t7_25)) fun t8_27 =>
 M.bind (noPan (C k_leb_PutU [(strip t9_26)])) fun t10_28 =>
 M.bind (noPan (ap true 1 1 t8_27 t10_28)) fun t11_29 =>
 M.bind (noPan (nc P t4_22)) fun t12_30 =>
 M.bind (noPan (fa 0 t12_30)) fun t13_31 =>
 M.bind (noPan (st 1 true t13_31 t11_29)) fun _ =>
 M.pure (.tup [])) := by
 rw [C, callW_eq _ _ rfl]; kernel_rfl
/-- (*ratchet/ratchetref08.writing).u -/
theorem ratchetref08_writing_u_eq (a0 a1 : PV) : C k_ratchetref08_writing_u [a0, a1] =
 trunc (chk
 (M.bind (noPan (M.pure (strip a0))) fun t4_11 =>
 M.bind (noPan (M.pure (strip a0))) fun t5_12 =>
 M.bind (noPan (nc P t5_12)) fun t6_13 =>
 M.bind (noPan (fa 0 t6_13)) fun t7_14 =>
 M.bind (noPan (M.pure (strip a1))) fun t9_15 =>
 M.bind (noPan (C k_ratchetref01_PutU [(strip t9_15)])) fun t10_16 =>
 M.bind (noPan (ld none true t7_14)) fun t8_17 =>
 M.bind (noPan (ap true 1 1 t8_17 t10_16)) fun t11_18 =>
 M.bind (noPan (nc P t4_11)) fun t12_19 =>
 M.bind (noPan (fa 0 t12_19)) fun t13_20 =>
 M.bind (noPan (st 1 true t13_20 t11_18)) fun _ =>
 M.pure [a0, a1, .undef, .undef, t4_11, t5_12, t6_13, t7_14, (strip t8_17), t9_15, t10_16, (strip t11_18), t12_19, t13_20])
 (M.bind (noPan (M.pure (strip a0))) fun t4_0 =>
 M.bind (noPan (M.pure (strip a0))) fun t5_1 =>
 M.bind (noPan (nc P t5_1)) fun t6_2 =>
 M.bind (noPan (fa 0 t6_2)) fun t7_3 =>
 M.bind (noPan (M.pure (strip a1))) fun t9_4 =>
 M.bind (noPan (ld none true t7_3)) fun t8_5 =>
 M.bind (noPan (C k_ratchetref01_PutU [(strip t9_4)])) fun t10_6 =>
 M.bind (noPan (ap true 1 1 t8_5 t10_6)) fun t11_7 =>
 M.bind (noPan (nc P t4_0)) fun t12_8 =>
 M.bind (noPan (fa 0 t12_8)) fun t13_9 =>
 M.bind (noPan (st 1 true t13_9 t11_7)) fun _ =>
 M.pure [a0, a1, .undef, .undef, t4_0, t5_1, t6_2, t7_3, (strip t8_5), t9_4, t10_6, (strip t11_7), t12_8, t13_9]) <|
 M.bind (noPan (M.pure (strip a0))) fun t4_22 =>
 M.bind (noPan (M.pure (strip a0))) fun t5_23 =>
 M.bind (noPan (nc P t5_23)) fun t6_24 =>
 M.bind (noPan (fa 0 t6_24)) fun t7_25 =>
 M.bind (noPan (M.pure (strip a1))) fun t9_26 =>
 M.bind (noPan (ld none true t7_25)) fun t8_27 =>
 M.bind (noPan (C k_ratchetref01_PutU [(strip t9_26)])) fun t10_28 =>
 M.bind (noPan (ap true 1 1 t8_27 t10_28)) fun t11_29 =>
 M.bind (noPan (nc P t4_22)) fun t12_30 =>
 M.bind (noPan (fa 0 t12_30)) fun t13_31 =>
 M.bind (noPan (st 1 true t13_31 t11_29)) fun _ =>
 M.pure (.tup [])) := by
 rw [C, callW_eq _ _ rfl]; kernel_rfl
noncomputable def p_ratchetref08_writing_comp_11 (v0 v3 : PV) : M PV := atP P X k_ratchetref08_writing_comp [1, 1] (mkEnv 105 0 [(0, v0), (3, v3)])
noncomputable def p_ratchetref08_writing_comp_1110 (v0 v3 v4 : PV) : M PV := atP P X k_ratchetref08_writing_comp [1, 1, 1, 0] (mkEnv 105 0 [(0, v0), (3, v3), (4, v4)])
theorem p_ratchetref08_writing_comp_11_eq (v0 v3 : PV) : p_ratchetref08_writing_comp_11 v0 v3 =
 p_ratchetref08_writing_comp_1110 v0 v3 (.int .i64 0) :=
 (atP_step P X _ _ _).trans (by kernel_rfl)
theorem p_ratchetref08_writing_comp_1110_eq (v0 v3 v4 : PV) : p_ratchetref08_writing_comp_1110 v0 v3 v4 =
 M.bind (fa 3 v3) fun t92_0 =>
 M.bind (ld none false t92_0) fun t93_1 =>
 M.bind (lnL t93_1) fun t94_2 =>
 M.bind (bi .lss .none (strip v4) t94_2) fun t95_3 =>
 condM t95_3
 (M.bind (fa 3 v3) fun t99_4 =>
 M.bind (ld none false t99_4) fun t100_5 =>
 M.bind (iaS 4 t100_5 (strip v4)) fun t102_6 =>
 M.bind (ld (some 4) false t102_6) fun t103_7 =>
 M.bind (C k_ratchetref08_writing_field [(strip (strip v0)), (strip t103_7)]) fun t104_8 =>
 M.bind (bi .add .none (strip v4) (.int .i64 1)) fun t97_9 =>
 p_ratchetref08_writing_comp_1110 v0 v3 t97_9)
 (M.pure (.tup [])) :=
 (atP_step P X _ _ _).trans (by kernel_rfl)
/-- (*ratchet/ratchetref08.writing).comp -/
theorem ratchetref08_writing_comp_eq (a0 a1 : PV) : C k_ratchetref08_writing_comp [a0, a1] =
 trunc (M.bind (bx 4 a1) fun t3_0 =>
 M.bind (fa 0 t3_0) fun t5_1 =>
 M.bind (ld none false t5_1) fun t6_2 =>
 M.bind (bi .eql .none t6_2 (.int .i64 1)) fun t10_3 =>
 condM t10_3
 (M.bind (fa 3 t3_0) fun t12_4 =>
 M.bind (ld none false t12_4) fun t13_5 =>
 M.bind (lnL t13_5) fun t14_6 =>
 M.bind (bi .eql .none t14_6 (.int .i64 0)) fun t15_7 =>
 M.bind (C k_ratchetref08_writing_must [(strip (strip a0)), (strip t15_7), (.int .i64 4)]) fun t16_8 =>
 M.bind (nc P (strip a0)) fun t19_9 =>
 M.bind (fa 0 t19_9) fun t20_10 =>
 M.bind (ld none true t20_10) fun t21_11 =>
 M.bind (bs true none [(.int .u8 96)]) fun t22_12 =>
 M.bind (ap true 1 1 t21_11 t22_12) fun t23_13 =>
 M.bind (nc P (strip a0)) fun t24_14 =>
 M.bind (fa 0 t24_14) fun t25_15 =>
 M.bind (st 1 true t25_15 t23_13) fun _ =>
 M.bind (fa 1 t3_0) fun t27_17 =>
 M.bind (ld none false t27_17) fun t28_18 =>
 M.bind (C k_ratchetref08_writing_vals [(strip (strip a0)), (strip t28_18)]) fun t29_19 =>
 M.bind (fa 2 t3_0) fun t31_20 =>
 M.bind (ld none false t31_20) fun t32_21 =>
 M.bind (C k_ratchetref08_writing_vals [(strip (strip a0)), (strip t32_21)]) fun t33_22 =>
 M.pure (.tup []))
 (M.bind (bi .eql .none t6_2 (.int .i64 2)) fun t35_23 =>
 condM t35_23
 (M.bind (fa 1 t3_0) fun t37_24 =>
 M.bind (ld none false t37_24) fun t38_25 =>
 M.bind (lnL t38_25) fun t39_26 =>
 M.bind (bi .eql .none t39_26 (.int .i64 0)) fun t40_27 =>
 M.bind (gd (strip t40_27) true (fa 2 t3_0)) fun t42_28 =>
 M.bind (gd (strip t40_27) true (ld none false t42_28)) fun t43_29 =>
 M.bind (gd (strip t40_27) true (lnL t43_29)) fun t44_30 =>
 M.bind (gd (strip t40_27) true (bi .eql .none t44_30 (.int .i64 0))) fun t45_31 =>
 M.bind (pick (strip t40_27) t45_31 (.bool false)) fun t46_32 =>
 M.bind (C k_ratchetref08_writing_must [(strip (strip a0)), (strip t46_32), (.int .i64 4)]) fun t47_33 =>
 M.bind (nc P (strip a0)) fun t50_34 =>
 M.bind (fa 0 t50_34) fun t51_35 =>
 M.bind (ld none true t51_35) fun t52_36 =>
 M.bind (bs true none [(.int .u8 95)]) fun t53_37 =>
 M.bind (ap true 1 1 t52_36 t53_37) fun t54_38 =>
 M.bind (nc P (strip a0)) fun t55_39 =>
 M.bind (fa 0 t55_39) fun t56_40 =>
 M.bind (st 1 true t56_40 t54_38) fun _ =>
 M.bind (fa 3 t3_0) fun t58_42 =>
 M.bind (ld none false t58_42) fun t59_43 =>
 M.bind (lnL t59_43) fun t60_44 =>
 M.bind (C k_ratchetref08_writing_many [(strip (strip a0)), (strip t60_44), (.int .i64 10000)]) fun t61_45 =>
 p_ratchetref08_writing_comp_11 a0 t3_0)
 (M.bind (bi .eql .none t6_2 (.int .i64 3)) fun t63_46 =>
 condM t63_46
 (M.bind (fa 1 t3_0) fun t65_47 =>
 M.bind (ld none false t65_47) fun t66_48 =>
 M.bind (lnL t66_48) fun t67_49 =>
 M.bind (bi .eql .none t67_49 (.int .i64 0)) fun t68_50 =>
 M.bind (gd (strip t68_50) true (fa 2 t3_0)) fun t70_51 =>
 M.bind (gd (strip t68_50) true (ld none false t70_51)) fun t71_52 =>
 M.bind (gd (strip t68_50) true (lnL t71_52)) fun t72_53 =>
 M.bind (gd (strip t68_50) true (bi .eql .none t72_53 (.int .i64 0))) fun t73_54 =>
 M.bind (pick (strip t68_50) t73_54 (.bool false)) fun t74_55 =>
 M.bind (gd (strip t74_55) true (fa 3 t3_0)) fun t76_56 =>
 M.bind (gd (strip t74_55) true (ld none false t76_56)) fun t77_57 =>
 M.bind (gd (strip t74_55) true (lnL t77_57)) fun t78_58 =>
 M.bind (gd (strip t74_55) true (bi .eql .none t78_58 (.int .i64 1))) fun t79_59 =>
 M.bind (pick (strip t74_55) t79_59 (.bool false)) fun t80_60 =>
 M.bind (C k_ratchetref08_writing_must [(strip (strip a0)), (strip t80_60), (.int .i64 4)]) fun t81_61 =>
 M.bind (nc P (strip a0)) fun t84_62 =>
 M.bind (fa 0 t84_62) fun t85_63 =>
 M.bind (ld none true t85_63) fun t86_64 =>
 M.bind (bs true none [(.int .u8 94)]) fun t87_65 =>
 M.bind (ap true 1 1 t86_64 t87_65) fun t88_66 =>
 M.bind (nc P (strip a0)) fun t89_67 =>
 M.bind (fa 0 t89_67) fun t90_68 =>
 M.bind (st 1 true t90_68 t88_66) fun _ =>
 p_ratchetref08_writing_comp_11 a0 t3_0)
 (M.bind (C k_ratchetref08_writing_must [(strip (strip a0)), (.bool false), (.int .i64 4)]) fun t8_70 =>
 p_ratchetref08_writing_comp_11 a0 t3_0)))) := by
 rw [C, callW_eq _ _ rfl]; kernel_rfl
theorem entry_read_int_1_deq (a0 a1 a2 a3 : PV) : CD none k_entry_read_int_1 [a0, a1, a2, a3] =
 noPan (trunc (M.bind (M.pure .niliface) fun t6_0 =>
 M.bind (bi .neq .iface (strip t6_0) .niliface) fun t8_1 =>
 condM t8_1
 (M.bind (ta y_entry_fault (.agg [(.int .i64 0), (.int .i64 0)]) false (strip t6_0)) fun t10_2 =>
 M.bind (al [(.int .i64 0), (.int .i64 0)]) fun t5_3 =>
 M.bind (st 2 true t5_3 t10_2) fun _ =>
 nb (ld none true a0) fun t11_5 =>
 nb (fa 0 t5_3) fun t12_6 =>
 guardM (!clash (tld t12_6) (tld a0) && true) <| nb (ld none true t12_6) fun t13_7 =>
 nb (fa 1 t5_3) fun t14_8 =>
 guardM (!clash (tld t14_8) (tld t12_6) && (!clash (tld t14_8) (.no) && (!clash (tld t14_8) (tld a0) && true))) <| nb (ld none true t14_8) fun t15_9 =>
 guardM (!clash (tst a1) (tld t14_8) && (!clash (tst a1) (.no) && (!clash (tst a1) (tld t12_6) && (!clash (tst a1) (.no) && true)))) <| M.bind (noPan (st 1 true a1 t11_5)) fun _ =>
 guardM (!clash (tst a2) (tld t14_8) && (!clash (tst a2) (.no) && true)) <| M.bind (noPan (st 1 true a2 t13_7)) fun _ =>
 M.bind (noPan (st 1 true a3 t15_9)) fun _ =>
 M.pure (.tup []))
 (M.pure (.tup [])))) := by
 rw [CD, callDW_eq]; kernel_rfl
theorem entry_read_int_1_req (r : PV) (a0 a1 a2 a3 : PV) : CD (some r) k_entry_read_int_1 [a0, a1, a2, a3] =
 noPan (trunc (M.bind (M.pure r) fun t6_0 =>
 M.bind (bi .neq .iface (strip t6_0) .niliface) fun t8_1 =>
 condM t8_1
 (M.bind (ta y_entry_fault (.agg [(.int .i64 0), (.int .i64 0)]) false (strip t6_0)) fun t10_2 =>
 M.bind (al [(.int .i64 0), (.int .i64 0)]) fun t5_3 =>
 M.bind (st 2 true t5_3 t10_2) fun _ =>
 nb (ld none true a0) fun t11_5 =>
 nb (fa 0 t5_3) fun t12_6 =>
 guardM (!clash (tld t12_6) (tld a0) && true) <| nb (ld none true t12_6) fun t13_7 =>
 nb (fa 1 t5_3) fun t14_8 =>
 guardM (!clash (tld t14_8) (tld t12_6) && (!clash (tld t14_8) (.no) && (!clash (tld t14_8) (tld a0) && true))) <| nb (ld none true t14_8) fun t15_9 =>
 guardM (!clash (tst a1) (tld t14_8) && (!clash (tst a1) (.no) && (!clash (tst a1) (tld t12_6) && (!clash (tst a1) (.no) && true)))) <| M.bind (noPan (st 1 true a1 t11_5)) fun _ =>
 guardM (!clash (tst a2) (tld t14_8) && (!clash (tst a2) (.no) && true)) <| M.bind (noPan (st 1 true a2 t13_7)) fun _ =>
 M.bind (noPan (st 1 true a3 t15_9)) fun _ =>
 M.pure (.tup []))
 (M.pure (.tup [])))) := by
 rw [CD, callDW_eq]; kernel_rfl
/-- ratchet/entry.named -/
theorem entry_named_eq (a0 : PV) : C k_entry_named [a0] =
 trunc (M.bind (bi .lss .none (strip a0) (.int .u8 105)) fun t4_0 =>
 M.bind (gd (strip t4_0) false (M.pure (strip a0))) fun t6_1 =>
 M.bind (gd (strip t4_0) false (bi .gtr .none t6_1 (.int .u8 116))) fun t7_2 =>
 M.bind (pick (strip t4_0) (.bool true) t7_2) fun t8_3 =>
 condM t8_3
 (M.pure (.int .i64 0))
 (M.bind (C k_entry_abstract []) fun t9_4 =>
 M.bind (bi .sub .none (strip a0) (.int .u8 105)) fun t11_5 =>
 M.bind (ixA 12 1 none t9_4 t11_5) fun t12_6 =>
 resT t12_6 (M.pure t12_6))) := by
 rw [C, callW_eq _ _ rfl]; kernel_rfl
noncomputable def p_entry_cursor_look_11 (v0 v2 : PV) : M PV := atP P X k_entry_cursor_look [1, 1] (mkEnv 30 0 [(0, v0), (2, v2)])
theorem p_entry_cursor_look_11_eq (v0 v2 : PV) : p_entry_cursor_look_11 v0 v2 =
 nb (nc P (strip v0)) fun t21_0 =>
 nb (fa 0 t21_0) fun t22_1 =>
 nb (ld none false t22_1) fun t23_2 =>
 nb (nc P (strip v0)) fun t25_3 =>
 nb (fa 1 t25_3) fun t26_4 =>
 nb (ld none false t26_4) fun t27_5 =>
 nb (iaS 1 t23_2 t27_5) fun t28_6 =>
 nb (ld none true t28_6) fun t29_7 =>
 resT t29_7 (M.pure t29_7) :=
 (atP_step P X _ _ _).trans (by kernel_rfl)
/-- (*ratchet/entry.cursor).look -/
theorem entry_cursor_look_eq (a0 : PV) : C k_entry_cursor_look [a0] =
 trunc (nb (nc P (strip a0)) fun t4_0 =>
 nb (fa 1 t4_0) fun t5_1 =>
 nb (ld none false t5_1) fun t6_2 =>
 nb (nc P (strip a0)) fun t8_3 =>
 nb (fa 0 t8_3) fun t9_4 =>
 nb (ld none false t9_4) fun t10_5 =>
 nb (lnL t10_5) fun t11_6 =>
 nb (bi .geq .none t6_2 t11_6) fun t12_7 =>
 condM t12_7
 (M.bind (nc P (strip a0)) fun t15_8 =>
 M.bind (fa 0 t15_8) fun t16_9 =>
 M.bind (ld none false t16_9) fun t17_10 =>
 M.bind (lnL t17_10) fun t18_11 =>
 M.bind (C k_entry_cursor_fail [(strip (strip a0)), (strip t18_11), (.int .i64 3)]) fun t19_12 =>
 p_entry_cursor_look_11 a0 (.int .u8 0))
 (p_entry_cursor_look_11 a0 (.int .u8 0))) := by
 rw [C, callW_eq _ _ rfl]; kernel_rfl
noncomputable def p_entry_cursor_s33_11111 (v2 v4 : PV) : M PV := atP P X k_entry_cursor_s33 [1, 1, 1, 1, 1] (mkEnv 47 0 [(2, v2), (4, v4)])
theorem p_entry_cursor_s33_11111_eq (v2 v4 : PV) : p_entry_cursor_s33_11111 v2 v4 =
 resT v4 (M.pure v4) :=
 (atP_step P X _ _ _).trans (by kernel_rfl)
/-- (*ratchet/entry.cursor).s33 -/
theorem entry_cursor_s33_eq (a0 : PV) : C k_entry_cursor_s33 [a0] =
 trunc (M.bind (nc P (strip a0)) fun t8_0 =>
 M.bind (fa 1 t8_0) fun t9_1 =>
 M.bind (ld none true t9_1) fun t10_2 =>
 M.bind (noPan (M.pure (strip a0))) fun t12_24 =>
 M.bind (noPan (nc P t12_24)) fun t13_25 =>
 M.bind (noPan (fa 0 t13_25)) fun t14_26 =>
 M.bind (noPan (M.pure (strip a0))) fun t16_27 =>
 M.bind (noPan (nc P t16_27)) fun t17_28 =>
 M.bind (noPan (fa 1 t17_28)) fun t18_29 =>
 M.bind (noPan (M.pure (strip a0))) fun t20_30 =>
 M.bind (noPan (nc P t20_30)) fun t21_31 =>
 M.bind (noPan (fa 0 t21_31)) fun t22_32 =>
 M.bind (noPan (ld none false t14_26)) fun t15_33 =>
 M.bind (noPan (ld none false t18_29)) fun t19_34 =>
 M.bind (noPan (ld none false t22_32)) fun t23_35 =>
 M.bind (noPan (lnL t23_35)) fun t24_36 =>
 M.bind (noPan (C k_leb_S33 [(strip t15_33), (strip t19_34), (strip t24_36)])) fun t25_37 =>
 M.bind (noPan (M.pure (strip t25_37))) fun t11_38 =>
 M.bind (noPan (ex 0 t11_38)) fun t26_39 =>
 M.bind (noPan (ex 1 (tupDrop 0 t11_38))) fun t27_40 =>
 M.bind (noPan (ex 2 (tupDrop 1 (tupDrop 0 t11_38)))) fun t28_41 =>
 M.bind (noPan (M.pure t26_39)) fun t4_42 =>
 M.bind (noPan (M.pure t27_40)) fun t5_43 =>
 M.bind (noPan (M.pure t28_41)) fun t6_44 =>
 M.bind (C k_entry_got_int64 [(strip (strip a0)), (strip (strip t4_42)), (strip (strip t5_43)), (strip (strip t6_44))]) fun t33_45 =>
 M.bind (bi .lss .none (strip t33_45) (.int .i64 0)) fun t36_46 =>
 condM t36_46
 (M.bind (C k_entry_cursor_fail [(strip (strip a0)), (strip (strip t10_2)), (.int .i64 4)]) fun t39_47 =>
 p_entry_cursor_s33_11111 (.int .i64 0) t33_45)
 (M.bind (bi .gtr .none (strip t33_45) (.int .i64 2147483647)) fun t42_48 =>
 condM t42_48
 (M.bind (C k_entry_cursor_fail [(strip (strip a0)), (strip (strip t10_2)), (.int .i64 2)]) fun t45_49 =>
 p_entry_cursor_s33_11111 (.int .i64 0) t33_45)
 (p_entry_cursor_s33_11111 (.int .i64 0) t33_45))) := by
 rw [C, callW_eq _ _ rfl]; kernel_rfl
/-- (*ratchet/ratchetref08.reading).peek -/
theorem ratchetref08_reading_peek_eq (a0 : PV) : C k_ratchetref08_reading_peek [a0] =
 trunc (nb (nc P (strip a0)) fun t5_0 =>
 nb (fa 3 t5_0) fun t6_1 =>
 nb (ld none false t6_1) fun t7_2 =>
 nb (bi .neq .none t7_2 (.int .i64 0)) fun t8_3 =>
 nb (gd (strip t8_3) false (M.pure (strip a0))) fun t10_4 =>
 nb (gd (strip t8_3) false (nc P t10_4)) fun t11_5 =>
 nb (gd (strip t8_3) false (fa 1 t11_5)) fun t12_6 =>
 nb (gd (strip t8_3) false (ld none false t12_6)) fun t13_7 =>
 nb (gd (strip t8_3) false (M.pure (strip a0))) fun t14_8 =>
 nb (gd (strip t8_3) false (nc P t14_8)) fun t15_9 =>
 nb (gd (strip t8_3) false (fa 0 t15_9)) fun t16_10 =>
 nb (gd (strip t8_3) false (ld none false t16_10)) fun t17_11 =>
 nb (gd (strip t8_3) false (lnL t17_11)) fun t18_12 =>
 nb (gd (strip t8_3) false (bi .geq .none t13_7 t18_12)) fun t19_13 =>
 nb (pick (strip t8_3) (.bool true) t19_13) fun t20_14 =>
 condM t20_14
 (M.pure (.tup [(.int .u8 0), (.bool false)]))
 (nb (nc P (strip a0)) fun t22_15 =>
 nb (fa 0 t22_15) fun t23_16 =>
 nb (ld none false t23_16) fun t24_17 =>
 nb (nc P (strip a0)) fun t26_18 =>
 nb (fa 1 t26_18) fun t27_19 =>
 nb (ld none false t27_19) fun t28_20 =>
 nb (iaS 1 t24_17 t28_20) fun t29_21 =>
 nb (ld none true t29_21) fun t30_22 =>
 resT t30_22 (M.pure (.tup [t30_22, (.bool true)])))) := by
 rw [C, callW_eq _ _ rfl]; kernel_rfl
/-- ratchet/ratchetref08.abstract -/
theorem ratchetref08_abstract_eq (a0 : PV) : C k_ratchetref08_abstract [a0] =
 trunc (M.bind (bi .eql .none (strip a0) (.int .u8 115)) fun t5_0 =>
 condM t5_0
 (M.pure (.int .i64 (-2)))
 (M.bind (bi .eql .none (strip a0) (.int .u8 114)) fun t7_1 =>
 condM t7_1
 (M.pure (.int .i64 (-4)))
 (M.bind (bi .eql .none (strip a0) (.int .u8 113)) fun t9_2 =>
 condM t9_2
 (M.pure (.int .i64 (-10)))
 (M.bind (bi .eql .none (strip a0) (.int .u8 112)) fun t11_3 =>
 condM t11_3
 (M.pure (.int .i64 (-1)))
 (M.bind (bi .eql .none (strip a0) (.int .u8 111)) fun t13_4 =>
 condM t13_4
 (M.pure (.int .i64 (-3)))
 (M.bind (bi .eql .none (strip a0) (.int .u8 110)) fun t15_5 =>
 condM t15_5
 (M.pure (.int .i64 (-5)))
 (M.bind (bi .eql .none (strip a0) (.int .u8 109)) fun t17_6 =>
 condM t17_6
 (M.pure (.int .i64 (-6)))
 (M.bind (bi .eql .none (strip a0) (.int .u8 108)) fun t19_7 =>
 condM t19_7
 (M.pure (.int .i64 (-7)))
 (M.bind (bi .eql .none (strip a0) (.int .u8 107)) fun t21_8 =>
 condM t21_8
 (M.pure (.int .i64 (-8)))
 (M.bind (bi .eql .none (strip a0) (.int .u8 106)) fun t23_9 =>
 condM t23_9
 (M.pure (.int .i64 (-9)))
 (M.bind (bi .eql .none (strip a0) (.int .u8 105)) fun t25_10 =>
 condM t25_10
 (M.pure (.int .i64 (-11)))
 (M.bind (bi .eql .none (strip a0) (.int .u8 116)) fun t27_11 =>
 condM t27_11
 (M.pure (.int .i64 (-12)))
 (M.pure (.int .i64 0)))))))))))))) := by
 rw [C, callW_eq _ _ rfl]; kernel_rfl
/-- (*ratchet/ratchetref08.reading).number -/
theorem ratchetref08_reading_number_eq (a0 a1 a2 : PV) : C k_ratchetref08_reading_number [a0, a1, a2] =
 trunc (M.bind (nc P (strip a0)) fun t11_0 =>
 M.bind (fa 3 t11_0) fun t12_1 =>
 M.bind (ld none false t12_1) fun t13_2 =>
 M.bind (bi .neq .none t13_2 (.int .i64 0)) fun t14_3 =>
 condM t14_3
 (M.pure (.int .u64 0))
 (M.bind (noPan (M.pure (strip a0))) fun t16_27 =>
 M.bind (noPan (nc P t16_27)) fun t17_28 =>
 M.bind (noPan (fa 0 t17_28)) fun t18_29 =>
 M.bind (noPan (M.pure (strip a0))) fun t20_30 =>
 M.bind (noPan (nc P t20_30)) fun t21_31 =>
 M.bind (noPan (fa 1 t21_31)) fun t22_32 =>
 M.bind (noPan (M.pure (strip a0))) fun t24_33 =>
 M.bind (noPan (nc P t24_33)) fun t25_34 =>
 M.bind (noPan (fa 0 t25_34)) fun t26_35 =>
 M.bind (noPan (M.pure (strip a1))) fun t29_36 =>
 M.bind (noPan (M.pure (strip a2))) fun t30_37 =>
 M.bind (noPan (ld none false t18_29)) fun t19_38 =>
 M.bind (noPan (ld none false t22_32)) fun t23_39 =>
 M.bind (noPan (ld none false t26_35)) fun t27_40 =>
 M.bind (noPan (lnL t27_40)) fun t28_41 =>
 M.bind (noPan (C k_ratchetref01_Number [(strip t19_38), (strip t23_39), (strip t28_41), (strip t29_36), (strip t30_37)])) fun t31_42 =>
 M.bind (noPan (M.pure (strip t31_42))) fun t15_43 =>
 M.bind (noPan (ex 0 t15_43)) fun t32_44 =>
 M.bind (noPan (ex 1 (tupDrop 0 t15_43))) fun t33_45 =>
 M.bind (noPan (ex 2 (tupDrop 1 (tupDrop 0 t15_43)))) fun t34_46 =>
 M.bind (noPan (M.pure t32_44)) fun t7_47 =>
 M.bind (noPan (M.pure t33_45)) fun t8_48 =>
 M.bind (noPan (M.pure t34_46)) fun t9_49 =>
 M.bind (bi .neq .none (strip t9_49) (.int .i64 0)) fun t36_50 =>
 condM t36_50
 (M.bind (C k_ratchetref08_reading_fail [(strip (strip a0)), (strip (strip t8_48)), (strip (strip t9_49))]) fun t40_51 =>
 M.pure (.int .u64 0))
 (M.bind (nc P (strip a0)) fun t43_52 =>
 M.bind (fa 1 t43_52) fun t44_53 =>
 M.bind (st 1 true t44_53 t8_48) fun _ =>
 resT t7_47 (M.pure t7_47)))) := by
 rw [C, callW_eq _ _ rfl]; kernel_rfl
/-- (*ratchet/ratchetref08.reading).fail -/
theorem ratchetref08_reading_fail_eq (a0 a1 a2 : PV) : C k_ratchetref08_reading_fail [a0, a1, a2] =
 trunc (M.bind (nc P (strip a0)) fun t7_0 =>
 M.bind (fa 3 t7_0) fun t8_1 =>
 M.bind (ld none false t8_1) fun t9_2 =>
 M.bind (bi .eql .none t9_2 (.int .i64 0)) fun t10_3 =>
 condM t10_3
 (M.bind (nc P (strip a0)) fun t13_4 =>
 M.bind (fa 2 t13_4) fun t14_5 =>
 M.bind (st 1 true t14_5 a1) fun _ =>
 M.bind (nc P (strip a0)) fun t17_7 =>
 M.bind (fa 3 t17_7) fun t18_8 =>
 M.bind (st 1 true t18_8 a2) fun _ =>
 M.pure (.tup []))
 (M.pure (.tup []))) := by
 rw [C, callW_eq _ _ rfl]; kernel_rfl
theorem entry_read_api_ValType_1_deq (a0 a1 a2 a3 : PV) : CD none k_entry_read_api_ValType_1 [a0, a1, a2, a3] =
 noPan (trunc (M.bind (M.pure .niliface) fun t6_0 =>
 M.bind (bi .neq .iface (strip t6_0) .niliface) fun t8_1 =>
 condM t8_1
 (M.bind (ta y_entry_fault (.agg [(.int .i64 0), (.int .i64 0)]) false (strip t6_0)) fun t10_2 =>
 M.bind (al [(.int .i64 0), (.int .i64 0)]) fun t5_3 =>
 M.bind (st 2 true t5_3 t10_2) fun _ =>
 nb (ld (some 3) true a0) fun t11_5 =>
 nb (fa 0 t5_3) fun t12_6 =>
 guardM (!clash (tld t12_6) (tld a0) && true) <| nb (ld none true t12_6) fun t13_7 =>
 nb (fa 1 t5_3) fun t14_8 =>
 guardM (!clash (tld t14_8) (tld t12_6) && (!clash (tld t14_8) (.no) && (!clash (tld t14_8) (tld a0) && true))) <| nb (ld none true t14_8) fun t15_9 =>
 guardM (!clash (tst a1) (tld t14_8) && (!clash (tst a1) (.no) && (!clash (tst a1) (tld t12_6) && (!clash (tst a1) (.no) && true)))) <| M.bind (noPan (st 3 true a1 t11_5)) fun _ =>
 guardM (!clash (tst a2) (tld t14_8) && (!clash (tst a2) (.no) && true)) <| M.bind (noPan (st 1 true a2 t13_7)) fun _ =>
 M.bind (noPan (st 1 true a3 t15_9)) fun _ =>
 M.pure (.tup []))
 (M.pure (.tup [])))) := by
 rw [CD, callDW_eq]; kernel_rfl
theorem entry_read_api_ValType_1_req (r : PV) (a0 a1 a2 a3 : PV) : CD (some r) k_entry_read_api_ValType_1 [a0, a1, a2, a3] =
 noPan (trunc (M.bind (M.pure r) fun t6_0 =>
 M.bind (bi .neq .iface (strip t6_0) .niliface) fun t8_1 =>
 condM t8_1
 (M.bind (ta y_entry_fault (.agg [(.int .i64 0), (.int .i64 0)]) false (strip t6_0)) fun t10_2 =>
 M.bind (al [(.int .i64 0), (.int .i64 0)]) fun t5_3 =>
 M.bind (st 2 true t5_3 t10_2) fun _ =>
 nb (ld (some 3) true a0) fun t11_5 =>
 nb (fa 0 t5_3) fun t12_6 =>
 guardM (!clash (tld t12_6) (tld a0) && true) <| nb (ld none true t12_6) fun t13_7 =>
 nb (fa 1 t5_3) fun t14_8 =>
 guardM (!clash (tld t14_8) (tld t12_6) && (!clash (tld t14_8) (.no) && (!clash (tld t14_8) (tld a0) && true))) <| nb (ld none true t14_8) fun t15_9 =>
 guardM (!clash (tst a1) (tld t14_8) && (!clash (tst a1) (.no) && (!clash (tst a1) (tld t12_6) && (!clash (tst a1) (.no) && true)))) <| M.bind (noPan (st 3 true a1 t11_5)) fun _ =>
 guardM (!clash (tst a2) (tld t14_8) && (!clash (tst a2) (.no) && true)) <| M.bind (noPan (st 1 true a2 t13_7)) fun _ =>
 M.bind (noPan (st 1 true a3 t15_9)) fun _ =>
 M.pure (.tup []))
 (M.pure (.tup [])))) := by
 rw [CD, callDW_eq]; kernel_rfl
/-- (*ratchet/entry.cursor).fail -/
theorem entry_cursor_fail_eq (a0 a1 a2 : PV) : C k_entry_cursor_fail [a0, a1, a2] =
 trunc (M.bind (bd [(.int .i64 0), (.int .i64 0)] [(0, 1, (strip a1)), (1, 1, (strip a2))]) fun t8_0 =>
 M.bind (mi y_entry_fault t8_0) fun t9_1 =>
 M.bind (pn t9_1) fun _ =>
 M.pure (.tup [])) := by
 rw [C, callW_eq _ _ rfl]; kernel_rfl
end Go.Proofs.Ytofbbijagbpicaa.Pi.Q
/- What the functions are, told. -/
namespace Go.Proofs.Ytofbbijagbpicaa.Pi.Q
open Go Go.Proofs.Ytofbbijagbpicaa.Pi
set_option linter.unusedVariables false
set_option maxRecDepth 100000
noncomputable def p_ratchetref08_reading_val_11111111 (v0 v6 v9 : PV) : M PV := atP P X k_ratchetref08_reading_val [1, 1, 1, 1, 1, 1, 1, 1] (mkEnv 108 0 [(0, v0), (6, v6), (9, v9)])
theorem p_ratchetref08_reading_val_11111111_eq (v0 v6 v9 : PV) : p_ratchetref08_reading_val_11111111 v0 v6 v9 =
 M.bind (nc P (strip v0)) fun t100_0 =>
 M.bind (fa 1 t100_0) fun t101_1 =>
 M.bind (ld none false t101_1) fun t102_2 =>
 M.bind (bi .add .none t102_2 (.int .i64 1)) fun t103_3 =>
 M.bind (nc P (strip v0)) fun t104_4 =>
 M.bind (fa 1 t104_4) fun t105_5 =>
 M.bind (st 1 true t105_5 t103_3) fun _ =>
 M.bind (bd [(.int .i64 0), (.bool false), (.int .i64 0)] [(0, 1, (strip v9))]) fun t107_7 =>
 M.bind (st 3 true v6 t107_7) fun _ =>
 M.bind (ld (some 3) true v6) fun t0_9 => guardM (!isTup t0_9) (M.pure t0_9) :=
 (atP_step P X _ _ _).trans (by kernel_rfl)
/-- (*ratchet/ratchetref08.reading).val -/
theorem ratchetref08_reading_val_eq (a0 a1 a2 : PV) : C k_ratchetref08_reading_val [a0, a1, a2] =
 trunc (M.bind (al [(.int .i64 0), (.bool false), (.int .i64 0)]) fun t6_0 =>
 M.bind (C k_ratchetref08_reading_peek [(strip (strip a0))]) fun t12_1 =>
 M.bind (ex 0 (strip t12_1)) fun t13_2 =>
 M.bind (ex 1 (tupDrop 0 (strip t12_1))) fun t14_3 =>
 M.bind (un .not (strip t14_3)) fun t16_4 =>
 condM t16_4
 (M.bind (nc P (strip a0)) fun t19_5 =>
 M.bind (fa 0 t19_5) fun t20_6 =>
 M.bind (ld none false t20_6) fun t21_7 =>
 M.bind (lnL t21_7) fun t22_8 =>
 M.bind (C k_ratchetref08_reading_fail [(strip (strip a0)), (strip t22_8), (.int .i64 3)]) fun t23_9 =>
 M.bind (bd [(.int .i64 0), (.bool false), (.int .i64 0)] []) fun t24_10 =>
 M.bind (st 3 true t6_0 t24_10) fun _ =>
 M.bind (ld (some 3) true t6_0) fun t0_12 => guardM (!isTup t0_12) (M.pure t0_12))
 (M.bind (bi .eql .none (strip t13_2) (.int .u8 99)) fun t26_13 =>
 M.bind (gd (strip t26_13) false (M.pure (strip t13_2))) fun t28_14 =>
 M.bind (gd (strip t26_13) false (bi .eql .none t28_14 (.int .u8 100))) fun t29_15 =>
 M.bind (pick (strip t26_13) (.bool true) t29_15) fun t30_16 =>
 condM t30_16
 (M.bind (nc P (strip a0)) fun t32_17 =>
 M.bind (fa 1 t32_17) fun t33_18 =>
 M.bind (ld none false t33_18) fun t34_19 =>
 M.bind (bi .add .none t34_19 (.int .i64 1)) fun t35_20 =>
 M.bind (nc P (strip a0)) fun t36_21 =>
 M.bind (fa 1 t36_21) fun t37_22 =>
 M.bind (st 1 true t37_22 t35_20) fun _ =>
 M.bind (bi .eql .none (strip t13_2) (.int .u8 99)) fun t39_24 =>
 M.bind (C k_ratchetref08_reading_heap [(strip (strip a0))]) fun t41_25 =>
 M.bind (bd [(.int .i64 0), (.bool false), (.int .i64 0)] [(0, 1, (.int .i64 5)), (1, 1, t39_24), (2, 1, t41_25)]) fun t42_26 =>
 M.bind (st 3 true t6_0 t42_26) fun _ =>
 M.bind (ld (some 3) true t6_0) fun t0_28 => guardM (!isTup t0_28) (M.pure t0_28))
 (M.bind (C k_ratchetref08_abstract [(strip (strip t13_2))]) fun t44_29 =>
 M.bind (bi .neq .none t44_29 (.int .i64 0)) fun t45_30 =>
 condM t45_30
 (M.bind (nc P (strip a0)) fun t47_31 =>
 M.bind (fa 1 t47_31) fun t48_32 =>
 M.bind (ld none false t48_32) fun t49_33 =>
 M.bind (bi .add .none t49_33 (.int .i64 1)) fun t50_34 =>
 M.bind (nc P (strip a0)) fun t51_35 =>
 M.bind (fa 1 t51_35) fun t52_36 =>
 M.bind (st 1 true t52_36 t50_34) fun _ =>
 M.bind (C k_ratchetref08_abstract [(strip (strip t13_2))]) fun t54_38 =>
 M.bind (bd [(.int .i64 0), (.bool false), (.int .i64 0)] [(0, 1, (.int .i64 5)), (1, 1, (.bool true)), (2, 1, t54_38)]) fun t55_39 =>
 M.bind (st 3 true t6_0 t55_39) fun _ =>
 M.bind (ld (some 3) true t6_0) fun t0_41 => guardM (!isTup t0_41) (M.pure t0_41))
 (M.bind (gd (strip (strip a1)) true (M.pure (strip t13_2))) fun t58_42 =>
 M.bind (gd (strip (strip a1)) true (bi .eql .none t58_42 (.int .u8 123))) fun t59_43 =>
 M.bind (pick (strip (strip a1)) t59_43 (.bool false)) fun t60_44 =>
 condM t60_44
 (M.bind (nc P (strip a0)) fun t63_45 =>
 M.bind (fa 1 t63_45) fun t64_46 =>
 M.bind (ld none false t64_46) fun t65_47 =>
 M.bind (C k_ratchetref08_reading_fail [(strip (strip a0)), (strip t65_47), (.int .i64 8)]) fun t66_48 =>
 M.bind (bd [(.int .i64 0), (.bool false), (.int .i64 0)] []) fun t67_49 =>
 M.bind (st 3 true t6_0 t67_49) fun _ =>
 M.bind (ld (some 3) true t6_0) fun t0_51 => guardM (!isTup t0_51) (M.pure t0_51))
 (M.bind (gd (strip (strip a1)) true (M.pure (strip t13_2))) fun t77_52 =>
 M.bind (gd (strip (strip a1)) true (bi .geq .none t77_52 (.int .u8 124))) fun t78_53 =>
 M.bind (pick (strip (strip a1)) t78_53 (.bool false)) fun t79_54 =>
 M.bind (gd (strip t79_54) true (M.pure (strip t13_2))) fun t81_55 =>
 M.bind (gd (strip t79_54) true (bi .leq .none t81_55 (.int .u8 127))) fun t82_56 =>
 M.bind (pick (strip t79_54) t82_56 (.bool false)) fun t83_57 =>
 condM t83_57
 (M.bind (cv (.int .i64) true (strip t13_2)) fun t85_58 =>
 M.bind (bi .sub .none (.int .i64 128) t85_58) fun t86_59 =>
 p_ratchetref08_reading_val_11111111 a0 t6_0 t86_59)
 (M.bind (gd (strip (strip a2)) true (M.pure (strip t13_2))) fun t90_60 =>
 M.bind (gd (strip (strip a2)) true (bi .eql .none t90_60 (.int .u8 120))) fun t91_61 =>
 M.bind (pick (strip (strip a2)) t91_61 (.bool false)) fun t92_62 =>
 condM t92_62
 (p_ratchetref08_reading_val_11111111 a0 t6_0 (.int .i64 6))
 (M.bind (gd (strip (strip a2)) true (M.pure (strip t13_2))) fun t96_63 =>
 M.bind (gd (strip (strip a2)) true (bi .eql .none t96_63 (.int .u8 119))) fun t97_64 =>
 M.bind (pick (strip (strip a2)) t97_64 (.bool false)) fun t98_65 =>
 condM t98_65
 (p_ratchetref08_reading_val_11111111 a0 t6_0 (.int .i64 7))
 (M.bind (nc P (strip a0)) fun t70_66 =>
 M.bind (fa 1 t70_66) fun t71_67 =>
 M.bind (ld none false t71_67) fun t72_68 =>
 M.bind (C k_ratchetref08_reading_fail [(strip (strip a0)), (strip t72_68), (.int .i64 4)]) fun t73_69 =>
 p_ratchetref08_reading_val_11111111 a0 t6_0 (.int .i64 0))))))))) := by
 rw [C, callW_eq _ _ rfl]; kernel_rfl
theorem entry_read_api_Block_1_deq (a0 a1 a2 a3 : PV) : CD none k_entry_read_api_Block_1 [a0, a1, a2, a3] =
 noPan (trunc (M.bind (M.pure .niliface) fun t6_0 =>
 M.bind (bi .neq .iface (strip t6_0) .niliface) fun t8_1 =>
 condM t8_1
 (M.bind (ta y_entry_fault (.agg [(.int .i64 0), (.int .i64 0)]) false (strip t6_0)) fun t10_2 =>
 M.bind (al [(.int .i64 0), (.int .i64 0)]) fun t5_3 =>
 M.bind (st 2 true t5_3 t10_2) fun _ =>
 nb (ld (some 4) true a0) fun t11_5 =>
 nb (fa 0 t5_3) fun t12_6 =>
 guardM (!clash (tld t12_6) (tld a0) && true) <| nb (ld none true t12_6) fun t13_7 =>
 nb (fa 1 t5_3) fun t14_8 =>
 guardM (!clash (tld t14_8) (tld t12_6) && (!clash (tld t14_8) (.no) && (!clash (tld t14_8) (tld a0) && true))) <| nb (ld none true t14_8) fun t15_9 =>
 guardM (!clash (tst a1) (tld t14_8) && (!clash (tst a1) (.no) && (!clash (tst a1) (tld t12_6) && (!clash (tst a1) (.no) && true)))) <| M.bind (noPan (st 4 true a1 t11_5)) fun _ =>
 guardM (!clash (tst a2) (tld t14_8) && (!clash (tst a2) (.no) && true)) <| M.bind (noPan (st 1 true a2 t13_7)) fun _ =>
 M.bind (noPan (st 1 true a3 t15_9)) fun _ =>
 M.pure (.tup []))
 (M.pure (.tup [])))) := by
 rw [CD, callDW_eq]; kernel_rfl
theorem entry_read_api_Block_1_req (r : PV) (a0 a1 a2 a3 : PV) : CD (some r) k_entry_read_api_Block_1 [a0, a1, a2, a3] =
 noPan (trunc (M.bind (M.pure r) fun t6_0 =>
 M.bind (bi .neq .iface (strip t6_0) .niliface) fun t8_1 =>
 condM t8_1
 (M.bind (ta y_entry_fault (.agg [(.int .i64 0), (.int .i64 0)]) false (strip t6_0)) fun t10_2 =>
 M.bind (al [(.int .i64 0), (.int .i64 0)]) fun t5_3 =>
 M.bind (st 2 true t5_3 t10_2) fun _ =>
 nb (ld (some 4) true a0) fun t11_5 =>
 nb (fa 0 t5_3) fun t12_6 =>
 guardM (!clash (tld t12_6) (tld a0) && true) <| nb (ld none true t12_6) fun t13_7 =>
 nb (fa 1 t5_3) fun t14_8 =>
 guardM (!clash (tld t14_8) (tld t12_6) && (!clash (tld t14_8) (.no) && (!clash (tld t14_8) (tld a0) && true))) <| nb (ld none true t14_8) fun t15_9 =>
 guardM (!clash (tst a1) (tld t14_8) && (!clash (tst a1) (.no) && (!clash (tst a1) (tld t12_6) && (!clash (tst a1) (.no) && true)))) <| M.bind (noPan (st 4 true a1 t11_5)) fun _ =>
 guardM (!clash (tst a2) (tld t14_8) && (!clash (tst a2) (.no) && true)) <| M.bind (noPan (st 1 true a2 t13_7)) fun _ =>
 M.bind (noPan (st 1 true a3 t15_9)) fun _ =>
 M.pure (.tup []))
 (M.pure (.tup [])))) := by
 rw [CD, callDW_eq]; kernel_rfl
theorem entry_read_L_api_ValType_1_deq (a0 a1 a2 a3 : PV) : CD none k_entry_read_L_api_ValType_1 [a0, a1, a2, a3] =
 noPan (trunc (M.bind (M.pure .niliface) fun t6_0 =>
 M.bind (bi .neq .iface (strip t6_0) .niliface) fun t8_1 =>
 condM t8_1
 (M.bind (ta y_entry_fault (.agg [(.int .i64 0), (.int .i64 0)]) false (strip t6_0)) fun t10_2 =>
 M.bind (al [(.int .i64 0), (.int .i64 0)]) fun t5_3 =>
 M.bind (st 2 true t5_3 t10_2) fun _ =>
 nb (ld none true a0) fun t11_5 =>
 nb (fa 0 t5_3) fun t12_6 =>
 guardM (!clash (tld t12_6) (tld a0) && true) <| nb (ld none true t12_6) fun t13_7 =>
 nb (fa 1 t5_3) fun t14_8 =>
 guardM (!clash (tld t14_8) (tld t12_6) && (!clash (tld t14_8) (.no) && (!clash (tld t14_8) (tld a0) && true))) <| nb (ld none true t14_8) fun t15_9 =>
 guardM (!clash (tst a1) (tld t14_8) && (!clash (tst a1) (.no) && (!clash (tst a1) (tld t12_6) && (!clash (tst a1) (.no) && true)))) <| M.bind (noPan (st 1 true a1 t11_5)) fun _ =>
 guardM (!clash (tst a2) (tld t14_8) && (!clash (tst a2) (.no) && true)) <| M.bind (noPan (st 1 true a2 t13_7)) fun _ =>
 M.bind (noPan (st 1 true a3 t15_9)) fun _ =>
 M.pure (.tup []))
 (M.pure (.tup [])))) := by
 rw [CD, callDW_eq]; kernel_rfl
theorem entry_read_L_api_ValType_1_req (r : PV) (a0 a1 a2 a3 : PV) : CD (some r) k_entry_read_L_api_ValType_1 [a0, a1, a2, a3] =
 noPan (trunc (M.bind (M.pure r) fun t6_0 =>
 M.bind (bi .neq .iface (strip t6_0) .niliface) fun t8_1 =>
 condM t8_1
 (M.bind (ta y_entry_fault (.agg [(.int .i64 0), (.int .i64 0)]) false (strip t6_0)) fun t10_2 =>
 M.bind (al [(.int .i64 0), (.int .i64 0)]) fun t5_3 =>
 M.bind (st 2 true t5_3 t10_2) fun _ =>
 nb (ld none true a0) fun t11_5 =>
 nb (fa 0 t5_3) fun t12_6 =>
 guardM (!clash (tld t12_6) (tld a0) && true) <| nb (ld none true t12_6) fun t13_7 =>
 nb (fa 1 t5_3) fun t14_8 =>
 guardM (!clash (tld t14_8) (tld t12_6) && (!clash (tld t14_8) (.no) && (!clash (tld t14_8) (tld a0) && true))) <| nb (ld none true t14_8) fun t15_9 =>
 guardM (!clash (tst a1) (tld t14_8) && (!clash (tst a1) (.no) && (!clash (tst a1) (tld t12_6) && (!clash (tst a1) (.no) && true)))) <| M.bind (noPan (st 1 true a1 t11_5)) fun _ =>
 guardM (!clash (tst a2) (tld t14_8) && (!clash (tst a2) (.no) && true)) <| M.bind (noPan (st 1 true a2 t13_7)) fun _ =>
 M.bind (noPan (st 1 true a3 t15_9)) fun _ =>
 M.pure (.tup []))
 (M.pure (.tup [])))) := by
 rw [CD, callDW_eq]; kernel_rfl
noncomputable def p_entry_list_api_ValType_1111 (v2 v6 v8 : PV) : M PV := atP P X k_entry_list_api_ValType [1, 1, 1, 1] (mkEnv 32 0 [(2, v2), (6, v6), (8, v8)])
noncomputable def p_entry_list_api_ValType_11111010 (v2 v6 v9 v22 v23 : PV) : M PV := atP P X k_entry_list_api_ValType [1, 1, 1, 1, 1, 0, 1, 0] (mkEnv 32 0 [(2, v2), (6, v6), (9, v9), (22, v22), (23, v23)])
theorem p_entry_list_api_ValType_1111_eq (v2 v6 v8 : PV) : p_entry_list_api_ValType_1111 v2 v6 v8 =
 p_entry_list_api_ValType_11111010 v2 v6 (.slice false true 0 []) (strip v8) (.int .u32 0) :=
 (atP_step P X _ _ _).trans (by kernel_rfl)
theorem p_entry_list_api_ValType_11111010_eq (v2 v6 v9 v22 v23 : PV) : p_entry_list_api_ValType_11111010 v2 v6 v9 v22 v23 =
 M.bind (bi .lss .none v23 v22) fun t24_0 =>
 condM t24_0
 (M.bind (callV P C (strip v2) []) fun t27_1 =>
 M.bind (bs true (some 3) [t27_1]) fun t28_2 =>
 M.bind (ap true 3 24 v9 t28_2) fun t29_3 =>
 M.bind (bi .add .none v23 (.int .u32 1)) fun t30_4 =>
 p_entry_list_api_ValType_11111010 v2 v6 t29_3 v22 (strip t30_4))
 (resT v9 (M.pure v9)) :=
 (atP_step P X _ _ _).trans (by kernel_rfl)
/-- ratchet/entry.list[ratchet/api.ValType] -/
theorem entry_list_api_ValType_eq (a0 a1 a2 : PV) : C k_entry_list_api_ValType [a0, a1, a2] =
 trunc (M.bind (nc P (strip a0)) fun t11_0 =>
 M.bind (fa 1 t11_0) fun t12_1 =>
 M.bind (ld none true t12_1) fun t13_2 =>
 M.bind (C k_entry_cursor_u32 [(strip (strip a0))]) fun t15_3 =>
 M.bind (bi .gtr .none (strip t15_3) (strip a1)) fun t18_4 =>
 condM t18_4
 (M.bind (C k_entry_cursor_fail [(strip (strip a0)), (strip (strip t13_2)), (.int .i64 2)]) fun t21_5 =>
 p_entry_list_api_ValType_1111 a2 (.slice false true 0 []) t15_3)
 (p_entry_list_api_ValType_1111 a2 (.slice false true 0 []) t15_3)) := by
 rw [C, callW_eq _ _ rfl]; kernel_rfl
/-- (*ratchet/ratchetref08.reading).many -/
theorem ratchetref08_reading_many_eq (a0 a1 : PV) : C k_ratchetref08_reading_many [a0, a1] =
 trunc (M.bind (nc P (strip a0)) fun t8_0 =>
 M.bind (fa 1 t8_0) fun t9_1 =>
 M.bind (ld none true t9_1) fun t10_2 =>
 M.bind (C k_ratchetref08_reading_number [(strip (strip a0)), (.int .i64 32), (.bool false)]) fun t12_3 =>
 M.bind (nc P (strip a0)) fun t14_4 =>
 M.bind (fa 3 t14_4) fun t15_5 =>
 M.bind (ld none false t15_5) fun t16_6 =>
 M.bind (bi .eql .none t16_6 (.int .i64 0)) fun t17_7 =>
 M.bind (gd (strip t17_7) true (M.pure (strip t12_3))) fun t19_8 =>
 M.bind (gd (strip t17_7) true (M.pure (strip a1))) fun t20_9 =>
 M.bind (gd (strip t17_7) true (cv (.int .u64) true t20_9)) fun t21_10 =>
 M.bind (gd (strip t17_7) true (bi .gtr .none t19_8 t21_10)) fun t22_11 =>
 M.bind (pick (strip t17_7) t22_11 (.bool false)) fun t23_12 =>
 condM t23_12
 (M.bind (C k_ratchetref08_reading_fail [(strip (strip a0)), (strip (strip t10_2)), (.int .i64 2)]) fun t26_13 =>
 M.pure (.int .i64 0))
 (M.bind (cv (.int .i64) true (strip t12_3)) fun t28_14 =>
 resT t28_14 (M.pure t28_14))) := by
 rw [C, callW_eq _ _ rfl]; kernel_rfl
theorem entry_read_api_Field_1_deq (a0 a1 a2 a3 : PV) : CD none k_entry_read_api_Field_1 [a0, a1, a2, a3] =
 noPan (trunc (M.bind (M.pure .niliface) fun t6_0 =>
 M.bind (bi .neq .iface (strip t6_0) .niliface) fun t8_1 =>
 condM t8_1
 (M.bind (ta y_entry_fault (.agg [(.int .i64 0), (.int .i64 0)]) false (strip t6_0)) fun t10_2 =>
 M.bind (al [(.int .i64 0), (.int .i64 0)]) fun t5_3 =>
 M.bind (st 2 true t5_3 t10_2) fun _ =>
 nb (ld (some 4) true a0) fun t11_5 =>
 nb (fa 0 t5_3) fun t12_6 =>
 guardM (!clash (tld t12_6) (tld a0) && true) <| nb (ld none true t12_6) fun t13_7 =>
 nb (fa 1 t5_3) fun t14_8 =>
 guardM (!clash (tld t14_8) (tld t12_6) && (!clash (tld t14_8) (.no) && (!clash (tld t14_8) (tld a0) && true))) <| nb (ld none true t14_8) fun t15_9 =>
 guardM (!clash (tst a1) (tld t14_8) && (!clash (tst a1) (.no) && (!clash (tst a1) (tld t12_6) && (!clash (tst a1) (.no) && true)))) <| M.bind (noPan (st 4 true a1 t11_5)) fun _ =>
 guardM (!clash (tst a2) (tld t14_8) && (!clash (tst a2) (.no) && true)) <| M.bind (noPan (st 1 true a2 t13_7)) fun _ =>
 M.bind (noPan (st 1 true a3 t15_9)) fun _ =>
 M.pure (.tup []))
 (M.pure (.tup [])))) := by
 rw [CD, callDW_eq]; kernel_rfl
theorem entry_read_api_Field_1_req (r : PV) (a0 a1 a2 a3 : PV) : CD (some r) k_entry_read_api_Field_1 [a0, a1, a2, a3] =
 noPan (trunc (M.bind (M.pure r) fun t6_0 =>
 M.bind (bi .neq .iface (strip t6_0) .niliface) fun t8_1 =>
 condM t8_1
 (M.bind (ta y_entry_fault (.agg [(.int .i64 0), (.int .i64 0)]) false (strip t6_0)) fun t10_2 =>
 M.bind (al [(.int .i64 0), (.int .i64 0)]) fun t5_3 =>
 M.bind (st 2 true t5_3 t10_2) fun _ =>
 nb (ld (some 4) true a0) fun t11_5 =>
 nb (fa 0 t5_3) fun t12_6 =>
 guardM (!clash (tld t12_6) (tld a0) && true) <| nb (ld none true t12_6) fun t13_7 =>
 nb (fa 1 t5_3) fun t14_8 =>
 guardM (!clash (tld t14_8) (tld t12_6) && (!clash (tld t14_8) (.no) && (!clash (tld t14_8) (tld a0) && true))) <| nb (ld none true t14_8) fun t15_9 =>
 guardM (!clash (tst a1) (tld t14_8) && (!clash (tst a1) (.no) && (!clash (tst a1) (tld t12_6) && (!clash (tst a1) (.no) && true)))) <| M.bind (noPan (st 4 true a1 t11_5)) fun _ =>
 guardM (!clash (tst a2) (tld t14_8) && (!clash (tst a2) (.no) && true)) <| M.bind (noPan (st 1 true a2 t13_7)) fun _ =>
 M.bind (noPan (st 1 true a3 t15_9)) fun _ =>
 M.pure (.tup []))
 (M.pure (.tup [])))) := by
 rw [CD, callDW_eq]; kernel_rfl
noncomputable def p_entry_cursor_small_111 (v0 v4 v5 : PV) : M PV := atP P X k_entry_cursor_small [1, 1, 1] (mkEnv 25 0 [(0, v0), (4, v4), (5, v5)])
theorem p_entry_cursor_small_111_eq (v0 v4 v5 : PV) : p_entry_cursor_small_111 v0 v4 v5 =
 M.bind (nc P (strip v0)) fun t18_0 =>
 M.bind (fa 1 t18_0) fun t19_1 =>
 M.bind (ld none false t19_1) fun t20_2 =>
 M.bind (bi .add .none t20_2 (.int .i64 1)) fun t21_3 =>
 M.bind (nc P (strip v0)) fun t22_4 =>
 M.bind (fa 1 t22_4) fun t23_5 =>
 M.bind (st 1 true t23_5 t21_3) fun _ =>
 resT v5 (M.pure v5) :=
 (atP_step P X _ _ _).trans (by kernel_rfl)
/-- (*ratchet/entry.cursor).small -/
theorem entry_cursor_small_eq (a0 a1 : PV) : C k_entry_cursor_small [a0, a1] =
 trunc (M.bind (C k_entry_cursor_look [(strip (strip a0))]) fun t7_0 =>
 M.bind (bi .gtr .none (strip t7_0) (strip a1)) fun t10_1 =>
 condM t10_1
 (M.bind (nc P (strip a0)) fun t13_2 =>
 M.bind (fa 1 t13_2) fun t14_3 =>
 M.bind (ld none false t14_3) fun t15_4 =>
 M.bind (C k_entry_cursor_fail [(strip (strip a0)), (strip t15_4), (.int .i64 4)]) fun t16_5 =>
 p_entry_cursor_small_111 a0 (.int .u8 0) t7_0)
 (p_entry_cursor_small_111 a0 (.int .u8 0) t7_0)) := by
 rw [C, callW_eq _ _ rfl]; kernel_rfl
noncomputable def p_ratchetref08_reading_small_1111 (v0 v4 v5 : PV) : M PV := atP P X k_ratchetref08_reading_small [1, 1, 1, 1] (mkEnv 38 0 [(0, v0), (4, v4), (5, v5)])
theorem p_ratchetref08_reading_small_1111_eq (v0 v4 v5 : PV) : p_ratchetref08_reading_small_1111 v0 v4 v5 =
 M.bind (nc P (strip v0)) fun t31_0 =>
 M.bind (fa 1 t31_0) fun t32_1 =>
 M.bind (ld none false t32_1) fun t33_2 =>
 M.bind (bi .add .none t33_2 (.int .i64 1)) fun t34_3 =>
 M.bind (nc P (strip v0)) fun t35_4 =>
 M.bind (fa 1 t35_4) fun t36_5 =>
 M.bind (st 1 true t36_5 t34_3) fun _ =>
 resT v5 (M.pure v5) :=
 (atP_step P X _ _ _).trans (by kernel_rfl)
/-- (*ratchet/ratchetref08.reading).small -/
theorem ratchetref08_reading_small_eq (a0 a1 : PV) : C k_ratchetref08_reading_small [a0, a1] =
 trunc (M.bind (C k_ratchetref08_reading_peek [(strip (strip a0))]) fun t9_0 =>
 M.bind (ex 0 (strip t9_0)) fun t10_1 =>
 M.bind (ex 1 (tupDrop 0 (strip t9_0))) fun t11_2 =>
 M.bind (un .not (strip t11_2)) fun t13_3 =>
 condM t13_3
 (M.bind (nc P (strip a0)) fun t16_4 =>
 M.bind (fa 0 t16_4) fun t17_5 =>
 M.bind (ld none false t17_5) fun t18_6 =>
 M.bind (lnL t18_6) fun t19_7 =>
 M.bind (C k_ratchetref08_reading_fail [(strip (strip a0)), (strip t19_7), (.int .i64 3)]) fun t20_8 =>
 M.pure (.int .u8 0))
 (M.bind (bi .gtr .none (strip t10_1) (strip a1)) fun t23_9 =>
 condM t23_9
 (M.bind (nc P (strip a0)) fun t26_10 =>
 M.bind (fa 1 t26_10) fun t27_11 =>
 M.bind (ld none false t27_11) fun t28_12 =>
 M.bind (C k_ratchetref08_reading_fail [(strip (strip a0)), (strip t28_12), (.int .i64 4)]) fun t29_13 =>
 p_ratchetref08_reading_small_1111 a0 (.int .u8 0) t10_1)
 (p_ratchetref08_reading_small_1111 a0 (.int .u8 0) t10_1))) := by
 rw [C, callW_eq _ _ rfl]; kernel_rfl
theorem entry_read_api_CompType_1_deq (a0 a1 a2 a3 : PV) : CD none k_entry_read_api_CompType_1 [a0, a1, a2, a3] =
 noPan (trunc (M.bind (M.pure .niliface) fun t6_0 =>
 M.bind (bi .neq .iface (strip t6_0) .niliface) fun t8_1 =>
 condM t8_1
 (M.bind (ta y_entry_fault (.agg [(.int .i64 0), (.int .i64 0)]) false (strip t6_0)) fun t10_2 =>
 M.bind (al [(.int .i64 0), (.int .i64 0)]) fun t5_3 =>
 M.bind (st 2 true t5_3 t10_2) fun _ =>
 nb (ld (some 4) true a0) fun t11_5 =>
 nb (fa 0 t5_3) fun t12_6 =>
 guardM (!clash (tld t12_6) (tld a0) && true) <| nb (ld none true t12_6) fun t13_7 =>
 nb (fa 1 t5_3) fun t14_8 =>
 guardM (!clash (tld t14_8) (tld t12_6) && (!clash (tld t14_8) (.no) && (!clash (tld t14_8) (tld a0) && true))) <| nb (ld none true t14_8) fun t15_9 =>
 guardM (!clash (tst a1) (tld t14_8) && (!clash (tst a1) (.no) && (!clash (tst a1) (tld t12_6) && (!clash (tst a1) (.no) && true)))) <| M.bind (noPan (st 4 true a1 t11_5)) fun _ =>
 guardM (!clash (tst a2) (tld t14_8) && (!clash (tst a2) (.no) && true)) <| M.bind (noPan (st 1 true a2 t13_7)) fun _ =>
 M.bind (noPan (st 1 true a3 t15_9)) fun _ =>
 M.pure (.tup []))
 (M.pure (.tup [])))) := by
 rw [CD, callDW_eq]; kernel_rfl
theorem entry_read_api_CompType_1_req (r : PV) (a0 a1 a2 a3 : PV) : CD (some r) k_entry_read_api_CompType_1 [a0, a1, a2, a3] =
 noPan (trunc (M.bind (M.pure r) fun t6_0 =>
 M.bind (bi .neq .iface (strip t6_0) .niliface) fun t8_1 =>
 condM t8_1
 (M.bind (ta y_entry_fault (.agg [(.int .i64 0), (.int .i64 0)]) false (strip t6_0)) fun t10_2 =>
 M.bind (al [(.int .i64 0), (.int .i64 0)]) fun t5_3 =>
 M.bind (st 2 true t5_3 t10_2) fun _ =>
 nb (ld (some 4) true a0) fun t11_5 =>
 nb (fa 0 t5_3) fun t12_6 =>
 guardM (!clash (tld t12_6) (tld a0) && true) <| nb (ld none true t12_6) fun t13_7 =>
 nb (fa 1 t5_3) fun t14_8 =>
 guardM (!clash (tld t14_8) (tld t12_6) && (!clash (tld t14_8) (.no) && (!clash (tld t14_8) (tld a0) && true))) <| nb (ld none true t14_8) fun t15_9 =>
 guardM (!clash (tst a1) (tld t14_8) && (!clash (tst a1) (.no) && (!clash (tst a1) (tld t12_6) && (!clash (tst a1) (.no) && true)))) <| M.bind (noPan (st 4 true a1 t11_5)) fun _ =>
 guardM (!clash (tst a2) (tld t14_8) && (!clash (tst a2) (.no) && true)) <| M.bind (noPan (st 1 true a2 t13_7)) fun _ =>
 M.bind (noPan (st 1 true a3 t15_9)) fun _ =>
 M.pure (.tup []))
 (M.pure (.tup [])))) := by
 rw [CD, callDW_eq]; kernel_rfl
noncomputable def p_entry_list_api_Field_1111 (v2 v6 v8 : PV) : M PV := atP P X k_entry_list_api_Field [1, 1, 1, 1] (mkEnv 32 0 [(2, v2), (6, v6), (8, v8)])
noncomputable def p_entry_list_api_Field_11111010 (v2 v6 v9 v22 v23 : PV) : M PV := atP P X k_entry_list_api_Field [1, 1, 1, 1, 1, 0, 1, 0] (mkEnv 32 0 [(2, v2), (6, v6), (9, v9), (22, v22), (23, v23)])
theorem p_entry_list_api_Field_1111_eq (v2 v6 v8 : PV) : p_entry_list_api_Field_1111 v2 v6 v8 =
 p_entry_list_api_Field_11111010 v2 v6 (.slice false true 0 []) (strip v8) (.int .u32 0) :=
 (atP_step P X _ _ _).trans (by kernel_rfl)
theorem p_entry_list_api_Field_11111010_eq (v2 v6 v9 v22 v23 : PV) : p_entry_list_api_Field_11111010 v2 v6 v9 v22 v23 =
 M.bind (bi .lss .none v23 v22) fun t24_0 =>
 condM t24_0
 (M.bind (callV P C (strip v2) []) fun t27_1 =>
 M.bind (bs true (some 4) [t27_1]) fun t28_2 =>
 M.bind (ap true 4 32 v9 t28_2) fun t29_3 =>
 M.bind (bi .add .none v23 (.int .u32 1)) fun t30_4 =>
 p_entry_list_api_Field_11111010 v2 v6 t29_3 v22 (strip t30_4))
 (resT v9 (M.pure v9)) :=
 (atP_step P X _ _ _).trans (by kernel_rfl)
/-- ratchet/entry.list[ratchet/api.Field] -/
theorem entry_list_api_Field_eq (a0 a1 a2 : PV) : C k_entry_list_api_Field [a0, a1, a2] =
 trunc (M.bind (nc P (strip a0)) fun t11_0 =>
 M.bind (fa 1 t11_0) fun t12_1 =>
 M.bind (ld none true t12_1) fun t13_2 =>
 M.bind (C k_entry_cursor_u32 [(strip (strip a0))]) fun t15_3 =>
 M.bind (bi .gtr .none (strip t15_3) (strip a1)) fun t18_4 =>
 condM t18_4
 (M.bind (C k_entry_cursor_fail [(strip (strip a0)), (strip (strip t13_2)), (.int .i64 2)]) fun t21_5 =>
 p_entry_list_api_Field_1111 a2 (.slice false true 0 []) t15_3)
 (p_entry_list_api_Field_1111 a2 (.slice false true 0 []) t15_3)) := by
 rw [C, callW_eq _ _ rfl]; kernel_rfl
/-- ratchet/ratchetref05.Same -/
theorem ratchetref05_Same_eq (a0 a1 : PV) : C k_ratchetref05_Same [a0, a1] =
 trunc (M.bind (bx 3 a0) fun t2_0 =>
 M.bind (bx 3 a1) fun t3_1 =>
 M.bind (fa 0 t2_0) fun t5_2 =>
 M.bind (ld none false t5_2) fun t6_3 =>
 M.bind (fa 0 t3_1) fun t7_4 =>
 M.bind (ld none false t7_4) fun t8_5 =>
 M.bind (bi .eql .none t6_3 t8_5) fun t9_6 =>
 M.bind (gd (strip t9_6) true (fa 0 t2_0)) fun t11_7 =>
 M.bind (gd (strip t9_6) true (ld none false t11_7)) fun t12_8 =>
 M.bind (gd (strip t9_6) true (bi .neq .none t12_8 (.int .i64 5))) fun t13_9 =>
 M.bind (gd (strip t9_6) true (M.pure (strip t13_9))) fun t14_10 =>
 M.bind (gd t14_10 false (fa 1 t2_0)) fun t15_11 =>
 M.bind (gd t14_10 false (ld none false t15_11)) fun t16_12 =>
 M.bind (gd t14_10 false (fa 1 t3_1)) fun t17_13 =>
 M.bind (gd t14_10 false (ld none false t17_13)) fun t18_14 =>
 M.bind (gd t14_10 false (bi .eql .bool t16_12 t18_14)) fun t19_15 =>
 M.bind (gd t14_10 false (M.pure (strip t19_15))) fun t20_16 =>
 M.bind (gd t20_16 true (fa 2 t2_0)) fun t21_17 =>
 M.bind (gd t20_16 true (ld none false t21_17)) fun t22_18 =>
 M.bind (gd t20_16 true (fa 2 t3_1)) fun t23_19 =>
 M.bind (gd t20_16 true (ld none false t23_19)) fun t24_20 =>
 M.bind (gd t20_16 true (bi .eql .none t22_18 t24_20)) fun t25_21 =>
 M.bind (gd t14_10 false (pick t20_16 t25_21 (.bool false))) fun t26_22 =>
 M.bind (gd (strip t9_6) true (pick t14_10 (.bool true) t26_22)) fun t27_23 =>
 M.bind (pick (strip t9_6) t27_23 (.bool false)) fun t28_24 =>
 resT t28_24 (M.pure t28_24)) := by
 rw [C, callW_eq _ _ rfl]; kernel_rfl
theorem entry_read_api_SubType_1_deq (a0 a1 a2 a3 : PV) : CD none k_entry_read_api_SubType_1 [a0, a1, a2, a3] =
 noPan (trunc (M.bind (M.pure .niliface) fun t6_0 =>
 M.bind (bi .neq .iface (strip t6_0) .niliface) fun t8_1 =>
 condM t8_1
 (M.bind (ta y_entry_fault (.agg [(.int .i64 0), (.int .i64 0)]) false (strip t6_0)) fun t10_2 =>
 M.bind (al [(.int .i64 0), (.int .i64 0)]) fun t5_3 =>
 M.bind (st 2 true t5_3 t10_2) fun _ =>
 nb (ld (some 6) true a0) fun t11_5 =>
 nb (fa 0 t5_3) fun t12_6 =>
 guardM (!clash (tld t12_6) (tld a0) && true) <| nb (ld none true t12_6) fun t13_7 =>
 nb (fa 1 t5_3) fun t14_8 =>
 guardM (!clash (tld t14_8) (tld t12_6) && (!clash (tld t14_8) (.no) && (!clash (tld t14_8) (tld a0) && true))) <| nb (ld none true t14_8) fun t15_9 =>
 guardM (!clash (tst a1) (tld t14_8) && (!clash (tst a1) (.no) && (!clash (tst a1) (tld t12_6) && (!clash (tst a1) (.no) && true)))) <| M.bind (noPan (st 6 true a1 t11_5)) fun _ =>
 guardM (!clash (tst a2) (tld t14_8) && (!clash (tst a2) (.no) && true)) <| M.bind (noPan (st 1 true a2 t13_7)) fun _ =>
 M.bind (noPan (st 1 true a3 t15_9)) fun _ =>
 M.pure (.tup []))
 (M.pure (.tup [])))) := by
 rw [CD, callDW_eq]; kernel_rfl
theorem entry_read_api_SubType_1_req (r : PV) (a0 a1 a2 a3 : PV) : CD (some r) k_entry_read_api_SubType_1 [a0, a1, a2, a3] =
 noPan (trunc (M.bind (M.pure r) fun t6_0 =>
 M.bind (bi .neq .iface (strip t6_0) .niliface) fun t8_1 =>
 condM t8_1
 (M.bind (ta y_entry_fault (.agg [(.int .i64 0), (.int .i64 0)]) false (strip t6_0)) fun t10_2 =>
 M.bind (al [(.int .i64 0), (.int .i64 0)]) fun t5_3 =>
 M.bind (st 2 true t5_3 t10_2) fun _ =>
 nb (ld (some 6) true a0) fun t11_5 =>
 nb (fa 0 t5_3) fun t12_6 =>
 guardM (!clash (tld t12_6) (tld a0) && true) <| nb (ld none true t12_6) fun t13_7 =>
 nb (fa 1 t5_3) fun t14_8 =>
 guardM (!clash (tld t14_8) (tld t12_6) && (!clash (tld t14_8) (.no) && (!clash (tld t14_8) (tld a0) && true))) <| nb (ld none true t14_8) fun t15_9 =>
 guardM (!clash (tst a1) (tld t14_8) && (!clash (tst a1) (.no) && (!clash (tst a1) (tld t12_6) && (!clash (tst a1) (.no) && true)))) <| M.bind (noPan (st 6 true a1 t11_5)) fun _ =>
 guardM (!clash (tst a2) (tld t14_8) && (!clash (tst a2) (.no) && true)) <| M.bind (noPan (st 1 true a2 t13_7)) fun _ =>
 M.bind (noPan (st 1 true a3 t15_9)) fun _ =>
 M.pure (.tup []))
 (M.pure (.tup [])))) := by
 rw [CD, callDW_eq]; kernel_rfl
noncomputable def p_entry_list_int_1111 (v2 v6 v8 : PV) : M PV := atP P X k_entry_list_int [1, 1, 1, 1] (mkEnv 32 0 [(2, v2), (6, v6), (8, v8)])
noncomputable def p_entry_list_int_11111010 (v2 v6 v9 v22 v23 : PV) : M PV := atP P X k_entry_list_int [1, 1, 1, 1, 1, 0, 1, 0] (mkEnv 32 0 [(2, v2), (6, v6), (9, v9), (22, v22), (23, v23)])
theorem p_entry_list_int_1111_eq (v2 v6 v8 : PV) : p_entry_list_int_1111 v2 v6 v8 =
 p_entry_list_int_11111010 v2 v6 (.slice false true 0 []) (strip v8) (.int .u32 0) :=
 (atP_step P X _ _ _).trans (by kernel_rfl)
theorem p_entry_list_int_11111010_eq (v2 v6 v9 v22 v23 : PV) : p_entry_list_int_11111010 v2 v6 v9 v22 v23 =
 M.bind (bi .lss .none v23 v22) fun t24_0 =>
 condM t24_0
 (M.bind (callV P C (strip v2) []) fun t27_1 =>
 M.bind (bs true none [t27_1]) fun t28_2 =>
 M.bind (ap true 1 8 v9 t28_2) fun t29_3 =>
 M.bind (bi .add .none v23 (.int .u32 1)) fun t30_4 =>
 p_entry_list_int_11111010 v2 v6 t29_3 v22 (strip t30_4))
 (resT v9 (M.pure v9)) :=
 (atP_step P X _ _ _).trans (by kernel_rfl)
/-- ratchet/entry.list[int] -/
theorem entry_list_int_eq (a0 a1 a2 : PV) : C k_entry_list_int [a0, a1, a2] =
 trunc (M.bind (nc P (strip a0)) fun t11_0 =>
 M.bind (fa 1 t11_0) fun t12_1 =>
 M.bind (ld none true t12_1) fun t13_2 =>
 M.bind (C k_entry_cursor_u32 [(strip (strip a0))]) fun t15_3 =>
 M.bind (bi .gtr .none (strip t15_3) (strip a1)) fun t18_4 =>
 condM t18_4
 (M.bind (C k_entry_cursor_fail [(strip (strip a0)), (strip (strip t13_2)), (.int .i64 2)]) fun t21_5 =>
 p_entry_list_int_1111 a2 (.slice false true 0 []) t15_3)
 (p_entry_list_int_1111 a2 (.slice false true 0 []) t15_3)) := by
 rw [C, callW_eq _ _ rfl]; kernel_rfl
noncomputable def p_entry_cursor_index_1111 (v2 v4 : PV) : M PV := atP P X k_entry_cursor_index [1, 1, 1, 1] (mkEnv 18 0 [(2, v2), (4, v4)])
theorem p_entry_cursor_index_1111_eq (v2 v4 : PV) : p_entry_cursor_index_1111 v2 v4 =
 M.bind (cv (.int .i64) true (strip v4)) fun t17_0 =>
 resT t17_0 (M.pure t17_0) :=
 (atP_step P X _ _ _).trans (by kernel_rfl)
/-- (*ratchet/entry.cursor).index -/
theorem entry_cursor_index_eq (a0 : PV) : C k_entry_cursor_index [a0] =
 trunc (M.bind (nc P (strip a0)) fun t6_0 =>
 M.bind (fa 1 t6_0) fun t7_1 =>
 M.bind (ld none true t7_1) fun t8_2 =>
 M.bind (C k_entry_cursor_u32 [(strip (strip a0))]) fun t10_3 =>
 M.bind (bi .gtr .none (strip t10_3) (.int .u32 2147483647)) fun t12_4 =>
 condM t12_4
 (M.bind (C k_entry_cursor_fail [(strip (strip a0)), (strip (strip t8_2)), (.int .i64 2)]) fun t15_5 =>
 p_entry_cursor_index_1111 (.int .i64 0) t10_3)
 (p_entry_cursor_index_1111 (.int .i64 0) t10_3)) := by
 rw [C, callW_eq _ _ rfl]; kernel_rfl
/-- (*ratchet/ratchetref08.reading).typeAt -/
theorem ratchetref08_reading_typeAt_eq (a0 : PV) : C k_ratchetref08_reading_typeAt [a0] =
 trunc (M.bind (nc P (strip a0)) fun t6_0 =>
 M.bind (fa 1 t6_0) fun t7_1 =>
 M.bind (ld none true t7_1) fun t8_2 =>
 M.bind (C k_ratchetref08_reading_number [(strip (strip a0)), (.int .i64 32), (.bool false)]) fun t10_3 =>
 M.bind (nc P (strip a0)) fun t12_4 =>
 M.bind (fa 3 t12_4) fun t13_5 =>
 M.bind (ld none false t13_5) fun t14_6 =>
 M.bind (bi .eql .none t14_6 (.int .i64 0)) fun t15_7 =>
 M.bind (gd (strip t15_7) true (M.pure (strip t10_3))) fun t17_8 =>
 M.bind (gd (strip t15_7) true (bi .geq .none t17_8 (.int .u64 2147483648))) fun t18_9 =>
 M.bind (pick (strip t15_7) t18_9 (.bool false)) fun t19_10 =>
 condM t19_10
 (M.bind (C k_ratchetref08_reading_fail [(strip (strip a0)), (strip (strip t8_2)), (.int .i64 2)]) fun t22_11 =>
 M.pure (.int .i64 0))
 (M.bind (cv (.int .i64) true (strip t10_3)) fun t24_12 =>
 resT t24_12 (M.pure t24_12))) := by
 rw [C, callW_eq _ _ rfl]; kernel_rfl
theorem entry_read_api_RecType_1_deq (a0 a1 a2 a3 : PV) : CD none k_entry_read_api_RecType_1 [a0, a1, a2, a3] =
 noPan (trunc (M.bind (M.pure .niliface) fun t6_0 =>
 M.bind (bi .neq .iface (strip t6_0) .niliface) fun t8_1 =>
 condM t8_1
 (M.bind (ta y_entry_fault (.agg [(.int .i64 0), (.int .i64 0)]) false (strip t6_0)) fun t10_2 =>
 M.bind (al [(.int .i64 0), (.int .i64 0)]) fun t5_3 =>
 M.bind (st 2 true t5_3 t10_2) fun _ =>
 nb (ld (some 2) true a0) fun t11_5 =>
 nb (fa 0 t5_3) fun t12_6 =>
 guardM (!clash (tld t12_6) (tld a0) && true) <| nb (ld none true t12_6) fun t13_7 =>
 nb (fa 1 t5_3) fun t14_8 =>
 guardM (!clash (tld t14_8) (tld t12_6) && (!clash (tld t14_8) (.no) && (!clash (tld t14_8) (tld a0) && true))) <| nb (ld none true t14_8) fun t15_9 =>
 guardM (!clash (tst a1) (tld t14_8) && (!clash (tst a1) (.no) && (!clash (tst a1) (tld t12_6) && (!clash (tst a1) (.no) && true)))) <| M.bind (noPan (st 2 true a1 t11_5)) fun _ =>
 guardM (!clash (tst a2) (tld t14_8) && (!clash (tst a2) (.no) && true)) <| M.bind (noPan (st 1 true a2 t13_7)) fun _ =>
 M.bind (noPan (st 1 true a3 t15_9)) fun _ =>
 M.pure (.tup []))
 (M.pure (.tup [])))) := by
 rw [CD, callDW_eq]; kernel_rfl
theorem entry_read_api_RecType_1_req (r : PV) (a0 a1 a2 a3 : PV) : CD (some r) k_entry_read_api_RecType_1 [a0, a1, a2, a3] =
 noPan (trunc (M.bind (M.pure r) fun t6_0 =>
 M.bind (bi .neq .iface (strip t6_0) .niliface) fun t8_1 =>
 condM t8_1
 (M.bind (ta y_entry_fault (.agg [(.int .i64 0), (.int .i64 0)]) false (strip t6_0)) fun t10_2 =>
 M.bind (al [(.int .i64 0), (.int .i64 0)]) fun t5_3 =>
 M.bind (st 2 true t5_3 t10_2) fun _ =>
 nb (ld (some 2) true a0) fun t11_5 =>
 nb (fa 0 t5_3) fun t12_6 =>
 guardM (!clash (tld t12_6) (tld a0) && true) <| nb (ld none true t12_6) fun t13_7 =>
 nb (fa 1 t5_3) fun t14_8 =>
 guardM (!clash (tld t14_8) (tld t12_6) && (!clash (tld t14_8) (.no) && (!clash (tld t14_8) (tld a0) && true))) <| nb (ld none true t14_8) fun t15_9 =>
 guardM (!clash (tst a1) (tld t14_8) && (!clash (tst a1) (.no) && (!clash (tst a1) (tld t12_6) && (!clash (tst a1) (.no) && true)))) <| M.bind (noPan (st 2 true a1 t11_5)) fun _ =>
 guardM (!clash (tst a2) (tld t14_8) && (!clash (tst a2) (.no) && true)) <| M.bind (noPan (st 1 true a2 t13_7)) fun _ =>
 M.bind (noPan (st 1 true a3 t15_9)) fun _ =>
 M.pure (.tup []))
 (M.pure (.tup [])))) := by
 rw [CD, callDW_eq]; kernel_rfl
noncomputable def p_entry_list_api_SubType_1111 (v2 v6 v8 : PV) : M PV := atP P X k_entry_list_api_SubType [1, 1, 1, 1] (mkEnv 32 0 [(2, v2), (6, v6), (8, v8)])
noncomputable def p_entry_list_api_SubType_11111010 (v2 v6 v9 v22 v23 : PV) : M PV := atP P X k_entry_list_api_SubType [1, 1, 1, 1, 1, 0, 1, 0] (mkEnv 32 0 [(2, v2), (6, v6), (9, v9), (22, v22), (23, v23)])
theorem p_entry_list_api_SubType_1111_eq (v2 v6 v8 : PV) : p_entry_list_api_SubType_1111 v2 v6 v8 =
 p_entry_list_api_SubType_11111010 v2 v6 (.slice false true 0 []) (strip v8) (.int .u32 0) :=
 (atP_step P X _ _ _).trans (by kernel_rfl)
theorem p_entry_list_api_SubType_11111010_eq (v2 v6 v9 v22 v23 : PV) : p_entry_list_api_SubType_11111010 v2 v6 v9 v22 v23 =
 M.bind (bi .lss .none v23 v22) fun t24_0 =>
 condM t24_0
 (M.bind (callV P C (strip v2) []) fun t27_1 =>
 M.bind (bs true (some 6) [t27_1]) fun t28_2 =>
 M.bind (ap true 6 112 v9 t28_2) fun t29_3 =>
 M.bind (bi .add .none v23 (.int .u32 1)) fun t30_4 =>
 p_entry_list_api_SubType_11111010 v2 v6 t29_3 v22 (strip t30_4))
 (resT v9 (M.pure v9)) :=
 (atP_step P X _ _ _).trans (by kernel_rfl)
/-- ratchet/entry.list[ratchet/api.SubType] -/
theorem entry_list_api_SubType_eq (a0 a1 a2 : PV) : C k_entry_list_api_SubType [a0, a1, a2] =
 trunc (M.bind (nc P (strip a0)) fun t11_0 =>
 M.bind (fa 1 t11_0) fun t12_1 =>
 M.bind (ld none true t12_1) fun t13_2 =>
 M.bind (C k_entry_cursor_u32 [(strip (strip a0))]) fun t15_3 =>
 M.bind (bi .gtr .none (strip t15_3) (strip a1)) fun t18_4 =>
 condM t18_4
 (M.bind (C k_entry_cursor_fail [(strip (strip a0)), (strip (strip t13_2)), (.int .i64 2)]) fun t21_5 =>
 p_entry_list_api_SubType_1111 a2 (.slice false true 0 []) t15_3)
 (p_entry_list_api_SubType_1111 a2 (.slice false true 0 []) t15_3)) := by
 rw [C, callW_eq _ _ rfl]; kernel_rfl
/-- (*ratchet/entry.pen).vals -/
theorem entry_pen_vals_eq (a0 a1 : PV) : C k_entry_pen_vals [a0, a1] =
 trunc (M.bind (mf k_entry_pen_val [(strip a0)] []) fun t7_0 =>
 M.bind (C k_entry_each_api_ValType [(strip (strip a0)), (strip (strip a1)), (.int .i64 1000), (strip t7_0)]) fun t8_1 =>
 M.pure (.tup [])) := by
 rw [C, callW_eq _ _ rfl]; kernel_rfl
noncomputable def p_entry_each_api_Field_1 (v0 v1 v3 : PV) : M PV := atP P X k_entry_each_api_Field [1] (mkEnv 31 0 [(0, v0), (1, v1), (3, v3)])
noncomputable def p_entry_each_api_Field_1110 (v3 v21 v22 v23 : PV) : M PV := atP P X k_entry_each_api_Field [1, 1, 1, 0] (mkEnv 31 0 [(3, v3), (21, v21), (22, v22), (23, v23)])
theorem p_entry_each_api_Field_1_eq (v0 v1 v3 : PV) : p_entry_each_api_Field_1 v0 v1 v3 =
 M.bind (lnL (strip v1)) fun t18_0 =>
 M.bind (cv (.int .u64) true t18_0) fun t19_1 =>
 M.bind (C k_entry_pen_u [(strip (strip v0)), (strip t19_1)]) fun t20_2 =>
 M.bind (lnL (strip v1)) fun t22_3 =>
 p_entry_each_api_Field_1110 v3 (strip v1) t22_3 (.int .i64 0) :=
 (atP_step P X _ _ _).trans (by kernel_rfl)
theorem p_entry_each_api_Field_1110_eq (v3 v21 v22 v23 : PV) : p_entry_each_api_Field_1110 v3 v21 v22 v23 =
 M.bind (bi .lss .none v23 v22) fun t24_0 =>
 condM t24_0
 (M.bind (iaS 4 v21 v23) fun t25_1 =>
 M.bind (ld (some 4) true t25_1) fun t26_2 =>
 M.bind (al [(.int .i64 0), (.bool false), (.int .i64 0), (.bool false)]) fun t9_3 =>
 M.bind (st 4 true t9_3 t26_2) fun _ =>
 M.bind (ld (some 4) false t9_3) fun t28_5 =>
 M.bind (callV P C (strip v3) [(strip t28_5)]) fun t29_6 =>
 M.bind (bi .add .none v23 (.int .i64 1)) fun t30_7 =>
 p_entry_each_api_Field_1110 v3 v21 v22 (strip t30_7))
 (M.pure (.tup [])) :=
 (atP_step P X _ _ _).trans (by kernel_rfl)
/-- ratchet/entry.each[ratchet/api.Field] -/
theorem entry_each_api_Field_eq (a0 a1 a2 a3 : PV) : C k_entry_each_api_Field [a0, a1, a2, a3] =
 trunc (M.bind (lnL (strip a1)) fun t11_0 =>
 M.bind (bi .gtr .none t11_0 (strip a2)) fun t13_1 =>
 condM t13_1
 (M.bind (bd [(.int .i64 0), (.int .i64 0)] [(0, 1, (.int .i64 0)), (1, 1, (.int .i64 2))]) fun t14_2 =>
 M.bind (mi y_entry_fault t14_2) fun t15_3 =>
 M.bind (pn t15_3) fun _ =>
 p_entry_each_api_Field_1 a0 a1 a3)
 (p_entry_each_api_Field_1 a0 a1 a3)) := by
 rw [C, callW_eq _ _ rfl]; kernel_rfl
noncomputable def p_entry_pen_field_11 (v0 v3 : PV) : M PV := atP P X k_entry_pen_field [1, 1] (mkEnv 24 0 [(0, v0), (3, v3)])
theorem p_entry_pen_field_11_eq (v0 v3 : PV) : p_entry_pen_field_11 v0 v3 =
 M.bind (fa 3 v3) fun t21_0 =>
 M.bind (ld none false t21_0) fun t22_1 =>
 M.bind (C k_entry_pen_flag [(strip (strip v0)), (strip t22_1)]) fun t23_2 =>
 M.pure (.tup []) :=
 (atP_step P X _ _ _).trans (by kernel_rfl)
/-- (*ratchet/entry.pen).field -/
theorem entry_pen_field_eq (a0 a1 : PV) : C k_entry_pen_field [a0, a1] =
 trunc (M.bind (bx 4 a1) fun t3_0 =>
 M.bind (fa 0 t3_0) fun t4_1 =>
 M.bind (ld (some 3) false t4_1) fun t5_2 =>
 M.bind (bd [(.int .i64 0), (.bool false), (.int .i64 0)] [(0, 1, (.int .i64 6))]) fun t11_3 =>
 M.bind (bi .eql (.struct [.int, .bool, .int]) t5_2 t11_3) fun t12_4 =>
 condM t12_4
 (M.bind (C k_entry_pen_byte [(strip (strip a0)), (.int .u8 120)]) fun t14_5 =>
 p_entry_pen_field_11 a0 t3_0)
 (M.bind (bd [(.int .i64 0), (.bool false), (.int .i64 0)] [(0, 1, (.int .i64 7))]) fun t16_6 =>
 M.bind (bi .eql (.struct [.int, .bool, .int]) t5_2 t16_6) fun t17_7 =>
 condM t17_7
 (M.bind (C k_entry_pen_byte [(strip (strip a0)), (.int .u8 119)]) fun t19_8 =>
 p_entry_pen_field_11 a0 t3_0)
 (M.bind (fa 0 t3_0) fun t7_9 =>
 M.bind (ld (some 3) false t7_9) fun t8_10 =>
 M.bind (C k_entry_pen_val [(strip (strip a0)), (strip t8_10)]) fun t9_11 =>
 p_entry_pen_field_11 a0 t3_0))) := by
 rw [C, callW_eq _ _ rfl]; kernel_rfl
noncomputable def p_leb_PutU_1100 (v0 v2 v3 : PV) : M PV := atP P X k_leb_PutU [1, 1, 0, 0] (mkEnv 19 0 [(0, v0), (2, v2), (3, v3)])
theorem p_leb_PutU_1100_eq (v0 v2 v3 : PV) : p_leb_PutU_1100 v0 v2 v3 =
 M.bind (bi .gtr .none (strip v0) (.int .u64 127)) fun t5_0 =>
 condM t5_0
 (M.bind (cv (.int .u8) true (strip v0)) fun t10_1 =>
 M.bind (bi .or .none t10_1 (.int .u8 128)) fun t11_2 =>
 M.bind (bs true none [t11_2]) fun t12_3 =>
 M.bind (ap true 1 1 v3 t12_3) fun t13_4 =>
 M.bind (bi .shr .none (strip v0) (.int .u64 7)) fun t7_5 =>
 p_leb_PutU_1100 t7_5 v2 t13_4)
 (M.bind (cv (.int .u8) true (strip v0)) fun t16_6 =>
 M.bind (bs true none [t16_6]) fun t17_7 =>
 M.bind (ap true 1 1 v3 t17_7) fun t18_8 =>
 resT t18_8 (M.pure t18_8)) :=
 (atP_step P X _ _ _).trans (by kernel_rfl)
/-- ratchet/leb.PutU -/
theorem leb_PutU_eq (a0 : PV) : C k_leb_PutU [a0] =
 trunc (p_leb_PutU_1100 a0 (.slice false true 0 []) (.slice false true 0 [])) := by
 rw [C, callW_eq _ _ rfl]; kernel_rfl
noncomputable def p_ratchetref01_PutU_1100 (v0 v2 v3 : PV) : M PV := atP P X k_ratchetref01_PutU [1, 1, 0, 0] (mkEnv 20 0 [(0, v0), (2, v2), (3, v3)])
theorem p_ratchetref01_PutU_1100_eq (v0 v2 v3 : PV) : p_ratchetref01_PutU_1100 v0 v2 v3 =
 M.bind (bi .geq .none (strip v0) (.int .u64 128)) fun t5_0 =>
 condM t5_0
 (M.bind (bi .rem .none (strip v0) (.int .u64 128)) fun t8_1 =>
 M.bind (cv (.int .u8) true t8_1) fun t9_2 =>
 M.bind (bi .add .none t9_2 (.int .u8 128)) fun t10_3 =>
 M.bind (bs true none [t10_3]) fun t11_4 =>
 M.bind (ap true 1 1 v3 t11_4) fun t12_5 =>
 M.bind (bi .quo .none (strip v0) (.int .u64 128)) fun t14_6 =>
 p_ratchetref01_PutU_1100 t14_6 v2 t12_5)
 (M.bind (cv (.int .u8) true (strip v0)) fun t17_7 =>
 M.bind (bs true none [t17_7]) fun t18_8 =>
 M.bind (ap true 1 1 v3 t18_8) fun t19_9 =>
 resT t19_9 (M.pure t19_9)) :=
 (atP_step P X _ _ _).trans (by kernel_rfl)
/-- ratchet/ratchetref01.PutU -/
theorem ratchetref01_PutU_eq (a0 : PV) : C k_ratchetref01_PutU [a0] =
 trunc (p_ratchetref01_PutU_1100 a0 (.slice false true 0 []) (.slice false true 0 [])) := by
 rw [C, callW_eq _ _ rfl]; kernel_rfl
noncomputable def p_ratchetref08_writing_vals_110 (v0 v1 v4 : PV) : M PV := atP P X k_ratchetref08_writing_vals [1, 1, 0] (mkEnv 21 0 [(0, v0), (1, v1), (4, v4)])
theorem p_ratchetref08_writing_vals_110_eq (v0 v1 v4 : PV) : p_ratchetref08_writing_vals_110 v0 v1 v4 =
 M.bind (lnL (strip v1)) fun t11_0 =>
 M.bind (bi .lss .none (strip v4) t11_0) fun t12_1 =>
 condM t12_1
 (M.bind (iaS 3 (strip v1) (strip v4)) fun t18_2 =>
 M.bind (ld (some 3) false t18_2) fun t19_3 =>
 M.bind (C k_ratchetref08_writing_val [(strip (strip v0)), (strip t19_3), (.bool false)]) fun t20_4 =>
 M.bind (bi .add .none (strip v4) (.int .i64 1)) fun t14_5 =>
 p_ratchetref08_writing_vals_110 v0 v1 t14_5)
 (M.pure (.tup [])) :=
 (atP_step P X _ _ _).trans (by kernel_rfl)
/-- (*ratchet/ratchetref08.writing).vals -/
theorem ratchetref08_writing_vals_eq (a0 a1 : PV) : C k_ratchetref08_writing_vals [a0, a1] =
 trunc (M.bind (lnL (strip a1)) fun t7_0 =>
 M.bind (C k_ratchetref08_writing_many [(strip (strip a0)), (strip t7_0), (.int .i64 1000)]) fun t8_1 =>
 p_ratchetref08_writing_vals_110 a0 a1 (.int .i64 0)) := by
 rw [C, callW_eq _ _ rfl]; kernel_rfl
/-- (*ratchet/ratchetref08.writing).field -/
theorem ratchetref08_writing_field_eq (a0 a1 : PV) : C k_ratchetref08_writing_field [a0, a1] =
 trunc (M.bind (bx 4 a1) fun t3_0 =>
 M.bind (fa 0 t3_0) fun t5_1 =>
 M.bind (ld (some 3) false t5_1) fun t6_2 =>
 M.bind (C k_ratchetref08_writing_val [(strip (strip a0)), (strip t6_2), (.bool true)]) fun t7_3 =>
 M.bind (fa 3 t3_0) fun t9_4 =>
 M.bind (ld none false t9_4) fun t10_5 =>
 M.bind (C k_ratchetref08_writing_flag [(strip (strip a0)), (strip t10_5)]) fun t11_6 =>
 M.pure (.tup [])) := by
 rw [C, callW_eq _ _ rfl]; kernel_rfl
/-- ratchet/leb.S33 -/
theorem leb_S33_eq (a0 a1 a2 : PV) : C k_leb_S33 [a0, a1, a2] =
 trunc (M.bind (C k_leb_number_int64_int64 [(strip (strip a0)), (strip (strip a1)), (strip (strip a2)), (.fn k_leb_s33 [] [])]) fun t12_0 =>
 M.bind (ex 0 t12_0) fun t13_1 =>
 M.bind (ex 1 (tupDrop 0 t12_0)) fun t14_2 =>
 M.bind (ex 2 (tupDrop 1 (tupDrop 0 t12_0))) fun t15_3 =>
 resT t13_1 (resT t14_2 (resT t15_3 (M.pure (.tup [t13_1, t14_2, t15_3]))))) := by
 rw [C, callW_eq _ _ rfl]; kernel_rfl
noncomputable def p_entry_got_int64_11 (v0 v1 v2 v8 : PV) : M PV := atP P X k_entry_got_int64 [1, 1] (mkEnv 20 0 [(0, v0), (1, v1), (2, v2), (8, v8)])
theorem p_entry_got_int64_11_eq (v0 v1 v2 v8 : PV) : p_entry_got_int64_11 v0 v1 v2 v8 =
 M.bind (nc P (strip v0)) fun t17_0 =>
 M.bind (fa 1 t17_0) fun t18_1 =>
 M.bind (st 1 true t18_1 v2) fun _ =>
 resT v1 (M.pure v1) :=
 (atP_step P X _ _ _).trans (by kernel_rfl)
/-- ratchet/entry.got[int64] -/
theorem entry_got_int64_eq (a0 a1 a2 a3 : PV) : C k_entry_got_int64 [a0, a1, a2, a3] =
 trunc (M.bind (bi .neq .none (strip a3) (.int .i64 0)) fun t10_0 =>
 condM t10_0
 (M.bind (C k_entry_cursor_fail [(strip (strip a0)), (strip (strip a2)), (strip (strip a3))]) fun t14_1 =>
 p_entry_got_int64_11 a0 a1 a2 (.int .i64 0))
 (p_entry_got_int64_11 a0 a1 a2 (.int .i64 0))) := by
 rw [C, callW_eq _ _ rfl]; kernel_rfl
noncomputable def p_ratchetref01_Number_1111010 (v0 v1 v2 v3 v4 v10 v11 v12 v13 v14 v15 : PV) : M PV := atP P X k_ratchetref01_Number [1, 1, 1, 1, 0, 1, 0] (mkEnv 91 0 [(0, v0), (1, v1), (2, v2), (3, v3), (4, v4), (10, v10), (11, v11), (12, v12), (13, v13), (14, v14), (15, v15)])
noncomputable def p_ratchetref01_Number_111101001001111101 (v0 v1 v2 v3 v4 v10 v11 v12 v13 v14 v15 : PV) : M PV := atP P X k_ratchetref01_Number [1, 1, 1, 1, 0, 1, 0, 0, 1, 0, 0, 1, 1, 1, 1, 1, 0, 1] (mkEnv 91 0 [(0, v0), (1, v1), (2, v2), (3, v3), (4, v4), (10, v10), (11, v11), (12, v12), (13, v13), (14, v14), (15, v15)])
theorem p_ratchetref01_Number_1111010_eq (v0 v1 v2 v3 v4 v10 v11 v12 v13 v14 v15 : PV) : p_ratchetref01_Number_1111010 v0 v1 v2 v3 v4 v10 v11 v12 v13 v14 v15 =
 M.bind (bi .lss .none (strip v15) (strip v13)) fun t27_0 =>
 condM t27_0
 (M.bind (bi .add .none (strip v1) (strip v15)) fun t32_1 =>
 M.bind (bi .geq .none t32_1 (strip v2)) fun t34_2 =>
 condM t34_2
 (resT v2 (M.pure (.tup [(.int .u64 0), v2, (.int .i64 3)])))
 (M.bind (bi .add .none (strip v1) (strip v15)) fun t39_3 =>
 M.bind (iaS 1 (strip v0) t39_3) fun t40_4 =>
 M.bind (ld none true t40_4) fun t41_5 =>
 M.bind (bi .sub .none (strip v13) (.int .i64 1)) fun t44_6 =>
 M.bind (bi .eql .none (strip v15) t44_6) fun t45_7 =>
 M.bind (gd (strip t45_7) true (M.pure (strip t41_5))) fun t47_8 =>
 M.bind (gd (strip t45_7) true (M.pure (strip v3))) fun t48_9 =>
 M.bind (gd (strip t45_7) true (M.pure (strip v15))) fun t49_10 =>
 M.bind (gd (strip t45_7) true (M.pure (strip v4))) fun t50_11 =>
 M.bind (gd (strip t45_7) true (C k_ratchetref01_last [(strip t47_8), (strip t48_9), (strip t49_10), (strip t50_11)])) fun t51_12 =>
 M.bind (gd (strip t45_7) true (un .not t51_12)) fun t52_13 =>
 M.bind (pick (strip t45_7) t52_13 (.bool false)) fun t53_14 =>
 condM t53_14
 (M.bind (bi .add .none (strip v1) (strip v15)) fun t56_15 =>
 resT t56_15 (M.pure (.tup [(.int .u64 0), t56_15, (.int .i64 4)])))
 (M.bind (bi .rem .none (strip t41_5) (.int .u8 128)) fun t59_16 =>
 M.bind (cv (.int .u64) true t59_16) fun t60_17 =>
 M.bind (bi .mul .none (.int .i64 7) (strip v15)) fun t62_18 =>
 M.bind (cv (.int .u64) true t62_18) fun t63_19 =>
 M.bind (bi .shl .none t60_17 t63_19) fun t64_20 =>
 M.bind (bi .add .none (strip v14) t64_20) fun t65_21 =>
 M.bind (bi .lss .none (strip t41_5) (.int .u8 128)) fun t67_22 =>
 condM t67_22
 (M.bind (gd (strip (strip v4)) true (M.pure (strip t41_5))) fun t70_23 =>
 M.bind (gd (strip (strip v4)) true (bi .geq .none t70_23 (.int .u8 64))) fun t71_24 =>
 M.bind (pick (strip (strip v4)) t71_24 (.bool false)) fun t72_25 =>
 M.bind (gd (strip t72_25) true (M.pure (strip v15))) fun t74_26 =>
 M.bind (gd (strip t72_25) true (bi .mul .none (.int .i64 7) t74_26)) fun t75_27 =>
 M.bind (gd (strip t72_25) true (bi .add .none t75_27 (.int .i64 7))) fun t76_28 =>
 M.bind (gd (strip t72_25) true (bi .lss .none t76_28 (.int .i64 64))) fun t77_29 =>
 M.bind (pick (strip t72_25) t77_29 (.bool false)) fun t78_30 =>
 condM t78_30
 (M.bind (bi .mul .none (.int .i64 7) (strip v15)) fun t81_31 =>
 M.bind (bi .add .none t81_31 (.int .i64 7)) fun t82_32 =>
 M.bind (cv (.int .u64) true t82_32) fun t83_33 =>
 M.bind (bi .shl .none (.int .u64 1) t83_33) fun t84_34 =>
 M.bind (bi .sub .none (strip t65_21) t84_34) fun t85_35 =>
 p_ratchetref01_Number_111101001001111101 v0 v1 v2 v3 v4 v10 v11 v12 v13 t85_35 v15)
 (p_ratchetref01_Number_111101001001111101 v0 v1 v2 v3 v4 v10 v11 v12 v13 t65_21 v15))
 (M.bind (bi .add .none (strip v15) (.int .i64 1)) fun t29_36 =>
 p_ratchetref01_Number_1111010 v0 v1 v2 v3 v4 v10 v11 v12 v13 t65_21 t29_36))))
 (M.pure (.tup [(.int .u64 0), (.int .i64 0), (.int .i64 4)])) :=
 (atP_step P X _ _ _).trans (by kernel_rfl)
theorem p_ratchetref01_Number_111101001001111101_eq (v0 v1 v2 v3 v4 v10 v11 v12 v13 v14 v15 : PV) : p_ratchetref01_Number_111101001001111101 v0 v1 v2 v3 v4 v10 v11 v12 v13 v14 v15 =
 M.bind (bi .add .none (strip v1) (strip v15)) fun t89_0 =>
 M.bind (bi .add .none t89_0 (.int .i64 1)) fun t90_1 =>
 resT v14 (resT t90_1 (M.pure (.tup [v14, t90_1, (.int .i64 0)]))) :=
 (atP_step P X _ _ _).trans (by kernel_rfl)
/-- ratchet/ratchetref01.Number -/
theorem ratchetref01_Number_eq (a0 a1 a2 a3 a4 : PV) : C k_ratchetref01_Number [a0, a1, a2, a3, a4] =
 trunc (M.bind (C k_ratchetref01_reads [(strip (strip a0)), (strip (strip a1)), (strip (strip a2))]) fun t20_0 =>
 M.bind (un .not t20_0) fun t21_1 =>
 condM t21_1
 (M.pure (.tup [(.int .u64 0), (.int .i64 0), (.int .i64 1)]))
 (M.bind (bi .add .none (strip a3) (.int .i64 6)) fun t23_2 =>
 M.bind (bi .quo .none t23_2 (.int .i64 7)) fun t24_3 =>
 p_ratchetref01_Number_1111010 a0 a1 a2 a3 a4 (.int .u64 0) (.int .i64 0) (.int .i64 0) t24_3 (.int .u64 0) (.int .i64 0))) := by
 rw [C, callW_eq _ _ rfl]; kernel_rfl
/-- (*ratchet/entry.cursor).u32 -/
theorem entry_cursor_u32_eq (a0 : PV) : C k_entry_cursor_u32 [a0] =
 trunc (M.bind (noPan (M.pure (strip a0))) fun t7_21 =>
 M.bind (noPan (nc P t7_21)) fun t8_22 =>
 M.bind (noPan (fa 0 t8_22)) fun t9_23 =>
 M.bind (noPan (M.pure (strip a0))) fun t11_24 =>
 M.bind (noPan (nc P t11_24)) fun t12_25 =>
 M.bind (noPan (fa 1 t12_25)) fun t13_26 =>
 M.bind (noPan (M.pure (strip a0))) fun t15_27 =>
 M.bind (noPan (nc P t15_27)) fun t16_28 =>
 M.bind (noPan (fa 0 t16_28)) fun t17_29 =>
 M.bind (noPan (ld none false t9_23)) fun t10_30 =>
 M.bind (noPan (ld none false t13_26)) fun t14_31 =>
 M.bind (noPan (ld none false t17_29)) fun t18_32 =>
 M.bind (noPan (lnL t18_32)) fun t19_33 =>
 M.bind (noPan (C k_leb_U32 [(strip t10_30), (strip t14_31), (strip t19_33)])) fun t20_34 =>
 M.bind (noPan (M.pure (strip t20_34))) fun t6_35 =>
 M.bind (noPan (ex 0 t6_35)) fun t21_36 =>
 M.bind (noPan (ex 1 (tupDrop 0 t6_35))) fun t22_37 =>
 M.bind (noPan (ex 2 (tupDrop 1 (tupDrop 0 t6_35)))) fun t23_38 =>
 M.bind (noPan (M.pure t21_36)) fun t3_39 =>
 M.bind (noPan (M.pure t22_37)) fun t4_40 =>
 M.bind (noPan (M.pure t23_38)) fun t5_41 =>
 M.bind (C k_entry_got_uint32 [(strip (strip a0)), (strip (strip t3_39)), (strip (strip t4_40)), (strip (strip t5_41))]) fun t28_42 =>
 resT t28_42 (M.pure t28_42)) := by
 rw [C, callW_eq _ _ rfl]; kernel_rfl
noncomputable def p_entry_each_api_ValType_1 (v0 v1 v3 : PV) : M PV := atP P X k_entry_each_api_ValType [1] (mkEnv 31 0 [(0, v0), (1, v1), (3, v3)])
noncomputable def p_entry_each_api_ValType_1110 (v3 v21 v22 v23 : PV) : M PV := atP P X k_entry_each_api_ValType [1, 1, 1, 0] (mkEnv 31 0 [(3, v3), (21, v21), (22, v22), (23, v23)])
theorem p_entry_each_api_ValType_1_eq (v0 v1 v3 : PV) : p_entry_each_api_ValType_1 v0 v1 v3 =
 M.bind (lnL (strip v1)) fun t18_0 =>
 M.bind (cv (.int .u64) true t18_0) fun t19_1 =>
 M.bind (C k_entry_pen_u [(strip (strip v0)), (strip t19_1)]) fun t20_2 =>
 M.bind (lnL (strip v1)) fun t22_3 =>
 p_entry_each_api_ValType_1110 v3 (strip v1) t22_3 (.int .i64 0) :=
 (atP_step P X _ _ _).trans (by kernel_rfl)
theorem p_entry_each_api_ValType_1110_eq (v3 v21 v22 v23 : PV) : p_entry_each_api_ValType_1110 v3 v21 v22 v23 =
 M.bind (bi .lss .none v23 v22) fun t24_0 =>
 condM t24_0
 (M.bind (iaS 3 v21 v23) fun t25_1 =>
 M.bind (ld (some 3) true t25_1) fun t26_2 =>
 M.bind (al [(.int .i64 0), (.bool false), (.int .i64 0)]) fun t9_3 =>
 M.bind (st 3 true t9_3 t26_2) fun _ =>
 M.bind (ld (some 3) false t9_3) fun t28_5 =>
 M.bind (callV P C (strip v3) [(strip t28_5)]) fun t29_6 =>
 M.bind (bi .add .none v23 (.int .i64 1)) fun t30_7 =>
 p_entry_each_api_ValType_1110 v3 v21 v22 (strip t30_7))
 (M.pure (.tup [])) :=
 (atP_step P X _ _ _).trans (by kernel_rfl)
/-- ratchet/entry.each[ratchet/api.ValType] -/
theorem entry_each_api_ValType_eq (a0 a1 a2 a3 : PV) : C k_entry_each_api_ValType [a0, a1, a2, a3] =
 trunc (M.bind (lnL (strip a1)) fun t11_0 =>
 M.bind (bi .gtr .none t11_0 (strip a2)) fun t13_1 =>
 condM t13_1
 (M.bind (bd [(.int .i64 0), (.int .i64 0)] [(0, 1, (.int .i64 0)), (1, 1, (.int .i64 2))]) fun t14_2 =>
 M.bind (mi y_entry_fault t14_2) fun t15_3 =>
 M.bind (pn t15_3) fun _ =>
 p_entry_each_api_ValType_1 a0 a1 a3)
 (p_entry_each_api_ValType_1 a0 a1 a3)) := by
 rw [C, callW_eq _ _ rfl]; kernel_rfl
/-- (*ratchet/entry.pen).flag -/
theorem entry_pen_flag_eq (a0 a1 : PV) : C k_entry_pen_flag [a0, a1] =
 trunc (condM (strip a1)
 (M.bind (C k_entry_pen_byte [(strip (strip a0)), (.int .u8 1)]) fun t6_0 =>
 M.pure (.tup []))
 (M.bind (C k_entry_pen_byte [(strip (strip a0)), (.int .u8 0)]) fun t8_1 =>
 M.pure (.tup []))) := by
 rw [C, callW_eq _ _ rfl]; kernel_rfl
noncomputable def p_ratchetref08_writing_flag_11 (v0 v4 : PV) : M PV := atP P X k_ratchetref08_writing_flag [1, 1] (mkEnv 16 0 [(0, v0), (4, v4)])
theorem p_ratchetref08_writing_flag_11_eq (v0 v4 : PV) : p_ratchetref08_writing_flag_11 v0 v4 =
 M.bind (nc P (strip v0)) fun t8_0 =>
 M.bind (fa 0 t8_0) fun t9_1 =>
 M.bind (ld none true t9_1) fun t10_2 =>
 M.bind (bs true none [(strip v4)]) fun t12_3 =>
 M.bind (ap true 1 1 t10_2 t12_3) fun t13_4 =>
 M.bind (nc P (strip v0)) fun t14_5 =>
 M.bind (fa 0 t14_5) fun t15_6 =>
 M.bind (st 1 true t15_6 t13_4) fun _ =>
 M.pure (.tup []) :=
 (atP_step P X _ _ _).trans (by kernel_rfl)
/-- (*ratchet/ratchetref08.writing).flag -/
theorem ratchetref08_writing_flag_eq (a0 a1 : PV) : C k_ratchetref08_writing_flag [a0, a1] =
 trunc (condM (strip a1)
 (p_ratchetref08_writing_flag_11 a0 (.int .u8 1))
 (p_ratchetref08_writing_flag_11 a0 (.int .u8 0))) := by
 rw [C, callW_eq _ _ rfl]; kernel_rfl
/-- ratchet/leb.number[int64,int64] -/
theorem leb_number_int64_int64_eq (a0 a1 a2 a3 : PV) : C k_leb_number_int64_int64 [a0, a1, a2, a3] =
 trunc (M.bind (C k_leb_opened [(strip (strip a0)), (strip (strip a1)), (strip (strip a2))]) fun t19_0 =>
 M.bind (ex 0 (strip t19_0)) fun t20_1 =>
 M.bind (ex 1 (tupDrop 0 (strip t19_0))) fun t21_2 =>
 M.bind (al [(.slice false true 0 []), (.int .i64 0), (.int .i64 0)]) fun t11_3 =>
 M.bind (st 3 true t11_3 t20_1) fun _ =>
 M.bind (bi .neq .none (strip t21_2) (.int .i64 0)) fun t23_5 =>
 condM t23_5
 (resT t21_2 (M.pure (.tup [(.int .i64 0), (.int .i64 0), t21_2])))
 (M.bind (ld (some 3) false t11_3) fun t27_6 =>
 M.bind (callV P C (strip a3) [(strip t27_6)]) fun t28_7 =>
 M.bind (ex 0 (strip t28_7)) fun t29_8 =>
 M.bind (ex 1 (tupDrop 0 (strip t28_7))) fun t30_9 =>
 M.bind (ex 2 (tupDrop 1 (tupDrop 0 (strip t28_7)))) fun t31_10 =>
 resT t29_8 (resT t30_9 (resT t31_10 (M.pure (.tup [t29_8, t30_9, t31_10])))))) := by
 rw [C, callW_eq _ _ rfl]; kernel_rfl
/-- ratchet/leb.s33 -/
theorem leb_s33_eq (a0 : PV) : C k_leb_s33 [a0] =
 trunc (M.bind (bx 3 a0) fun t1_0 =>
 M.bind (ld (some 3) false t1_0) fun t5_1 =>
 M.bind (C k_leb_window_signed [(strip t5_1), (.int .i64 33)]) fun t6_2 =>
 M.bind (ex 0 t6_2) fun t7_3 =>
 M.bind (ex 1 (tupDrop 0 t6_2)) fun t8_4 =>
 M.bind (ex 2 (tupDrop 1 (tupDrop 0 t6_2))) fun t9_5 =>
 resT t7_3 (resT t8_4 (resT t9_5 (M.pure (.tup [t7_3, t8_4, t9_5]))))) := by
 rw [C, callW_eq _ _ rfl]; kernel_rfl
/-- ratchet/ratchetref01.reads -/
theorem ratchetref01_reads_eq (a0 a1 a2 : PV) : C k_ratchetref01_reads [a0, a1, a2] =
 trunc (M.bind (bi .geq .none (strip a1) (.int .i64 0)) fun t8_0 =>
 M.bind (gd (strip t8_0) true (M.pure (strip a2))) fun t10_1 =>
 M.bind (gd (strip t8_0) true (M.pure (strip a0))) fun t11_2 =>
 M.bind (gd (strip t8_0) true (lnL t11_2)) fun t12_3 =>
 M.bind (gd (strip t8_0) true (bi .leq .none t10_1 t12_3)) fun t13_4 =>
 M.bind (pick (strip t8_0) t13_4 (.bool false)) fun t14_5 =>
 M.bind (gd (strip t14_5) true (M.pure (strip a1))) fun t16_6 =>
 M.bind (gd (strip t14_5) true (M.pure (strip a2))) fun t17_7 =>
 M.bind (gd (strip t14_5) true (bi .leq .none t16_6 t17_7)) fun t18_8 =>
 M.bind (pick (strip t14_5) t18_8 (.bool false)) fun t19_9 =>
 resT t19_9 (M.pure t19_9)) := by
 rw [C, callW_eq _ _ rfl]; kernel_rfl
/-- ratchet/ratchetref01.last -/
theorem ratchetref01_last_eq (a0 a1 a2 a3 : PV) : C k_ratchetref01_last [a0, a1, a2, a3] =
 trunc (M.bind (bi .mul .none (.int .i64 7) (strip a2)) fun t13_0 =>
 M.bind (bi .sub .none (strip a1) t13_0) fun t14_1 =>
 M.bind (bi .geq .none (strip a0) (.int .u8 128)) fun t16_2 =>
 condM t16_2
 (M.pure (.bool false))
 (M.bind (cv (.int .i64) true (strip a0)) fun t18_3 =>
 M.bind (cv (.int .u64) true (strip t14_1)) fun t20_4 =>
 M.bind (bi .shr .none t18_3 t20_4) fun t21_5 =>
 M.bind (un .not (strip a3)) fun t23_6 =>
 condM t23_6
 (M.bind (bi .eql .none (strip t21_5) (.int .i64 0)) fun t25_7 =>
 resT t25_7 (M.pure t25_7))
 (M.bind (cv (.int .i64) true (strip a0)) fun t27_8 =>
 M.bind (bi .sub .none (strip t14_1) (.int .i64 1)) fun t29_9 =>
 M.bind (cv (.int .u64) true t29_9) fun t30_10 =>
 M.bind (bi .shr .none t27_8 t30_10) fun t31_11 =>
 M.bind (bi .eql .none (strip t31_11) (.int .i64 0)) fun t33_12 =>
 M.bind (gd (strip t33_12) false (M.pure (strip t31_11))) fun t35_13 =>
 M.bind (gd (strip t33_12) false (M.pure (strip t14_1))) fun t36_14 =>
 M.bind (gd (strip t33_12) false (bi .sub .none (.int .i64 8) t36_14)) fun t37_15 =>
 M.bind (gd (strip t33_12) false (cv (.int .u64) true t37_15)) fun t38_16 =>
 M.bind (gd (strip t33_12) false (bi .shl .none (.int .i64 1) t38_16)) fun t39_17 =>
 M.bind (gd (strip t33_12) false (bi .sub .none t39_17 (.int .i64 1))) fun t40_18 =>
 M.bind (gd (strip t33_12) false (bi .eql .none t35_13 t40_18)) fun t41_19 =>
 M.bind (pick (strip t33_12) (.bool true) t41_19) fun t42_20 =>
 resT t42_20 (M.pure t42_20)))) := by
 rw [C, callW_eq _ _ rfl]; kernel_rfl
/-- ratchet/leb.U32 -/
theorem leb_U32_eq (a0 a1 a2 : PV) : C k_leb_U32 [a0, a1, a2] =
 trunc (M.bind (C k_leb_number_uint32_uint64 [(strip (strip a0)), (strip (strip a1)), (strip (strip a2)), (.fn k_leb_u32 [] [])]) fun t12_0 =>
 M.bind (ex 0 t12_0) fun t13_1 =>
 M.bind (ex 1 (tupDrop 0 t12_0)) fun t14_2 =>
 M.bind (ex 2 (tupDrop 1 (tupDrop 0 t12_0))) fun t15_3 =>
 resT t13_1 (resT t14_2 (resT t15_3 (M.pure (.tup [t13_1, t14_2, t15_3]))))) := by
 rw [C, callW_eq _ _ rfl]; kernel_rfl
noncomputable def p_entry_got_uint32_11 (v0 v1 v2 v8 : PV) : M PV := atP P X k_entry_got_uint32 [1, 1] (mkEnv 20 0 [(0, v0), (1, v1), (2, v2), (8, v8)])
theorem p_entry_got_uint32_11_eq (v0 v1 v2 v8 : PV) : p_entry_got_uint32_11 v0 v1 v2 v8 =
 M.bind (nc P (strip v0)) fun t17_0 =>
 M.bind (fa 1 t17_0) fun t18_1 =>
 M.bind (st 1 true t18_1 v2) fun _ =>
 resT v1 (M.pure v1) :=
 (atP_step P X _ _ _).trans (by kernel_rfl)
/-- ratchet/entry.got[uint32] -/
theorem entry_got_uint32_eq (a0 a1 a2 a3 : PV) : C k_entry_got_uint32 [a0, a1, a2, a3] =
 trunc (M.bind (bi .neq .none (strip a3) (.int .i64 0)) fun t10_0 =>
 condM t10_0
 (M.bind (C k_entry_cursor_fail [(strip (strip a0)), (strip (strip a2)), (strip (strip a3))]) fun t14_1 =>
 p_entry_got_uint32_11 a0 a1 a2 (.int .u32 0))
 (p_entry_got_uint32_11 a0 a1 a2 (.int .u32 0))) := by
 rw [C, callW_eq _ _ rfl]; kernel_rfl
end Go.Proofs.Ytofbbijagbpicaa.Pi.Q
/- What the functions are, told. -/
namespace Go.Proofs.Ytofbbijagbpicaa.Pi.Q
open Go Go.Proofs.Ytofbbijagbpicaa.Pi
set_option linter.unusedVariables false
set_option maxRecDepth 100000
/-- ratchet/leb.opened -/
theorem leb_opened_eq (a0 a1 a2 : PV) : C k_leb_opened [a0, a1, a2] =
 trunc (M.bind (al [(.slice false true 0 []), (.int .i64 0), (.int .i64 0)]) fun t6_0 =>
 M.bind (bi .lss .none (strip a1) (.int .i64 0)) fun t9_1 =>
 M.bind (gd (strip t9_1) false (M.pure (strip a2))) fun t11_2 =>
 M.bind (gd (strip t9_1) false (M.pure (strip a0))) fun t12_3 =>
 M.bind (gd (strip t9_1) false (lnL t12_3)) fun t13_4 =>
 M.bind (gd (strip t9_1) false (bi .gtr .none t11_2 t13_4)) fun t14_5 =>
 M.bind (pick (strip t9_1) (.bool true) t14_5) fun t15_6 =>
 M.bind (gd (strip t15_6) false (M.pure (strip a1))) fun t17_7 =>
 M.bind (gd (strip t15_6) false (M.pure (strip a2))) fun t18_8 =>
 M.bind (gd (strip t15_6) false (bi .gtr .none t17_7 t18_8)) fun t19_9 =>
 M.bind (pick (strip t15_6) (.bool true) t19_9) fun t20_10 =>
 condM t20_10
 (M.bind (bd [(.slice false true 0 []), (.int .i64 0), (.int .i64 0)] []) fun t21_11 =>
 M.bind (st 3 true t6_0 t21_11) fun _ =>
 M.bind (ld (some 3) true t6_0) fun t0_13 => guardM (!isTup t0_13) (M.pure (.tup [t0_13, (.int .i64 1)])))
 (M.bind (bd [(.slice false true 0 []), (.int .i64 0), (.int .i64 0)] [(0, 1, (strip a0)), (1, 1, (strip a1)), (2, 1, (strip a2))]) fun t25_14 =>
 M.bind (st 3 true t6_0 t25_14) fun _ =>
 M.bind (ld (some 3) true t6_0) fun t0_16 => guardM (!isTup t0_16) (M.pure (.tup [t0_16, (.int .i64 0)])))) := by
 rw [C, callW_eq _ _ rfl]; kernel_rfl
noncomputable def p_leb_window_signed_1110 (v1 v2 v4 v5 v6 v7 v8 v9 : PV) : M PV := atP P X k_leb_window_signed [1, 1, 1, 0] (mkEnv 74 0 [(1, v1), (2, v2), (4, v4), (5, v5), (6, v6), (7, v7), (8, v8), (9, v9)])
noncomputable def p_leb_window_signed_1110000111 (v1 v2 v4 v5 v6 v7 v8 v9 v10 : PV) : M PV := atP P X k_leb_window_signed [1, 1, 1, 0, 0, 0, 0, 1, 1, 1] (mkEnv 74 0 [(1, v1), (2, v2), (4, v4), (5, v5), (6, v6), (7, v7), (8, v8), (9, v9), (10, v10)])
noncomputable def p_leb_window_signed_111000011111101 (v1 v2 v4 v5 v6 v7 v8 v9 : PV) : M PV := atP P X k_leb_window_signed [1, 1, 1, 0, 0, 0, 0, 1, 1, 1, 1, 1, 1, 0, 1] (mkEnv 74 0 [(1, v1), (2, v2), (4, v4), (5, v5), (6, v6), (7, v7), (8, v8), (9, v9)])
theorem p_leb_window_signed_1110_eq (v1 v2 v4 v5 v6 v7 v8 v9 : PV) : p_leb_window_signed_1110 v1 v2 v4 v5 v6 v7 v8 v9 =
 M.bind (fa 2 v2) fun t18_0 =>
 M.bind (ld none false t18_0) fun t19_1 =>
 M.bind (bi .geq .none (strip v9) t19_1) fun t20_2 =>
 condM t20_2
 (nb (fa 2 v2) fun t21_3 =>
 nb (ld none true t21_3) fun t22_4 =>
 resT t22_4 (M.pure (.tup [(.int .i64 0), t22_4, (.int .i64 3)])))
 (M.bind (fa 0 v2) fun t23_5 =>
 M.bind (ld none false t23_5) fun t24_6 =>
 M.bind (iaS 1 t24_6 (strip v9)) fun t26_7 =>
 M.bind (ld none true t26_7) fun t27_8 =>
 M.bind (bi .sub .none (strip v1) (strip v8)) fun t30_9 =>
 M.bind (bi .lss .none (strip t30_9) (.int .i64 7)) fun t32_10 =>
 condM t32_10
 (M.bind (bi .shl .none (strip t27_8) (.int .u64 1)) fun t34_11 =>
 M.bind (cv (.int .i8) true t34_11) fun t35_12 =>
 M.bind (bi .shr .none t35_12 (strip t30_9)) fun t37_13 =>
 M.bind (bi .geq .none (strip t27_8) (.int .u8 128)) fun t39_14 =>
 M.bind (gd (strip t39_14) false (M.pure (strip t37_13))) fun t41_15 =>
 M.bind (gd (strip t39_14) false (bi .neq .none t41_15 (.int .i8 0))) fun t42_16 =>
 M.bind (gd (strip t39_14) false (M.pure (strip t42_16))) fun t43_17 =>
 M.bind (gd t43_17 true (M.pure (strip t37_13))) fun t44_18 =>
 M.bind (gd t43_17 true (bi .neq .none t44_18 (.int .i8 (-1)))) fun t45_19 =>
 M.bind (gd (strip t39_14) false (pick t43_17 t45_19 (.bool false))) fun t46_20 =>
 M.bind (pick (strip t39_14) (.bool true) t46_20) fun t47_21 =>
 condM t47_21
 (resT v9 (M.pure (.tup [(.int .i64 0), v9, (.int .i64 4)])))
 (p_leb_window_signed_1110000111 v1 v2 v4 v5 v6 v7 v8 v9 t27_8))
 (p_leb_window_signed_1110000111 v1 v2 v4 v5 v6 v7 v8 v9 t27_8)) :=
 (atP_step P X _ _ _).trans (by kernel_rfl)
theorem p_leb_window_signed_1110000111_eq (v1 v2 v4 v5 v6 v7 v8 v9 v10 : PV) : p_leb_window_signed_1110000111 v1 v2 v4 v5 v6 v7 v8 v9 v10 =
 M.bind (bi .and .none (strip v10) (.int .u8 127)) fun t51_0 =>
 M.bind (cv (.int .i64) true t51_0) fun t52_1 =>
 M.bind (bi .shl .none t52_1 (strip v8)) fun t54_2 =>
 M.bind (bi .or .none (strip v7) t54_2) fun t55_3 =>
 M.bind (bi .add .none (strip v8) (.int .i64 7)) fun t57_4 =>
 M.bind (bi .lss .none (strip v10) (.int .u8 128)) fun t59_5 =>
 condM t59_5
 (M.bind (bi .and .none (strip v10) (.int .u8 64)) fun t61_6 =>
 M.bind (bi .neq .none t61_6 (.int .u8 0)) fun t62_7 =>
 M.bind (gd (strip t62_7) true (M.pure (strip t57_4))) fun t64_8 =>
 M.bind (gd (strip t62_7) true (bi .lss .none t64_8 (.int .i64 64))) fun t65_9 =>
 M.bind (pick (strip t62_7) t65_9 (.bool false)) fun t66_10 =>
 condM t66_10
 (M.bind (bi .shl .none (.int .i64 (-1)) (strip t57_4)) fun t69_11 =>
 M.bind (bi .or .none (strip t55_3) t69_11) fun t70_12 =>
 p_leb_window_signed_111000011111101 v1 v2 v4 v5 v6 t70_12 t57_4 v9)
 (p_leb_window_signed_111000011111101 v1 v2 v4 v5 v6 t55_3 t57_4 v9))
 (M.bind (bi .add .none (strip v9) (.int .i64 1)) fun t16_13 =>
 p_leb_window_signed_1110 v1 v2 v4 v5 v6 t55_3 t57_4 t16_13) :=
 (atP_step P X _ _ _).trans (by kernel_rfl)
theorem p_leb_window_signed_111000011111101_eq (v1 v2 v4 v5 v6 v7 v8 v9 : PV) : p_leb_window_signed_111000011111101 v1 v2 v4 v5 v6 v7 v8 v9 =
 M.bind (bi .add .none (strip v9) (.int .i64 1)) fun t73_0 =>
 resT v7 (resT t73_0 (M.pure (.tup [v7, t73_0, (.int .i64 0)]))) :=
 (atP_step P X _ _ _).trans (by kernel_rfl)
/-- (ratchet/leb.window).signed -/
theorem leb_window_signed_eq (a0 a1 : PV) : C k_leb_window_signed [a0, a1] =
 trunc (M.bind (bx 3 a0) fun t2_0 =>
 M.bind (fa 1 t2_0) fun t13_1 =>
 M.bind (ld none true t13_1) fun t14_2 =>
 p_leb_window_signed_1110 a1 t2_0 (.int .i64 0) (.int .i64 0) (.int .i64 0) (.int .i64 0) (.int .i64 0) t14_2) := by
 rw [C, callW_eq _ _ rfl]; kernel_rfl
/-- ratchet/leb.number[uint32,uint64] -/
theorem leb_number_uint32_uint64_eq (a0 a1 a2 a3 : PV) : C k_leb_number_uint32_uint64 [a0, a1, a2, a3] =
 trunc (M.bind (C k_leb_opened [(strip (strip a0)), (strip (strip a1)), (strip (strip a2))]) fun t19_0 =>
 M.bind (ex 0 (strip t19_0)) fun t20_1 =>
 M.bind (ex 1 (tupDrop 0 (strip t19_0))) fun t21_2 =>
 M.bind (al [(.slice false true 0 []), (.int .i64 0), (.int .i64 0)]) fun t11_3 =>
 M.bind (st 3 true t11_3 t20_1) fun _ =>
 M.bind (bi .neq .none (strip t21_2) (.int .i64 0)) fun t23_5 =>
 condM t23_5
 (resT t21_2 (M.pure (.tup [(.int .u32 0), (.int .i64 0), t21_2])))
 (M.bind (ld (some 3) false t11_3) fun t27_6 =>
 M.bind (callV P C (strip a3) [(strip t27_6)]) fun t28_7 =>
 M.bind (ex 0 (strip t28_7)) fun t29_8 =>
 M.bind (ex 1 (tupDrop 0 (strip t28_7))) fun t30_9 =>
 M.bind (ex 2 (tupDrop 1 (tupDrop 0 (strip t28_7)))) fun t31_10 =>
 M.bind (cv (.int .u32) true (strip t29_8)) fun t33_11 =>
 resT t33_11 (resT t30_9 (resT t31_10 (M.pure (.tup [t33_11, t30_9, t31_10])))))) := by
 rw [C, callW_eq _ _ rfl]; kernel_rfl
/-- ratchet/leb.u32 -/
theorem leb_u32_eq (a0 : PV) : C k_leb_u32 [a0] =
 trunc (M.bind (bx 3 a0) fun t1_0 =>
 M.bind (ld (some 3) false t1_0) fun t5_1 =>
 M.bind (C k_leb_window_unsigned [(strip t5_1), (.int .i64 32)]) fun t6_2 =>
 M.bind (ex 0 t6_2) fun t7_3 =>
 M.bind (ex 1 (tupDrop 0 t6_2)) fun t8_4 =>
 M.bind (ex 2 (tupDrop 1 (tupDrop 0 t6_2))) fun t9_5 =>
 resT t7_3 (resT t8_4 (resT t9_5 (M.pure (.tup [t7_3, t8_4, t9_5]))))) := by
 rw [C, callW_eq _ _ rfl]; kernel_rfl
noncomputable def p_leb_window_unsigned_1110 (v1 v2 v4 v5 v6 v7 v8 v9 : PV) : M PV := atP P X k_leb_window_unsigned [1, 1, 1, 0] (mkEnv 53 0 [(1, v1), (2, v2), (4, v4), (5, v5), (6, v6), (7, v7), (8, v8), (9, v9)])
theorem p_leb_window_unsigned_1110_eq (v1 v2 v4 v5 v6 v7 v8 v9 : PV) : p_leb_window_unsigned_1110 v1 v2 v4 v5 v6 v7 v8 v9 =
 M.bind (fa 2 v2) fun t17_0 =>
 M.bind (ld none false t17_0) fun t18_1 =>
 M.bind (bi .geq .none (strip v9) t18_1) fun t19_2 =>
 condM t19_2
 (nb (fa 2 v2) fun t20_3 =>
 nb (ld none true t20_3) fun t21_4 =>
 resT t21_4 (M.pure (.tup [(.int .u64 0), t21_4, (.int .i64 3)])))
 (M.bind (fa 0 v2) fun t22_5 =>
 M.bind (ld none false t22_5) fun t23_6 =>
 M.bind (iaS 1 t23_6 (strip v9)) fun t25_7 =>
 M.bind (ld none true t25_7) fun t26_8 =>
 M.bind (bi .sub .none (strip v1) (strip v8)) fun t29_9 =>
 M.bind (bi .lss .none (strip t29_9) (.int .i64 7)) fun t31_10 =>
 M.bind (gd (strip t31_10) true (M.pure (strip t26_8))) fun t33_11 =>
 M.bind (gd (strip t31_10) true (M.pure (strip t29_9))) fun t34_12 =>
 M.bind (gd (strip t31_10) true (bi .shr .none t33_11 t34_12)) fun t35_13 =>
 M.bind (gd (strip t31_10) true (bi .neq .none t35_13 (.int .u8 0))) fun t36_14 =>
 M.bind (pick (strip t31_10) t36_14 (.bool false)) fun t37_15 =>
 condM t37_15
 (resT v9 (M.pure (.tup [(.int .u64 0), v9, (.int .i64 4)])))
 (M.bind (bi .and .none (strip t26_8) (.int .u8 127)) fun t41_16 =>
 M.bind (cv (.int .u64) true t41_16) fun t42_17 =>
 M.bind (bi .shl .none t42_17 (strip v8)) fun t44_18 =>
 M.bind (bi .or .none (strip v7) t44_18) fun t45_19 =>
 M.bind (bi .lss .none (strip t26_8) (.int .u8 128)) fun t47_20 =>
 condM t47_20
 (M.bind (bi .add .none (strip v9) (.int .i64 1)) fun t50_21 =>
 resT t45_19 (resT t50_21 (M.pure (.tup [t45_19, t50_21, (.int .i64 0)]))))
 (M.bind (bi .add .none (strip v8) (.int .i64 7)) fun t52_22 =>
 M.bind (bi .add .none (strip v9) (.int .i64 1)) fun t15_23 =>
 p_leb_window_unsigned_1110 v1 v2 v4 v5 v6 t45_19 t52_22 t15_23))) :=
 (atP_step P X _ _ _).trans (by kernel_rfl)
/-- (ratchet/leb.window).unsigned -/
theorem leb_window_unsigned_eq (a0 a1 : PV) : C k_leb_window_unsigned [a0, a1] =
 trunc (M.bind (bx 3 a0) fun t2_0 =>
 M.bind (fa 1 t2_0) fun t12_1 =>
 M.bind (ld none true t12_1) fun t13_2 =>
 p_leb_window_unsigned_1110 a1 t2_0 (.int .u64 0) (.int .i64 0) (.int .i64 0) (.int .u64 0) (.int .i64 0) t13_2) := by
 rw [C, callW_eq _ _ rfl]; kernel_rfl
end Go.Proofs.Ytofbbijagbpicaa.Pi.Q
