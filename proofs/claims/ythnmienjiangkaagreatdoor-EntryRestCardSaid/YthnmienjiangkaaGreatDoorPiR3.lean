/- What the law rests on, part 4 of 5: a reading of the program's code over told data, and what it comes to. -/
import Derived.Test.YthnmienjiangkaaGreatDoorPiR2
set_option linter.unusedVariables false
set_option linter.unusedSimpArgs false
set_option maxRecDepth 100000
namespace Go.Proofs.YthnmienjiangkaaGreatDoor.Pi.Q
open Go Go.Proofs.YthnmienjiangkaaGreatDoor.Pi
theorem upk (a0 : PV) : C uc3 [a0] =
 trunc (M.bind (bx 3 a0) fun t1_0 =>
 M.bind (ld (some 3) false t1_0) fun t5_1 =>
 M.bind (C u1i [(strip t5_1), (.int .i64 32)]) fun t6_2 =>
 M.bind (ex 0 t6_2) fun t7_3 =>
 M.bind (ex 1 (tupDrop 0 t6_2)) fun t8_4 =>
 M.bind (ex 2 (tupDrop 1 (tupDrop 0 t6_2))) fun t9_5 =>
 resT t7_3 (resT t8_4 (resT t9_5 (M.pure (.tup [t7_3, t8_4, t9_5]))))) := by
 rw [C, u02 _ _ rfl]; kernel_rfl
theorem ucp : C u6n [] =
 trunc (M.bind (al [(.int .i64 0), (.int .i64 0), (.int .i64 0), (.int .i64 0), (.int .i64 0), (.int .i64 0), (.int .i64 0), (.int .i64 0), (.int .i64 0), (.int .i64 0), (.int .i64 0), (.int .i64 0)]) fun t0_0 =>
 M.bind (bd [(.int .i64 0), (.int .i64 0), (.int .i64 0), (.int .i64 0), (.int .i64 0), (.int .i64 0), (.int .i64 0), (.int .i64 0), (.int .i64 0), (.int .i64 0), (.int .i64 0), (.int .i64 0)] [(0, 1, (.int .i64 (-11))), (1, 1, (.int .i64 (-9))), (2, 1, (.int .i64 (-8))), (3, 1, (.int .i64 (-7))), (4, 1, (.int .i64 (-6))), (5, 1, (.int .i64 (-5))), (6, 1, (.int .i64 (-3))), (7, 1, (.int .i64 (-1))), (8, 1, (.int .i64 (-10))), (9, 1, (.int .i64 (-4))), (10, 1, (.int .i64 (-2))), (11, 1, (.int .i64 (-12)))]) fun t1_1 =>
 M.bind (st 12 true t0_0 t1_1) fun _ =>
 M.bind (ld (some 12) true t0_0) fun t0_3 => guardM (!isTup t0_3) (M.pure t0_3)) := by
 rw [C, u02 _ _ rfl]; kernel_rfl
noncomputable def u2g (v2 v4 : PV) : M PV := atP P X u4b [1, 1, 1, 1, 1] (mkEnv 47 0 [(2, v2), (4, v4)])
theorem u7p (v2 v4 : PV) : u2g v2 v4 =
 resT v4 (M.pure v4) :=
 (u0q P X _ _ _).trans (by kernel_rfl)
theorem ubl (a0 : PV) : C u4b [a0] =
 trunc (M.bind (nc P (strip a0)) fun t8_0 =>
 M.bind (fa 1 t8_0) fun t9_1 =>
 M.bind (ld none true t9_1) fun t10_2 =>
 M.bind (noPan (M.pure (strip a0))) fun t12_24 =>
 M.bind (noPan (nc P t12_24)) fun t13_25 =>
 M.bind (noPan (fa 0 t13_25)) fun t14_26 =>
 M.bind (noPan (M.pure (strip a0))) fun t16_27 =>
 M.bind (noPan (nc P t16_27)) fun t17_28 =>
 M.bind (noPan (fa 1 t17_28)) fun t18_29 =>
 M.bind (noPan (M.pure (strip a0))) fun t20_30 =>
 M.bind (noPan (nc P t20_30)) fun t21_31 =>
 M.bind (noPan (fa 0 t21_31)) fun t22_32 =>
 M.bind (noPan (ld none false t14_26)) fun t15_33 =>
 M.bind (noPan (ld none false t18_29)) fun t19_34 =>
 M.bind (noPan (ld none false t22_32)) fun t23_35 =>
 M.bind (noPan (lnL t23_35)) fun t24_36 =>
 M.bind (noPan (C ufh [(strip t15_33), (strip t19_34), (strip t24_36)])) fun t25_37 =>
 M.bind (noPan (M.pure t25_37)) fun t11_38 =>
 M.bind (noPan (ex 0 t11_38)) fun t26_39 =>
 M.bind (noPan (ex 1 (tupDrop 0 t11_38))) fun t27_40 =>
 M.bind (noPan (ex 2 (tupDrop 1 (tupDrop 0 t11_38)))) fun t28_41 =>
 M.bind (noPan (M.pure t26_39)) fun t4_42 =>
 M.bind (noPan (M.pure t27_40)) fun t5_43 =>
 M.bind (noPan (M.pure t28_41)) fun t6_44 =>
 M.bind (C u3w [(strip (strip a0)), (strip (strip t4_42)), (strip (strip t5_43)), (strip (strip t6_44))]) fun t33_45 =>
 M.bind (bi .lss .none (strip t33_45) (.int .i64 0)) fun t36_46 =>
 condM t36_46
 (M.bind (C u0j [(strip (strip a0)), (strip (strip t10_2)), (.int .i64 4)]) fun t39_47 =>
 u2g (.int .i64 0) t33_45)
 (M.bind (bi .gtr .none (strip t33_45) (.int .i64 2147483647)) fun t42_48 =>
 condM t42_48
 (M.bind (C u0j [(strip (strip a0)), (strip (strip t10_2)), (.int .i64 2)]) fun t45_49 =>
 u2g (.int .i64 0) t33_45)
 (u2g (.int .i64 0) t33_45))) := by
 rw [C, u02 _ _ rfl]; kernel_rfl
theorem u9z (a0 : PV) : C ub0 [a0] =
 trunc (M.bind (al [(.int .i64 0), (.int .i64 0)]) fun t2_0 =>
 M.bind (mf u6q [] [t2_0]) fun t3_1 =>
 guardM (isPtr t2_0) <| deferM CD t3_1 []
 (M.bind (callV P C (strip a0) []) fun t5_2 =>
 M.bind (bd [(.int .i64 0), (.int .i64 0)] []) fun t6_3 =>
 M.bind (st 2 true t2_0 t6_3) fun _ =>
 M.bind (ld (some 2) true t2_0) fun t0_5 => guardM (!isTup t0_5) (M.pure t0_5))
 (M.bind (ld (some 2) true t2_0) fun t0_6 => guardM (!isTup t0_6) (M.pure t0_6))) := by
 rw [C, u02 _ _ rfl]; kernel_rfl
theorem u9c (a0 a1 a2 a3 : PV) : C ub4 [a0, a1, a2, a3] =
 trunc (M.bind (ld none false a0) fun t5_0 =>
 M.bind (ld none false a1) fun t6_1 =>
 M.bind (ld none false a0) fun t7_2 =>
 M.bind (lnL t7_2) fun t8_3 =>
 M.bind (C u44 [(strip t5_0), (strip t6_1), (strip t8_3)]) fun t9_4 =>
 M.bind (ex 0 t9_4) fun t10_5 =>
 M.bind (ex 1 (tupDrop 0 t9_4)) fun t11_6 =>
 M.bind (st 1 true a2 t10_5) fun _ =>
 M.bind (st 1 true a3 t11_6) fun _ =>
 M.pure (.tup [])) := by
 rw [C, u02 _ _ rfl]; kernel_rfl
noncomputable def u65 (v0 v1 v2 v6 v7 v8 v9 : PV) : M PV := atP P X u44 [1, 1, 1] (mkEnv 68 0 [(0, v0), (1, v1), (2, v2), (6, v6), (7, v7), (8, v8), (9, v9)])
noncomputable def u5q (v0 v2 v6 v7 v8 v9 : PV) : M PV := atP P X u44 [1, 1, 1, 1] (mkEnv 68 0 [(0, v0), (2, v2), (6, v6), (7, v7), (8, v8), (9, v9)])
noncomputable def u5b (v0 v6 v7 v8 v9 : PV) : M PV := atP P X u44 [1, 1, 1, 1, 1] (mkEnv 68 0 [(0, v0), (6, v6), (7, v7), (8, v8), (9, v9)])
noncomputable def u4m (v6 v7 v8 v9 v11 : PV) : M PV := atP P X u44 [1, 1, 1, 1, 1, 1, 1] (mkEnv 68 0 [(6, v6), (7, v7), (8, v8), (9, v9), (11, v11)])
theorem u3p (v0 v1 v2 v6 v7 v8 v9 : PV) : u65 v0 v1 v2 v6 v7 v8 v9 =
 M.bind (bi .gtr .none (strip v8) (.int .u32 65536)) fun t29_0 =>
 condM t29_0
 (M.bind (bd [(.int .i64 0), (.int .i64 0)] [(0, 1, (strip v1)), (1, 1, (.int .i64 2))]) fun t31_1 =>
 M.bind (mi u43 t31_1) fun t32_2 =>
 M.bind (pn t32_2) fun _ =>
 u5q v0 v2 v6 v7 v8 v9)
 (u5q v0 v2 v6 v7 v8 v9) :=
 (u0q P X _ _ _).trans (by kernel_rfl)
theorem u4n (v0 v2 v6 v7 v8 v9 : PV) : u5q v0 v2 v6 v7 v8 v9 =
 M.bind (bi .sub .none (strip v2) (strip v9)) fun t35_0 =>
 M.bind (cv (.int .u64) true t35_0) fun t36_1 =>
 M.bind (cv (.int .u64) true (strip v8)) fun t38_2 =>
 M.bind (bi .lss .none t36_1 t38_2) fun t39_3 =>
 condM t39_3
 (M.bind (bd [(.int .i64 0), (.int .i64 0)] [(0, 1, (strip v2)), (1, 1, (.int .i64 3))]) fun t41_4 =>
 M.bind (mi u43 t41_4) fun t42_5 =>
 M.bind (pn t42_5) fun _ =>
 u5b v0 v6 v7 v8 v9)
 (u5b v0 v6 v7 v8 v9) :=
 (u0q P X _ _ _).trans (by kernel_rfl)
theorem u61 (v0 v6 v7 v8 v9 : PV) : u5b v0 v6 v7 v8 v9 =
 M.bind (cv (.int .i64) true (strip v8)) fun t47_0 =>
 M.bind (bi .add .none (strip v9) t47_0) fun t48_1 =>
 M.bind (slL 1 (strip v0) (some (strip v9)) (some t48_1)) fun t49_2 =>
 M.bind (C u7w [(strip (strip t49_2))]) fun t52_3 =>
 M.bind (ex 0 t52_3) fun t53_4 =>
 M.bind (ex 1 (tupDrop 0 t52_3)) fun t54_5 =>
 M.bind (un .not (strip t54_5)) fun t56_6 =>
 condM t56_6
 (M.bind (bi .add .none (strip v9) (strip t53_4)) fun t59_7 =>
 M.bind (bd [(.int .i64 0), (.int .i64 0)] [(0, 1, t59_7), (1, 1, (.int .i64 21))]) fun t60_8 =>
 M.bind (mi u43 t60_8) fun t61_9 =>
 M.bind (pn t61_9) fun _ =>
 u4m v6 v7 v8 v9 t49_2)
 (u4m v6 v7 v8 v9 t49_2) :=
 (u0q P X _ _ _).trans (by kernel_rfl)
theorem u5j (v6 v7 v8 v9 v11 : PV) : u4m v6 v7 v8 v9 v11 =
 M.bind (cv .bytesToStr true (strip v11)) fun t63_0 =>
 M.bind (cv (.int .i64) true (strip v8)) fun t66_1 =>
 M.bind (bi .add .none (strip v9) t66_1) fun t67_2 =>
 resT t63_0 (resT t67_2 (M.pure (.tup [t63_0, t67_2]))) :=
 (u0q P X _ _ _).trans (by kernel_rfl)
theorem ug3 (a0 a1 a2 : PV) : C u44 [a0, a1, a2] =
 trunc (M.bind (C ucd [(strip (strip a0)), (strip (strip a1)), (strip (strip a2))]) fun t18_0 =>
 M.bind (ex 0 t18_0) fun t19_1 =>
 M.bind (ex 1 (tupDrop 0 t18_0)) fun t20_2 =>
 M.bind (ex 2 (tupDrop 1 (tupDrop 0 t18_0))) fun t21_3 =>
 M.bind (bi .neq .none (strip t21_3) (.int .i64 0)) fun t23_4 =>
 condM t23_4
 (M.bind (bd [(.int .i64 0), (.int .i64 0)] [(0, 1, (strip t20_2)), (1, 1, (strip t21_3))]) fun t26_5 =>
 M.bind (mi u43 t26_5) fun t27_6 =>
 M.bind (pn t27_6) fun _ =>
 u65 a0 a1 a2 (.str ⟨#[]⟩) (.int .i64 0) t19_1 t20_2)
 (u65 a0 a1 a2 (.str ⟨#[]⟩) (.int .i64 0) t19_1 t20_2)) := by
 rw [C, u02 _ _ rfl]; kernel_rfl
theorem ubs (a0 a1 a2 : PV) : C u5r [a0, a1, a2] =
 trunc (M.bind (C u09 [(strip (strip a0)), (strip (strip a1)), (strip (strip a2)), (.int .i64 32), (.bool false)]) fun t16_0 =>
 M.bind (ex 0 t16_0) fun t17_1 =>
 M.bind (ex 1 (tupDrop 0 t16_0)) fun t18_2 =>
 M.bind (ex 2 (tupDrop 1 (tupDrop 0 t16_0))) fun t19_3 =>
 M.bind (cv (.int .u32) true (strip t17_1)) fun t21_4 =>
 resT t21_4 (resT t18_2 (resT t19_3 (M.pure (.tup [t21_4, t18_2, t19_3]))))) := by
 rw [C, u02 _ _ rfl]; kernel_rfl
noncomputable def u1f (v0 v2 v3 v4 : PV) : M PV := atP P X u30 [1, 0, 1, 0] (mkEnv 51 0 [(0, v0), (2, v2), (3, v3), (4, v4)])
noncomputable def u14 (v0 v2 v3 v4 v5 v6 : PV) : M PV := atP P X u30 [1, 0, 1, 0, 0, 1, 0, 1, 1, 0, 1, 0] (mkEnv 51 0 [(0, v0), (2, v2), (3, v3), (4, v4), (5, v5), (6, v6)])
theorem u77 (v0 v2 v3 v4 : PV) : u1f v0 v2 v3 v4 =
 M.bind (lnL (strip v0)) fun t9_0 =>
 M.bind (bi .lss .none (strip v4) t9_0) fun t10_1 =>
 condM t10_1
 (M.bind (iaS 1 (strip v0) (strip v4)) fun t13_2 =>
 M.bind (ld none false t13_2) fun t14_3 =>
 M.bind (C u4j [(strip t14_3)]) fun t15_4 =>
 M.bind (bi .eql .none (strip t15_4) (.int .i64 0)) fun t17_5 =>
 condM t17_5
 (resT v4 (M.pure (.tup [v4, (.bool false)])))
 (u14 v0 v2 v3 v4 t15_4 (.int .i64 1)))
 (M.pure (.tup [(.int .i64 0), (.bool true)])) :=
 (u0q P X _ _ _).trans (by kernel_rfl)
theorem u2x (v0 v2 v3 v4 v5 v6 : PV) : u14 v0 v2 v3 v4 v5 v6 =
 M.bind (bi .lss .none (strip v6) (strip v5)) fun t21_0 =>
 condM t21_0
 (M.bind (bi .add .none (strip v4) (strip v6)) fun t26_1 =>
 M.bind (lnL (strip v0)) fun t28_2 =>
 M.bind (bi .geq .none t26_1 t28_2) fun t29_3 =>
 condM t29_3
 (M.bind (lnL (strip v0)) fun t31_4 =>
 resT t31_4 (M.pure (.tup [t31_4, (.bool false)])))
 (M.bind (noPan (M.pure (strip v0))) fun t32_18 =>
 M.bind (noPan (M.pure (strip v4))) fun t33_19 =>
 M.bind (noPan (iaS 1 t32_18 t33_19)) fun t34_20 =>
 M.bind (noPan (M.pure (strip v6))) fun t36_21 =>
 M.bind (noPan (M.pure (strip v0))) fun t37_22 =>
 M.bind (noPan (M.pure (strip v4))) fun t38_23 =>
 M.bind (noPan (M.pure (strip v6))) fun t39_24 =>
 M.bind (noPan (bi .add .none t38_23 t39_24)) fun t40_25 =>
 M.bind (noPan (iaS 1 t37_22 t40_25)) fun t41_26 =>
 M.bind (noPan (ld none false t34_20)) fun t35_27 =>
 M.bind (noPan (ld none false t41_26)) fun t42_28 =>
 M.bind (noPan (C u33 [(strip t35_27), (strip t36_21), (strip t42_28)])) fun t43_29 =>
 M.bind (noPan (un .not t43_29)) fun t44_30 =>
 condM t44_30
 (M.bind (bi .add .none (strip v4) (strip v6)) fun t47_31 =>
 resT t47_31 (M.pure (.tup [t47_31, (.bool false)])))
 (M.bind (bi .add .none (strip v6) (.int .i64 1)) fun t23_32 =>
 u14 v0 v2 v3 v4 v5 t23_32)))
 (M.bind (bi .add .none (strip v4) (strip v5)) fun t50_33 =>
 u1f v0 v2 v3 t50_33) :=
 (u0q P X _ _ _).trans (by kernel_rfl)
theorem uax (a0 : PV) : C u30 [a0] =
 trunc (u1f a0 (.int .i64 0) (.bool false) (.int .i64 0)) := by
 rw [C, u02 _ _ rfl]; kernel_rfl
theorem ui4 (a0 a1 a2 : PV) : C u5h [a0, a1, a2] =
 trunc (M.bind (al [(.slice false true 0 []), (.int .i64 0), (.int .i64 0)]) fun t6_0 =>
 M.bind (bi .lss .none (strip a1) (.int .i64 0)) fun t9_1 =>
 M.bind (gd (strip t9_1) false (M.pure (strip a2))) fun t11_2 =>
 M.bind (gd (strip t9_1) false (M.pure (strip a0))) fun t12_3 =>
 M.bind (gd (strip t9_1) false (lnL t12_3)) fun t13_4 =>
 M.bind (gd (strip t9_1) false (bi .gtr .none t11_2 t13_4)) fun t14_5 =>
 M.bind (pick (strip t9_1) (.bool true) t14_5) fun t15_6 =>
 M.bind (gd (strip t15_6) false (M.pure (strip a1))) fun t17_7 =>
 M.bind (gd (strip t15_6) false (M.pure (strip a2))) fun t18_8 =>
 M.bind (gd (strip t15_6) false (bi .gtr .none t17_7 t18_8)) fun t19_9 =>
 M.bind (pick (strip t15_6) (.bool true) t19_9) fun t20_10 =>
 condM t20_10
 (M.bind (bd [(.slice false true 0 []), (.int .i64 0), (.int .i64 0)] []) fun t21_11 =>
 M.bind (st 3 true t6_0 t21_11) fun _ =>
 M.bind (ld (some 3) true t6_0) fun t0_13 => guardM (!isTup t0_13) (M.pure (.tup [t0_13, (.int .i64 1)])))
 (M.bind (bd [(.slice false true 0 []), (.int .i64 0), (.int .i64 0)] [(0, 1, (strip a0)), (1, 1, (strip a1)), (2, 1, (strip a2))]) fun t25_14 =>
 M.bind (st 3 true t6_0 t25_14) fun _ =>
 M.bind (ld (some 3) true t6_0) fun t0_16 => guardM (!isTup t0_16) (M.pure (.tup [t0_16, (.int .i64 0)])))) := by
 rw [C, u02 _ _ rfl]; kernel_rfl
noncomputable def u10 (v1 v2 v4 v5 v6 v7 v8 v9 : PV) : M PV := atP P X u1i [1, 1, 1, 0] (mkEnv 53 0 [(1, v1), (2, v2), (4, v4), (5, v5), (6, v6), (7, v7), (8, v8), (9, v9)])
theorem u6o (v1 v2 v4 v5 v6 v7 v8 v9 : PV) : u10 v1 v2 v4 v5 v6 v7 v8 v9 =
 M.bind (fa 2 v2) fun t17_0 =>
 M.bind (ld none false t17_0) fun t18_1 =>
 M.bind (bi .geq .none (strip v9) t18_1) fun t19_2 =>
 condM t19_2
 (nb (fa 2 v2) fun t20_3 =>
 nb (ld none true t20_3) fun t21_4 =>
 resT t21_4 (M.pure (.tup [(.int .u64 0), t21_4, (.int .i64 3)])))
 (M.bind (fa 0 v2) fun t22_5 =>
 M.bind (ld none false t22_5) fun t23_6 =>
 M.bind (iaS 1 t23_6 (strip v9)) fun t25_7 =>
 M.bind (ld none true t25_7) fun t26_8 =>
 M.bind (bi .sub .none (strip v1) (strip v8)) fun t29_9 =>
 M.bind (bi .lss .none (strip t29_9) (.int .i64 7)) fun t31_10 =>
 M.bind (gd (strip t31_10) true (M.pure (strip t26_8))) fun t33_11 =>
 M.bind (gd (strip t31_10) true (M.pure (strip t29_9))) fun t34_12 =>
 M.bind (gd (strip t31_10) true (bi .shr .none t33_11 t34_12)) fun t35_13 =>
 M.bind (gd (strip t31_10) true (bi .neq .none t35_13 (.int .u8 0))) fun t36_14 =>
 M.bind (pick (strip t31_10) t36_14 (.bool false)) fun t37_15 =>
 condM t37_15
 (resT v9 (M.pure (.tup [(.int .u64 0), v9, (.int .i64 4)])))
 (M.bind (bi .and .none (strip t26_8) (.int .u8 127)) fun t41_16 =>
 M.bind (cv (.int .u64) true t41_16) fun t42_17 =>
 M.bind (bi .shl .none t42_17 (strip v8)) fun t44_18 =>
 M.bind (bi .or .none (strip v7) t44_18) fun t45_19 =>
 M.bind (bi .lss .none (strip t26_8) (.int .u8 128)) fun t47_20 =>
 condM t47_20
 (M.bind (bi .add .none (strip v9) (.int .i64 1)) fun t50_21 =>
 resT t45_19 (resT t50_21 (M.pure (.tup [t45_19, t50_21, (.int .i64 0)]))))
 (M.bind (bi .add .none (strip v8) (.int .i64 7)) fun t52_22 =>
 M.bind (bi .add .none (strip v9) (.int .i64 1)) fun t15_23 =>
 u10 v1 v2 v4 v5 v6 t45_19 t52_22 t15_23))) :=
 (u0q P X _ _ _).trans (by kernel_rfl)
theorem u99 (a0 a1 : PV) : C u1i [a0, a1] =
 trunc (M.bind (bx 3 a0) fun t2_0 =>
 M.bind (fa 1 t2_0) fun t12_1 =>
 M.bind (ld none true t12_1) fun t13_2 =>
 u10 a1 t2_0 (.int .u64 0) (.int .i64 0) (.int .i64 0) (.int .u64 0) (.int .i64 0) t13_2) := by
 rw [C, u02 _ _ rfl]; kernel_rfl
theorem upg (a0 a1 a2 : PV) : C ufh [a0, a1, a2] =
 trunc (M.bind (C u3x [(strip (strip a0)), (strip (strip a1)), (strip (strip a2)), (.fn uca [] [])]) fun t12_0 =>
 M.bind (ex 0 t12_0) fun t13_1 =>
 M.bind (ex 1 (tupDrop 0 t12_0)) fun t14_2 =>
 M.bind (ex 2 (tupDrop 1 (tupDrop 0 t12_0))) fun t15_3 =>
 resT t13_1 (resT t14_2 (resT t15_3 (M.pure (.tup [t13_1, t14_2, t15_3]))))) := by
 rw [C, u02 _ _ rfl]; kernel_rfl
noncomputable def u4z (v0 v1 v2 v8 : PV) : M PV := atP P X u3w [1, 1] (mkEnv 20 0 [(0, v0), (1, v1), (2, v2), (8, v8)])
theorem u8y (v0 v1 v2 v8 : PV) : u4z v0 v1 v2 v8 =
 M.bind (nc P (strip v0)) fun t17_0 =>
 M.bind (fa 1 t17_0) fun t18_1 =>
 M.bind (st 1 true t18_1 v2) fun _ =>
 resT v1 (M.pure v1) :=
 (u0q P X _ _ _).trans (by kernel_rfl)
theorem u7s (a0 a1 a2 a3 : PV) : C u3w [a0, a1, a2, a3] =
 trunc (M.bind (bi .neq .none (strip a3) (.int .i64 0)) fun t10_0 =>
 condM t10_0
 (M.bind (C u0j [(strip (strip a0)), (strip (strip a2)), (strip (strip a3))]) fun t14_1 =>
 u4z a0 a1 a2 (.int .i64 0))
 (u4z a0 a1 a2 (.int .i64 0))) := by
 rw [C, u02 _ _ rfl]; kernel_rfl
theorem u80 (a0 : PV) : CD none u6q [a0] =
 noPan (trunc (M.bind (M.pure .niliface) fun t2_0 =>
 M.bind (bi .neq .iface (strip t2_0) .niliface) fun t4_1 =>
 condM t4_1
 (M.bind (ta u43 (.agg [(.int .i64 0), (.int .i64 0)]) false (strip t2_0)) fun t6_2 =>
 M.bind (st 2 true a0 t6_2) fun _ =>
 M.pure (.tup []))
 (M.pure (.tup [])))) := by
 rw [CD, u31]; kernel_rfl
theorem u7z (r : PV) (a0 : PV) : CD (some r) u6q [a0] =
 noPan (trunc (M.bind (M.pure r) fun t2_0 =>
 M.bind (bi .neq .iface (strip t2_0) .niliface) fun t4_1 =>
 condM t4_1
 (M.bind (ta u43 (.agg [(.int .i64 0), (.int .i64 0)]) false (strip t2_0)) fun t6_2 =>
 M.bind (st 2 true a0 t6_2) fun _ =>
 M.pure (.tup []))
 (M.pure (.tup [])))) := by
 rw [CD, u31]; kernel_rfl
noncomputable def u4t (v0 v2 v3 v9 : PV) : M PV := atP P X u7w [1, 0, 1, 0] (mkEnv 37 0 [(0, v0), (2, v2), (3, v3), (9, v9)])
theorem u4w (v0 v2 v3 v9 : PV) : u4t v0 v2 v3 v9 =
 M.bind (nx v9) fun t10_0 =>
 M.bind (ex 0 t10_0) fun t11_1 =>
 condM t11_1
 (M.bind (ex 1 (tupDrop 0 t10_0)) fun t12_2 =>
 M.bind (slL 1 (strip v0) (some (strip t12_2)) none) fun t16_3 =>
 M.bind (C u1p [(strip t16_3)]) fun t17_4 =>
 M.bind (ex 0 t17_4) fun t18_5 =>
 M.bind (ex 1 (tupDrop 0 t17_4)) fun t19_6 =>
 M.bind (bi .eql .none (strip t18_5) (.int .i32 65533)) fun t21_7 =>
 M.bind (gd (strip t21_7) true (M.pure (strip t19_6))) fun t23_8 =>
 M.bind (gd (strip t21_7) true (bi .leq .none t23_8 (.int .i64 1))) fun t24_9 =>
 M.bind (pick (strip t21_7) t24_9 (.bool false)) fun t25_10 =>
 condM t25_10
 (M.bind (lnL (strip v0)) fun t30_11 =>
 M.bind (bi .add .none (strip t12_2) (.int .i64 4)) fun t32_12 =>
 M.bind (mn t30_11 t32_12) fun t33_13 =>
 M.bind (slL 1 (strip v0) (some (strip t12_2)) (some t33_13)) fun t34_14 =>
 M.bind (C u5l [(strip t34_14)]) fun t35_15 =>
 M.bind (bi .add .none (strip t12_2) t35_15) fun t36_16 =>
 resT t36_16 (M.pure (.tup [t36_16, (.bool false)])))
 (u4t v0 v2 v3 v9))
 (M.pure (.tup [(.int .i64 0), (.bool true)])) :=
 (u0q P X _ _ _).trans (by kernel_rfl)
theorem uhn (a0 : PV) : C u7w [a0] =
 trunc (M.bind (cv .bytesToStr true (strip a0)) fun t8_0 =>
 M.bind (rg t8_0) fun t9_1 =>
 u4t a0 (.int .i64 0) (.bool false) t9_1) := by
 rw [C, u02 _ _ rfl]; kernel_rfl
theorem u96 (a0 : PV) : C u4j [a0] =
 trunc (M.bind (bi .lss .none (strip a0) (.int .u8 128)) fun t5_0 =>
 condM t5_0
 (M.pure (.int .i64 1))
 (M.bind (bi .geq .none (strip a0) (.int .u8 194)) fun t8_1 =>
 M.bind (gd (strip t8_1) true (M.pure (strip a0))) fun t10_2 =>
 M.bind (gd (strip t8_1) true (bi .leq .none t10_2 (.int .u8 223))) fun t11_3 =>
 M.bind (pick (strip t8_1) t11_3 (.bool false)) fun t12_4 =>
 condM t12_4
 (M.pure (.int .i64 2))
 (M.bind (bi .geq .none (strip a0) (.int .u8 224)) fun t15_5 =>
 M.bind (gd (strip t15_5) true (M.pure (strip a0))) fun t17_6 =>
 M.bind (gd (strip t15_5) true (bi .leq .none t17_6 (.int .u8 239))) fun t18_7 =>
 M.bind (pick (strip t15_5) t18_7 (.bool false)) fun t19_8 =>
 condM t19_8
 (M.pure (.int .i64 3))
 (M.bind (bi .geq .none (strip a0) (.int .u8 240)) fun t22_9 =>
 M.bind (gd (strip t22_9) true (M.pure (strip a0))) fun t24_10 =>
 M.bind (gd (strip t22_9) true (bi .leq .none t24_10 (.int .u8 244))) fun t25_11 =>
 M.bind (pick (strip t22_9) t25_11 (.bool false)) fun t26_12 =>
 condM t26_12
 (M.pure (.int .i64 4))
 (M.pure (.int .i64 0)))))) := by
 rw [C, u02 _ _ rfl]; kernel_rfl
noncomputable def u08 (v2 v6 v7 v8 : PV) : M PV := atP P X u33 [1, 1, 1] (mkEnv 28 0 [(2, v2), (6, v6), (7, v7), (8, v8)])
theorem u6w (v2 v6 v7 v8 : PV) : u08 v2 v6 v7 v8 =
 M.bind (bi .geq .none (strip v2) (strip v7)) fun t22_0 =>
 M.bind (gd (strip t22_0) true (M.pure (strip v2))) fun t24_1 =>
 M.bind (gd (strip t22_0) true (M.pure (strip v8))) fun t25_2 =>
 M.bind (gd (strip t22_0) true (bi .leq .none t24_1 t25_2)) fun t26_3 =>
 M.bind (pick (strip t22_0) t26_3 (.bool false)) fun t27_4 =>
 resT t27_4 (M.pure t27_4) :=
 (u0q P X _ _ _).trans (by kernel_rfl)
theorem u8u (a0 a1 a2 : PV) : C u33 [a0, a1, a2] =
 trunc (M.bind (bi .eql .none (strip a1) (.int .i64 1)) fun t10_0 =>
 condM t10_0
 (M.bind (bi .eql .none (strip a0) (.int .u8 224)) fun t13_1 =>
 condM t13_1
 (u08 a2 (.bool false) (.int .u8 160) (.int .u8 191))
 (M.bind (bi .eql .none (strip a0) (.int .u8 237)) fun t15_2 =>
 condM t15_2
 (u08 a2 (.bool false) (.int .u8 128) (.int .u8 159))
 (M.bind (bi .eql .none (strip a0) (.int .u8 240)) fun t17_3 =>
 condM t17_3
 (u08 a2 (.bool false) (.int .u8 144) (.int .u8 191))
 (M.bind (bi .eql .none (strip a0) (.int .u8 244)) fun t19_4 =>
 condM t19_4
 (u08 a2 (.bool false) (.int .u8 128) (.int .u8 143))
 (u08 a2 (.bool false) (.int .u8 128) (.int .u8 191))))))
 (u08 a2 (.bool false) (.int .u8 128) (.int .u8 191))) := by
 rw [C, u02 _ _ rfl]; kernel_rfl
theorem u8b (a0 a1 a2 a3 : PV) : C u3x [a0, a1, a2, a3] =
 trunc (M.bind (C u5h [(strip (strip a0)), (strip (strip a1)), (strip (strip a2))]) fun t19_0 =>
 M.bind (ex 0 t19_0) fun t20_1 =>
 M.bind (ex 1 (tupDrop 0 t19_0)) fun t21_2 =>
 M.bind (al [(.slice false true 0 []), (.int .i64 0), (.int .i64 0)]) fun t11_3 =>
 M.bind (st 3 true t11_3 t20_1) fun _ =>
 M.bind (bi .neq .none (strip t21_2) (.int .i64 0)) fun t23_5 =>
 condM t23_5
 (resT t21_2 (M.pure (.tup [(.int .i64 0), (.int .i64 0), t21_2])))
 (M.bind (ld (some 3) false t11_3) fun t27_6 =>
 M.bind (callV P C (strip a3) [(strip t27_6)]) fun t28_7 =>
 M.bind (ex 0 t28_7) fun t29_8 =>
 M.bind (ex 1 (tupDrop 0 t28_7)) fun t30_9 =>
 M.bind (ex 2 (tupDrop 1 (tupDrop 0 t28_7))) fun t31_10 =>
 resT t29_8 (resT t30_9 (resT t31_10 (M.pure (.tup [t29_8, t30_9, t31_10])))))) := by
 rw [C, u02 _ _ rfl]; kernel_rfl
theorem upc (a0 : PV) : C uca [a0] =
 trunc (M.bind (bx 3 a0) fun t1_0 =>
 M.bind (ld (some 3) false t1_0) fun t5_1 =>
 M.bind (C u1q [(strip t5_1), (.int .i64 33)]) fun t6_2 =>
 M.bind (ex 0 t6_2) fun t7_3 =>
 M.bind (ex 1 (tupDrop 0 t6_2)) fun t8_4 =>
 M.bind (ex 2 (tupDrop 1 (tupDrop 0 t6_2))) fun t9_5 =>
 resT t7_3 (resT t8_4 (resT t9_5 (M.pure (.tup [t7_3, t8_4, t9_5]))))) := by
 rw [C, u02 _ _ rfl]; kernel_rfl
noncomputable def u3z (v0 v2 v3 v6 v7 v8 : PV) : M PV := atP P X u1p [1, 0, 1, 0] (mkEnv 22 0 [(0, v0), (2, v2), (3, v3), (6, v6), (7, v7), (8, v8)])
noncomputable def u2n (v0 v2 v3 : PV) : M PV := atP P X u1p [1, 1] (mkEnv 22 0 [(0, v0), (2, v2), (3, v3)])
theorem u3f (v0 v2 v3 v6 v7 v8 : PV) : u3z v0 v2 v3 v6 v7 v8 =
 M.bind (bi .lss .none v8 v7) fun t9_0 =>
 condM t9_0
 (M.bind (iaS 1 v6 v8) fun t10_1 =>
 M.bind (ld none true t10_1) fun t11_2 =>
 M.bind (bi .lss .none (strip t11_2) (.int .u8 128)) fun t13_3 =>
 condM t13_3
 (M.bind (cv (.int .i32) true (strip t11_2)) fun t15_4 =>
 resT t15_4 (M.pure (.tup [t15_4, (.int .i64 1)])))
 (u2n v0 v2 v3))
 (u2n v0 v2 v3) :=
 (u0q P X _ _ _).trans (by kernel_rfl)
theorem u69 (v0 v2 v3 : PV) : u2n v0 v2 v3 =
 M.bind (C u2i [(strip (strip v0))]) fun t19_0 =>
 M.bind (ex 0 t19_0) fun t20_1 =>
 M.bind (ex 1 (tupDrop 0 t19_0)) fun t21_2 =>
 resT t20_1 (resT t21_2 (M.pure (.tup [t20_1, t21_2]))) :=
 (u0q P X _ _ _).trans (by kernel_rfl)
theorem u4v (a0 : PV) : C u1p [a0] =
 trunc (M.bind (lnL (strip a0)) fun t7_0 =>
 u3z a0 (.int .i32 0) (.int .i64 0) (strip a0) t7_0 (.int .i64 0)) := by
 rw [C, u02 _ _ rfl]; kernel_rfl
noncomputable def u3s (v0 v2 v3 : PV) : M PV := atP P X u5l [1, 0, 1, 0] (mkEnv 20 0 [(0, v0), (2, v2), (3, v3)])
theorem u5v (v0 v2 v3 : PV) : u3s v0 v2 v3 =
 M.bind (bi .gtr .none (strip v3) (.int .i64 0)) fun t7_0 =>
 condM t7_0
 (M.bind (bi .lss .none (strip v3) (.int .i64 4)) fun t11_1 =>
 M.bind (gd (strip t11_1) true (M.pure (strip v0))) fun t13_2 =>
 M.bind (gd (strip t11_1) true (M.pure (strip v3))) fun t14_3 =>
 M.bind (gd (strip t11_1) true (slL 1 t13_2 none (some t14_3))) fun t15_4 =>
 M.bind (gd (strip t11_1) true (C u47 [(strip t15_4)])) fun t16_5 =>
 M.bind (gd (strip t11_1) true (un .not t16_5)) fun t17_6 =>
 M.bind (pick (strip t11_1) t17_6 (.bool false)) fun t18_7 =>
 condM t18_7
 (resT v3 (M.pure v3))
 (M.bind (bi .sub .none (strip v3) (.int .i64 1)) fun t9_8 =>
 u3s v0 v2 t9_8))
 (M.pure (.int .i64 0)) :=
 (u0q P X _ _ _).trans (by kernel_rfl)
theorem udj (a0 : PV) : C u5l [a0] =
 trunc (M.bind (lnL (strip a0)) fun t5_0 =>
 u3s a0 (.int .i64 0) t5_0) := by
 rw [C, u02 _ _ rfl]; kernel_rfl
noncomputable def u0x (v1 v2 v4 v5 v6 v7 v8 v9 : PV) : M PV := atP P X u1q [1, 1, 1, 0] (mkEnv 74 0 [(1, v1), (2, v2), (4, v4), (5, v5), (6, v6), (7, v7), (8, v8), (9, v9)])
noncomputable def u1n (v1 v2 v4 v5 v6 v7 v8 v9 v10 : PV) : M PV := atP P X u1q [1, 1, 1, 0, 0, 0, 0, 1, 1, 1] (mkEnv 74 0 [(1, v1), (2, v2), (4, v4), (5, v5), (6, v6), (7, v7), (8, v8), (9, v9), (10, v10)])
noncomputable def u1t (v1 v2 v4 v5 v6 v7 v8 v9 : PV) : M PV := atP P X u1q [1, 1, 1, 0, 0, 0, 0, 1, 1, 1, 1, 1, 1, 0, 1] (mkEnv 74 0 [(1, v1), (2, v2), (4, v4), (5, v5), (6, v6), (7, v7), (8, v8), (9, v9)])
theorem u7l (v1 v2 v4 v5 v6 v7 v8 v9 : PV) : u0x v1 v2 v4 v5 v6 v7 v8 v9 =
 M.bind (fa 2 v2) fun t18_0 =>
 M.bind (ld none false t18_0) fun t19_1 =>
 M.bind (bi .geq .none (strip v9) t19_1) fun t20_2 =>
 condM t20_2
 (nb (fa 2 v2) fun t21_3 =>
 nb (ld none true t21_3) fun t22_4 =>
 resT t22_4 (M.pure (.tup [(.int .i64 0), t22_4, (.int .i64 3)])))
 (M.bind (fa 0 v2) fun t23_5 =>
 M.bind (ld none false t23_5) fun t24_6 =>
 M.bind (iaS 1 t24_6 (strip v9)) fun t26_7 =>
 M.bind (ld none true t26_7) fun t27_8 =>
 M.bind (bi .sub .none (strip v1) (strip v8)) fun t30_9 =>
 M.bind (bi .lss .none (strip t30_9) (.int .i64 7)) fun t32_10 =>
 condM t32_10
 (M.bind (bi .shl .none (strip t27_8) (.int .u64 1)) fun t34_11 =>
 M.bind (cv (.int .i8) true t34_11) fun t35_12 =>
 M.bind (bi .shr .none t35_12 (strip t30_9)) fun t37_13 =>
 M.bind (bi .geq .none (strip t27_8) (.int .u8 128)) fun t39_14 =>
 M.bind (gd (strip t39_14) false (M.pure (strip t37_13))) fun t41_15 =>
 M.bind (gd (strip t39_14) false (bi .neq .none t41_15 (.int .i8 0))) fun t42_16 =>
 M.bind (gd (strip t39_14) false (M.pure (strip t42_16))) fun t43_17 =>
 M.bind (gd t43_17 true (M.pure (strip t37_13))) fun t44_18 =>
 M.bind (gd t43_17 true (bi .neq .none t44_18 (.int .i8 (-1)))) fun t45_19 =>
 M.bind (gd (strip t39_14) false (pick t43_17 t45_19 (.bool false))) fun t46_20 =>
 M.bind (pick (strip t39_14) (.bool true) t46_20) fun t47_21 =>
 condM t47_21
 (resT v9 (M.pure (.tup [(.int .i64 0), v9, (.int .i64 4)])))
 (u1n v1 v2 v4 v5 v6 v7 v8 v9 t27_8))
 (u1n v1 v2 v4 v5 v6 v7 v8 v9 t27_8)) :=
 (u0q P X _ _ _).trans (by kernel_rfl)
theorem u5w (v1 v2 v4 v5 v6 v7 v8 v9 v10 : PV) : u1n v1 v2 v4 v5 v6 v7 v8 v9 v10 =
 M.bind (bi .and .none (strip v10) (.int .u8 127)) fun t51_0 =>
 M.bind (cv (.int .i64) true t51_0) fun t52_1 =>
 M.bind (bi .shl .none t52_1 (strip v8)) fun t54_2 =>
 M.bind (bi .or .none (strip v7) t54_2) fun t55_3 =>
 M.bind (bi .add .none (strip v8) (.int .i64 7)) fun t57_4 =>
 M.bind (bi .lss .none (strip v10) (.int .u8 128)) fun t59_5 =>
 condM t59_5
 (M.bind (bi .and .none (strip v10) (.int .u8 64)) fun t61_6 =>
 M.bind (bi .neq .none t61_6 (.int .u8 0)) fun t62_7 =>
 M.bind (gd (strip t62_7) true (M.pure (strip t57_4))) fun t64_8 =>
 M.bind (gd (strip t62_7) true (bi .lss .none t64_8 (.int .i64 64))) fun t65_9 =>
 M.bind (pick (strip t62_7) t65_9 (.bool false)) fun t66_10 =>
 condM t66_10
 (M.bind (bi .shl .none (.int .i64 (-1)) (strip t57_4)) fun t69_11 =>
 M.bind (bi .or .none (strip t55_3) t69_11) fun t70_12 =>
 u1t v1 v2 v4 v5 v6 t70_12 t57_4 v9)
 (u1t v1 v2 v4 v5 v6 t55_3 t57_4 v9))
 (M.bind (bi .add .none (strip v9) (.int .i64 1)) fun t16_13 =>
 u0x v1 v2 v4 v5 v6 t55_3 t57_4 t16_13) :=
 (u0q P X _ _ _).trans (by kernel_rfl)
theorem u4r (v1 v2 v4 v5 v6 v7 v8 v9 : PV) : u1t v1 v2 v4 v5 v6 v7 v8 v9 =
 M.bind (bi .add .none (strip v9) (.int .i64 1)) fun t73_0 =>
 resT v7 (resT t73_0 (M.pure (.tup [v7, t73_0, (.int .i64 0)]))) :=
 (u0q P X _ _ _).trans (by kernel_rfl)
theorem uav (a0 a1 : PV) : C u1q [a0, a1] =
 trunc (M.bind (bx 3 a0) fun t2_0 =>
 M.bind (fa 1 t2_0) fun t13_1 =>
 M.bind (ld none true t13_1) fun t14_2 =>
 u0x a1 t2_0 (.int .i64 0) (.int .i64 0) (.int .i64 0) (.int .i64 0) (.int .i64 0) t14_2) := by
 rw [C, u02 _ _ rfl]; kernel_rfl
theorem u6j (a0 : PV) : C u2i [a0] =
 trunc (M.bind (lnL (strip a0)) fun t14_0 =>
 M.bind (bi .lss .none (strip t14_0) (.int .i64 1)) fun t16_1 =>
 condM t16_1
 (M.pure (.tup [(.int .i32 65533), (.int .i64 0)]))
 (M.bind (iaS 1 (strip a0) (.int .i64 0)) fun t18_2 =>
 M.bind (ld none true t18_2) fun t19_3 =>
 M.bind (iaA 256 1 (GT 0) (strip t19_3)) fun t21_4 =>
 M.bind (ld none true t21_4) fun t22_5 =>
 M.bind (bi .geq .none (strip t22_5) (.int .u8 240)) fun t24_6 =>
 condM t24_6
 (M.bind (cv (.int .i32) true (strip t22_5)) fun t26_7 =>
 M.bind (bi .shl .none t26_7 (.int .u64 31)) fun t27_8 =>
 M.bind (bi .shr .none t27_8 (.int .u64 31)) fun t28_9 =>
 M.bind (iaS 1 (strip a0) (.int .i64 0)) fun t30_10 =>
 M.bind (ld none false t30_10) fun t31_11 =>
 M.bind (cv (.int .i32) true t31_11) fun t32_12 =>
 M.bind (bi .andNot .none t32_12 (strip t28_9)) fun t34_13 =>
 M.bind (bi .and .none (.int .i32 65533) (strip t28_9)) fun t36_14 =>
 M.bind (bi .or .none t34_13 t36_14) fun t37_15 =>
 resT t37_15 (M.pure (.tup [t37_15, (.int .i64 1)])))
 (M.bind (bi .and .none (strip t22_5) (.int .u8 7)) fun t39_16 =>
 M.bind (cv (.int .i64) true t39_16) fun t40_17 =>
 M.bind (bi .shr .none (strip t22_5) (.int .u64 4)) fun t42_18 =>
 M.bind (iaA 16 2 (GT 1) t42_18) fun t43_19 =>
 M.bind (ld (some 2) true t43_19) fun t44_20 =>
 M.bind (al [(.int .u8 0), (.int .u8 0)]) fun t9_21 =>
 M.bind (st 2 true t9_21 t44_20) fun _ =>
 M.bind (bi .lss .none (strip t14_0) (strip t40_17)) fun t47_23 =>
 condM t47_23
 (M.pure (.tup [(.int .i32 65533), (.int .i64 1)]))
 (M.bind (iaS 1 (strip a0) (.int .i64 1)) fun t49_24 =>
 M.bind (ld none true t49_24) fun t50_25 =>
 M.bind (fa 0 t9_21) fun t52_26 =>
 M.bind (ld none false t52_26) fun t53_27 =>
 M.bind (bi .lss .none (strip t50_25) t53_27) fun t54_28 =>
 M.bind (gd (strip t54_28) false (fa 1 t9_21)) fun t56_29 =>
 M.bind (gd (strip t54_28) false (ld none false t56_29)) fun t57_30 =>
 M.bind (gd (strip t54_28) false (M.pure (strip t50_25))) fun t58_31 =>
 M.bind (gd (strip t54_28) false (bi .lss .none t57_30 t58_31)) fun t59_32 =>
 M.bind (pick (strip t54_28) (.bool true) t59_32) fun t60_33 =>
 condM t60_33
 (M.pure (.tup [(.int .i32 65533), (.int .i64 1)]))
 (M.bind (bi .leq .none (strip t40_17) (.int .i64 2)) fun t62_34 =>
 condM t62_34
 (M.bind (bi .and .none (strip t19_3) (.int .u8 31)) fun t64_35 =>
 M.bind (cv (.int .i32) true t64_35) fun t65_36 =>
 M.bind (bi .shl .none t65_36 (.int .u64 6)) fun t66_37 =>
 M.bind (bi .and .none (strip t50_25) (.int .u8 63)) fun t68_38 =>
 M.bind (cv (.int .i32) true t68_38) fun t69_39 =>
 M.bind (bi .or .none t66_37 t69_39) fun t70_40 =>
 resT t70_40 (M.pure (.tup [t70_40, (.int .i64 2)])))
 (M.bind (iaS 1 (strip a0) (.int .i64 2)) fun t72_41 =>
 M.bind (ld none true t72_41) fun t73_42 =>
 M.bind (bi .lss .none (strip t73_42) (.int .u8 128)) fun t75_43 =>
 M.bind (gd (strip t75_43) false (M.pure (strip t73_42))) fun t77_44 =>
 M.bind (gd (strip t75_43) false (bi .lss .none (.int .u8 191) t77_44)) fun t78_45 =>
 M.bind (pick (strip t75_43) (.bool true) t78_45) fun t79_46 =>
 condM t79_46
 (M.pure (.tup [(.int .i32 65533), (.int .i64 1)]))
 (M.bind (bi .leq .none (strip t40_17) (.int .i64 3)) fun t81_47 =>
 condM t81_47
 (M.bind (bi .and .none (strip t19_3) (.int .u8 15)) fun t83_48 =>
 M.bind (cv (.int .i32) true t83_48) fun t84_49 =>
 M.bind (bi .shl .none t84_49 (.int .u64 12)) fun t85_50 =>
 M.bind (bi .and .none (strip t50_25) (.int .u8 63)) fun t87_51 =>
 M.bind (cv (.int .i32) true t87_51) fun t88_52 =>
 M.bind (bi .shl .none t88_52 (.int .u64 6)) fun t89_53 =>
 M.bind (bi .or .none t85_50 t89_53) fun t90_54 =>
 M.bind (bi .and .none (strip t73_42) (.int .u8 63)) fun t92_55 =>
 M.bind (cv (.int .i32) true t92_55) fun t93_56 =>
 M.bind (bi .or .none t90_54 t93_56) fun t94_57 =>
 resT t94_57 (M.pure (.tup [t94_57, (.int .i64 3)])))
 (M.bind (iaS 1 (strip a0) (.int .i64 3)) fun t96_58 =>
 M.bind (ld none true t96_58) fun t97_59 =>
 M.bind (bi .lss .none (strip t97_59) (.int .u8 128)) fun t99_60 =>
 M.bind (gd (strip t99_60) false (M.pure (strip t97_59))) fun t101_61 =>
 M.bind (gd (strip t99_60) false (bi .lss .none (.int .u8 191) t101_61)) fun t102_62 =>
 M.bind (pick (strip t99_60) (.bool true) t102_62) fun t103_63 =>
 condM t103_63
 (M.pure (.tup [(.int .i32 65533), (.int .i64 1)]))
 (M.bind (bi .and .none (strip t19_3) (.int .u8 7)) fun t105_64 =>
 M.bind (cv (.int .i32) true t105_64) fun t106_65 =>
 M.bind (bi .shl .none t106_65 (.int .u64 18)) fun t107_66 =>
 M.bind (bi .and .none (strip t50_25) (.int .u8 63)) fun t109_67 =>
 M.bind (cv (.int .i32) true t109_67) fun t110_68 =>
 M.bind (bi .shl .none t110_68 (.int .u64 12)) fun t111_69 =>
 M.bind (bi .or .none t107_66 t111_69) fun t112_70 =>
 M.bind (bi .and .none (strip t73_42) (.int .u8 63)) fun t114_71 =>
 M.bind (cv (.int .i32) true t114_71) fun t115_72 =>
 M.bind (bi .shl .none t115_72 (.int .u64 6)) fun t116_73 =>
 M.bind (bi .or .none t112_70 t116_73) fun t117_74 =>
 M.bind (bi .and .none (strip t97_59) (.int .u8 63)) fun t119_75 =>
 M.bind (cv (.int .i32) true t119_75) fun t120_76 =>
 M.bind (bi .or .none t117_74 t120_76) fun t121_77 =>
 resT t121_77 (M.pure (.tup [t121_77, (.int .i64 4)]))))))))))) := by
 rw [C, u02 _ _ rfl]; kernel_rfl
theorem u8j (a0 : PV) : C u47 [a0] =
 trunc (M.bind (lnL (strip a0)) fun t7_0 =>
 M.bind (bi .eql .none (strip t7_0) (.int .i64 0)) fun t9_1 =>
 condM t9_1
 (M.pure (.bool false))
 (M.bind (iaS 1 (strip a0) (.int .i64 0)) fun t11_2 =>
 M.bind (ld none false t11_2) fun t12_3 =>
 M.bind (iaA 256 1 (GT 0) t12_3) fun t13_4 =>
 M.bind (ld none true t13_4) fun t14_5 =>
 M.bind (bi .and .none (strip t14_5) (.int .u8 7)) fun t17_6 =>
 M.bind (cv (.int .i64) true t17_6) fun t18_7 =>
 M.bind (bi .geq .none (strip t7_0) t18_7) fun t19_8 =>
 condM t19_8
 (M.pure (.bool true))
 (M.bind (bi .shr .none (strip t14_5) (.int .u64 4)) fun t21_9 =>
 M.bind (iaA 16 2 (GT 1) t21_9) fun t22_10 =>
 M.bind (ld (some 2) true t22_10) fun t23_11 =>
 M.bind (al [(.int .u8 0), (.int .u8 0)]) fun t5_12 =>
 M.bind (st 2 true t5_12 t23_11) fun _ =>
 nb (bi .gtr .none (strip t7_0) (.int .i64 1)) fun t25_14 =>
 nb (gd (strip t25_14) true (M.pure (strip a0))) fun t27_15 =>
 nb (gd (strip t25_14) true (iaS 1 t27_15 (.int .i64 1))) fun t28_16 =>
 nb (gd (strip t25_14) true (ld none false t28_16)) fun t29_17 =>
 nb (gd (strip t25_14) true (fa 0 t5_12)) fun t30_18 =>
 nb (gd (strip t25_14) true (ld none false t30_18)) fun t31_19 =>
 nb (gd (strip t25_14) true (bi .lss .none t29_17 t31_19)) fun t32_20 =>
 nb (gd (strip t25_14) true (M.pure (strip t32_20))) fun t33_21 =>
 nb (gd t33_21 false (fa 1 t5_12)) fun t34_22 =>
 nb (gd t33_21 false (ld none false t34_22)) fun t35_23 =>
 nb (gd t33_21 false (M.pure (strip a0))) fun t36_24 =>
 nb (gd t33_21 false (iaS 1 t36_24 (.int .i64 1))) fun t37_25 =>
 nb (gd t33_21 false (ld none false t37_25)) fun t38_26 =>
 nb (gd t33_21 false (bi .lss .none t35_23 t38_26)) fun t39_27 =>
 nb (gd (strip t25_14) true (pick t33_21 (.bool true) t39_27)) fun t40_28 =>
 nb (pick (strip t25_14) t40_28 (.bool false)) fun t41_29 =>
 condM t41_29
 (M.pure (.bool true))
 (M.bind (bi .gtr .none (strip t7_0) (.int .i64 2)) fun t43_30 =>
 M.bind (gd (strip t43_30) true (M.pure (strip a0))) fun t45_31 =>
 M.bind (gd (strip t43_30) true (iaS 1 t45_31 (.int .i64 2))) fun t46_32 =>
 M.bind (gd (strip t43_30) true (ld none false t46_32)) fun t47_33 =>
 M.bind (gd (strip t43_30) true (bi .lss .none t47_33 (.int .u8 128))) fun t48_34 =>
 M.bind (gd (strip t43_30) true (M.pure (strip t48_34))) fun t49_35 =>
 M.bind (gd t49_35 false (M.pure (strip a0))) fun t50_36 =>
 M.bind (gd t49_35 false (iaS 1 t50_36 (.int .i64 2))) fun t51_37 =>
 M.bind (gd t49_35 false (ld none false t51_37)) fun t52_38 =>
 M.bind (gd t49_35 false (bi .lss .none (.int .u8 191) t52_38)) fun t53_39 =>
 M.bind (gd (strip t43_30) true (pick t49_35 (.bool true) t53_39)) fun t54_40 =>
 M.bind (pick (strip t43_30) t54_40 (.bool false)) fun t55_41 =>
 condM t55_41
 (M.pure (.bool true))
 (M.pure (.bool false)))))) := by
 rw [C, u02 _ _ rfl]; kernel_rfl
end Go.Proofs.YthnmienjiangkaaGreatDoor.Pi.Q
namespace Go.Proofs.YthnmienjiangkaaGreatDoor.Pi.Q
open Go Go.Proofs.YthnmienjiangkaaGreatDoor.Pi
attribute [local congr] ite_congr
def retU : Rs Nat → PV
  | .ok n p => .tup [.int .u64 n, .int .i64 p, .int .i64 0]
  | .err p e => .tup [.int .u64 0, .int .i64 p, .int .i64 e]
theorem dig_lt {B s x : Nat} (hB : B ≤ 64) (hi : s < B) (hx : x < 2 ^ (B - s)) : x * 2 ^ s < 2 ^ 64 := by
  have h1 : (x + 1) * 2 ^ s ≤ 2 ^ (B - s) * 2 ^ s := Nat.mul_le_mul_right _ hx
  have h2 : 2 ^ (B - s) * 2 ^ s = 2 ^ B := by rw [← Nat.pow_add, Nat.sub_add_cancel (by omega)]
  have h3 : 2 ^ B ≤ 2 ^ 64 := Nat.pow_le_pow_right (by omega) hB
  have h4 := Nat.pow_pos (n := s) (show 0 < 2 by omega)
  rw [Nat.add_mul] at h1
  omega
theorem us6 {H : Heap} {b : List UInt8} {z : Bool} {id a e B s n p : Nat} {x y w : PV} (hH : hget H id = some (.cells [BS z b, .int .i64 a, .int .i64 e]))
    (he : e ≤ b.length) (hb : b.length < 2 ^ 62) (hB : B ≤ 64) (hi : s < B) (hn : n < 2 ^ s) :
    run (u10 (.int .i64 B) (.ptr id 0) x y w (.int .u64 n) (.int .i64 s) (.int .i64 p)) H =
      if p < e then
        if B < s + 7 ∧ (b.getD p 0).toNat / 2 ^ (B - s) ≠ 0 then some (.ok (retU (.err p 4)) H)
        else if (b.getD p 0).toNat < 128 then some (.ok (retU (.ok (n + (b.getD p 0).toNat * 2 ^ s) (p + 1))) H)
        else run (u10 (.int .i64 B) (.ptr id 0) x y w (.int .u64 (n + (b.getD p 0).toNat % 128 * 2 ^ s : Nat)) (.int .i64 (s + 7 : Nat)) (.int .i64 (p + 1 : Nat))) H
      else some (.ok (retU (.err e 3)) H) := by
  have hid := get_lt hH
  have hset := u1g hH
  rw [u6o]
  by_cases hpe : p < e
  · have hpb : p < b.length := by omega
    have hg := ucy hpb
    have hgd : b.getD p 0 = b[p] := by simp [hpb]
    rw [hgd]
    generalize b[p] = c at hg hgd ⊢
    have hc := byt_lt c
    generalize hcn : c.toNat = cn at hc
    have s1 : (B : Int) - (s : Int) = ((B - s : Nat) : Int) := by omega
    simp +contextual -dsimp (disch := omega) only [↓goDown, goUp, cr, simprocAttr, hH, hg, byt, hcn, hset, s1, u6v, and127, u6t, u85, run_or, Int.toNat_natCast]
    have c0 : ¬ (e : Int) ≤ p := by omega
    rw [if_neg c0, if_pos hpe]
    have key : cn % 128 < 2 ^ (B - s) → IntKind.u64.wrap ((BitVec.ofInt IntKind.u64.bits (n : Int) ||| BitVec.ofInt IntKind.u64.bits (IntKind.u64.wrap (((cn % 128 : Nat) : Int) * 2 ^ shiftN .u64 (s : Int)))).toNat : Int) = ((n + cn % 128 * 2 ^ s : Nat) : Int) :=
      fun h => (uhw (by omega) hn (dig_lt hB hi h)).1
    have tail : cn % 128 < 2 ^ (B - s) → ∀ r, (if (cn : Int) < 128 then some (Out.ok (PV.tup [PV.int IntKind.u64 (IntKind.u64.wrap ((BitVec.ofInt IntKind.u64.bits (n : Int) ||| BitVec.ofInt IntKind.u64.bits (IntKind.u64.wrap (((cn % 128 : Nat) : Int) * 2 ^ shiftN .u64 (s : Int)))).toNat : Int)), PV.int IntKind.i64 (p + 1), PV.int IntKind.i64 0]) H) else r) =
        if cn < 128 then some (Out.ok (retU (Rs.ok (n + cn * 2 ^ s) (p + 1))) H) else r := by
      intro h r
      rw [key h]
      by_cases h1 : cn < 128
      · have c1 : (cn : Int) < 128 := by omega
        rw [if_pos h1, if_pos c1, Nat.mod_eq_of_lt h1]; rfl
      · have c1 : ¬ (cn : Int) < 128 := by omega
        rw [if_neg h1, if_neg c1]
    by_cases h7 : B - s < 7
    · have c1 : ((B - s : Nat) : Int) < 7 := by omega
      have c0 : B < s + 7 := by omega
      rw [if_pos c1, shr_u8 cn (s := B - s) (by omega)]
      by_cases hd : cn / 2 ^ (B - s) = 0
      · have hlt : cn < 2 ^ (B - s) := by
          rcases Nat.div_eq_zero_iff.mp hd with h | h
          · have := Nat.pow_pos (n := B - s) (show 0 < 2 by omega); omega
          · exact h
        have hlt2 : cn % 128 < 2 ^ (B - s) := Nat.lt_of_le_of_lt (Nat.mod_le _ _) hlt
        have c2 : ((cn / 2 ^ (B - s) : Nat) : Int) = 0 := by omega
        have c3 : ¬ (B < s + 7 ∧ ¬ cn / 2 ^ (B - s) = 0) := fun h => h.2 hd
        rw [if_pos c2, if_neg c3, tail hlt2, key hlt2]
        rfl
      · have c2 : ¬ ((cn / 2 ^ (B - s) : Nat) : Int) = 0 := by omega
        have c3 : B < s + 7 ∧ ¬ cn / 2 ^ (B - s) = 0 := ⟨c0, hd⟩
        rw [if_neg c2, if_pos c3]; rfl
    · have hlt2 : cn % 128 < 2 ^ (B - s) := by
        have : 2 ^ 7 ≤ 2 ^ (B - s) := Nat.pow_le_pow_right (by omega) (by omega)
        omega
      have c1 : ¬ ((B - s : Nat) : Int) < 7 := by omega
      have c3 : ¬ (B < s + 7 ∧ ¬ cn / 2 ^ (B - s) = 0) := by omega
      rw [if_neg c1, if_neg c3, tail hlt2, key hlt2]
      rfl
  · have c0 : (e : Int) ≤ p := by omega
    simp +contextual -dsimp (disch := omega) only [↓goDown, goUp, cr, simprocAttr, hH, hset, c0]
    rw [if_neg hpe]
    rfl
theorem unh {H : Heap} {b : List UInt8} {z : Bool} {id a e B : Nat} {x y w : PV} (hH : hget H id = some (.cells [BS z b, .int .i64 a, .int .i64 e]))
    (he : e ≤ b.length) (hb : b.length < 2 ^ 62) (hB : B ≤ 64) (hB7 : B % 7 ≠ 0) : ∀ (f i n p : Nat), 7 * i < B → B ≤ 7 * (i + f) → n < 2 ^ (7 * i) →
    run (u10 (.int .i64 B) (.ptr id 0) x y w (.int .u64 n) (.int .i64 (7 * i : Nat)) (.int .i64 p)) H = some (.ok (retU (lebU b B e f i n p)) H)
  | 0, i, n, p, hi, hf, hn => by omega
  | f + 1, i, n, p, hi, hf, hn => by
    rw [us6 hH he hb hB hi hn]
    unfold lebU
    by_cases h1 : p < e
    · simp only [if_pos h1]
      by_cases h2 : B < 7 * i + 7 ∧ (b.getD p 0).toNat / 2 ^ (B - 7 * i) ≠ 0
      · simp only [if_pos h2]
      · simp only [if_neg h2]
        by_cases h3 : (b.getD p 0).toNat < 128
        · simp only [if_pos h3]
        · simp only [if_neg h3]
          have h7 : ¬ B < 7 * i + 7 := by
            intro h
            refine h2 ⟨h, fun h0 => ?_⟩
            rcases Nat.div_eq_zero_iff.mp h0 with h | h'
            · have := Nat.pow_pos (n := B - 7 * i) (show 0 < 2 by omega); omega
            · have : 2 ^ (B - 7 * i) ≤ 2 ^ 6 := Nat.pow_le_pow_right (by omega) (by omega)
              omega
          by_cases h8 : 7 * (i + 1) < B
          · refine unh hH he hb hB hB7 f (i + 1) _ (p + 1) h8 (by omega) ?_
            have h4 : 2 ^ (7 * (i + 1)) = 128 * 2 ^ (7 * i) := by rw [Nat.mul_add, Nat.pow_add, Nat.mul_comm]
            have h5 : (b.getD p 0).toNat % 128 * 2 ^ (7 * i) ≤ 127 * 2 ^ (7 * i) := Nat.mul_le_mul_right _ (by omega)
            omega
          · omega
    · simp only [if_neg h1]
def rdU (b : List UInt8) (B e p : Nat) : Rs Nat := lebU b B e 10 0 0 p
theorem uhy {H : Heap} {b : List UInt8} {z : Bool} {p e : Int} :
    run (C u5h [BS z b, .int .i64 p, .int .i64 e]) H = if p < 0 ∨ b.length < e ∨ e < p then some (.ok (.tup [.agg [.slice false true 0 [], .int .i64 0, .int .i64 0], .int .i64 1]) H)
      else some (.ok (.tup [.agg [BS z b, .int .i64 p, .int .i64 e], .int .i64 0]) H) := by
  rw [ui4]
  simp +contextual -dsimp (disch := omega) only [↓goDown, goUp, cr, simprocAttr, List.length_map]
  by_cases h1 : p < 0
  · simp [h1]
  · by_cases h2 : (b.length : Int) < e
    · simp [h1, h2]
    · by_cases h3 : e < p
      · simp [h1, h2, h3]
      · simp [h1, h2, h3]
theorem ua2 {H : Heap} {b : List UInt8} {z : Bool} {p e B : Nat} (he : e ≤ b.length) (hb : b.length < 2 ^ 62) (hB : B = 32 ∨ B = 64) :
    run (C u1i [.agg [BS z b, .int .i64 p, .int .i64 e], .int .i64 B]) H = some (.ok (retU (rdU b B e p)) H) := by
  rw [u99]
  have h : ∀ (x y w : PV), run (u10 (.int .i64 B) (.ptr H.length 0) x y w (.int .u64 0) (.int .i64 0) (.int .i64 p)) (hadd H [.cells [BS z b, .int .i64 p, .int .i64 e]]) = some (.ok (retU (rdU b B e p)) (hadd H [.cells [BS z b, .int .i64 p, .int .i64 e]])) :=
    fun x y w => unh (by rw [u8x]; rfl) he hb (by omega) (by omega) 10 0 0 p (by omega) (by omega) (by decide)
  have hl : ∀ n, (retU (rdU b B e p)).low n = true := by intro n; unfold retU; split <;> simp [u54, u6d, ub9, u8c]
  simp +contextual -dsimp (disch := omega) only [↓goDown, goUp, cr, simprocAttr, h, hl]
end Go.Proofs.YthnmienjiangkaaGreatDoor.Pi.Q
namespace Go.Proofs.YthnmienjiangkaaGreatDoor.Pi.Q
open Go Go.Proofs.YthnmienjiangkaaGreatDoor.Pi
attribute [local congr] ite_congr
def retS : Rs Int → PV
  | .ok n p => .tup [.int .i64 n, .int .i64 p, .int .i64 0]
  | .err p e => .tup [.int .i64 0, .int .i64 p, .int .i64 e]
theorem uv6 {H : Heap} {b : List UInt8} {id B s n p c : Nat} {x y w : PV} (hs : s ≤ 63) (hn : n < 2 ^ s) (hp : p < 2 ^ 62) (hc : c < 256) (hB : s < B):
    run (u1n (.int .i64 B) (.ptr id 0) x y w (.int .i64 (IntKind.i64.wrap n)) (.int .i64 s) (.int .i64 p) (.int .u8 c)) H =
      if c < 128 then some (.ok (retS (.ok (IntKind.i64.wrap (n + lastS c s)) (p + 1))) H)
      else run (u0x (.int .i64 B) (.ptr id 0) x y w (.int .i64 (IntKind.i64.wrap (n + c % 128 * 2 ^ s : Nat))) (.int .i64 (s + 7 : Nat)) (.int .i64 (p + 1 : Nat))) H := by
  rw [u5w]
  have e1 : shiftN .i64 (s : Int) = s := uae (by omega)
  have key : IntKind.i64.wrap ((BitVec.ofInt IntKind.i64.bits (IntKind.i64.wrap n) ||| BitVec.ofInt IntKind.i64.bits (IntKind.i64.wrap (((c % 128 : Nat) : Int) * 2 ^ shiftN .i64 (s : Int)))).toNat : Int) = IntKind.i64.wrap ((n + c % 128 * 2 ^ s : Nat) : Int) := by
    rw [e1]
    have h := unp (N := (n : Int)) (x := ((c % 128 : Nat) : Int)) hs (by omega) (by exact_mod_cast hn)
    unfold or64 at h
    refine h.trans ?_
    push_cast
    rfl
  have w1 : IntKind.i64.wrap ((c % 128 : Nat) : Int) = ((c % 128 : Nat) : Int) := w_i64 (by omega)
  simp +contextual -dsimp (disch := omega) only [↓goDown, goUp, cr, simprocAttr, u6v, and127, u6t, u85, run_or, u4r, key, w1]
  have e2 : ((s : Int) + 7) = ((s + 7 : Nat) : Int) := rfl
  have e3 : ((p : Int) + 1) = ((p + 1 : Nat) : Int) := rfl
  by_cases hlt : c < 128
  · have c1 : (c : Int) < 128 := by omega
    have hm : c % 128 = c := Nat.mod_eq_of_lt hlt
    rw [if_pos c1, if_pos hlt, and64 c hlt, hm]
    by_cases h64 : c < 64
    · rw [if_pos h64, if_pos rfl]
      unfold lastS
      rw [if_pos h64]
      push_cast
      rfl
    · rw [if_neg h64, if_neg (by decide)]
      unfold lastS
      rw [if_neg h64]
      have ep : (2 : Int) ^ (s + 7) = 128 * 2 ^ s := by rw [Int.pow_add, Int.mul_comm]; rfl
      by_cases h7 : s + 7 < 64
      · have c2 : (s : Int) + 7 < 64 := by omega
        rw [if_pos c2, e2, uae (by omega)]
        have h1 : n + c * 2 ^ s < 2 ^ (s + 7) := by
          have : (c + 1) * 2 ^ s ≤ 128 * 2 ^ s := Nat.mul_le_mul_right _ (by omega)
          have e : 2 ^ (s + 7) = 128 * 2 ^ s := by rw [Nat.pow_add, Nat.mul_comm]
          rw [Nat.add_mul] at this
          omega
        have h := unp (N := ((n + c * 2 ^ s : Nat) : Int)) (x := -1) (s := s + 7) (by omega) (by omega) (by exact_mod_cast h1)
        unfold or64 at h
        have h2 : IntKind.i64.wrap (((n + c * 2 ^ s : Nat) : Int) + -1 * 2 ^ (s + 7)) = IntKind.i64.wrap ((n : Int) + ((c : Int) - 128) * 2 ^ s) := by
          congr 1
          rw [ep, Int.sub_mul]
          push_cast
          omega
        exact congrArg (fun v => some (Out.ok (PV.tup [PV.int IntKind.i64 v, PV.int IntKind.i64 ((p : Int) + 1), PV.int IntKind.i64 0]) H)) (h.trans h2)
      · have c2 : ¬ (s : Int) + 7 < 64 := by omega
        rw [if_neg c2]
        have h2 : IntKind.i64.wrap ((n + c * 2 ^ s : Nat) : Int) = IntKind.i64.wrap ((n : Int) + ((c : Int) - 128) * 2 ^ s) := by
          apply umz
          have e9 : (128 : Int) * 2 ^ s = 2 ^ (s + 7 - 64) * 18446744073709551616 := by
            rw [← ep, pow64 (s := 64) (by omega), Nat.sub_self, Int.pow_zero, Int.one_mul, ← Int.pow_add]
            congr 1
            omega
          have e8 : ((n + c * 2 ^ s : Nat) : Int) = ((n : Int) + ((c : Int) - 128) * 2 ^ s) + 2 ^ (s + 7 - 64) * 18446744073709551616 := by
            rw [← e9, Int.sub_mul]
            push_cast
            omega
          rw [e8, Int.add_mul_emod_self_right]
        exact congrArg (fun v => some (Out.ok (PV.tup [PV.int IntKind.i64 v, PV.int IntKind.i64 ((p : Int) + 1), PV.int IntKind.i64 0]) H)) h2
  · have c1 : ¬ (c : Int) < 128 := by omega
    rw [if_neg c1, if_neg hlt, e2, e3]
theorem uti {H : Heap} {b : List UInt8} {z : Bool} {id a e B s n p : Nat} {x y w : PV} (hH : hget H id = some (.cells [BS z b, .int .i64 a, .int .i64 e]))
    (he : e ≤ b.length) (hb : b.length < 2 ^ 62) (hB : B = 32 ∨ B = 33 ∨ B = 64) (hs7 : s % 7 = 0) (hi : s < B) (hn : n < 2 ^ s) :
    run (u0x (.int .i64 B) (.ptr id 0) x y w (.int .i64 (IntKind.i64.wrap n)) (.int .i64 s) (.int .i64 p)) H =
      if p < e then
        if B < s + 7 ∧ ¬ okS (B - s) (b.getD p 0).toNat then some (.ok (retS (.err p 4)) H)
        else if (b.getD p 0).toNat < 128 then some (.ok (retS (.ok (IntKind.i64.wrap (n + lastS (b.getD p 0).toNat s)) (p + 1))) H)
        else run (u0x (.int .i64 B) (.ptr id 0) x y w (.int .i64 (IntKind.i64.wrap (n + (b.getD p 0).toNat % 128 * 2 ^ s : Nat))) (.int .i64 (s + 7 : Nat)) (.int .i64 (p + 1 : Nat))) H
      else some (.ok (retS (.err e 3)) H) := by
  have hid := get_lt hH
  have hset := u1g hH
  rw [u7l]
  by_cases hpe : p < e
  · have hpb : p < b.length := by omega
    have hg := ucy hpb
    have hgd : b.getD p 0 = b[p] := by simp [hpb]
    rw [hgd]
    generalize b[p] = c at hg hgd ⊢
    have hc := byt_lt c
    generalize hcn : c.toNat = cn at hc
    have s1 : (B : Int) - (s : Int) = ((B - s : Nat) : Int) := by omega
    have c0 : ¬ (e : Int) ≤ p := by omega
    have hj := fun (u v w : PV) => uv6 (H := H) (b := b) (id := id) (B := B) (s := s) (n := n) (p := p) (c := cn) (x := u) (y := v) (w := w) (by omega) hn (by omega) hc hi
    simp +contextual -dsimp (disch := omega) only [↓goDown, goUp, cr, simprocAttr, hH, hg, byt, hcn, hset, s1, u6v, u6t, u85, run_or, Int.toNat_natCast, hj, c0]
    rw [if_pos hpe]
    by_cases h7 : B - s < 7
    · have c1 : ((B - s : Nat) : Int) < 7 := by omega
      have c3 : B < s + 7 := by omega
      rw [if_pos c1]
      by_cases h128 : cn < 128
      · have c2 : ¬ (128 : Int) ≤ cn := by omega
        have ht := top_ok (h := B - s) (by omega) h128
        rw [if_neg c2]
        by_cases h0 : (IntKind.i8.wrap (IntKind.u8.wrap ((cn : Int) * 2 ^ shiftN .u8 1))).fdiv (2 ^ shiftN .i8 ((B - s : Nat) : Int)) = 0
        · have c4 : ¬ (B < s + 7 ∧ ¬ okS (B - s) cn) := fun h => h.2 (ht.mp (.inl h0))
          rw [if_pos h0, if_neg c4, if_pos h128, if_pos h128]
        · rw [if_neg h0]
          by_cases h1 : (IntKind.i8.wrap (IntKind.u8.wrap ((cn : Int) * 2 ^ shiftN .u8 1))).fdiv (2 ^ shiftN .i8 ((B - s : Nat) : Int)) = -1
          · have c4 : ¬ (B < s + 7 ∧ ¬ okS (B - s) cn) := fun h => h.2 (ht.mp (.inr h1))
            rw [if_pos h1, if_neg c4, if_pos h128, if_pos h128]
          · have c4 : B < s + 7 ∧ ¬ okS (B - s) cn := ⟨c3, fun h => (ht.mpr h).elim h0 h1⟩
            rw [if_neg h1, if_pos c4]
            rfl
      · have c2 : (128 : Int) ≤ cn := by omega
        have c4 : B < s + 7 ∧ ¬ okS (B - s) cn := ⟨c3, fun h => h128 h.1⟩
        rw [if_pos c2, if_pos c4]
        rfl
    · have c1 : ¬ ((B - s : Nat) : Int) < 7 := by omega
      have c4 : ¬ (B < s + 7 ∧ ¬ okS (B - s) cn) := by omega
      rw [if_neg c1, if_neg c4]
  · have c0 : (e : Int) ≤ p := by omega
    simp +contextual -dsimp (disch := omega) only [↓goDown, goUp, cr, simprocAttr, hH, hset, c0]
    rw [if_neg hpe]
    rfl
theorem uog {H : Heap} {b : List UInt8} {z : Bool} {id a e B : Nat} {x y w : PV} (hH : hget H id = some (.cells [BS z b, .int .i64 a, .int .i64 e]))
    (he : e ≤ b.length) (hb : b.length < 2 ^ 62) (hB : B = 32 ∨ B = 33 ∨ B = 64) : ∀ (f i n p : Nat), 7 * i < B → B ≤ 7 * (i + f) → n < 2 ^ (7 * i) →
    run (u0x (.int .i64 B) (.ptr id 0) x y w (.int .i64 (IntKind.i64.wrap n)) (.int .i64 (7 * i : Nat)) (.int .i64 p)) H = some (.ok (retS (lebS b B e f i n p)) H)
  | 0, i, n, p, hi, hf, hn => by omega
  | f + 1, i, n, p, hi, hf, hn => by
    rw [uti hH he hb hB (by omega) hi hn]
    unfold lebS
    by_cases h1 : p < e
    · simp only [if_pos h1]
      by_cases h2 : B < 7 * i + 7 ∧ ¬ okS (B - 7 * i) (b.getD p 0).toNat
      · simp only [if_pos h2]
      · simp only [if_neg h2]
        by_cases h3 : (b.getD p 0).toNat < 128
        · simp only [if_pos h3]
        · simp only [if_neg h3]
          have h7 : ¬ B < 7 * i + 7 := fun h => h2 ⟨h, fun h0 => h3 h0.1⟩
          refine uog hH he hb hB f (i + 1) _ (p + 1) (by omega) (by omega) ?_
          have h4 : 2 ^ (7 * (i + 1)) = 128 * 2 ^ (7 * i) := by rw [Nat.mul_add, Nat.pow_add, Nat.mul_comm]
          have h5 : (b.getD p 0).toNat % 128 * 2 ^ (7 * i) ≤ 127 * 2 ^ (7 * i) := Nat.mul_le_mul_right _ (by omega)
          omega
    · simp only [if_neg h1]
theorem uhx {H : Heap} {b : List UInt8} {z : Bool} {p e B : Nat} (he : e ≤ b.length) (hb : b.length < 2 ^ 62) (hB : B = 32 ∨ B = 33 ∨ B = 64) :
    run (C u1q [.agg [BS z b, .int .i64 p, .int .i64 e], .int .i64 B]) H = some (.ok (retS (rdS b B e p)) H) := by
  rw [uav]
  have h : ∀ (x y w : PV), run (u0x (.int .i64 B) (.ptr H.length 0) x y w (.int .i64 0) (.int .i64 0) (.int .i64 p)) (hadd H [.cells [BS z b, .int .i64 p, .int .i64 e]]) = some (.ok (retS (rdS b B e p)) (hadd H [.cells [BS z b, .int .i64 p, .int .i64 e]])) :=
    fun x y w => uog (by rw [u8x]; rfl) he hb hB 10 0 0 p (by omega) (by omega) (by decide)
  have hl : ∀ n, (retS (rdS b B e p)).low n = true := by intro n; unfold retS; split <;> simp [u54, u6d, ub9, u8c]
  simp +contextual -dsimp (disch := omega) only [↓goDown, goUp, cr, simprocAttr, h, hl]
end Go.Proofs.YthnmienjiangkaaGreatDoor.Pi.Q
namespace Go.Proofs.YthnmienjiangkaaGreatDoor.Pi.Q
open Go Go.Proofs.YthnmienjiangkaaGreatDoor.Pi
attribute [local congr] ite_congr
def retN : Rs Int → PV
  | .ok n p => .tup [.int .u64 (IntKind.u64.wrap n), .int .i64 p, .int .i64 0]
  | .err p e => .tup [.int .u64 0, .int .i64 p, .int .i64 e]
theorem usp (c : Nat) {s : Nat} (h : s ≤ 64) : (c : Int).fdiv (2 ^ shiftN .i64 (s : Int)) = ((c / 2 ^ s : Nat) : Int) := by
  rw [uae h, Int.fdiv_eq_ediv_of_nonneg _ (Int.le_of_lt (Int.pow_pos (by omega)))]
  simp
theorem uwp {H : Heap} {c B i : Nat} {sg : Bool} (hc : c < 256) (hB : B ≤ 64) (hi : 7 * i < B) (hi2 : B < 7 * i + 7) :
    run (C u5e [.int .u8 c, .int .i64 B, .int .i64 i, .bool sg]) H = some (.ok (.bool (if sg then decide (okS (B - 7 * i) c) else decide (c / 2 ^ (B - 7 * i) = 0))) H) := by
  rw [uau]
  have e1 : (7 : Int) * (i : Int) = ((7 * i : Nat) : Int) := by omega
  have e2 : (B : Int) - ((7 * i : Nat) : Int) = ((B - 7 * i : Nat) : Int) := by omega
  have e3 : ((B - 7 * i : Nat) : Int) - 1 = ((B - 7 * i - 1 : Nat) : Int) := by omega
  have e4 : (8 : Int) - ((B - 7 * i : Nat) : Int) = ((8 - (B - 7 * i) : Nat) : Int) := by omega
  generalize hL : B - 7 * i = L at *
  have w1 : IntKind.i64.wrap ((7 * i : Nat) : Int) = ((7 * i : Nat) : Int) := w_i64 (by omega)
  have ep : (2 : Int) ^ (8 - L) = ((2 ^ (8 - L) : Nat) : Int) := by simp
  have p1 : 2 ^ (8 - L) ≤ 2 ^ 8 := Nat.pow_le_pow_right (by omega) (by omega)
  have hp : ∀ k : Nat, (0 : Nat) < 2 ^ k := fun k => Nat.pow_pos (by omega)
  have s1 : shiftN .i64 ((8 - L : Nat) : Int) = 8 - L := uae (by omega)
  have q1 : (c : Int).fdiv (2 ^ shiftN .i64 (L : Int)) = ((c / 2 ^ L : Nat) : Int) := usp c (by omega)
  have q2 : (c : Int).fdiv (2 ^ shiftN .i64 ((L - 1 : Nat) : Int)) = ((c / 2 ^ (L - 1) : Nat) : Int) := usp c (by omega)
  have w2 : IntKind.i64.wrap (1 * 2 ^ (8 - L)) = 2 ^ (8 - L) := by
    rw [Int.one_mul, ep]
    generalize (2 : Nat) ^ (8 - L) = q at p1
    exact w_i64 (by omega)
  have p2 := hp (8 - L)
  have e5 : (((2 ^ (8 - L) : Nat) : Int) - 1) = ((2 ^ (8 - L) - 1 : Nat) : Int) := by omega
  cases sg
  · simp +contextual -dsimp (disch := omega) only [↓goDown, goUp, cr, simprocAttr, u6v, u6t, u85, run_or, un_not, e1, w1, e2, e3, e4, s1, q1, q2, w2]
    by_cases h128 : c < 128
    · have c1 : ¬ (128 : Int) ≤ c := by omega
      rw [if_neg c1]
      congr 3
      rw [Bool.eq_iff_iff]
      simp only [beq_iff_eq, decide_eq_true_eq]
      omega
    · have c1 : (128 : Int) ≤ c := by omega
      rw [if_pos c1]
      have h6 : 2 ^ L ≤ 2 ^ 6 := Nat.pow_le_pow_right (by omega) (by omega)
      have : ¬ c / 2 ^ L = 0 := by
        intro h
        rcases Nat.div_eq_zero_iff.mp h with h | h
        · have := hp L; omega
        · omega
      simp [this]
  · simp +contextual -dsimp (disch := omega) only [↓goDown, goUp, cr, simprocAttr, u6v, u6t, u85, run_or, un_not, e1, w1, e2, e3, e4, s1, q1, q2, w2, ep, e5]
    by_cases h128 : c < 128
    · have c1 : ¬ (128 : Int) ≤ c := by omega
      rw [if_neg c1]
      have hd : decide (okS L c) = (decide (c / 2 ^ (L - 1) = 0) || decide (c / 2 ^ (L - 1) = 2 ^ (8 - L) - 1)) := by
        unfold okS
        simp [h128]
      rw [hd]
      by_cases z : c / 2 ^ (L - 1) = 0
      · have z' : ((c / 2 ^ (L - 1) : Nat) : Int) = 0 := by omega
        simp [z, z']
      · have z' : ¬ ((c / 2 ^ (L - 1) : Nat) : Int) = 0 := by omega
        rw [if_neg z']
        congr 3
        rw [Bool.eq_iff_iff]
        simp only [beq_iff_eq, Bool.or_eq_true, decide_eq_true_eq]
        omega
    · have c1 : (128 : Int) ≤ c := by omega
      rw [if_pos c1]
      have : ¬ okS L c := fun h => h128 h.1
      simp [this]
theorem wu (x : Int) : IntKind.u64.wrap x = x % 18446744073709551616 := by simp only [IntKind.wrap, IntKind.signed, IntKind.bits]; simp
theorem wu_wi (x : Int) : IntKind.u64.wrap (IntKind.i64.wrap x) = IntKind.u64.wrap x := by rw [wu, wu, ul7]
theorem wu_add (n y : Int) : IntKind.u64.wrap (n + IntKind.u64.wrap y) = IntKind.u64.wrap (n + y) := by rw [wu, wu, wu]; omega
theorem wu_sub (n y : Int) : IntKind.u64.wrap (IntKind.u64.wrap n - IntKind.u64.wrap y) = IntKind.u64.wrap (n - y) := by rw [wu, wu, wu, wu]; omega
theorem um1 (c : Nat) : ((c : Nat) : Int).tmod 128 = ((c % 128 : Nat) : Int) := by rw [Int.tmod_eq_emod_of_nonneg (by omega)]; omega
theorem fits {n x s : Nat} (hs : s ≤ 63) (hn : n < 2 ^ s) (hx : x * 2 ^ s < 2 ^ 64) : n + x * 2 ^ s < 2 ^ 64 := (uhw hs hn hx).2
theorem valS1 {n c s : Nat} (hc : ¬ c < 64) : IntKind.u64.wrap ((n : Int) + ((c * 2 ^ s : Nat) : Int) - 1 * 2 ^ (s + 7)) = IntKind.u64.wrap (n + lastS c s) := by
  congr 1
  unfold lastS
  rw [if_neg hc, Int.sub_mul]
  have ep : (2 : Int) ^ (s + 7) = 128 * 2 ^ s := by rw [Int.pow_add, Int.mul_comm]; rfl
  rw [ep]
  push_cast
  omega
theorem valS2 {n c s : Nat} (hc : ¬ c < 64) (hs : 57 ≤ s) : IntKind.u64.wrap ((n : Int) + ((c * 2 ^ s : Nat) : Int)) = IntKind.u64.wrap (n + lastS c s) := by
  unfold lastS
  rw [if_neg hc, Int.sub_mul]
  have ep : (2 : Int) ^ (s + 7) = 128 * 2 ^ s := by rw [Int.pow_add, Int.mul_comm]; rfl
  have e9 : (128 : Int) * 2 ^ s = 2 ^ (s + 7 - 64) * 18446744073709551616 := by
    rw [← ep, pow64 (s := 64) (by omega), Nat.sub_self, Int.pow_zero, Int.one_mul, ← Int.pow_add]
    congr 1
    omega
  have e8 : ((n : Int) + ((c * 2 ^ s : Nat) : Int)) = ((n : Int) + ((c : Int) * 2 ^ s - 128 * 2 ^ s)) + 2 ^ (s + 7 - 64) * 18446744073709551616 := by
    rw [← e9]
    push_cast
    omega
  rw [e8, wu, wu, Int.add_mul_emod_self_right]
theorem valS3 {n c s : Nat} (hc : c < 64) : ((n : Int) + ((c * 2 ^ s : Nat) : Int)) = (n + lastS c s) := by
  unfold lastS
  rw [if_pos hc]
  push_cast
  rfl
theorem ujy {H : Heap} {b : List UInt8} {z sg : Bool} {v10 v11 v12 : PV} {a e B i n : Nat} (he : e ≤ b.length) (hb : b.length < 2 ^ 61) (hB : B = 32 ∨ B = 33 ∨ B = 64) (hi : 7 * i < B) (hn : n < 2 ^ (7 * i)) (ha : a ≤ e) :
    run (u0d (BS z b) (.int .i64 a) (.int .i64 e) (.int .i64 B) (.bool sg) v10 v11 v12 (.int .i64 ((B + 6) / 7 : Nat)) (.int .u64 n) (.int .i64 i)) H =
      if a + i < e then
        if B < 7 * i + 7 ∧ ¬ (if sg then okS (B - 7 * i) (b.getD (a + i) 0).toNat else (b.getD (a + i) 0).toNat / 2 ^ (B - 7 * i) = 0) then some (.ok (.tup [.int .u64 0, .int .i64 (a + i : Nat), .int .i64 4]) H)
        else if (b.getD (a + i) 0).toNat < 128 then
          some (.ok (.tup [.int .u64 (IntKind.u64.wrap (n + if sg then lastS (b.getD (a + i) 0).toNat (7 * i) else (((b.getD (a + i) 0).toNat * 2 ^ (7 * i) : Nat) : Int))), .int .i64 (a + i + 1 : Nat), .int .i64 0]) H)
        else run (u0d (BS z b) (.int .i64 a) (.int .i64 e) (.int .i64 B) (.bool sg) v10 v11 v12 (.int .i64 ((B + 6) / 7 : Nat)) (.int .u64 (n + (b.getD (a + i) 0).toNat % 128 * 2 ^ (7 * i) : Nat)) (.int .i64 (i + 1 : Nat))) H
      else some (.ok (.tup [.int .u64 0, .int .i64 e, .int .i64 3]) H) := by
  rw [u5z]
  have c1 : (i : Int) < ((B + 6) / 7 : Nat) := by omega
  have e1 : (a : Int) + (i : Int) = ((a + i : Nat) : Int) := rfl
  by_cases hpe : a + i < e
  · have hpb : a + i < b.length := by omega
    have hg := ucy hpb
    have hgd : b.getD (a + i) 0 = b[a + i] := by simp [hpb]
    rw [hgd, if_pos hpe]
    generalize b[a + i] = c at hg hgd ⊢
    have hc := byt_lt c
    generalize hcn : c.toNat = cn at hc
    have c0 : ¬ (e : Int) ≤ ((a + i : Nat) : Int) := by omega
    have e2 : (7 : Int) * (i : Int) = ((7 * i : Nat) : Int) := by omega
    have e3 : ((7 * i : Nat) : Int) + 7 = ((7 * i + 7 : Nat) : Int) := by omega
    have w1 : IntKind.u64.wrap ((7 * i : Nat) : Int) = ((7 * i : Nat) : Int) := w_u64 (by omega)
    have w2 : IntKind.i64.wrap ((7 * i : Nat) : Int) = ((7 * i : Nat) : Int) := w_i64 (by omega)
    have w3 : IntKind.u64.wrap ((cn % 128 : Nat) : Int) = ((cn % 128 : Nat) : Int) := w_u64 (by omega)
    have s1 : shiftN .u64 ((7 * i : Nat) : Int) = 7 * i := ucq (by omega)
    have e4 : (((cn % 128 : Nat) : Int) * 2 ^ (7 * i)) = ((cn % 128 * 2 ^ (7 * i) : Nat) : Int) := by simp
    have e5 : (i : Int) + 1 = ((i + 1 : Nat) : Int) := rfl
    have fin : ∀ (w : Int), w = IntKind.u64.wrap w → run (u07 (BS z b) (.int .i64 a) (.int .i64 e) (.int .i64 B) (.bool sg) v10 v11 v12 (.int .i64 ((B + 6) / 7 : Nat)) (.int .u64 w) (.int .i64 i)) H = some (.ok (.tup [.int .u64 w, .int .i64 (a + i + 1 : Nat), .int .i64 0]) H) := by
      intro w hw
      rw [u45]
      simp +contextual -dsimp (disch := omega) only [↓goDown, goUp, cr, simprocAttr, e1]
      all_goals rfl
    have idem : ∀ x : Int, IntKind.u64.wrap x = IntKind.u64.wrap (IntKind.u64.wrap x) := by intro x; rw [wu, wu]; omega
    have wrap0 : ∀ (m : Nat), IntKind.u64.wrap (m : Int) = IntKind.u64.wrap m := fun _ => rfl
    -- the digits, joined
    have dig : B < 7 * i + 7 ∧ ¬ (if sg then okS (B - 7 * i) cn else cn / 2 ^ (B - 7 * i) = 0) ∨ ((cn < 128 ∨ 7 * i + 7 ≤ B)) := by
      by_cases h7 : B < 7 * i + 7
      · by_cases h128 : cn < 128
        · exact .inr (.inl h128)
        · left
          refine ⟨h7, ?_⟩
          cases sg with
          | true => simp only [if_true]; exact fun h => h128 h.1
          | false =>
            simp only [Bool.false_eq_true, if_false]
            intro h
            have h6 : 2 ^ (B - 7 * i) ≤ 2 ^ 6 := Nat.pow_le_pow_right (by omega) (by omega)
            have h0 : 0 < 2 ^ (B - 7 * i) := Nat.pow_pos (by omega)
            rcases Nat.div_eq_zero_iff.mp h with h | h <;> omega
      · exact .inr (.inr (by omega))
    have hm : cn < 128 → cn % 128 = cn := fun h => Nat.mod_eq_of_lt h
    have close : cn < 128 → (if sg = true then
        if (64 : Int) ≤ cn then
          if ((7 * i + 7 : Nat) : Int) < 64 then
            run (u07 (BS z b) (.int .i64 a) (.int .i64 e) (.int .i64 B) (.bool true) v10 v11 v12 (.int .i64 ((B + 6) / 7 : Nat)) (.int .u64 (IntKind.u64.wrap (IntKind.u64.wrap ((n : Int) + IntKind.u64.wrap ((cn % 128 * 2 ^ (7 * i) : Nat) : Int)) - IntKind.u64.wrap (1 * 2 ^ shiftN .u64 ((7 * i + 7 : Nat) : Int))))) (.int .i64 i)) H
          else run (u07 (BS z b) (.int .i64 a) (.int .i64 e) (.int .i64 B) (.bool true) v10 v11 v12 (.int .i64 ((B + 6) / 7 : Nat)) (.int .u64 (IntKind.u64.wrap ((n : Int) + IntKind.u64.wrap ((cn % 128 * 2 ^ (7 * i) : Nat) : Int)))) (.int .i64 i)) H
        else run (u07 (BS z b) (.int .i64 a) (.int .i64 e) (.int .i64 B) (.bool true) v10 v11 v12 (.int .i64 ((B + 6) / 7 : Nat)) (.int .u64 (IntKind.u64.wrap ((n : Int) + IntKind.u64.wrap ((cn % 128 * 2 ^ (7 * i) : Nat) : Int)))) (.int .i64 i)) H
      else run (u07 (BS z b) (.int .i64 a) (.int .i64 e) (.int .i64 B) (.bool false) v10 v11 v12 (.int .i64 ((B + 6) / 7 : Nat)) (.int .u64 (IntKind.u64.wrap ((n : Int) + IntKind.u64.wrap ((cn % 128 * 2 ^ (7 * i) : Nat) : Int)))) (.int .i64 i)) H) =
      some (.ok (.tup [.int .u64 (IntKind.u64.wrap (n + if sg = true then lastS cn (7 * i) else ((cn * 2 ^ (7 * i) : Nat) : Int))), .int .i64 (a + i + 1 : Nat), .int .i64 0]) H) := by
      intro h
      rw [hm h, wu_add, wu_sub]
      cases sg with
      | true =>
        simp only [if_true] at fin ⊢
        by_cases h64 : cn < 64
        · have q : ¬ (64 : Int) ≤ cn := by omega
          rw [if_neg q, fin _ (idem _), valS3 h64]
        · have q : (64 : Int) ≤ cn := by omega
          rw [if_pos q]
          by_cases hs : 7 * i + 7 < 64
          · have q2 : ((7 * i + 7 : Nat) : Int) < 64 := by omega
            rw [if_pos q2, ucq (by omega), valS1 h64, fin _ (idem _)]
          · have q2 : ¬ ((7 * i + 7 : Nat) : Int) < 64 := by omega
            rw [if_neg q2, valS2 h64 (by omega), fin _ (idem _)]
      | false =>
        simp only [Bool.false_eq_true, if_false] at fin ⊢
        rw [fin _ (idem _)]
    by_cases h7 : B < 7 * i + 7
    · have c2 : ((i : Int) = ((B + 6) / 7 : Nat) - 1) = True := eq_true (by omega)
      have hl := uwp (H := H) (sg := sg) hc (by omega) hi h7
      by_cases hbad : (if sg then okS (B - 7 * i) cn else cn / 2 ^ (B - 7 * i) = 0)
      · have hbt : (if sg then decide (okS (B - 7 * i) cn) else decide (cn / 2 ^ (B - 7 * i) = 0)) = true := by cases sg <;> simpa using hbad
        rw [hbt] at hl
        have n1 : ¬ (B < 7 * i + 7 ∧ ¬ (if sg then okS (B - 7 * i) cn else cn / 2 ^ (B - 7 * i) = 0)) := fun h => h.2 hbad
        have h128 : cn < 128 := by rcases dig with h | h | h; exact absurd hbad h.2; exact h; omega
        have h128' : ((cn : Int) < 128) = True := eq_true (by omega)
        rw [if_neg n1, if_pos h128]
        simp +contextual -dsimp (disch := omega) only [↓goDown, goUp, cr, simprocAttr, hg, byt, hcn, u6v, u6t, u85, run_or, Int.toNat_natCast, c0, c1, c2, e1, e2, w1, w2, w3, e3, s1, e4, e5, hl, un_not, um1, h128']
        exact close h128
      · have hbt : (if sg then decide (okS (B - 7 * i) cn) else decide (cn / 2 ^ (B - 7 * i) = 0)) = false := by cases sg <;> simpa using hbad
        rw [hbt] at hl
        have n1 : (B < 7 * i + 7 ∧ ¬ (if sg then okS (B - 7 * i) cn else cn / 2 ^ (B - 7 * i) = 0)) := ⟨h7, hbad⟩
        rw [if_pos n1]
        simp +contextual -dsimp (disch := omega) only [↓goDown, goUp, cr, simprocAttr, hg, byt, hcn, Int.toNat_natCast, c0, c1, c2, e1, hl, un_not]
    · have c2 : ((i : Int) = ((B + 6) / 7 : Nat) - 1) = False := eq_false (by omega)
      have n1 : ¬ (B < 7 * i + 7 ∧ ¬ (if sg then okS (B - 7 * i) cn else cn / 2 ^ (B - 7 * i) = 0)) := fun h => h7 h.1
      rw [if_neg n1]
      by_cases h128 : cn < 128
      · have h128' : ((cn : Int) < 128) = True := eq_true (by omega)
        have c5 : ((7 * i + 7 : Nat) : Int) < 64 := by omega
        rw [if_pos h128]
        simp +contextual -dsimp (disch := omega) only [↓goDown, goUp, cr, simprocAttr, hg, byt, hcn, u6v, u6t, u85, run_or, Int.toNat_natCast, c0, c1, c2, e1, e2, w1, w2, w3, e3, s1, e4, e5, un_not, um1, h128', c5]
        have cl := close h128
        rw [if_pos c5] at cl
        exact cl
      · have h128' : ((cn : Int) < 128) = False := eq_false (by omega)
        rw [if_neg h128]
        have hx : cn % 128 * 2 ^ (7 * i) < 2 ^ 64 := dig_lt (B := 63) (by omega) (by omega) (by
          have : 2 ^ 7 ≤ 2 ^ (63 - 7 * i) := Nat.pow_le_pow_right (by omega) (by omega)
          omega)
        have hf := fits (by omega) hn hx
        have w4 : IntKind.u64.wrap ((n : Int) + IntKind.u64.wrap ((cn % 128 * 2 ^ (7 * i) : Nat) : Int)) = ((n + cn % 128 * 2 ^ (7 * i) : Nat) : Int) := by
          rw [wu_add]
          generalize cn % 128 * 2 ^ (7 * i) = q at hf
          exact w_u64 (by omega)
        simp +contextual -dsimp (disch := omega) only [↓goDown, goUp, cr, simprocAttr, hg, byt, hcn, u6v, u6t, u85, run_or, Int.toNat_natCast, c0, c1, c2, e1, e2, w1, w2, w3, e3, s1, e4, e5, un_not, um1, h128', w4]
        all_goals rfl
  · have c0 : (e : Int) ≤ ((a + i : Nat) : Int) := by omega
    simp +contextual -dsimp (disch := omega) only [↓goDown, goUp, cr, simprocAttr, c0, c1, e1]
    rw [if_neg hpe]
theorem uia {H : Heap} {b : List UInt8} {z : Bool} {v10 v11 v12 : PV} {a e B : Nat} (he : e ≤ b.length) (hb : b.length < 2 ^ 61) (hB : B = 32 ∨ B = 64) (ha : a ≤ e) : ∀ (f i n p : Nat), p = a + i → 7 * i < B → B ≤ 7 * (i + f) → n < 2 ^ (7 * i) →
    run (u0d (BS z b) (.int .i64 a) (.int .i64 e) (.int .i64 B) (.bool false) v10 v11 v12 (.int .i64 ((B + 6) / 7 : Nat)) (.int .u64 n) (.int .i64 i)) H = some (.ok (retU (lebU b B e f i n p)) H)
  | 0, i, n, p, hp, hi, hf, hn => by omega
  | f + 1, i, n, p, hp, hi, hf, hn => by
    subst hp
    rw [ujy he hb (by omega) hi hn ha]
    unfold lebU
    simp only [Bool.false_eq_true, if_false]
    by_cases h1 : a + i < e
    · simp only [if_pos h1]
      by_cases h2 : B < 7 * i + 7 ∧ (b.getD (a + i) 0).toNat / 2 ^ (B - 7 * i) ≠ 0
      · simp only [if_pos h2]
        rfl
      · simp only [if_neg h2]
        generalize hc : (b.getD (a + i) 0).toNat = c at *
        have hc256 : c < 256 := by rw [← hc]; exact byt_lt _
        have hz : ∀ k : Nat, 0 < 2 ^ k := fun k => Nat.pow_pos (by omega)
        have h7 : B < 7 * i + 7 → c < 2 ^ (B - 7 * i) := by
          intro h
          have h0 : c / 2 ^ (B - 7 * i) = 0 := by
            by_cases h0 : c / 2 ^ (B - 7 * i) = 0
            · exact h0
            · exact absurd ⟨h, h0⟩ h2
          rcases Nat.div_eq_zero_iff.mp h0 with h | h
          · have := hz (B - 7 * i); omega
          · exact h
        by_cases h3 : c < 128
        · simp only [if_pos h3]
          have hx : c * 2 ^ (7 * i) < 2 ^ 64 := by
            refine dig_lt (B := B) (by omega) hi ?_
            by_cases h : B < 7 * i + 7
            · exact h7 h
            · have : 2 ^ 7 ≤ 2 ^ (B - 7 * i) := Nat.pow_le_pow_right (by omega) (by omega)
              omega
          have hf := fits (by omega) hn hx
          have w4 : IntKind.u64.wrap ((n : Int) + ((c * 2 ^ (7 * i) : Nat) : Int)) = ((n + c * 2 ^ (7 * i) : Nat) : Int) := by
            generalize c * 2 ^ (7 * i) = q at hf
            exact w_u64 (n := ((n + q : Nat) : Int)) (by omega)
          rw [w4]
          rfl
        · simp only [if_neg h3]
          have h8 : ¬ B < 7 * i + 7 := by
            intro h
            have h5 := h7 h
            have : 2 ^ (B - 7 * i) ≤ 2 ^ 6 := Nat.pow_le_pow_right (by omega) (by omega)
            omega
          refine uia he hb hB ha f (i + 1) _ (a + i + 1) (by omega) (by omega) (by omega) ?_
          have h4 : 2 ^ (7 * (i + 1)) = 128 * 2 ^ (7 * i) := by rw [Nat.mul_add, Nat.pow_add, Nat.mul_comm]
          have h5 : c % 128 * 2 ^ (7 * i) ≤ 127 * 2 ^ (7 * i) := Nat.mul_le_mul_right _ (by omega)
          omega
    · simp only [if_neg h1]
      rfl
theorem ukq {H : Heap} {b : List UInt8} {z : Bool} {v10 v11 v12 : PV} {a e B : Nat} (he : e ≤ b.length) (hb : b.length < 2 ^ 61) (hB : B = 32 ∨ B = 33 ∨ B = 64) (ha : a ≤ e) : ∀ (f i n p : Nat), p = a + i → 7 * i < B → B ≤ 7 * (i + f) → n < 2 ^ (7 * i) →
    run (u0d (BS z b) (.int .i64 a) (.int .i64 e) (.int .i64 B) (.bool true) v10 v11 v12 (.int .i64 ((B + 6) / 7 : Nat)) (.int .u64 n) (.int .i64 i)) H = some (.ok (retN (lebS b B e f i n p)) H)
  | 0, i, n, p, hp, hi, hf, hn => by omega
  | f + 1, i, n, p, hp, hi, hf, hn => by
    subst hp
    rw [ujy he hb hB hi hn ha]
    unfold lebS
    simp only [if_true]
    by_cases h1 : a + i < e
    · simp only [if_pos h1]
      by_cases h2 : B < 7 * i + 7 ∧ ¬ okS (B - 7 * i) (b.getD (a + i) 0).toNat
      · simp only [if_pos h2]
        rfl
      · simp only [if_neg h2]
        by_cases h3 : (b.getD (a + i) 0).toNat < 128
        · simp only [if_pos h3]
          unfold retN
          dsimp only
          rw [wu_wi]
        · simp only [if_neg h3]
          have h7 : ¬ B < 7 * i + 7 := fun h => h2 ⟨h, fun h0 => h3 h0.1⟩
          refine ukq he hb hB ha f (i + 1) _ (a + i + 1) (by omega) (by omega) (by omega) ?_
          have h4 : 2 ^ (7 * (i + 1)) = 128 * 2 ^ (7 * i) := by rw [Nat.mul_add, Nat.pow_add, Nat.mul_comm]
          have h5 : (b.getD (a + i) 0).toNat % 128 * 2 ^ (7 * i) ≤ 127 * 2 ^ (7 * i) := Nat.mul_le_mul_right _ (by omega)
          omega
    · simp only [if_neg h1]
      rfl
theorem uor {H : Heap} {b : List UInt8} {z : Bool} {a e : Nat} (he : e ≤ b.length) (ha : a ≤ e) :
    run (C u4y [BS z b, .int .i64 a, .int .i64 e]) H = some (.ok (.bool true) H) := by
  rw [u9v]
  have c1 : ((0 : Int) ≤ a) = True := eq_true (by omega)
  have c2 : ((e : Int) ≤ b.length) = True := eq_true (by omega)
  have c3 : ((a : Int) ≤ e) = True := eq_true (by omega)
  simp +contextual -dsimp (disch := omega) only [↓goDown, goUp, cr, simprocAttr, c1, c2, c3, List.length_map]
theorem ubw {H : Heap} {b : List UInt8} {z : Bool} {a e B : Nat} (he : e ≤ b.length) (hb : b.length < 2 ^ 61) (hB : B = 32 ∨ B = 64) (ha : a ≤ e) :
    run (C u09 [BS z b, .int .i64 a, .int .i64 e, .int .i64 B, .bool false]) H = some (.ok (retU (rdU b B e a)) H) := by
  rw [u62]
  have hl : ∀ n, (retU (rdU b B e a)).low n = true := by intro n; unfold retU; split <;> simp [u54, u6d, ub9, u8c]
  have h : ∀ (x y w : PV), run (u0d (BS z b) (.int .i64 a) (.int .i64 e) (.int .i64 B) (.bool false) x y w (.int .i64 ((B + 6) / 7 : Nat)) (.int .u64 0) (.int .i64 0)) H = some (.ok (retU (rdU b B e a)) H) :=
    fun x y w => uia he hb hB ha 10 0 0 a (by omega) (by omega) (by omega) (by decide)
  have e1 : IntKind.i64.wrap (((B : Int) + 6).tdiv 7) = (((B + 6) / 7 : Nat) : Int) := by rcases hB with rfl | rfl <;> decide
  have hq : (7 : Int) ≠ 0 := by decide
  simp +contextual -dsimp (disch := omega) only [↓goDown, goUp, cr, simprocAttr, uor he ha, un_not, h, hl, e1]
theorem umf {H : Heap} {b : List UInt8} {z : Bool} {a e B : Nat} (he : e ≤ b.length) (hb : b.length < 2 ^ 61) (hB : B = 32 ∨ B = 33 ∨ B = 64) (ha : a ≤ e) :
    run (C u09 [BS z b, .int .i64 a, .int .i64 e, .int .i64 B, .bool true]) H = some (.ok (retN (rdS b B e a)) H) := by
  rw [u62]
  have hl : ∀ n, (retN (rdS b B e a)).low n = true := by intro n; unfold retN; split <;> simp [u54, u6d, ub9, u8c]
  have h : ∀ (x y w : PV), run (u0d (BS z b) (.int .i64 a) (.int .i64 e) (.int .i64 B) (.bool true) x y w (.int .i64 ((B + 6) / 7 : Nat)) (.int .u64 0) (.int .i64 0)) H = some (.ok (retN (rdS b B e a)) H) :=
    fun x y w => ukq he hb hB ha 10 0 0 a (by omega) (by omega) (by omega) (by decide)
  have e1 : IntKind.i64.wrap (((B : Int) + 6).tdiv 7) = (((B + 6) / 7 : Nat) : Int) := by rcases hB with rfl | rfl | rfl <;> decide
  have hq : (7 : Int) ≠ 0 := by decide
  simp +contextual -dsimp (disch := omega) only [↓goDown, goUp, cr, simprocAttr, uor he ha, un_not, h, hl, e1]
end Go.Proofs.YthnmienjiangkaaGreatDoor.Pi.Q
namespace Go.Proofs.YthnmienjiangkaaGreatDoor.Pi.Q
open Go Go.Proofs.YthnmienjiangkaaGreatDoor.Pi
attribute [local congr] ite_congr
theorem ulx {b : List UInt8} {B e : Nat} (hB : B % 7 ≠ 0) : ∀ (f i n p : Nat), 7 * i < B → n < 2 ^ (7 * i) → ∀ v q, lebU b B e f i n p = .ok v q → v < 2 ^ B ∧ p < q ∧ q ≤ e
  | 0, i, n, p, hi, hn, v, q, h => by cases h
  | f + 1, i, n, p, hi, hn, v, q, h => by
    unfold lebU at h
    by_cases h1 : p < e
    · simp only [if_pos h1] at h
      by_cases h2 : B < 7 * i + 7 ∧ (b.getD p 0).toNat / 2 ^ (B - 7 * i) ≠ 0
      · simp only [if_pos h2] at h; cases h
      · simp only [if_neg h2] at h
        generalize hc : (b.getD p 0).toNat = c at *
        have hz : ∀ k : Nat, 0 < 2 ^ k := fun k => Nat.pow_pos (by omega)
        have h7 : B < 7 * i + 7 → c < 2 ^ (B - 7 * i) := by
          intro h
          have h0 : c / 2 ^ (B - 7 * i) = 0 := by
            by_cases h0 : c / 2 ^ (B - 7 * i) = 0
            · exact h0
            · exact absurd ⟨h, h0⟩ h2
          rcases Nat.div_eq_zero_iff.mp h0 with h | h
          · have := hz (B - 7 * i); omega
          · exact h
        by_cases h3 : c < 128
        · simp only [if_pos h3, Rs.ok.injEq] at h
          obtain ⟨rfl, rfl⟩ := h
          have hlt : c < 2 ^ (B - 7 * i) := by
            by_cases h : B < 7 * i + 7
            · exact h7 h
            · have : 2 ^ 7 ≤ 2 ^ (B - 7 * i) := Nat.pow_le_pow_right (by omega) (by omega)
              omega
          refine ⟨?_, by omega, by omega⟩
          have h4 : (c + 1) * 2 ^ (7 * i) ≤ 2 ^ (B - 7 * i) * 2 ^ (7 * i) := Nat.mul_le_mul_right _ hlt
          have h5 : 2 ^ (B - 7 * i) * 2 ^ (7 * i) = 2 ^ B := by rw [← Nat.pow_add, Nat.sub_add_cancel (by omega)]
          rw [Nat.add_mul] at h4
          omega
        · simp only [if_neg h3] at h
          have h8 : ¬ B < 7 * i + 7 := by
            intro h
            have h5 := h7 h
            have : 2 ^ (B - 7 * i) ≤ 2 ^ 6 := Nat.pow_le_pow_right (by omega) (by omega)
            omega
          have h4 : 2 ^ (7 * (i + 1)) = 128 * 2 ^ (7 * i) := by rw [Nat.mul_add, Nat.pow_add, Nat.mul_comm]
          have h5 : c % 128 * 2 ^ (7 * i) ≤ 127 * 2 ^ (7 * i) := Nat.mul_le_mul_right _ (by omega)
          obtain ⟨a1, a2, a3⟩ := ulx hB f (i + 1) _ (p + 1) (by omega) (by omega) v q h
          exact ⟨a1, by omega, a3⟩
    · simp only [if_neg h1] at h; cases h
theorem urb {b : List UInt8} {B e : Nat} : ∀ (f i n p : Nat) v q, lebS b B e f i n p = .ok v q → -9223372036854775808 ≤ v ∧ v ≤ 9223372036854775807 ∧ p < q ∧ q ≤ e
  | 0, i, n, p, v, q, h => by cases h
  | f + 1, i, n, p, v, q, h => by
    unfold lebS at h
    by_cases h1 : p < e
    · simp only [if_pos h1] at h
      by_cases h2 : B < 7 * i + 7 ∧ ¬ okS (B - 7 * i) (b.getD p 0).toNat
      · simp only [if_pos h2] at h; cases h
      · simp only [if_neg h2] at h
        by_cases h3 : (b.getD p 0).toNat < 128
        · simp only [if_pos h3, Rs.ok.injEq] at h
          obtain ⟨rfl, rfl⟩ := h
          rw [wi]
          omega
        · simp only [if_neg h3] at h
          obtain ⟨a1, a2, a3, a4⟩ := urb f (i + 1) _ (p + 1) v q h
          exact ⟨a1, a2, by omega, a4⟩
    · simp only [if_neg h1] at h; cases h
theorem u7y {b : List UInt8} {e p v q : Nat} (h : rdU b 32 e p = .ok v q) : v < 2 ^ 32 ∧ p < q ∧ q ≤ e := ulx (by decide) 10 0 0 p (by omega) (by decide) v q h
theorem rdS_lt {b : List UInt8} {B e p q : Nat} {v : Int} (h : rdS b B e p = .ok v q) : -9223372036854775808 ≤ v ∧ v ≤ 9223372036854775807 ∧ p < q ∧ q ≤ e := urb 10 0 0 p v q h
def retK (k : IntKind) : Rs Nat → PV
  | .ok n p => .tup [.int k n, .int .i64 p, .int .i64 0]
  | .err p e => .tup [.int k 0, .int .i64 p, .int .i64 e]
theorem upl {H : Heap} {b : List UInt8} {z : Bool} {p e : Nat} (he : e ≤ b.length) (hb : b.length < 2 ^ 61) :
    run (C uc3 [.agg [BS z b, .int .i64 p, .int .i64 e]]) H = some (.ok (retU (rdU b 32 e p)) H) := by
  rw [upk]
  have h := ua2 (H := hadd H [.cells [BS z b, .int .i64 p, .int .i64 e]]) (z := z) (p := p) (B := 32) he (by omega) (.inl rfl)
  have h : run (C u1i [.agg [BS z b, .int .i64 p, .int .i64 e], .int .i64 32]) (hadd H [.cells [BS z b, .int .i64 p, .int .i64 e]]) = _ := h
  cases hr : rdU b 32 e p <;> rw [hr] at h <;> simp only [retU] at h ⊢ <;>
    simp +contextual -dsimp (disch := omega) only [↓goDown, goUp, cr, simprocAttr, h]
theorem up8 {H : Heap} {b : List UInt8} {z : Bool} {p e : Nat} (he : e ≤ b.length) (hb : b.length < 2 ^ 61) :
    run (C uca [.agg [BS z b, .int .i64 p, .int .i64 e]]) H = some (.ok (retS (rdS b 33 e p)) H) := by
  rw [upc]
  have h := uhx (H := hadd H [.cells [BS z b, .int .i64 p, .int .i64 e]]) (z := z) (p := p) (B := 33) he (by omega) (.inr (.inl rfl))
  have h : run (C u1q [.agg [BS z b, .int .i64 p, .int .i64 e], .int .i64 33]) (hadd H [.cells [BS z b, .int .i64 p, .int .i64 e]]) = _ := h
  cases hr : rdS b 33 e p <;> rw [hr] at h <;> simp only [retS] at h ⊢ <;>
    simp +contextual -dsimp (disch := omega) only [↓goDown, goUp, cr, simprocAttr, h]
theorem uc2 {H : Heap} {b : List UInt8} {z : Bool} {p e : Nat} (he : e ≤ b.length) (hp : p ≤ e) :
    run (C u5h [BS z b, .int .i64 p, .int .i64 e]) H = some (.ok (.tup [.agg [BS z b, .int .i64 p, .int .i64 e], .int .i64 0]) H) := by
  rw [uhy, if_neg (by omega)]
theorem ugk {H : Heap} {b : List UInt8} {z : Bool} {p e : Nat} (he : e ≤ b.length) (hb : b.length < 2 ^ 61) (hp : p ≤ e) :
    run (C ucd [BS z b, .int .i64 p, .int .i64 e]) H = some (.ok (retK .u32 (rdU b 32 e p)) H) := by
  have h1 : run (C u34 [BS z b, .int .i64 p, .int .i64 e, .fn uc3 [] []]) H = some (.ok (retK .u32 (rdU b 32 e p)) H) := by
    rw [u7a]
    have h := upl (H := hadd H [.cells [BS z b, .int .i64 p, .int .i64 e]]) (z := z) (p := p) he hb
    cases hr : rdU b 32 e p with
    | ok v q =>
      have hv := u7y hr
      rw [hr] at h
      simp only [retU, retK] at h ⊢
      simp +contextual -dsimp (disch := omega) only [↓goDown, goUp, cr, simprocAttr, h, uc2 he hp]
    | err a w =>
      rw [hr] at h
      simp only [retU, retK] at h ⊢
      simp +contextual -dsimp (disch := omega) only [↓goDown, goUp, cr, simprocAttr, h, uc2 he hp]
  rw [ups]
  cases hr : rdU b 32 e p <;> rw [hr] at h1 <;> simp only [retK] at h1 ⊢ <;>
    simp +contextual -dsimp (disch := omega) only [↓goDown, goUp, cr, simprocAttr, h1]
theorem up9 {H : Heap} {b : List UInt8} {z : Bool} {p e : Nat} (he : e ≤ b.length) (hb : b.length < 2 ^ 61) (hp : p ≤ e) :
    run (C ufh [BS z b, .int .i64 p, .int .i64 e]) H = some (.ok (retS (rdS b 33 e p)) H) := by
  have h1 : run (C u3x [BS z b, .int .i64 p, .int .i64 e, .fn uca [] []]) H = some (.ok (retS (rdS b 33 e p)) H) := by
    rw [u8b]
    have h := up8 (H := hadd H [.cells [BS z b, .int .i64 p, .int .i64 e]]) (z := z) (p := p) he hb
    cases hr : rdS b 33 e p <;> rw [hr] at h <;> simp only [retS] at h ⊢ <;>
      simp +contextual -dsimp (disch := omega) only [↓goDown, goUp, cr, simprocAttr, h, uc2 he hp]
  rw [upg]
  cases hr : rdS b 33 e p <;> rw [hr] at h1 <;> simp only [retS] at h1 ⊢ <;>
    simp +contextual -dsimp (disch := omega) only [↓goDown, goUp, cr, simprocAttr, h1]
def curB (z : Bool) (b : List UInt8) (p : Nat) : Box := .cells [BS z b, .int .i64 p]
def flt (p e : Nat) : PV := .iface u0t (.agg [.int .i64 p, .int .i64 e])
def outC (z : Bool) (b : List UInt8) (c : Nat) (H : Heap) (q : Nat) {α : Type} (enc : α → PV) : Rs α → Option (Out PV)
  | .ok v p => some (.ok (enc v) (hset H c (curB z b p)))
  | .err p e => some (.pan (flt p e) (hset H c (curB z b q)))
theorem u6r {H : Heap} {r : PV} {p e : Int} : run (C u0j [r, .int .i64 p, .int .i64 e]) H = some (.pan (.iface u0t (.agg [.int .i64 p, .int .i64 e])) H) := by
  rw [uar]
  simp +contextual -dsimp (disch := omega) only [↓goDown, goUp, cr, simprocAttr]
def rLook (b : List UInt8) (p : Nat) : Rs Nat := if p < b.length then .ok (b.getD p 0).toNat p else .err b.length 3
theorem ut5 {H : Heap} {b : List UInt8} {z : Bool} {c p : Nat} (hH : hget H c = some (curB z b p)) (hb : b.length < 2 ^ 61) :
    run (C u1b [.ptr c 0]) H = outC z b c H p (fun x : Nat => .int .u8 x) (rLook b p) := by
  have hid := get_lt hH
  have hset := u1g hH
  rw [uas]
  unfold rLook
  have hH' := hH
  unfold curB at hH
  by_cases hp : p < b.length
  · have hg := ucy hp
    have hgd : b.getD p 0 = b[p] := by simp [hp]
    have c0 : ¬ (b.length : Int) ≤ p := by omega
    rw [if_pos hp, hgd]
    simp only [outC, hset]
    simp +contextual -dsimp (disch := omega) only [↓goDown, goUp, cr, simprocAttr, hH, hg, byt, c0, List.length_map, u89, Int.toNat_natCast]
  · have c0 : (b.length : Int) ≤ p := by omega
    rw [if_neg hp]
    simp only [outC, hset]
    simp +contextual -dsimp (disch := omega) only [↓goDown, goUp, cr, simprocAttr, hH, c0, List.length_map, u6r]
    all_goals rfl
theorem upf {H : Heap} {b : List UInt8} {z : Bool} {c p q : Nat} {v : Nat} (hH : hget H c = some (curB z b p)) :
    run (C u3e [.ptr c 0, .int .u32 v, .int .i64 q, .int .i64 0]) H = some (.ok (.int .u32 v) (hset H c (curB z b q))) := by
  have hid := get_lt hH
  unfold curB at hH
  rw [u79]
  simp +contextual -dsimp (disch := omega) only [↓goDown, goUp, cr, simprocAttr, hH, u8m]
  all_goals rfl
theorem ulh {H : Heap} {r v : PV} {q e : Nat} (he : e ≠ 0) :
    run (C u3e [r, v, .int .i64 q, .int .i64 e]) H = some (.pan (flt q e) H) := by
  rw [u79]
  have c0 : ¬ (e : Int) = 0 := by omega
  simp +contextual -dsimp (disch := omega) only [↓goDown, goUp, cr, simprocAttr, c0, u6r]
  all_goals rfl
theorem up7 {H : Heap} {b : List UInt8} {z : Bool} {c p q : Nat} {v : Int} (hH : hget H c = some (curB z b p)) :
    run (C u3w [.ptr c 0, .int .i64 v, .int .i64 q, .int .i64 0]) H = some (.ok (.int .i64 v) (hset H c (curB z b q))) := by
  have hid := get_lt hH
  unfold curB at hH
  rw [u7s]
  simp +contextual -dsimp (disch := omega) only [↓goDown, goUp, cr, simprocAttr, hH, u8y]
  all_goals rfl
theorem ul4 {H : Heap} {r v : PV} {q e : Nat} (he : e ≠ 0) :
    run (C u3w [r, v, .int .i64 q, .int .i64 e]) H = some (.pan (flt q e) H) := by
  rw [u7s]
  have c0 : ¬ (e : Int) = 0 := by omega
  simp +contextual -dsimp (disch := omega) only [↓goDown, goUp, cr, simprocAttr, c0, u6r]
  all_goals rfl
theorem umv {b : List UInt8} {B e : Nat} : ∀ (f i n p : Nat) a w, lebU b B e f i n p = .err a w → w = 3 ∨ w = 4
  | 0, i, n, p, a, w, h => by cases h; exact .inr rfl
  | f + 1, i, n, p, a, w, h => by
    unfold lebU at h
    by_cases h1 : p < e
    · simp only [if_pos h1] at h
      by_cases h2 : B < 7 * i + 7 ∧ (b.getD p 0).toNat / 2 ^ (B - 7 * i) ≠ 0
      · simp only [if_pos h2, Rs.err.injEq] at h; exact .inr h.2.symm
      · simp only [if_neg h2] at h
        by_cases h3 : (b.getD p 0).toNat < 128
        · simp only [if_pos h3] at h; cases h
        · simp only [if_neg h3] at h; exact umv f _ _ _ a w h
    · simp only [if_neg h1, Rs.err.injEq] at h; exact .inl h.2.symm
theorem uo7 {b : List UInt8} {B e : Nat} : ∀ (f i n p : Nat) a w, lebS b B e f i n p = .err a w → w = 3 ∨ w = 4
  | 0, i, n, p, a, w, h => by cases h; exact .inr rfl
  | f + 1, i, n, p, a, w, h => by
    unfold lebS at h
    by_cases h1 : p < e
    · simp only [if_pos h1] at h
      by_cases h2 : B < 7 * i + 7 ∧ ¬ okS (B - 7 * i) (b.getD p 0).toNat
      · simp only [if_pos h2, Rs.err.injEq] at h; exact .inr h.2.symm
      · simp only [if_neg h2] at h
        by_cases h3 : (b.getD p 0).toNat < 128
        · simp only [if_pos h3] at h; cases h
        · simp only [if_neg h3] at h; exact uo7 f _ _ _ a w h
    · simp only [if_neg h1, Rs.err.injEq] at h; exact .inl h.2.symm
theorem u7i {b : List UInt8} {B e p a w : Nat} (h : rdU b B e p = .err a w) : w ≠ 0 := by have := umv 10 0 0 p a w h; omega
theorem ui1 {b : List UInt8} {B e p a w : Nat} (h : rdS b B e p = .err a w) : w ≠ 0 := by have := uo7 10 0 0 p a w h; omega
def rU32 (b : List UInt8) (p : Nat) : Rs Nat := rdU b 32 b.length p
theorem u32_is {H : Heap} {b : List UInt8} {z : Bool} {c p : Nat} (hH : hget H c = some (curB z b p)) (hb : b.length < 2 ^ 61) (hp : p ≤ b.length) :
    run (C u2e [.ptr c 0]) H = outC z b c H p (fun x : Nat => .int .u32 x) (rU32 b p) := by
  have hid := get_lt hH
  have hset := u1g hH
  have h1 := ugk (H := H) (b := b) (z := z) (p := p) (Nat.le_refl _) hb hp
  have g1 := fun (q v : Nat) => upf (q := q) (v := v) hH
  rw [ubd]
  unfold rU32
  unfold curB at hH
  cases hr : rdU b 32 b.length p with
  | ok v q =>
    rw [hr] at h1
    simp only [retK] at h1
    simp only [outC]
    simp +contextual -dsimp (disch := omega) only [↓goDown, goUp, cr, simprocAttr, hH, h1, g1, List.length_map]
  | err a w =>
    rw [hr] at h1
    simp only [retK] at h1
    simp only [outC, hset]
    have g2 := fun (u : PV) => ulh (H := H) (r := .ptr c 0) (v := u) (q := a) (u7i hr)
    simp +contextual -dsimp (disch := omega) only [↓goDown, goUp, cr, simprocAttr, hH, h1, g2, List.length_map]
    all_goals rfl
def rS33 (b : List UInt8) (p : Nat) : Rs Int :=
  match rdS b 33 b.length p with
  | .ok n q => if n < 0 then .err p 4 else if 2147483647 < n then .err p 2 else .ok n q
  | .err a w => .err a w
theorem s33_is {H : Heap} {b : List UInt8} {z : Bool} {c p : Nat} (hH : hget H c = some (curB z b p)) (hb : b.length < 2 ^ 61) (hp : p ≤ b.length) :
    ∃ q, run (C u4b [.ptr c 0]) H = outC z b c H q (fun x : Int => .int .i64 x) (rS33 b p) := by
  have hid := get_lt hH
  have hset := u1g hH
  have hs' : Pi.hset H c (.cells [BS z b, .int .i64 p]) = H := hset
  have h1 := up9 (H := H) (b := b) (z := z) (p := p) (Nat.le_refl _) hb hp
  have g1 := fun (q : Nat) (v : Int) => up7 (q := q) (v := v) hH
  rw [ubl]
  unfold rS33
  unfold curB at hH
  cases hr : rdS b 33 b.length p with
  | ok v q =>
    have hv := rdS_lt hr
    rw [hr] at h1
    simp only [retS] at h1
    refine ⟨q, ?_⟩
    by_cases n1 : v < 0
    · simp only [n1, if_true, outC]
      simp +contextual -dsimp (disch := omega) only [↓goDown, goUp, cr, simprocAttr, hH, hs', h1, g1, List.length_map, n1, u6r]
      all_goals rfl
    · by_cases n2 : 2147483647 < v
      · simp only [n1, n2, if_true, if_false, outC]
        simp +contextual -dsimp (disch := omega) only [↓goDown, goUp, cr, simprocAttr, hH, hs', h1, g1, List.length_map, n1, n2, u6r]
        all_goals rfl
      · simp only [n1, n2, if_true, if_false, outC]
        simp +contextual -dsimp (disch := omega) only [↓goDown, goUp, cr, simprocAttr, hH, hs', h1, g1, List.length_map, n1, n2, u7p]
  | err a w =>
    rw [hr] at h1
    simp only [retS] at h1
    refine ⟨p, ?_⟩
    simp only [outC, hset]
    have g2 := fun (u : PV) => ul4 (H := H) (r := .ptr c 0) (v := u) (q := a) (ui1 hr)
    simp +contextual -dsimp (disch := omega) only [↓goDown, goUp, cr, simprocAttr, hH, hs', h1, g2, List.length_map]
    all_goals rfl
def hname (c : Nat) : Int :=
  if c = 115 then -2 else if c = 114 then -4 else if c = 113 then -10 else if c = 112 then -1 else if c = 111 then -3 else if c = 110 then -5 else if c = 109 then -6 else if c = 108 then -7 else if c = 107 then -8 else if c = 106 then -9 else if c = 105 then -11 else if c = 116 then -12 else 0
theorem ulj {H : Heap} : run (C u6n []) H = some (.ok (.agg [.int .i64 (-11), .int .i64 (-9), .int .i64 (-8), .int .i64 (-7), .int .i64 (-6), .int .i64 (-5), .int .i64 (-3), .int .i64 (-1), .int .i64 (-10), .int .i64 (-4), .int .i64 (-2), .int .i64 (-12)]) H) := by
  rw [ucp]
  simp +contextual -dsimp (disch := omega) only [↓goDown, goUp, cr, simprocAttr]
theorem uwe {len : Nat} {cs : List PV} {k : IntKind} {n : Int} {H : Heap} : run (ixA len 1 none (.agg cs) (.int k n)) H = if 0 ≤ n ∧ n < len then ldFR H (nth cs n.toNat) else none := by
  unfold run ixA fd
  by_cases h : 0 ≤ n ∧ n < len
  · have h1 : (decide (0 ≤ n) && decide (n < (len : Int))) = true := by simp [h]
    rw [if_pos h]
    simp only [h1, cond_true, Nat.mul_one, nth_is]
    cases nth cs n.toNat <;> rfl
  · have h1 : (decide (0 ≤ n) && decide (n < (len : Int))) = false := by
      rw [Bool.and_eq_false_iff]
      by_cases h0 : 0 ≤ n
      · right; simp; omega
      · left; simp; omega
    rw [if_neg h]
    simp only [h1, cond_false]
    rfl
theorem u8s {c : Nat} (h : c < 105 ∨ 116 < c) : hname c = 0 := by
  unfold hname
  rw [if_neg (by omega), if_neg (by omega), if_neg (by omega), if_neg (by omega), if_neg (by omega), if_neg (by omega), if_neg (by omega), if_neg (by omega), if_neg (by omega), if_neg (by omega), if_neg (by omega), if_neg (by omega)]
theorem unu {H : Heap} {c : Nat} (hc : c < 256) : run (C u73 [.int .u8 c]) H = some (.ok (.int .i64 (hname c)) H) := by
  rw [ug4]
  by_cases h1 : c < 105
  · have c1 : (c : Int) < 105 := by omega
    have : hname c = 0 := u8s (.inl h1)
    rw [this]
    simp +contextual -dsimp (disch := omega) only [↓goDown, goUp, cr, simprocAttr, c1]
  · by_cases h2 : 116 < c
    · have c1 : ¬ (c : Int) < 105 := by omega
      have c2 : (116 : Int) < c := by omega
      have : hname c = 0 := u8s (.inr h2)
      rw [this]
      simp +contextual -dsimp (disch := omega) only [↓goDown, goUp, cr, simprocAttr, c1, c2]
    · have h : c = 105 ∨ c = 106 ∨ c = 107 ∨ c = 108 ∨ c = 109 ∨ c = 110 ∨ c = 111 ∨ c = 112 ∨ c = 113 ∨ c = 114 ∨ c = 115 ∨ c = 116 := by omega
      rcases h with rfl | rfl | rfl | rfl | rfl | rfl | rfl | rfl | rfl | rfl | rfl | rfl <;>
        simp +contextual -dsimp (disch := omega) only [↓goDown, goUp, cr, simprocAttr, ulj, uwe, Int.cast_ofNat_Int, hname] <;> rfl
end Go.Proofs.YthnmienjiangkaaGreatDoor.Pi.Q
namespace Go.Proofs.YthnmienjiangkaaGreatDoor.Pi.Q
open Go Go.Proofs.YthnmienjiangkaaGreatDoor.Pi
attribute [local congr] ite_congr
theorem ui9 {H : Heap} {b : List UInt8} {z : Bool} {c p : Nat} (hH : hget H c = some (curB z b p)) (hb : b.length < 2 ^ 61) (hp : p < b.length) :
    run (C u1b [.ptr c 0]) H = some (.ok (.int .u8 (b.getD p 0).toNat) H) := by
  rw [ut5 hH hb]
  unfold rLook
  rw [if_pos hp]
  simp only [outC, u1g hH]
theorem udz {H : Heap} {b : List UInt8} {z : Bool} {c p : Nat} (hH : hget H c = some (curB z b p)) (hb : b.length < 2 ^ 61) (hp : ¬ p < b.length) :
    run (C u1b [.ptr c 0]) H = some (.pan (flt b.length 3) H) := by
  rw [ut5 hH hb]
  unfold rLook
  rw [if_neg hp]
  simp only [outC, u1g hH]
def rHeap (b : List UInt8) (p : Nat) : Rs Int :=
  if p < b.length then
    if hname (b.getD p 0).toNat ≠ 0 then .ok (hname (b.getD p 0).toNat) (p + 1) else rS33 b p
  else .err b.length 3
theorem u5t {n a w : Nat} : (flt a w).low n = true := by simp [flt, ubz, uex, u54, u6d, u8c]
theorem uw8 {H : Heap} {b : List UInt8} {z : Bool} {c p : Nat} (hH : hget H c = some (curB z b p)) (hb : b.length < 2 ^ 61) (hp : p ≤ b.length) :
    ∃ q, run (C u5f [.ptr c 0]) H = outC z b c H q (fun x : Int => .int .i64 x) (rHeap b p) := by
  have hid := get_lt hH
  have hset := u1g hH
  rw [uap]
  unfold rHeap
  by_cases h1 : p < b.length
  · have hl := ui9 hH hb h1
    have hc := byt_lt (b.getD p 0)
    rw [if_pos h1]
    generalize (b.getD p 0).toNat = x at hl hc ⊢
    have hn := unu (H := H) hc
    by_cases h2 : hname x = 0
    · obtain ⟨q, hs⟩ := s33_is hH hb hp
      refine ⟨q, ?_⟩
      rw [if_neg (by simpa using h2)]
      cases hr : rS33 b p with
      | ok v q' =>
        rw [hr] at hs
        simp only [outC] at hs ⊢
        simp +contextual -dsimp (disch := omega) only [↓goDown, goUp, cr, simprocAttr, hl, hn, h2, hs]
      | err a w =>
        rw [hr] at hs
        simp only [outC] at hs ⊢
        simp +contextual -dsimp (disch := omega) only [↓goDown, goUp, cr, simprocAttr, hl, hn, h2, hs, u5t]
    · refine ⟨p, ?_⟩
      rw [if_pos (by simpa using h2)]
      simp only [outC]
      unfold curB at hH ⊢
      simp +contextual -dsimp (disch := omega) only [↓goDown, goUp, cr, simprocAttr, hl, hn, h2, hH]
      all_goals rfl
  · refine ⟨p, ?_⟩
    have hl := udz hH hb h1
    rw [if_neg h1]
    simp only [outC, hset]
    simp +contextual -dsimp (disch := omega) only [↓goDown, goUp, cr, simprocAttr, hl, u5t]
structure VT where
  num : Int
  nul : Bool
  heap : Int
  deriving DecidableEq
def encV (v : VT) : PV := .agg [.int .i64 v.num, .bool v.nul, .int .i64 v.heap]
def rRef (b : List UInt8) (p : Nat) : Rs VT :=
  if p < b.length then
    let x := (b.getD p 0).toNat
    if hname x ≠ 0 then .ok ⟨5, true, hname x⟩ (p + 1)
    else if x ≠ 99 ∧ x ≠ 100 then .err p 4
    else match rHeap b (p + 1) with
      | .ok h q => .ok ⟨5, x == 99, h⟩ q
      | .err a w => .err a w
  else .err b.length 3
theorem ns (p : Nat) : ((p + 1 : Nat) : Int) = (p : Int) + 1 := rfl
theorem ref_is {H : Heap} {b : List UInt8} {z : Bool} {c p : Nat} (hH : hget H c = some (curB z b p)) (hb : b.length < 2 ^ 61) (hp : p ≤ b.length) :
    ∃ q, run (C u2c [.ptr c 0]) H = outC z b c H q encV (rRef b p) := by
  have hid := get_lt hH
  have hset := u1g hH
  rw [ube]
  unfold rRef
  have hH1 : ∀ L, hget (hadd H L) c = some (curB z b p) := fun L => by rw [u81 hid]; exact hH
  by_cases h1 : p < b.length
  · have hl := fun L => ui9 (hH1 L) hb h1
    have hc := byt_lt (b.getD p 0)
    rw [if_pos h1]
    generalize (b.getD p 0).toNat = x at hl hc ⊢
    have hn := fun L => unu (H := hadd H L) hc
    by_cases h2 : hname x = 0
    · simp only [h2, ne_eq, not_true_eq_false, if_false]
      by_cases h3 : ¬ x = 99 ∧ ¬ x = 100
      · refine ⟨p, ?_⟩
        rw [if_pos h3]
        have c1 : ¬ (x : Int) = 99 := by omega
        have c2 : ¬ (x : Int) = 100 := by omega
        simp only [outC, hset]
        unfold curB at hH
        simp +contextual -dsimp (disch := omega) only [↓goDown, goUp, cr, simprocAttr, hl, hn, h2, hH, c1, c2, u6r]
        all_goals rfl
      · rw [if_neg h3]
        have hH2 : ∀ L, hget (hadd (Pi.hset H c (curB z b (p + 1))) L) c = some (curB z b (p + 1)) := fun L => by
          rw [uc0 hid, u5u hid]
        obtain ⟨q, hk⟩ := uw8 (hH2 [.cells [.int .i64 0, .bool false, .int .i64 0]]) hb (by omega)
        refine ⟨q, ?_⟩
        have so : ∀ u L, Pi.hset (hadd (Pi.hset H c (curB z b (p + 1))) L) c (curB z b u) = hadd (Pi.hset H c (curB z b u)) L := fun u L => by
          rw [uab hid, set_set]
        have fin : ∀ (t : Bool), ((x : Int) == 99) = t → (((x : Int) = 99) = (t = true)) → ((x == 99) = t) → (((x : Int) = 99) ∨ ((x : Int) = 100)) →
            truncR H (run (u2m (.ptr c 0) (.ptr H.length 0) (.int .u8 x)) (hadd H [.cells [.int .i64 0, .bool false, .int .i64 0]])) = outC z b c H q encV (match rHeap b (p + 1) with | .ok h q => .ok ⟨5, x == 99, h⟩ q | .err a w => .err a w) := by
          intro t ht ht2 ht3 ho
          rw [ht3]
          cases hr : rHeap b (p + 1) with
          | ok v q' =>
            rw [hr] at hk
            simp only [outC, so] at hk ⊢
            unfold curB at hH hk ⊢
            simp only [ns] at hk
            simp +contextual -dsimp (disch := omega) only [↓goDown, goUp, cr, simprocAttr, hH, hk, u4u, ht]
            all_goals rfl
          | err a w =>
            rw [hr] at hk
            simp only [outC, so] at hk ⊢
            unfold curB at hH hk ⊢
            simp only [ns] at hk
            simp +contextual -dsimp (disch := omega) only [↓goDown, goUp, cr, simprocAttr, hH, hk, u4u, ht, u5t]
        by_cases c1 : x = 99
        · have e1 : ((x : Int) = 99) = True := eq_true (by omega)
          have e2 : ((x : Int) == 99) = true := by simpa using e1
          have e3 : (x == 99) = true := by simpa using c1
          refine Eq.trans ?_ (fin true e2 (by simp [e1]) e3 (.inl (by omega)))
          simp +contextual -dsimp (disch := omega) only [↓goDown, goUp, cr, simprocAttr, hl, hn, h2, e1]
        · have e1 : ((x : Int) = 99) = False := eq_false (by omega)
          have e2 : ((x : Int) == 99) = false := by simpa using e1
          have e3 : (x == 99) = false := by simpa using c1
          have e4 : ((x : Int) = 100) = True := eq_true (by omega)
          refine Eq.trans ?_ (fin false e2 (by simp [e1]) e3 (.inr (by omega)))
          simp +contextual -dsimp (disch := omega) only [↓goDown, goUp, cr, simprocAttr, hl, hn, h2, e1, e4]
    · refine ⟨p, ?_⟩
      rw [if_pos (by simpa using h2)]
      simp only [outC]
      unfold curB at hH ⊢
      simp +contextual -dsimp (disch := omega) only [↓goDown, goUp, cr, simprocAttr, hl, hn, h2, hH, ns]
      all_goals rfl
  · refine ⟨p, ?_⟩
    have hl := fun L => udz (hH1 L) hb h1
    rw [if_neg h1]
    simp only [outC, hset]
    simp +contextual -dsimp (disch := omega) only [↓goDown, goUp, cr, simprocAttr, hl, u5t]
end Go.Proofs.YthnmienjiangkaaGreatDoor.Pi.Q
namespace Go.Proofs.YthnmienjiangkaaGreatDoor.Pi.Q
open Go Go.Proofs.YthnmienjiangkaaGreatDoor.Pi
attribute [local congr] ite_congr
theorem uvz {b : List UInt8} {p q : Nat} {v : Int} (h : rS33 b p = .ok v q) : q ≤ b.length ∧ 0 ≤ v ∧ v ≤ 2147483647 := by
  unfold rS33 at h
  cases hr : rdS b 33 b.length p with
  | ok n q' =>
    rw [hr] at h
    dsimp only at h
    have := rdS_lt hr
    split at h
    · cases h
    · split at h
      · cases h
      · simp only [Rs.ok.injEq] at h
        obtain ⟨rfl, rfl⟩ := h
        omega
  | err a w => rw [hr] at h; cases h
theorem uua (c : Nat) : -12 ≤ hname c ∧ hname c ≤ 0 := by
  unfold hname
  repeat' (split; omega)
  omega
theorem uup {b : List UInt8} {p q : Nat} {v : Int} (h : rHeap b p = .ok v q) : q ≤ b.length ∧ -12 ≤ v ∧ v ≤ 2147483647 := by
  unfold rHeap at h
  split at h
  · split at h
    · simp only [Rs.ok.injEq] at h
      obtain ⟨rfl, rfl⟩ := h
      have := uua (b.getD p 0).toNat
      omega
    · have := uvz h; omega
  · cases h
theorem uri {b : List UInt8} {p q : Nat} {v : VT} (h : rRef b p = .ok v q) : q ≤ b.length := by
  unfold rRef at h
  split at h
  · dsimp only at h
    split at h
    · simp only [Rs.ok.injEq] at h; omega
    · split at h
      · cases h
      · cases hr : rHeap b (p + 1) with
        | ok n q' => rw [hr] at h; simp only [Rs.ok.injEq] at h; have := uup hr; omega
        | err a w => rw [hr] at h; cases h
  · cases h
theorem uqe {v : VT} : strip (encV v) = encV v := nrfl rfl
theorem urc {v : VT} : isTup (encV v) = false := nrfl rfl
theorem urk {v : VT} : (encV v).cells = [.int .i64 v.num, .bool v.nul, .int .i64 v.heap] := nrfl rfl
theorem low_V {v : VT} {n : Nat} : (encV v).low n = true := by simp [encV, uex, u54, u6d, u8c, udq]
def rVal (b : List UInt8) (p : Nat) : Rs VT :=
  if p < b.length then
    if (b.getD p 0).toNat = 123 then .err p 8
    else if 124 ≤ (b.getD p 0).toNat ∧ (b.getD p 0).toNat ≤ 127 then .ok ⟨128 - (b.getD p 0).toNat, false, 0⟩ (p + 1)
    else rRef b p
  else .err b.length 3
theorem uw0 {b : List UInt8} {p q : Nat} {v : VT} (h : rVal b p = .ok v q) : q ≤ b.length := by
  unfold rVal at h
  split at h
  · split at h
    · cases h
    · split at h
      · simp only [Rs.ok.injEq] at h; omega
      · exact uri h
  · cases h
theorem val_is {H : Heap} {b : List UInt8} {z : Bool} {c p : Nat} (hH : hget H c = some (curB z b p)) (hb : b.length < 2 ^ 61) (hp : p ≤ b.length) :
    ∃ q, run (C u3c [.ptr c 0]) H = outC z b c H q encV (rVal b p) := by
  have hid := get_lt hH
  have hset := u1g hH
  rw [ubk]
  unfold rVal
  have hH1 : ∀ L, hget (hadd H L) c = some (curB z b p) := fun L => by rw [u81 hid]; exact hH
  by_cases h1 : p < b.length
  · have hl := fun L => ui9 (hH1 L) hb h1
    have hc := byt_lt (b.getD p 0)
    rw [if_pos h1]
    generalize (b.getD p 0).toNat = x at hl hc ⊢
    by_cases h2 : x = 123
    · refine ⟨p, ?_⟩
      rw [if_pos h2]
      have c1 : (x : Int) = 123 := by omega
      simp only [outC, hset]
      unfold curB at hH
      simp +contextual -dsimp (disch := omega) only [↓goDown, goUp, cr, simprocAttr, hl, eq_true c1, hH, u6r]
      all_goals rfl
    · rw [if_neg h2]
      have c1 : ¬ (x : Int) = 123 := by omega
      by_cases h3 : 124 ≤ x ∧ x ≤ 127
      · refine ⟨p, ?_⟩
        rw [if_pos h3]
        have c2 : (124 : Int) ≤ x := by omega
        have c3 : (x : Int) ≤ 127 := by omega
        simp only [outC]
        unfold curB at hH ⊢
        simp +contextual -dsimp (disch := omega) only [↓goDown, goUp, cr, simprocAttr, hl, c1, c2, c3, hH, ns]
        all_goals rfl
      · rw [if_neg h3]
        obtain ⟨q, hk⟩ := ref_is (hH1 [.cells [.int .i64 0, .bool false, .int .i64 0]]) hb hp
        refine ⟨q, ?_⟩
        have so : ∀ u L, Pi.hset (hadd H L) c (curB z b u) = hadd (Pi.hset H c (curB z b u)) L := fun u L => by rw [ucn hid]
        have e3 : ((124 : Int) ≤ x) = (124 ≤ x) := by rw [eq_iff_iff]; omega
        have e4 : ((x : Int) ≤ 127) = (x ≤ 127) := by rw [eq_iff_iff]; omega
        by_cases h4 : 124 ≤ x
        · have h5 : ¬ x ≤ 127 := fun h => h3 ⟨h4, h⟩
          cases hr : rRef b p <;> rw [hr] at hk <;> simp only [outC, so] at hk ⊢ <;>
            simp +contextual -dsimp (disch := omega) only [↓goDown, goUp, cr, simprocAttr, hl, c1, e3, e4, h4, h5, hk, u53, u5t, uqe, urc, urk, low_V] <;> rfl
        · cases hr : rRef b p <;> rw [hr] at hk <;> simp only [outC, so] at hk ⊢ <;>
            simp +contextual -dsimp (disch := omega) only [↓goDown, goUp, cr, simprocAttr, hl, c1, e3, e4, h4, hk, u53, u5t, uqe, urc, urk, low_V] <;> rfl
  · refine ⟨p, ?_⟩
    have hl := fun L => udz (hH1 L) hb h1
    rw [if_neg h1]
    simp only [outC, hset]
    simp +contextual -dsimp (disch := omega) only [↓goDown, goUp, cr, simprocAttr, hl, u5t]
theorem uct {b : List UInt8} {p q v : Nat} (h : rU32 b p = .ok v q) : q ≤ b.length ∧ v < 2 ^ 32 := by have := u7y h; omega
structure BK where
  ty : Int
  res : VT
  deriving DecidableEq
end Go.Proofs.YthnmienjiangkaaGreatDoor.Pi.Q
namespace Go.Proofs.YthnmienjiangkaaGreatDoor.Pi.Q
open Go Go.Proofs.YthnmienjiangkaaGreatDoor.Pi
attribute [local congr] ite_congr
theorem run_ta {H : Heap} {t : TypeId} {zv v : PV} : run (ta t zv false (.iface t v)) H = some (.ok v H) := by
  unfold run ta
  simp [M.pure]
theorem run_mf {H : Heap} {f : FuncId} {a b : List PV} : run (mf f a b) H = if (a.all isVal && b.all isVal) = true then some (.ok (.fn f (a.map stripC) (b.map stripC)) H) else none := by
  unfold run mf
  cases (a.all isVal && b.all isVal) <;> rfl
theorem bi_if {a : PV} {t : TypeId} {H : Heap} : run (bi .neq .iface (.iface t a) .niliface) H = some (.ok (.bool true) H) := nrfl rfl
theorem bi_ifn {H : Heap} : run (bi .neq .iface .niliface .niliface) H = some (.ok (.bool false) H) := nrfl rfl
theorem cutL {H : Heap} {L : List Box} (k : Nat) : hcut (hadd H L) (H.length + k) = hadd H (L.take k) := by unfold hcut hadd; rw [List.take_append, List.take_of_length_le (by omega), Nat.add_sub_cancel_left]
theorem u9j {n k : Nat} : (n + (k + 1) == n) = false := by simp
def outR {α : Type} (enc : α → PV) (zero : PV) : Rs α → PV
  | .ok v p => .tup [enc v, .int .i64 p, .int .i64 0]
  | .err p e => .tup [zero, .int .i64 p, .int .i64 e]
def atPl (at_ : Int) (b : List UInt8) (zero r : PV) : PV := if at_ < 0 ∨ b.length < at_ then .tup [zero, .int .i64 0, .int .i64 1] else r
end Go.Proofs.YthnmienjiangkaaGreatDoor.Pi.Q
namespace Go.Proofs.YthnmienjiangkaaGreatDoor.Pi.Q
open Go Go.Proofs.YthnmienjiangkaaGreatDoor.Pi
attribute [local congr] ite_congr
def rst (z : Bool) (b : List UInt8) (p pl e : Nat) : Box := .cells [BS z b, .int .i64 p, .int .i64 pl, .int .i64 e]
theorem u5n {H : Heap} {b : List UInt8} {z : Bool} {c p a w : Nat} (hH : hget H c = some (rst z b p 0 0)) :
    run (C u00 [.ptr c 0, .int .i64 a, .int .i64 w]) H = some (.ok (.tup []) (hset H c (rst z b p a w))) := by
  have hid := get_lt hH
  unfold rst at hH ⊢
  have hH : hget H c = some (.cells [BS z b, .int .i64 p, .int .i64 0, .int .i64 0]) := hH
  rw [u4e]
  simp +contextual -dsimp (disch := omega) only [↓goDown, goUp, cr, simprocAttr, hH]
theorem ulg {H : Heap} {b : List UInt8} {z : Bool} {c p : Nat} (hH : hget H c = some (rst z b p 0 0)) (hb : b.length < 2 ^ 61) (hp : p < b.length) :
    run (C u0w [.ptr c 0]) H = some (.ok (.tup [.int .u8 (b.getD p 0).toNat, .bool true]) H) := by
  have hid := get_lt hH
  have hset := u1g hH
  unfold rst at hH hset
  have hH : hget H c = some (.cells [BS z b, .int .i64 p, .int .i64 0, .int .i64 0]) := hH
  have hset : Pi.hset H c (.cells [BS z b, .int .i64 p, .int .i64 0, .int .i64 0]) = H := hset
  have hg := ucy hp
  have hgd : b.getD p 0 = b[p] := by simp [hp]
  have c0 : ¬ (b.length : Int) ≤ p := by omega
  rw [u2q, hgd]
  simp +contextual -dsimp (disch := omega) only [↓goDown, goUp, cr, simprocAttr, hH, hset, hg, byt, c0, List.length_map, Int.toNat_natCast]
theorem um5 {H : Heap} {b : List UInt8} {z : Bool} {c p : Nat} (hH : hget H c = some (rst z b p 0 0)) (hp : ¬ p < b.length) :
    run (C u0w [.ptr c 0]) H = some (.ok (.tup [.int .u8 0, .bool false]) H) := by
  have hid := get_lt hH
  have hset := u1g hH
  unfold rst at hH hset
  have hH : hget H c = some (.cells [BS z b, .int .i64 p, .int .i64 0, .int .i64 0]) := hH
  have hset : Pi.hset H c (.cells [BS z b, .int .i64 p, .int .i64 0, .int .i64 0]) = H := hset
  have c0 : (b.length : Int) ≤ p := by omega
  rw [u2q]
  simp +contextual -dsimp (disch := omega) only [↓goDown, goUp, cr, simprocAttr, hH, hset, c0, List.length_map, Int.toNat_natCast]
theorem uq5 {H : Heap} {b : List UInt8} {z : Bool} {c p n q : Nat} (hH : hget H c = some (rst z b p 0 0)) (hb : b.length < 2 ^ 61) (hp : p ≤ b.length) (hr : rU32 b p = .ok n q) :
    run (C u03 [.ptr c 0, .int .i64 32, .bool false]) H = some (.ok (.int .u64 n) (hset H c (rst z b q 0 0))) := by
  have hid := get_lt hH
  have h1 := ubw (H := H) (b := b) (z := z) (a := p) (B := 32) (Nat.le_refl _) hb (.inl rfl) hp
  have hr : rdU b 32 b.length p = .ok n q := hr
  rw [hr] at h1
  have h1 : run (C u09 [BS z b, .int .i64 p, .int .i64 b.length, .int .i64 32, .bool false]) H = some (.ok (.tup [.int .u64 n, .int .i64 q, .int .i64 0]) H) := h1
  unfold rst at hH ⊢
  have hH : hget H c = some (.cells [BS z b, .int .i64 p, .int .i64 0, .int .i64 0]) := hH
  rw [u0p]
  simp +contextual -dsimp (disch := omega) only [↓goDown, goUp, cr, simprocAttr, hH, h1, List.length_map]
theorem um2 {H : Heap} {b : List UInt8} {z : Bool} {c p a w : Nat} (hH : hget H c = some (rst z b p 0 0)) (hb : b.length < 2 ^ 61) (hp : p ≤ b.length) (hr : rU32 b p = .err a w) :
    run (C u03 [.ptr c 0, .int .i64 32, .bool false]) H = some (.ok (.int .u64 0) (hset H c (rst z b p a w))) := by
  have hid := get_lt hH
  have h1 := ubw (H := H) (b := b) (z := z) (a := p) (B := 32) (Nat.le_refl _) hb (.inl rfl) hp
  have h2 := u5n (a := a) (w := w) hH
  have hr : rdU b 32 b.length p = .err a w := hr
  have hw := u7i hr
  have c1 : ¬ (w : Int) = 0 := by omega
  rw [hr] at h1
  have h1 : run (C u09 [BS z b, .int .i64 p, .int .i64 b.length, .int .i64 32, .bool false]) H = some (.ok (.tup [.int .u64 0, .int .i64 a, .int .i64 w]) H) := h1
  unfold rst at hH
  have hH : hget H c = some (.cells [BS z b, .int .i64 p, .int .i64 0, .int .i64 0]) := hH
  rw [u0p]
  simp +contextual -dsimp (disch := omega) only [↓goDown, goUp, cr, simprocAttr, hH, h1, h2, c1, List.length_map]
theorem upa {H : Heap} {b : List UInt8} {z : Bool} {c p q : Nat} {n : Int} (hH : hget H c = some (rst z b p 0 0)) (hb : b.length < 2 ^ 61) (hp : p ≤ b.length) (hr : rdS b 33 b.length p = .ok n q) :
    run (C u03 [.ptr c 0, .int .i64 33, .bool true]) H = some (.ok (.int .u64 (IntKind.u64.wrap n)) (hset H c (rst z b q 0 0))) := by
  have hid := get_lt hH
  have h1 := umf (H := H) (b := b) (z := z) (a := p) (B := 33) (Nat.le_refl _) hb (.inr (.inl rfl)) hp
  rw [hr] at h1
  have h1 : run (C u09 [BS z b, .int .i64 p, .int .i64 b.length, .int .i64 33, .bool true]) H = some (.ok (.tup [.int .u64 (IntKind.u64.wrap n), .int .i64 q, .int .i64 0]) H) := h1
  generalize IntKind.u64.wrap n = m at h1 ⊢
  unfold rst at hH ⊢
  have hH : hget H c = some (.cells [BS z b, .int .i64 p, .int .i64 0, .int .i64 0]) := hH
  rw [u0p]
  simp +contextual -dsimp (disch := omega) only [↓goDown, goUp, cr, simprocAttr, hH, h1, List.length_map]
theorem um7 {H : Heap} {b : List UInt8} {z : Bool} {c p a w : Nat} (hH : hget H c = some (rst z b p 0 0)) (hb : b.length < 2 ^ 61) (hp : p ≤ b.length) (hr : rdS b 33 b.length p = .err a w) :
    run (C u03 [.ptr c 0, .int .i64 33, .bool true]) H = some (.ok (.int .u64 0) (hset H c (rst z b p a w))) := by
  have hid := get_lt hH
  have h1 := umf (H := H) (b := b) (z := z) (a := p) (B := 33) (Nat.le_refl _) hb (.inr (.inl rfl)) hp
  have h2 := u5n (a := a) (w := w) hH
  have hw := ui1 hr
  have c1 : ¬ (w : Int) = 0 := by omega
  rw [hr] at h1
  have h1 : run (C u09 [BS z b, .int .i64 p, .int .i64 b.length, .int .i64 33, .bool true]) H = some (.ok (.tup [.int .u64 0, .int .i64 a, .int .i64 w]) H) := h1
  unfold rst at hH
  have hH : hget H c = some (.cells [BS z b, .int .i64 p, .int .i64 0, .int .i64 0]) := hH
  rw [u0p]
  simp +contextual -dsimp (disch := omega) only [↓goDown, goUp, cr, simprocAttr, hH, h1, h2, c1, List.length_map]
theorem u9i {H : Heap} {c : Nat} : run (C u1m [.int .u8 c]) H = some (.ok (.int .i64 (hname c)) H) := by
  rw [u8p]
  by_cases h : c < 105 ∨ 116 < c
  · rw [u8s h]
    have e115 : ((c : Int) = 115) = False := eq_false (by omega)
    have e114 : ((c : Int) = 114) = False := eq_false (by omega)
    have e113 : ((c : Int) = 113) = False := eq_false (by omega)
    have e112 : ((c : Int) = 112) = False := eq_false (by omega)
    have e111 : ((c : Int) = 111) = False := eq_false (by omega)
    have e110 : ((c : Int) = 110) = False := eq_false (by omega)
    have e109 : ((c : Int) = 109) = False := eq_false (by omega)
    have e108 : ((c : Int) = 108) = False := eq_false (by omega)
    have e107 : ((c : Int) = 107) = False := eq_false (by omega)
    have e106 : ((c : Int) = 106) = False := eq_false (by omega)
    have e105 : ((c : Int) = 105) = False := eq_false (by omega)
    have e116 : ((c : Int) = 116) = False := eq_false (by omega)
    simp (dsimp := false) (disch := omega) only [↓goDown, goUp, cr, simprocAttr, e115, e114, e113, e112, e111, e110, e109, e108, e107, e106, e105, e116]
  · have h : c = 105 ∨ c = 106 ∨ c = 107 ∨ c = 108 ∨ c = 109 ∨ c = 110 ∨ c = 111 ∨ c = 112 ∨ c = 113 ∨ c = 114 ∨ c = 115 ∨ c = 116 := by omega
    rcases h with rfl | rfl | rfl | rfl | rfl | rfl | rfl | rfl | rfl | rfl | rfl | rfl <;>
      simp (dsimp := false) (disch := omega) only [↓goDown, goUp, cr, simprocAttr, Int.cast_ofNat_Int] <;> rfl
def outF (z : Bool) (b : List UInt8) (c : Nat) (H : Heap) {α : Type} (enc : α → PV) (r : Option (Out PV)) : Rs α → Prop
  | .ok v p => r = some (.ok (enc v) (hset H c (rst z b p 0 0)))
  | .err a w => ∃ v q, r = some (.ok (enc v) (hset H c (rst z b q a w))) ∧ w ≠ 0
def rsRef (t : Bool) : Rs Int → Rs VT
  | .ok h q => .ok ⟨5, t, h⟩ q
  | .err a w => .err a w
theorem uoc {c : Nat} (h : 105 ≤ c ∧ c ≤ 116) : hname c ≠ 0 := by
  have h : c = 105 ∨ c = 106 ∨ c = 107 ∨ c = 108 ∨ c = 109 ∨ c = 110 ∨ c = 111 ∨ c = 112 ∨ c = 113 ∨ c = 114 ∨ c = 115 ∨ c = 116 := by omega
  rcases h with rfl | rfl | rfl | rfl | rfl | rfl | rfl | rfl | rfl | rfl | rfl | rfl <;> decide
def rOf (any : Bool) (b : List UInt8) (p x : Nat) : Rs VT :=
  if x = 99 ∨ x = 100 then rsRef (x == 99) (rHeap b (p + 1))
  else if 105 ≤ x ∧ x ≤ 116 then .ok ⟨5, true, hname x⟩ (p + 1)
  else if any = true ∧ x = 123 then .err p 8
  else if any = true ∧ (124 ≤ x ∧ x ≤ 127) then .ok ⟨128 - x, false, 0⟩ (p + 1)
  else .err p 4
theorem uru {b : List UInt8} {p : Nat} (h : p < b.length) : rRef b p = rOf false b p (b.getD p 0).toNat := by
  unfold rRef rOf
  rw [if_pos h]
  generalize (b.getD p 0).toNat = x
  dsimp only
  by_cases h1 : x = 99 ∨ x = 100
  · have hz : hname x = 0 := u8s (by omega)
    have q3 : ¬ (x ≠ 99 ∧ x ≠ 100) := by omega
    rw [if_neg (fun h => h hz), if_neg q3, if_pos h1]
    cases rHeap b (p + 1) <;> rfl
  · rw [if_neg h1]
    by_cases h2 : 105 ≤ x ∧ x ≤ 116
    · rw [if_pos (uoc h2), if_pos h2]
    · have hz : hname x = 0 := u8s (by omega)
      have q3 : (x ≠ 99 ∧ x ≠ 100) := by omega
      rw [if_neg (fun h => h hz), if_pos q3, if_neg h2, if_neg (by simp), if_neg (by simp)]
theorem uvh {b : List UInt8} {p : Nat} (h : p < b.length) : rVal b p = rOf true b p (b.getD p 0).toNat := by
  have hr := uru h
  unfold rVal
  rw [if_pos h]
  unfold rOf at hr ⊢
  generalize (b.getD p 0).toNat = x at *
  by_cases h1 : x = 123
  · have q1 : ¬ (x = 99 ∨ x = 100) := by omega
    have q2 : ¬ (105 ≤ x ∧ x ≤ 116) := by omega
    rw [if_pos h1, if_neg q1, if_neg q2, if_pos ⟨rfl, h1⟩]
  · rw [if_neg h1]
    by_cases h2 : 124 ≤ x ∧ x ≤ 127
    · have q1 : ¬ (x = 99 ∨ x = 100) := by omega
      have q2 : ¬ (105 ≤ x ∧ x ≤ 116) := by omega
      rw [if_pos h2, if_neg q1, if_neg q2, if_neg (fun h => h1 h.2), if_pos ⟨rfl, h2⟩]
    · rw [if_neg h2, hr]
      simp only [h1, h2, and_false, if_false]
end Go.Proofs.YthnmienjiangkaaGreatDoor.Pi.Q
namespace Go.Proofs.YthnmienjiangkaaGreatDoor.Pi.Q
open Go Go.Proofs.YthnmienjiangkaaGreatDoor.Pi
attribute [local congr] ite_congr
def rstI (z : Bool) (b : List UInt8) (at_ : Int) : Box := .cells [BS z b, .int .i64 at_, .int .i64 0, .int .i64 0]
theorem uad {H : Heap} {b : List UInt8} {z : Bool} {at_ : Int} :
    run (C u15 [BS z b, .int .i64 at_]) H = some (.ok (.tup [.ptr H.length 0, .bool (decide (¬ (at_ < 0 ∨ b.length < at_)))]) (hadd H [rstI z b at_])) := by
  rw [u9w]
  by_cases h1 : 0 ≤ at_
  · by_cases h2 : at_ ≤ b.length
    · have e : decide (¬ (at_ < 0 ∨ (b.length : Int) < at_)) = true := by simp; omega
      rw [e]
      simp +contextual -dsimp (disch := omega) only [↓goDown, goUp, cr, simprocAttr, h1, h2, List.length_map]
      all_goals rfl
    · have e : decide (¬ (at_ < 0 ∨ (b.length : Int) < at_)) = false := by simp; omega
      rw [e]
      simp +contextual -dsimp (disch := omega) only [↓goDown, goUp, cr, simprocAttr, h1, h2, List.length_map]
      all_goals rfl
  · have e : decide (¬ (at_ < 0 ∨ (b.length : Int) < at_)) = false := by simp; omega
    rw [e]
    simp +contextual -dsimp (disch := omega) only [↓goDown, goUp, cr, simprocAttr, h1, List.length_map]
    all_goals rfl
theorem end_ok {H : Heap} {b : List UInt8} {z : Bool} {c p : Nat} (hH : hget H c = some (rst z b p 0 0)) : run (C u0l [.ptr c 0]) H = some (.ok (.tup [.int .i64 p, .int .i64 0]) H) := by
  have hset := u1g hH
  have hH' : hget H c = some (.cells [BS z b, .int .i64 p, .int .i64 0, .int .i64 0]) := hH
  have hs' : Pi.hset H c (.cells [BS z b, .int .i64 p, .int .i64 0, .int .i64 0]) = H := hset
  rw [u4h]
  simp +contextual -dsimp (disch := omega) only [↓goDown, goUp, cr, simprocAttr, hH', hs']
theorem u8z {H : Heap} {b : List UInt8} {z : Bool} {c p a w : Nat} (hH : hget H c = some (rst z b p a w)) (hw : w ≠ 0) : run (C u0l [.ptr c 0]) H = some (.ok (.tup [.int .i64 a, .int .i64 w]) H) := by
  have hset := u1g hH
  have hH' : hget H c = some (.cells [BS z b, .int .i64 p, .int .i64 a, .int .i64 w]) := hH
  have hs' : Pi.hset H c (.cells [BS z b, .int .i64 p, .int .i64 a, .int .i64 w]) = H := hset
  have c1 : ¬ (w : Int) = 0 := by omega
  rw [u4h]
  simp +contextual -dsimp (disch := omega) only [↓goDown, goUp, cr, simprocAttr, hH', hs', c1]
end Go.Proofs.YthnmienjiangkaaGreatDoor.Pi.Q
namespace Go.Proofs.YthnmienjiangkaaGreatDoor.Pi.Q
open Go Go.Proofs.YthnmienjiangkaaGreatDoor.Pi
attribute [local congr] ite_congr
theorem u6a {at_ : Int} {b : List UInt8} {α : Type} {enc : α → PV} {zero : PV} {r : Rs α} (P : PV → Prop) (h1 : P (.tup [zero, .int .i64 0, .int .i64 1])) (h2 : ∀ v p, r = .ok v p → P (.tup [enc v, .int .i64 (p : Nat), .int .i64 0])) (h3 : ∀ a w, r = .err a w → P (.tup [zero, .int .i64 (a : Nat), .int .i64 (w : Nat)])) : P (atPl at_ b zero (outR enc zero r)) := by
  unfold atPl
  split
  · exact h1
  · cases hr : r with
    | ok v p => exact h2 v p hr
    | err a w => exact h3 a w hr
end Go.Proofs.YthnmienjiangkaaGreatDoor.Pi.Q
namespace Go.Proofs.YthnmienjiangkaaGreatDoor.Pi.Q
open Go Go.Proofs.YthnmienjiangkaaGreatDoor.Pi
attribute [local congr] ite_congr
theorem uwt {H : Heap} {v : PV} : run (ap true 1 1 (.slice false true 0 []) (.slice true false 1 [v])) H = some (.ok (.slice true false 1 [v]) H) := nrfl rfl
theorem uw5 {H : Heap} {k : IntKind} {n : Int} : run (bs true none [.int k n]) H = some (.ok (.slice true false 1 [.int k n]) H) := nrfl rfl
theorem uu4 {H : Heap} {k : IntKind} {n : Int} : bsR true none [.int k n] H = some (.ok (.slice true false 1 [.int k n]) H) := by simp [bsR, u2f, PV.flat]
theorem cv_127 {H : Heap} {o z p : Bool} {s : Nat} : run (cv .bytesToStr p (.slice o z s [.int .u8 127])) H = some (.ok (.str ⟨#[127]⟩) H) := nrfl rfl
theorem str_eq {H : Heap} {s : ByteArray} : run (bi .eql .none (.str s) (.str s)) H = some (.ok (.bool true) H) := by
  show some (Out.ok (PV.bool (s.toList == s.toList)) H) = _
  rw [beq_self_eq_true]
theorem utq {H : Heap} : run (C u4x []) H = some (.ok (.bool true) H) := by
  rw [u9p]
  simp +contextual -dsimp (disch := omega) only [↓goDown, goUp, cr, simprocAttr, ubr, ua4, ug1, udk, ucj, ucu, ud0, un_not, run_mf, bi_ifn, uwt, uw5, uu4, cv_127, str_eq, cutL]
theorem uwr {H : Heap} {k : IntKind} {n : Int} : run (bi .neq .none (.int k n) (.int k n)) H = some (.ok (.bool false) H) := by
  unfold run
  rw [bi_neq, bne_self_eq_false]
  rfl
end Go.Proofs.YthnmienjiangkaaGreatDoor.Pi.Q
namespace Go.Proofs.YthnmienjiangkaaGreatDoor.Pi.Q
open Go Go.Proofs.YthnmienjiangkaaGreatDoor.Pi
attribute [local congr] ite_congr
def rSmall (b : List UInt8) (most p : Nat) : Rs Nat :=
  if p < b.length then if most < (b.getD p 0).toNat then .err p 4 else .ok (b.getD p 0).toNat (p + 1) else .err b.length 3
theorem uch {b : List UInt8} {most p q v : Nat} (h : rSmall b most p = .ok v q) : q ≤ b.length ∧ v ≤ most := by
  unfold rSmall at h
  split at h
  · split at h
    · cases h
    · simp only [Rs.ok.injEq] at h; omega
  · cases h
theorem unz {H : Heap} {b : List UInt8} {z : Bool} {c p most : Nat} (hH : hget H c = some (curB z b p)) (hb : b.length < 2 ^ 61) (hp : p ≤ b.length) :
    run (C u0g [.ptr c 0, .int .u8 most]) H = outC z b c H p (fun n : Nat => .int .u8 n) (rSmall b most p) := by
  have hid := get_lt hH
  have hset := u1g hH
  rw [ua5]
  unfold rSmall
  by_cases h1 : p < b.length
  · have hl := ui9 hH hb h1
    have hc := byt_lt (b.getD p 0)
    rw [if_pos h1]
    generalize (b.getD p 0).toNat = x at hl hc ⊢
    by_cases h2 : most < x
    · rw [if_pos h2]
      have c1 : (most : Int) < x := by omega
      simp only [outC, hset]
      unfold curB at hH
      simp +contextual -dsimp (disch := omega) only [↓goDown, goUp, cr, simprocAttr, hl, eq_true c1, hH, u6r]
      all_goals rfl
    · rw [if_neg h2]
      have c1 : ¬ (most : Int) < x := by omega
      simp only [outC]
      unfold curB at hH ⊢
      simp +contextual -dsimp (disch := omega) only [↓goDown, goUp, cr, simprocAttr, hl, c1, hH, ns, u7g]
  · have hl := udz hH hb h1
    rw [if_neg h1]
    simp only [outC, hset]
    simp +contextual -dsimp (disch := omega) only [↓goDown, goUp, cr, simprocAttr, hl, u5t]
def rIndex (b : List UInt8) (p : Nat) : Rs Int :=
  match rU32 b p with
  | .ok n q => if 2147483647 < n then .err p 2 else .ok (n : Int) q
  | .err a w => .err a w
theorem us8 {b : List UInt8} {p q : Nat} {v : Int} (h : rIndex b p = .ok v q) : q ≤ b.length := by
  unfold rIndex at h
  cases hr : rU32 b p with
  | ok n q1 =>
    rw [hr] at h
    dsimp only at h
    have := uct hr
    split at h
    · cases h
    · simp only [Rs.ok.injEq] at h; omega
  | err a w => rw [hr] at h; cases h
theorem utr {H : Heap} {b : List UInt8} {z : Bool} {c p : Nat} (hH : hget H c = some (curB z b p)) (hb : b.length < 2 ^ 61) (hp : p ≤ b.length) :
    ∃ q, run (C u21 [.ptr c 0]) H = outC z b c H q (fun n : Int => .int .i64 n) (rIndex b p) := by
  have hid := get_lt hH
  have hset := u1g hH
  have hs' : Pi.hset H c (.cells [BS z b, .int .i64 p]) = H := hset
  have h1 := u32_is hH hb hp
  rw [u9l]
  unfold rIndex
  cases hr : rU32 b p with
  | err a w =>
    rw [hr] at h1
    simp only [outC, hset] at h1
    refine ⟨p, ?_⟩
    simp only [outC, hset]
    unfold curB at hH
    simp +contextual -dsimp (disch := omega) only [↓goDown, goUp, cr, simprocAttr, hH, hs', h1, u5t]
  | ok n q =>
    have hn := uct hr
    rw [hr] at h1
    simp only [outC] at h1
    refine ⟨q, ?_⟩
    by_cases h2 : 2147483647 < n
    · have c1 : (2147483647 : Int) < n := by omega
      simp only [h2, if_true, outC]
      unfold curB at hH h1 ⊢
      simp +contextual -dsimp (disch := omega) only [↓goDown, goUp, cr, simprocAttr, hH, hs', h1, eq_true c1, u6r]
      all_goals rfl
    · have c1 : ¬ (2147483647 : Int) < n := by omega
      simp only [h2, if_false, outC]
      unfold curB at hH h1 ⊢
      simp +contextual -dsimp (disch := omega) only [↓goDown, goUp, cr, simprocAttr, hH, hs', h1, c1, u71]
structure FT where
  ty : VT
  mu : Bool
  deriving DecidableEq
end Go.Proofs.YthnmienjiangkaaGreatDoor.Pi.Q
namespace Go.Proofs.YthnmienjiangkaaGreatDoor.Pi.Q
open Go Go.Proofs.YthnmienjiangkaaGreatDoor.Pi
attribute [local congr] ite_congr
abbrev encI (v : Int) : PV := .int .i64 v
structure CT where
  kind : Int
  ps : List VT
  rs : List VT
  fs : List FT
  deriving DecidableEq
structure ST where
  fin : Bool
  sup : List Int
  comp : CT
  deriving DecidableEq
end Go.Proofs.YthnmienjiangkaaGreatDoor.Pi.Q
namespace Go.Proofs.YthnmienjiangkaaGreatDoor.Pi.Q
open Go Go.Proofs.YthnmienjiangkaaGreatDoor.Pi
attribute [local congr] ite_congr
structure RT where
  types : List ST
  exp : Bool
  deriving DecidableEq
end Go.Proofs.YthnmienjiangkaaGreatDoor.Pi.Q
namespace Go.Proofs.YthnmienjiangkaaGreatDoor.Pi.Q
open Go Go.Proofs.YthnmienjiangkaaGreatDoor.Pi
attribute [local congr] ite_congr
def outX (z : Bool) (b : List UInt8) (c : Nat) (H : Heap) {α : Type} (enc : α → PV) (r : Option (Out PV)) (x : α × Nat) : Rs α → Prop
  | .ok v p => r = some (.ok (enc v) (hset H c (rst z b p 0 0)))
  | .err a w => r = some (.ok (enc x.1) (hset H c (rst z b x.2 a w))) ∧ w ≠ 0
def eHeap (b : List UInt8) (p : Nat) : Int × Nat := match rdS b 33 b.length p with | .ok n q => (0, q) | .err a w => (0, p)
theorem rheapX {H : Heap} {b : List UInt8} {z : Bool} {c p : Nat} (hH : hget H c = some (rst z b p 0 0)) (hb : b.length < 2 ^ 61) (hp : p ≤ b.length) :
    outX z b c H (fun x : Int => .int .i64 x) (run (C u19 [.ptr c 0]) H) (eHeap b p) (rHeap b p) := by
  have hid := get_lt hH
  have hset := u1g hH
  have hH' : hget H c = some (.cells [BS z b, .int .i64 p, .int .i64 0, .int .i64 0]) := hH
  have hs' : Pi.hset H c (.cells [BS z b, .int .i64 p, .int .i64 0, .int .i64 0]) = H := hset
  rw [u72]
  unfold rHeap
  -- behind the look
  have tail : ∀ (r : Option (Out PV)), r = truncR H (run (M.bind (C u03 [.ptr c 0, .int .i64 33, .bool true]) fun t32_18 =>
      M.bind (cv (.int .i64) true t32_18) fun t33_19 =>
      M.bind (nc P (.ptr c 0)) fun t35_20 =>
      M.bind (fa 3 t35_20) fun t36_21 =>
      M.bind (ld none false t36_21) fun t37_22 =>
      M.bind (bi .eql .none t37_22 (.int .i64 0)) fun t38_23 =>
      M.bind (gd (strip t38_23) true (M.pure (strip t33_19))) fun t40_24 =>
      M.bind (gd (strip t38_23) true (bi .lss .none t40_24 (.int .i64 0))) fun t41_25 =>
      M.bind (pick (strip t38_23) t41_25 (.bool false)) fun t42_26 =>
      condM t42_26
      (M.bind (C u00 [.ptr c 0, .int .i64 p, .int .i64 4]) fun t45_27 =>
      u0y (.ptr c 0) (.int .i64 0) (.int .i64 p) t33_19)
      (u0y (.ptr c 0) (.int .i64 0) (.int .i64 p) t33_19)) H) → outX z b c H (fun x : Int => .int .i64 x) r (eHeap b p) (rS33 b p) := by
    intro r hr0
    subst hr0
    unfold rS33 eHeap
    cases hr : rdS b 33 b.length p with
    | ok n q =>
      have hn := rdS_lt hr
      have h1 := upa hH hb hp hr
      have hw : IntKind.i64.wrap (IntKind.u64.wrap n) = n := by rw [wi, wu]; omega
      have hH2 : hget (Pi.hset H c (rst z b q 0 0)) c = some (rst z b q 0 0) := u5u hid
      have hH3 : hget (Pi.hset H c (rst z b q 0 0)) c = some (.cells [BS z b, .int .i64 q, .int .i64 0, .int .i64 0]) := hH2
      have f4 := fun a w => u5n (a := a) (w := w) hH2
      simp only [set_set] at f4
      dsimp only
      by_cases n1 : n < 0
      · rw [if_pos n1]
        refine ⟨?_, by omega⟩
        have hH5 : hget (Pi.hset H c (rst z b q p 4)) c = some (.cells [BS z b, .int .i64 q, .int .i64 p, .int .i64 4]) := u5u hid
        have f4 := f4 p 4
        have f4 : run (C u00 [.ptr c 0, .int .i64 p, .int .i64 4]) (Pi.hset H c (rst z b q 0 0)) = some (.ok (.tup []) (Pi.hset H c (rst z b q p 4))) := f4
        simp +contextual -dsimp (disch := omega) only [↓goDown, goUp, cr, simprocAttr, h1, hw, hH3, n1, f4, u16, u13, hH5]
      · rw [if_neg n1]
        by_cases n2 : 2147483647 < n
        · rw [if_pos n2]
          refine ⟨?_, by omega⟩
          have n3 : (2147483648 : Int) ≤ n := by omega
          have hH5 : hget (Pi.hset H c (rst z b q p 2)) c = some (.cells [BS z b, .int .i64 q, .int .i64 p, .int .i64 2]) := u5u hid
          have f4 : run (C u00 [.ptr c 0, .int .i64 p, .int .i64 2]) (Pi.hset H c (rst z b q 0 0)) = some (.ok (.tup []) (Pi.hset H c (rst z b q p 2))) := f4 p 2
          simp +contextual -dsimp (disch := omega) only [↓goDown, goUp, cr, simprocAttr, h1, hw, hH3, n1, n3, f4, u16, u13, hH5]
        · rw [if_neg n2]
          have n3 : ¬ (2147483648 : Int) ≤ n := by omega
          show _ = some _
          simp +contextual -dsimp (disch := omega) only [↓goDown, goUp, cr, simprocAttr, h1, hw, hH3, n1, n3, u16, u13]
    | err a w =>
      have h1 := um7 hH hb hp hr
      have hw := ui1 hr
      have c1 : ¬ (w : Int) = 0 := by omega
      have hH5 : hget (Pi.hset H c (rst z b p a w)) c = some (.cells [BS z b, .int .i64 p, .int .i64 a, .int .i64 w]) := u5u hid
      have e0 : IntKind.i64.wrap 0 = 0 := rfl
      refine ⟨?_, hw⟩
      simp +contextual -dsimp (disch := omega) only [↓goDown, goUp, cr, simprocAttr, h1, hH5, c1, e0, u16, u13]
  by_cases h1 : p < b.length
  · have hl := ulg hH hb h1
    have hc := byt_lt (b.getD p 0)
    rw [if_pos h1]
    generalize (b.getD p 0).toNat = x at hl hc ⊢
    have hn := u9i (H := H) (c := x)
    by_cases h2 : hname x = 0
    · rw [if_neg (by simpa using h2)]
      refine tail _ ?_
      simp +contextual -dsimp (disch := omega) only [↓goDown, goUp, cr, simprocAttr, hl, hn, h2, hH', hs']
    · rw [if_pos (by simpa using h2)]
      show _ = some _
      simp +contextual -dsimp (disch := omega) only [↓goDown, goUp, cr, simprocAttr, hl, u9i, h2, hH']
      all_goals rfl
  · have hl := um5 hH h1
    have e3 : rS33 b p = .err b.length 3 := by
      have hpe : p = b.length := by omega
      subst hpe
      unfold rS33 rdS lebS
      rw [if_neg (by omega)]
    rw [if_neg h1, ← e3]
    refine tail _ ?_
    simp +contextual -dsimp (disch := omega) only [↓goDown, goUp, cr, simprocAttr, hl, hH', hs']
def eOf (any : Bool) (b : List UInt8) (p x : Nat) : VT × Nat :=
  if x = 99 ∨ x = 100 then (⟨5, x == 99, (eHeap b (p + 1)).1⟩, (eHeap b (p + 1)).2)
  else if any = true ∧ x = 123 then (⟨0, false, 0⟩, p) else (⟨0, false, 0⟩, p + 1)
def eVal (any : Bool) (b : List UInt8) (p : Nat) : VT × Nat := if p < b.length then eOf any b p (b.getD p 0).toNat else (⟨0, false, 0⟩, p)
theorem rvalX {H : Heap} {b : List UInt8} {z : Bool} {c p : Nat} {any : Bool} (hH : hget H c = some (rst z b p 0 0)) (hb : b.length < 2 ^ 61) (hp : p ≤ b.length) :
    outX z b c H encV (run (C u0h [.ptr c 0, .bool any, .bool false]) H) (eVal any b p) (if p < b.length then rOf any b p (b.getD p 0).toNat else .err b.length 3) := by
  have hid := get_lt hH
  have hset := u1g hH
  have hH1 : ∀ L, hget (hadd H L) c = some (rst z b p 0 0) := fun L => by rw [u81 hid]; exact hH
  have hH' : hget H c = some (.cells [BS z b, .int .i64 p, .int .i64 0, .int .i64 0]) := hH
  have hs' : Pi.hset H c (.cells [BS z b, .int .i64 p, .int .i64 0, .int .i64 0]) = H := hset
  have so : ∀ u a w L, Pi.hset (hadd H L) c (rst z b u a w) = hadd (Pi.hset H c (rst z b u a w)) L := fun u a w L => by rw [ucn hid]
  have so1 : ∀ u a w u' a' w' L, Pi.hset (hadd (Pi.hset H c (rst z b u' a' w')) L) c (rst z b u a w) = hadd (Pi.hset H c (rst z b u a w)) L := fun u a w u' a' w' L => by rw [uab hid, set_set]
  rw [u4l]
  unfold eVal
  by_cases h1 : p < b.length
  · have hl := fun L => ulg (hH1 L) hb h1
    have hc := byt_lt (b.getD p 0)
    rw [if_pos h1, if_pos h1]
    generalize (b.getD p 0).toNat = x at hl hc ⊢
    have hfail := fun L (w : Nat) => u5n (a := p) (w := w) (hH1 L)
    simp only [so] at hfail
    have hf4 : ∀ L, run (C u00 [.ptr c 0, .int .i64 p, .int .i64 4]) (hadd H L) = some (.ok (.tup []) (hadd (Pi.hset H c (rst z b p p 4)) L)) := fun L => hfail L 4
    have hf8 : ∀ L, run (C u00 [.ptr c 0, .int .i64 p, .int .i64 8]) (hadd H L) = some (.ok (.tup []) (hadd (Pi.hset H c (rst z b p p 8)) L)) := fun L => hfail L 8
    unfold rOf eOf
    by_cases h99 : x = 99 ∨ x = 100
    · rw [if_pos h99, if_pos h99]
      have hH2 : ∀ L, hget (hadd (Pi.hset H c (rst z b (p + 1) 0 0)) L) c = some (rst z b (p + 1) 0 0) := fun L => by
        rw [uc0 hid, u5u hid]
      have hk := rheapX (hH2 [.cells [.int .i64 0, .bool false, .int .i64 0]]) hb (show p + 1 ≤ b.length by omega)
      have fin : ∀ (t : Bool), ((x : Int) == 99) = t → (x == 99) = t → outX z b c H encV (truncR H (run (M.bind (C u19 [.ptr c 0]) fun t41_25 =>
          M.bind (bd [(.int .i64 0), (.bool false), (.int .i64 0)] [(0, 1, (.int .i64 5)), (1, 1, (.bool t)), (2, 1, t41_25)]) fun t42_26 =>
          M.bind (st 3 true (.ptr H.length 0) t42_26) fun _ =>
          M.bind (ld (some 3) true (.ptr H.length 0)) fun t0_28 => guardM (!isTup t0_28) (M.pure t0_28)) (hadd (Pi.hset H c (rst z b (p + 1) 0 0)) [.cells [.int .i64 0, .bool false, .int .i64 0]]))) (⟨5, t, (eHeap b (p + 1)).1⟩, (eHeap b (p + 1)).2) (rsRef t (rHeap b (p + 1))) := by
        intro t ht ht'
        cases hr : rHeap b (p + 1) with
        | ok v q =>
          rw [hr] at hk
          simp only [outX, so1] at hk
          simp only [rsRef]
          show _ = some _
          simp +contextual -dsimp (disch := omega) only [↓goDown, goUp, cr, simprocAttr, hk]
          all_goals rfl
        | err a w =>
          rw [hr] at hk
          obtain ⟨hk, hw⟩ := hk
          simp only [so1] at hk
          simp only [rsRef]
          refine ⟨?_, hw⟩
          simp +contextual -dsimp (disch := omega) only [↓goDown, goUp, cr, simprocAttr, hk]
          all_goals rfl
      have hst : Pi.hset H c (.cells [BS z b, .int .i64 ((p : Int) + 1), .int .i64 0, .int .i64 0]) = Pi.hset H c (rst z b (p + 1) 0 0) := rfl
      by_cases c1 : x = 99
      · have e1 : ((x : Int) = 99) = True := eq_true (by omega)
        have e2 : ((x : Int) == 99) = true := by simpa using e1
        have e3 : (x == 99) = true := by simpa using c1
        rw [e3]
        refine Eq.mp (congrArg (fun r => outX z b c H encV r _ _) ?_) (fin true e2 e3)
        symm
        simp +contextual -dsimp (disch := omega) only [↓goDown, goUp, cr, simprocAttr, hl, e1, e2, hH', hst]
      · have e1 : ((x : Int) = 99) = False := eq_false (by omega)
        have e2 : ((x : Int) == 99) = false := by simpa using e1
        have e3 : (x == 99) = false := by simpa using c1
        have e4 : ((x : Int) = 100) = True := eq_true (by omega)
        rw [e3]
        refine Eq.mp (congrArg (fun r => outX z b c H encV r _ _) ?_) (fin false e2 e3)
        symm
        simp +contextual -dsimp (disch := omega) only [↓goDown, goUp, cr, simprocAttr, hl, e1, e2, e4, hH', hst]
    · rw [if_neg h99, if_neg h99]
      have e1 : ((x : Int) = 99) = False := eq_false (by omega)
      have e2 : ((x : Int) = 100) = False := eq_false (by omega)
      by_cases h2 : 105 ≤ x ∧ x ≤ 116
      · rw [if_pos h2]
        have hz : (hname x = 0) = False := eq_false (uoc h2)
        show _ = some _
        simp +contextual -dsimp (disch := omega) only [↓goDown, goUp, cr, simprocAttr, hl, e1, e2, u9i, hz, hH']
        all_goals rfl
      · rw [if_neg h2]
        have hz : (hname x = 0) = True := eq_true (u8s (by omega))
        have g1 : ((x : Int) = 120) = (x = 120) := by rw [eq_iff_iff]; omega
        cases any with
        | true =>
          by_cases h3 : x = 123
          · have e3 : ((x : Int) = 123) = True := eq_true (by omega)
            rw [if_pos ⟨rfl, h3⟩, if_pos ⟨rfl, h3⟩]
            refine ⟨?_, by omega⟩
            simp +contextual -dsimp (disch := omega) only [↓goDown, goUp, cr, simprocAttr, hl, e1, e2, u9i, hz, hH', e3, hf8]
            all_goals rfl
          · have e3 : ((x : Int) = 123) = False := eq_false (by omega)
            rw [if_neg (fun h => h3 h.2), if_neg (fun h => h3 h.2)]
            by_cases h4 : 124 ≤ x ∧ x ≤ 127
            · have e4 : (124 : Int) ≤ x := by omega
              have e5 : (x : Int) ≤ 127 := by omega
              rw [if_pos ⟨rfl, h4⟩]
              show _ = some _
              simp +contextual -dsimp (disch := omega) only [↓goDown, goUp, cr, simprocAttr, hl, e1, e2, u9i, hz, hH', e3, e4, e5, u12]
              all_goals rfl
            · rw [if_neg (fun h => h4 h.2)]
              have e4 : (124 : Int) ≤ x → ¬ (x : Int) ≤ 127 := by omega
              refine ⟨?_, by omega⟩
              by_cases h5 : (124 : Int) ≤ x
              · have h6 := e4 h5
                simp +contextual -dsimp (disch := omega) only [↓goDown, goUp, cr, simprocAttr, hl, e1, e2, u9i, hz, hH', e3, h5, h6, hf4, u12, rst]
                all_goals rfl
              · simp +contextual -dsimp (disch := omega) only [↓goDown, goUp, cr, simprocAttr, hl, e1, e2, u9i, hz, hH', e3, h5, hf4, u12, rst]
                all_goals rfl
        | false =>
          rw [if_neg (by simp), if_neg (by simp), if_neg (by simp)]
          refine ⟨?_, by omega⟩
          simp +contextual -dsimp (disch := omega) only [↓goDown, goUp, cr, simprocAttr, hl, e1, e2, u9i, hz, hH', hf4, u12, rst]
          all_goals rfl
  · rw [if_neg h1, if_neg h1]
    have hl := fun L => um5 (hH1 L) h1
    have hfail := fun L => u5n (a := b.length) (w := 3) (hH1 L)
    simp only [so] at hfail
    have hfail : ∀ L, run (C u00 [.ptr c 0, .int .i64 b.length, .int .i64 3]) (hadd H L) = some (.ok (.tup []) (hadd (Pi.hset H c (rst z b p b.length 3)) L)) := hfail
    refine ⟨?_, by omega⟩
    simp +contextual -dsimp (disch := omega) only [↓goDown, goUp, cr, simprocAttr, hl, hH', hfail, List.length_map, un_not]
    all_goals rfl
end Go.Proofs.YthnmienjiangkaaGreatDoor.Pi.Q
namespace Go.Proofs.YthnmienjiangkaaGreatDoor.Pi.Q
open Go Go.Proofs.YthnmienjiangkaaGreatDoor.Pi
attribute [local congr] ite_congr
def eSmall (b : List UInt8) (p : Nat) : Nat × Nat := if p < b.length then ((b.getD p 0).toNat, p + 1) else (0, p)
theorem uw4 {H : Heap} {b : List UInt8} {z : Bool} {c p most : Nat} (hH : hget H c = some (rst z b p 0 0)) (hb : b.length < 2 ^ 61) (hp : p ≤ b.length) :
    outX z b c H (fun n : Nat => .int .u8 n) (run (C u01 [.ptr c 0, .int .u8 most]) H) (eSmall b p) (rSmall b most p) := by
  have hid := get_lt hH
  have hset := u1g hH
  have hH' : hget H c = some (.cells [BS z b, .int .i64 p, .int .i64 0, .int .i64 0]) := hH
  have hs' : Pi.hset H c (.cells [BS z b, .int .i64 p, .int .i64 0, .int .i64 0]) = H := hset
  rw [u48]
  unfold rSmall eSmall
  by_cases h1 : p < b.length
  · have hl := ulg hH hb h1
    have hc := byt_lt (b.getD p 0)
    have f4 : run (C u00 [.ptr c 0, .int .i64 p, .int .i64 4]) H = some (.ok (.tup []) (Pi.hset H c (rst z b p p 4))) := u5n (a := p) (w := 4) hH
    have g4 : hget (Pi.hset H c (rst z b p p 4)) c = some (.cells [BS z b, .int .i64 p, .int .i64 p, .int .i64 4]) := u5u hid
    rw [if_pos h1, if_pos h1]
    generalize (b.getD p 0).toNat = x at hl hc ⊢
    by_cases h2 : most < x
    · have c1 : (most : Int) < x := by omega
      rw [if_pos h2]
      refine ⟨?_, by omega⟩
      simp +contextual -dsimp (disch := omega) only [↓goDown, goUp, cr, simprocAttr, hl, eq_true c1, hH', f4, g4, u2w]
      all_goals rfl
    · have c1 : ¬ (most : Int) < x := by omega
      rw [if_neg h2]
      show _ = some _
      simp +contextual -dsimp (disch := omega) only [↓goDown, goUp, cr, simprocAttr, hl, c1, hH', u2w]
      all_goals rfl
  · have hl := um5 hH h1
    have f3 : run (C u00 [.ptr c 0, .int .i64 b.length, .int .i64 3]) H = some (.ok (.tup []) (Pi.hset H c (rst z b p b.length 3))) := u5n (a := b.length) (w := 3) hH
    rw [if_neg h1, if_neg h1]
    refine ⟨?_, by omega⟩
    simp +contextual -dsimp (disch := omega) only [↓goDown, goUp, cr, simprocAttr, hl, hH', f3, List.length_map, un_not]
    all_goals rfl
theorem rvalAX {H : Heap} {b : List UInt8} {z : Bool} {c p : Nat} (hH : hget H c = some (rst z b p 0 0)) (hb : b.length < 2 ^ 61) (hp : p ≤ b.length) :
    outX z b c H encV (run (C u0h [.ptr c 0, .bool true, .bool false]) H) (eVal true b p) (rVal b p) := by
  have h := rvalX (any := true) hH hb hp
  by_cases h1 : p < b.length
  · rw [if_pos h1, ← uvh h1] at h; exact h
  · rw [if_neg h1] at h
    have e : rVal b p = .err b.length 3 := by unfold rVal; rw [if_neg h1]
    rw [e]; exact h
end Go.Proofs.YthnmienjiangkaaGreatDoor.Pi.Q
namespace Go.Proofs.YthnmienjiangkaaGreatDoor.Pi.Q
open Go Go.Proofs.YthnmienjiangkaaGreatDoor.Pi
attribute [local congr] ite_congr
variable {H : Heap} {b : List UInt8} {z : Bool} {c q a w : Nat}
theorem uq7 (hH : hget H c = some (rst z b q a w)) (hw : w ≠ 0) : run (C u0w [.ptr c 0]) H = some (.ok (.tup [.int .u8 0, .bool false]) H) := by
  have hH' : hget H c = some (.cells [BS z b, .int .i64 q, .int .i64 a, .int .i64 w]) := hH
  have c1 : ((w : Int) = 0) = False := eq_false (by omega)
  rw [u2q]
  simp +contextual -dsimp (disch := omega) only [↓goDown, goUp, cr, simprocAttr, hH', c1]
theorem ur6 (hH : hget H c = some (rst z b q a w)) (hw : w ≠ 0) {x y : Int} : run (C u00 [.ptr c 0, .int .i64 x, .int .i64 y]) H = some (.ok (.tup []) H) := by
  have hH' : hget H c = some (.cells [BS z b, .int .i64 q, .int .i64 a, .int .i64 w]) := hH
  have c1 : ((w : Int) = 0) = False := eq_false (by omega)
  rw [u4e]
  simp +contextual -dsimp (disch := omega) only [↓goDown, goUp, cr, simprocAttr, hH', c1]
theorem ujk (hH : hget H c = some (rst z b q a w)) (hw : w ≠ 0) {x : Int} {t : Bool} : run (C u03 [.ptr c 0, .int .i64 x, .bool t]) H = some (.ok (.int .u64 0) H) := by
  have hH' : hget H c = some (.cells [BS z b, .int .i64 q, .int .i64 a, .int .i64 w]) := hH
  have c1 : ((w : Int) = 0) = False := eq_false (by omega)
  rw [u0p]
  simp +contextual -dsimp (disch := omega) only [↓goDown, goUp, cr, simprocAttr, hH', c1]
end Go.Proofs.YthnmienjiangkaaGreatDoor.Pi.Q
namespace Go.Proofs.YthnmienjiangkaaGreatDoor.Pi.Q
open Go Go.Proofs.YthnmienjiangkaaGreatDoor.Pi
attribute [local congr] ite_congr
def eIndex (b : List UInt8) (p : Nat) : Int × Nat := match rU32 b p with | .ok n q => (0, q) | .err a w => (0, p)
theorem uw6 {H : Heap} {b : List UInt8} {z : Bool} {c p : Nat} (hH : hget H c = some (rst z b p 0 0)) (hb : b.length < 2 ^ 61) (hp : p ≤ b.length) :
    outX z b c H encI (run (C u0k [.ptr c 0]) H) (eIndex b p) (rIndex b p) := by
  have hid := get_lt hH
  have hset := u1g hH
  have hH' : hget H c = some (.cells [BS z b, .int .i64 p, .int .i64 0, .int .i64 0]) := hH
  have hs' : Pi.hset H c (.cells [BS z b, .int .i64 p, .int .i64 0, .int .i64 0]) = H := hset
  rw [u40]
  unfold rIndex eIndex
  cases hr : rU32 b p with
  | ok n q =>
    have hn := uct hr
    have h1 := uq5 hH hb hp hr
    have hH2 : hget (Pi.hset H c (rst z b q 0 0)) c = some (rst z b q 0 0) := u5u hid
    have hH3 : hget (Pi.hset H c (rst z b q 0 0)) c = some (.cells [BS z b, .int .i64 q, .int .i64 0, .int .i64 0]) := hH2
    have f2 : run (C u00 [.ptr c 0, .int .i64 p, .int .i64 2]) (Pi.hset H c (rst z b q 0 0)) = some (.ok (.tup []) (Pi.hset H c (rst z b q p 2))) := by
      have := u5n (a := p) (w := 2) hH2
      rwa [set_set] at this
    dsimp only
    by_cases h2 : 2147483647 < n
    · have c1 : (2147483648 : Int) ≤ n := by omega
      rw [if_pos h2]
      refine ⟨?_, by omega⟩
      simp +contextual -dsimp (disch := omega) only [↓goDown, goUp, cr, simprocAttr, hH', hs', h1, hH3, c1, f2]
    · have c1 : ¬ (2147483648 : Int) ≤ n := by omega
      rw [if_neg h2]
      show _ = some _
      simp +contextual -dsimp (disch := omega) only [↓goDown, goUp, cr, simprocAttr, hH', hs', h1, hH3, c1]
  | err a w =>
    have h1 := um2 hH hb hp hr
    have hw : w ≠ 0 := u7i hr
    have c1 : ((w : Int) = 0) = False := eq_false (by omega)
    have hH5 : hget (Pi.hset H c (rst z b p a w)) c = some (.cells [BS z b, .int .i64 p, .int .i64 a, .int .i64 w]) := u5u hid
    have e0 : IntKind.i64.wrap 0 = 0 := rfl
    refine ⟨?_, hw⟩
    simp +contextual -dsimp (disch := omega) only [↓goDown, goUp, cr, simprocAttr, hH', hs', h1, hH5, c1, e0]
end Go.Proofs.YthnmienjiangkaaGreatDoor.Pi.Q
namespace Go.Proofs.YthnmienjiangkaaGreatDoor.Pi.Q
open Go Go.Proofs.YthnmienjiangkaaGreatDoor.Pi
attribute [local congr] ite_congr
theorem uvi {H : Heap} {k : IntKind} {n : Int} : run (bi .eql .none (.int k n) (.int k n)) H = some (.ok (.bool true) H) := by
  unfold run
  rw [bi_eql, beq_self_eq_true]
  rfl
end Go.Proofs.YthnmienjiangkaaGreatDoor.Pi.Q
namespace Go.Proofs.YthnmienjiangkaaGreatDoor.Pi
open Go.ChangeShapes Go.WideShapes
def litPV : Lit → PV
  | .int k n => .int k n
  | .bool b => .bool b
  | .string s => .str ⟨s.toArray⟩
  | _ => .undef
def wrapE (P : Program) (e : TypeId) (cs : List PV) : PV :=
  match tagg P e with
  | some _ => .agg cs
  | none => cs.headD .undef
mutual
def toldD {H : Type} (P : Program) : TypeId → DataW H → List PV
  | t, .lit l => [litPV l]
  | t, .nil => match P.underlying t with
    | some (.slice e) => [.slice false true 0 []]
    | _ => [.nil]
  | t, .slice elems _ => match P.underlying t with
    | some (.slice e) => [.slice false false (P.cellsOf e) (toldE P e elems)]
    | _ => []
  | t, .agg parts => match P.underlying t with
    | some (.struct fs) => toldF P fs.toList parts
    | _ => []
  | _, _ => []
def toldE {H : Type} (P : Program) (e : TypeId) : List (DataW H) → List PV
  | [] => []
  | d :: r => wrapE P e (toldD P e d) :: toldE P e r
def toldF {H : Type} (P : Program) : List Field → List (DataW H) → List PV
  | f :: fs, d :: r => toldD P f.type d ++ toldF P fs r
  | _, _ => []
end
def ToldOk (W : World) (cs : List Value) (ps : List PV) : Prop :=
  ps.length = cs.length ∧ ∀ (j : Nat) (c : PV), ps[j]? = some c → isCell c = true ∧ ∀ v, cs[j]? = some v → RepF (imOf W) c v
theorem ToldOk.one {W : World} {c : PV} {v : Value} (h1 : isCell c = true) (h2 : RepF (imOf W) c v) : ToldOk W [v] [c] :=
  ⟨rfl, fun j d hd => by
    cases j with
    | zero => simp at hd; subst hd; exact ⟨h1, fun u hu => by simp at hu; subst hu; exact h2⟩
    | succ j => simp at hd⟩
variable {H : Type} {enc : TypeId × Value → H} {P : Program} {W : World} {base : Nat} {spare : Nat → Bool} {held : Bool} {T : List TypeId}
theorem ToldOk.append {W : World} {cs ds : List Value} {ps qs : List PV} (h : ToldOk W cs ps) (k : ToldOk W ds qs) : ToldOk W (cs ++ ds) (ps ++ qs) := by
  refine ⟨by simp [h.1, k.1], fun j c hc => ?_⟩
  by_cases hj : j < ps.length
  · rw [List.getElem?_append_left hj] at hc
    obtain ⟨h1, h2⟩ := h.2 j c hc
    refine ⟨h1, fun v hv => h2 v ?_⟩
    rwa [List.getElem?_append_left (by rw [← h.1]; exact hj)] at hv
  · rw [List.getElem?_append_right (by omega)] at hc
    obtain ⟨h1, h2⟩ := k.2 _ c hc
    refine ⟨h1, fun v hv => h2 v ?_⟩
    rwa [List.getElem?_append_right (by rw [← h.1]; omega), ← h.1] at hv
end Go.Proofs.YthnmienjiangkaaGreatDoor.Pi
namespace Go.Proofs.YthnmienjiangkaaGreatDoor.Pi
structure GL (α : Type) where
  z : Bool
  l : List α
  deriving DecidableEq
section
variable {z : Bool} {sz : Nat} {l : List PV} {H : Heap}
end
end Go.Proofs.YthnmienjiangkaaGreatDoor.Pi
namespace Go.Proofs.YthnmienjiangkaaGreatDoor.Pi
open Go.ChangeShapes Go.WideShapes
mutual
def bulk {H : Type} : DataW H → Nat
  | .lit (.string bytes) => bytes.length + 1
  | .lit _ => 1
  | .nil => 1
  | .ptr d => bulk d + 1
  | .slice elems spare => bulkL elems + bulkL spare + 1
  | .agg parts => bulkL parts + 1
  | _ => 1
def bulkL {H : Type} : List (DataW H) → Nat
  | [] => 0
  | d :: r => bulk d + bulkL r
end
section
variable {H : Type} {enc : TypeId × Value → H} {P : Program} {W : World} {base : Nat} {spare : Nat → Bool} {held : Bool} {A B : Type} {n : Nat} {t e : TypeId}
structure DecArgs (H : Type) where
  enc : TypeId × Value → H
  P : Program
  W : World
  base : Nat
  spare : Nat → Bool
  held : Bool
variable (G : DecArgs H)
def Dec (n : Nat) (t : TypeId) (cells : A → List PV) (ok : A → Prop) (ms : A → Nat) : Prop :=
  ∀ cs x, DataW.trod G.enc G.P G.W G.base G.spare G.held n t cs = some x → ∃ a, toldD G.P t x.1 = cells a ∧ ok a ∧ ms a ≤ bulk x.1
variable {G}
theorem Dec.map {cells : A → List PV} {ok : A → Prop} {ms : A → Nat} (h : Dec G n t cells ok ms) (f : A → B) {cB : B → List PV} {okB : B → Prop} {mB : B → Nat} (hc : ∀ a, cells a = cB (f a)) (ho : ∀ a, ok a → okB (f a)) (hm : ∀ a, mB (f a) ≤ ms a) : Dec G n t cB okB mB := by
  intro cs x hx
  obtain ⟨a, a1, a2, a3⟩ := h cs x hx
  exact ⟨f a, by rw [a1, hc], ho a a2, Nat.le_trans (hm a) a3⟩
end
end Go.Proofs.YthnmienjiangkaaGreatDoor.Pi
namespace Go.Proofs.YthnmienjiangkaaGreatDoor.Pi
open Go.ChangeShapes Go.WideShapes
theorem args_nil {im : Nat → Nat → Option Value} : ArgsOk (gOf im) [] #[] := ⟨rfl, fun j p v hp => by simp at hp⟩
theorem args_cons {im : Nat → Nat → Option Value} {p : PV} {v : Value} {ps : List PV} {vs : List Value} (h : Rep [] im p v) (hs : strip p = p) (hr : ArgsOk (gOf im) ps vs.toArray) : ArgsOk (gOf im) (p :: ps) (v :: vs).toArray := by
  refine ⟨by have := hr.size; simp at this ⊢; exact this, fun j q u hq hu => ?_⟩
  cases j with
  | zero =>
    simp at hq hu
    subst hq; subst hu
    exact ⟨.one (.pure h), hs⟩
  | succ j =>
    exact hr.rep j q u (by simpa using hq) (by simpa using hu)
end Go.Proofs.YthnmienjiangkaaGreatDoor.Pi
namespace Go.Proofs.YthnmienjiangkaaGreatDoor.Pi
open Go.ChangeShapes Go.WideShapes
structure ASl where
  z : Bool
  sz : Nat
  xs : List PV
variable {H : Type} {G : DecArgs H} {n : Nat} {t e : TypeId}
end Go.Proofs.YthnmienjiangkaaGreatDoor.Pi
namespace Go.Proofs.YthnmienjiangkaaGreatDoor.Pi.Q
open Go Go.Proofs.YthnmienjiangkaaGreatDoor.Pi
structure CG where
  kind : Int
  ps : GL (VT)
  rs : GL (VT)
  fs : GL (FT)
  deriving DecidableEq
structure SG where
  fin : Bool
  sup : GL (Int)
  comp : CG
  deriving DecidableEq
structure RG where
  types : GL (SG)
  exp : Bool
  deriving DecidableEq
structure LT where
  wide : Bool
  min : Int
  max : Int
  has : Bool
  deriving DecidableEq
def cs_LT (v : LT) : List PV := [.bool v.wide, .int .u64 v.min, .int .u64 v.max, .bool v.has]
def encLT (v : LT) : PV := .agg [.bool v.wide, .int .u64 v.min, .int .u64 v.max, .bool v.has]
theorem u26 {v : LT} : encLT v = .agg [.bool v.wide, .int .u64 v.min, .int .u64 v.max, .bool v.has] := nrfl rfl
def CG.plain (v : CG) : CT := ⟨v.kind, v.ps.l, v.rs.l, v.fs.l⟩
def SG.plain (v : SG) : ST := ⟨v.fin, v.sup.l, v.comp.plain⟩
def RG.plain (v : RG) : RT := ⟨v.types.l.map SG.plain, v.exp⟩
def CT.gl (v : CT) : CG := ⟨v.kind, ⟨true, v.ps⟩, ⟨true, v.rs⟩, ⟨true, v.fs⟩⟩
def ST.gl (v : ST) : SG := ⟨v.fin, ⟨true, v.sup⟩, v.comp.gl⟩
def RT.gl (v : RT) : RG := ⟨⟨true, v.types.map ST.gl⟩, v.exp⟩
end Go.Proofs.YthnmienjiangkaaGreatDoor.Pi.Q
namespace Go.Proofs.YthnmienjiangkaaGreatDoor.Pi.Q
open Go Go.Proofs.YthnmienjiangkaaGreatDoor.Pi
structure TB where
  elem : VT
  lim : LT
  deriving DecidableEq
def cs_TB (v : TB) : List PV := [.int .i64 v.elem.num, .bool v.elem.nul, .int .i64 v.elem.heap, .bool v.lim.wide, .int .u64 v.lim.min, .int .u64 v.lim.max, .bool v.lim.has]
def encTB (v : TB) : PV := .agg [.int .i64 v.elem.num, .bool v.elem.nul, .int .i64 v.elem.heap, .bool v.lim.wide, .int .u64 v.lim.min, .int .u64 v.lim.max, .bool v.lim.has]
theorem u3r {v : TB} : encTB v = .agg [.int .i64 v.elem.num, .bool v.elem.nul, .int .i64 v.elem.heap, .bool v.lim.wide, .int .u64 v.lim.min, .int .u64 v.lim.max, .bool v.lim.has] := nrfl rfl
structure GO where
  ty : VT
  mu : Bool
  deriving DecidableEq
def cs_GO (v : GO) : List PV := [.int .i64 v.ty.num, .bool v.ty.nul, .int .i64 v.ty.heap, .bool v.mu]
def encGO (v : GO) : PV := .agg [.int .i64 v.ty.num, .bool v.ty.nul, .int .i64 v.ty.heap, .bool v.mu]
theorem u3g {v : GO} : encGO v = .agg [.int .i64 v.ty.num, .bool v.ty.nul, .int .i64 v.ty.heap, .bool v.mu] := nrfl rfl
structure XT where
  kind : Int
  ty : Int
  tab : TB
  mem : LT
  glo : GO
  deriving DecidableEq
def encXT (v : XT) : PV := .agg [.int .i64 v.kind, .int .i64 v.ty, .int .i64 v.tab.elem.num, .bool v.tab.elem.nul, .int .i64 v.tab.elem.heap, .bool v.tab.lim.wide, .int .u64 v.tab.lim.min, .int .u64 v.tab.lim.max, .bool v.tab.lim.has, .bool v.mem.wide, .int .u64 v.mem.min, .int .u64 v.mem.max, .bool v.mem.has, .int .i64 v.glo.ty.num, .bool v.glo.ty.nul, .int .i64 v.glo.ty.heap, .bool v.glo.mu]
theorem u57 {v : XT} : encXT v = .agg [.int .i64 v.kind, .int .i64 v.ty, .int .i64 v.tab.elem.num, .bool v.tab.elem.nul, .int .i64 v.tab.elem.heap, .bool v.tab.lim.wide, .int .u64 v.tab.lim.min, .int .u64 v.tab.lim.max, .bool v.tab.lim.has, .bool v.mem.wide, .int .u64 v.mem.min, .int .u64 v.mem.max, .bool v.mem.has, .int .i64 v.glo.ty.num, .bool v.glo.ty.nul, .int .i64 v.glo.ty.heap, .bool v.glo.mu] := nrfl rfl
structure IM where
  mod : ByteArray
  nm : ByteArray
  ext : XT
  deriving DecidableEq
def cs_IM (v : IM) : List PV := [.str v.mod, .str v.nm, .int .i64 v.ext.kind, .int .i64 v.ext.ty, .int .i64 v.ext.tab.elem.num, .bool v.ext.tab.elem.nul, .int .i64 v.ext.tab.elem.heap, .bool v.ext.tab.lim.wide, .int .u64 v.ext.tab.lim.min, .int .u64 v.ext.tab.lim.max, .bool v.ext.tab.lim.has, .bool v.ext.mem.wide, .int .u64 v.ext.mem.min, .int .u64 v.ext.mem.max, .bool v.ext.mem.has, .int .i64 v.ext.glo.ty.num, .bool v.ext.glo.ty.nul, .int .i64 v.ext.glo.ty.heap, .bool v.ext.glo.mu]
def encIM (v : IM) : PV := .agg [.str v.mod, .str v.nm, .int .i64 v.ext.kind, .int .i64 v.ext.ty, .int .i64 v.ext.tab.elem.num, .bool v.ext.tab.elem.nul, .int .i64 v.ext.tab.elem.heap, .bool v.ext.tab.lim.wide, .int .u64 v.ext.tab.lim.min, .int .u64 v.ext.tab.lim.max, .bool v.ext.tab.lim.has, .bool v.ext.mem.wide, .int .u64 v.ext.mem.min, .int .u64 v.ext.mem.max, .bool v.ext.mem.has, .int .i64 v.ext.glo.ty.num, .bool v.ext.glo.ty.nul, .int .i64 v.ext.glo.ty.heap, .bool v.ext.glo.mu]
theorem u2r {v : IM} : encIM v = .agg [.str v.mod, .str v.nm, .int .i64 v.ext.kind, .int .i64 v.ext.ty, .int .i64 v.ext.tab.elem.num, .bool v.ext.tab.elem.nul, .int .i64 v.ext.tab.elem.heap, .bool v.ext.tab.lim.wide, .int .u64 v.ext.tab.lim.min, .int .u64 v.ext.tab.lim.max, .bool v.ext.tab.lim.has, .bool v.ext.mem.wide, .int .u64 v.ext.mem.min, .int .u64 v.ext.mem.max, .bool v.ext.mem.has, .int .i64 v.ext.glo.ty.num, .bool v.ext.glo.ty.nul, .int .i64 v.ext.glo.ty.heap, .bool v.ext.glo.mu] := nrfl rfl
structure EX where
  nm : ByteArray
  kind : Int
  pl : Int
  deriving DecidableEq
def cs_EX (v : EX) : List PV := [.str v.nm, .int .i64 v.kind, .int .u32 v.pl]
def encEX (v : EX) : PV := .agg [.str v.nm, .int .i64 v.kind, .int .u32 v.pl]
theorem u7v {v : EX} : encEX v = .agg [.str v.nm, .int .i64 v.kind, .int .u32 v.pl] := nrfl rfl
end Go.Proofs.YthnmienjiangkaaGreatDoor.Pi.Q
namespace Go.Proofs.YthnmienjiangkaaGreatDoor.Pi.Q
open Go Go.Proofs.YthnmienjiangkaaGreatDoor.Pi
inductive Like : List SK → List PV → List PV → Prop where
  | nil : Like [] [] []
  | int {k : IntKind} {a b : Int} {ks : List SK} {x y : List PV} (h : Like ks x y) : Like (.int :: ks) (.int k a :: x) (.int k b :: y)
  | bool {a b : Bool} {ks : List SK} {x y : List PV} (h : Like ks x y) : Like (.bool :: ks) (.bool a :: x) (.bool b :: y)
  | str {a b : ByteArray} {ks : List SK} {x y : List PV} (h : Like ks x y) : Like (.str :: ks) (.str a :: x) (.str b :: y)
theorem beq_ba {a b : ByteArray} : (a == b) = true ↔ a = b := by
  obtain ⟨a⟩ := a
  obtain ⟨b⟩ := b
  show (a == b) = true ↔ _
  rw [beq_iff_eq]
  exact ⟨fun h => by rw [h], fun h => by injection h⟩
theorem umi {ks : List SK} {x y : List PV} (h : Like ks x y) : (x = y → u1s ks x y = some true) ∧ (x ≠ y → u1s ks x y = some false) := by
  induction h with
  | nil => exact ⟨fun _ => rfl, fun h => absurd rfl h⟩
  | @int k a b ks x y h ih =>
    have e : u1s (.int :: ks) (.int k a :: x) (.int k b :: y) = if a = b then u1s ks x y else some false := by
      by_cases h : a = b
      · subst h
        have e1 : u1w .int (.int k a) (.int k a) = some true := by simp [u1w]
        rw [if_pos rfl, u1s, e1]
      · have e1 : u1w .int (.int k a) (.int k b) = some false := by simp [u1w, h]
        rw [if_neg h, u1s, e1]
    rw [e]
    constructor
    · intro hxy
      simp only [List.cons.injEq, PV.int.injEq, true_and] at hxy
      rw [if_pos hxy.1]
      exact ih.1 hxy.2
    · intro hxy
      by_cases hab : a = b
      · rw [if_pos hab]
        exact ih.2 fun g => hxy (by rw [hab, g])
      · rw [if_neg hab]
  | @bool a b ks x y h ih =>
    have e : u1s (.bool :: ks) (.bool a :: x) (.bool b :: y) = if a = b then u1s ks x y else some false := by
      by_cases h : a = b
      · subst h
        have e1 : u1w .bool (.bool a) (.bool a) = some true := by simp [u1w]
        rw [if_pos rfl, u1s, e1]
      · have e1 : u1w .bool (.bool a) (.bool b) = some false := by simp [u1w, h]
        rw [if_neg h, u1s, e1]
    rw [e]
    constructor
    · intro hxy
      simp only [List.cons.injEq, PV.bool.injEq] at hxy
      rw [if_pos hxy.1]
      exact ih.1 hxy.2
    · intro hxy
      by_cases hab : a = b
      · rw [if_pos hab]
        exact ih.2 fun g => hxy (by rw [hab, g])
      · rw [if_neg hab]
  | @str a b ks x y h ih =>
    have e : u1s (.str :: ks) (.str a :: x) (.str b :: y) = if a = b then u1s ks x y else some false := by
      by_cases h : a = b
      · subst h
        have := beq_ba.mpr (rfl : a = a)
        simp only [u1s, u1w, this, if_true]
      · have : (a == b) = false := by
          cases hb : (a == b) with
          | false => rfl
          | true => exact absurd (beq_ba.mp hb) h
        simp only [u1s, u1w, this, if_neg h]
    rw [e]
    constructor
    · intro hxy
      simp only [List.cons.injEq, PV.str.injEq] at hxy
      rw [if_pos hxy.1]
      exact ih.1 hxy.2
    · intro hxy
      by_cases hab : a = b
      · rw [if_pos hab]
        exact ih.2 fun g => hxy (by rw [hab, g])
      · rw [if_neg hab]
theorem utu {ks : List SK} {x y : List PV} {H : Heap} (h : Like ks x y) {p : Prop} [Decidable p] (hp : x = y ↔ p) : run (bi .eql (.struct ks) (.agg x) (.agg y)) H = some (.ok (.bool (decide p)) H) := by
  have hh := umi h
  show (match u1s ks x y with | some b => M.pure (PV.bool b) | none => M.fail) H = _
  by_cases g : x = y
  · rw [hh.1 g, decide_eq_true (hp.mp g)]; rfl
  · rw [hh.2 g, decide_eq_false (fun q => g (hp.mpr q))]; rfl
theorem uuk {ks : List SK} {x y : List PV} {H : Heap} (h : Like ks x y) {p : Prop} [Decidable p] (hp : x = y ↔ p) : run (bi .neq (.struct ks) (.agg x) (.agg y)) H = some (.ok (.bool (!decide p)) H) := by
  have hh := umi h
  show (match u1s ks x y with | some b => M.pure (PV.bool (!b)) | none => M.fail) H = _
  by_cases g : x = y
  · rw [hh.1 g, decide_eq_true (hp.mp g)]; rfl
  · rw [hh.2 g, decide_eq_false (fun q => g (hp.mpr q))]; rfl
end Go.Proofs.YthnmienjiangkaaGreatDoor.Pi.Q
namespace Go.Proofs.YthnmienjiangkaaGreatDoor.Pi.Q
open Go Go.Proofs.YthnmienjiangkaaGreatDoor.Pi
attribute [local congr] ite_congr
theorem and127 : ∀ m : Fin 256, IntKind.u8.wrap (BitVec.ofInt 8 (m.val : Int) &&& BitVec.ofInt 8 127).toNat = ((m.val % 128 : Nat) : Int) := by decide +kernel
end Go.Proofs.YthnmienjiangkaaGreatDoor.Pi.Q
namespace Go.Proofs.YthnmienjiangkaaGreatDoor.Pi.Q
open Go Go.Proofs.YthnmienjiangkaaGreatDoor.Pi
attribute [local congr] ite_congr
inductive Wr where
  | ok (u : List UInt8)
  | err (w : Nat)
end Go.Proofs.YthnmienjiangkaaGreatDoor.Pi.Q
namespace Go.Proofs.YthnmienjiangkaaGreatDoor.Pi.Q
open Go Go.Proofs.YthnmienjiangkaaGreatDoor.Pi
attribute [local congr] ite_congr
variable {c : Nat} {H : Heap} {L : List Box} {acc : List UInt8}
theorem unkill {K H' : Heap} (hc : c < List.length K) (h : hset H' c .dead = St K c .dead []) : ∃ b, H' = St K c b [] := by
  have hl : List.length H' = List.length K := by
    have := congrArg List.length h
    rw [u8d, len_St] at this
    simpa using this
  have hc' : c < List.length H' := by omega
  refine ⟨H'[c], ?_⟩
  have h2 := congrArg (fun K => hset K c (H'[c])) h
  simp only [set_set, set_St hc] at h2
  rw [← h2]
  unfold hset
  exact (List.set_getElem_self hc').symm
theorem urf {m : M PV} {K K' : Heap} {v : PV} (h : runK c m K = some (.ok v K')) : run m K = some (.ok v K') := by
  unfold runK killR at h
  cases hr : run m K with
  | none => rw [hr] at h; cases h
  | some q => cases q with
    | ok a b => rw [hr] at h; exact h
    | pan a b => rw [hr] at h; simp at h
theorem uoz {m : M PV} {K K' : Heap} {v : PV} (hc : c < List.length K') (h : runK c m K = some (.pan v (St K' c .dead []))) : ∃ b, run m K = some (.pan v (St K' c b [])) := by
  unfold runK killR at h
  cases hr : run m K with
  | none => rw [hr] at h; cases h
  | some q => cases q with
    | ok a b => rw [hr] at h; simp at h
    | pan a b =>
      rw [hr] at h
      simp only [Option.some.injEq, Out.pan.injEq] at h
      obtain ⟨h1, h2⟩ := h
      obtain ⟨b, rfl⟩ := unkill hc h2
      exact ⟨b, by rw [h1]⟩
end Go.Proofs.YthnmienjiangkaaGreatDoor.Pi.Q
namespace Go.Proofs.YthnmienjiangkaaGreatDoor.Pi.Q
open Go Go.Proofs.YthnmienjiangkaaGreatDoor.Pi
theorem uu5 {b : List UInt8} {most p v q : Nat} (h : rSmall b most p = .ok v q) : v ≤ most ∧ q = p + 1 := by
  unfold rSmall at h
  split at h
  · split at h
    · cases h
    · simp only [Rs.ok.injEq] at h
      omega
  · cases h
def RT.plain (v : RT) : RT := ⟨v.types, decide (v.types.length ≠ 1)⟩
end Go.Proofs.YthnmienjiangkaaGreatDoor.Pi.Q
namespace Go.Proofs.YthnmienjiangkaaGreatDoor.Pi.Q
open Go Go.Proofs.YthnmienjiangkaaGreatDoor.Pi
attribute [local congr] ite_congr
def Errs {α : Type} (r : Nat → Rs α) : Prop := ∀ p a w, r p = .err a w → w ≠ 0
theorem uv1 {b : List UInt8} : Errs (rU32 b) := fun p a w h => u7i h
theorem uga {b : List UInt8} : Errs (rIndex b) := by
  intro p a w h
  unfold rIndex at h
  cases hr : rU32 b p with
  | ok n q =>
    rw [hr] at h
    simp only at h
    split at h
    · cases h; decide
    · cases h
  | err c e => rw [hr] at h; cases h; exact uv1 _ _ _ hr
theorem ukc {b : List UInt8} : Errs (rHeap b) := by
  intro p a w h
  unfold rHeap at h
  split at h
  · split at h
    · cases h
    · unfold rS33 at h
      cases hr : rdS b 33 b.length p with
      | ok n q =>
        rw [hr] at h
        simp only at h
        split at h
        · cases h; decide
        · split at h
          · cases h; decide
          · cases h
      | err c e => rw [hr] at h; cases h; exact ui1 hr
  · cases h; decide
theorem ume {b : List UInt8} : Errs (rVal b) := by
  intro p a w h
  unfold rVal at h
  split at h
  · rename_i hp
    split at h
    · cases h; decide
    · split at h
      · cases h
      · unfold rRef at h
        rw [if_pos hp] at h
        simp only at h
        split at h
        · cases h
        · split at h
          · cases h; decide
          · cases hr : rHeap b (p + 1) with
            | ok n q => rw [hr] at h; cases h
            | err c e => rw [hr] at h; cases h; exact ukc _ _ _ hr
  · cases h; decide
theorem ugx {b : List UInt8} {most : Nat} : Errs (rSmall b most) := by
  intro p a w h
  unfold rSmall at h
  split at h
  · split at h
    · cases h; decide
    · cases h
  · cases h; decide
end Go.Proofs.YthnmienjiangkaaGreatDoor.Pi.Q
namespace Go.Proofs.YthnmienjiangkaaGreatDoor.Pi.Q
open Go Go.Proofs.YthnmienjiangkaaGreatDoor.Pi
theorem udy (c : Nat) : Lib.firstT c < 256 := by
  unfold Lib.firstT
  repeat' split
  all_goals omega
attribute [local congr] ite_congr
variable {H : Heap} {z : Bool}
theorem um0 : ∀ c ∈ List.range 256, firstC.drop c = .int .u8 (Lib.firstT c) :: firstC.drop (c + 1) := fun c hc => by
  have hl : firstC.length = 256 := by unfold firstC; rw [List.length_map, List.length_range]
  have h : c < firstC.length := by rw [hl]; exact List.mem_range.mp hc
  rw [List.drop_eq_getElem_cons h]
  congr 1
  simp [firstC]
theorem ujm {c : Nat} (h : c < 256) : run (iaA 256 1 (GT 0) (.int .u8 c)) H = some (.ok (.elem (.int .u8 (Lib.firstT c) :: firstC.drop (c + 1))) H) := by
  rw [GT_0, ← um0 c (List.mem_range.mpr h)]
  unfold run iaA
  have h1 : decide ((0 : Int) ≤ (c : Int)) = true := decide_eq_true (by omega)
  have h2 : decide ((c : Int) < ((256 : Nat) : Int)) = true := decide_eq_true (by omega)
  simp only [h1, h2, Bool.and_self, cond_true, Int.toNat_natCast, Nat.mul_one, M.pure]
theorem ut6 : ∀ i ∈ List.range 16, accC.drop (i * 2) = .int .u8 (Lib.accLo i) :: .int .u8 (Lib.accHi i) :: accC.drop (i * 2 + 2) := by
  intro i hi
  have h := List.mem_range.mp hi
  have : i = 0 ∨ i = 1 ∨ i = 2 ∨ i = 3 ∨ i = 4 ∨ i = 5 ∨ i = 6 ∨ i = 7 ∨ i = 8 ∨ i = 9 ∨ i = 10 ∨ i = 11 ∨ i = 12 ∨ i = 13 ∨ i = 14 ∨ i = 15 := by omega
  rcases this with rfl | rfl | rfl | rfl | rfl | rfl | rfl | rfl | rfl | rfl | rfl | rfl | rfl | rfl | rfl | rfl <;> rfl
theorem uqw {i : Nat} (h : i < 16) : run (iaA 16 2 (GT 1) (.int .u8 i)) H = some (.ok (.elem (.int .u8 (Lib.accLo i) :: .int .u8 (Lib.accHi i) :: accC.drop (i * 2 + 2))) H) := by
  rw [GT_1, ← ut6 i (List.mem_range.mpr h)]
  unfold run iaA
  have h1 : decide ((0 : Int) ≤ (i : Int)) = true := decide_eq_true (by omega)
  have h2 : decide ((i : Int) < ((16 : Nat) : Int)) = true := decide_eq_true (by omega)
  simp only [h1, h2, Bool.and_self, cond_true, Int.toNat_natCast, M.pure]
theorem and7 : ∀ n ∈ List.range 256, bi .and .none (.int .u8 (n : Nat)) (.int .u8 7) = M.pure (.int .u8 ((n % 8 : Nat) : Int)) := by
  intro n hn
  have h := List.mem_range.mp hn
  rw [u6v]
  have : (BitVec.ofInt IntKind.u8.bits (n : Int) &&& BitVec.ofInt IntKind.u8.bits 7).toNat = n % 8 := by
    rw [BitVec.toNat_and, BitVec.toNat_ofInt, BitVec.toNat_ofInt, show IntKind.u8.bits = 8 from rfl]
    rw [show ((7 : Int) % ((2 ^ 8 : Nat) : Int)).toNat = 2 ^ 3 - 1 from rfl, Nat.and_two_pow_sub_one_eq_mod]
    omega
  rw [this, w_u8 (by omega)]
theorem ut4 {c : Nat} : bi .and .none (.int .u8 (Lib.firstT c : Nat)) (.int .u8 7) = M.pure (.int .u8 ((Lib.firstT c % 8 : Nat) : Int)) := and7 _ (List.mem_range.mpr (udy c))
theorem usc {n : Nat} (h : n < 256) : bi .shr .none (.int .u8 (n : Nat)) (.int .u64 4) = M.pure (.int .u8 ((n / 16 : Nat) : Int)) := by
  rw [u85 (by omega), show shiftN .u8 4 = 4 from rfl, Int.fdiv_eq_ediv_of_nonneg _ (by omega)]
  congr 2
def fullN (n c0 c1 c2 : Nat) : Bool :=
  if n = 0 then false else if Lib.firstT c0 % 8 ≤ n then true
  else if 1 < n ∧ (c1 < Lib.accLo (Lib.firstT c0 / 16) ∨ Lib.accHi (Lib.firstT c0 / 16) < c1) then true
  else decide (2 < n ∧ (c2 < 128 ∨ 191 < c2))
def bN (p : List UInt8) (i : Nat) : Nat := (p.getD i 0).toNat
theorem bN_lt {p : List UInt8} {i : Nat} : bN p i < 256 := (p.getD i 0).toNat_lt
def fullL (p : List UInt8) : Bool := fullN p.length (bN p 0) (bN p 1) (bN p 2)
theorem iaB {p : List UInt8} {i : Nat} (h : i < p.length) : run (iaS 1 (BS z p) (.int .i64 i)) H = some (.ok (.elem [.int .u8 (bN p i : Nat)]) H) := by
  rw [ulz (by omega), Int.toNat_natCast, ucy h]
  unfold bN byt
  rw [List.getD_eq_getElem?_getD, List.getElem?_eq_getElem h]
  rfl
theorem uvj {p : List UInt8} (hp : p.length < 2 ^ 61) : run (C u47 [BS z p]) H = some (.ok (.bool (fullL p)) H) := by
  have hf := udy (bN p 0)
  have hia := fun K => ujm (H := K) (c := bN p 0) bN_lt
  have hac := fun K => uqw (H := K) (i := Lib.firstT (bN p 0) / 16) (by omega)
  have w1 : IntKind.i64.wrap ((Lib.firstT (bN p 0) % 8 : Nat) : Int) = ((Lib.firstT (bN p 0) % 8 : Nat) : Int) := w_i64 (by omega)
  have s4 := usc hf
  have a7 := ut4 (c := bN p 0)
  have r0 := fun (h : 0 < p.length) K => iaB (H := K) (z := z) h
  have r1 := fun (h : 1 < p.length) K => iaB (H := K) (z := z) h
  have r2 := fun (h : 2 < p.length) K => iaB (H := K) (z := z) h
  simp only [show ((0 : Nat) : Int) = 0 from rfl, show ((1 : Nat) : Int) = 1 from rfl, show ((2 : Nat) : Int) = 2 from rfl] at r0 r1 r2
  rw [u8j]
  unfold fullL fullN
  generalize bN p 0 = c0 at *
  generalize Lib.firstT c0 = x at *
  by_cases hn : p.length = 0
  · have hn' : ((p.length : Int) = 0) = True := eq_true (by omega)
    rw [if_pos hn]
    simp +contextual -dsimp (disch := omega) only [↓goDown, goUp, cr, simprocAttr, List.length_map, hn']
  · have hn' : ((p.length : Int) = 0) = False := eq_false (by omega)
    rw [if_neg hn]
    have r0 := r0 (by omega)
    by_cases h1 : x % 8 ≤ p.length
    · have h1' : (((x % 8 : Nat) : Int) ≤ (p.length : Int)) = True := eq_true (by omega)
      rw [if_pos h1]
      simp +contextual -dsimp (disch := omega) only [↓goDown, goUp, cr, simprocAttr, List.length_map, hn', r0, hia, a7, w1, h1']
    · have h1' : (((x % 8 : Nat) : Int) ≤ (p.length : Int)) = False := eq_false (by omega)
      rw [if_neg h1]
      by_cases hn1 : 1 < p.length
      · have g1 : ((1 : Int) < (p.length : Int)) = True := eq_true (by omega)
        have r1 := r1 hn1
        generalize bN p 1 = c1 at *
        by_cases hlo : c1 < Lib.accLo (x / 16)
        · have hlo' : ((c1 : Int) < (Lib.accLo (x / 16) : Int)) = True := eq_true (by omega)
          rw [if_pos ⟨hn1, .inl hlo⟩]
          simp +contextual -dsimp (disch := omega) only [↓goDown, goUp, cr, simprocAttr, List.length_map, hn', r0, hia, a7, w1, h1', s4, hac, g1, r1, hlo']
        · have hlo' : ((c1 : Int) < (Lib.accLo (x / 16) : Int)) = False := eq_false (by omega)
          by_cases hhi : Lib.accHi (x / 16) < c1
          · have hhi' : ((Lib.accHi (x / 16) : Int) < (c1 : Int)) = True := eq_true (by omega)
            rw [if_pos ⟨hn1, .inr hhi⟩]
            simp +contextual -dsimp (disch := omega) only [↓goDown, goUp, cr, simprocAttr, List.length_map, hn', r0, hia, a7, w1, h1', s4, hac, g1, r1, hlo', hhi']
          · have hhi' : ((Lib.accHi (x / 16) : Int) < (c1 : Int)) = False := eq_false (by omega)
            rw [if_neg (fun h => by omega)]
            by_cases hn2 : 2 < p.length
            · have g2 : ((2 : Int) < (p.length : Int)) = True := eq_true (by omega)
              have r2 := r2 hn2
              generalize bN p 2 = c2 at *
              by_cases l2 : c2 < 128
              · have l2' : ((c2 : Int) < 128) = True := eq_true (by omega)
                rw [decide_eq_true (by omega)]
                simp +contextual -dsimp (disch := omega) only [↓goDown, goUp, cr, simprocAttr, List.length_map, hn', r0, hia, a7, w1, h1', s4, hac, g1, r1, hlo', hhi', g2, r2, l2']
              · have l2' : ((c2 : Int) < 128) = False := eq_false (by omega)
                by_cases u2 : 191 < c2
                · have u2' : ((191 : Int) < (c2 : Int)) = True := eq_true (by omega)
                  rw [decide_eq_true (by omega)]
                  simp +contextual -dsimp (disch := omega) only [↓goDown, goUp, cr, simprocAttr, List.length_map, hn', r0, hia, a7, w1, h1', s4, hac, g1, r1, hlo', hhi', g2, r2, l2', u2']
                · have u2' : ((191 : Int) < (c2 : Int)) = False := eq_false (by omega)
                  rw [decide_eq_false (by omega)]
                  simp +contextual -dsimp (disch := omega) only [↓goDown, goUp, cr, simprocAttr, List.length_map, hn', r0, hia, a7, w1, h1', s4, hac, g1, r1, hlo', hhi', g2, r2, l2', u2']
            · have g2 : ((2 : Int) < (p.length : Int)) = False := eq_false (by omega)
              rw [decide_eq_false (by omega)]
              simp +contextual -dsimp (disch := omega) only [↓goDown, goUp, cr, simprocAttr, List.length_map, hn', r0, hia, a7, w1, h1', s4, hac, g1, r1, hlo', hhi', g2]
      · have g1 : ((1 : Int) < (p.length : Int)) = False := eq_false (by omega)
        have g2 : ((2 : Int) < (p.length : Int)) = False := eq_false (by omega)
        rw [if_neg (fun h => hn1 h.1), decide_eq_false (by omega)]
        simp +contextual -dsimp (disch := omega) only [↓goDown, goUp, cr, simprocAttr, List.length_map, hn', r0, hia, a7, w1, h1', s4, hac, g1, g2]
end Go.Proofs.YthnmienjiangkaaGreatDoor.Pi.Q
namespace Go.Proofs.YthnmienjiangkaaGreatDoor.Pi.Q
open Go Go.Proofs.YthnmienjiangkaaGreatDoor.Pi
def letN (n c0 c1 c2 c3 : Nat) : Nat :=
  if c0 < 128 then 1 else if 240 ≤ Lib.firstT c0 then 0 else if n < Lib.firstT c0 % 8 then 0
  else if c1 < Lib.accLo (Lib.firstT c0 / 16) ∨ Lib.accHi (Lib.firstT c0 / 16) < c1 then 0 else if Lib.firstT c0 % 8 ≤ 2 then 2
  else if c2 < 128 ∨ 191 < c2 then 0 else if Lib.firstT c0 % 8 ≤ 3 then 3 else if c3 < 128 ∨ 191 < c3 then 0 else 4
theorem ui0 {c : Nat} (h0 : 128 ≤ c) (h : 240 ≤ Lib.firstT c) : Lib.firstT c = 241 := by
  unfold Lib.firstT at h ⊢
  repeat' split
  all_goals first | rfl | (exfalso; omega) | skip
  all_goals (repeat' split at h) <;> first | rfl | omega
theorem uby {c : Nat} (h0 : 128 ≤ c) (h : ¬ 240 ≤ Lib.firstT c) : Lib.firstT c % 8 = 2 ∨ Lib.firstT c % 8 = 3 ∨ Lib.firstT c % 8 = 4 := by
  unfold Lib.firstT at h ⊢
  repeat' split
  all_goals first | omega | (exfalso; repeat' split at h) <;> omega
attribute [local congr] ite_congr
variable {H : Heap} {z : Bool}
theorem uph {a : Int} : bi .andNot .none (.int .i32 a) (.int .i32 (-1)) = M.pure (.int .i32 0) := by
  show M.pure (PV.int .i32 (IntKind.i32.wrap ((BitVec.ofInt 32 a &&& ~~~ BitVec.ofInt 32 (-1)).toNat : Int))) = _
  have : (BitVec.ofInt 32 a &&& ~~~ BitVec.ofInt 32 (-1)) = 0#32 := by
    rw [show ~~~ BitVec.ofInt 32 (-1) = 0#32 by decide, BitVec.and_zero]
  rw [this]
  rfl
theorem uw7 : (IntKind.i32.wrap (241 * 2 ^ shiftN IntKind.i32 31)).fdiv (2 ^ shiftN IntKind.i32 31) = -1 := by decide +kernel
theorem uvd : bi .and .none (.int .i32 65533) (.int .i32 (-1)) = M.pure (.int .i32 65533) := rfl
theorem or_err : bi .or .none (.int .i32 0) (.int .i32 65533) = M.pure (.int .i32 65533) := rfl
theorem uvn {p : List UInt8} (hp : p.length < 2 ^ 61) (h0 : 0 < p.length) (h128 : 128 ≤ bN p 0) :
    ∃ r, (letN p.length (bN p 0) (bN p 1) (bN p 2) (bN p 3) = 0 → r = 65533) ∧ ∀ H, run (C u2i [BS z p]) H = some (.ok (.tup [.int .i32 r, .int .i64 (max 1 (letN p.length (bN p 0) (bN p 1) (bN p 2) (bN p 3)) : Nat)]) H) := by
  have hf := udy (bN p 0)
  have hia := fun K => ujm (H := K) (c := bN p 0) bN_lt
  have hac := fun K => uqw (H := K) (i := Lib.firstT (bN p 0) / 16) (by omega)
  have w1 : IntKind.i64.wrap ((Lib.firstT (bN p 0) % 8 : Nat) : Int) = ((Lib.firstT (bN p 0) % 8 : Nat) : Int) := w_i64 (by omega)
  have s4 := usc hf
  have a7 := ut4 (c := bN p 0)
  have r0 := fun K => iaB (H := K) (z := z) h0
  have r1 := fun (h : 1 < p.length) K => iaB (H := K) (z := z) h
  have r2 := fun (h : 2 < p.length) K => iaB (H := K) (z := z) h
  have r3 := fun (h : 3 < p.length) K => iaB (H := K) (z := z) h
  simp only [show ((0 : Nat) : Int) = 0 from rfl, show ((1 : Nat) : Int) = 1 from rfl, show ((2 : Nat) : Int) = 2 from rfl, show ((3 : Nat) : Int) = 3 from rfl] at r0 r1 r2 r3
  have n0 : ((p.length : Int) < 1) = False := eq_false (by omega)
  rw [u6j]
  unfold letN
  rw [if_neg (by omega)]
  by_cases hx : 240 ≤ Lib.firstT (bN p 0)
  · have ex := ui0 h128 hx
    rw [ex] at hia
    refine ⟨65533, fun _ => rfl, fun H => ?_⟩
    rw [if_pos hx]
    simp +contextual -dsimp (disch := omega) only [↓goDown, goUp, cr, simprocAttr, List.length_map, n0, r0, hia, u6t, u85, uw7, uph, uvd, or_err] <;> rfl
  · have hm := uby h128 hx
    have hx' : ((240 : Int) ≤ (Lib.firstT (bN p 0) : Int)) = False := eq_false (by omega)
    rw [if_neg hx]
    generalize hxx : Lib.firstT (bN p 0) = x at *
    have x16 : x / 16 < 16 := by omega
    by_cases hn : p.length < x % 8
    · have hn' : ((p.length : Int) < ((x % 8 : Nat) : Int)) = True := eq_true (by omega)
      refine ⟨65533, fun _ => rfl, fun H => ?_⟩
      rw [if_pos hn]
      simp +contextual -dsimp (disch := omega) only [↓goDown, goUp, cr, simprocAttr, List.length_map, n0, r0, hia, hx', a7, w1, s4, hac, hn'] <;> rfl
    · have hn' : ((p.length : Int) < ((x % 8 : Nat) : Int)) = False := eq_false (by omega)
      rw [if_neg hn]
      have r1 := r1 (by omega)
      generalize bN p 1 = c1 at *
      by_cases hlo : c1 < Lib.accLo (x / 16)
      · have hlo' : ((c1 : Int) < (Lib.accLo (x / 16) : Int)) = True := eq_true (by omega)
        refine ⟨65533, fun _ => rfl, fun H => ?_⟩
        rw [if_pos (.inl hlo)]
        simp +contextual -dsimp (disch := omega) only [↓goDown, goUp, cr, simprocAttr, List.length_map, n0, r0, hia, hx', a7, w1, s4, hac, hn', r1, hlo'] <;> rfl
      · have hlo' : ((c1 : Int) < (Lib.accLo (x / 16) : Int)) = False := eq_false (by omega)
        by_cases hhi : Lib.accHi (x / 16) < c1
        · have hhi' : ((Lib.accHi (x / 16) : Int) < (c1 : Int)) = True := eq_true (by omega)
          refine ⟨65533, fun _ => rfl, fun H => ?_⟩
          rw [if_pos (.inr hhi)]
          simp +contextual -dsimp (disch := omega) only [↓goDown, goUp, cr, simprocAttr, List.length_map, n0, r0, hia, hx', a7, w1, s4, hac, hn', r1, hlo', hhi'] <;> rfl
        · have hhi' : ((Lib.accHi (x / 16) : Int) < (c1 : Int)) = False := eq_false (by omega)
          rw [if_neg (fun h => by omega)]
          by_cases g2 : x % 8 ≤ 2
          · have g2' : (((x % 8 : Nat) : Int) ≤ 2) = True := eq_true (by omega)
            rw [if_pos g2]
            apply Exists.intro
            refine And.intro (fun h => absurd h (by decide)) ?_
            intro H
            simp +contextual -dsimp (disch := omega) only [↓goDown, goUp, cr, simprocAttr, List.length_map, n0, r0, hia, hx', a7, w1, s4, hac, hn', r1, hlo', hhi', g2', u6v, run_or, u6t]
            all_goals rfl
          · have g2' : (((x % 8 : Nat) : Int) ≤ 2) = False := eq_false (by omega)
            rw [if_neg g2]
            have r2 := r2 (by omega)
            generalize bN p 2 = c2 at *
            by_cases l2 : c2 < 128
            · have l2' : ((c2 : Int) < 128) = True := eq_true (by omega)
              refine ⟨65533, fun _ => rfl, fun H => ?_⟩
              rw [if_pos (.inl l2)]
              simp +contextual -dsimp (disch := omega) only [↓goDown, goUp, cr, simprocAttr, List.length_map, n0, r0, hia, hx', a7, w1, s4, hac, hn', r1, hlo', hhi', g2', r2, l2'] <;> rfl
            · have l2' : ((c2 : Int) < 128) = False := eq_false (by omega)
              by_cases u2 : 191 < c2
              · have u2' : ((191 : Int) < (c2 : Int)) = True := eq_true (by omega)
                refine ⟨65533, fun _ => rfl, fun H => ?_⟩
                rw [if_pos (.inr u2)]
                simp +contextual -dsimp (disch := omega) only [↓goDown, goUp, cr, simprocAttr, List.length_map, n0, r0, hia, hx', a7, w1, s4, hac, hn', r1, hlo', hhi', g2', r2, l2', u2'] <;> rfl
              · have u2' : ((191 : Int) < (c2 : Int)) = False := eq_false (by omega)
                rw [if_neg (fun h => by omega)]
                by_cases g3 : x % 8 ≤ 3
                · have g3' : (((x % 8 : Nat) : Int) ≤ 3) = True := eq_true (by omega)
                  rw [if_pos g3]
                  apply Exists.intro
                  refine And.intro (fun h => absurd h (by decide)) ?_
                  intro H
                  simp +contextual -dsimp (disch := omega) only [↓goDown, goUp, cr, simprocAttr, List.length_map, n0, r0, hia, hx', a7, w1, s4, hac, hn', r1, hlo', hhi', g2', r2, l2', u2', g3', u6v, run_or, u6t]
                  all_goals rfl
                · have g3' : (((x % 8 : Nat) : Int) ≤ 3) = False := eq_false (by omega)
                  rw [if_neg g3]
                  have r3 := r3 (by omega)
                  generalize bN p 3 = c3 at *
                  by_cases l3 : c3 < 128
                  · have l3' : ((c3 : Int) < 128) = True := eq_true (by omega)
                    refine ⟨65533, fun _ => rfl, fun H => ?_⟩
                    rw [if_pos (.inl l3)]
                    simp +contextual -dsimp (disch := omega) only [↓goDown, goUp, cr, simprocAttr, List.length_map, n0, r0, hia, hx', a7, w1, s4, hac, hn', r1, hlo', hhi', g2', r2, l2', u2', g3', r3, l3'] <;> rfl
                  · have l3' : ((c3 : Int) < 128) = False := eq_false (by omega)
                    by_cases u3 : 191 < c3
                    · have u3' : ((191 : Int) < (c3 : Int)) = True := eq_true (by omega)
                      refine ⟨65533, fun _ => rfl, fun H => ?_⟩
                      rw [if_pos (.inr u3)]
                      simp +contextual -dsimp (disch := omega) only [↓goDown, goUp, cr, simprocAttr, List.length_map, n0, r0, hia, hx', a7, w1, s4, hac, hn', r1, hlo', hhi', g2', r2, l2', u2', g3', r3, l3', u3'] <;> rfl
                    · have u3' : ((191 : Int) < (c3 : Int)) = False := eq_false (by omega)
                      rw [if_neg (fun h => by omega)]
                      apply Exists.intro
                      refine And.intro (fun h => absurd h (by decide)) ?_
                      intro H
                      simp +contextual -dsimp (disch := omega) only [↓goDown, goUp, cr, simprocAttr, List.length_map, n0, r0, hia, hx', a7, w1, s4, hac, hn', r1, hlo', hhi', g2', r2, l2', u2', g3', r3, l3', u3', u6v, run_or, u6t]
                      all_goals rfl
def letL (p : List UInt8) : Nat := letN p.length (bN p 0) (bN p 1) (bN p 2) (bN p 3)
theorem dec_is {p : List UInt8} (hp : p.length < 2 ^ 61) (h0 : 0 < p.length) :
    ∃ r : Int, (letL p = 0 → r = 65533) ∧ (letL p = 1 → r ≠ 65533) ∧ ∀ K, run (C u1p [BS z p]) K = some (.ok (.tup [.int .i32 r, .int .i64 (max 1 (letL p) : Nat)]) K) := by
  have r0 := fun K => iaB (H := K) (z := z) h0
  simp only [show ((0 : Nat) : Int) = 0 from rfl] at r0
  have n0 : ((0 : Int) < (p.length : Int)) = True := eq_true (by omega)
  by_cases h128 : bN p 0 < 128
  · have e : letL p = 1 := by unfold letL letN; rw [if_pos h128]
    have h' : ((bN p 0 : Int) < 128) = True := eq_true (by omega)
    refine ⟨(bN p 0 : Nat), fun h => by omega, fun h => by omega, fun K => ?_⟩
    rw [u4v, e]
    simp +contextual -dsimp (disch := omega) only [↓goDown, goUp, cr, simprocAttr, u3f, List.length_map, n0, r0, h'] <;> rfl
  · have h' : ((bN p 0 : Int) < 128) = False := eq_false (by omega)
    obtain ⟨r, hr, hs⟩ := uvn (z := z) hp h0 (by omega)
    have hne : letL p ≠ 1 := by
      unfold letL letN
      rw [if_neg h128]
      repeat' split
      all_goals decide
    refine ⟨r, hr, fun h => absurd h hne, fun K => ?_⟩
    rw [u4v]
    simp +contextual -dsimp (disch := omega) only [↓goDown, goUp, cr, simprocAttr, u3f, u69, List.length_map, n0, r0, h', hs] <;> rfl
end Go.Proofs.YthnmienjiangkaaGreatDoor.Pi.Q
namespace Go.Proofs.YthnmienjiangkaaGreatDoor.Pi.Q
open Go Go.Proofs.YthnmienjiangkaaGreatDoor.Pi
theorem urh {n c0 c1 c2 c3 : Nat} (h0 : 128 ≤ c0) : letN n c0 c1 c2 c3 = (Lib.checkN n c1 c2 c3 (Lib.firstT c0 % 8) (Lib.accLo (Lib.firstT c0 / 16)) (Lib.accHi (Lib.firstT c0 / 16))).getD 0 := by
  unfold letN
  rw [if_neg (by omega)]
  by_cases hx : 240 ≤ Lib.firstT c0
  · rw [if_pos hx, ui0 h0 hx]
    rfl
  · have hm := uby h0 hx
    rw [if_neg hx]
    generalize Lib.accLo (Lib.firstT c0 / 16) = lo
    generalize Lib.accHi (Lib.firstT c0 / 16) = hi
    generalize Lib.firstT c0 % 8 = s at *
    unfold Lib.checkN
    rcases hm with rfl | rfl | rfl <;> simp only [Nat.reduceEqDiff, Nat.reduceLeDiff, ↓reduceIte] <;> repeat' split
    all_goals first | rfl | (exfalso; omega)
theorem uqq {n c0 c1 c2 c3 : Nat} (hn : 1 ≤ n) (h0 : c0 < 256) (h1 : c1 < 256) (h2 : c2 < 256) (h3 : c3 < 256) (h : letN n c0 c1 c2 c3 ≠ 0) : (Lib.decodeN n c0 c1 c2 c3).2 = letN n c0 c1 c2 c3 := by
  by_cases ha : c0 < 128
  · unfold letN Lib.decodeN
    rw [if_pos ha, if_pos ha]
  · have e := urh (n := n) (c1 := c1) (c2 := c2) (c3 := c3) (show 128 ≤ c0 by omega)
    rcases Lib.check_decode n c0 c1 c2 c3 hn (by omega) h0 h1 h2 h3 with ⟨g1, g2⟩ | ⟨k, g1, g2, g3⟩
    · rw [g1] at e; exact absurd e h
    · rw [g2] at e; rw [g3, e]; rfl
end Go.Proofs.YthnmienjiangkaaGreatDoor.Pi.Q
namespace Go.Proofs.YthnmienjiangkaaGreatDoor.Pi.Q
open Go Go.Proofs.YthnmienjiangkaaGreatDoor.Pi
def opF (c0 c1 c2 : Nat) : Nat → Nat
  | 0 => 0
  | n + 1 => if n + 1 < 4 ∧ fullN (n + 1) c0 c1 c2 = false then n + 1 else opF c0 c1 c2 n
theorem uhg {x : List UInt8} {n i : Nat} (h : i < n) : bN (x.take n) i = bN x i := by
  unfold bN
  rw [List.getD_eq_getElem?_getD, List.getD_eq_getElem?_getD, List.getElem?_take, if_pos h]
theorem urn {x : List UInt8} {n : Nat} (h : n ≤ x.length) : fullL (x.take n) = fullN n (bN x 0) (bN x 1) (bN x 2) := by
  unfold fullL
  rw [List.length_take, Nat.min_eq_left h]
  unfold fullN
  by_cases h0 : n = 0
  · rw [if_pos h0, if_pos h0]
  · rw [if_neg h0, if_neg h0, uhg (by omega)]
    split
    · rfl
    · by_cases h1 : 1 < n
      · rw [uhg h1]
        split
        · rfl
        · by_cases h2 : 2 < n
          · rw [uhg h2]
          · rw [decide_eq_false (by omega), decide_eq_false (by omega)]
      · rw [if_neg (by omega), if_neg (by omega), decide_eq_false (by omega), decide_eq_false (by omega)]
theorem uwo {n c0 c1 c2 c3 : Nat} (hn : 1 ≤ n) : letN n c0 c1 c2 c3 ≤ n := by
  by_cases h0 : c0 < 128
  · unfold letN
    rw [if_pos h0]
    exact hn
  · by_cases hx : 240 ≤ Lib.firstT c0
    · unfold letN
      rw [if_neg h0, if_pos hx]
      exact Nat.zero_le _
    · have hm := uby (by omega) hx
      unfold letN
      rw [if_neg h0, if_neg hx]
      generalize Lib.firstT c0 % 8 = s at *
      repeat' split
      all_goals omega
theorem ugr {b : List UInt8} {a : Nat} (ha : a < b.length) : a + letL (b.drop a) ≤ b.length := by
  have := uwo (n := (b.drop a).length) (c0 := bN (b.drop a) 0) (c1 := bN (b.drop a) 1) (c2 := bN (b.drop a) 2) (c3 := bN (b.drop a) 3) (by rw [List.length_drop]; omega)
  rw [List.length_drop] at this
  unfold letL
  rw [List.length_drop]
  omega
attribute [local congr] ite_congr
variable {H : Heap} {z : Bool}
theorem uwb {x : List UInt8} {n : Nat} (h : n ≤ x.length) : run (slL 1 (BS z x) none (some (.int .i64 n))) H = some (.ok (BS z (x.take n)) H) := by
  unfold run slL bnd
  have h0 : decide ((0 : Int) ≤ (n : Int)) = true := decide_eq_true (by omega)
  simp only [h0, cond_true, Int.toNat_natCast, beq_self_eq_true, Bool.or_true, Bool.true_and, List.length_map, Nat.zero_le, decide_true, decide_eq_true h, List.drop_zero, M.pure, bytes, ← List.map_take]
theorem sl_lo {x : List UInt8} {n : Nat} (h : n ≤ x.length) : run (slL 1 (BS z x) (some (.int .i64 n)) none) H = some (.ok (BS z (x.drop n)) H) := by
  unfold run slL bnd
  have h0 : decide ((0 : Int) ≤ (n : Int)) = true := decide_eq_true (by omega)
  simp only [h0, cond_true, Int.toNat_natCast, beq_self_eq_true, Bool.or_true, Bool.true_and, List.length_map, Nat.le_refl, decide_true, decide_eq_true h, Bool.and_self, M.pure, bytes]
  rw [List.take_of_length_le (by rw [List.length_map]; exact Nat.le_refl _), ← List.map_drop]
theorem uld {x : List UInt8} {n m : Nat} (h : n ≤ m) (h' : m ≤ x.length) : run (slL 1 (BS z x) (some (.int .i64 n)) (some (.int .i64 m))) H = some (.ok (BS z ((x.take m).drop n)) H) := by
  unfold run slL bnd
  have h0 : decide ((0 : Int) ≤ (n : Int)) = true := decide_eq_true (by omega)
  have h1 : decide ((0 : Int) ≤ (m : Int)) = true := decide_eq_true (by omega)
  simp only [h0, h1, cond_true, Int.toNat_natCast, beq_self_eq_true, Bool.or_true, Bool.true_and, List.length_map, decide_eq_true h, decide_eq_true h', Bool.and_self, M.pure, bytes, ← List.map_take, ← List.map_drop]
theorem ujx {x : List UInt8} {v2 : PV} (hx : x.length < 2 ^ 60) : ∀ (n : Nat), n ≤ x.length → run (u3s (BS z x) v2 (.int .i64 n)) H = some (.ok (.int .i64 (opF (bN x 0) (bN x 1) (bN x 2) n : Nat)) H)
  | 0, h => by
    rw [u5v]
    simp +contextual -dsimp (disch := omega) only [↓goDown, goUp, cr, simprocAttr, opF, show ((0 : Nat) : Int) = 0 from rfl, Int.lt_irrefl]
  | n + 1, h => by
    have ih := ujx hx (v2 := v2) n (by omega)
    have hs := fun K => uwb (H := K) (z := z) h
    have hfu := fun K => uvj (H := K) (z := z) (p := x.take (n + 1)) (by rw [List.length_take]; omega)
    have e1 : (((n + 1 : Nat) : Int) - 1) = ((n : Nat) : Int) := by omega
    have g0 : ((0 : Int) < ((n + 1 : Nat) : Int)) = True := eq_true (by omega)
    rw [urn h] at hfu
    rw [u5v, opF]
    by_cases h4 : n + 1 < 4
    · have h4' : (((n + 1 : Nat) : Int) < 4) = True := eq_true (by omega)
      cases hf : fullN (n + 1) (bN x 0) (bN x 1) (bN x 2) with
      | false =>
        rw [hf] at hfu
        rw [if_pos ⟨h4, rfl⟩]
        simp +contextual -dsimp (disch := omega) only [↓goDown, goUp, cr, simprocAttr, g0, h4', hs, hfu, un_not]
      | true =>
        rw [hf] at hfu
        rw [if_neg (fun g => by cases g.2)]
        simp +contextual -dsimp (disch := omega) only [↓goDown, goUp, cr, simprocAttr, g0, h4', hs, hfu, un_not, e1, ih]
    · have h4' : (((n + 1 : Nat) : Int) < 4) = False := eq_false (by omega)
      rw [if_neg (fun g => h4 g.1)]
      simp +contextual -dsimp (disch := omega) only [↓goDown, goUp, cr, simprocAttr, g0, h4', e1, ih]
theorem uvv {x : List UInt8} (hx : x.length < 2 ^ 60) : run (C u5l [BS z x]) H = some (.ok (.int .i64 (opF (bN x 0) (bN x 1) (bN x 2) x.length : Nat)) H) := by
  have h := ujx (H := H) (z := z) (v2 := .int .i64 0) hx x.length (Nat.le_refl _)
  rw [udj]
  simp +contextual -dsimp (disch := omega) only [↓goDown, goUp, cr, simprocAttr, List.length_map, h]
def badAt (b : List UInt8) : Nat → Nat → Option Nat
  | 0, _ => none
  | f + 1, a => if a < b.length then (if letL (b.drop a) = 0 then some (a + opF (bN b a) (bN b (a + 1)) (bN b (a + 2)) (min 4 (b.length - a))) else badAt b f (a + letL (b.drop a))) else none
def utfR (o : Option Nat) : PV := match o with | none => .tup [.int .i64 0, .bool true] | some a => .tup [.int .i64 a, .bool false]
theorem ul3 {b : List UInt8} {a i : Nat} : bN (b.drop a) i = bN b (a + i) := by
  unfold bN
  rw [List.getD_eq_getElem?_getD, List.getD_eq_getElem?_getD, List.getElem?_drop]
end Go.Proofs.YthnmienjiangkaaGreatDoor.Pi.Q
namespace Go.Proofs.YthnmienjiangkaaGreatDoor.Pi.Q
open Go Go.Proofs.YthnmienjiangkaaGreatDoor.Pi
theorem uev : ∀ u : List UInt8, u7e (bytes u) = some u
  | [] => rfl
  | c :: r => by
    have ih := uev r
    have e : u7e (bytes (c :: r)) = (u7e (bytes r)).map (UInt8.ofNat ((c.toNat : Int)).toNat :: ·) := rfl
    rw [e, ih]
    simp
theorem get_bN {b : List UInt8} {i : Nat} : ((ByteArray.mk ⟨b⟩).get! i).toNat = bN b i := by
  unfold bN ByteArray.get!
  congr 1
  simp [List.getD_eq_getElem?_getD, getElem!_def]
  cases b[i]? <;> rfl
theorem uqi {b : List UInt8} {a : Nat} (ha : a < b.length) (h : letL (b.drop a) ≠ 0) : (Utf8.decode (ByteArray.mk ⟨b⟩) a).2 = letL (b.drop a) := by
  rw [Lib.decode_at]
  simp only [get_bN]
  unfold letL at h ⊢
  simp only [ul3, List.length_drop, Nat.add_zero] at h ⊢
  exact uqq (n := b.length - a) (by omega) bN_lt bN_lt bN_lt bN_lt h
theorem bN_cut {b : List UInt8} {a i : Nat} (hi : i ≤ 2) : bN ((b.take (min b.length (a + 4))).drop a) i = bN b (a + i) := by
  rw [ul3]
  by_cases h : a + i < b.length
  · exact uhg (by omega)
  · unfold bN
    rw [List.getD_eq_getElem?_getD, List.getD_eq_getElem?_getD, List.getElem?_eq_none (by rw [List.length_take]; omega), List.getElem?_eq_none (by omega)]
attribute [local congr] ite_congr
variable {H : Heap} {z : Bool}
theorem cv_BS {o : Bool} {u : List UInt8} : run (cv .bytesToStr o (BS z u)) H = some (.ok (.str ⟨⟨u⟩⟩) H) := by
  unfold run cv
  simp only [uev]
  rfl
theorem run_rg {s : ByteArray} : run (rg (.str s)) H = some (.ok (.ptr H.length 0) (hadd H [.iter s 0])) := nrfl rfl
def nxR (n : Nat) (K : Heap) : Option Box → Option (Out PV)
  | some (.iter s pos) => bif decide (pos < s.size) then some (.ok (.tup [.bool true, .int .i64 pos, .int .i32 (Utf8.decode s pos).1]) (K.set n (.iter s (pos + (Utf8.decode s pos).2)))) else some (.ok (.tup [.bool false]) K)
  | _ => none
theorem nx_is {n : Nat} {K : Heap} : nx (.ptr n 0) K = nxR n K K[n]? := by
  unfold nxR
  rfl
theorem uwh {n : Nat} {K : Heap} {s : ByteArray} {pos : Nat} (h : K[n]? = some (.iter s pos)) : nx (.ptr n 0) K = if pos < s.size then some (.ok (.tup [.bool true, .int .i64 pos, .int .i32 (Utf8.decode s pos).1]) (K.set n (.iter s (pos + (Utf8.decode s pos).2)))) else some (.ok (.tup [.bool false]) K) := by
  rw [nx_is, h]
  unfold nxR
  by_cases hp : pos < s.size
  · rw [if_pos hp]; simp only [decide_eq_true hp, cond_true]
  · rw [if_neg hp]; simp only [decide_eq_false hp, cond_false]
theorem run_nx {s : ByteArray} {a : Nat} : run (nx (.ptr (List.length H) 0)) (hadd H [.iter s a]) = if a < s.size then some (.ok (.tup [.bool true, .int .i64 a, .int .i32 (Utf8.decode s a).1]) (hadd H [.iter s (a + (Utf8.decode s a).2)])) else some (.ok (.tup [.bool false]) (hadd H [.iter s a])) := by
  have hg : (hadd H [.iter s a])[List.length H]? = some (.iter s a) := by unfold hadd; simp
  have hs : ∀ y, List.set (hadd H [.iter s a]) (List.length H) y = hadd H [y] := fun y => by unfold hadd; simp
  unfold run
  rw [uwh hg, hs]
theorem uw9 {k : IntKind} {a b : Int} : run (mn (.int k a) (.int k b)) H = some (.ok (.int k (if b < a then b else a)) H) := by
  unfold run mn
  simp only [decide_true, cond_true]
  rfl
theorem unr {b : List UInt8} {v2 v3 : PV} (hb : b.length < 2 ^ 60) : ∀ (f a : Nat), b.length - a < f → a ≤ b.length →
    ∃ q, run (u4t (BS z b) v2 v3 (.ptr (List.length H) 0)) (hadd H [.iter (ByteArray.mk ⟨b⟩) a]) = some (.ok (utfR (badAt b f a)) (hadd H [.iter (ByteArray.mk ⟨b⟩) q]))
  | 0, a, h, ha => by omega
  | f + 1, a, h, ha => by
    have hnx := run_nx (H := H) (s := ByteArray.mk ⟨b⟩) (a := a)
    rw [show (ByteArray.mk ⟨b⟩).size = b.length from rfl] at hnx
    rw [badAt]
    by_cases hl : a < b.length
    · rw [if_pos hl] at hnx ⊢
      have hs := fun K => sl_lo (H := K) (z := z) (Nat.le_of_lt hl)
      obtain ⟨r, r0, r1, hd⟩ := dec_is (z := z) (p := b.drop a) (by rw [List.length_drop]; omega) (by rw [List.length_drop]; omega)
      by_cases h0 : letL (b.drop a) = 0
      · rw [if_pos h0]
        rw [h0] at hd
        have hr := r0 h0
        subst hr
        have e4 : ((a : Int) + 4) = ((a + 4 : Nat) : Int) := rfl
        have w4 : IntKind.i64.wrap ((a + 4 : Nat) : Int) = ((a + 4 : Nat) : Int) := w_i64 (by omega)
        have em : (if ((a + 4 : Nat) : Int) < (b.length : Int) then ((a + 4 : Nat) : Int) else (b.length : Int)) = ((min b.length (a + 4) : Nat) : Int) := by
          split <;> omega
        have hs2 := fun K => uld (H := K) (z := z) (x := b) (n := a) (m := min b.length (a + 4)) (by omega) (by omega)
        have ho := fun K => uvv (H := K) (z := z) (x := (b.take (min b.length (a + 4))).drop a) (by rw [List.length_drop, List.length_take]; omega)
        have el : ((b.take (min b.length (a + 4))).drop a).length = min 4 (b.length - a) := by rw [List.length_drop, List.length_take]; omega
        rw [bN_cut (by omega), bN_cut (by omega), bN_cut (by omega), el, Nat.add_zero] at ho
        have hol : opF (bN b a) (bN b (a + 1)) (bN b (a + 2)) (min 4 (b.length - a)) ≤ 4 := by
          have : ∀ n, opF (bN b a) (bN b (a + 1)) (bN b (a + 2)) n ≤ n := fun n => by
            induction n with
            | zero => exact Nat.le_refl _
            | succ n ih => rw [opF]; split <;> omega
          have := this (min 4 (b.length - a))
          omega
        generalize opF (bN b a) (bN b (a + 1)) (bN b (a + 2)) (min 4 (b.length - a)) = o at *
        have ea : ((a : Int) + (o : Int)) = ((a + o : Nat) : Int) := rfl
        have wa : IntKind.i64.wrap ((a + o : Nat) : Int) = ((a + o : Nat) : Int) := w_i64 (by omega)
        refine ⟨a + (Utf8.decode (ByteArray.mk ⟨b⟩) a).2, ?_⟩
        rw [u4w]
        simp +contextual -dsimp (disch := omega) only [↓goDown, goUp, cr, simprocAttr, hnx, hs, hd, List.length_map, e4, w4, uw9, em, hs2, ho, ea, wa, utfR, show ((max 1 0 : Nat) : Int) = 1 from rfl]
      · rw [if_neg h0]
        have hw := uqi hl h0
        rw [hw] at hnx
        have hle := ugr hl
        obtain ⟨q, ih⟩ := unr hb (v2 := v2) (v3 := v3) f (a + letL (b.drop a)) (by omega) hle
        have hm : max 1 (letL (b.drop a)) = letL (b.drop a) := by omega
        rw [hm] at hd
        refine ⟨q, ?_⟩
        rw [u4w]
        by_cases hr : r = 65533
        · have hr' : (r = 65533) = True := eq_true hr
          have h1 : ¬ letL (b.drop a) = 1 := fun g => r1 g hr
          have g1 : (((letL (b.drop a) : Nat) : Int) ≤ 1) = False := eq_false (by omega)
          simp +contextual -dsimp (disch := omega) only [↓goDown, goUp, cr, simprocAttr, hnx, hs, hd, List.length_map, hr', g1, ih]
        · have hr' : (r = 65533) = False := eq_false hr
          simp +contextual -dsimp (disch := omega) only [↓goDown, goUp, cr, simprocAttr, hnx, hs, hd, List.length_map, hr', ih]
    · rw [if_neg hl] at hnx ⊢
      refine ⟨a, ?_⟩
      rw [u4w]
      simp +contextual -dsimp (disch := omega) only [↓goDown, goUp, cr, simprocAttr, hnx, utfR]
theorem uqm {o : Option Nat} {n : Nat} : (utfR o).low n = true := by cases o <;> simp [utfR, ub9, u6d, u54, u8c, udq]
def utfN (b : List UInt8) : Option Nat := badAt b (b.length + 1) 0
theorem uvs {b : List UInt8} (hb : b.length < 2 ^ 60) : run (C u7w [BS z b]) H = some (.ok (utfR (utfN b)) H) := by
  have hc := fun K o => cv_BS (H := K) (z := z) (o := o) (u := b)
  obtain ⟨q, h⟩ := unr (H := H) (z := z) (v2 := .int .i64 0) (v3 := .bool false) hb (b.length + 1) 0 (by omega) (by omega)
  rw [uhn]
  simp +contextual -dsimp (disch := omega) only [↓goDown, goUp, cr, simprocAttr, hc, run_rg, h, utfN, uqm]
end Go.Proofs.YthnmienjiangkaaGreatDoor.Pi.Q
namespace Go.Proofs.YthnmienjiangkaaGreatDoor.Pi.Q
open Go Go.Proofs.YthnmienjiangkaaGreatDoor.Pi
def ltN (c : Nat) : Nat := if c < 128 then 1 else if 194 ≤ c ∧ c ≤ 223 then 2 else if 224 ≤ c ∧ c ≤ 239 then 3 else if 240 ≤ c ∧ c ≤ 244 then 4 else 0
def loR (f k : Nat) : Nat := if k = 1 then (if f = 224 then 160 else if f = 240 then 144 else 128) else 128
def hiR (f k : Nat) : Nat := if k = 1 then (if f = 237 then 159 else if f = 244 then 143 else 191) else 191
def folR (f k c : Nat) : Bool := decide (loR f k ≤ c ∧ c ≤ hiR f k)
theorem uui : ∀ c ∈ List.range 256, ltN c = (if c < 128 then 1 else if 240 ≤ Lib.firstT c then 0 else Lib.firstT c % 8) ∧ (128 ≤ c → ¬ 240 ≤ Lib.firstT c → Lib.accLo (Lib.firstT c / 16) = loR c 1 ∧ Lib.accHi (Lib.firstT c / 16) = hiR c 1) := by decide +kernel
def goR (b : List UInt8) (a n : Nat) : Nat → Nat → Option Nat
  | 0, _ => none
  | f + 1, k => if k < n then (if b.length ≤ a + k then some b.length else if folR (bN b a) k (bN b (a + k)) = false then some (a + k) else goR b a n f (k + 1)) else none
def badR (b : List UInt8) : Nat → Nat → Option Nat
  | 0, _ => none
  | f + 1, a => if a < b.length then (if ltN (bN b a) = 0 then some a else match goR b a (ltN (bN b a)) 5 1 with | some x => some x | none => badR b f (a + ltN (bN b a))) else none
theorem uhv {n c0 c1 c2 : Nat} (h0 : n ≠ 0) : fullN n c0 c1 c2 = false ↔ (n < Lib.firstT c0 % 8 ∧ (1 < n → Lib.accLo (Lib.firstT c0 / 16) ≤ c1 ∧ c1 ≤ Lib.accHi (Lib.firstT c0 / 16)) ∧ (2 < n → 128 ≤ c2 ∧ c2 ≤ 191)) := by
  unfold fullN
  rw [if_neg h0]
  by_cases h1 : Lib.firstT c0 % 8 ≤ n
  · rw [if_pos h1]; simp; omega
  · rw [if_neg h1]
    by_cases h2 : 1 < n ∧ (c1 < Lib.accLo (Lib.firstT c0 / 16) ∨ Lib.accHi (Lib.firstT c0 / 16) < c1)
    · rw [if_pos h2]; simp; omega
    · rw [if_neg h2, decide_eq_false_iff_not]
      omega
theorem opF_is {c0 c1 c2 m : Nat} (hm : m ≤ 4) : opF c0 c1 c2 m = if m = 0 ∨ Lib.firstT c0 % 8 ≤ 1 then 0 else if m = 1 ∨ Lib.firstT c0 % 8 ≤ 2 ∨ c1 < Lib.accLo (Lib.firstT c0 / 16) ∨ Lib.accHi (Lib.firstT c0 / 16) < c1 then 1
    else if m = 2 ∨ Lib.firstT c0 % 8 ≤ 3 ∨ c2 < 128 ∨ 191 < c2 then 2 else 3 := by
  have n1 := uhv (n := 1) (c0 := c0) (c1 := c1) (c2 := c2) (by decide)
  have n2 := uhv (n := 2) (c0 := c0) (c1 := c1) (c2 := c2) (by decide)
  have n3 := uhv (n := 3) (c0 := c0) (c1 := c1) (c2 := c2) (by decide)
  generalize fullN 1 c0 c1 c2 = f1 at *
  have hx := udy c0
  have h : m = 0 ∨ m = 1 ∨ m = 2 ∨ m = 3 ∨ m = 4 := by omega
  have u0 : opF c0 c1 c2 0 = 0 := rfl
  have u1 : opF c0 c1 c2 1 = if fullN 1 c0 c1 c2 = false then 1 else 0 := by rw [opF]; simp [u0]
  have u2 : opF c0 c1 c2 2 = if fullN 2 c0 c1 c2 = false then 2 else opF c0 c1 c2 1 := by rw [opF]; simp
  have u3 : opF c0 c1 c2 3 = if fullN 3 c0 c1 c2 = false then 3 else opF c0 c1 c2 2 := by rw [opF]; simp
  have u4 : opF c0 c1 c2 4 = opF c0 c1 c2 3 := by rw [opF]; simp
  have n1' := uhv (n := 1) (c0 := c0) (c1 := c1) (c2 := c2) (by decide)
  generalize Lib.accLo (Lib.firstT c0 / 16) = lo at *
  generalize Lib.accHi (Lib.firstT c0 / 16) = hi at *
  generalize Lib.firstT c0 % 8 = s at *
  rcases h with rfl | rfl | rfl | rfl | rfl
  · rw [u0, if_pos (.inl rfl)]
  · rw [u1]
    by_cases g : fullN 1 c0 c1 c2 = false
    · rw [if_pos g, if_neg (by have := n1'.mp g; omega), if_pos (.inl rfl)]
    · rw [if_neg g, if_pos (Classical.byContradiction fun q => g (n1'.mpr (by omega)))]
  · rw [u2, u1]
    by_cases g : fullN 2 c0 c1 c2 = false
    · have := n2.mp g
      rw [if_pos g, if_neg (by omega), if_neg (by omega), if_pos (by omega)]
    · have q2 : ¬ _ := fun q => g (n2.mpr q)
      rw [if_neg g]
      by_cases g1 : fullN 1 c0 c1 c2 = false
      · have := n1'.mp g1
        rw [if_pos g1, if_neg (by omega), if_pos (by omega)]
      · have q1 : ¬ _ := fun q => g1 (n1'.mpr q)
        rw [if_neg g1, if_pos (by omega)]
  · rw [u3, u2, u1]
    by_cases g3 : fullN 3 c0 c1 c2 = false
    · have := n3.mp g3
      rw [if_pos g3, if_neg (by omega), if_neg (by omega), if_neg (by omega)]
    · have q3 : ¬ _ := fun q => g3 (n3.mpr q)
      rw [if_neg g3]
      by_cases g : fullN 2 c0 c1 c2 = false
      · have := n2.mp g
        rw [if_pos g, if_neg (by omega), if_neg (by omega), if_pos (by omega)]
      · have q2 : ¬ _ := fun q => g (n2.mpr q)
        rw [if_neg g]
        by_cases g1 : fullN 1 c0 c1 c2 = false
        · have := n1'.mp g1
          rw [if_pos g1, if_neg (by omega), if_pos (by omega)]
        · have q1 : ¬ _ := fun q => g1 (n1'.mpr q)
          rw [if_neg g1, if_pos (by omega)]
  · rw [u4, u3, u2, u1]
    by_cases g3 : fullN 3 c0 c1 c2 = false
    · have := n3.mp g3
      rw [if_pos g3, if_neg (by omega), if_neg (by omega), if_neg (by omega)]
    · have q3 : ¬ _ := fun q => g3 (n3.mpr q)
      rw [if_neg g3]
      by_cases g : fullN 2 c0 c1 c2 = false
      · have := n2.mp g
        rw [if_pos g, if_neg (by omega), if_neg (by omega), if_pos (by omega)]
      · have q2 : ¬ _ := fun q => g (n2.mpr q)
        rw [if_neg g]
        by_cases g1 : fullN 1 c0 c1 c2 = false
        · have := n1'.mp g1
          rw [if_pos g1, if_neg (by omega), if_pos (by omega)]
        · have q1 : ¬ _ := fun q => g1 (n1'.mpr q)
          rw [if_neg g1, if_pos (by omega)]
end Go.Proofs.YthnmienjiangkaaGreatDoor.Pi.Q
namespace Go.Proofs.YthnmienjiangkaaGreatDoor.Pi.Q
open Go Go.Proofs.YthnmienjiangkaaGreatDoor.Pi
theorem fol_no {f k c : Nat} : folR f k c = false ↔ c < loR f k ∨ hiR f k < c := by
  unfold folR
  rw [decide_eq_false_iff_not]
  omega
theorem lo_2 {f k : Nat} (h : k ≠ 1) : loR f k = 128 := by unfold loR; rw [if_neg h]
theorem hi_2 {f k : Nat} (h : k ≠ 1) : hiR f k = 191 := by unfold hiR; rw [if_neg h]
theorem goR_s {b : List UInt8} {a n f k : Nat} : goR b a n (f + 1) k = if k < n then (if b.length ≤ a + k then some b.length else if folR (bN b a) k (bN b (a + k)) = false then some (a + k) else goR b a n f (k + 1)) else none := rfl
theorem go_2 {b : List UInt8} {a : Nat} : goR b a 2 5 1 = if b.length ≤ a + 1 then some b.length else if folR (bN b a) 1 (bN b (a + 1)) = false then some (a + 1) else none := by
  rw [goR_s, if_pos (show 1 < 2 by decide), show goR b a 2 4 (1 + 1) = none from by rw [goR_s, if_neg (show ¬ 1 + 1 < 2 by decide)]]
theorem go_3 {b : List UInt8} {a : Nat} : goR b a 3 5 1 = if b.length ≤ a + 1 then some b.length else if folR (bN b a) 1 (bN b (a + 1)) = false then some (a + 1) else if b.length ≤ a + 2 then some b.length else if folR (bN b a) 2 (bN b (a + 2)) = false then some (a + 2) else none := by
  rw [goR_s, if_pos (show 1 < 3 by decide)]
  rw [show goR b a 3 4 (1 + 1) = if b.length ≤ a + 2 then some b.length else if folR (bN b a) 2 (bN b (a + 2)) = false then some (a + 2) else none from by
    rw [goR_s, if_pos (show 1 + 1 < 3 by decide), show goR b a 3 3 (1 + 1 + 1) = none from by rw [goR_s, if_neg (show ¬ 1 + 1 + 1 < 3 by decide)]]]
theorem go_4 {b : List UInt8} {a : Nat} : goR b a 4 5 1 = if b.length ≤ a + 1 then some b.length else if folR (bN b a) 1 (bN b (a + 1)) = false then some (a + 1) else if b.length ≤ a + 2 then some b.length else if folR (bN b a) 2 (bN b (a + 2)) = false then some (a + 2) else if b.length ≤ a + 3 then some b.length else if folR (bN b a) 3 (bN b (a + 3)) = false then some (a + 3) else none := by
  rw [goR_s, if_pos (show 1 < 4 by decide)]
  rw [show goR b a 4 4 (1 + 1) = if b.length ≤ a + 2 then some b.length else if folR (bN b a) 2 (bN b (a + 2)) = false then some (a + 2) else if b.length ≤ a + 3 then some b.length else if folR (bN b a) 3 (bN b (a + 3)) = false then some (a + 3) else none from by
    rw [goR_s, if_pos (show 1 + 1 < 4 by decide)]
    rw [show goR b a 4 3 (1 + 1 + 1) = if b.length ≤ a + 3 then some b.length else if folR (bN b a) 3 (bN b (a + 3)) = false then some (a + 3) else none from by
      rw [goR_s, if_pos (show 1 + 1 + 1 < 4 by decide), show goR b a 4 2 (1 + 1 + 1 + 1) = none from by rw [goR_s, if_neg (show ¬ 1 + 1 + 1 + 1 < 4 by decide)]]]]
theorem fin0 {G : Option Nat} {a x V O s k : Nat} (hs : s ≠ 0) (h1 : G = some x) (h2 : V = 0) (h3 : O = k) (h4 : x = a + k) : (if s = 0 then some a else G) = (if V = 0 then some (a + O) else none) ∧ (V ≠ 0 → V = s) := by
  rw [if_neg hs, if_pos h2, h1, h3, h4]
  exact ⟨rfl, fun h => absurd h2 h⟩
theorem fin1 {G : Option Nat} {a V O s : Nat} (hs : s ≠ 0) (h1 : G = none) (h2 : V = s) : (if s = 0 then some a else G) = (if V = 0 then some (a + O) else none) ∧ (V ≠ 0 → V = s) := by
  rw [if_neg hs, if_neg (by omega), h1]
  exact ⟨rfl, fun _ => h2⟩
theorem uvw {b : List UInt8} {a : Nat} (ha : a < b.length) :
    (if ltN (bN b a) = 0 then some a else goR b a (ltN (bN b a)) 5 1) = (if letL (b.drop a) = 0 then some (a + opF (bN b a) (bN b (a + 1)) (bN b (a + 2)) (min 4 (b.length - a))) else none) ∧ (letL (b.drop a) ≠ 0 → letL (b.drop a) = ltN (bN b a)) := by
  have hm : min 4 (b.length - a) ≤ 4 := by omega
  rw [opF_is hm]
  unfold letL
  simp only [ul3, List.length_drop, Nat.add_zero]
  obtain ⟨h1, h2⟩ := uui (bN b a) (List.mem_range.mpr bN_lt)
  unfold letN
  by_cases h0 : bN b a < 128
  · rw [if_pos h0] at h1
    rw [h1, if_pos h0]
    exact ⟨rfl, fun _ => rfl⟩
  · rw [if_neg h0] at h1 ⊢
    by_cases hx : 240 ≤ Lib.firstT (bN b a)
    · rw [if_pos hx] at h1
      rw [h1, if_pos hx, ui0 (by omega) hx]
      simp
    · obtain ⟨l1, l2⟩ := h2 (by omega) hx
      rw [if_neg hx] at h1
      have hs := uby (by omega) hx
      rw [if_neg hx, l1, l2, h1]
      have g1 := fol_no (f := bN b a) (k := 1) (c := bN b (a + 1))
      have g2 := fol_no (f := bN b a) (k := 2) (c := bN b (a + 2))
      have g3 := fol_no (f := bN b a) (k := 3) (c := bN b (a + 3))
      rw [lo_2 (by decide), hi_2 (by decide)] at g2 g3
      generalize loR (bN b a) 1 = lo at *
      generalize hiR (bN b a) 1 = hi at *
      have g20 := go_2 (b := b) (a := a)
      have g30 := go_3 (b := b) (a := a)
      have g40 := go_4 (b := b) (a := a)
      generalize b.length = L at *
      generalize folR (bN b a) 1 (bN b (a + 1)) = k1 at *
      generalize folR (bN b a) 2 (bN b (a + 2)) = k2 at *
      generalize folR (bN b a) 3 (bN b (a + 3)) = k3 at *
      generalize bN b (a + 1) = c1 at *
      generalize bN b (a + 2) = c2 at *
      generalize bN b (a + 3) = c3 at *
      clear h2 l1 l2
      generalize Lib.firstT (bN b a) % 8 = s at *
      clear h1 hx h0
      rcases hs with rfl | rfl | rfl
      · by_cases n1 : L ≤ a + 1
        · exact fin0 (x := L) (k := 1) (by decide) (by rw [g20, if_pos n1]) (by (repeat' split); all_goals omega) (by (repeat' split); all_goals omega) (by omega)
        · by_cases q1 : c1 < lo ∨ hi < c1
          · exact fin0 (x := a + 1) (k := 1) (by decide) (by rw [g20, if_neg n1, if_pos (g1.mpr q1)]) (by (repeat' split); all_goals omega) (by (repeat' split); all_goals omega) (by omega)
          · exact fin1 (by decide) (by rw [g20, if_neg n1, if_neg (fun h => q1 (g1.mp h))]) (by (repeat' split); all_goals omega)
      · by_cases n1 : L ≤ a + 1
        · exact fin0 (x := L) (k := 1) (by decide) (by rw [g30, if_pos n1]) (by (repeat' split); all_goals omega) (by (repeat' split); all_goals omega) (by omega)
        · by_cases q1 : c1 < lo ∨ hi < c1
          · exact fin0 (x := a + 1) (k := 1) (by decide) (by rw [g30, if_neg n1, if_pos (g1.mpr q1)]) (by (repeat' split); all_goals omega) (by (repeat' split); all_goals omega) (by omega)
          · skip
            by_cases n2 : L ≤ a + 2
            · exact fin0 (x := L) (k := 2) (by decide) (by rw [g30, if_neg n1, if_neg (fun h => q1 (g1.mp h)), if_pos n2]) (by (repeat' split); all_goals omega) (by (repeat' split); all_goals omega) (by omega)
            · by_cases q2 : c2 < 128 ∨ 191 < c2
              · exact fin0 (x := a + 2) (k := 2) (by decide) (by rw [g30, if_neg n1, if_neg (fun h => q1 (g1.mp h)), if_neg n2, if_pos (g2.mpr q2)]) (by (repeat' split); all_goals omega) (by (repeat' split); all_goals omega) (by omega)
              · exact fin1 (by decide) (by rw [g30, if_neg n1, if_neg (fun h => q1 (g1.mp h)), if_neg n2, if_neg (fun h => q2 (g2.mp h))]) (by (repeat' split); all_goals omega)
      · by_cases n1 : L ≤ a + 1
        · exact fin0 (x := L) (k := 1) (by decide) (by rw [g40, if_pos n1]) (by (repeat' split); all_goals omega) (by (repeat' split); all_goals omega) (by omega)
        · by_cases q1 : c1 < lo ∨ hi < c1
          · exact fin0 (x := a + 1) (k := 1) (by decide) (by rw [g40, if_neg n1, if_pos (g1.mpr q1)]) (by (repeat' split); all_goals omega) (by (repeat' split); all_goals omega) (by omega)
          · skip
            by_cases n2 : L ≤ a + 2
            · exact fin0 (x := L) (k := 2) (by decide) (by rw [g40, if_neg n1, if_neg (fun h => q1 (g1.mp h)), if_pos n2]) (by (repeat' split); all_goals omega) (by (repeat' split); all_goals omega) (by omega)
            · by_cases q2 : c2 < 128 ∨ 191 < c2
              · exact fin0 (x := a + 2) (k := 2) (by decide) (by rw [g40, if_neg n1, if_neg (fun h => q1 (g1.mp h)), if_neg n2, if_pos (g2.mpr q2)]) (by (repeat' split); all_goals omega) (by (repeat' split); all_goals omega) (by omega)
              · skip
                by_cases n3 : L ≤ a + 3
                · exact fin0 (x := L) (k := 3) (by decide) (by rw [g40, if_neg n1, if_neg (fun h => q1 (g1.mp h)), if_neg n2, if_neg (fun h => q2 (g2.mp h)), if_pos n3]) (by (repeat' split); all_goals omega) (by (repeat' split); all_goals omega) (by omega)
                · by_cases q3 : c3 < 128 ∨ 191 < c3
                  · exact fin0 (x := a + 3) (k := 3) (by decide) (by rw [g40, if_neg n1, if_neg (fun h => q1 (g1.mp h)), if_neg n2, if_neg (fun h => q2 (g2.mp h)), if_neg n3, if_pos (g3.mpr q3)]) (by (repeat' split); all_goals omega) (by (repeat' split); all_goals omega) (by omega)
                  · exact fin1 (by decide) (by rw [g40, if_neg n1, if_neg (fun h => q1 (g1.mp h)), if_neg n2, if_neg (fun h => q2 (g2.mp h)), if_neg n3, if_neg (fun h => q3 (g3.mp h))]) (by (repeat' split); all_goals omega)
theorem un0 {b : List UInt8} : ∀ (f a : Nat), badR b f a = badAt b f a
  | 0, a => rfl
  | f + 1, a => by
    rw [badR, badAt]
    by_cases ha : a < b.length
    · rw [if_pos ha, if_pos ha]
      obtain ⟨h1, h2⟩ := uvw ha
      by_cases h0 : letL (b.drop a) = 0
      · rw [if_pos h0] at h1 ⊢
        by_cases hz : ltN (bN b a) = 0
        · rw [if_pos hz] at h1 ⊢
          exact h1
        · rw [if_neg hz] at h1 ⊢
          rw [h1]
      · rw [if_neg h0] at h1 ⊢
        have e := h2 h0
        have hz : ¬ ltN (bN b a) = 0 := by rw [← e]; exact h0
        rw [if_neg hz] at h1 ⊢
        rw [h1, e]
        exact un0 f _
    · rw [if_neg ha, if_neg ha]
end Go.Proofs.YthnmienjiangkaaGreatDoor.Pi.Q
namespace Go.Proofs.YthnmienjiangkaaGreatDoor.Pi.Q
open Go Go.Proofs.YthnmienjiangkaaGreatDoor.Pi
attribute [local congr] ite_congr
variable {H : Heap} {z : Bool}
theorem uqh {n : Nat} (h : n < 256) : run (C u4j [.int .u8 n]) H = some (.ok (.int .i64 (ltN n : Nat)) H) := by
  rw [u96]
  have hc : n < 128 ∨ (128 ≤ n ∧ n < 194) ∨ (194 ≤ n ∧ n ≤ 223) ∨ (224 ≤ n ∧ n ≤ 239) ∨ (240 ≤ n ∧ n ≤ 244) ∨ 244 < n := by omega
  rcases hc with q | q | q | q | q | q
  · have e : ltN n = 1 := by unfold ltN; (repeat' split) <;> omega
    rw [e]
    have t0 : ((n : Int) < 128) = True := eq_true (by omega)
    have t1 : ((194 : Int) ≤ (n : Int)) = False := eq_false (by omega)
    have t2 : ((n : Int) ≤ 223) = True := eq_true (by omega)
    have t3 : ((224 : Int) ≤ (n : Int)) = False := eq_false (by omega)
    have t4 : ((n : Int) ≤ 239) = True := eq_true (by omega)
    have t5 : ((240 : Int) ≤ (n : Int)) = False := eq_false (by omega)
    have t6 : ((n : Int) ≤ 244) = True := eq_true (by omega)
    simp +contextual -dsimp (disch := omega) only [↓goDown, goUp, cr, simprocAttr, t0, t1, t2, t3, t4, t5, t6]
  · have e : ltN n = 0 := by unfold ltN; (repeat' split) <;> omega
    rw [e]
    have t0 : ((n : Int) < 128) = False := eq_false (by omega)
    have t1 : ((194 : Int) ≤ (n : Int)) = False := eq_false (by omega)
    have t2 : ((n : Int) ≤ 223) = True := eq_true (by omega)
    have t3 : ((224 : Int) ≤ (n : Int)) = False := eq_false (by omega)
    have t4 : ((n : Int) ≤ 239) = True := eq_true (by omega)
    have t5 : ((240 : Int) ≤ (n : Int)) = False := eq_false (by omega)
    have t6 : ((n : Int) ≤ 244) = True := eq_true (by omega)
    simp +contextual -dsimp (disch := omega) only [↓goDown, goUp, cr, simprocAttr, t0, t1, t2, t3, t4, t5, t6]
  · have e : ltN n = 2 := by unfold ltN; (repeat' split) <;> omega
    rw [e]
    have t0 : ((n : Int) < 128) = False := eq_false (by omega)
    have t1 : ((194 : Int) ≤ (n : Int)) = True := eq_true (by omega)
    have t2 : ((n : Int) ≤ 223) = True := eq_true (by omega)
    have t3 : ((224 : Int) ≤ (n : Int)) = False := eq_false (by omega)
    have t4 : ((n : Int) ≤ 239) = True := eq_true (by omega)
    have t5 : ((240 : Int) ≤ (n : Int)) = False := eq_false (by omega)
    have t6 : ((n : Int) ≤ 244) = True := eq_true (by omega)
    simp +contextual -dsimp (disch := omega) only [↓goDown, goUp, cr, simprocAttr, t0, t1, t2, t3, t4, t5, t6]
  · have e : ltN n = 3 := by unfold ltN; (repeat' split) <;> omega
    rw [e]
    have t0 : ((n : Int) < 128) = False := eq_false (by omega)
    have t1 : ((194 : Int) ≤ (n : Int)) = True := eq_true (by omega)
    have t2 : ((n : Int) ≤ 223) = False := eq_false (by omega)
    have t3 : ((224 : Int) ≤ (n : Int)) = True := eq_true (by omega)
    have t4 : ((n : Int) ≤ 239) = True := eq_true (by omega)
    have t5 : ((240 : Int) ≤ (n : Int)) = False := eq_false (by omega)
    have t6 : ((n : Int) ≤ 244) = True := eq_true (by omega)
    simp +contextual -dsimp (disch := omega) only [↓goDown, goUp, cr, simprocAttr, t0, t1, t2, t3, t4, t5, t6]
  · have e : ltN n = 4 := by unfold ltN; (repeat' split) <;> omega
    rw [e]
    have t0 : ((n : Int) < 128) = False := eq_false (by omega)
    have t1 : ((194 : Int) ≤ (n : Int)) = True := eq_true (by omega)
    have t2 : ((n : Int) ≤ 223) = False := eq_false (by omega)
    have t3 : ((224 : Int) ≤ (n : Int)) = True := eq_true (by omega)
    have t4 : ((n : Int) ≤ 239) = False := eq_false (by omega)
    have t5 : ((240 : Int) ≤ (n : Int)) = True := eq_true (by omega)
    have t6 : ((n : Int) ≤ 244) = True := eq_true (by omega)
    simp +contextual -dsimp (disch := omega) only [↓goDown, goUp, cr, simprocAttr, t0, t1, t2, t3, t4, t5, t6]
  · have e : ltN n = 0 := by unfold ltN; (repeat' split) <;> omega
    rw [e]
    have t0 : ((n : Int) < 128) = False := eq_false (by omega)
    have t1 : ((194 : Int) ≤ (n : Int)) = True := eq_true (by omega)
    have t2 : ((n : Int) ≤ 223) = False := eq_false (by omega)
    have t3 : ((224 : Int) ≤ (n : Int)) = True := eq_true (by omega)
    have t4 : ((n : Int) ≤ 239) = False := eq_false (by omega)
    have t5 : ((240 : Int) ≤ (n : Int)) = True := eq_true (by omega)
    have t6 : ((n : Int) ≤ 244) = False := eq_false (by omega)
    simp +contextual -dsimp (disch := omega) only [↓goDown, goUp, cr, simprocAttr, t0, t1, t2, t3, t4, t5, t6]
theorem upr {f k c : Nat} (h : c < 256) : run (C u33 [.int .u8 f, .int .i64 k, .int .u8 c]) H = some (.ok (.bool (folR f k c)) H) := by
  have e : ∀ {lo hi : Nat}, run (u08 (.int .u8 c) (.bool false) (.int .u8 lo) (.int .u8 hi)) H = some (.ok (.bool (decide (lo ≤ c ∧ c ≤ hi))) H) := by
    intro lo hi
    rw [u6w]
    by_cases g : lo ≤ c
    · have g' : ((lo : Int) ≤ (c : Int)) = True := eq_true (by omega)
      have d : decide ((c : Int) ≤ (hi : Int)) = decide (lo ≤ c ∧ c ≤ hi) := by
        apply decide_eq_decide.mpr; omega
      simp +contextual -dsimp (disch := omega) only [↓goDown, goUp, cr, simprocAttr, g', d]
    · have g' : ((lo : Int) ≤ (c : Int)) = False := eq_false (by omega)
      have d : decide (lo ≤ c ∧ c ≤ hi) = false := decide_eq_false (by omega)
      simp +contextual -dsimp (disch := omega) only [↓goDown, goUp, cr, simprocAttr, g', d]
  have e1 : run (u08 (.int .u8 c) (.bool false) (.int .u8 160) (.int .u8 191)) H = _ := e (lo := 160) (hi := 191)
  have e2 : run (u08 (.int .u8 c) (.bool false) (.int .u8 128) (.int .u8 159)) H = _ := e (lo := 128) (hi := 159)
  have e3 : run (u08 (.int .u8 c) (.bool false) (.int .u8 144) (.int .u8 191)) H = _ := e (lo := 144) (hi := 191)
  have e4 : run (u08 (.int .u8 c) (.bool false) (.int .u8 128) (.int .u8 143)) H = _ := e (lo := 128) (hi := 143)
  have e5 : run (u08 (.int .u8 c) (.bool false) (.int .u8 128) (.int .u8 191)) H = _ := e (lo := 128) (hi := 191)
  rw [u8u]
  unfold folR loR hiR
  by_cases k1 : k = 1
  · subst k1
    by_cases f1 : f = 224
    · subst f1
      simp +contextual -dsimp (disch := omega) only [↓goDown, goUp, cr, simprocAttr, e1]
    · have f1' : ((f : Int) = 224) = False := eq_false (by omega)
      by_cases f2 : f = 237
      · subst f2
        simp +contextual -dsimp (disch := omega) only [↓goDown, goUp, cr, simprocAttr, e2]
      · have f2' : ((f : Int) = 237) = False := eq_false (by omega)
        by_cases f3 : f = 240
        · subst f3
          simp +contextual -dsimp (disch := omega) only [↓goDown, goUp, cr, simprocAttr, e3]
        · have f3' : ((f : Int) = 240) = False := eq_false (by omega)
          by_cases f4 : f = 244
          · subst f4
            simp +contextual -dsimp (disch := omega) only [↓goDown, goUp, cr, simprocAttr, e4]
          · have f4' : ((f : Int) = 244) = False := eq_false (by omega)
            simp +contextual -dsimp (disch := omega) only [↓goDown, goUp, cr, simprocAttr, e5, f1', f2', f3', f4', f1, f2, f3, f4]
  · have k1' : ((k : Int) = 1) = False := eq_false (by omega)
    simp +contextual -dsimp (disch := omega) only [↓goDown, goUp, cr, simprocAttr, e5, k1', k1]
theorem uj6 {b : List UInt8} {v2 v3 : PV} {a n : Nat} (hb : b.length < 2 ^ 60) (ha : a < b.length) (hn : n ≤ 4) : ∀ (f k : Nat), n < k + f → k ≤ 5 →
    run (u14 (BS z b) v2 v3 (.int .i64 a) (.int .i64 n) (.int .i64 k)) H = match goR b a n f k with | some x => some (.ok (utfR (some x)) H) | none => run (u1f (BS z b) v2 v3 (.int .i64 (a + n : Nat))) H
  | 0, k, h, hk => by
    have g' : ((k : Int) < (n : Int)) = False := eq_false (by omega)
    have ea : ((a : Int) + (n : Int)) = ((a + n : Nat) : Int) := rfl
    have wa : IntKind.i64.wrap ((a + n : Nat) : Int) = ((a + n : Nat) : Int) := w_i64 (by omega)
    rw [u2x, goR]
    simp +contextual -dsimp (disch := omega) only [↓goDown, goUp, cr, simprocAttr, g', ea, wa]
  | f + 1, k, h, hk => by
    rw [u2x, goR]
    by_cases g : k < n
    · have g' : ((k : Int) < (n : Int)) = True := eq_true (by omega)
      rw [if_pos g]
      have ea : ((a : Int) + (k : Int)) = ((a + k : Nat) : Int) := rfl
      have wa : IntKind.i64.wrap ((a + k : Nat) : Int) = ((a + k : Nat) : Int) := w_i64 (by omega)
      by_cases gl : b.length ≤ a + k
      · have gl' : ((b.length : Int) ≤ ((a + k : Nat) : Int)) = True := eq_true (by omega)
        rw [if_pos gl]
        simp +contextual -dsimp (disch := omega) only [↓goDown, goUp, cr, simprocAttr, g', ea, wa, List.length_map, gl', utfR]
      · have gl' : ((b.length : Int) ≤ ((a + k : Nat) : Int)) = False := eq_false (by omega)
        rw [if_neg gl]
        have i1 := fun K => iaB (H := K) (z := z) (p := b) (i := a) ha
        have i2 := fun K => iaB (H := K) (z := z) (p := b) (i := a + k) (by omega)
        have hf := fun K => upr (H := K) (f := bN b a) (k := k) (c := bN b (a + k)) bN_lt
        cases hc : folR (bN b a) k (bN b (a + k)) with
        | false =>
          rw [hc] at hf
          rw [if_pos rfl]
          simp +contextual -dsimp (disch := omega) only [↓goDown, goUp, cr, simprocAttr, g', ea, wa, List.length_map, gl', i1, i2, hf, un_not, utfR]
        | true =>
          rw [hc] at hf
          rw [if_neg (by decide)]
          have ih := uj6 (v2 := v2) (v3 := v3) hb ha hn f (k + 1) (by omega) (by omega)
          have ek : ((k : Int) + 1) = ((k + 1 : Nat) : Int) := rfl
          have wk : IntKind.i64.wrap ((k + 1 : Nat) : Int) = ((k + 1 : Nat) : Int) := w_i64 (by omega)
          simp +contextual -dsimp (disch := omega) only [↓goDown, goUp, cr, simprocAttr, g', ea, wa, List.length_map, gl', i1, i2, hf, un_not, ek, wk, ih]
    · have g' : ((k : Int) < (n : Int)) = False := eq_false (by omega)
      rw [if_neg g]
      have ea : ((a : Int) + (n : Int)) = ((a + n : Nat) : Int) := rfl
      have wa : IntKind.i64.wrap ((a + n : Nat) : Int) = ((a + n : Nat) : Int) := w_i64 (by omega)
      simp +contextual -dsimp (disch := omega) only [↓goDown, goUp, cr, simprocAttr, g', ea, wa]
theorem lt_le {c : Nat} : ltN c ≤ 4 := by unfold ltN; (repeat' split) <;> omega
theorem ukx {b : List UInt8} {v2 v3 : PV} (hb : b.length < 2 ^ 60) : ∀ (f a : Nat), b.length - a < f → a ≤ b.length + 4 →
    run (u1f (BS z b) v2 v3 (.int .i64 a)) H = some (.ok (utfR (badR b f a)) H)
  | 0, a, h, ha => by omega
  | f + 1, a, h, ha => by
    rw [u77, badR]
    by_cases hl : a < b.length
    · have g' : ((a : Int) < (b.length : Int)) = True := eq_true (by omega)
      rw [if_pos hl]
      have i1 := fun K => iaB (H := K) (z := z) (p := b) (i := a) hl
      have hf := fun K => uqh (H := K) (n := bN b a) bN_lt
      by_cases h0 : ltN (bN b a) = 0
      · rw [h0] at hf
        rw [if_pos h0]
        simp +contextual -dsimp (disch := omega) only [↓goDown, goUp, cr, simprocAttr, g', List.length_map, i1, hf, utfR, show ((0 : Nat) : Int) = 0 from rfl]
      · have h0' : ((ltN (bN b a) : Nat) : Int) = 0 ↔ False := iff_false_intro (by omega)
        rw [if_neg h0]
        have hi := uj6 (H := H) (z := z) (v2 := v2) (v3 := v3) hb hl lt_le 5 1 (Nat.lt_of_le_of_lt (lt_le (c := bN b a)) (by omega)) (by omega)
        have hi : run (u14 (BS z b) v2 v3 (.int .i64 a) (.int .i64 (ltN (bN b a) : Nat)) (.int .i64 1)) H = _ := hi
        have hlt := lt_le (c := bN b a)
        simp +contextual -dsimp (disch := omega) only [↓goDown, goUp, cr, simprocAttr, g', List.length_map, i1, hf, h0', hi]
        cases hg : goR b a (ltN (bN b a)) 5 1 with
        | some x => rfl
        | none => exact ukx hb f (a + ltN (bN b a)) (by omega) (by omega)
    · have g' : ((a : Int) < (b.length : Int)) = False := eq_false (by omega)
      rw [if_neg hl]
      simp +contextual -dsimp (disch := omega) only [↓goDown, goUp, cr, simprocAttr, g', List.length_map, utfR]
theorem uun {b : List UInt8} (hb : b.length < 2 ^ 60) : run (C u30 [BS z b]) H = some (.ok (utfR (utfN b)) H) := by
  have h := ukx (H := H) (z := z) (v2 := .int .i64 0) (v3 := .bool false) hb (b.length + 1) 0 (by omega) (by omega)
  have h : run (u1f (BS z b) (.int .i64 0) (.bool false) (.int .i64 0)) H = _ := h
  rw [un0] at h
  rw [uax]
  simp +contextual -dsimp (disch := omega) only [↓goDown, goUp, cr, simprocAttr, h, utfN, uqm]
end Go.Proofs.YthnmienjiangkaaGreatDoor.Pi.Q
namespace Go.Proofs.YthnmienjiangkaaGreatDoor.Pi.Q
open Go Go.Proofs.YthnmienjiangkaaGreatDoor.Pi
attribute [local congr] ite_congr
variable {H : Heap} {z : Bool}
abbrev SB (u : List UInt8) : PV := .str ⟨⟨u⟩⟩
end Go.Proofs.YthnmienjiangkaaGreatDoor.Pi.Q
namespace Go.Proofs.YthnmienjiangkaaGreatDoor.Pi.Q
open Go Go.Proofs.YthnmienjiangkaaGreatDoor.Pi
attribute [local congr] ite_congr
variable {H : Heap} {z : Bool}
def rName (b : List UInt8) (e p : Nat) : Rs (List UInt8) :=
  match rdU b 32 e p with
  | .err a w => .err a w
  | .ok n q => if 65536 < n then .err p 2 else if e - q < n then .err e 3 else match utfN ((b.take (q + n)).drop q) with | some x => .err (q + x) 21 | none => .ok ((b.take (q + n)).drop q) (q + n)
def flF (a w : Nat) : PV := .iface u43 (.agg [.int .i64 a, .int .i64 w])
def outN (H : Heap) : Rs (List UInt8) → Option (Out PV)
  | .ok u q => some (.ok (.tup [SB u, .int .i64 q]) H)
  | .err a w => some (.pan (flF a w) H)
def tupN : Rs (List UInt8) → PV
  | .ok u q => .tup [SB u, .int .i64 q, .int .i64 0]
  | .err a w => .tup [.str ⟨#[]⟩, .int .i64 a, .int .i64 w]
theorem um3 {n : Nat} {s : ByteArray} : (PV.str s).low n = true := nrfl rfl
theorem utf_le {b : List UInt8} {a : Nat} (h : utfN b = some a) : a ≤ b.length := by
  have : ∀ f p, p ≤ b.length → badAt b f p = some a → a ≤ b.length := by
    intro f
    induction f with
    | zero => intro p _ h; cases h
    | succ f ih =>
      intro p hp h
      rw [badAt] at h
      by_cases hl : p < b.length
      · rw [if_pos hl] at h
        by_cases h0 : letL (b.drop p) = 0
        · rw [if_pos h0] at h
          have hol : ∀ n, opF (bN b p) (bN b (p + 1)) (bN b (p + 2)) n ≤ n := fun n => by
            induction n with
            | zero => exact Nat.le_refl _
            | succ n ih => rw [opF]; split <;> omega
          have := hol (min 4 (b.length - p))
          injection h with h
          omega
        · rw [if_neg h0] at h
          exact ih _ (ugr hl) h
      · rw [if_neg hl] at h; cases h
  exact this _ 0 (Nat.zero_le _) h
theorem us9 {b : List UInt8} {e p : Nat} (he : e ≤ b.length) (hb : b.length < 2 ^ 60) (hp : p ≤ e) :
    run (C u44 [BS z b, .int .i64 p, .int .i64 e]) H = outN H (rName b e p) := by
  have h1 := fun K => ugk (H := K) (z := z) (b := b) (p := p) he (by omega) hp
  rw [ug3]
  unfold rName
  cases hr : rdU b 32 e p with
  | err a w =>
    rw [hr] at h1
    have hw := u7i hr
    have c1 : ((w : Int) = 0) = False := eq_false (by omega)
    simp only [retK] at h1
    simp +contextual -dsimp (disch := omega) only [↓goDown, goUp, cr, simprocAttr, h1, c1, outN, flF]
  | ok n q =>
    rw [hr] at h1
    obtain ⟨hv, hq, hqe⟩ := u7y hr
    simp only [retK] at h1
    dsimp only
    by_cases g1 : 65536 < n
    · have g1' : ((65536 : Int) < (n : Int)) = True := eq_true (by omega)
      rw [if_pos g1]
      simp +contextual -dsimp (disch := omega) only [↓goDown, goUp, cr, simprocAttr, h1, u3p, g1', outN, flF]
    · have g1' : ((65536 : Int) < (n : Int)) = False := eq_false (by omega)
      rw [if_neg g1]
      have e1 : ((e : Int) - (q : Int)) = ((e - q : Nat) : Int) := by omega
      have e2 : IntKind.i64.wrap ((e - q : Nat) : Int) = ((e - q : Nat) : Int) := w_i64 (by omega)
      have e3 : IntKind.u64.wrap ((e - q : Nat) : Int) = ((e - q : Nat) : Int) := w_u64 (by omega)
      have e4 : IntKind.u64.wrap (n : Int) = (n : Int) := w_u64 (by omega)
      by_cases g2 : e - q < n
      · have g2' : (((e - q : Nat) : Int) < (n : Int)) = True := eq_true (by omega)
        rw [if_pos g2]
        simp +contextual -dsimp (disch := omega) only [↓goDown, goUp, cr, simprocAttr, h1, u3p, u4n, g1', e1, e2, e3, e4, g2', outN, flF]
      · have g2' : (((e - q : Nat) : Int) < (n : Int)) = False := eq_false (by omega)
        rw [if_neg g2]
        have e5 : ((q : Int) + (n : Int)) = ((q + n : Nat) : Int) := rfl
        have e6 : IntKind.i64.wrap ((q + n : Nat) : Int) = ((q + n : Nat) : Int) := w_i64 (by omega)
        have e7 : IntKind.i64.wrap (n : Int) = (n : Int) := w_i64 (by omega)
        have hs := fun K => uld (H := K) (z := z) (x := b) (n := q) (m := q + n) (by omega) (by omega)
        have hl : ((b.take (q + n)).drop q).length = n := by rw [List.length_drop, List.length_take]; omega
        have hu := fun K => uvs (H := K) (z := z) (b := (b.take (q + n)).drop q) (by omega)
        have hc := fun K o => cv_BS (H := K) (z := z) (o := o) (u := (b.take (q + n)).drop q)
        cases ht : utfN ((b.take (q + n)).drop q) with
        | none =>
          rw [ht] at hu
          simp only [utfR] at hu
          simp +contextual -dsimp (disch := omega) only [↓goDown, goUp, cr, simprocAttr, h1, u3p, u4n, u61, u5j, g1', e1, e2, e3, e4, g2', e7, e5, e6, hs, hu, un_not, hc, outN, flF]
        | some x =>
          have hx := utf_le ht
          have e8 : ((q : Int) + (x : Int)) = ((q + x : Nat) : Int) := rfl
          have e9 : IntKind.i64.wrap ((q + x : Nat) : Int) = ((q + x : Nat) : Int) := w_i64 (by omega)
          rw [ht] at hu
          simp only [utfR] at hu
          simp +contextual -dsimp (disch := omega) only [↓goDown, goUp, cr, simprocAttr, h1, u3p, u4n, u61, u5j, g1', e1, e2, e3, e4, g2', e7, e5, e6, hs, hu, un_not, e8, e9, outN, flF]
theorem uvq {b : List UInt8} {e p : Nat} (he : e ≤ b.length) (hb : b.length < 2 ^ 60) (hp : p ≤ e) : run (C u5r [BS z b, .int .i64 p, .int .i64 e]) H = some (.ok (retK .u32 (rdU b 32 e p)) H) := by
  have h1 := fun K => ubw (H := K) (b := b) (z := z) (a := p) (e := e) (B := 32) he (by omega) (.inl rfl) hp
  rw [ubs]
  cases hr : rdU b 32 e p with
  | ok v q =>
    have hv := u7y hr
    rw [hr] at h1
    simp only [retU] at h1
    have h1 : ∀ K, run (C u09 [BS z b, .int .i64 p, .int .i64 e, .int .i64 32, .bool false]) K = _ := h1
    have e1 : IntKind.u32.wrap (v : Int) = (v : Int) := w_u32 (by omega)
    simp +contextual -dsimp (disch := omega) only [↓goDown, goUp, cr, simprocAttr, h1, e1, retK]
  | err a w =>
    rw [hr] at h1
    simp only [retU] at h1
    have h1 : ∀ K, run (C u09 [BS z b, .int .i64 p, .int .i64 e, .int .i64 32, .bool false]) K = _ := h1
    simp +contextual -dsimp (disch := omega) only [↓goDown, goUp, cr, simprocAttr, h1, retK]
theorem uqx {b : List UInt8} {e p : Nat} (he : e ≤ b.length) (hb : b.length < 2 ^ 60) (hp : p ≤ e) :
    run (C u51 [BS z b, .int .i64 p, .int .i64 e]) H = some (.ok (tupN (rName b e p)) H) := by
  have h1 := fun K => uvq (H := K) (z := z) (b := b) (p := p) he hb hp
  rw [u9o]
  unfold rName
  cases hr : rdU b 32 e p with
  | err a w =>
    rw [hr] at h1
    have hw := u7i hr
    have c1 : ((w : Int) = 0) = False := eq_false (by omega)
    simp only [retK] at h1
    simp +contextual -dsimp (disch := omega) only [↓goDown, goUp, cr, simprocAttr, h1, c1, tupN]
  | ok n q =>
    rw [hr] at h1
    obtain ⟨hv, hq, hqe⟩ := u7y hr
    simp only [retK] at h1
    dsimp only
    by_cases g1 : 65536 < n
    · have g1' : ((65536 : Int) < (n : Int)) = True := eq_true (by omega)
      rw [if_pos g1]
      simp +contextual -dsimp (disch := omega) only [↓goDown, goUp, cr, simprocAttr, h1, g1', tupN]
    · have g1' : ((65536 : Int) < (n : Int)) = False := eq_false (by omega)
      rw [if_neg g1]
      have e1 : ((e : Int) - (q : Int)) = ((e - q : Nat) : Int) := by omega
      have e2 : IntKind.i64.wrap ((e - q : Nat) : Int) = ((e - q : Nat) : Int) := w_i64 (by omega)
      have e7 : IntKind.i64.wrap (n : Int) = (n : Int) := w_i64 (by omega)
      by_cases g2 : e - q < n
      · have g2' : (((e - q : Nat) : Int) < (n : Int)) = True := eq_true (by omega)
        rw [if_pos g2]
        simp +contextual -dsimp (disch := omega) only [↓goDown, goUp, cr, simprocAttr, h1, g1', e1, e2, e7, g2', tupN]
      · have g2' : (((e - q : Nat) : Int) < (n : Int)) = False := eq_false (by omega)
        rw [if_neg g2]
        have e5 : ((q : Int) + (n : Int)) = ((q + n : Nat) : Int) := rfl
        have e6 : IntKind.i64.wrap ((q + n : Nat) : Int) = ((q + n : Nat) : Int) := w_i64 (by omega)
        have hs := fun K => uld (H := K) (z := z) (x := b) (n := q) (m := q + n) (by omega) (by omega)
        have hl : ((b.take (q + n)).drop q).length = n := by rw [List.length_drop, List.length_take]; omega
        have hu := fun K => uun (H := K) (z := z) (b := (b.take (q + n)).drop q) (by omega)
        have hc := fun K o => cv_BS (H := K) (z := z) (o := o) (u := (b.take (q + n)).drop q)
        cases ht : utfN ((b.take (q + n)).drop q) with
        | none =>
          rw [ht] at hu
          simp only [utfR] at hu
          simp +contextual -dsimp (disch := omega) only [↓goDown, goUp, cr, simprocAttr, h1, g1', e1, e2, e7, g2', e5, e6, hs, hu, un_not, hc, tupN]
        | some x =>
          have hx := utf_le ht
          have e8 : ((q : Int) + (x : Int)) = ((q + x : Nat) : Int) := rfl
          have e9 : IntKind.i64.wrap ((q + x : Nat) : Int) = ((q + x : Nat) : Int) := w_i64 (by omega)
          rw [ht] at hu
          simp only [utfR] at hu
          simp +contextual -dsimp (disch := omega) only [↓goDown, goUp, cr, simprocAttr, h1, g1', e1, e2, e7, g2', e5, e6, hs, hu, un_not, e8, e9, tupN]
end Go.Proofs.YthnmienjiangkaaGreatDoor.Pi.Q
namespace Go.Proofs.YthnmienjiangkaaGreatDoor.Pi.Q
open Go Go.Proofs.YthnmienjiangkaaGreatDoor.Pi
attribute [local congr] ite_congr
variable {H : Heap} {z : Bool}
def nameP (b : List UInt8) (at_ : Int) : PV := if at_ < 0 ∨ (b.length : Int) < at_ then .tup [.str ⟨#[]⟩, .int .i64 0, .int .i64 1] else tupN (rName b b.length at_.toNat)
theorem ubx {b : List UInt8} {e p a w : Nat} (h : rName b e p = .err a w) : w ≠ 0 := by
  unfold rName at h
  cases hr : rdU b 32 e p with
  | err a' w' => rw [hr] at h; injection h with h1 h2; subst h2; exact u7i hr
  | ok n q =>
    rw [hr] at h
    dsimp only at h
    repeat' split at h
    all_goals first | (injection h with h1 h2; omega) | cases h
theorem uw1 {b : List UInt8} (hb : b.length < 2 ^ 60) {at_ : Int} : run (C ua3 [BS z b, .int .i64 at_]) H = some (.ok (nameP b at_) H) := by
  rw [uhu]
  unfold nameP
  by_cases h1 : at_ < 0
  · rw [if_pos (.inl h1)]
    simp +contextual -dsimp (disch := omega) only [↓goDown, goUp, cr, simprocAttr, eq_true h1]
  · by_cases h2 : (b.length : Int) < at_
    · rw [if_pos (.inr h2)]
      simp +contextual -dsimp (disch := omega) only [↓goDown, goUp, cr, simprocAttr, h1, h2, List.length_map]
    · rw [if_neg (by omega)]
      obtain ⟨p, rfl⟩ := Int.eq_ofNat_of_zero_le (show 0 ≤ at_ by omega)
      rw [Int.toNat_natCast]
      have hk := fun K => us9 (H := K) (z := z) (b := b) (e := b.length) (p := p) (Nat.le_refl _) hb (by omega)
      cases hr : rName b b.length p with
      | ok u q =>
        rw [hr] at hk
        simp only [outN, tupN] at hk ⊢
        simp +contextual -dsimp (disch := omega) only [↓goDown, goUp, cr, simprocAttr, h1, h2, List.length_map, u9z, u9c, run_mf, hk, flF, u80, u7z, run_ta, bi_if, bi_ifn, cutL, u9j, Nat.reduceBeqDiff]
      | err a w =>
        have hw := ubx hr
        have c1 : ((w : Int) = 0) = False := eq_false (by omega)
        rw [hr] at hk
        simp only [outN, tupN] at hk ⊢
        simp +contextual -dsimp (disch := omega) only [↓goDown, goUp, cr, simprocAttr, h1, h2, List.length_map, u9z, u9c, run_mf, hk, flF, u80, u7z, run_ta, bi_if, bi_ifn, cutL, u9j, Nat.reduceBeqDiff, c1]
theorem uut {b : List UInt8} (hb : b.length < 2 ^ 60) {at_ : Int} : run (C u5c [BS z b, .int .i64 at_]) H = some (.ok (nameP b at_) H) := by
  rw [uaw]
  unfold nameP
  by_cases h1 : at_ < 0
  · rw [if_pos (.inl h1)]
    simp +contextual -dsimp (disch := omega) only [↓goDown, goUp, cr, simprocAttr, eq_true h1]
  · by_cases h2 : (b.length : Int) < at_
    · rw [if_pos (.inr h2)]
      simp +contextual -dsimp (disch := omega) only [↓goDown, goUp, cr, simprocAttr, h1, h2, List.length_map]
    · rw [if_neg (by omega)]
      obtain ⟨p, rfl⟩ := Int.eq_ofNat_of_zero_le (show 0 ≤ at_ by omega)
      rw [Int.toNat_natCast]
      have hk := fun K => uqx (H := K) (z := z) (b := b) (e := b.length) (p := p) (Nat.le_refl _) hb (by omega)
      cases hr : rName b b.length p with
      | ok u q =>
        rw [hr] at hk
        simp only [tupN] at hk ⊢
        simp +contextual -dsimp (disch := omega) only [↓goDown, goUp, cr, simprocAttr, h1, h2, List.length_map, hk]
      | err a w =>
        rw [hr] at hk
        simp only [tupN] at hk ⊢
        simp +contextual -dsimp (disch := omega) only [↓goDown, goUp, cr, simprocAttr, h1, h2, List.length_map, hk]
end Go.Proofs.YthnmienjiangkaaGreatDoor.Pi.Q
namespace Go.Proofs.YthnmienjiangkaaGreatDoor.Pi.Q
open Go Go.Proofs.YthnmienjiangkaaGreatDoor.Pi
def rBind {α β : Type} (r : Nat → Rs α) (s : α → Nat → Rs β) (p : Nat) : Rs β := match r p with | .ok v q => s v q | .err a w => .err a w
def rPure {α : Type} (v : α) (p : Nat) : Rs α := .ok v p
def Ends {α : Type} (b : List UInt8) (r : Nat → Rs α) : Prop := ∀ p v q, p ≤ b.length → r p = .ok v q → q ≤ b.length
theorem u0a {α : Type} {b : List UInt8} {v : α} : Ends b (rPure v) := fun p u q hp h => by
  simp only [rPure, Rs.ok.injEq] at h
  omega
theorem u0i {α β : Type} {b : List UInt8} {r : Nat → Rs α} {s : α → Nat → Rs β} (hr : Ends b r) (hs : ∀ v, Ends b (s v)) : Ends b (rBind r s) := fun p v q hp h => by
  unfold rBind at h
  cases h1 : r p with
  | ok u q1 => rw [h1] at h; exact hs u q1 v q (hr p u q1 hp h1) h
  | err a w => rw [h1] at h; cases h
theorem u46 {α : Type} {b : List UInt8} {c : Prop} [Decidable c] {r s : Nat → Rs α} (hr : Ends b r) (hs : Ends b s) : Ends b (fun p => if c then r p else s p) := fun p v q hp h => by
  by_cases hc : c
  · simp only [if_pos hc] at h; exact hr p v q hp h
  · simp only [if_neg hc] at h; exact hs p v q hp h
def rU64 (b : List UInt8) (p : Nat) : Rs Nat := rdU b 64 b.length p
theorem uvt {b : List UInt8} {p v q : Nat} (h : rU64 b p = .ok v q) : v < 2 ^ 64 ∧ q ≤ b.length := by
  have := ulx (by decide) 10 0 0 p (by omega) (by decide) v q h
  exact ⟨this.1, this.2.2⟩
def rNum (w : Bool) (b : List UInt8) (p : Nat) : Rs Nat := if w then rU64 b p else rU32 b p
theorem ucb {w : Bool} {b : List UInt8} : Ends b (rNum w b) := fun p v q hp h => by
  cases w with
  | false => exact (u7y h).2.2
  | true => exact (uvt h).2
theorem ue2 {w : Bool} {b : List UInt8} : Errs (rNum w b) := fun p a w' h => by
  cases w with
  | false => exact u7i h
  | true => exact u7i h
def rMaxi (w h : Bool) (b : List UInt8) (mn : Nat) (p : Nat) : Rs LT := if h then (match rNum w b p with | .ok mx q => .ok ⟨w, mn, mx, true⟩ q | .err a e => .err a e) else .ok ⟨w, mn, 0, false⟩ p
def rLim2 (w h : Bool) (b : List UInt8) (p : Nat) : Rs LT := match rNum w b p with | .ok mn q => rMaxi w h b mn q | .err a e => .err a e
def u68 (b : List UInt8) (p : Nat) : Rs LT :=
  match rSmall b 5 p with
  | .ok x q => if 1 < x ∧ x < 4 then .err p 4 else rLim2 (decide (1 < x)) (x % 2 == 1) b q
  | .err a e => .err a e
theorem urs {w h : Bool} {b : List UInt8} {mn : Nat} : Ends b (rMaxi w h b mn) := fun p v q hp hr => by
  unfold rMaxi at hr
  cases h with
  | false => simp only [Bool.false_eq_true, if_false, Rs.ok.injEq] at hr; omega
  | true =>
    simp only [if_true] at hr
    cases h1 : rNum w b p with
    | ok mx q1 => rw [h1] at hr; simp only [Rs.ok.injEq] at hr; have := ucb p mx q1 hp h1; omega
    | err a e => rw [h1] at hr; cases hr
theorem us7 {w h : Bool} {b : List UInt8} : Ends b (rLim2 w h b) := fun p v q hp hr => by
  unfold rLim2 at hr
  cases h1 : rNum w b p with
  | ok mn q1 => rw [h1] at hr; exact urs q1 v q (ucb p mn q1 hp h1) hr
  | err a e => rw [h1] at hr; cases hr
theorem u1a {most : Nat} {b : List UInt8} : Ends b (rSmall b most) := fun p v q hp h => (uch h).1
theorem u1x {b : List UInt8} : Ends b (u68 b) := fun p v q hp h => by
  unfold u68 at h
  cases h1 : rSmall b 5 p with
  | ok x q1 =>
    rw [h1] at h
    dsimp only at h
    split at h
    · cases h
    · exact us7 q1 v q (u1a p x q1 hp h1) h
  | err a e => rw [h1] at h; cases h
def rTable (b : List UInt8) : Nat → Rs TB := rBind (rRef b) fun v => rBind (u68 b) fun l => rPure ⟨v, l⟩
def u9d (b : List UInt8) : Nat → Rs GO := rBind (rVal b) fun v => rBind (rSmall b 1) fun n => rPure ⟨v, n == 1⟩
def rTag (b : List UInt8) : Nat → Rs Int := rBind (rSmall b 0) fun _ => rIndex b
def rNm (b : List UInt8) (p : Nat) : Rs (List UInt8) := rName b b.length p
abbrev zLT : LT := ⟨false, 0, 0, false⟩
abbrev zTB : TB := ⟨⟨0, false, 0⟩, ⟨false, 0, 0, false⟩⟩
abbrev zGO : GO := ⟨⟨0, false, 0⟩, false⟩
def rExtK (b : List UInt8) (k : Int) (p : Nat) : Rs XT :=
  if k = 0 then rBind (rIndex b) (fun n => rPure ⟨k, n, zTB, zLT, zGO⟩) p
  else if k = 1 then rBind (rTable b) (fun v => rPure ⟨k, 0, v, zLT, zGO⟩) p
  else if k = 2 then rBind (u68 b) (fun v => rPure ⟨k, 0, zTB, v, zGO⟩) p
  else if k = 3 then rBind (u9d b) (fun v => rPure ⟨k, 0, zTB, zLT, v⟩) p
  else if k = 4 then rBind (rTag b) (fun n => rPure ⟨k, n, zTB, zLT, zGO⟩) p
  else rPure ⟨k, 0, zTB, zLT, zGO⟩ p
def rExt (b : List UInt8) : Nat → Rs XT := rBind (rSmall b 4) fun k => rExtK b (IntKind.i64.wrap (k : Int))
def u9u (b : List UInt8) : Nat → Rs IM := rBind (rNm b) fun m => rBind (rNm b) fun n => rBind (rExt b) fun x => rPure ⟨⟨m.toArray⟩, ⟨n.toArray⟩, x⟩
def u9s (b : List UInt8) : Nat → Rs EX := rBind (rNm b) fun n => rBind (rSmall b 4) fun k => rBind (rU32 b) fun a => rPure ⟨⟨n.toArray⟩, IntKind.i64.wrap (k : Int), a⟩
theorem usx {b : List UInt8} : Errs (rNm b) := fun p a w h => ubx h
theorem u50 {b : List UInt8} : Ends b (rNm b) := fun p v q hp h => by
  unfold rNm rName at h
  cases hr : rdU b 32 b.length p with
  | err a w => rw [hr] at h; cases h
  | ok n q1 =>
    have := u7y hr
    rw [hr] at h
    dsimp only at h
    split at h
    · cases h
    · split at h
      · cases h
      · split at h
        · cases h
        · simp only [Rs.ok.injEq] at h
          omega
theorem u93 {b : List UInt8} : Ends b (rRef b) := fun p v q hp h => uri h
theorem u90 {b : List UInt8} : Ends b (rVal b) := fun p v q hp h => uw0 h
theorem u38 {b : List UInt8} : Ends b (rIndex b) := fun p v q hp h => us8 h
theorem uni {b : List UInt8} : Errs (rRef b) := fun p a w h => by
  unfold rRef at h
  have hh := ukc (b := b)
  split at h
  · dsimp only at h
    split at h
    · cases h
    · split at h
      · simp only [Rs.err.injEq] at h; omega
      · cases h1 : rHeap b (p + 1) with
        | ok v q => rw [h1] at h; cases h
        | err a' w' => rw [h1] at h; simp only [Rs.err.injEq] at h; rw [← h.2]; exact hh _ _ _ h1
  · simp only [Rs.err.injEq] at h; omega
theorem u4s {b : List UInt8} : Ends b (rTable b) := u0i u93 fun _ => u0i u1x fun _ => u0a
theorem u2z {b : List UInt8} : Ends b (u9d b) := u0i u90 fun _ => u0i u1a fun _ => u0a
theorem u55 {b : List UInt8} : Ends b (rTag b) := u0i u1a fun _ => u38
theorem u9x {b : List UInt8} {k : Int} : Ends b (rExtK b k) :=
  u46 (u0i u38 fun _ => u0a) (u46 (u0i u4s fun _ => u0a) (u46 (u0i u1x fun _ => u0a)
    (u46 (u0i u2z fun _ => u0a) (u46 (u0i u55 fun _ => u0a) u0a))))
theorem uc5 {b : List UInt8} : Ends b (rExt b) := u0i u1a fun _ => u9x
theorem ub8 {b : List UInt8} : Ends b (u9u b) := u0i u50 fun _ => u0i u50 fun _ => u0i uc5 fun _ => u0a
theorem ubi {b : List UInt8} : Ends b (u9s b) := u0i u50 fun _ => u0i u1a fun _ => u0i (fun p v q hp h => (u7y h).2.2) fun _ => u0a
end Go.Proofs.YthnmienjiangkaaGreatDoor.Pi.Q
