/- What the law rests on, part 4 of 5: a reading of the program's code over told data, and what it comes to. -/
import Derived.Test.YthnmienjiangkaaGreatDoorPiB2
set_option linter.unusedVariables false
set_option linter.unusedSimpArgs false
set_option maxRecDepth 100000
namespace Go.Proofs.YthnmienjiangkaaGreatDoor.Pi.Q
open Go Go.Proofs.YthnmienjiangkaaGreatDoor.Pi
theorem utg (a0 : PV) : C udw [a0] =
 trunc (M.bind (bx 3 a0) fun t1_0 =>
 M.bind (ld (some 3) false t1_0) fun t5_1 =>
 M.bind (C u1i [(strip t5_1), (.int .i64 32)]) fun t6_2 =>
 M.bind (ex 0 t6_2) fun t7_3 =>
 M.bind (ex 1 (tupDrop 0 t6_2)) fun t8_4 =>
 M.bind (ex 2 (tupDrop 1 (tupDrop 0 t6_2))) fun t9_5 =>
 resT t7_3 (resT t8_4 (resT t9_5 (M.pure (.tup [t7_3, t8_4, t9_5]))))) := by
 rw [C, u00 _ _ rfl]; kernel_rfl
theorem uec : C u4x [] =
 trunc (M.bind (al [(.int .i64 0), (.int .i64 0), (.int .i64 0), (.int .i64 0), (.int .i64 0), (.int .i64 0), (.int .i64 0), (.int .i64 0), (.int .i64 0), (.int .i64 0), (.int .i64 0), (.int .i64 0)]) fun t0_0 =>
 M.bind (bd [(.int .i64 0), (.int .i64 0), (.int .i64 0), (.int .i64 0), (.int .i64 0), (.int .i64 0), (.int .i64 0), (.int .i64 0), (.int .i64 0), (.int .i64 0), (.int .i64 0), (.int .i64 0)] [(0, 1, (.int .i64 (-11))), (1, 1, (.int .i64 (-9))), (2, 1, (.int .i64 (-8))), (3, 1, (.int .i64 (-7))), (4, 1, (.int .i64 (-6))), (5, 1, (.int .i64 (-5))), (6, 1, (.int .i64 (-3))), (7, 1, (.int .i64 (-1))), (8, 1, (.int .i64 (-10))), (9, 1, (.int .i64 (-4))), (10, 1, (.int .i64 (-2))), (11, 1, (.int .i64 (-12)))]) fun t1_1 =>
 M.bind (st 12 true t0_0 t1_1) fun _ =>
 M.bind (ld (some 12) true t0_0) fun t0_3 => guardM (!isTup t0_3) (M.pure t0_3)) := by
 rw [C, u00 _ _ rfl]; kernel_rfl
noncomputable def u2s (v2 v4 : PV) : M PV := atP P X u56 [1, 1, 1, 1, 1] (mkEnv 47 0 [(2, v2), (4, v4)])
theorem u8e (v2 v4 : PV) : u2s v2 v4 =
 resT v4 (M.pure v4) :=
 (u05 P X _ _ _).trans (by kernel_rfl)
theorem ud2 (a0 : PV) : C u56 [a0] =
 trunc (M.bind (nc P (strip a0)) fun t8_0 =>
 M.bind (fa 1 t8_0) fun t9_1 =>
 M.bind (ld none true t9_1) fun t10_2 =>
 M.bind (noPan (M.pure (strip a0))) fun t12_24 =>
 M.bind (noPan (nc P t12_24)) fun t13_25 =>
 M.bind (noPan (fa 0 t13_25)) fun t14_26 =>
 M.bind (noPan (M.pure (strip a0))) fun t16_27 =>
 M.bind (noPan (nc P t16_27)) fun t17_28 =>
 M.bind (noPan (fa 1 t17_28)) fun t18_29 =>
 M.bind (noPan (M.pure (strip a0))) fun t20_30 =>
 M.bind (noPan (nc P t20_30)) fun t21_31 =>
 M.bind (noPan (fa 0 t21_31)) fun t22_32 =>
 M.bind (noPan (ld none false t14_26)) fun t15_33 =>
 M.bind (noPan (ld none false t18_29)) fun t19_34 =>
 M.bind (noPan (ld none false t22_32)) fun t23_35 =>
 M.bind (noPan (lnL t23_35)) fun t24_36 =>
 M.bind (noPan (C ugd [(strip t15_33), (strip t19_34), (strip t24_36)])) fun t25_37 =>
 M.bind (noPan (M.pure t25_37)) fun t11_38 =>
 M.bind (noPan (ex 0 t11_38)) fun t26_39 =>
 M.bind (noPan (ex 1 (tupDrop 0 t11_38))) fun t27_40 =>
 M.bind (noPan (ex 2 (tupDrop 1 (tupDrop 0 t11_38)))) fun t28_41 =>
 M.bind (noPan (M.pure t26_39)) fun t4_42 =>
 M.bind (noPan (M.pure t27_40)) fun t5_43 =>
 M.bind (noPan (M.pure t28_41)) fun t6_44 =>
 M.bind (C u4c [(strip (strip a0)), (strip (strip t4_42)), (strip (strip t5_43)), (strip (strip t6_44))]) fun t33_45 =>
 M.bind (bi .lss .none (strip t33_45) (.int .i64 0)) fun t36_46 =>
 condM t36_46
 (M.bind (C u04 [(strip (strip a0)), (strip (strip t10_2)), (.int .i64 4)]) fun t39_47 =>
 u2s (.int .i64 0) t33_45)
 (M.bind (bi .gtr .none (strip t33_45) (.int .i64 2147483647)) fun t42_48 =>
 condM t42_48
 (M.bind (C u04 [(strip (strip a0)), (strip (strip t10_2)), (.int .i64 2)]) fun t45_49 =>
 u2s (.int .i64 0) t33_45)
 (u2s (.int .i64 0) t33_45))) := by
 rw [C, u00 _ _ rfl]; kernel_rfl
theorem ub9 (a0 : PV) : C uc8 [a0] =
 trunc (M.bind (al [(.int .i64 0), (.int .i64 0)]) fun t2_0 =>
 M.bind (mf u7n [] [t2_0]) fun t3_1 =>
 guardM (isPtr t2_0) <| deferM CD t3_1 []
 (M.bind (callV P C (strip a0) []) fun t5_2 =>
 M.bind (bd [(.int .i64 0), (.int .i64 0)] []) fun t6_3 =>
 M.bind (st 2 true t2_0 t6_3) fun _ =>
 M.bind (ld (some 2) true t2_0) fun t0_5 => guardM (!isTup t0_5) (M.pure t0_5))
 (M.bind (ld (some 2) true t2_0) fun t0_6 => guardM (!isTup t0_6) (M.pure t0_6))) := by
 rw [C, u00 _ _ rfl]; kernel_rfl
theorem uao (a0 a1 a2 a3 : PV) : C uc9 [a0, a1, a2, a3] =
 trunc (M.bind (ld none false a0) fun t5_0 =>
 M.bind (ld none false a1) fun t6_1 =>
 M.bind (ld none false a0) fun t7_2 =>
 M.bind (lnL t7_2) fun t8_3 =>
 M.bind (C u4j [(strip t5_0), (strip t6_1), (strip t8_3)]) fun t9_4 =>
 M.bind (ex 0 t9_4) fun t10_5 =>
 M.bind (ex 1 (tupDrop 0 t9_4)) fun t11_6 =>
 M.bind (st 1 true a2 t10_5) fun _ =>
 M.bind (st 1 true a3 t11_6) fun _ =>
 M.pure (.tup [])) := by
 rw [C, u00 _ _ rfl]; kernel_rfl
noncomputable def u76 (v0 v1 v2 v6 v7 v8 v9 : PV) : M PV := atP P X u4j [1, 1, 1] (mkEnv 68 0 [(0, v0), (1, v1), (2, v2), (6, v6), (7, v7), (8, v8), (9, v9)])
noncomputable def u6l (v0 v2 v6 v7 v8 v9 : PV) : M PV := atP P X u4j [1, 1, 1, 1] (mkEnv 68 0 [(0, v0), (2, v2), (6, v6), (7, v7), (8, v8), (9, v9)])
noncomputable def u68 (v0 v6 v7 v8 v9 : PV) : M PV := atP P X u4j [1, 1, 1, 1, 1] (mkEnv 68 0 [(0, v0), (6, v6), (7, v7), (8, v8), (9, v9)])
noncomputable def u5f (v6 v7 v8 v9 v11 : PV) : M PV := atP P X u4j [1, 1, 1, 1, 1, 1, 1] (mkEnv 68 0 [(6, v6), (7, v7), (8, v8), (9, v9), (11, v11)])
theorem u45 (v0 v1 v2 v6 v7 v8 v9 : PV) : u76 v0 v1 v2 v6 v7 v8 v9 =
 M.bind (bi .gtr .none (strip v8) (.int .u32 65536)) fun t29_0 =>
 condM t29_0
 (M.bind (bd [(.int .i64 0), (.int .i64 0)] [(0, 1, (strip v1)), (1, 1, (.int .i64 2))]) fun t31_1 =>
 M.bind (mi u4o t31_1) fun t32_2 =>
 M.bind (pn t32_2) fun _ =>
 u6l v0 v2 v6 v7 v8 v9)
 (u6l v0 v2 v6 v7 v8 v9) :=
 (u05 P X _ _ _).trans (by kernel_rfl)
theorem u5c (v0 v2 v6 v7 v8 v9 : PV) : u6l v0 v2 v6 v7 v8 v9 =
 M.bind (bi .sub .none (strip v2) (strip v9)) fun t35_0 =>
 M.bind (cv (.int .u64) true t35_0) fun t36_1 =>
 M.bind (cv (.int .u64) true (strip v8)) fun t38_2 =>
 M.bind (bi .lss .none t36_1 t38_2) fun t39_3 =>
 condM t39_3
 (M.bind (bd [(.int .i64 0), (.int .i64 0)] [(0, 1, (strip v2)), (1, 1, (.int .i64 3))]) fun t41_4 =>
 M.bind (mi u4o t41_4) fun t42_5 =>
 M.bind (pn t42_5) fun _ =>
 u68 v0 v6 v7 v8 v9)
 (u68 v0 v6 v7 v8 v9) :=
 (u05 P X _ _ _).trans (by kernel_rfl)
theorem u74 (v0 v6 v7 v8 v9 : PV) : u68 v0 v6 v7 v8 v9 =
 M.bind (cv (.int .i64) true (strip v8)) fun t47_0 =>
 M.bind (bi .add .none (strip v9) t47_0) fun t48_1 =>
 M.bind (slL 1 (strip v0) (some (strip v9)) (some t48_1)) fun t49_2 =>
 M.bind (C u90 [(strip (strip t49_2))]) fun t52_3 =>
 M.bind (ex 0 t52_3) fun t53_4 =>
 M.bind (ex 1 (tupDrop 0 t52_3)) fun t54_5 =>
 M.bind (un .not (strip t54_5)) fun t56_6 =>
 condM t56_6
 (M.bind (bi .add .none (strip v9) (strip t53_4)) fun t59_7 =>
 M.bind (bd [(.int .i64 0), (.int .i64 0)] [(0, 1, t59_7), (1, 1, (.int .i64 21))]) fun t60_8 =>
 M.bind (mi u4o t60_8) fun t61_9 =>
 M.bind (pn t61_9) fun _ =>
 u5f v6 v7 v8 v9 t49_2)
 (u5f v6 v7 v8 v9 t49_2) :=
 (u05 P X _ _ _).trans (by kernel_rfl)
theorem u6h (v6 v7 v8 v9 v11 : PV) : u5f v6 v7 v8 v9 v11 =
 M.bind (cv .bytesToStr true (strip v11)) fun t63_0 =>
 M.bind (cv (.int .i64) true (strip v8)) fun t66_1 =>
 M.bind (bi .add .none (strip v9) t66_1) fun t67_2 =>
 resT t63_0 (resT t67_2 (M.pure (.tup [t63_0, t67_2]))) :=
 (u05 P X _ _ _).trans (by kernel_rfl)
theorem uid (a0 a1 a2 : PV) : C u4j [a0, a1, a2] =
 trunc (M.bind (C udb [(strip (strip a0)), (strip (strip a1)), (strip (strip a2))]) fun t18_0 =>
 M.bind (ex 0 t18_0) fun t19_1 =>
 M.bind (ex 1 (tupDrop 0 t18_0)) fun t20_2 =>
 M.bind (ex 2 (tupDrop 1 (tupDrop 0 t18_0))) fun t21_3 =>
 M.bind (bi .neq .none (strip t21_3) (.int .i64 0)) fun t23_4 =>
 condM t23_4
 (M.bind (bd [(.int .i64 0), (.int .i64 0)] [(0, 1, (strip t20_2)), (1, 1, (strip t21_3))]) fun t26_5 =>
 M.bind (mi u4o t26_5) fun t27_6 =>
 M.bind (pn t27_6) fun _ =>
 u76 a0 a1 a2 (.str ⟨#[]⟩) (.int .i64 0) t19_1 t20_2)
 (u76 a0 a1 a2 (.str ⟨#[]⟩) (.int .i64 0) t19_1 t20_2)) := by
 rw [C, u00 _ _ rfl]; kernel_rfl
noncomputable def u5g (v0 v2 v3 : PV) : M PV := atP P X u7c [1, 1, 0, 0] (mkEnv 24 0 [(0, v0), (2, v2), (3, v3)])
theorem u8r (v0 v2 v3 : PV) : u5g v0 v2 v3 =
 M.bind (bi .lss .none (strip v0) (.int .i64 (-64))) fun t5_0 =>
 M.bind (gd (strip t5_0) false (M.pure (strip v0))) fun t7_1 =>
 M.bind (gd (strip t5_0) false (bi .gtr .none t7_1 (.int .i64 63))) fun t8_2 =>
 M.bind (pick (strip t5_0) (.bool true) t8_2) fun t9_3 =>
 condM t9_3
 (M.bind (cv (.int .u8) true (strip v0)) fun t14_4 =>
 M.bind (bi .or .none t14_4 (.int .u8 128)) fun t15_5 =>
 M.bind (bs true none [t15_5]) fun t16_6 =>
 M.bind (ap true 1 1 v3 t16_6) fun t17_7 =>
 M.bind (bi .shr .none (strip v0) (.int .u64 7)) fun t11_8 =>
 u5g t11_8 v2 t17_7)
 (M.bind (cv (.int .u8) true (strip v0)) fun t20_9 =>
 M.bind (bi .and .none t20_9 (.int .u8 127)) fun t21_10 =>
 M.bind (bs true none [t21_10]) fun t22_11 =>
 M.bind (ap true 1 1 v3 t22_11) fun t23_12 =>
 resT t23_12 (M.pure t23_12)) :=
 (u05 P X _ _ _).trans (by kernel_rfl)
theorem up9 (a0 : PV) : C u7c [a0] =
 trunc (u5g a0 (.slice false true 0 []) (.slice false true 0 [])) := by
 rw [C, u00 _ _ rfl]; kernel_rfl
noncomputable def u3h (v0 v1 v3 : PV) : M PV := atP P X u21 [1] (mkEnv 31 0 [(0, v0), (1, v1), (3, v3)])
noncomputable def u1a (v3 v21 v22 v23 : PV) : M PV := atP P X u21 [1, 1, 1, 0] (mkEnv 31 0 [(3, v3), (21, v21), (22, v22), (23, v23)])
theorem u7l (v0 v1 v3 : PV) : u3h v0 v1 v3 =
 M.bind (lnL (strip v1)) fun t18_0 =>
 M.bind (cv (.int .u64) true t18_0) fun t19_1 =>
 M.bind (C u36 [(strip (strip v0)), (strip t19_1)]) fun t20_2 =>
 M.bind (lnL (strip v1)) fun t22_3 =>
 u1a v3 (strip v1) t22_3 (.int .i64 0) :=
 (u05 P X _ _ _).trans (by kernel_rfl)
theorem u1h (v3 v21 v22 v23 : PV) : u1a v3 v21 v22 v23 =
 M.bind (bi .lss .none v23 v22) fun t24_0 =>
 condM t24_0
 (M.bind (iaS 3 v21 v23) fun t25_1 =>
 M.bind (ld (some 3) true t25_1) fun t26_2 =>
 M.bind (al [(.int .i64 0), (.bool false), (.int .i64 0)]) fun t9_3 =>
 M.bind (st 3 true t9_3 t26_2) fun _ =>
 M.bind (ld (some 3) false t9_3) fun t28_5 =>
 M.bind (callV P C (strip v3) [(strip t28_5)]) fun t29_6 =>
 M.bind (bi .add .none v23 (.int .i64 1)) fun t30_7 =>
 u1a v3 v21 v22 (strip t30_7))
 (M.pure (.tup [])) :=
 (u05 P X _ _ _).trans (by kernel_rfl)
theorem u94 (a0 a1 a2 a3 : PV) : C u21 [a0, a1, a2, a3] =
 trunc (M.bind (lnL (strip a1)) fun t11_0 =>
 M.bind (bi .gtr .none t11_0 (strip a2)) fun t13_1 =>
 condM t13_1
 (M.bind (bd [(.int .i64 0), (.int .i64 0)] [(0, 1, (.int .i64 0)), (1, 1, (.int .i64 2))]) fun t14_2 =>
 M.bind (mi u02 t14_2) fun t15_3 =>
 M.bind (pn t15_3) fun _ =>
 u3h a0 a1 a3)
 (u3h a0 a1 a3)) := by
 rw [C, u00 _ _ rfl]; kernel_rfl
theorem uc0 (a0 : PV) : C u4l [a0] =
 trunc (M.bind (mf u0x [(strip a0)] []) fun t5_0 =>
 M.bind (C u1d [(strip (strip a0)), (.int .u32 1000), (strip t5_0)]) fun t6_1 =>
 resT t6_1 (M.pure t6_1)) := by
 rw [C, u00 _ _ rfl]; kernel_rfl
noncomputable def u3b (v2 v6 v8 : PV) : M PV := atP P X u1u [1, 1, 1, 1] (mkEnv 32 0 [(2, v2), (6, v6), (8, v8)])
noncomputable def u13 (v2 v6 v9 v22 v23 : PV) : M PV := atP P X u1u [1, 1, 1, 1, 1, 0, 1, 0] (mkEnv 32 0 [(2, v2), (6, v6), (9, v9), (22, v22), (23, v23)])
theorem u7h (v2 v6 v8 : PV) : u3b v2 v6 v8 =
 u13 v2 v6 (.slice false true 0 []) (strip v8) (.int .u32 0) :=
 (u05 P X _ _ _).trans (by kernel_rfl)
theorem u3e (v2 v6 v9 v22 v23 : PV) : u13 v2 v6 v9 v22 v23 =
 M.bind (bi .lss .none v23 v22) fun t24_0 =>
 condM t24_0
 (M.bind (callV P C (strip v2) []) fun t27_1 =>
 M.bind (bs true (some 4) [t27_1]) fun t28_2 =>
 M.bind (ap true 4 32 v9 t28_2) fun t29_3 =>
 M.bind (bi .add .none v23 (.int .u32 1)) fun t30_4 =>
 u13 v2 v6 t29_3 v22 (strip t30_4))
 (resT v9 (M.pure v9)) :=
 (u05 P X _ _ _).trans (by kernel_rfl)
theorem u9v (a0 a1 a2 : PV) : C u1u [a0, a1, a2] =
 trunc (M.bind (nc P (strip a0)) fun t11_0 =>
 M.bind (fa 1 t11_0) fun t12_1 =>
 M.bind (ld none true t12_1) fun t13_2 =>
 M.bind (C u1r [(strip (strip a0))]) fun t15_3 =>
 M.bind (bi .gtr .none (strip t15_3) (strip a1)) fun t18_4 =>
 condM t18_4
 (M.bind (C u04 [(strip (strip a0)), (strip (strip t13_2)), (.int .i64 2)]) fun t21_5 =>
 u3b a2 (.slice false true 0 []) t15_3)
 (u3b a2 (.slice false true 0 []) t15_3)) := by
 rw [C, u00 _ _ rfl]; kernel_rfl
noncomputable def u24 (v0 v2 v3 : PV) : M PV := atP P X u1o [1, 1, 1] (mkEnv 36 0 [(0, v0), (2, v2), (3, v3)])
theorem u88 (v0 v2 v3 : PV) : u24 v0 v2 v3 =
 M.bind (C u0c [(strip (strip v0)), (.int .u8 1)]) fun t32_0 =>
 M.bind (bi .eql .none t32_0 (.int .u8 1)) fun t33_1 =>
 M.bind (fa 3 v3) fun t34_2 =>
 M.bind (st 1 true t34_2 t33_1) fun _ =>
 M.bind (ld (some 4) true v3) fun t35_4 =>
 M.bind (st 4 true v2 t35_4) fun _ =>
 M.bind (ld (some 4) true v2) fun t0_6 => guardM (!isTup t0_6) (M.pure t0_6) :=
 (u05 P X _ _ _).trans (by kernel_rfl)
theorem uay (a0 : PV) : C u1o [a0] =
 trunc (M.bind (al [(.int .i64 0), (.bool false), (.int .i64 0), (.bool false)]) fun t2_0 =>
 M.bind (al [(.int .i64 0), (.bool false), (.int .i64 0), (.bool false)]) fun t3_1 =>
 M.bind (C u0h [(strip (strip a0))]) fun t5_2 =>
 M.bind (bi .eql .none t5_2 (.int .u8 120)) fun t10_3 =>
 condM t10_3
 (M.bind (fa 0 t3_1) fun t11_4 =>
 M.bind (fa 0 t11_4) fun t12_5 =>
 M.bind (st 1 false t12_5 (.int .i64 6)) fun _ =>
 M.bind (nc P (strip a0)) fun t14_7 =>
 M.bind (fa 1 t14_7) fun t15_8 =>
 M.bind (ld none false t15_8) fun t16_9 =>
 M.bind (bi .add .none t16_9 (.int .i64 1)) fun t17_10 =>
 M.bind (nc P (strip a0)) fun t18_11 =>
 M.bind (fa 1 t18_11) fun t19_12 =>
 M.bind (st 1 true t19_12 t17_10) fun _ =>
 u24 a0 t2_0 t3_1)
 (M.bind (bi .eql .none t5_2 (.int .u8 119)) fun t21_14 =>
 condM t21_14
 (M.bind (fa 0 t3_1) fun t22_15 =>
 M.bind (fa 0 t22_15) fun t23_16 =>
 M.bind (st 1 false t23_16 (.int .i64 7)) fun _ =>
 M.bind (nc P (strip a0)) fun t25_18 =>
 M.bind (fa 1 t25_18) fun t26_19 =>
 M.bind (ld none false t26_19) fun t27_20 =>
 M.bind (bi .add .none t27_20 (.int .i64 1)) fun t28_21 =>
 M.bind (nc P (strip a0)) fun t29_22 =>
 M.bind (fa 1 t29_22) fun t30_23 =>
 M.bind (st 1 true t30_23 t28_21) fun _ =>
 u24 a0 t2_0 t3_1)
 (M.bind (C u0x [(strip (strip a0))]) fun t7_25 =>
 M.bind (fa 0 t3_1) fun t8_26 =>
 M.bind (st 3 true t8_26 t7_25) fun _ =>
 u24 a0 t2_0 t3_1))) := by
 rw [C, u00 _ _ rfl]; kernel_rfl
theorem u8a (a0 : PV) : C u0g [a0] =
 trunc (nb (ixS (strip a0) (.int .i64 0)) fun t22_0 =>
 nb (cv (.int .u64) true t22_0) fun t23_1 =>
 nb (ixS (strip a0) (.int .i64 1)) fun t25_2 =>
 nb (cv (.int .u64) true t25_2) fun t26_3 =>
 nb (bi .shl .none t26_3 (.int .u64 8)) fun t27_4 =>
 nb (bi .or .none t23_1 t27_4) fun t28_5 =>
 nb (ixS (strip a0) (.int .i64 2)) fun t30_6 =>
 nb (cv (.int .u64) true t30_6) fun t31_7 =>
 nb (bi .shl .none t31_7 (.int .u64 16)) fun t32_8 =>
 nb (bi .or .none t28_5 t32_8) fun t33_9 =>
 nb (ixS (strip a0) (.int .i64 3)) fun t35_10 =>
 nb (cv (.int .u64) true t35_10) fun t36_11 =>
 nb (bi .shl .none t36_11 (.int .u64 24)) fun t37_12 =>
 nb (bi .or .none t33_9 t37_12) fun t38_13 =>
 nb (ixS (strip a0) (.int .i64 4)) fun t40_14 =>
 nb (cv (.int .u64) true t40_14) fun t41_15 =>
 nb (bi .shl .none t41_15 (.int .u64 32)) fun t42_16 =>
 nb (bi .or .none t38_13 t42_16) fun t43_17 =>
 nb (ixS (strip a0) (.int .i64 5)) fun t45_18 =>
 nb (cv (.int .u64) true t45_18) fun t46_19 =>
 nb (bi .shl .none t46_19 (.int .u64 40)) fun t47_20 =>
 nb (bi .or .none t43_17 t47_20) fun t48_21 =>
 nb (ixS (strip a0) (.int .i64 6)) fun t50_22 =>
 nb (cv (.int .u64) true t50_22) fun t51_23 =>
 nb (bi .shl .none t51_23 (.int .u64 48)) fun t52_24 =>
 nb (bi .or .none t48_21 t52_24) fun t53_25 =>
 nb (ixS (strip a0) (.int .i64 7)) fun t55_26 =>
 nb (cv (.int .u64) true t55_26) fun t56_27 =>
 nb (bi .shl .none t56_27 (.int .u64 56)) fun t57_28 =>
 nb (bi .or .none t53_25 t57_28) fun t58_29 =>
 resT t58_29 (M.pure t58_29)) := by
 rw [C, u00 _ _ rfl]; kernel_rfl
theorem uk1 (a0 a1 a2 : PV) : C u6c [a0, a1, a2] =
 trunc (M.bind (al [(.slice false true 0 []), (.int .i64 0), (.int .i64 0)]) fun t6_0 =>
 M.bind (bi .lss .none (strip a1) (.int .i64 0)) fun t9_1 =>
 M.bind (gd (strip t9_1) false (M.pure (strip a2))) fun t11_2 =>
 M.bind (gd (strip t9_1) false (M.pure (strip a0))) fun t12_3 =>
 M.bind (gd (strip t9_1) false (lnL t12_3)) fun t13_4 =>
 M.bind (gd (strip t9_1) false (bi .gtr .none t11_2 t13_4)) fun t14_5 =>
 M.bind (pick (strip t9_1) (.bool true) t14_5) fun t15_6 =>
 M.bind (gd (strip t15_6) false (M.pure (strip a1))) fun t17_7 =>
 M.bind (gd (strip t15_6) false (M.pure (strip a2))) fun t18_8 =>
 M.bind (gd (strip t15_6) false (bi .gtr .none t17_7 t18_8)) fun t19_9 =>
 M.bind (pick (strip t15_6) (.bool true) t19_9) fun t20_10 =>
 condM t20_10
 (M.bind (bd [(.slice false true 0 []), (.int .i64 0), (.int .i64 0)] []) fun t21_11 =>
 M.bind (st 3 true t6_0 t21_11) fun _ =>
 M.bind (ld (some 3) true t6_0) fun t0_13 => guardM (!isTup t0_13) (M.pure (.tup [t0_13, (.int .i64 1)])))
 (M.bind (bd [(.slice false true 0 []), (.int .i64 0), (.int .i64 0)] [(0, 1, (strip a0)), (1, 1, (strip a1)), (2, 1, (strip a2))]) fun t25_14 =>
 M.bind (st 3 true t6_0 t25_14) fun _ =>
 M.bind (ld (some 3) true t6_0) fun t0_16 => guardM (!isTup t0_16) (M.pure (.tup [t0_16, (.int .i64 0)])))) := by
 rw [C, u00 _ _ rfl]; kernel_rfl
noncomputable def u0q (v1 v2 v4 v5 v6 v7 v8 v9 : PV) : M PV := atP P X u1i [1, 1, 1, 0] (mkEnv 53 0 [(1, v1), (2, v2), (4, v4), (5, v5), (6, v6), (7, v7), (8, v8), (9, v9)])
theorem u7s (v1 v2 v4 v5 v6 v7 v8 v9 : PV) : u0q v1 v2 v4 v5 v6 v7 v8 v9 =
 M.bind (fa 2 v2) fun t17_0 =>
 M.bind (ld none false t17_0) fun t18_1 =>
 M.bind (bi .geq .none (strip v9) t18_1) fun t19_2 =>
 condM t19_2
 (nb (fa 2 v2) fun t20_3 =>
 nb (ld none true t20_3) fun t21_4 =>
 resT t21_4 (M.pure (.tup [(.int .u64 0), t21_4, (.int .i64 3)])))
 (M.bind (fa 0 v2) fun t22_5 =>
 M.bind (ld none false t22_5) fun t23_6 =>
 M.bind (iaS 1 t23_6 (strip v9)) fun t25_7 =>
 M.bind (ld none true t25_7) fun t26_8 =>
 M.bind (bi .sub .none (strip v1) (strip v8)) fun t29_9 =>
 M.bind (bi .lss .none (strip t29_9) (.int .i64 7)) fun t31_10 =>
 M.bind (gd (strip t31_10) true (M.pure (strip t26_8))) fun t33_11 =>
 M.bind (gd (strip t31_10) true (M.pure (strip t29_9))) fun t34_12 =>
 M.bind (gd (strip t31_10) true (bi .shr .none t33_11 t34_12)) fun t35_13 =>
 M.bind (gd (strip t31_10) true (bi .neq .none t35_13 (.int .u8 0))) fun t36_14 =>
 M.bind (pick (strip t31_10) t36_14 (.bool false)) fun t37_15 =>
 condM t37_15
 (resT v9 (M.pure (.tup [(.int .u64 0), v9, (.int .i64 4)])))
 (M.bind (bi .and .none (strip t26_8) (.int .u8 127)) fun t41_16 =>
 M.bind (cv (.int .u64) true t41_16) fun t42_17 =>
 M.bind (bi .shl .none t42_17 (strip v8)) fun t44_18 =>
 M.bind (bi .or .none (strip v7) t44_18) fun t45_19 =>
 M.bind (bi .lss .none (strip t26_8) (.int .u8 128)) fun t47_20 =>
 condM t47_20
 (M.bind (bi .add .none (strip v9) (.int .i64 1)) fun t50_21 =>
 resT t45_19 (resT t50_21 (M.pure (.tup [t45_19, t50_21, (.int .i64 0)]))))
 (M.bind (bi .add .none (strip v8) (.int .i64 7)) fun t52_22 =>
 M.bind (bi .add .none (strip v9) (.int .i64 1)) fun t15_23 =>
 u0q v1 v2 v4 v5 v6 t45_19 t52_22 t15_23))) :=
 (u05 P X _ _ _).trans (by kernel_rfl)
theorem uae (a0 a1 : PV) : C u1i [a0, a1] =
 trunc (M.bind (bx 3 a0) fun t2_0 =>
 M.bind (fa 1 t2_0) fun t12_1 =>
 M.bind (ld none true t12_1) fun t13_2 =>
 u0q a1 t2_0 (.int .u64 0) (.int .i64 0) (.int .i64 0) (.int .u64 0) (.int .i64 0) t13_2) := by
 rw [C, u00 _ _ rfl]; kernel_rfl
theorem usw (a0 a1 a2 : PV) : C ugd [a0, a1, a2] =
 trunc (M.bind (C u4a [(strip (strip a0)), (strip (strip a1)), (strip (strip a2)), (.fn udg [] [])]) fun t12_0 =>
 M.bind (ex 0 t12_0) fun t13_1 =>
 M.bind (ex 1 (tupDrop 0 t12_0)) fun t14_2 =>
 M.bind (ex 2 (tupDrop 1 (tupDrop 0 t12_0))) fun t15_3 =>
 resT t13_1 (resT t14_2 (resT t15_3 (M.pure (.tup [t13_1, t14_2, t15_3]))))) := by
 rw [C, u00 _ _ rfl]; kernel_rfl
noncomputable def u5w (v0 v1 v2 v8 : PV) : M PV := atP P X u4c [1, 1] (mkEnv 20 0 [(0, v0), (1, v1), (2, v2), (8, v8)])
theorem ua9 (v0 v1 v2 v8 : PV) : u5w v0 v1 v2 v8 =
 M.bind (nc P (strip v0)) fun t17_0 =>
 M.bind (fa 1 t17_0) fun t18_1 =>
 M.bind (st 1 true t18_1 v2) fun _ =>
 resT v1 (M.pure v1) :=
 (u05 P X _ _ _).trans (by kernel_rfl)
theorem u8x (a0 a1 a2 a3 : PV) : C u4c [a0, a1, a2, a3] =
 trunc (M.bind (bi .neq .none (strip a3) (.int .i64 0)) fun t10_0 =>
 condM t10_0
 (M.bind (C u04 [(strip (strip a0)), (strip (strip a2)), (strip (strip a3))]) fun t14_1 =>
 u5w a0 a1 a2 (.int .i64 0))
 (u5w a0 a1 a2 (.int .i64 0))) := by
 rw [C, u00 _ _ rfl]; kernel_rfl
theorem u8z (a0 : PV) : CD none u7n [a0] =
 noPan (trunc (M.bind (M.pure .niliface) fun t2_0 =>
 M.bind (bi .neq .iface (strip t2_0) .niliface) fun t4_1 =>
 condM t4_1
 (M.bind (ta u4o (.agg [(.int .i64 0), (.int .i64 0)]) false (strip t2_0)) fun t6_2 =>
 M.bind (st 2 true a0 t6_2) fun _ =>
 M.pure (.tup []))
 (M.pure (.tup [])))) := by
 rw [CD, u7g]; kernel_rfl
theorem u8u (r : PV) (a0 : PV) : CD (some r) u7n [a0] =
 noPan (trunc (M.bind (M.pure r) fun t2_0 =>
 M.bind (bi .neq .iface (strip t2_0) .niliface) fun t4_1 =>
 condM t4_1
 (M.bind (ta u4o (.agg [(.int .i64 0), (.int .i64 0)]) false (strip t2_0)) fun t6_2 =>
 M.bind (st 2 true a0 t6_2) fun _ =>
 M.pure (.tup []))
 (M.pure (.tup [])))) := by
 rw [CD, u7g]; kernel_rfl
noncomputable def u5n (v0 v2 v3 v9 : PV) : M PV := atP P X u90 [1, 0, 1, 0] (mkEnv 37 0 [(0, v0), (2, v2), (3, v3), (9, v9)])
theorem u5u (v0 v2 v3 v9 : PV) : u5n v0 v2 v3 v9 =
 M.bind (nx v9) fun t10_0 =>
 M.bind (ex 0 t10_0) fun t11_1 =>
 condM t11_1
 (M.bind (ex 1 (tupDrop 0 t10_0)) fun t12_2 =>
 M.bind (slL 1 (strip v0) (some (strip t12_2)) none) fun t16_3 =>
 M.bind (C u1w [(strip t16_3)]) fun t17_4 =>
 M.bind (ex 0 t17_4) fun t18_5 =>
 M.bind (ex 1 (tupDrop 0 t17_4)) fun t19_6 =>
 M.bind (bi .eql .none (strip t18_5) (.int .i32 65533)) fun t21_7 =>
 M.bind (gd (strip t21_7) true (M.pure (strip t19_6))) fun t23_8 =>
 M.bind (gd (strip t21_7) true (bi .leq .none t23_8 (.int .i64 1))) fun t24_9 =>
 M.bind (pick (strip t21_7) t24_9 (.bool false)) fun t25_10 =>
 condM t25_10
 (M.bind (lnL (strip v0)) fun t30_11 =>
 M.bind (bi .add .none (strip t12_2) (.int .i64 4)) fun t32_12 =>
 M.bind (mn t30_11 t32_12) fun t33_13 =>
 M.bind (slL 1 (strip v0) (some (strip t12_2)) (some t33_13)) fun t34_14 =>
 M.bind (C u6n [(strip t34_14)]) fun t35_15 =>
 M.bind (bi .add .none (strip t12_2) t35_15) fun t36_16 =>
 resT t36_16 (M.pure (.tup [t36_16, (.bool false)])))
 (u5n v0 v2 v3 v9))
 (M.pure (.tup [(.int .i64 0), (.bool true)])) :=
 (u05 P X _ _ _).trans (by kernel_rfl)
theorem uk3 (a0 : PV) : C u90 [a0] =
 trunc (M.bind (cv .bytesToStr true (strip a0)) fun t8_0 =>
 M.bind (rg t8_0) fun t9_1 =>
 u5n a0 (.int .i64 0) (.bool false) t9_1) := by
 rw [C, u00 _ _ rfl]; kernel_rfl
noncomputable def u2w (v2 v6 v8 : PV) : M PV := atP P X u1d [1, 1, 1, 1] (mkEnv 32 0 [(2, v2), (6, v6), (8, v8)])
noncomputable def u0y (v2 v6 v9 v22 v23 : PV) : M PV := atP P X u1d [1, 1, 1, 1, 1, 0, 1, 0] (mkEnv 32 0 [(2, v2), (6, v6), (9, v9), (22, v22), (23, v23)])
theorem u72 (v2 v6 v8 : PV) : u2w v2 v6 v8 =
 u0y v2 v6 (.slice false true 0 []) (strip v8) (.int .u32 0) :=
 (u05 P X _ _ _).trans (by kernel_rfl)
theorem u37 (v2 v6 v9 v22 v23 : PV) : u0y v2 v6 v9 v22 v23 =
 M.bind (bi .lss .none v23 v22) fun t24_0 =>
 condM t24_0
 (M.bind (callV P C (strip v2) []) fun t27_1 =>
 M.bind (bs true (some 3) [t27_1]) fun t28_2 =>
 M.bind (ap true 3 24 v9 t28_2) fun t29_3 =>
 M.bind (bi .add .none v23 (.int .u32 1)) fun t30_4 =>
 u0y v2 v6 t29_3 v22 (strip t30_4))
 (resT v9 (M.pure v9)) :=
 (u05 P X _ _ _).trans (by kernel_rfl)
theorem u9d (a0 a1 a2 : PV) : C u1d [a0, a1, a2] =
 trunc (M.bind (nc P (strip a0)) fun t11_0 =>
 M.bind (fa 1 t11_0) fun t12_1 =>
 M.bind (ld none true t12_1) fun t13_2 =>
 M.bind (C u1r [(strip (strip a0))]) fun t15_3 =>
 M.bind (bi .gtr .none (strip t15_3) (strip a1)) fun t18_4 =>
 condM t18_4
 (M.bind (C u04 [(strip (strip a0)), (strip (strip t13_2)), (.int .i64 2)]) fun t21_5 =>
 u2w a2 (.slice false true 0 []) t15_3)
 (u2w a2 (.slice false true 0 []) t15_3)) := by
 rw [C, u00 _ _ rfl]; kernel_rfl
theorem u96 (a0 a1 a2 a3 : PV) : C u4a [a0, a1, a2, a3] =
 trunc (M.bind (C u6c [(strip (strip a0)), (strip (strip a1)), (strip (strip a2))]) fun t19_0 =>
 M.bind (ex 0 t19_0) fun t20_1 =>
 M.bind (ex 1 (tupDrop 0 t19_0)) fun t21_2 =>
 M.bind (al [(.slice false true 0 []), (.int .i64 0), (.int .i64 0)]) fun t11_3 =>
 M.bind (st 3 true t11_3 t20_1) fun _ =>
 M.bind (bi .neq .none (strip t21_2) (.int .i64 0)) fun t23_5 =>
 condM t23_5
 (resT t21_2 (M.pure (.tup [(.int .i64 0), (.int .i64 0), t21_2])))
 (M.bind (ld (some 3) false t11_3) fun t27_6 =>
 M.bind (callV P C (strip a3) [(strip t27_6)]) fun t28_7 =>
 M.bind (ex 0 t28_7) fun t29_8 =>
 M.bind (ex 1 (tupDrop 0 t28_7)) fun t30_9 =>
 M.bind (ex 2 (tupDrop 1 (tupDrop 0 t28_7))) fun t31_10 =>
 resT t29_8 (resT t30_9 (resT t31_10 (M.pure (.tup [t29_8, t30_9, t31_10])))))) := by
 rw [C, u00 _ _ rfl]; kernel_rfl
theorem utc (a0 : PV) : C udg [a0] =
 trunc (M.bind (bx 3 a0) fun t1_0 =>
 M.bind (ld (some 3) false t1_0) fun t5_1 =>
 M.bind (C u1z [(strip t5_1), (.int .i64 33)]) fun t6_2 =>
 M.bind (ex 0 t6_2) fun t7_3 =>
 M.bind (ex 1 (tupDrop 0 t6_2)) fun t8_4 =>
 M.bind (ex 2 (tupDrop 1 (tupDrop 0 t6_2))) fun t9_5 =>
 resT t7_3 (resT t8_4 (resT t9_5 (M.pure (.tup [t7_3, t8_4, t9_5]))))) := by
 rw [C, u00 _ _ rfl]; kernel_rfl
noncomputable def u4i (v0 v2 v3 v6 v7 v8 : PV) : M PV := atP P X u1w [1, 0, 1, 0] (mkEnv 22 0 [(0, v0), (2, v2), (3, v3), (6, v6), (7, v7), (8, v8)])
noncomputable def u34 (v0 v2 v3 : PV) : M PV := atP P X u1w [1, 1] (mkEnv 22 0 [(0, v0), (2, v2), (3, v3)])
theorem u3t (v0 v2 v3 v6 v7 v8 : PV) : u4i v0 v2 v3 v6 v7 v8 =
 M.bind (bi .lss .none v8 v7) fun t9_0 =>
 condM t9_0
 (M.bind (iaS 1 v6 v8) fun t10_1 =>
 M.bind (ld none true t10_1) fun t11_2 =>
 M.bind (bi .lss .none (strip t11_2) (.int .u8 128)) fun t13_3 =>
 condM t13_3
 (M.bind (cv (.int .i32) true (strip t11_2)) fun t15_4 =>
 resT t15_4 (M.pure (.tup [t15_4, (.int .i64 1)])))
 (u34 v0 v2 v3))
 (u34 v0 v2 v3) :=
 (u05 P X _ _ _).trans (by kernel_rfl)
theorem u78 (v0 v2 v3 : PV) : u34 v0 v2 v3 =
 M.bind (C u2x [(strip (strip v0))]) fun t19_0 =>
 M.bind (ex 0 t19_0) fun t20_1 =>
 M.bind (ex 1 (tupDrop 0 t19_0)) fun t21_2 =>
 resT t20_1 (resT t21_2 (M.pure (.tup [t20_1, t21_2]))) :=
 (u05 P X _ _ _).trans (by kernel_rfl)
theorem u5r (a0 : PV) : C u1w [a0] =
 trunc (M.bind (lnL (strip a0)) fun t7_0 =>
 u4i a0 (.int .i32 0) (.int .i64 0) (strip a0) t7_0 (.int .i64 0)) := by
 rw [C, u00 _ _ rfl]; kernel_rfl
noncomputable def u47 (v0 v2 v3 : PV) : M PV := atP P X u6n [1, 0, 1, 0] (mkEnv 20 0 [(0, v0), (2, v2), (3, v3)])
theorem u6t (v0 v2 v3 : PV) : u47 v0 v2 v3 =
 M.bind (bi .gtr .none (strip v3) (.int .i64 0)) fun t7_0 =>
 condM t7_0
 (M.bind (bi .lss .none (strip v3) (.int .i64 4)) fun t11_1 =>
 M.bind (gd (strip t11_1) true (M.pure (strip v0))) fun t13_2 =>
 M.bind (gd (strip t11_1) true (M.pure (strip v3))) fun t14_3 =>
 M.bind (gd (strip t11_1) true (slL 1 t13_2 none (some t14_3))) fun t15_4 =>
 M.bind (gd (strip t11_1) true (C u4s [(strip t15_4)])) fun t16_5 =>
 M.bind (gd (strip t11_1) true (un .not t16_5)) fun t17_6 =>
 M.bind (pick (strip t11_1) t17_6 (.bool false)) fun t18_7 =>
 condM t18_7
 (resT v3 (M.pure v3))
 (M.bind (bi .sub .none (strip v3) (.int .i64 1)) fun t9_8 =>
 u47 v0 v2 t9_8))
 (M.pure (.int .i64 0)) :=
 (u05 P X _ _ _).trans (by kernel_rfl)
theorem uff (a0 : PV) : C u6n [a0] =
 trunc (M.bind (lnL (strip a0)) fun t5_0 =>
 u47 a0 (.int .i64 0) t5_0) := by
 rw [C, u00 _ _ rfl]; kernel_rfl
noncomputable def u0p (v1 v2 v4 v5 v6 v7 v8 v9 : PV) : M PV := atP P X u1z [1, 1, 1, 0] (mkEnv 74 0 [(1, v1), (2, v2), (4, v4), (5, v5), (6, v6), (7, v7), (8, v8), (9, v9)])
noncomputable def u1q (v1 v2 v4 v5 v6 v7 v8 v9 v10 : PV) : M PV := atP P X u1z [1, 1, 1, 0, 0, 0, 0, 1, 1, 1] (mkEnv 74 0 [(1, v1), (2, v2), (4, v4), (5, v5), (6, v6), (7, v7), (8, v8), (9, v9), (10, v10)])
noncomputable def u20 (v1 v2 v4 v5 v6 v7 v8 v9 : PV) : M PV := atP P X u1z [1, 1, 1, 0, 0, 0, 0, 1, 1, 1, 1, 1, 1, 0, 1] (mkEnv 74 0 [(1, v1), (2, v2), (4, v4), (5, v5), (6, v6), (7, v7), (8, v8), (9, v9)])
theorem u8l (v1 v2 v4 v5 v6 v7 v8 v9 : PV) : u0p v1 v2 v4 v5 v6 v7 v8 v9 =
 M.bind (fa 2 v2) fun t18_0 =>
 M.bind (ld none false t18_0) fun t19_1 =>
 M.bind (bi .geq .none (strip v9) t19_1) fun t20_2 =>
 condM t20_2
 (nb (fa 2 v2) fun t21_3 =>
 nb (ld none true t21_3) fun t22_4 =>
 resT t22_4 (M.pure (.tup [(.int .i64 0), t22_4, (.int .i64 3)])))
 (M.bind (fa 0 v2) fun t23_5 =>
 M.bind (ld none false t23_5) fun t24_6 =>
 M.bind (iaS 1 t24_6 (strip v9)) fun t26_7 =>
 M.bind (ld none true t26_7) fun t27_8 =>
 M.bind (bi .sub .none (strip v1) (strip v8)) fun t30_9 =>
 M.bind (bi .lss .none (strip t30_9) (.int .i64 7)) fun t32_10 =>
 condM t32_10
 (M.bind (bi .shl .none (strip t27_8) (.int .u64 1)) fun t34_11 =>
 M.bind (cv (.int .i8) true t34_11) fun t35_12 =>
 M.bind (bi .shr .none t35_12 (strip t30_9)) fun t37_13 =>
 M.bind (bi .geq .none (strip t27_8) (.int .u8 128)) fun t39_14 =>
 M.bind (gd (strip t39_14) false (M.pure (strip t37_13))) fun t41_15 =>
 M.bind (gd (strip t39_14) false (bi .neq .none t41_15 (.int .i8 0))) fun t42_16 =>
 M.bind (gd (strip t39_14) false (M.pure (strip t42_16))) fun t43_17 =>
 M.bind (gd t43_17 true (M.pure (strip t37_13))) fun t44_18 =>
 M.bind (gd t43_17 true (bi .neq .none t44_18 (.int .i8 (-1)))) fun t45_19 =>
 M.bind (gd (strip t39_14) false (pick t43_17 t45_19 (.bool false))) fun t46_20 =>
 M.bind (pick (strip t39_14) (.bool true) t46_20) fun t47_21 =>
 condM t47_21
 (resT v9 (M.pure (.tup [(.int .i64 0), v9, (.int .i64 4)])))
 (u1q v1 v2 v4 v5 v6 v7 v8 v9 t27_8))
 (u1q v1 v2 v4 v5 v6 v7 v8 v9 t27_8)) :=
 (u05 P X _ _ _).trans (by kernel_rfl)
theorem u6v (v1 v2 v4 v5 v6 v7 v8 v9 v10 : PV) : u1q v1 v2 v4 v5 v6 v7 v8 v9 v10 =
 M.bind (bi .and .none (strip v10) (.int .u8 127)) fun t51_0 =>
 M.bind (cv (.int .i64) true t51_0) fun t52_1 =>
 M.bind (bi .shl .none t52_1 (strip v8)) fun t54_2 =>
 M.bind (bi .or .none (strip v7) t54_2) fun t55_3 =>
 M.bind (bi .add .none (strip v8) (.int .i64 7)) fun t57_4 =>
 M.bind (bi .lss .none (strip v10) (.int .u8 128)) fun t59_5 =>
 condM t59_5
 (M.bind (bi .and .none (strip v10) (.int .u8 64)) fun t61_6 =>
 M.bind (bi .neq .none t61_6 (.int .u8 0)) fun t62_7 =>
 M.bind (gd (strip t62_7) true (M.pure (strip t57_4))) fun t64_8 =>
 M.bind (gd (strip t62_7) true (bi .lss .none t64_8 (.int .i64 64))) fun t65_9 =>
 M.bind (pick (strip t62_7) t65_9 (.bool false)) fun t66_10 =>
 condM t66_10
 (M.bind (bi .shl .none (.int .i64 (-1)) (strip t57_4)) fun t69_11 =>
 M.bind (bi .or .none (strip t55_3) t69_11) fun t70_12 =>
 u20 v1 v2 v4 v5 v6 t70_12 t57_4 v9)
 (u20 v1 v2 v4 v5 v6 t55_3 t57_4 v9))
 (M.bind (bi .add .none (strip v9) (.int .i64 1)) fun t16_13 =>
 u0p v1 v2 v4 v5 v6 t55_3 t57_4 t16_13) :=
 (u05 P X _ _ _).trans (by kernel_rfl)
theorem u5m (v1 v2 v4 v5 v6 v7 v8 v9 : PV) : u20 v1 v2 v4 v5 v6 v7 v8 v9 =
 M.bind (bi .add .none (strip v9) (.int .i64 1)) fun t73_0 =>
 resT v7 (resT t73_0 (M.pure (.tup [v7, t73_0, (.int .i64 0)]))) :=
 (u05 P X _ _ _).trans (by kernel_rfl)
theorem ubw (a0 a1 : PV) : C u1z [a0, a1] =
 trunc (M.bind (bx 3 a0) fun t2_0 =>
 M.bind (fa 1 t2_0) fun t13_1 =>
 M.bind (ld none true t13_1) fun t14_2 =>
 u0p a1 t2_0 (.int .i64 0) (.int .i64 0) (.int .i64 0) (.int .i64 0) (.int .i64 0) t14_2) := by
 rw [C, u00 _ _ rfl]; kernel_rfl
theorem u7f (a0 : PV) : C u2x [a0] =
 trunc (M.bind (lnL (strip a0)) fun t14_0 =>
 M.bind (bi .lss .none (strip t14_0) (.int .i64 1)) fun t16_1 =>
 condM t16_1
 (M.pure (.tup [(.int .i32 65533), (.int .i64 0)]))
 (M.bind (iaS 1 (strip a0) (.int .i64 0)) fun t18_2 =>
 M.bind (ld none true t18_2) fun t19_3 =>
 M.bind (iaA 256 1 (GT 0) (strip t19_3)) fun t21_4 =>
 M.bind (ld none true t21_4) fun t22_5 =>
 M.bind (bi .geq .none (strip t22_5) (.int .u8 240)) fun t24_6 =>
 condM t24_6
 (M.bind (cv (.int .i32) true (strip t22_5)) fun t26_7 =>
 M.bind (bi .shl .none t26_7 (.int .u64 31)) fun t27_8 =>
 M.bind (bi .shr .none t27_8 (.int .u64 31)) fun t28_9 =>
 M.bind (iaS 1 (strip a0) (.int .i64 0)) fun t30_10 =>
 M.bind (ld none false t30_10) fun t31_11 =>
 M.bind (cv (.int .i32) true t31_11) fun t32_12 =>
 M.bind (bi .andNot .none t32_12 (strip t28_9)) fun t34_13 =>
 M.bind (bi .and .none (.int .i32 65533) (strip t28_9)) fun t36_14 =>
 M.bind (bi .or .none t34_13 t36_14) fun t37_15 =>
 resT t37_15 (M.pure (.tup [t37_15, (.int .i64 1)])))
 (M.bind (bi .and .none (strip t22_5) (.int .u8 7)) fun t39_16 =>
 M.bind (cv (.int .i64) true t39_16) fun t40_17 =>
 M.bind (bi .shr .none (strip t22_5) (.int .u64 4)) fun t42_18 =>
 M.bind (iaA 16 2 (GT 1) t42_18) fun t43_19 =>
 M.bind (ld (some 2) true t43_19) fun t44_20 =>
 M.bind (al [(.int .u8 0), (.int .u8 0)]) fun t9_21 =>
 M.bind (st 2 true t9_21 t44_20) fun _ =>
 M.bind (bi .lss .none (strip t14_0) (strip t40_17)) fun t47_23 =>
 condM t47_23
 (M.pure (.tup [(.int .i32 65533), (.int .i64 1)]))
 (M.bind (iaS 1 (strip a0) (.int .i64 1)) fun t49_24 =>
 M.bind (ld none true t49_24) fun t50_25 =>
 M.bind (fa 0 t9_21) fun t52_26 =>
 M.bind (ld none false t52_26) fun t53_27 =>
 M.bind (bi .lss .none (strip t50_25) t53_27) fun t54_28 =>
 M.bind (gd (strip t54_28) false (fa 1 t9_21)) fun t56_29 =>
 M.bind (gd (strip t54_28) false (ld none false t56_29)) fun t57_30 =>
 M.bind (gd (strip t54_28) false (M.pure (strip t50_25))) fun t58_31 =>
 M.bind (gd (strip t54_28) false (bi .lss .none t57_30 t58_31)) fun t59_32 =>
 M.bind (pick (strip t54_28) (.bool true) t59_32) fun t60_33 =>
 condM t60_33
 (M.pure (.tup [(.int .i32 65533), (.int .i64 1)]))
 (M.bind (bi .leq .none (strip t40_17) (.int .i64 2)) fun t62_34 =>
 condM t62_34
 (M.bind (bi .and .none (strip t19_3) (.int .u8 31)) fun t64_35 =>
 M.bind (cv (.int .i32) true t64_35) fun t65_36 =>
 M.bind (bi .shl .none t65_36 (.int .u64 6)) fun t66_37 =>
 M.bind (bi .and .none (strip t50_25) (.int .u8 63)) fun t68_38 =>
 M.bind (cv (.int .i32) true t68_38) fun t69_39 =>
 M.bind (bi .or .none t66_37 t69_39) fun t70_40 =>
 resT t70_40 (M.pure (.tup [t70_40, (.int .i64 2)])))
 (M.bind (iaS 1 (strip a0) (.int .i64 2)) fun t72_41 =>
 M.bind (ld none true t72_41) fun t73_42 =>
 M.bind (bi .lss .none (strip t73_42) (.int .u8 128)) fun t75_43 =>
 M.bind (gd (strip t75_43) false (M.pure (strip t73_42))) fun t77_44 =>
 M.bind (gd (strip t75_43) false (bi .lss .none (.int .u8 191) t77_44)) fun t78_45 =>
 M.bind (pick (strip t75_43) (.bool true) t78_45) fun t79_46 =>
 condM t79_46
 (M.pure (.tup [(.int .i32 65533), (.int .i64 1)]))
 (M.bind (bi .leq .none (strip t40_17) (.int .i64 3)) fun t81_47 =>
 condM t81_47
 (M.bind (bi .and .none (strip t19_3) (.int .u8 15)) fun t83_48 =>
 M.bind (cv (.int .i32) true t83_48) fun t84_49 =>
 M.bind (bi .shl .none t84_49 (.int .u64 12)) fun t85_50 =>
 M.bind (bi .and .none (strip t50_25) (.int .u8 63)) fun t87_51 =>
 M.bind (cv (.int .i32) true t87_51) fun t88_52 =>
 M.bind (bi .shl .none t88_52 (.int .u64 6)) fun t89_53 =>
 M.bind (bi .or .none t85_50 t89_53) fun t90_54 =>
 M.bind (bi .and .none (strip t73_42) (.int .u8 63)) fun t92_55 =>
 M.bind (cv (.int .i32) true t92_55) fun t93_56 =>
 M.bind (bi .or .none t90_54 t93_56) fun t94_57 =>
 resT t94_57 (M.pure (.tup [t94_57, (.int .i64 3)])))
 (M.bind (iaS 1 (strip a0) (.int .i64 3)) fun t96_58 =>
 M.bind (ld none true t96_58) fun t97_59 =>
 M.bind (bi .lss .none (strip t97_59) (.int .u8 128)) fun t99_60 =>
 M.bind (gd (strip t99_60) false (M.pure (strip t97_59))) fun t101_61 =>
 M.bind (gd (strip t99_60) false (bi .lss .none (.int .u8 191) t101_61)) fun t102_62 =>
 M.bind (pick (strip t99_60) (.bool true) t102_62) fun t103_63 =>
 condM t103_63
 (M.pure (.tup [(.int .i32 65533), (.int .i64 1)]))
 (M.bind (bi .and .none (strip t19_3) (.int .u8 7)) fun t105_64 =>
 M.bind (cv (.int .i32) true t105_64) fun t106_65 =>
 M.bind (bi .shl .none t106_65 (.int .u64 18)) fun t107_66 =>
 M.bind (bi .and .none (strip t50_25) (.int .u8 63)) fun t109_67 =>
 M.bind (cv (.int .i32) true t109_67) fun t110_68 =>
 M.bind (bi .shl .none t110_68 (.int .u64 12)) fun t111_69 =>
 M.bind (bi .or .none t107_66 t111_69) fun t112_70 =>
 M.bind (bi .and .none (strip t73_42) (.int .u8 63)) fun t114_71 =>
 M.bind (cv (.int .i32) true t114_71) fun t115_72 =>
 M.bind (bi .shl .none t115_72 (.int .u64 6)) fun t116_73 =>
 M.bind (bi .or .none t112_70 t116_73) fun t117_74 =>
 M.bind (bi .and .none (strip t97_59) (.int .u8 63)) fun t119_75 =>
 M.bind (cv (.int .i32) true t119_75) fun t120_76 =>
 M.bind (bi .or .none t117_74 t120_76) fun t121_77 =>
 resT t121_77 (M.pure (.tup [t121_77, (.int .i64 4)]))))))))))) := by
 rw [C, u00 _ _ rfl]; kernel_rfl
theorem u9o (a0 : PV) : C u4s [a0] =
 trunc (M.bind (lnL (strip a0)) fun t7_0 =>
 M.bind (bi .eql .none (strip t7_0) (.int .i64 0)) fun t9_1 =>
 condM t9_1
 (M.pure (.bool false))
 (M.bind (iaS 1 (strip a0) (.int .i64 0)) fun t11_2 =>
 M.bind (ld none false t11_2) fun t12_3 =>
 M.bind (iaA 256 1 (GT 0) t12_3) fun t13_4 =>
 M.bind (ld none true t13_4) fun t14_5 =>
 M.bind (bi .and .none (strip t14_5) (.int .u8 7)) fun t17_6 =>
 M.bind (cv (.int .i64) true t17_6) fun t18_7 =>
 M.bind (bi .geq .none (strip t7_0) t18_7) fun t19_8 =>
 condM t19_8
 (M.pure (.bool true))
 (M.bind (bi .shr .none (strip t14_5) (.int .u64 4)) fun t21_9 =>
 M.bind (iaA 16 2 (GT 1) t21_9) fun t22_10 =>
 M.bind (ld (some 2) true t22_10) fun t23_11 =>
 M.bind (al [(.int .u8 0), (.int .u8 0)]) fun t5_12 =>
 M.bind (st 2 true t5_12 t23_11) fun _ =>
 nb (bi .gtr .none (strip t7_0) (.int .i64 1)) fun t25_14 =>
 nb (gd (strip t25_14) true (M.pure (strip a0))) fun t27_15 =>
 nb (gd (strip t25_14) true (iaS 1 t27_15 (.int .i64 1))) fun t28_16 =>
 nb (gd (strip t25_14) true (ld none false t28_16)) fun t29_17 =>
 nb (gd (strip t25_14) true (fa 0 t5_12)) fun t30_18 =>
 nb (gd (strip t25_14) true (ld none false t30_18)) fun t31_19 =>
 nb (gd (strip t25_14) true (bi .lss .none t29_17 t31_19)) fun t32_20 =>
 nb (gd (strip t25_14) true (M.pure (strip t32_20))) fun t33_21 =>
 nb (gd t33_21 false (fa 1 t5_12)) fun t34_22 =>
 nb (gd t33_21 false (ld none false t34_22)) fun t35_23 =>
 nb (gd t33_21 false (M.pure (strip a0))) fun t36_24 =>
 nb (gd t33_21 false (iaS 1 t36_24 (.int .i64 1))) fun t37_25 =>
 nb (gd t33_21 false (ld none false t37_25)) fun t38_26 =>
 nb (gd t33_21 false (bi .lss .none t35_23 t38_26)) fun t39_27 =>
 nb (gd (strip t25_14) true (pick t33_21 (.bool true) t39_27)) fun t40_28 =>
 nb (pick (strip t25_14) t40_28 (.bool false)) fun t41_29 =>
 condM t41_29
 (M.pure (.bool true))
 (M.bind (bi .gtr .none (strip t7_0) (.int .i64 2)) fun t43_30 =>
 M.bind (gd (strip t43_30) true (M.pure (strip a0))) fun t45_31 =>
 M.bind (gd (strip t43_30) true (iaS 1 t45_31 (.int .i64 2))) fun t46_32 =>
 M.bind (gd (strip t43_30) true (ld none false t46_32)) fun t47_33 =>
 M.bind (gd (strip t43_30) true (bi .lss .none t47_33 (.int .u8 128))) fun t48_34 =>
 M.bind (gd (strip t43_30) true (M.pure (strip t48_34))) fun t49_35 =>
 M.bind (gd t49_35 false (M.pure (strip a0))) fun t50_36 =>
 M.bind (gd t49_35 false (iaS 1 t50_36 (.int .i64 2))) fun t51_37 =>
 M.bind (gd t49_35 false (ld none false t51_37)) fun t52_38 =>
 M.bind (gd t49_35 false (bi .lss .none (.int .u8 191) t52_38)) fun t53_39 =>
 M.bind (gd (strip t43_30) true (pick t49_35 (.bool true) t53_39)) fun t54_40 =>
 M.bind (pick (strip t43_30) t54_40 (.bool false)) fun t55_41 =>
 condM t55_41
 (M.pure (.bool true))
 (M.pure (.bool false)))))) := by
 rw [C, u00 _ _ rfl]; kernel_rfl
end Go.Proofs.YthnmienjiangkaaGreatDoor.Pi.Q
namespace Go.Proofs.YthnmienjiangkaaGreatDoor.Pi.Q
open Go Go.Proofs.YthnmienjiangkaaGreatDoor.Pi
attribute [local congr] ite_congr
def retU : Rs Nat → PV
  | .ok n p => .tup [.int .u64 n, .int .i64 p, .int .i64 0]
  | .err p e => .tup [.int .u64 0, .int .i64 p, .int .i64 e]
theorem dig_lt {B s x : Nat} (hB : B ≤ 64) (hi : s < B) (hx : x < 2 ^ (B - s)) : x * 2 ^ s < 2 ^ 64 := by
  have h1 : (x + 1) * 2 ^ s ≤ 2 ^ (B - s) * 2 ^ s := Nat.mul_le_mul_right _ hx
  have h2 : 2 ^ (B - s) * 2 ^ s = 2 ^ B := by rw [← Nat.pow_add, Nat.sub_add_cancel (by omega)]
  have h3 : 2 ^ B ≤ 2 ^ 64 := Nat.pow_le_pow_right (by omega) hB
  have h4 := Nat.pow_pos (n := s) (show 0 < 2 by omega)
  rw [Nat.add_mul] at h1
  omega
theorem uum {H : Heap} {b : List UInt8} {z : Bool} {id a e B s n p : Nat} {x y w : PV} (hH : hget H id = some (.cells [BS z b, .int .i64 a, .int .i64 e]))
    (he : e ≤ b.length) (hb : b.length < 2 ^ 62) (hB : B ≤ 64) (hi : s < B) (hn : n < 2 ^ s) :
    run (u0q (.int .i64 B) (.ptr id 0) x y w (.int .u64 n) (.int .i64 s) (.int .i64 p)) H =
      if p < e then
        if B < s + 7 ∧ (b.getD p 0).toNat / 2 ^ (B - s) ≠ 0 then some (.ok (retU (.err p 4)) H)
        else if (b.getD p 0).toNat < 128 then some (.ok (retU (.ok (n + (b.getD p 0).toNat * 2 ^ s) (p + 1))) H)
        else run (u0q (.int .i64 B) (.ptr id 0) x y w (.int .u64 (n + (b.getD p 0).toNat % 128 * 2 ^ s : Nat)) (.int .i64 (s + 7 : Nat)) (.int .i64 (p + 1 : Nat))) H
      else some (.ok (retU (.err e 3)) H) := by
  have hid := get_lt hH
  have hset := u1g hH
  rw [u7s]
  by_cases hpe : p < e
  · have hpb : p < b.length := by omega
    have hg := ul2 hpb
    have hgd : b.getD p 0 = b[p] := by simp [hpb]
    rw [hgd]
    generalize b[p] = c at hg hgd ⊢
    have hc := byt_lt c
    generalize hcn : c.toNat = cn at hc
    have s1 : (B : Int) - (s : Int) = ((B - s : Nat) : Int) := by omega
    simp +contextual -dsimp (disch := omega) only [↓goDown, goUp, cr, simprocAttr, hH, hg, byt, hcn, hset, s1, ua0, and127, uap, ucz, run_or, Int.toNat_natCast]
    have c0 : ¬ (e : Int) ≤ p := by omega
    rw [if_neg c0, if_pos hpe]
    have key : cn % 128 < 2 ^ (B - s) → IntKind.u64.wrap ((BitVec.ofInt IntKind.u64.bits (n : Int) ||| BitVec.ofInt IntKind.u64.bits (IntKind.u64.wrap (((cn % 128 : Nat) : Int) * 2 ^ shiftN .u64 (s : Int)))).toNat : Int) = ((n + cn % 128 * 2 ^ s : Nat) : Int) :=
      fun h => (uks (by omega) hn (dig_lt hB hi h)).1
    have tail : cn % 128 < 2 ^ (B - s) → ∀ r, (if (cn : Int) < 128 then some (Out.ok (PV.tup [PV.int IntKind.u64 (IntKind.u64.wrap ((BitVec.ofInt IntKind.u64.bits (n : Int) ||| BitVec.ofInt IntKind.u64.bits (IntKind.u64.wrap (((cn % 128 : Nat) : Int) * 2 ^ shiftN .u64 (s : Int)))).toNat : Int)), PV.int IntKind.i64 (p + 1), PV.int IntKind.i64 0]) H) else r) =
        if cn < 128 then some (Out.ok (retU (Rs.ok (n + cn * 2 ^ s) (p + 1))) H) else r := by
      intro h r
      rw [key h]
      by_cases h1 : cn < 128
      · have c1 : (cn : Int) < 128 := by omega
        rw [if_pos h1, if_pos c1, Nat.mod_eq_of_lt h1]; rfl
      · have c1 : ¬ (cn : Int) < 128 := by omega
        rw [if_neg h1, if_neg c1]
    by_cases h7 : B - s < 7
    · have c1 : ((B - s : Nat) : Int) < 7 := by omega
      have c0 : B < s + 7 := by omega
      rw [if_pos c1, shr_u8 cn (s := B - s) (by omega)]
      by_cases hd : cn / 2 ^ (B - s) = 0
      · have hlt : cn < 2 ^ (B - s) := by
          rcases Nat.div_eq_zero_iff.mp hd with h | h
          · have := Nat.pow_pos (n := B - s) (show 0 < 2 by omega); omega
          · exact h
        have hlt2 : cn % 128 < 2 ^ (B - s) := Nat.lt_of_le_of_lt (Nat.mod_le _ _) hlt
        have c2 : ((cn / 2 ^ (B - s) : Nat) : Int) = 0 := by omega
        have c3 : ¬ (B < s + 7 ∧ ¬ cn / 2 ^ (B - s) = 0) := fun h => h.2 hd
        rw [if_pos c2, if_neg c3, tail hlt2, key hlt2]
        rfl
      · have c2 : ¬ ((cn / 2 ^ (B - s) : Nat) : Int) = 0 := by omega
        have c3 : B < s + 7 ∧ ¬ cn / 2 ^ (B - s) = 0 := ⟨c0, hd⟩
        rw [if_neg c2, if_pos c3]; rfl
    · have hlt2 : cn % 128 < 2 ^ (B - s) := by
        have : 2 ^ 7 ≤ 2 ^ (B - s) := Nat.pow_le_pow_right (by omega) (by omega)
        omega
      have c1 : ¬ ((B - s : Nat) : Int) < 7 := by omega
      have c3 : ¬ (B < s + 7 ∧ ¬ cn / 2 ^ (B - s) = 0) := by omega
      rw [if_neg c1, if_neg c3, tail hlt2, key hlt2]
      rfl
  · have c0 : (e : Int) ≤ p := by omega
    simp +contextual -dsimp (disch := omega) only [↓goDown, goUp, cr, simprocAttr, hH, hset, c0]
    rw [if_neg hpe]
    rfl
theorem ur8 {H : Heap} {b : List UInt8} {z : Bool} {id a e B : Nat} {x y w : PV} (hH : hget H id = some (.cells [BS z b, .int .i64 a, .int .i64 e]))
    (he : e ≤ b.length) (hb : b.length < 2 ^ 62) (hB : B ≤ 64) (hB7 : B % 7 ≠ 0) : ∀ (f i n p : Nat), 7 * i < B → B ≤ 7 * (i + f) → n < 2 ^ (7 * i) →
    run (u0q (.int .i64 B) (.ptr id 0) x y w (.int .u64 n) (.int .i64 (7 * i : Nat)) (.int .i64 p)) H = some (.ok (retU (lebU b B e f i n p)) H)
  | 0, i, n, p, hi, hf, hn => by omega
  | f + 1, i, n, p, hi, hf, hn => by
    rw [uum hH he hb hB hi hn]
    unfold lebU
    by_cases h1 : p < e
    · simp only [if_pos h1]
      by_cases h2 : B < 7 * i + 7 ∧ (b.getD p 0).toNat / 2 ^ (B - 7 * i) ≠ 0
      · simp only [if_pos h2]
      · simp only [if_neg h2]
        by_cases h3 : (b.getD p 0).toNat < 128
        · simp only [if_pos h3]
        · simp only [if_neg h3]
          have h7 : ¬ B < 7 * i + 7 := by
            intro h
            refine h2 ⟨h, fun h0 => ?_⟩
            rcases Nat.div_eq_zero_iff.mp h0 with h | h'
            · have := Nat.pow_pos (n := B - 7 * i) (show 0 < 2 by omega); omega
            · have : 2 ^ (B - 7 * i) ≤ 2 ^ 6 := Nat.pow_le_pow_right (by omega) (by omega)
              omega
          by_cases h8 : 7 * (i + 1) < B
          · refine ur8 hH he hb hB hB7 f (i + 1) _ (p + 1) h8 (by omega) ?_
            have h4 : 2 ^ (7 * (i + 1)) = 128 * 2 ^ (7 * i) := by rw [Nat.mul_add, Nat.pow_add, Nat.mul_comm]
            have h5 : (b.getD p 0).toNat % 128 * 2 ^ (7 * i) ≤ 127 * 2 ^ (7 * i) := Nat.mul_le_mul_right _ (by omega)
            omega
          · omega
    · simp only [if_neg h1]
def rdU (b : List UInt8) (B e p : Nat) : Rs Nat := lebU b B e 10 0 0 p
theorem ukp {H : Heap} {b : List UInt8} {z : Bool} {p e : Int} :
    run (C u6c [BS z b, .int .i64 p, .int .i64 e]) H = if p < 0 ∨ b.length < e ∨ e < p then some (.ok (.tup [.agg [.slice false true 0 [], .int .i64 0, .int .i64 0], .int .i64 1]) H)
      else some (.ok (.tup [.agg [BS z b, .int .i64 p, .int .i64 e], .int .i64 0]) H) := by
  rw [uk1]
  simp +contextual -dsimp (disch := omega) only [↓goDown, goUp, cr, simprocAttr, List.length_map]
  by_cases h1 : p < 0
  · simp [h1]
  · by_cases h2 : (b.length : Int) < e
    · simp [h1, h2]
    · by_cases h3 : e < p
      · simp [h1, h2, h3]
      · simp [h1, h2, h3]
theorem ub2 {H : Heap} {b : List UInt8} {z : Bool} {p e B : Nat} (he : e ≤ b.length) (hb : b.length < 2 ^ 62) (hB : B = 32 ∨ B = 64) :
    run (C u1i [.agg [BS z b, .int .i64 p, .int .i64 e], .int .i64 B]) H = some (.ok (retU (rdU b B e p)) H) := by
  rw [uae]
  have h : ∀ (x y w : PV), run (u0q (.int .i64 B) (.ptr H.length 0) x y w (.int .u64 0) (.int .i64 0) (.int .i64 p)) (hadd H [.cells [BS z b, .int .i64 p, .int .i64 e]]) = some (.ok (retU (rdU b B e p)) (hadd H [.cells [BS z b, .int .i64 p, .int .i64 e]])) :=
    fun x y w => ur8 (by rw [udo]; rfl) he hb (by omega) (by omega) 10 0 0 p (by omega) (by omega) (by decide)
  have hl : ∀ n, (retU (rdU b B e p)).low n = true := by intro n; unfold retU; split <;> simp [u5b, u6u, ugu, u7o]
  simp +contextual -dsimp (disch := omega) only [↓goDown, goUp, cr, simprocAttr, h, hl]
end Go.Proofs.YthnmienjiangkaaGreatDoor.Pi.Q
namespace Go.Proofs.YthnmienjiangkaaGreatDoor.Pi.Q
open Go Go.Proofs.YthnmienjiangkaaGreatDoor.Pi
attribute [local congr] ite_congr
def retS : Rs Int → PV
  | .ok n p => .tup [.int .i64 n, .int .i64 p, .int .i64 0]
  | .err p e => .tup [.int .i64 0, .int .i64 p, .int .i64 e]
theorem uz0 {H : Heap} {b : List UInt8} {id B s n p c : Nat} {x y w : PV} (hs : s ≤ 63) (hn : n < 2 ^ s) (hp : p < 2 ^ 62) (hc : c < 256) (hB : s < B):
    run (u1q (.int .i64 B) (.ptr id 0) x y w (.int .i64 (IntKind.i64.wrap n)) (.int .i64 s) (.int .i64 p) (.int .u8 c)) H =
      if c < 128 then some (.ok (retS (.ok (IntKind.i64.wrap (n + lastS c s)) (p + 1))) H)
      else run (u0p (.int .i64 B) (.ptr id 0) x y w (.int .i64 (IntKind.i64.wrap (n + c % 128 * 2 ^ s : Nat))) (.int .i64 (s + 7 : Nat)) (.int .i64 (p + 1 : Nat))) H := by
  rw [u6v]
  have e1 : shiftN .i64 (s : Int) = s := uj5 (by omega)
  have key : IntKind.i64.wrap ((BitVec.ofInt IntKind.i64.bits (IntKind.i64.wrap n) ||| BitVec.ofInt IntKind.i64.bits (IntKind.i64.wrap (((c % 128 : Nat) : Int) * 2 ^ shiftN .i64 (s : Int)))).toNat : Int) = IntKind.i64.wrap ((n + c % 128 * 2 ^ s : Nat) : Int) := by
    rw [e1]
    have h := uqs (N := (n : Int)) (x := ((c % 128 : Nat) : Int)) hs (by omega) (by exact_mod_cast hn)
    unfold or64 at h
    refine h.trans ?_
    push_cast
    rfl
  have w1 : IntKind.i64.wrap ((c % 128 : Nat) : Int) = ((c % 128 : Nat) : Int) := w_i64 (by omega)
  simp +contextual -dsimp (disch := omega) only [↓goDown, goUp, cr, simprocAttr, ua0, and127, uap, ucz, run_or, u5m, key, w1]
  have e2 : ((s : Int) + 7) = ((s + 7 : Nat) : Int) := rfl
  have e3 : ((p : Int) + 1) = ((p + 1 : Nat) : Int) := rfl
  by_cases hlt : c < 128
  · have c1 : (c : Int) < 128 := by omega
    have hm : c % 128 = c := Nat.mod_eq_of_lt hlt
    rw [if_pos c1, if_pos hlt, and64 c hlt, hm]
    by_cases h64 : c < 64
    · rw [if_pos h64, if_pos rfl]
      unfold lastS
      rw [if_pos h64]
      push_cast
      rfl
    · rw [if_neg h64, if_neg (by decide)]
      unfold lastS
      rw [if_neg h64]
      have ep : (2 : Int) ^ (s + 7) = 128 * 2 ^ s := by rw [Int.pow_add, Int.mul_comm]; rfl
      by_cases h7 : s + 7 < 64
      · have c2 : (s : Int) + 7 < 64 := by omega
        rw [if_pos c2, e2, uj5 (by omega)]
        have h1 : n + c * 2 ^ s < 2 ^ (s + 7) := by
          have : (c + 1) * 2 ^ s ≤ 128 * 2 ^ s := Nat.mul_le_mul_right _ (by omega)
          have e : 2 ^ (s + 7) = 128 * 2 ^ s := by rw [Nat.pow_add, Nat.mul_comm]
          rw [Nat.add_mul] at this
          omega
        have h := uqs (N := ((n + c * 2 ^ s : Nat) : Int)) (x := -1) (s := s + 7) (by omega) (by omega) (by exact_mod_cast h1)
        unfold or64 at h
        have h2 : IntKind.i64.wrap (((n + c * 2 ^ s : Nat) : Int) + -1 * 2 ^ (s + 7)) = IntKind.i64.wrap ((n : Int) + ((c : Int) - 128) * 2 ^ s) := by
          congr 1
          rw [ep, Int.sub_mul]
          push_cast
          omega
        exact congrArg (fun v => some (Out.ok (PV.tup [PV.int IntKind.i64 v, PV.int IntKind.i64 ((p : Int) + 1), PV.int IntKind.i64 0]) H)) (h.trans h2)
      · have c2 : ¬ (s : Int) + 7 < 64 := by omega
        rw [if_neg c2]
        have h2 : IntKind.i64.wrap ((n + c * 2 ^ s : Nat) : Int) = IntKind.i64.wrap ((n : Int) + ((c : Int) - 128) * 2 ^ s) := by
          apply upw
          have e9 : (128 : Int) * 2 ^ s = 2 ^ (s + 7 - 64) * 18446744073709551616 := by
            rw [← ep, pow64 (s := 64) (by omega), Nat.sub_self, Int.pow_zero, Int.one_mul, ← Int.pow_add]
            congr 1
            omega
          have e8 : ((n + c * 2 ^ s : Nat) : Int) = ((n : Int) + ((c : Int) - 128) * 2 ^ s) + 2 ^ (s + 7 - 64) * 18446744073709551616 := by
            rw [← e9, Int.sub_mul]
            push_cast
            omega
          rw [e8, Int.add_mul_emod_self_right]
        exact congrArg (fun v => some (Out.ok (PV.tup [PV.int IntKind.i64 v, PV.int IntKind.i64 ((p : Int) + 1), PV.int IntKind.i64 0]) H)) h2
  · have c1 : ¬ (c : Int) < 128 := by omega
    rw [if_neg c1, if_neg hlt, e2, e3]
theorem ux0 {H : Heap} {b : List UInt8} {z : Bool} {id a e B s n p : Nat} {x y w : PV} (hH : hget H id = some (.cells [BS z b, .int .i64 a, .int .i64 e]))
    (he : e ≤ b.length) (hb : b.length < 2 ^ 62) (hB : B = 32 ∨ B = 33 ∨ B = 64) (hs7 : s % 7 = 0) (hi : s < B) (hn : n < 2 ^ s) :
    run (u0p (.int .i64 B) (.ptr id 0) x y w (.int .i64 (IntKind.i64.wrap n)) (.int .i64 s) (.int .i64 p)) H =
      if p < e then
        if B < s + 7 ∧ ¬ okS (B - s) (b.getD p 0).toNat then some (.ok (retS (.err p 4)) H)
        else if (b.getD p 0).toNat < 128 then some (.ok (retS (.ok (IntKind.i64.wrap (n + lastS (b.getD p 0).toNat s)) (p + 1))) H)
        else run (u0p (.int .i64 B) (.ptr id 0) x y w (.int .i64 (IntKind.i64.wrap (n + (b.getD p 0).toNat % 128 * 2 ^ s : Nat))) (.int .i64 (s + 7 : Nat)) (.int .i64 (p + 1 : Nat))) H
      else some (.ok (retS (.err e 3)) H) := by
  have hid := get_lt hH
  have hset := u1g hH
  rw [u8l]
  by_cases hpe : p < e
  · have hpb : p < b.length := by omega
    have hg := ul2 hpb
    have hgd : b.getD p 0 = b[p] := by simp [hpb]
    rw [hgd]
    generalize b[p] = c at hg hgd ⊢
    have hc := byt_lt c
    generalize hcn : c.toNat = cn at hc
    have s1 : (B : Int) - (s : Int) = ((B - s : Nat) : Int) := by omega
    have c0 : ¬ (e : Int) ≤ p := by omega
    have hj := fun (u v w : PV) => uz0 (H := H) (b := b) (id := id) (B := B) (s := s) (n := n) (p := p) (c := cn) (x := u) (y := v) (w := w) (by omega) hn (by omega) hc hi
    simp +contextual -dsimp (disch := omega) only [↓goDown, goUp, cr, simprocAttr, hH, hg, byt, hcn, hset, s1, ua0, uap, ucz, run_or, Int.toNat_natCast, hj, c0]
    rw [if_pos hpe]
    by_cases h7 : B - s < 7
    · have c1 : ((B - s : Nat) : Int) < 7 := by omega
      have c3 : B < s + 7 := by omega
      rw [if_pos c1]
      by_cases h128 : cn < 128
      · have c2 : ¬ (128 : Int) ≤ cn := by omega
        have ht := top_ok (h := B - s) (by omega) h128
        rw [if_neg c2]
        by_cases h0 : (IntKind.i8.wrap (IntKind.u8.wrap ((cn : Int) * 2 ^ shiftN .u8 1))).fdiv (2 ^ shiftN .i8 ((B - s : Nat) : Int)) = 0
        · have c4 : ¬ (B < s + 7 ∧ ¬ okS (B - s) cn) := fun h => h.2 (ht.mp (.inl h0))
          rw [if_pos h0, if_neg c4, if_pos h128, if_pos h128]
        · rw [if_neg h0]
          by_cases h1 : (IntKind.i8.wrap (IntKind.u8.wrap ((cn : Int) * 2 ^ shiftN .u8 1))).fdiv (2 ^ shiftN .i8 ((B - s : Nat) : Int)) = -1
          · have c4 : ¬ (B < s + 7 ∧ ¬ okS (B - s) cn) := fun h => h.2 (ht.mp (.inr h1))
            rw [if_pos h1, if_neg c4, if_pos h128, if_pos h128]
          · have c4 : B < s + 7 ∧ ¬ okS (B - s) cn := ⟨c3, fun h => (ht.mpr h).elim h0 h1⟩
            rw [if_neg h1, if_pos c4]
            rfl
      · have c2 : (128 : Int) ≤ cn := by omega
        have c4 : B < s + 7 ∧ ¬ okS (B - s) cn := ⟨c3, fun h => h128 h.1⟩
        rw [if_pos c2, if_pos c4]
        rfl
    · have c1 : ¬ ((B - s : Nat) : Int) < 7 := by omega
      have c4 : ¬ (B < s + 7 ∧ ¬ okS (B - s) cn) := by omega
      rw [if_neg c1, if_neg c4]
  · have c0 : (e : Int) ≤ p := by omega
    simp +contextual -dsimp (disch := omega) only [↓goDown, goUp, cr, simprocAttr, hH, hset, c0]
    rw [if_neg hpe]
    rfl
theorem ura {H : Heap} {b : List UInt8} {z : Bool} {id a e B : Nat} {x y w : PV} (hH : hget H id = some (.cells [BS z b, .int .i64 a, .int .i64 e]))
    (he : e ≤ b.length) (hb : b.length < 2 ^ 62) (hB : B = 32 ∨ B = 33 ∨ B = 64) : ∀ (f i n p : Nat), 7 * i < B → B ≤ 7 * (i + f) → n < 2 ^ (7 * i) →
    run (u0p (.int .i64 B) (.ptr id 0) x y w (.int .i64 (IntKind.i64.wrap n)) (.int .i64 (7 * i : Nat)) (.int .i64 p)) H = some (.ok (retS (lebS b B e f i n p)) H)
  | 0, i, n, p, hi, hf, hn => by omega
  | f + 1, i, n, p, hi, hf, hn => by
    rw [ux0 hH he hb hB (by omega) hi hn]
    unfold lebS
    by_cases h1 : p < e
    · simp only [if_pos h1]
      by_cases h2 : B < 7 * i + 7 ∧ ¬ okS (B - 7 * i) (b.getD p 0).toNat
      · simp only [if_pos h2]
      · simp only [if_neg h2]
        by_cases h3 : (b.getD p 0).toNat < 128
        · simp only [if_pos h3]
        · simp only [if_neg h3]
          have h7 : ¬ B < 7 * i + 7 := fun h => h2 ⟨h, fun h0 => h3 h0.1⟩
          refine ura hH he hb hB f (i + 1) _ (p + 1) (by omega) (by omega) ?_
          have h4 : 2 ^ (7 * (i + 1)) = 128 * 2 ^ (7 * i) := by rw [Nat.mul_add, Nat.pow_add, Nat.mul_comm]
          have h5 : (b.getD p 0).toNat % 128 * 2 ^ (7 * i) ≤ 127 * 2 ^ (7 * i) := Nat.mul_le_mul_right _ (by omega)
          omega
    · simp only [if_neg h1]
theorem uko {H : Heap} {b : List UInt8} {z : Bool} {p e B : Nat} (he : e ≤ b.length) (hb : b.length < 2 ^ 62) (hB : B = 32 ∨ B = 33 ∨ B = 64) :
    run (C u1z [.agg [BS z b, .int .i64 p, .int .i64 e], .int .i64 B]) H = some (.ok (retS (rdS b B e p)) H) := by
  rw [ubw]
  have h : ∀ (x y w : PV), run (u0p (.int .i64 B) (.ptr H.length 0) x y w (.int .i64 0) (.int .i64 0) (.int .i64 p)) (hadd H [.cells [BS z b, .int .i64 p, .int .i64 e]]) = some (.ok (retS (rdS b B e p)) (hadd H [.cells [BS z b, .int .i64 p, .int .i64 e]])) :=
    fun x y w => ura (by rw [udo]; rfl) he hb hB 10 0 0 p (by omega) (by omega) (by decide)
  have hl : ∀ n, (retS (rdS b B e p)).low n = true := by intro n; unfold retS; split <;> simp [u5b, u6u, ugu, u7o]
  simp +contextual -dsimp (disch := omega) only [↓goDown, goUp, cr, simprocAttr, h, hl]
end Go.Proofs.YthnmienjiangkaaGreatDoor.Pi.Q
namespace Go.Proofs.YthnmienjiangkaaGreatDoor.Pi.Q
open Go Go.Proofs.YthnmienjiangkaaGreatDoor.Pi
attribute [local congr] ite_congr
theorem wu (x : Int) : IntKind.u64.wrap x = x % 18446744073709551616 := by simp only [IntKind.wrap, IntKind.signed, IntKind.bits]; simp
end Go.Proofs.YthnmienjiangkaaGreatDoor.Pi.Q
namespace Go.Proofs.YthnmienjiangkaaGreatDoor.Pi.Q
open Go Go.Proofs.YthnmienjiangkaaGreatDoor.Pi
attribute [local congr] ite_congr
theorem uoz {b : List UInt8} {B e : Nat} (hB : B % 7 ≠ 0) : ∀ (f i n p : Nat), 7 * i < B → n < 2 ^ (7 * i) → ∀ v q, lebU b B e f i n p = .ok v q → v < 2 ^ B ∧ p < q ∧ q ≤ e
  | 0, i, n, p, hi, hn, v, q, h => by cases h
  | f + 1, i, n, p, hi, hn, v, q, h => by
    unfold lebU at h
    by_cases h1 : p < e
    · simp only [if_pos h1] at h
      by_cases h2 : B < 7 * i + 7 ∧ (b.getD p 0).toNat / 2 ^ (B - 7 * i) ≠ 0
      · simp only [if_pos h2] at h; cases h
      · simp only [if_neg h2] at h
        generalize hc : (b.getD p 0).toNat = c at *
        have hz : ∀ k : Nat, 0 < 2 ^ k := fun k => Nat.pow_pos (by omega)
        have h7 : B < 7 * i + 7 → c < 2 ^ (B - 7 * i) := by
          intro h
          have h0 : c / 2 ^ (B - 7 * i) = 0 := by
            by_cases h0 : c / 2 ^ (B - 7 * i) = 0
            · exact h0
            · exact absurd ⟨h, h0⟩ h2
          rcases Nat.div_eq_zero_iff.mp h0 with h | h
          · have := hz (B - 7 * i); omega
          · exact h
        by_cases h3 : c < 128
        · simp only [if_pos h3, Rs.ok.injEq] at h
          obtain ⟨rfl, rfl⟩ := h
          have hlt : c < 2 ^ (B - 7 * i) := by
            by_cases h : B < 7 * i + 7
            · exact h7 h
            · have : 2 ^ 7 ≤ 2 ^ (B - 7 * i) := Nat.pow_le_pow_right (by omega) (by omega)
              omega
          refine ⟨?_, by omega, by omega⟩
          have h4 : (c + 1) * 2 ^ (7 * i) ≤ 2 ^ (B - 7 * i) * 2 ^ (7 * i) := Nat.mul_le_mul_right _ hlt
          have h5 : 2 ^ (B - 7 * i) * 2 ^ (7 * i) = 2 ^ B := by rw [← Nat.pow_add, Nat.sub_add_cancel (by omega)]
          rw [Nat.add_mul] at h4
          omega
        · simp only [if_neg h3] at h
          have h8 : ¬ B < 7 * i + 7 := by
            intro h
            have h5 := h7 h
            have : 2 ^ (B - 7 * i) ≤ 2 ^ 6 := Nat.pow_le_pow_right (by omega) (by omega)
            omega
          have h4 : 2 ^ (7 * (i + 1)) = 128 * 2 ^ (7 * i) := by rw [Nat.mul_add, Nat.pow_add, Nat.mul_comm]
          have h5 : c % 128 * 2 ^ (7 * i) ≤ 127 * 2 ^ (7 * i) := Nat.mul_le_mul_right _ (by omega)
          obtain ⟨a1, a2, a3⟩ := uoz hB f (i + 1) _ (p + 1) (by omega) (by omega) v q h
          exact ⟨a1, by omega, a3⟩
    · simp only [if_neg h1] at h; cases h
theorem uus {b : List UInt8} {B e : Nat} : ∀ (f i n p : Nat) v q, lebS b B e f i n p = .ok v q → -9223372036854775808 ≤ v ∧ v ≤ 9223372036854775807 ∧ p < q ∧ q ≤ e
  | 0, i, n, p, v, q, h => by cases h
  | f + 1, i, n, p, v, q, h => by
    unfold lebS at h
    by_cases h1 : p < e
    · simp only [if_pos h1] at h
      by_cases h2 : B < 7 * i + 7 ∧ ¬ okS (B - 7 * i) (b.getD p 0).toNat
      · simp only [if_pos h2] at h; cases h
      · simp only [if_neg h2] at h
        by_cases h3 : (b.getD p 0).toNat < 128
        · simp only [if_pos h3, Rs.ok.injEq] at h
          obtain ⟨rfl, rfl⟩ := h
          rw [wi]
          omega
        · simp only [if_neg h3] at h
          obtain ⟨a1, a2, a3, a4⟩ := uus f (i + 1) _ (p + 1) v q h
          exact ⟨a1, a2, by omega, a4⟩
    · simp only [if_neg h1] at h; cases h
theorem udj {b : List UInt8} {e p v q : Nat} (h : rdU b 32 e p = .ok v q) : v < 2 ^ 32 ∧ p < q ∧ q ≤ e := uoz (by decide) 10 0 0 p (by omega) (by decide) v q h
theorem rdS_lt {b : List UInt8} {B e p q : Nat} {v : Int} (h : rdS b B e p = .ok v q) : -9223372036854775808 ≤ v ∧ v ≤ 9223372036854775807 ∧ p < q ∧ q ≤ e := uus 10 0 0 p v q h
def retK (k : IntKind) : Rs Nat → PV
  | .ok n p => .tup [.int k n, .int .i64 p, .int .i64 0]
  | .err p e => .tup [.int k 0, .int .i64 p, .int .i64 e]
theorem usk {H : Heap} {b : List UInt8} {z : Bool} {p e : Nat} (he : e ≤ b.length) (hb : b.length < 2 ^ 61) :
    run (C udw [.agg [BS z b, .int .i64 p, .int .i64 e]]) H = some (.ok (retU (rdU b 32 e p)) H) := by
  rw [utg]
  have h := ub2 (H := hadd H [.cells [BS z b, .int .i64 p, .int .i64 e]]) (z := z) (p := p) (B := 32) he (by omega) (.inl rfl)
  have h : run (C u1i [.agg [BS z b, .int .i64 p, .int .i64 e], .int .i64 32]) (hadd H [.cells [BS z b, .int .i64 p, .int .i64 e]]) = _ := h
  cases hr : rdU b 32 e p <;> rw [hr] at h <;> simp only [retU] at h ⊢ <;>
    simp +contextual -dsimp (disch := omega) only [↓goDown, goUp, cr, simprocAttr, h]
theorem ut8 {H : Heap} {b : List UInt8} {z : Bool} {p e : Nat} (he : e ≤ b.length) (hb : b.length < 2 ^ 61) :
    run (C udg [.agg [BS z b, .int .i64 p, .int .i64 e]]) H = some (.ok (retS (rdS b 33 e p)) H) := by
  rw [utc]
  have h := uko (H := hadd H [.cells [BS z b, .int .i64 p, .int .i64 e]]) (z := z) (p := p) (B := 33) he (by omega) (.inr (.inl rfl))
  have h : run (C u1z [.agg [BS z b, .int .i64 p, .int .i64 e], .int .i64 33]) (hadd H [.cells [BS z b, .int .i64 p, .int .i64 e]]) = _ := h
  cases hr : rdS b 33 e p <;> rw [hr] at h <;> simp only [retS] at h ⊢ <;>
    simp +contextual -dsimp (disch := omega) only [↓goDown, goUp, cr, simprocAttr, h]
theorem ud9 {H : Heap} {b : List UInt8} {z : Bool} {p e : Nat} (he : e ≤ b.length) (hp : p ≤ e) :
    run (C u6c [BS z b, .int .i64 p, .int .i64 e]) H = some (.ok (.tup [.agg [BS z b, .int .i64 p, .int .i64 e], .int .i64 0]) H) := by
  rw [ukp, if_neg (by omega)]
theorem uj2 {H : Heap} {b : List UInt8} {z : Bool} {p e : Nat} (he : e ≤ b.length) (hb : b.length < 2 ^ 61) (hp : p ≤ e) :
    run (C udb [BS z b, .int .i64 p, .int .i64 e]) H = some (.ok (retK .u32 (rdU b 32 e p)) H) := by
  have h1 : run (C u3g [BS z b, .int .i64 p, .int .i64 e, .fn udw [] []]) H = some (.ok (retK .u32 (rdU b 32 e p)) H) := by
    rw [u83]
    have h := usk (H := hadd H [.cells [BS z b, .int .i64 p, .int .i64 e]]) (z := z) (p := p) he hb
    cases hr : rdU b 32 e p with
    | ok v q =>
      have hv := udj hr
      rw [hr] at h
      simp only [retU, retK] at h ⊢
      simp +contextual -dsimp (disch := omega) only [↓goDown, goUp, cr, simprocAttr, h, ud9 he hp]
    | err a w =>
      rw [hr] at h
      simp only [retU, retK] at h ⊢
      simp +contextual -dsimp (disch := omega) only [↓goDown, goUp, cr, simprocAttr, h, ud9 he hp]
  rw [utm]
  cases hr : rdU b 32 e p <;> rw [hr] at h1 <;> simp only [retK] at h1 ⊢ <;>
    simp +contextual -dsimp (disch := omega) only [↓goDown, goUp, cr, simprocAttr, h1]
theorem usz {H : Heap} {b : List UInt8} {z : Bool} {p e : Nat} (he : e ≤ b.length) (hb : b.length < 2 ^ 61) (hp : p ≤ e) :
    run (C ugd [BS z b, .int .i64 p, .int .i64 e]) H = some (.ok (retS (rdS b 33 e p)) H) := by
  have h1 : run (C u4a [BS z b, .int .i64 p, .int .i64 e, .fn udg [] []]) H = some (.ok (retS (rdS b 33 e p)) H) := by
    rw [u96]
    have h := ut8 (H := hadd H [.cells [BS z b, .int .i64 p, .int .i64 e]]) (z := z) (p := p) he hb
    cases hr : rdS b 33 e p <;> rw [hr] at h <;> simp only [retS] at h ⊢ <;>
      simp +contextual -dsimp (disch := omega) only [↓goDown, goUp, cr, simprocAttr, h, ud9 he hp]
  rw [usw]
  cases hr : rdS b 33 e p <;> rw [hr] at h1 <;> simp only [retS] at h1 ⊢ <;>
    simp +contextual -dsimp (disch := omega) only [↓goDown, goUp, cr, simprocAttr, h1]
def curB (z : Bool) (b : List UInt8) (p : Nat) : Box := .cells [BS z b, .int .i64 p]
def flt (p e : Nat) : PV := .iface u02 (.agg [.int .i64 p, .int .i64 e])
def outC (z : Bool) (b : List UInt8) (c : Nat) (H : Heap) (q : Nat) {α : Type} (enc : α → PV) : Rs α → Option (Out PV)
  | .ok v p => some (.ok (enc v) (hset H c (curB z b p)))
  | .err p e => some (.pan (flt p e) (hset H c (curB z b q)))
theorem u5i {H : Heap} {r : PV} {p e : Int} : run (C u04 [r, .int .i64 p, .int .i64 e]) H = some (.pan (.iface u02 (.agg [.int .i64 p, .int .i64 e])) H) := by
  rw [uby]
  simp +contextual -dsimp (disch := omega) only [↓goDown, goUp, cr, simprocAttr]
def rLook (b : List UInt8) (p : Nat) : Rs Nat := if p < b.length then .ok (b.getD p 0).toNat p else .err b.length 3
theorem uu3 {H : Heap} {b : List UInt8} {z : Bool} {c p : Nat} (hH : hget H c = some (curB z b p)) (hb : b.length < 2 ^ 61) :
    run (C u0h [.ptr c 0]) H = outC z b c H p (fun x : Nat => .int .u8 x) (rLook b p) := by
  have hid := get_lt hH
  have hset := u1g hH
  rw [ubv]
  unfold rLook
  have hH' := hH
  unfold curB at hH
  by_cases hp : p < b.length
  · have hg := ul2 hp
    have hgd : b.getD p 0 = b[p] := by simp [hp]
    have c0 : ¬ (b.length : Int) ≤ p := by omega
    rw [if_pos hp, hgd]
    simp only [outC, hset]
    simp +contextual -dsimp (disch := omega) only [↓goDown, goUp, cr, simprocAttr, hH, hg, byt, c0, List.length_map, u97, Int.toNat_natCast]
  · have c0 : (b.length : Int) ≤ p := by omega
    rw [if_neg hp]
    simp only [outC, hset]
    simp +contextual -dsimp (disch := omega) only [↓goDown, goUp, cr, simprocAttr, hH, c0, List.length_map, u5i]
    all_goals rfl
theorem ute {H : Heap} {b : List UInt8} {z : Bool} {c p q : Nat} {v : Nat} (hH : hget H c = some (curB z b p)) :
    run (C u3s [.ptr c 0, .int .u32 v, .int .i64 q, .int .i64 0]) H = some (.ok (.int .u32 v) (hset H c (curB z b q))) := by
  have hid := get_lt hH
  unfold curB at hH
  rw [u8k]
  simp +contextual -dsimp (disch := omega) only [↓goDown, goUp, cr, simprocAttr, hH, u9e]
  all_goals rfl
theorem uom {H : Heap} {r v : PV} {q e : Nat} (he : e ≠ 0) :
    run (C u3s [r, v, .int .i64 q, .int .i64 e]) H = some (.pan (flt q e) H) := by
  rw [u8k]
  have c0 : ¬ (e : Int) = 0 := by omega
  simp +contextual -dsimp (disch := omega) only [↓goDown, goUp, cr, simprocAttr, c0, u5i]
  all_goals rfl
theorem ut7 {H : Heap} {b : List UInt8} {z : Bool} {c p q : Nat} {v : Int} (hH : hget H c = some (curB z b p)) :
    run (C u4c [.ptr c 0, .int .i64 v, .int .i64 q, .int .i64 0]) H = some (.ok (.int .i64 v) (hset H c (curB z b q))) := by
  have hid := get_lt hH
  unfold curB at hH
  rw [u8x]
  simp +contextual -dsimp (disch := omega) only [↓goDown, goUp, cr, simprocAttr, hH, ua9]
  all_goals rfl
theorem upk {H : Heap} {r v : PV} {q e : Nat} (he : e ≠ 0) :
    run (C u4c [r, v, .int .i64 q, .int .i64 e]) H = some (.pan (flt q e) H) := by
  rw [u8x]
  have c0 : ¬ (e : Int) = 0 := by omega
  simp +contextual -dsimp (disch := omega) only [↓goDown, goUp, cr, simprocAttr, c0, u5i]
  all_goals rfl
theorem upy {b : List UInt8} {B e : Nat} : ∀ (f i n p : Nat) a w, lebU b B e f i n p = .err a w → w = 3 ∨ w = 4
  | 0, i, n, p, a, w, h => by cases h; exact .inr rfl
  | f + 1, i, n, p, a, w, h => by
    unfold lebU at h
    by_cases h1 : p < e
    · simp only [if_pos h1] at h
      by_cases h2 : B < 7 * i + 7 ∧ (b.getD p 0).toNat / 2 ^ (B - 7 * i) ≠ 0
      · simp only [if_pos h2, Rs.err.injEq] at h; exact .inr h.2.symm
      · simp only [if_neg h2] at h
        by_cases h3 : (b.getD p 0).toNat < 128
        · simp only [if_pos h3] at h; cases h
        · simp only [if_neg h3] at h; exact upy f _ _ _ a w h
    · simp only [if_neg h1, Rs.err.injEq] at h; exact .inl h.2.symm
theorem uqf {b : List UInt8} {B e : Nat} : ∀ (f i n p : Nat) a w, lebS b B e f i n p = .err a w → w = 3 ∨ w = 4
  | 0, i, n, p, a, w, h => by cases h; exact .inr rfl
  | f + 1, i, n, p, a, w, h => by
    unfold lebS at h
    by_cases h1 : p < e
    · simp only [if_pos h1] at h
      by_cases h2 : B < 7 * i + 7 ∧ ¬ okS (B - 7 * i) (b.getD p 0).toNat
      · simp only [if_pos h2, Rs.err.injEq] at h; exact .inr h.2.symm
      · simp only [if_neg h2] at h
        by_cases h3 : (b.getD p 0).toNat < 128
        · simp only [if_pos h3] at h; cases h
        · simp only [if_neg h3] at h; exact uqf f _ _ _ a w h
    · simp only [if_neg h1, Rs.err.injEq] at h; exact .inl h.2.symm
theorem uk4 {b : List UInt8} {B e p a w : Nat} (h : rdU b B e p = .err a w) : w ≠ 0 := by have := upy 10 0 0 p a w h; omega
theorem v00n {b : List UInt8} {B e p a w : Nat} (h : rdS b B e p = .err a w) : w ≠ 0 := by have := uqf 10 0 0 p a w h; omega
def rU32 (b : List UInt8) (p : Nat) : Rs Nat := rdU b 32 b.length p
theorem u32_is {H : Heap} {b : List UInt8} {z : Bool} {c p : Nat} (hH : hget H c = some (curB z b p)) (hb : b.length < 2 ^ 61) (hp : p ≤ b.length) :
    run (C u1r [.ptr c 0]) H = outC z b c H p (fun x : Nat => .int .u32 x) (rU32 b p) := by
  have hid := get_lt hH
  have hset := u1g hH
  have h1 := uj2 (H := H) (b := b) (z := z) (p := p) (Nat.le_refl _) hb hp
  have g1 := fun (q v : Nat) => ute (q := q) (v := v) hH
  rw [ucy]
  unfold rU32
  unfold curB at hH
  cases hr : rdU b 32 b.length p with
  | ok v q =>
    rw [hr] at h1
    simp only [retK] at h1
    simp only [outC]
    simp +contextual -dsimp (disch := omega) only [↓goDown, goUp, cr, simprocAttr, hH, h1, g1, List.length_map]
  | err a w =>
    rw [hr] at h1
    simp only [retK] at h1
    simp only [outC, hset]
    have g2 := fun (u : PV) => uom (H := H) (r := .ptr c 0) (v := u) (q := a) (uk4 hr)
    simp +contextual -dsimp (disch := omega) only [↓goDown, goUp, cr, simprocAttr, hH, h1, g2, List.length_map]
    all_goals rfl
def rS33 (b : List UInt8) (p : Nat) : Rs Int :=
  match rdS b 33 b.length p with
  | .ok n q => if n < 0 then .err p 4 else if 2147483647 < n then .err p 2 else .ok n q
  | .err a w => .err a w
theorem s33_is {H : Heap} {b : List UInt8} {z : Bool} {c p : Nat} (hH : hget H c = some (curB z b p)) (hb : b.length < 2 ^ 61) (hp : p ≤ b.length) :
    ∃ q, run (C u56 [.ptr c 0]) H = outC z b c H q (fun x : Int => .int .i64 x) (rS33 b p) := by
  have hid := get_lt hH
  have hset := u1g hH
  have hs' : Pi.hset H c (.cells [BS z b, .int .i64 p]) = H := hset
  have h1 := usz (H := H) (b := b) (z := z) (p := p) (Nat.le_refl _) hb hp
  have g1 := fun (q : Nat) (v : Int) => ut7 (q := q) (v := v) hH
  rw [ud2]
  unfold rS33
  unfold curB at hH
  cases hr : rdS b 33 b.length p with
  | ok v q =>
    have hv := rdS_lt hr
    rw [hr] at h1
    simp only [retS] at h1
    refine ⟨q, ?_⟩
    by_cases n1 : v < 0
    · simp only [n1, if_true, outC]
      simp +contextual -dsimp (disch := omega) only [↓goDown, goUp, cr, simprocAttr, hH, hs', h1, g1, List.length_map, n1, u5i]
      all_goals rfl
    · by_cases n2 : 2147483647 < v
      · simp only [n1, n2, if_true, if_false, outC]
        simp +contextual -dsimp (disch := omega) only [↓goDown, goUp, cr, simprocAttr, hH, hs', h1, g1, List.length_map, n1, n2, u5i]
        all_goals rfl
      · simp only [n1, n2, if_true, if_false, outC]
        simp +contextual -dsimp (disch := omega) only [↓goDown, goUp, cr, simprocAttr, hH, hs', h1, g1, List.length_map, n1, n2, u8e]
  | err a w =>
    rw [hr] at h1
    simp only [retS] at h1
    refine ⟨p, ?_⟩
    simp only [outC, hset]
    have g2 := fun (u : PV) => upk (H := H) (r := .ptr c 0) (v := u) (q := a) (v00n hr)
    simp +contextual -dsimp (disch := omega) only [↓goDown, goUp, cr, simprocAttr, hH, hs', h1, g2, List.length_map]
    all_goals rfl
def hname (c : Nat) : Int :=
  if c = 115 then -2 else if c = 114 then -4 else if c = 113 then -10 else if c = 112 then -1 else if c = 111 then -3 else if c = 110 then -5 else if c = 109 then -6 else if c = 108 then -7 else if c = 107 then -8 else if c = 106 then -9 else if c = 105 then -11 else if c = 116 then -12 else 0
theorem uhe {H : Heap} : run (C u4x []) H = some (.ok (.agg [.int .i64 (-11), .int .i64 (-9), .int .i64 (-8), .int .i64 (-7), .int .i64 (-6), .int .i64 (-5), .int .i64 (-3), .int .i64 (-1), .int .i64 (-10), .int .i64 (-4), .int .i64 (-2), .int .i64 (-12)]) H) := by
  rw [uec]
  simp +contextual -dsimp (disch := omega) only [↓goDown, goUp, cr, simprocAttr]
theorem uxc {len : Nat} {cs : List PV} {k : IntKind} {n : Int} {H : Heap} : run (ixA len 1 none (.agg cs) (.int k n)) H = if 0 ≤ n ∧ n < len then ldFR H (nth cs n.toNat) else none := by
  unfold run ixA fd
  by_cases h : 0 ≤ n ∧ n < len
  · have h1 : (decide (0 ≤ n) && decide (n < (len : Int))) = true := by simp [h]
    rw [if_pos h]
    simp only [h1, cond_true, Nat.mul_one, nth_is]
    cases nth cs n.toNat <;> rfl
  · have h1 : (decide (0 ≤ n) && decide (n < (len : Int))) = false := by
      rw [Bool.and_eq_false_iff]
      by_cases h0 : 0 ≤ n
      · right; simp; omega
      · left; simp; omega
    rw [if_neg h]
    simp only [h1, cond_false]
    rfl
theorem ub3 {c : Nat} (h : c < 105 ∨ 116 < c) : hname c = 0 := by
  unfold hname
  rw [if_neg (by omega), if_neg (by omega), if_neg (by omega), if_neg (by omega), if_neg (by omega), if_neg (by omega), if_neg (by omega), if_neg (by omega), if_neg (by omega), if_neg (by omega), if_neg (by omega), if_neg (by omega)]
theorem upv {H : Heap} {c : Nat} (hc : c < 256) : run (C u7x [.int .u8 c]) H = some (.ok (.int .i64 (hname c)) H) := by
  rw [uic]
  by_cases h1 : c < 105
  · have c1 : (c : Int) < 105 := by omega
    have : hname c = 0 := ub3 (.inl h1)
    rw [this]
    simp +contextual -dsimp (disch := omega) only [↓goDown, goUp, cr, simprocAttr, c1]
  · by_cases h2 : 116 < c
    · have c1 : ¬ (c : Int) < 105 := by omega
      have c2 : (116 : Int) < c := by omega
      have : hname c = 0 := ub3 (.inr h2)
      rw [this]
      simp +contextual -dsimp (disch := omega) only [↓goDown, goUp, cr, simprocAttr, c1, c2]
    · have h : c = 105 ∨ c = 106 ∨ c = 107 ∨ c = 108 ∨ c = 109 ∨ c = 110 ∨ c = 111 ∨ c = 112 ∨ c = 113 ∨ c = 114 ∨ c = 115 ∨ c = 116 := by omega
      rcases h with rfl | rfl | rfl | rfl | rfl | rfl | rfl | rfl | rfl | rfl | rfl | rfl <;>
        simp +contextual -dsimp (disch := omega) only [↓goDown, goUp, cr, simprocAttr, uhe, uxc, Int.cast_ofNat_Int, hname] <;> rfl
end Go.Proofs.YthnmienjiangkaaGreatDoor.Pi.Q
namespace Go.Proofs.YthnmienjiangkaaGreatDoor.Pi.Q
open Go Go.Proofs.YthnmienjiangkaaGreatDoor.Pi
attribute [local congr] ite_congr
theorem ubb {H : Heap} {b : List UInt8} {z : Bool} {c p : Nat} (hH : hget H c = some (curB z b p)) (hb : b.length < 2 ^ 61) (hp : p < b.length) :
    run (C u0h [.ptr c 0]) H = some (.ok (.int .u8 (b.getD p 0).toNat) H) := by
  rw [uu3 hH hb]
  unfold rLook
  rw [if_pos hp]
  simp only [outC, u1g hH]
theorem u8t {H : Heap} {b : List UInt8} {z : Bool} {c p : Nat} (hH : hget H c = some (curB z b p)) (hb : b.length < 2 ^ 61) (hp : ¬ p < b.length) :
    run (C u0h [.ptr c 0]) H = some (.pan (flt b.length 3) H) := by
  rw [uu3 hH hb]
  unfold rLook
  rw [if_neg hp]
  simp only [outC, u1g hH]
def rHeap (b : List UInt8) (p : Nat) : Rs Int :=
  if p < b.length then
    if hname (b.getD p 0).toNat ≠ 0 then .ok (hname (b.getD p 0).toNat) (p + 1) else rS33 b p
  else .err b.length 3
theorem u10 {n a w : Nat} : (flt a w).low n = true := by simp [flt, udk, uam, u5b, u6u, u7o]
theorem v00d {H : Heap} {b : List UInt8} {z : Bool} {c p : Nat} (hH : hget H c = some (curB z b p)) (hb : b.length < 2 ^ 61) (hp : p ≤ b.length) :
    ∃ q, run (C u6b [.ptr c 0]) H = outC z b c H q (fun x : Int => .int .i64 x) (rHeap b p) := by
  have hid := get_lt hH
  have hset := u1g hH
  rw [ubx]
  unfold rHeap
  by_cases h1 : p < b.length
  · have hl := ubb hH hb h1
    have hc := byt_lt (b.getD p 0)
    rw [if_pos h1]
    generalize (b.getD p 0).toNat = x at hl hc ⊢
    have hn := upv (H := H) hc
    by_cases h2 : hname x = 0
    · obtain ⟨q, hs⟩ := s33_is hH hb hp
      refine ⟨q, ?_⟩
      rw [if_neg (by simpa using h2)]
      cases hr : rS33 b p with
      | ok v q' =>
        rw [hr] at hs
        simp only [outC] at hs ⊢
        simp +contextual -dsimp (disch := omega) only [↓goDown, goUp, cr, simprocAttr, hl, hn, h2, hs]
      | err a w =>
        rw [hr] at hs
        simp only [outC] at hs ⊢
        simp +contextual -dsimp (disch := omega) only [↓goDown, goUp, cr, simprocAttr, hl, hn, h2, hs, u10]
    · refine ⟨p, ?_⟩
      rw [if_pos (by simpa using h2)]
      simp only [outC]
      unfold curB at hH ⊢
      simp +contextual -dsimp (disch := omega) only [↓goDown, goUp, cr, simprocAttr, hl, hn, h2, hH]
      all_goals rfl
  · refine ⟨p, ?_⟩
    have hl := u8t hH hb h1
    rw [if_neg h1]
    simp only [outC, hset]
    simp +contextual -dsimp (disch := omega) only [↓goDown, goUp, cr, simprocAttr, hl, u10]
structure VT where
  num : Int
  nul : Bool
  heap : Int
  deriving DecidableEq
def encV (v : VT) : PV := .agg [.int .i64 v.num, .bool v.nul, .int .i64 v.heap]
def rRef (b : List UInt8) (p : Nat) : Rs VT :=
  if p < b.length then
    let x := (b.getD p 0).toNat
    if hname x ≠ 0 then .ok ⟨5, true, hname x⟩ (p + 1)
    else if x ≠ 99 ∧ x ≠ 100 then .err p 4
    else match rHeap b (p + 1) with
      | .ok h q => .ok ⟨5, x == 99, h⟩ q
      | .err a w => .err a w
  else .err b.length 3
theorem ns (p : Nat) : ((p + 1 : Nat) : Int) = (p : Int) + 1 := rfl
theorem ref_is {H : Heap} {b : List UInt8} {z : Bool} {c p : Nat} (hH : hget H c = some (curB z b p)) (hb : b.length < 2 ^ 61) (hp : p ≤ b.length) :
    ∃ q, run (C u2q [.ptr c 0]) H = outC z b c H q encV (rRef b p) := by
  have hid := get_lt hH
  have hset := u1g hH
  rw [uce]
  unfold rRef
  have hH1 : ∀ L, hget (hadd H L) c = some (curB z b p) := fun L => by rw [u5a hid]; exact hH
  by_cases h1 : p < b.length
  · have hl := fun L => ubb (hH1 L) hb h1
    have hc := byt_lt (b.getD p 0)
    rw [if_pos h1]
    generalize (b.getD p 0).toNat = x at hl hc ⊢
    have hn := fun L => upv (H := hadd H L) hc
    by_cases h2 : hname x = 0
    · simp only [h2, ne_eq, not_true_eq_false, if_false]
      by_cases h3 : ¬ x = 99 ∧ ¬ x = 100
      · refine ⟨p, ?_⟩
        rw [if_pos h3]
        have c1 : ¬ (x : Int) = 99 := by omega
        have c2 : ¬ (x : Int) = 100 := by omega
        simp only [outC, hset]
        unfold curB at hH
        simp +contextual -dsimp (disch := omega) only [↓goDown, goUp, cr, simprocAttr, hl, hn, h2, hH, c1, c2, u5i]
        all_goals rfl
      · rw [if_neg h3]
        have hH2 : ∀ L, hget (hadd (Pi.hset H c (curB z b (p + 1))) L) c = some (curB z b (p + 1)) := fun L => by
          rw [ubm hid, u4z hid]
        obtain ⟨q, hk⟩ := v00d (hH2 [.cells [.int .i64 0, .bool false, .int .i64 0]]) hb (by omega)
        refine ⟨q, ?_⟩
        have so : ∀ u L, Pi.hset (hadd (Pi.hset H c (curB z b (p + 1))) L) c (curB z b u) = hadd (Pi.hset H c (curB z b u)) L := fun u L => by
          rw [u7v hid, set_set]
        have fin : ∀ (t : Bool), ((x : Int) == 99) = t → (((x : Int) = 99) = (t = true)) → ((x == 99) = t) → (((x : Int) = 99) ∨ ((x : Int) = 100)) →
            truncR H (run (u33 (.ptr c 0) (.ptr H.length 0) (.int .u8 x)) (hadd H [.cells [.int .i64 0, .bool false, .int .i64 0]])) = outC z b c H q encV (match rHeap b (p + 1) with | .ok h q => .ok ⟨5, x == 99, h⟩ q | .err a w => .err a w) := by
          intro t ht ht2 ht3 ho
          rw [ht3]
          cases hr : rHeap b (p + 1) with
          | ok v q' =>
            rw [hr] at hk
            simp only [outC, so] at hk ⊢
            unfold curB at hH hk ⊢
            simp only [ns] at hk
            simp +contextual -dsimp (disch := omega) only [↓goDown, goUp, cr, simprocAttr, hH, hk, u5s, ht]
            all_goals rfl
          | err a w =>
            rw [hr] at hk
            simp only [outC, so] at hk ⊢
            unfold curB at hH hk ⊢
            simp only [ns] at hk
            simp +contextual -dsimp (disch := omega) only [↓goDown, goUp, cr, simprocAttr, hH, hk, u5s, ht, u10]
        by_cases c1 : x = 99
        · have e1 : ((x : Int) = 99) = True := eq_true (by omega)
          have e2 : ((x : Int) == 99) = true := by simpa using e1
          have e3 : (x == 99) = true := by simpa using c1
          refine Eq.trans ?_ (fin true e2 (by simp [e1]) e3 (.inl (by omega)))
          simp +contextual -dsimp (disch := omega) only [↓goDown, goUp, cr, simprocAttr, hl, hn, h2, e1]
        · have e1 : ((x : Int) = 99) = False := eq_false (by omega)
          have e2 : ((x : Int) == 99) = false := by simpa using e1
          have e3 : (x == 99) = false := by simpa using c1
          have e4 : ((x : Int) = 100) = True := eq_true (by omega)
          refine Eq.trans ?_ (fin false e2 (by simp [e1]) e3 (.inr (by omega)))
          simp +contextual -dsimp (disch := omega) only [↓goDown, goUp, cr, simprocAttr, hl, hn, h2, e1, e4]
    · refine ⟨p, ?_⟩
      rw [if_pos (by simpa using h2)]
      simp only [outC]
      unfold curB at hH ⊢
      simp +contextual -dsimp (disch := omega) only [↓goDown, goUp, cr, simprocAttr, hl, hn, h2, hH, ns]
      all_goals rfl
  · refine ⟨p, ?_⟩
    have hl := fun L => u8t (hH1 L) hb h1
    rw [if_neg h1]
    simp only [outC, hset]
    simp +contextual -dsimp (disch := omega) only [↓goDown, goUp, cr, simprocAttr, hl, u10]
end Go.Proofs.YthnmienjiangkaaGreatDoor.Pi.Q
namespace Go.Proofs.YthnmienjiangkaaGreatDoor.Pi.Q
open Go Go.Proofs.YthnmienjiangkaaGreatDoor.Pi
attribute [local congr] ite_congr
theorem v00z {b : List UInt8} {p q : Nat} {v : Int} (h : rS33 b p = .ok v q) : q ≤ b.length ∧ 0 ≤ v ∧ v ≤ 2147483647 := by
  unfold rS33 at h
  cases hr : rdS b 33 b.length p with
  | ok n q' =>
    rw [hr] at h
    dsimp only at h
    have := rdS_lt hr
    split at h
    · cases h
    · split at h
      · cases h
      · simp only [Rs.ok.injEq] at h
        obtain ⟨rfl, rfl⟩ := h
        omega
  | err a w => rw [hr] at h; cases h
theorem uzc (c : Nat) : -12 ≤ hname c ∧ hname c ≤ 0 := by
  unfold hname
  repeat' (split; omega)
  omega
theorem uyl {b : List UInt8} {p q : Nat} {v : Int} (h : rHeap b p = .ok v q) : q ≤ b.length ∧ -12 ≤ v ∧ v ≤ 2147483647 := by
  unfold rHeap at h
  split at h
  · split at h
    · simp only [Rs.ok.injEq] at h
      obtain ⟨rfl, rfl⟩ := h
      have := uzc (b.getD p 0).toNat
      omega
    · have := v00z h; omega
  · cases h
theorem uvy {b : List UInt8} {p q : Nat} {v : VT} (h : rRef b p = .ok v q) : q ≤ b.length := by
  unfold rRef at h
  split at h
  · dsimp only at h
    split at h
    · simp only [Rs.ok.injEq] at h; omega
    · split at h
      · cases h
      · cases hr : rHeap b (p + 1) with
        | ok n q' => rw [hr] at h; simp only [Rs.ok.injEq] at h; have := uyl hr; omega
        | err a w => rw [hr] at h; cases h
  · cases h
theorem uo9 {v : VT} : strip (encV v) = encV v := nrfl rfl
theorem uyb {v : VT} : stripC (encV v) = encV v := nrfl rfl
theorem uoa {v : VT} : isTup (encV v) = false := nrfl rfl
theorem uh9 {v : VT} : (encV v).cells = [.int .i64 v.num, .bool v.nul, .int .i64 v.heap] := nrfl rfl
theorem low_V {v : VT} {n : Nat} : (encV v).low n = true := by simp [encV, uam, u5b, u6u, u7o, ubq]
def rVal (b : List UInt8) (p : Nat) : Rs VT :=
  if p < b.length then
    if (b.getD p 0).toNat = 123 then .err p 8
    else if 124 ≤ (b.getD p 0).toNat ∧ (b.getD p 0).toNat ≤ 127 then .ok ⟨128 - (b.getD p 0).toNat, false, 0⟩ (p + 1)
    else rRef b p
  else .err b.length 3
theorem ukm {b : List UInt8} {p q : Nat} {v : VT} (h : rVal b p = .ok v q) : q ≤ b.length := by
  unfold rVal at h
  split at h
  · split at h
    · cases h
    · split at h
      · simp only [Rs.ok.injEq] at h; omega
      · exact uvy h
  · cases h
theorem val_is {H : Heap} {b : List UInt8} {z : Bool} {c p : Nat} (hH : hget H c = some (curB z b p)) (hb : b.length < 2 ^ 61) (hp : p ≤ b.length) :
    ∃ q, run (C u0x [.ptr c 0]) H = outC z b c H q encV (rVal b p) := by
  have hid := get_lt hH
  have hset := u1g hH
  rw [ucn]
  unfold rVal
  have hH1 : ∀ L, hget (hadd H L) c = some (curB z b p) := fun L => by rw [u5a hid]; exact hH
  by_cases h1 : p < b.length
  · have hl := fun L => ubb (hH1 L) hb h1
    have hc := byt_lt (b.getD p 0)
    rw [if_pos h1]
    generalize (b.getD p 0).toNat = x at hl hc ⊢
    by_cases h2 : x = 123
    · refine ⟨p, ?_⟩
      rw [if_pos h2]
      have c1 : (x : Int) = 123 := by omega
      simp only [outC, hset]
      unfold curB at hH
      simp +contextual -dsimp (disch := omega) only [↓goDown, goUp, cr, simprocAttr, hl, eq_true c1, hH, u5i]
      all_goals rfl
    · rw [if_neg h2]
      have c1 : ¬ (x : Int) = 123 := by omega
      by_cases h3 : 124 ≤ x ∧ x ≤ 127
      · refine ⟨p, ?_⟩
        rw [if_pos h3]
        have c2 : (124 : Int) ≤ x := by omega
        have c3 : (x : Int) ≤ 127 := by omega
        simp only [outC]
        unfold curB at hH ⊢
        simp +contextual -dsimp (disch := omega) only [↓goDown, goUp, cr, simprocAttr, hl, c1, c2, c3, hH, ns]
        all_goals rfl
      · rw [if_neg h3]
        obtain ⟨q, hk⟩ := ref_is (hH1 [.cells [.int .i64 0, .bool false, .int .i64 0]]) hb hp
        refine ⟨q, ?_⟩
        have so : ∀ u L, Pi.hset (hadd H L) c (curB z b u) = hadd (Pi.hset H c (curB z b u)) L := fun u L => by rw [u9y hid]
        have e3 : ((124 : Int) ≤ x) = (124 ≤ x) := by rw [eq_iff_iff]; omega
        have e4 : ((x : Int) ≤ 127) = (x ≤ 127) := by rw [eq_iff_iff]; omega
        by_cases h4 : 124 ≤ x
        · have h5 : ¬ x ≤ 127 := fun h => h3 ⟨h4, h⟩
          cases hr : rRef b p <;> rw [hr] at hk <;> simp only [outC, so] at hk ⊢ <;>
            simp +contextual -dsimp (disch := omega) only [↓goDown, goUp, cr, simprocAttr, hl, c1, e3, e4, h4, h5, hk, u5y, u10, uo9, uoa, uh9, low_V] <;> rfl
        · cases hr : rRef b p <;> rw [hr] at hk <;> simp only [outC, so] at hk ⊢ <;>
            simp +contextual -dsimp (disch := omega) only [↓goDown, goUp, cr, simprocAttr, hl, c1, e3, e4, h4, hk, u5y, u10, uo9, uoa, uh9, low_V] <;> rfl
  · refine ⟨p, ?_⟩
    have hl := fun L => u8t (hH1 L) hb h1
    rw [if_neg h1]
    simp only [outC, hset]
    simp +contextual -dsimp (disch := omega) only [↓goDown, goUp, cr, simprocAttr, hl, u10]
def rsCons {α : Type} (v : α) : Rs (List α) → Rs (List α)
  | .ok l q => .ok (v :: l) q
  | .err a w => .err a w
def rRep {α : Type} (one : Nat → Rs α) : Nat → Nat → Rs (List α)
  | 0, p => .ok [] p
  | n + 1, p => match one p with
    | .ok v q => rsCons v (rRep one n q)
    | .err a w => .err a w
def rList {α : Type} (b : List UInt8) (most : Nat) (one : Nat → Rs α) (p : Nat) : Rs (List α) :=
  match rU32 b p with
  | .ok n q => if most < n then .err p 2 else rRep one n q
  | .err a w => .err a w
def accP (sz : Nat) (l : List PV) : PV := match l with | [] => .slice false true 0 [] | l => .slice true false sz l
theorem ap_acc {H : Heap} {sz b : Nat} {l : List PV} {v : PV} {o : Bool} (h : (l.length + 1) * max b 1 ≤ 140737488355328) :
    run (ap true sz b (accP sz l) (.slice o false sz [v])) H = some (.ok (accP sz (l ++ [v])) H) := by
  cases l with
  | nil =>
    unfold accP run ap tail growB
    have h2 : max b 1 ≤ 140737488355328 := by simpa using h
    simp [h2, M.pure]
  | cons x r =>
    unfold accP run ap tail growB
    have h2 : ((x :: r).length + [v].length) * max b 1 ≤ 140737488355328 := by simpa using h
    simp only [beq_self_eq_true, Bool.or_true, cond_true, cond_false, Bool.true_and, decide_eq_true h2]
    rfl
theorem bs_agg {H : Heap} {n : Nat} {cs : List PV} (h1 : flatL cs = true) (h2 : cs.length = n) : run (bs true (some n) [.agg cs]) H = some (.ok (.slice true false n [.agg cs]) H) := by
  unfold run bs u2g
  have : (PV.agg cs).flat = true := by simp only [PV.flat]; exact h1
  simp [stripC, this, h2, M.pure]
theorem u2a {sz : Nat} {l : List PV} : isTup (accP sz l) = false := by unfold accP; split <;> rfl
theorem u69 {sz n : Nat} {l : List PV} : (accP sz l).low n = true := by unfold accP; split <;> simp [ub4]
theorem u8n {sz : Nat} {l : List PV} : (accP sz l).cells = [accP sz l] := by unfold accP; split <;> rfl
theorem u7b {sz : Nat} {l : List PV} : isCell (accP sz l) = true := by unfold accP; split <;> rfl
theorem uf7 {b : List UInt8} {z : Bool} (hb : b.length < 2 ^ 61) {one : PV} {c : Nat} {v6 : PV} (hone : ∀ H p, hget H c = some (curB z b p) → p ≤ b.length → ∃ q, run (callV P C (strip one) []) H = outC z b c H q encV (rVal b p)) :
    ∀ (m i n p : Nat) (acc : List VT) (H : Heap), hget H c = some (curB z b p) → p ≤ b.length → n = i + m → acc.length = i → n ≤ 1000000 →
      ∃ q, run (u0y one v6 (accP 3 (acc.map encV)) (.int .u32 n) (.int .u32 i)) H = outC z b c H q (fun l => accP 3 ((acc ++ l).map encV)) (rRep (rVal b) m p)
  | 0, i, n, p, acc, H, hH, hp, hn, ha, hm => by
    refine ⟨p, ?_⟩
    rw [u37]
    have c1 : ¬ (i : Int) < n := by omega
    have hset := u1g hH
    unfold rRep
    simp only [outC, hset, List.append_nil]
    simp +contextual -dsimp (disch := omega) only [↓goDown, goUp, cr, simprocAttr, c1, u2a]
  | m + 1, i, n, p, acc, H, hH, hp, hn, ha, hm => by
    rw [u37]
    have c1 : (i : Int) < n := by omega
    have hid := get_lt hH
    obtain ⟨q, h1⟩ := hone H p hH hp
    unfold rRep
    cases hr : rVal b p with
    | err a w =>
      rw [hr] at h1
      simp only [outC] at h1
      refine ⟨q, ?_⟩
      simp only [outC]
      simp +contextual -dsimp (disch := omega) only [↓goDown, goUp, cr, simprocAttr, c1, h1]
    | ok v q' =>
      rw [hr] at h1
      simp only [outC] at h1
      have hl := ukm hr
      obtain ⟨q2, h2⟩ := uf7 hb hone m (i + 1) n q' (acc ++ [v]) (Pi.hset H c (curB z b q')) (u4z hid) hl (by omega) (by simp [ha]) hm
      refine ⟨q2, ?_⟩
      have hbs := fun K => bs_agg (H := K) (n := 3) (cs := [.int .i64 v.num, .bool v.nul, .int .i64 v.heap]) (by simp [flatL, PV.flat]) rfl
      have hbs : ∀ K, run (bs true (some 3) [encV v]) K = some (.ok (.slice true false 3 [encV v]) K) := hbs
      have hap := fun K => ap_acc (H := K) (sz := 3) (b := 24) (l := acc.map encV) (v := encV v) (o := true) (by simp [ha]; omega)
      have e1 : accP 3 (acc.map encV ++ [encV v]) = accP 3 ((acc ++ [v]).map encV) := by simp
      have e2 : (i : Int) + 1 = ((i + 1 : Nat) : Int) := rfl
      rw [e1] at hap
      have hrr : outC z b c (Pi.hset H c (curB z b q')) q2 (fun l => accP 3 ((acc ++ [v] ++ l).map encV)) (rRep (rVal b) m q') = outC z b c H q2 (fun l => accP 3 ((acc ++ l).map encV)) (rsCons v (rRep (rVal b) m q')) := by
        cases rRep (rVal b) m q' <;> simp only [outC, set_set, rsCons] <;> simp
      simp +contextual -dsimp (disch := omega) only [↓goDown, goUp, cr, simprocAttr, c1, h1, hbs, hap, e2, uo9, uyb, uoa, low_V]
      rw [h2]
      exact hrr
theorem uan {b : List UInt8} {p q v : Nat} (h : rU32 b p = .ok v q) : q ≤ b.length ∧ v < 2 ^ 32 := by have := udj h; omega
theorem uuw {α : Type} {one : Nat → Rs α} {e : Nat} (h1 : ∀ p v q, one p = .ok v q → q ≤ e) : ∀ n p l q, p ≤ e → rRep one n p = .ok l q → q ≤ e ∧ l.length = n
  | 0, p, l, q, hp, h => by unfold rRep at h; cases h; exact ⟨hp, rfl⟩
  | n + 1, p, l, q, hp, h => by
    unfold rRep at h
    cases hr : one p with
    | ok v q1 =>
      rw [hr] at h
      dsimp only at h
      cases hs : rRep one n q1 with
      | ok l2 q2 =>
        rw [hs] at h
        simp only [rsCons, Rs.ok.injEq] at h
        obtain ⟨rfl, rfl⟩ := h
        obtain ⟨a1, a2⟩ := uuw h1 n q1 l2 q2 (h1 _ _ _ hr) hs
        exact ⟨a1, by simp [a2]⟩
      | err a w => rw [hs] at h; cases h
    | err a w => rw [hr] at h; cases h
theorem ujz {α : Type} {b : List UInt8} {most : Nat} {one : Nat → Rs α} (h1 : ∀ p v q, one p = .ok v q → q ≤ b.length) {p : Nat} {l : List α} {q : Nat} (h : rList b most one p = .ok l q) : q ≤ b.length ∧ l.length ≤ most := by
  unfold rList at h
  cases hr : rU32 b p with
  | ok n q1 =>
    rw [hr] at h
    dsimp only at h
    have := uan hr
    split at h
    · cases h
    · obtain ⟨a1, a2⟩ := uuw h1 n q1 l q (by omega) h
      exact ⟨a1, by omega⟩
  | err a w => rw [hr] at h; cases h
theorem usu {b : List UInt8} {z : Bool} (hb : b.length < 2 ^ 61) {one : PV} {c most : Nat} (hmost : most ≤ 1000000) (hone : ∀ H p, hget H c = some (curB z b p) → p ≤ b.length → ∃ q, run (callV P C (strip one) []) H = outC z b c H q encV (rVal b p))
    {H : Heap} {p : Nat} (hH : hget H c = some (curB z b p)) (hp : p ≤ b.length) :
    ∃ q, run (C u1d [.ptr c 0, .int .u32 most, one]) H = outC z b c H q (fun l => accP 3 (l.map encV)) (rList b most (rVal b) p) := by
  have hid := get_lt hH
  have hset := u1g hH
  have hs' : Pi.hset H c (.cells [BS z b, .int .i64 p]) = H := hset
  have h1 := u32_is hH hb hp
  rw [u9d]
  unfold rList
  cases hr : rU32 b p with
  | err a w =>
    rw [hr] at h1
    simp only [outC, hset] at h1
    refine ⟨p, ?_⟩
    simp only [outC, hset]
    unfold curB at hH
    simp +contextual -dsimp (disch := omega) only [↓goDown, goUp, cr, simprocAttr, hH, hs', h1, u10]
  | ok n q =>
    have hn := uan hr
    rw [hr] at h1
    simp only [outC] at h1
    have hH2 : hget (Pi.hset H c (curB z b q)) c = some (curB z b q) := u4z hid
    by_cases h2 : most < n
    · refine ⟨q, ?_⟩
      have c1 : (most : Int) < n := by omega
      simp only [h2, if_true, outC]
      unfold curB at hH h1 ⊢
      simp +contextual -dsimp (disch := omega) only [↓goDown, goUp, cr, simprocAttr, hH, hs', h1, c1, u5i]
      all_goals rfl
    · have c1 : ¬ (most : Int) < n := by omega
      obtain ⟨q2, h3⟩ := uf7 hb (v6 := .slice false true 0 []) hone n 0 n q [] (Pi.hset H c (curB z b q)) hH2 hn.1 (by omega) rfl (by omega)
      have h3 : run (u0y one (.slice false true 0 []) (.slice false true 0 []) (.int .u32 n) (.int .u32 0)) (Pi.hset H c (curB z b q)) = outC z b c (Pi.hset H c (curB z b q)) q2 (fun l => accP 3 (l.map encV)) (rRep (rVal b) n q) := h3
      refine ⟨q2, ?_⟩
      simp only [h2, if_false]
      cases hr2 : rRep (rVal b) n q <;> rw [hr2] at h3 <;> simp only [outC, set_set] at h3 ⊢ <;> unfold curB at hH h1 h3 ⊢ <;>
        simp +contextual -dsimp (disch := omega) only [↓goDown, goUp, cr, simprocAttr, hH, hs', h1, c1, u72, h3, u69, u10, u2a]
def rVals (b : List UInt8) (p : Nat) : Rs (List VT) := rList b 1000 (rVal b) p
def encL (l : List VT) : PV := accP 3 (l.map encV)
theorem uv7 {b : List UInt8} {z : Bool} (hb : b.length < 2 ^ 61) {c : Nat} {H : Heap} {p : Nat} (hH : hget H c = some (curB z b p)) (hp : p ≤ b.length) :
    ∃ q, run (C u4l [.ptr c 0]) H = outC z b c H q encL (rVals b p) := by
  rw [uc0]
  obtain ⟨q, h⟩ := usu hb (one := .fn u0x [.ptr c 0] []) (most := 1000) (by omega) (fun H p hH hp => by
    obtain ⟨q, h⟩ := val_is hH hb hp
    exact ⟨q, h⟩) hH hp
  have h : run (C u1d [.ptr c 0, .int .u32 1000, .fn u0x [.ptr c 0] []]) H = outC z b c H q encL (rVals b p) := h
  refine ⟨q, ?_⟩
  have hmf : ∀ K, run (mf u0x [.ptr c 0] []) K = some (.ok (.fn u0x [.ptr c 0] []) K) := fun _ => rfl
  have hl : ∀ l n, (encL l).low n = true := fun _ _ => u69
  have ht : ∀ l, isTup (encL l) = false := fun _ => u2a
  cases hr : rVals b p <;> rw [hr] at h <;> simp only [outC] at h ⊢ <;>
    simp +contextual -dsimp (disch := omega) only [↓goDown, goUp, cr, simprocAttr, hmf, h, u10, hl, ht]
structure BK where
  ty : Int
  res : VT
  deriving DecidableEq
end Go.Proofs.YthnmienjiangkaaGreatDoor.Pi.Q
namespace Go.Proofs.YthnmienjiangkaaGreatDoor.Pi.Q
open Go Go.Proofs.YthnmienjiangkaaGreatDoor.Pi
attribute [local congr] ite_congr
theorem run_ta {H : Heap} {t : TypeId} {zv v : PV} : run (ta t zv false (.iface t v)) H = some (.ok v H) := by
  unfold run ta
  simp [M.pure]
theorem run_mf {H : Heap} {f : FuncId} {a b : List PV} : run (mf f a b) H = if (a.all isVal && b.all isVal) = true then some (.ok (.fn f (a.map stripC) (b.map stripC)) H) else none := by
  unfold run mf
  cases (a.all isVal && b.all isVal) <;> rfl
theorem bi_if {a : PV} {t : TypeId} {H : Heap} : run (bi .neq .iface (.iface t a) .niliface) H = some (.ok (.bool true) H) := nrfl rfl
theorem bi_ifn {H : Heap} : run (bi .neq .iface .niliface .niliface) H = some (.ok (.bool false) H) := nrfl rfl
theorem cutL {H : Heap} {L : List Box} (k : Nat) : hcut (hadd H L) (H.length + k) = hadd H (L.take k) := by unfold hcut hadd; rw [List.take_append, List.take_of_length_le (by omega), Nat.add_sub_cancel_left]
theorem uer {n k : Nat} : (n + (k + 1) == n) = false := by simp
def outR {α : Type} (enc : α → PV) (zero : PV) : Rs α → PV
  | .ok v p => .tup [enc v, .int .i64 p, .int .i64 0]
  | .err p e => .tup [zero, .int .i64 p, .int .i64 e]
def atPl (at_ : Int) (b : List UInt8) (zero r : PV) : PV := if at_ < 0 ∨ b.length < at_ then .tup [zero, .int .i64 0, .int .i64 1] else r
end Go.Proofs.YthnmienjiangkaaGreatDoor.Pi.Q
namespace Go.Proofs.YthnmienjiangkaaGreatDoor.Pi.Q
open Go Go.Proofs.YthnmienjiangkaaGreatDoor.Pi
attribute [local congr] ite_congr
def rsRef (t : Bool) : Rs Int → Rs VT
  | .ok h q => .ok ⟨5, t, h⟩ q
  | .err a w => .err a w
theorem uzh {c : Nat} (h : 105 ≤ c ∧ c ≤ 116) : hname c ≠ 0 := by
  have h : c = 105 ∨ c = 106 ∨ c = 107 ∨ c = 108 ∨ c = 109 ∨ c = 110 ∨ c = 111 ∨ c = 112 ∨ c = 113 ∨ c = 114 ∨ c = 115 ∨ c = 116 := by omega
  rcases h with rfl | rfl | rfl | rfl | rfl | rfl | rfl | rfl | rfl | rfl | rfl | rfl <;> decide
def rOf (any : Bool) (b : List UInt8) (p x : Nat) : Rs VT :=
  if x = 99 ∨ x = 100 then rsRef (x == 99) (rHeap b (p + 1))
  else if 105 ≤ x ∧ x ≤ 116 then .ok ⟨5, true, hname x⟩ (p + 1)
  else if any = true ∧ x = 123 then .err p 8
  else if any = true ∧ (124 ≤ x ∧ x ≤ 127) then .ok ⟨128 - x, false, 0⟩ (p + 1)
  else .err p 4
theorem uwf {b : List UInt8} {p : Nat} (h : p < b.length) : rRef b p = rOf false b p (b.getD p 0).toNat := by
  unfold rRef rOf
  rw [if_pos h]
  generalize (b.getD p 0).toNat = x
  dsimp only
  by_cases h1 : x = 99 ∨ x = 100
  · have hz : hname x = 0 := ub3 (by omega)
    have q3 : ¬ (x ≠ 99 ∧ x ≠ 100) := by omega
    rw [if_neg (fun h => h hz), if_neg q3, if_pos h1]
    cases rHeap b (p + 1) <;> rfl
  · rw [if_neg h1]
    by_cases h2 : 105 ≤ x ∧ x ≤ 116
    · rw [if_pos (uzh h2), if_pos h2]
    · have hz : hname x = 0 := ub3 (by omega)
      have q3 : (x ≠ 99 ∧ x ≠ 100) := by omega
      rw [if_neg (fun h => h hz), if_pos q3, if_neg h2, if_neg (by simp), if_neg (by simp)]
theorem v00u {b : List UInt8} {p : Nat} (h : p < b.length) : rVal b p = rOf true b p (b.getD p 0).toNat := by
  have hr := uwf h
  unfold rVal
  rw [if_pos h]
  unfold rOf at hr ⊢
  generalize (b.getD p 0).toNat = x at *
  by_cases h1 : x = 123
  · have q1 : ¬ (x = 99 ∨ x = 100) := by omega
    have q2 : ¬ (105 ≤ x ∧ x ≤ 116) := by omega
    rw [if_pos h1, if_neg q1, if_neg q2, if_pos ⟨rfl, h1⟩]
  · rw [if_neg h1]
    by_cases h2 : 124 ≤ x ∧ x ≤ 127
    · have q1 : ¬ (x = 99 ∨ x = 100) := by omega
      have q2 : ¬ (105 ≤ x ∧ x ≤ 116) := by omega
      rw [if_pos h2, if_neg q1, if_neg q2, if_neg (fun h => h1 h.2), if_pos ⟨rfl, h2⟩]
    · rw [if_neg h2, hr]
      simp only [h1, h2, and_false, if_false]
end Go.Proofs.YthnmienjiangkaaGreatDoor.Pi.Q
namespace Go.Proofs.YthnmienjiangkaaGreatDoor.Pi.Q
open Go Go.Proofs.YthnmienjiangkaaGreatDoor.Pi
attribute [local congr] ite_congr
theorem uim {at_ : Int} {b : List UInt8} {α : Type} {enc : α → PV} {zero : PV} {r : Rs α} (P : PV → Prop) (h1 : P (.tup [zero, .int .i64 0, .int .i64 1])) (h2 : ∀ v p, r = .ok v p → P (.tup [enc v, .int .i64 (p : Nat), .int .i64 0])) (h3 : ∀ a w, r = .err a w → P (.tup [zero, .int .i64 (a : Nat), .int .i64 (w : Nat)])) : P (atPl at_ b zero (outR enc zero r)) := by
  unfold atPl
  split
  · exact h1
  · cases hr : r with
    | ok v p => exact h2 v p hr
    | err a w => exact h3 a w hr
end Go.Proofs.YthnmienjiangkaaGreatDoor.Pi.Q
namespace Go.Proofs.YthnmienjiangkaaGreatDoor.Pi.Q
open Go Go.Proofs.YthnmienjiangkaaGreatDoor.Pi
attribute [local congr] ite_congr
theorem v001 {H : Heap} {v : PV} : run (ap true 1 1 (.slice false true 0 []) (.slice true false 1 [v])) H = some (.ok (.slice true false 1 [v]) H) := nrfl rfl
theorem v006 {H : Heap} {k : IntKind} {n : Int} : run (bs true none [.int k n]) H = some (.ok (.slice true false 1 [.int k n]) H) := nrfl rfl
theorem uxf {H : Heap} {k : IntKind} {n : Int} : bsR true none [.int k n] H = some (.ok (.slice true false 1 [.int k n]) H) := by simp [bsR, u2g, PV.flat]
theorem cv_127 {H : Heap} {o z p : Bool} {s : Nat} : run (cv .bytesToStr p (.slice o z s [.int .u8 127])) H = some (.ok (.str ⟨#[127]⟩) H) := nrfl rfl
theorem str_eq {H : Heap} {s : ByteArray} : run (bi .eql .none (.str s) (.str s)) H = some (.ok (.bool true) H) := by
  show some (Out.ok (PV.bool (s.toList == s.toList)) H) = _
  rw [beq_self_eq_true]
theorem uxn {H : Heap} : run (C u5t []) H = some (.ok (.bool true) H) := by
  rw [ube]
  simp +contextual -dsimp (disch := omega) only [↓goDown, goUp, cr, simprocAttr, ud0, uaz, uc2, uab, u77, u9f, u9g, un_not, run_mf, bi_ifn, v001, v006, uxf, cv_127, str_eq, cutL]
theorem ucl {H : Heap} {k : IntKind} {n : Int} : run (bi .neq .none (.int k n) (.int k n)) H = some (.ok (.bool false) H) := by
  unfold run
  rw [bi_neq, bne_self_eq_false]
  rfl
end Go.Proofs.YthnmienjiangkaaGreatDoor.Pi.Q
namespace Go.Proofs.YthnmienjiangkaaGreatDoor.Pi.Q
open Go Go.Proofs.YthnmienjiangkaaGreatDoor.Pi
attribute [local congr] ite_congr
def rSmall (b : List UInt8) (most p : Nat) : Rs Nat :=
  if p < b.length then if most < (b.getD p 0).toNat then .err p 4 else .ok (b.getD p 0).toNat (p + 1) else .err b.length 3
theorem ui3 {b : List UInt8} {most p q v : Nat} (h : rSmall b most p = .ok v q) : q ≤ b.length ∧ v ≤ most := by
  unfold rSmall at h
  split at h
  · split at h
    · cases h
    · simp only [Rs.ok.injEq] at h; omega
  · cases h
theorem ul7 {H : Heap} {b : List UInt8} {z : Bool} {c p most : Nat} (hH : hget H c = some (curB z b p)) (hb : b.length < 2 ^ 61) (hp : p ≤ b.length) :
    run (C u0c [.ptr c 0, .int .u8 most]) H = outC z b c H p (fun n : Nat => .int .u8 n) (rSmall b most p) := by
  have hid := get_lt hH
  have hset := u1g hH
  rw [uau]
  unfold rSmall
  by_cases h1 : p < b.length
  · have hl := ubb hH hb h1
    have hc := byt_lt (b.getD p 0)
    rw [if_pos h1]
    generalize (b.getD p 0).toNat = x at hl hc ⊢
    by_cases h2 : most < x
    · rw [if_pos h2]
      have c1 : (most : Int) < x := by omega
      simp only [outC, hset]
      unfold curB at hH
      simp +contextual -dsimp (disch := omega) only [↓goDown, goUp, cr, simprocAttr, hl, eq_true c1, hH, u5i]
      all_goals rfl
    · rw [if_neg h2]
      have c1 : ¬ (most : Int) < x := by omega
      simp only [outC]
      unfold curB at hH ⊢
      simp +contextual -dsimp (disch := omega) only [↓goDown, goUp, cr, simprocAttr, hl, c1, hH, ns, u86]
  · have hl := u8t hH hb h1
    rw [if_neg h1]
    simp only [outC, hset]
    simp +contextual -dsimp (disch := omega) only [↓goDown, goUp, cr, simprocAttr, hl, u10]
def rIndex (b : List UInt8) (p : Nat) : Rs Int :=
  match rU32 b p with
  | .ok n q => if 2147483647 < n then .err p 2 else .ok (n : Int) q
  | .err a w => .err a w
theorem uhy {b : List UInt8} {p q : Nat} {v : Int} (h : rIndex b p = .ok v q) : q ≤ b.length := by
  unfold rIndex at h
  cases hr : rU32 b p with
  | ok n q1 =>
    rw [hr] at h
    dsimp only at h
    have := uan hr
    split at h
    · cases h
    · simp only [Rs.ok.injEq] at h; omega
  | err a w => rw [hr] at h; cases h
theorem urx {H : Heap} {b : List UInt8} {z : Bool} {c p : Nat} (hH : hget H c = some (curB z b p)) (hb : b.length < 2 ^ 61) (hp : p ≤ b.length) :
    ∃ q, run (C u11 [.ptr c 0]) H = outC z b c H q (fun n : Int => .int .i64 n) (rIndex b p) := by
  have hid := get_lt hH
  have hset := u1g hH
  have hs' : Pi.hset H c (.cells [BS z b, .int .i64 p]) = H := hset
  have h1 := u32_is hH hb hp
  rw [ub1]
  unfold rIndex
  cases hr : rU32 b p with
  | err a w =>
    rw [hr] at h1
    simp only [outC, hset] at h1
    refine ⟨p, ?_⟩
    simp only [outC, hset]
    unfold curB at hH
    simp +contextual -dsimp (disch := omega) only [↓goDown, goUp, cr, simprocAttr, hH, hs', h1, u10]
  | ok n q =>
    have hn := uan hr
    rw [hr] at h1
    simp only [outC] at h1
    refine ⟨q, ?_⟩
    by_cases h2 : 2147483647 < n
    · have c1 : (2147483647 : Int) < n := by omega
      simp only [h2, if_true, outC]
      unfold curB at hH h1 ⊢
      simp +contextual -dsimp (disch := omega) only [↓goDown, goUp, cr, simprocAttr, hH, hs', h1, eq_true c1, u5i]
      all_goals rfl
    · have c1 : ¬ (2147483647 : Int) < n := by omega
      simp only [h2, if_false, outC]
      unfold curB at hH h1 ⊢
      simp +contextual -dsimp (disch := omega) only [↓goDown, goUp, cr, simprocAttr, hH, hs', h1, c1, u80]
structure FT where
  ty : VT
  mu : Bool
  deriving DecidableEq
def encF (v : FT) : PV := .agg [.int .i64 v.ty.num, .bool v.ty.nul, .int .i64 v.ty.heap, .bool v.mu]
def ukd (b : List UInt8) (p : Nat) : Rs VT :=
  if p < b.length then
    if (b.getD p 0).toNat = 120 then .ok ⟨6, false, 0⟩ (p + 1)
    else if (b.getD p 0).toNat = 119 then .ok ⟨7, false, 0⟩ (p + 1)
    else rVal b p
  else .err b.length 3
def rsMut (v : VT) : Rs Nat → Rs FT
  | .ok n q => .ok ⟨v, n == 1⟩ q
  | .err a w => .err a w
def rField (b : List UInt8) (p : Nat) : Rs FT :=
  match ukd b p with
  | .ok v q => rsMut v (rSmall b 1 q)
  | .err a w => .err a w
theorem ugj {b : List UInt8} {p q : Nat} {v : FT} (h : rField b p = .ok v q) : q ≤ b.length := by
  unfold rField at h
  cases hr : ukd b p with
  | ok v q1 =>
    rw [hr] at h
    dsimp only at h
    cases hs : rSmall b 1 q1 with
    | ok n q2 => rw [hs] at h; simp only [rsMut, Rs.ok.injEq] at h; have := ui3 hs; omega
    | err a w => rw [hs] at h; cases h
  | err a w => rw [hr] at h; cases h
theorem uhh {H : Heap} {b : List UInt8} {z : Bool} {c q : Nat} {v : VT} (hid : c < H.length) (hb : b.length < 2 ^ 61) (hq : q ≤ b.length) :
    run (u24 (.ptr c 0) (.ptr H.length 0) (.ptr (H.length + 1) 0)) (hadd (Pi.hset H c (curB z b q)) [.cells [.int .i64 0, .bool false, .int .i64 0, .bool false], .cells [.int .i64 v.num, .bool v.nul, .int .i64 v.heap, .bool false]]) =
      match rsMut v (rSmall b 1 q) with
      | .ok f q2 => some (.ok (encF f) (hadd (Pi.hset H c (curB z b q2)) [.cells [.int .i64 f.ty.num, .bool f.ty.nul, .int .i64 f.ty.heap, .bool f.mu], .cells [.int .i64 f.ty.num, .bool f.ty.nul, .int .i64 f.ty.heap, .bool f.mu]]))
      | .err a w => some (.pan (flt a w) (hadd (Pi.hset H c (curB z b q)) [.cells [.int .i64 0, .bool false, .int .i64 0, .bool false], .cells [.int .i64 v.num, .bool v.nul, .int .i64 v.heap, .bool false]])) := by
  have hs : ∀ L, run (C u0c [.ptr c 0, .int .u8 1]) (hadd (Pi.hset H c (curB z b q)) L) = outC z b c (hadd (Pi.hset H c (curB z b q)) L) q (fun n : Nat => .int .u8 n) (rSmall b 1 q) :=
    fun L => ul7 (by rw [u5a (by rw [u71]; exact hid)]; exact u4z hid) hb hq
  have so : ∀ u L, Pi.hset (hadd (Pi.hset H c (curB z b q)) L) c (curB z b u) = hadd (Pi.hset H c (curB z b u)) L := fun u L => by rw [u7v hid, set_set]
  rw [u88]
  cases hr : rSmall b 1 q with
  | err a w =>
    simp only [hr, outC, so] at hs
    simp only [rsMut]
    simp +contextual -dsimp (disch := omega) only [↓goDown, goUp, cr, simprocAttr, hs]
  | ok n q2 =>
    simp only [hr, outC, so] at hs
    simp only [rsMut]
    have c1 : ((n : Int) == 1) = (n == 1) := by rw [Bool.eq_iff_iff]; simp; omega
    simp +contextual -dsimp (disch := omega) only [↓goDown, goUp, cr, simprocAttr, hs, c1]
    all_goals rfl
theorem upt {H : Heap} {b : List UInt8} {z : Bool} {c p : Nat} (hH : hget H c = some (curB z b p)) (hb : b.length < 2 ^ 61) (hp : p ≤ b.length) :
    ∃ q, run (C u1o [.ptr c 0]) H = outC z b c H q encF (rField b p) := by
  have hid := get_lt hH
  have hset := u1g hH
  rw [uay]
  unfold rField ukd
  have hH1 : ∀ L, hget (hadd H L) c = some (curB z b p) := fun L => by rw [u5a hid]; exact hH
  have so : ∀ u L, Pi.hset (hadd H L) c (curB z b u) = hadd (Pi.hset H c (curB z b u)) L := fun u L => by rw [u9y hid]
  by_cases h1 : p < b.length
  · have hl := fun L => ubb (hH1 L) hb h1
    have hc := byt_lt (b.getD p 0)
    rw [if_pos h1]
    generalize (b.getD p 0).toNat = x at hl hc ⊢
    by_cases h2 : x = 120
    · rw [if_pos h2]
      have c1 : (x : Int) = 120 := by omega
      have hf := uhh (z := z) (v := ⟨6, false, 0⟩) hid hb (show p + 1 ≤ b.length by omega)
      unfold curB at hf
      simp only [ns] at hf
      refine ⟨p + 1, ?_⟩
      cases hr : rSmall b 1 (p + 1) <;> simp only [hr, rsMut] at hf ⊢ <;> simp only [outC] <;> unfold curB at hH ⊢ <;>
        simp +contextual -dsimp (disch := omega) only [↓goDown, goUp, cr, simprocAttr, hl, eq_true c1, hH, ns, hf, u10, encF]
    · rw [if_neg h2]
      have c1 : ¬ (x : Int) = 120 := by omega
      by_cases h3 : x = 119
      · rw [if_pos h3]
        have c2 : (x : Int) = 119 := by omega
        have hf := uhh (z := z) (v := ⟨7, false, 0⟩) hid hb (show p + 1 ≤ b.length by omega)
        unfold curB at hf
        simp only [ns] at hf
        refine ⟨p + 1, ?_⟩
        cases hr : rSmall b 1 (p + 1) <;> simp only [hr, rsMut] at hf ⊢ <;> simp only [outC] <;> unfold curB at hH ⊢ <;>
          simp +contextual -dsimp (disch := omega) only [↓goDown, goUp, cr, simprocAttr, hl, c1, eq_true c2, hH, ns, hf, u10, encF]
      · rw [if_neg h3]
        have c2 : ¬ (x : Int) = 119 := by omega
        obtain ⟨q, hk⟩ := val_is (hH1 [.cells [.int .i64 0, .bool false, .int .i64 0, .bool false], .cells [.int .i64 0, .bool false, .int .i64 0, .bool false]]) hb hp
        cases hr : rVal b p with
        | err a w =>
          refine ⟨q, ?_⟩
          simp only [hr, outC, so] at hk ⊢
          simp +contextual -dsimp (disch := omega) only [↓goDown, goUp, cr, simprocAttr, hl, c1, c2, hk, u10]
        | ok v q1 =>
          have hf := uhh (z := z) (v := v) hid hb (ukm hr)
          refine ⟨q1, ?_⟩
          simp only [hr, outC, so] at hk ⊢
          cases hs : rSmall b 1 q1 <;> simp only [hs, rsMut] at hf ⊢ <;>
            simp +contextual -dsimp (disch := omega) only [↓goDown, goUp, cr, simprocAttr, hl, c1, c2, hk, uh9, hf, u10, encF]
  · refine ⟨p, ?_⟩
    have hl := fun L => u8t (hH1 L) hb h1
    rw [if_neg h1]
    simp only [outC, hset]
    simp +contextual -dsimp (disch := omega) only [↓goDown, goUp, cr, simprocAttr, hl, u10]
end Go.Proofs.YthnmienjiangkaaGreatDoor.Pi.Q
namespace Go.Proofs.YthnmienjiangkaaGreatDoor.Pi.Q
open Go Go.Proofs.YthnmienjiangkaaGreatDoor.Pi
attribute [local congr] ite_congr
theorem v015 {v : FT} : strip (encF v) = encF v := nrfl rfl
theorem uke {v : FT} : stripC (encF v) = encF v := nrfl rfl
theorem uzo {v : FT} : isTup (encF v) = false := nrfl rfl
theorem low_F {v : FT} {n : Nat} : (encF v).low n = true := by simp [encF, uam, u5b, u6u, u7o, ubq]
theorem bs_F {v : FT} {K : Heap} : run (bs true (some 4) [encF v]) K = some (.ok (.slice true false 4 [encF v]) K) := bs_agg (by simp [flatL, PV.flat]) rfl
theorem bs_I {v : Int} {K : Heap} : run (bs true none [.int .i64 v]) K = some (.ok (.slice true false 1 [.int .i64 v]) K) := nrfl rfl
abbrev encI (v : Int) : PV := .int .i64 v
def shutP (sz : Nat) (l : List PV) : PV := match l with | [] => .slice false true 0 [] | l => .slice false false sz l
theorem uak {sz : Nat} : shutP sz [] = .slice false true 0 [] := nrfl rfl
theorem u7r {sz : Nat} {l : List PV} : isTup (shutP sz l) = false := by cases l <;> rfl
theorem u60 {sz : Nat} {l : List PV} : isCell (shutP sz l) = true := by cases l <;> rfl
theorem u7p {sz : Nat} {l : List PV} : (shutP sz l).cells = [shutP sz l] := by cases l <;> rfl
theorem low_P {sz : Nat} {l : List PV} {n : Nat} : (shutP sz l).low n = true := by cases l <;> simp [shutP, ub4]
theorem ukc {sz : Nat} {l : List PV} : strip (shutP sz l) = shutP sz l := by cases l <;> rfl
theorem u65 {sz : Nat} {l : List PV} : stripC (shutP sz l) = shutP sz l := by cases l <;> rfl
theorem strip_acc {sz : Nat} {l : List PV} : strip (accP sz l) = shutP sz l := by cases l <;> rfl
theorem stripC_acc {sz : Nat} {l : List PV} : stripC (accP sz l) = shutP sz l := by cases l <;> rfl
structure CT where
  kind : Int
  ps : List VT
  rs : List VT
  fs : List FT
  deriving DecidableEq
structure ST where
  fin : Bool
  sup : List Int
  comp : CT
  deriving DecidableEq
def csC (v : CT) : List PV := [.int .i64 v.kind, shutP 3 (v.ps.map encV), shutP 3 (v.rs.map encV), shutP 4 (v.fs.map encF)]
def encC (v : CT) : PV := .agg (csC v)
def csS (v : ST) : List PV := [.bool v.fin, shutP 1 (v.sup.map encI), .int .i64 v.comp.kind, shutP 3 (v.comp.ps.map encV), shutP 3 (v.comp.rs.map encV), shutP 4 (v.comp.fs.map encF)]
def encS (v : ST) : PV := .agg (csS v)
theorem uo8 {v : CT} : isTup (encC v) = false := nrfl rfl
theorem uyz {v : ST} : isTup (encS v) = false := nrfl rfl
theorem uod {v : CT} : strip (encC v) = encC v := nrfl rfl
theorem uku {v : CT} : stripC (encC v) = encC v := nrfl rfl
theorem uxo {v : ST} : strip (encS v) = encS v := nrfl rfl
theorem ug9 {v : ST} : stripC (encS v) = encS v := nrfl rfl
theorem low_C {v : CT} {n : Nat} : (encC v).low n = true := by simp [encC, csC, uam, u5b, u6u, u7o, low_P]
theorem low_Su {v : ST} {n : Nat} : (encS v).low n = true := by simp [encS, csS, uam, u5b, u6u, u7o, ubq, low_P]
theorem v007 {l : List VT} : flatL (l.map encV) = true := by induction l with | nil => rfl | cons v r ih => simp [flatL, encV, PV.flat, ih]
theorem v00s {l : List FT} : flatL (l.map encF) = true := by induction l with | nil => rfl | cons v r ih => simp [flatL, encF, PV.flat, ih]
theorem v00w {l : List Int} : flatL (l.map encI) = true := by induction l with | nil => rfl | cons v r ih => simp [flatL, encI, PV.flat, ih]
theorem bs_S {v : ST} {K : Heap} : run (bs true (some 6) [encS v]) K = some (.ok (.slice true false 6 [encS v]) K) := by
  refine bs_agg ?_ rfl
  have hp : ∀ {sz : Nat} {l : List PV}, flatL l = true → (shutP sz l).flat = true := by
    intro sz l h
    cases l with
    | nil => simp [shutP, PV.flat, flatL]
    | cons x r => simp [shutP, PV.flat, h]
  simp [flatL, PV.flat, csS, hp v007, hp v00s, hp v00w]
theorem uca {b : List UInt8} {z : Bool} (hb : b.length < 2 ^ 61) {rd : Nat → Rs FT} (hle : ∀ p v q, rd p = .ok v q → q ≤ b.length) {one : PV} {c : Nat} {v6 : PV} (hone : ∀ H p, hget H c = some (curB z b p) → p ≤ b.length → ∃ q, run (callV P C (strip one) []) H = outC z b c H q encF (rd p)) :
    ∀ (m i n p : Nat) (acc : List FT) (H : Heap), hget H c = some (curB z b p) → p ≤ b.length → n = i + m → acc.length = i → n ≤ 1000000 →
      ∃ q, run (u13 one v6 (accP 4 (acc.map encF)) (.int .u32 n) (.int .u32 i)) H = outC z b c H q (fun l => accP 4 ((acc ++ l).map encF)) (rRep rd m p)
  | 0, i, n, p, acc, H, hH, hp, hn, ha, hm => by
    refine ⟨p, ?_⟩
    rw [u3e]
    have c1 : ¬ (i : Int) < n := by omega
    have hset := u1g hH
    unfold rRep
    simp only [outC, hset, List.append_nil]
    simp +contextual -dsimp (disch := omega) only [↓goDown, goUp, cr, simprocAttr, c1, u2a]
  | m + 1, i, n, p, acc, H, hH, hp, hn, ha, hm => by
    rw [u3e]
    have c1 : (i : Int) < n := by omega
    have hid := get_lt hH
    obtain ⟨q, h1⟩ := hone H p hH hp
    unfold rRep
    cases hr : rd p with
    | err a w =>
      rw [hr] at h1
      simp only [outC] at h1
      refine ⟨q, ?_⟩
      simp only [outC]
      simp +contextual -dsimp (disch := omega) only [↓goDown, goUp, cr, simprocAttr, c1, h1]
    | ok v q' =>
      rw [hr] at h1
      simp only [outC] at h1
      have hl := hle _ _ _ hr
      obtain ⟨q2, h2⟩ := uca hb hle hone m (i + 1) n q' (acc ++ [v]) (Pi.hset H c (curB z b q')) (u4z hid) hl (by omega) (by simp [ha]) hm
      refine ⟨q2, ?_⟩
      have hbs := fun K => bs_F (v := v) (K := K)
      have hap := fun K => ap_acc (H := K) (sz := 4) (b := 32) (l := acc.map encF) (v := encF v) (o := true) (by simp [ha]; omega)
      have e1 : accP 4 (acc.map encF ++ [encF v]) = accP 4 ((acc ++ [v]).map encF) := by simp
      have e2 : (i : Int) + 1 = ((i + 1 : Nat) : Int) := rfl
      rw [e1] at hap
      have hrr : outC z b c (Pi.hset H c (curB z b q')) q2 (fun l => accP 4 ((acc ++ [v] ++ l).map encF)) (rRep rd m q') = outC z b c H q2 (fun l => accP 4 ((acc ++ l).map encF)) (rsCons v (rRep rd m q')) := by
        cases rRep rd m q' <;> simp only [outC, set_set, rsCons] <;> simp
      simp +contextual -dsimp (disch := omega) only [↓goDown, goUp, cr, simprocAttr, c1, h1, hbs, hap, e2, v015, uke, uzo, low_F]
      rw [h2]
      exact hrr
theorem ule {b : List UInt8} {z : Bool} (hb : b.length < 2 ^ 61) {rd : Nat → Rs FT} (hle : ∀ p v q, rd p = .ok v q → q ≤ b.length) {one : PV} {c most : Nat} (hmost : most ≤ 1000000) (hone : ∀ H p, hget H c = some (curB z b p) → p ≤ b.length → ∃ q, run (callV P C (strip one) []) H = outC z b c H q encF (rd p))
    {H : Heap} {p : Nat} (hH : hget H c = some (curB z b p)) (hp : p ≤ b.length) :
    ∃ q, run (C u1u [.ptr c 0, .int .u32 most, one]) H = outC z b c H q (fun l => accP 4 (l.map encF)) (rList b most rd p) := by
  have hid := get_lt hH
  have hset := u1g hH
  have hs' : Pi.hset H c (.cells [BS z b, .int .i64 p]) = H := hset
  have h1 := u32_is hH hb hp
  rw [u9v]
  unfold rList
  cases hr : rU32 b p with
  | err a w =>
    rw [hr] at h1
    simp only [outC, hset] at h1
    refine ⟨p, ?_⟩
    simp only [outC, hset]
    unfold curB at hH
    simp +contextual -dsimp (disch := omega) only [↓goDown, goUp, cr, simprocAttr, hH, hs', h1, u10]
  | ok n q =>
    have hn := uan hr
    rw [hr] at h1
    simp only [outC] at h1
    have hH2 : hget (Pi.hset H c (curB z b q)) c = some (curB z b q) := u4z hid
    by_cases h2 : most < n
    · refine ⟨q, ?_⟩
      have c1 : (most : Int) < n := by omega
      simp only [h2, if_true, outC]
      unfold curB at hH h1 ⊢
      simp +contextual -dsimp (disch := omega) only [↓goDown, goUp, cr, simprocAttr, hH, hs', h1, c1, u5i]
      all_goals rfl
    · have c1 : ¬ (most : Int) < n := by omega
      obtain ⟨q2, h3⟩ := uca hb hle (v6 := .slice false true 0 []) hone n 0 n q [] (Pi.hset H c (curB z b q)) hH2 hn.1 (by omega) rfl (by omega)
      have h3 : run (u13 one (.slice false true 0 []) (.slice false true 0 []) (.int .u32 n) (.int .u32 0)) (Pi.hset H c (curB z b q)) = outC z b c (Pi.hset H c (curB z b q)) q2 (fun l => accP 4 (l.map encF)) (rRep rd n q) := h3
      refine ⟨q2, ?_⟩
      simp only [h2, if_false]
      cases hr2 : rRep rd n q <;> rw [hr2] at h3 <;> simp only [outC, set_set] at h3 ⊢ <;> unfold curB at hH h1 h3 ⊢ <;>
        simp +contextual -dsimp (disch := omega) only [↓goDown, goUp, cr, simprocAttr, hH, hs', h1, c1, u7h, h3, u69, u10, u2a]
theorem ufb {b : List UInt8} {z : Bool} (hb : b.length < 2 ^ 61) {rd : Nat → Rs Int} (hle : ∀ p v q, rd p = .ok v q → q ≤ b.length) {one : PV} {c : Nat} {v6 : PV} (hone : ∀ H p, hget H c = some (curB z b p) → p ≤ b.length → ∃ q, run (callV P C (strip one) []) H = outC z b c H q encI (rd p)) :
    ∀ (m i n p : Nat) (acc : List Int) (H : Heap), hget H c = some (curB z b p) → p ≤ b.length → n = i + m → acc.length = i → n ≤ 1000000 →
      ∃ q, run (u1v one v6 (accP 1 (acc.map encI)) (.int .u32 n) (.int .u32 i)) H = outC z b c H q (fun l => accP 1 ((acc ++ l).map encI)) (rRep rd m p)
  | 0, i, n, p, acc, H, hH, hp, hn, ha, hm => by
    refine ⟨p, ?_⟩
    rw [u54]
    have c1 : ¬ (i : Int) < n := by omega
    have hset := u1g hH
    unfold rRep
    simp only [outC, hset, List.append_nil]
    simp +contextual -dsimp (disch := omega) only [↓goDown, goUp, cr, simprocAttr, c1, u2a]
  | m + 1, i, n, p, acc, H, hH, hp, hn, ha, hm => by
    rw [u54]
    have c1 : (i : Int) < n := by omega
    have hid := get_lt hH
    obtain ⟨q, h1⟩ := hone H p hH hp
    unfold rRep
    cases hr : rd p with
    | err a w =>
      rw [hr] at h1
      simp only [outC] at h1
      refine ⟨q, ?_⟩
      simp only [outC]
      simp +contextual -dsimp (disch := omega) only [↓goDown, goUp, cr, simprocAttr, c1, h1]
    | ok v q' =>
      rw [hr] at h1
      simp only [outC] at h1
      have hl := hle _ _ _ hr
      obtain ⟨q2, h2⟩ := ufb hb hle hone m (i + 1) n q' (acc ++ [v]) (Pi.hset H c (curB z b q')) (u4z hid) hl (by omega) (by simp [ha]) hm
      refine ⟨q2, ?_⟩
      have hbs := fun K => bs_I (v := v) (K := K)
      have hap := fun K => ap_acc (H := K) (sz := 1) (b := 8) (l := acc.map encI) (v := encI v) (o := true) (by simp [ha]; omega)
      have e1 : accP 1 (acc.map encI ++ [encI v]) = accP 1 ((acc ++ [v]).map encI) := by simp
      have e2 : (i : Int) + 1 = ((i + 1 : Nat) : Int) := rfl
      rw [e1] at hap
      have hrr : outC z b c (Pi.hset H c (curB z b q')) q2 (fun l => accP 1 ((acc ++ [v] ++ l).map encI)) (rRep rd m q') = outC z b c H q2 (fun l => accP 1 ((acc ++ l).map encI)) (rsCons v (rRep rd m q')) := by
        cases rRep rd m q' <;> simp only [outC, set_set, rsCons] <;> simp
      simp +contextual -dsimp (disch := omega) only [↓goDown, goUp, cr, simprocAttr, c1, h1, hbs, hap, e2, ugo, ueh, ui4, u7o]
      rw [h2]
      exact hrr
theorem ut1 {b : List UInt8} {z : Bool} (hb : b.length < 2 ^ 61) {rd : Nat → Rs Int} (hle : ∀ p v q, rd p = .ok v q → q ≤ b.length) {one : PV} {c most : Nat} (hmost : most ≤ 1000000) (hone : ∀ H p, hget H c = some (curB z b p) → p ≤ b.length → ∃ q, run (callV P C (strip one) []) H = outC z b c H q encI (rd p))
    {H : Heap} {p : Nat} (hH : hget H c = some (curB z b p)) (hp : p ≤ b.length) :
    ∃ q, run (C u3p [.ptr c 0, .int .u32 most, one]) H = outC z b c H q (fun l => accP 1 (l.map encI)) (rList b most rd p) := by
  have hid := get_lt hH
  have hset := u1g hH
  have hs' : Pi.hset H c (.cells [BS z b, .int .i64 p]) = H := hset
  have h1 := u32_is hH hb hp
  rw [ueg]
  unfold rList
  cases hr : rU32 b p with
  | err a w =>
    rw [hr] at h1
    simp only [outC, hset] at h1
    refine ⟨p, ?_⟩
    simp only [outC, hset]
    unfold curB at hH
    simp +contextual -dsimp (disch := omega) only [↓goDown, goUp, cr, simprocAttr, hH, hs', h1, u10]
  | ok n q =>
    have hn := uan hr
    rw [hr] at h1
    simp only [outC] at h1
    have hH2 : hget (Pi.hset H c (curB z b q)) c = some (curB z b q) := u4z hid
    by_cases h2 : most < n
    · refine ⟨q, ?_⟩
      have c1 : (most : Int) < n := by omega
      simp only [h2, if_true, outC]
      unfold curB at hH h1 ⊢
      simp +contextual -dsimp (disch := omega) only [↓goDown, goUp, cr, simprocAttr, hH, hs', h1, c1, u5i]
      all_goals rfl
    · have c1 : ¬ (most : Int) < n := by omega
      obtain ⟨q2, h3⟩ := ufb hb hle (v6 := .slice false true 0 []) hone n 0 n q [] (Pi.hset H c (curB z b q)) hH2 hn.1 (by omega) rfl (by omega)
      have h3 : run (u1v one (.slice false true 0 []) (.slice false true 0 []) (.int .u32 n) (.int .u32 0)) (Pi.hset H c (curB z b q)) = outC z b c (Pi.hset H c (curB z b q)) q2 (fun l => accP 1 (l.map encI)) (rRep rd n q) := h3
      refine ⟨q2, ?_⟩
      simp only [h2, if_false]
      cases hr2 : rRep rd n q <;> rw [hr2] at h3 <;> simp only [outC, set_set] at h3 ⊢ <;> unfold curB at hH h1 h3 ⊢ <;>
        simp +contextual -dsimp (disch := omega) only [↓goDown, goUp, cr, simprocAttr, hH, hs', h1, c1, u9n, h3, u69, u10, u2a]
theorem ufc {b : List UInt8} {z : Bool} (hb : b.length < 2 ^ 61) {rd : Nat → Rs ST} (hle : ∀ p v q, rd p = .ok v q → q ≤ b.length) {one : PV} {c : Nat} {v6 : PV} (hone : ∀ H p, hget H c = some (curB z b p) → p ≤ b.length → ∃ q, run (callV P C (strip one) []) H = outC z b c H q encS (rd p)) :
    ∀ (m i n p : Nat) (acc : List ST) (H : Heap), hget H c = some (curB z b p) → p ≤ b.length → n = i + m → acc.length = i → n ≤ 1000000 →
      ∃ q, run (u0w one v6 (accP 6 (acc.map encS)) (.int .u32 n) (.int .u32 i)) H = outC z b c H q (fun l => accP 6 ((acc ++ l).map encS)) (rRep rd m p)
  | 0, i, n, p, acc, H, hH, hp, hn, ha, hm => by
    refine ⟨p, ?_⟩
    rw [u38]
    have c1 : ¬ (i : Int) < n := by omega
    have hset := u1g hH
    unfold rRep
    simp only [outC, hset, List.append_nil]
    simp +contextual -dsimp (disch := omega) only [↓goDown, goUp, cr, simprocAttr, c1, u2a]
  | m + 1, i, n, p, acc, H, hH, hp, hn, ha, hm => by
    rw [u38]
    have c1 : (i : Int) < n := by omega
    have hid := get_lt hH
    obtain ⟨q, h1⟩ := hone H p hH hp
    unfold rRep
    cases hr : rd p with
    | err a w =>
      rw [hr] at h1
      simp only [outC] at h1
      refine ⟨q, ?_⟩
      simp only [outC]
      simp +contextual -dsimp (disch := omega) only [↓goDown, goUp, cr, simprocAttr, c1, h1]
    | ok v q' =>
      rw [hr] at h1
      simp only [outC] at h1
      have hl := hle _ _ _ hr
      obtain ⟨q2, h2⟩ := ufc hb hle hone m (i + 1) n q' (acc ++ [v]) (Pi.hset H c (curB z b q')) (u4z hid) hl (by omega) (by simp [ha]) hm
      refine ⟨q2, ?_⟩
      have hbs := fun K => bs_S (v := v) (K := K)
      have hap := fun K => ap_acc (H := K) (sz := 6) (b := 112) (l := acc.map encS) (v := encS v) (o := true) (by simp [ha]; omega)
      have e1 : accP 6 (acc.map encS ++ [encS v]) = accP 6 ((acc ++ [v]).map encS) := by simp
      have e2 : (i : Int) + 1 = ((i + 1 : Nat) : Int) := rfl
      rw [e1] at hap
      have hrr : outC z b c (Pi.hset H c (curB z b q')) q2 (fun l => accP 6 ((acc ++ [v] ++ l).map encS)) (rRep rd m q') = outC z b c H q2 (fun l => accP 6 ((acc ++ l).map encS)) (rsCons v (rRep rd m q')) := by
        cases rRep rd m q' <;> simp only [outC, set_set, rsCons] <;> simp
      simp +contextual -dsimp (disch := omega) only [↓goDown, goUp, cr, simprocAttr, c1, h1, hbs, hap, e2, uxo, ug9, uyz, low_Su]
      rw [h2]
      exact hrr
theorem ut9 {b : List UInt8} {z : Bool} (hb : b.length < 2 ^ 61) {rd : Nat → Rs ST} (hle : ∀ p v q, rd p = .ok v q → q ≤ b.length) {one : PV} {c most : Nat} (hmost : most ≤ 1000000) (hone : ∀ H p, hget H c = some (curB z b p) → p ≤ b.length → ∃ q, run (callV P C (strip one) []) H = outC z b c H q encS (rd p))
    {H : Heap} {p : Nat} (hH : hget H c = some (curB z b p)) (hp : p ≤ b.length) :
    ∃ q, run (C u1e [.ptr c 0, .int .u32 most, one]) H = outC z b c H q (fun l => accP 6 (l.map encS)) (rList b most rd p) := by
  have hid := get_lt hH
  have hset := u1g hH
  have hs' : Pi.hset H c (.cells [BS z b, .int .i64 p]) = H := hset
  have h1 := u32_is hH hb hp
  rw [u99]
  unfold rList
  cases hr : rU32 b p with
  | err a w =>
    rw [hr] at h1
    simp only [outC, hset] at h1
    refine ⟨p, ?_⟩
    simp only [outC, hset]
    unfold curB at hH
    simp +contextual -dsimp (disch := omega) only [↓goDown, goUp, cr, simprocAttr, hH, hs', h1, u10]
  | ok n q =>
    have hn := uan hr
    rw [hr] at h1
    simp only [outC] at h1
    have hH2 : hget (Pi.hset H c (curB z b q)) c = some (curB z b q) := u4z hid
    by_cases h2 : most < n
    · refine ⟨q, ?_⟩
      have c1 : (most : Int) < n := by omega
      simp only [h2, if_true, outC]
      unfold curB at hH h1 ⊢
      simp +contextual -dsimp (disch := omega) only [↓goDown, goUp, cr, simprocAttr, hH, hs', h1, c1, u5i]
      all_goals rfl
    · have c1 : ¬ (most : Int) < n := by omega
      obtain ⟨q2, h3⟩ := ufc hb hle (v6 := .slice false true 0 []) hone n 0 n q [] (Pi.hset H c (curB z b q)) hH2 hn.1 (by omega) rfl (by omega)
      have h3 : run (u0w one (.slice false true 0 []) (.slice false true 0 []) (.int .u32 n) (.int .u32 0)) (Pi.hset H c (curB z b q)) = outC z b c (Pi.hset H c (curB z b q)) q2 (fun l => accP 6 (l.map encS)) (rRep rd n q) := h3
      refine ⟨q2, ?_⟩
      simp only [h2, if_false]
      cases hr2 : rRep rd n q <;> rw [hr2] at h3 <;> simp only [outC, set_set] at h3 ⊢ <;> unfold curB at hH h1 h3 ⊢ <;>
        simp +contextual -dsimp (disch := omega) only [↓goDown, goUp, cr, simprocAttr, hH, hs', h1, c1, u73, h3, u69, u10, u2a]
end Go.Proofs.YthnmienjiangkaaGreatDoor.Pi.Q
namespace Go.Proofs.YthnmienjiangkaaGreatDoor.Pi.Q
open Go Go.Proofs.YthnmienjiangkaaGreatDoor.Pi
attribute [local congr] ite_congr
theorem bsR_F {v : FT} {K : Heap} : bsR true (some 4) [encF v] K = some (.ok (.slice true false 4 [encF v]) K) := by
  have := bs_F (v := v) (K := K)
  rw [run_bs] at this
  simpa [uke] using this
theorem uyj {v : FT} : (PV.slice true false 4 [encF v]).cells = [.slice true false 4 [encF v]] := nrfl rfl
theorem uqm {b : List UInt8} {p q : Nat} {l : List VT} (h : rVals b p = .ok l q) : q ≤ b.length := (ujz (fun p v q h => ukm h) h).1
def uee (b : List UInt8) (p : Nat) : Rs (List FT) := rList b 10000 (rField b) p
theorem ut3 {b : List UInt8} {p q : Nat} {l : List FT} (h : uee b p = .ok l q) : q ≤ b.length := (ujz (fun p v q h => ugj h) h).1
def rsFunc (ps : List VT) : Rs (List VT) → Rs CT
  | .ok rs q => .ok ⟨1, ps, rs, []⟩ q
  | .err a w => .err a w
def ufm : Rs (List FT) → Rs CT
  | .ok fs q => .ok ⟨2, [], [], fs⟩ q
  | .err a w => .err a w
def ukk : Rs FT → Rs CT
  | .ok f q => .ok ⟨3, [], [], [f]⟩ q
  | .err a w => .err a w
def rFunc (b : List UInt8) (p : Nat) : Rs CT :=
  match rVals b p with
  | .ok ps q => rsFunc ps (rVals b q)
  | .err a w => .err a w
def rComp (b : List UInt8) (p : Nat) : Rs CT :=
  if p < b.length then
    if (b.getD p 0).toNat = 96 then rFunc b (p + 1)
    else if (b.getD p 0).toNat = 95 then ufm (uee b (p + 1))
    else if (b.getD p 0).toNat = 94 then ukk (rField b (p + 1))
    else .err p 4
  else .err b.length 3
theorem uxz {b : List UInt8} {p q : Nat} {v : CT} (h : rComp b p = .ok v q) : q ≤ b.length := by
  unfold rComp at h
  split at h
  · split at h
    · unfold rFunc at h
      cases h1 : rVals b (p + 1) with
      | ok ps q1 =>
        rw [h1] at h
        dsimp only at h
        cases h2 : rVals b q1 with
        | ok rs q2 => rw [h2] at h; simp only [rsFunc, Rs.ok.injEq] at h; have := uqm h2; omega
        | err a w => rw [h2] at h; cases h
      | err a w => rw [h1] at h; cases h
    · split at h
      · cases h1 : uee b (p + 1) with
        | ok fs q1 => rw [h1] at h; simp only [ufm, Rs.ok.injEq] at h; have := ut3 h1; omega
        | err a w => rw [h1] at h; cases h
      · split at h
        · cases h1 : rField b (p + 1) with
          | ok fs q1 => rw [h1] at h; simp only [ukk, Rs.ok.injEq] at h; have := ugj h1; omega
          | err a w => rw [h1] at h; cases h
        · cases h
  · cases h
theorem uug {b : List UInt8} {z : Bool} (hb : b.length < 2 ^ 61) {c : Nat} {H : Heap} {p : Nat} (hH : hget H c = some (curB z b p)) (hp : p ≤ b.length) :
    ∃ q, run (C u1u [.ptr c 0, .int .u32 10000, .fn u1o [.ptr c 0] []]) H = outC z b c H q (fun l => accP 4 (l.map encF)) (uee b p) :=
  ule hb (fun p v q h => ugj h) (one := .fn u1o [.ptr c 0] []) (most := 10000) (by omega) (fun H p hH hp => by
    obtain ⟨q, h⟩ := upt hH hb hp
    exact ⟨q, h⟩) hH hp
theorem up0 {H : Heap} {b : List UInt8} {z : Bool} {c p : Nat} (hH : hget H c = some (curB z b p)) (hb : b.length < 2 ^ 61) (hp : p ≤ b.length) :
    ∃ q, run (C u4t [.ptr c 0]) H = outC z b c H q encC (rComp b p) := by
  have hid := get_lt hH
  have hset := u1g hH
  rw [ubz]
  unfold rComp
  have hH1 : ∀ L, hget (hadd H L) c = some (curB z b p) := fun L => by rw [u5a hid]; exact hH
  have so : ∀ u L, Pi.hset (hadd H L) c (curB z b u) = hadd (Pi.hset H c (curB z b u)) L := fun u L => by rw [u9y hid]
  have so1 : ∀ u y L, Pi.hset (hadd (Pi.hset H c (curB z b y)) L) c (curB z b u) = hadd (Pi.hset H c (curB z b u)) L := fun u y L => by rw [u7v hid, set_set]
  have hH2 : ∀ u L, hget (hadd (Pi.hset H c (curB z b u)) L) c = some (curB z b u) := fun u L => by rw [u5a (by rw [u71]; exact hid)]; exact u4z hid
  have hc3 : ∀ u, Pi.hset H c (.cells [BS z b, .int .i64 (u : Nat)]) = Pi.hset H c (curB z b u) := fun u => rfl
  by_cases h1 : p < b.length
  · have hl := fun L => ubb (hH1 L) hb h1
    have hc := byt_lt (b.getD p 0)
    rw [if_pos h1]
    generalize (b.getD p 0).toNat = x at hl hc ⊢
    have st0 : hget H c = some (.cells [BS z b, .int .i64 p]) := hH
    by_cases h2 : x = 96
    · rw [if_pos h2]
      have c1 : (x : Int) = 96 := by omega
      obtain ⟨q, hk⟩ := uv7 hb (hH2 (p + 1) [.cells [.int .i64 0, .slice false true 0 [], .slice false true 0 [], .slice false true 0 []]]) (show p + 1 ≤ b.length by omega)
      unfold rFunc
      cases hr : rVals b (p + 1) with
      | err a w =>
        refine ⟨q, ?_⟩
        simp only [hr, outC, so1] at hk ⊢
        unfold curB at hk
        simp only [ns] at hk
        simp +contextual -dsimp (disch := omega) only [↓goDown, goUp, cr, simprocAttr, hl, eq_true c1, st0, hk, u10]
        all_goals rfl
      | ok ps q1 =>
        obtain ⟨q2, hk2⟩ := uv7 hb (hH2 q1 [.cells [.int .i64 0, .slice false true 0 [], .slice false true 0 [], .slice false true 0 []], .cells [.int .i64 1, shutP 3 (ps.map encV), .slice false true 0 [], .slice false true 0 []]]) (uqm hr)
        refine ⟨q2, ?_⟩
        simp only [hr, outC, so1, encL] at hk ⊢
        unfold curB at hk
        simp only [ns] at hk
        cases hs : rVals b q1 <;> simp only [hs, outC, so1, encL, rsFunc] at hk2 ⊢ <;> unfold curB at hk2 <;>
          simp +contextual -dsimp (disch := omega) only [↓goDown, goUp, cr, simprocAttr, hl, eq_true c1, st0, hk, hk2, u10, u8n, stripC_acc, u7b, u69, u2a, u7p, u60, low_P, u65, u7r]
        · rfl
        · rfl
    · rw [if_neg h2]
      have c1 : ¬ (x : Int) = 96 := by omega
      by_cases h3 : x = 95
      · rw [if_pos h3]
        have c2 : (x : Int) = 95 := by omega
        obtain ⟨q, hk⟩ := uug hb (hH2 (p + 1) [.cells [.int .i64 0, .slice false true 0 [], .slice false true 0 [], .slice false true 0 []]]) (show p + 1 ≤ b.length by omega)
        refine ⟨q, ?_⟩
        cases hr : uee b (p + 1) <;> simp only [hr, outC, so1, ufm] at hk ⊢ <;> unfold curB at hk <;> simp only [ns] at hk <;>
          simp +contextual -dsimp (disch := omega) only [↓goDown, goUp, cr, simprocAttr, hl, c1, eq_true c2, st0, run_mf, hk, u10, u8n, stripC_acc, u7b, u69, u2a, u7p, u60, low_P, u65, u7r]
        · rfl
        · rfl
      · rw [if_neg h3]
        have c2 : ¬ (x : Int) = 95 := by omega
        by_cases h4 : x = 94
        · rw [if_pos h4]
          have c3 : (x : Int) = 94 := by omega
          obtain ⟨q, hk⟩ := upt (hH2 (p + 1) [.cells [.int .i64 0, .slice false true 0 [], .slice false true 0 [], .slice false true 0 []]]) hb (show p + 1 ≤ b.length by omega)
          refine ⟨q, ?_⟩
          cases hr : rField b (p + 1) <;> simp only [hr, outC, so1, ukk] at hk ⊢ <;> unfold curB at hk <;> simp only [ns] at hk <;>
            simp +contextual -dsimp (disch := omega) only [↓goDown, goUp, cr, simprocAttr, hl, c1, c2, eq_true c3, st0, hk, u10, bs_F, bsR_F, uke, uyj, u8n, stripC_acc, u7b, u69, u2a, u7p, u60, low_P, u65, u7r, low_F]
          · rfl
          · rfl
        · rw [if_neg h4]
          have c3 : ¬ (x : Int) = 94 := by omega
          refine ⟨p + 1, ?_⟩
          simp only [outC]
          have e1 : (p : Int) + 1 - 1 = p := by omega
          simp +contextual -dsimp (disch := omega) only [↓goDown, goUp, cr, simprocAttr, hl, c1, c2, c3, st0, u5i, e1]
          all_goals rfl
  · refine ⟨p, ?_⟩
    have hl := fun L => u8t (hH1 L) hb h1
    rw [if_neg h1]
    simp only [outC, hset]
    simp +contextual -dsimp (disch := omega) only [↓goDown, goUp, cr, simprocAttr, hl, u10]
end Go.Proofs.YthnmienjiangkaaGreatDoor.Pi.Q
namespace Go.Proofs.YthnmienjiangkaaGreatDoor.Pi.Q
open Go Go.Proofs.YthnmienjiangkaaGreatDoor.Pi
attribute [local congr] ite_congr
def ucw (b : List UInt8) (p : Nat) : Rs (List Int) := rList b 1000 (rIndex b) p
theorem uif {b : List UInt8} {p q : Nat} {l : List Int} (h : ucw b p = .ok l q) : q ≤ b.length := (ujz (fun p v q h => uhy h) h).1
def rsSub (f : Bool) (s : List Int) : Rs CT → Rs ST
  | .ok c q => .ok ⟨f, s, c⟩ q
  | .err a w => .err a w
def rSubs (b : List UInt8) (f : Bool) (p : Nat) : Rs ST :=
  match ucw b p with
  | .ok s q => rsSub f s (rComp b q)
  | .err a w => .err a w
def rSub (b : List UInt8) (p : Nat) : Rs ST :=
  if p < b.length then
    if (b.getD p 0).toNat = 80 then rSubs b false (p + 1)
    else if (b.getD p 0).toNat = 79 then rSubs b true (p + 1)
    else rsSub true [] (rComp b p)
  else .err b.length 3
theorem urd {b : List UInt8} {f : Bool} {s : List Int} {p q : Nat} {v : ST} (h : rsSub f s (rComp b p) = .ok v q) : q ≤ b.length := by
  cases h1 : rComp b p with
  | ok c q1 => rw [h1] at h; simp only [rsSub, Rs.ok.injEq] at h; have := uxz h1; omega
  | err a w => rw [h1] at h; cases h
theorem uq2 {b : List UInt8} {f : Bool} {p q : Nat} {v : ST} (h : rSubs b f p = .ok v q) : q ≤ b.length := by
  unfold rSubs at h
  cases h1 : ucw b p with
  | ok s q1 => rw [h1] at h; exact urd h
  | err a w => rw [h1] at h; cases h
theorem v00i {b : List UInt8} {p q : Nat} {v : ST} (h : rSub b p = .ok v q) : q ≤ b.length := by
  unfold rSub at h
  split at h
  · split at h
    · exact uq2 h
    · split at h
      · exact uq2 h
      · exact urd h
  · cases h
theorem uni {b : List UInt8} {z : Bool} (hb : b.length < 2 ^ 61) {c : Nat} {H : Heap} {p : Nat} (hH : hget H c = some (curB z b p)) (hp : p ≤ b.length) :
    ∃ q, run (C u3p [.ptr c 0, .int .u32 1000, .fn u11 [.ptr c 0] []]) H = outC z b c H q (fun l => accP 1 (l.map encI)) (ucw b p) :=
  ut1 hb (fun p v q h => uhy h) (one := .fn u11 [.ptr c 0] []) (most := 1000) (by omega) (fun H p hH hp => by
    obtain ⟨q, h⟩ := urx hH hb hp
    exact ⟨q, h⟩) hH hp
theorem uo6 {v : CT} : (encC v).cells = csC v := nrfl rfl
theorem sub_is {H : Heap} {b : List UInt8} {z : Bool} {c p : Nat} (hH : hget H c = some (curB z b p)) (hb : b.length < 2 ^ 61) (hp : p ≤ b.length) :
    ∃ q, run (C u2r [.ptr c 0]) H = outC z b c H q encS (rSub b p) := by
  have hid := get_lt hH
  have hset := u1g hH
  rw [ucx]
  unfold rSub
  have hH1 : ∀ L, hget (hadd H L) c = some (curB z b p) := fun L => by rw [u5a hid]; exact hH
  have so : ∀ u L, Pi.hset (hadd H L) c (curB z b u) = hadd (Pi.hset H c (curB z b u)) L := fun u L => by rw [u9y hid]
  have so1 : ∀ u y L, Pi.hset (hadd (Pi.hset H c (curB z b y)) L) c (curB z b u) = hadd (Pi.hset H c (curB z b u)) L := fun u y L => by rw [u7v hid, set_set]
  have hH2 : ∀ u L, hget (hadd (Pi.hset H c (curB z b u)) L) c = some (curB z b u) := fun u L => by rw [u5a (by rw [u71]; exact hid)]; exact u4z hid
  have st0 : hget H c = some (.cells [BS z b, .int .i64 p]) := hH
  by_cases h1 : p < b.length
  · have hl := fun L => ubb (hH1 L) hb h1
    have hc := byt_lt (b.getD p 0)
    rw [if_pos h1]
    generalize (b.getD p 0).toNat = x at hl hc ⊢
    by_cases h2 : x = 80
    · rw [if_pos h2]
      have c1 : (x : Int) = 80 := by omega
      have c2 : ¬ (x : Int) = 79 := by omega
      have c3 : ((x : Int) == 79) = false := beq_false_of_ne c2
      obtain ⟨q, hk⟩ := uni hb (hH2 (p + 1) [.cells [.bool false, .slice false true 0 [], .int .i64 0, .slice false true 0 [], .slice false true 0 [], .slice false true 0 []]]) (show p + 1 ≤ b.length by omega)
      unfold rSubs
      cases hr : ucw b (p + 1) with
      | err a w =>
        refine ⟨q, ?_⟩
        simp only [hr, outC, so1] at hk ⊢
        unfold curB at hk
        simp only [ns] at hk
        simp +contextual -dsimp (disch := omega) only [↓goDown, goUp, cr, simprocAttr, hl, eq_true c1, c2, c3, st0, run_mf, hk, u10]
        all_goals rfl
      | ok ps q1 =>
        obtain ⟨q2, hk2⟩ := up0 (hH2 q1 [.cells [.bool false, .slice false true 0 [], .int .i64 0, .slice false true 0 [], .slice false true 0 [], .slice false true 0 []], .cells [.bool false, shutP 1 (ps.map encI), .int .i64 0, .slice false true 0 [], .slice false true 0 [], .slice false true 0 []]]) hb (uif hr)
        refine ⟨q2, ?_⟩
        simp only [hr, outC, so1] at hk ⊢
        unfold curB at hk
        simp only [ns] at hk
        cases hs : rComp b q1 <;> simp only [hs, outC, so1, rsSub] at hk2 ⊢ <;> unfold curB at hk2 <;>
          simp +contextual -dsimp (disch := omega) only [↓goDown, goUp, cr, simprocAttr, hl, eq_true c1, c2, c3, st0, run_mf, hk, hk2, u10, u8n, stripC_acc, u7b, u69, u2a, u7p, u60, low_P, u65, u7r, uo6, csC, uod, uku, uo8, low_C]
        · rfl
        · rfl
    · rw [if_neg h2]
      by_cases h3 : x = 79
      · rw [if_pos h3]
        have c1 : (x : Int) = 79 := by omega
        have c2 : ¬ (x : Int) = 80 := by omega
        have c3 : ((x : Int) == 79) = true := by rw [c1]; rfl
        obtain ⟨q, hk⟩ := uni hb (hH2 (p + 1) [.cells [.bool false, .slice false true 0 [], .int .i64 0, .slice false true 0 [], .slice false true 0 [], .slice false true 0 []]]) (show p + 1 ≤ b.length by omega)
        unfold rSubs
        cases hr : ucw b (p + 1) with
        | err a w =>
          refine ⟨q, ?_⟩
          simp only [hr, outC, so1] at hk ⊢
          unfold curB at hk
          simp only [ns] at hk
          simp +contextual -dsimp (disch := omega) only [↓goDown, goUp, cr, simprocAttr, hl, eq_true c1, c2, c3, st0, run_mf, hk, u10]
          all_goals rfl
        | ok ps q1 =>
          obtain ⟨q2, hk2⟩ := up0 (hH2 q1 [.cells [.bool false, .slice false true 0 [], .int .i64 0, .slice false true 0 [], .slice false true 0 [], .slice false true 0 []], .cells [.bool true, shutP 1 (ps.map encI), .int .i64 0, .slice false true 0 [], .slice false true 0 [], .slice false true 0 []]]) hb (uif hr)
          refine ⟨q2, ?_⟩
          simp only [hr, outC, so1] at hk ⊢
          unfold curB at hk
          simp only [ns] at hk
          cases hs : rComp b q1 <;> simp only [hs, outC, so1, rsSub] at hk2 ⊢ <;> unfold curB at hk2 <;>
            simp +contextual -dsimp (disch := omega) only [↓goDown, goUp, cr, simprocAttr, hl, eq_true c1, c2, c3, st0, run_mf, hk, hk2, u10, u8n, stripC_acc, u7b, u69, u2a, u7p, u60, low_P, u65, u7r, uo6, csC, uod, uku, uo8, low_C]
          · rfl
          · rfl
      · rw [if_neg h3]
        have c1 : ¬ (x : Int) = 80 := by omega
        have c2 : ¬ (x : Int) = 79 := by omega
        obtain ⟨q, hk⟩ := up0 (hH1 [.cells [.bool false, .slice false true 0 [], .int .i64 0, .slice false true 0 [], .slice false true 0 [], .slice false true 0 []]]) hb hp
        refine ⟨q, ?_⟩
        cases hs : rComp b p <;> simp only [hs, outC, so, rsSub] at hk ⊢ <;>
          simp +contextual -dsimp (disch := omega) only [↓goDown, goUp, cr, simprocAttr, hl, c1, c2, hk, u10, u7p, u60, low_P, u65, u7r, uo6, csC, uod, uku, uo8, low_C]
        · rfl
  · refine ⟨p, ?_⟩
    have hl := fun L => u8t (hH1 L) hb h1
    rw [if_neg h1]
    simp only [outC, hset]
    simp +contextual -dsimp (disch := omega) only [↓goDown, goUp, cr, simprocAttr, hl, u10]
structure RT where
  types : List ST
  exp : Bool
  deriving DecidableEq
def encR (v : RT) : PV := .agg [shutP 6 (v.types.map encS), .bool v.exp]
def rTypes (b : List UInt8) (p : Nat) : Rs (List ST) := rList b 10000 (rSub b) p
def rsExp : Rs (List ST) → Rs RT
  | .ok l q => .ok ⟨l, true⟩ q
  | .err a w => .err a w
def rsOne : Rs ST → Rs RT
  | .ok v q => .ok ⟨[v], false⟩ q
  | .err a w => .err a w
def rRec (b : List UInt8) (p : Nat) : Rs RT :=
  if p < b.length then
    if (b.getD p 0).toNat = 78 then rsExp (rTypes b (p + 1)) else rsOne (rSub b p)
  else .err b.length 3
theorem uyu {b : List UInt8} {z : Bool} (hb : b.length < 2 ^ 61) {c : Nat} {H : Heap} {p : Nat} (hH : hget H c = some (curB z b p)) (hp : p ≤ b.length) :
    ∃ q, run (C u1e [.ptr c 0, .int .u32 10000, .fn u2r [.ptr c 0] []]) H = outC z b c H q (fun l => accP 6 (l.map encS)) (rTypes b p) :=
  ut9 hb (fun p v q h => v00i h) (one := .fn u2r [.ptr c 0] []) (most := 10000) (by omega) (fun H p hH hp => by
    obtain ⟨q, h⟩ := sub_is hH hb hp
    exact ⟨q, h⟩) hH hp
theorem bsR_S {v : ST} {K : Heap} : bsR true (some 6) [encS v] K = some (.ok (.slice true false 6 [encS v]) K) := by
  have := bs_S (v := v) (K := K)
  rw [run_bs] at this
  simpa [ug9] using this
theorem rec_is {H : Heap} {b : List UInt8} {z : Bool} {c p : Nat} (hH : hget H c = some (curB z b p)) (hb : b.length < 2 ^ 61) (hp : p ≤ b.length) :
    ∃ q, run (C u3x [.ptr c 0]) H = outC z b c H q encR (rRec b p) := by
  have hid := get_lt hH
  have hset := u1g hH
  rw [ucs]
  unfold rRec
  have hH1 : ∀ L, hget (hadd H L) c = some (curB z b p) := fun L => by rw [u5a hid]; exact hH
  have so : ∀ u L, Pi.hset (hadd H L) c (curB z b u) = hadd (Pi.hset H c (curB z b u)) L := fun u L => by rw [u9y hid]
  have so1 : ∀ u y L, Pi.hset (hadd (Pi.hset H c (curB z b y)) L) c (curB z b u) = hadd (Pi.hset H c (curB z b u)) L := fun u y L => by rw [u7v hid, set_set]
  have hH2 : ∀ u L, hget (hadd (Pi.hset H c (curB z b u)) L) c = some (curB z b u) := fun u L => by rw [u5a (by rw [u71]; exact hid)]; exact u4z hid
  have st0 : hget H c = some (.cells [BS z b, .int .i64 p]) := hH
  by_cases h1 : p < b.length
  · have hl := fun L => ubb (hH1 L) hb h1
    have hc := byt_lt (b.getD p 0)
    rw [if_pos h1]
    generalize (b.getD p 0).toNat = x at hl hc ⊢
    by_cases h2 : x = 78
    · rw [if_pos h2]
      have c1 : (x : Int) = 78 := by omega
      obtain ⟨q, hk⟩ := uyu hb (hH2 (p + 1) [.cells [.slice false true 0 [], .bool false]]) (show p + 1 ≤ b.length by omega)
      refine ⟨q, ?_⟩
      cases hr : rTypes b (p + 1) <;> simp only [hr, outC, so1, rsExp] at hk ⊢ <;> unfold curB at hk <;> simp only [ns] at hk <;>
        simp +contextual -dsimp (disch := omega) only [↓goDown, goUp, cr, simprocAttr, hl, eq_true c1, st0, run_mf, hk, u10, u8n, stripC_acc, u7b, u69, u2a, u7p, u60, low_P, u65, u7r]
      · rfl
      · rfl
    · rw [if_neg h2]
      have c1 : ¬ (x : Int) = 78 := by omega
      obtain ⟨q, hk⟩ := sub_is (hH1 [.cells [.slice false true 0 [], .bool false]]) hb hp
      refine ⟨q, ?_⟩
      cases hs : rSub b p <;> simp only [hs, outC, so, rsOne] at hk ⊢ <;>
        simp +contextual -dsimp (disch := omega) only [↓goDown, goUp, cr, simprocAttr, hl, c1, hk, u10, bs_S, bsR_S, ug9, u7p, u60, low_P, u65, u7r, low_Su]
      · rfl
  · refine ⟨p, ?_⟩
    have hl := fun L => u8t (hH1 L) hb h1
    rw [if_neg h1]
    simp only [outC, hset]
    simp +contextual -dsimp (disch := omega) only [↓goDown, goUp, cr, simprocAttr, hl, u10]
end Go.Proofs.YthnmienjiangkaaGreatDoor.Pi.Q
namespace Go.Proofs.YthnmienjiangkaaGreatDoor.Pi.Q
open Go Go.Proofs.YthnmienjiangkaaGreatDoor.Pi
attribute [local congr] ite_congr
abbrev zR : RT := ⟨[], false⟩
theorem uw8 {b : List UInt8} {z : Bool} (hb : b.length < 2 ^ 61) {one : PV} {r : Nat → Rs RT}
    (hone : ∀ H c p, hget H c = some (curB z b p) → p ≤ b.length → ∃ q, run (callV P C (strip one) [.ptr c 0]) H = outC z b c H q encR (r p)) {H : Heap} {at_ : Int} :
    run (C u2o [BS z b, .int .i64 at_, one]) H = some (.ok (atPl at_ b (encR zR) (outR encR (encR zR) (r at_.toNat))) H) := by
  rw [u98]
  unfold atPl
  by_cases h1 : at_ < 0
  · rw [if_pos (.inl h1)]
    simp +contextual -dsimp (disch := omega) only [↓goDown, goUp, cr, simprocAttr, eq_true h1, encR, uak, u7p, u60, low_P, u65, ukc, u7r]
  · by_cases h2 : (b.length : Int) < at_
    · rw [if_pos (.inr h2)]
      simp +contextual -dsimp (disch := omega) only [↓goDown, goUp, cr, simprocAttr, h1, h2, List.length_map, encR, uak, u7p, u60, low_P, u65, ukc, u7r]
    · rw [if_neg (by omega)]
      obtain ⟨p, rfl⟩ := Int.eq_ofNat_of_zero_le (show 0 ≤ at_ by omega)
      rw [Int.toNat_natCast]
      obtain ⟨q, hk⟩ := hone (hadd H [.cells [.slice false true 0 [], .bool false], .cells [.int .i64 0], .cells [.int .i64 0], .cells [.slice false true 0 [], .bool false], curB z b p]) (H.length + 4) p (by rw [ual]; rfl) (by omega)
      cases hr : r p <;> rw [hr] at hk <;> simp only [outC, outR, ue5] at hk ⊢ <;> unfold curB at hk <;>
        simp +contextual -dsimp (disch := omega) only [↓goDown, goUp, cr, simprocAttr, h1, h2, List.length_map, run_mf, hk, flt, u81, u7w, run_ta, bi_if, bi_ifn, cutL, uer, Nat.reduceBeqDiff, encR, uak, u7p, u60, low_P, u65, ukc, u7r]
end Go.Proofs.YthnmienjiangkaaGreatDoor.Pi.Q
namespace Go.Proofs.YthnmienjiangkaaGreatDoor.Pi.Q
open Go Go.Proofs.YthnmienjiangkaaGreatDoor.Pi
attribute [local congr] ite_congr
theorem upg {H : Heap} {b : List UInt8} {z : Bool} (hb : b.length < 2 ^ 61) {at_ : Int} :
    run (C u8i [BS z b, .int .i64 at_]) H = some (.ok (atPl at_ b (encR zR) (outR encR (encR zR) (rRec b at_.toNat))) H) := by
  have h := fun L => uw8 (z := z) hb (one := .fn u3x [] []) (r := rRec b) (fun H c p hH hp => rec_is hH hb hp) (H := hadd H L) (at_ := at_)
  rw [ufg]
  revert h
  refine uim (fun t => (∀ L, run (C u2o [BS z b, .int .i64 at_, .fn u3x [] []]) (hadd H L) = some (.ok t (hadd H L))) → _ = some (Out.ok t H)) ?_ ?_ ?_ <;> intros <;> rename_i h <;> simp only [encR, uak, List.map_nil] at h ⊢ <;>
    simp +contextual -dsimp (disch := omega) only [↓goDown, goUp, cr, simprocAttr, h, encR, uak, List.map_nil, u7p, u60, low_P, u65, ukc, u7r]
end Go.Proofs.YthnmienjiangkaaGreatDoor.Pi.Q
namespace Go.Proofs.YthnmienjiangkaaGreatDoor.Pi.Q
open Go Go.Proofs.YthnmienjiangkaaGreatDoor.Pi
attribute [local congr] ite_congr
theorem ul6 {H : Heap} {k : IntKind} {n : Int} : run (bi .eql .none (.int k n) (.int k n)) H = some (.ok (.bool true) H) := by
  unfold run
  rw [bi_eql, beq_self_eq_true]
  rfl
theorem uqg {H : Heap} {t : Bool} : run (bi .eql .bool (.bool t) (.bool t)) H = some (.ok (.bool true) H) := by cases t <;> rfl
theorem ukh {H : Heap} {t : Bool} : run (bi .neq .bool (.bool t) (.bool t)) H = some (.ok (.bool false) H) := by cases t <;> rfl
theorem unb {H : Heap} {v : VT} : run (C u2i [encV v, encV v]) H = some (.ok (.bool true) H) := by
  rw [ubs]
  by_cases h : v.num = 5
  · have e : (v.num = 5) = True := eq_true h
    simp +contextual -dsimp (disch := omega) only [↓goDown, goUp, cr, simprocAttr, uh9, ul6, uqg, e]
  · have e : (v.num = 5) = False := eq_false h
    simp +contextual -dsimp (disch := omega) only [↓goDown, goUp, cr, simprocAttr, uh9, ul6, uqg, e]
def CT.fit (v : CT) : Prop := v.ps.length < 2 ^ 62 ∧ v.rs.length < 2 ^ 62 ∧ v.fs.length < 2 ^ 62
def ST.fit (v : ST) : Prop := v.sup.length < 2 ^ 62 ∧ v.comp.fit
def RT.fit (v : RT) : Prop := v.types.length < 2 ^ 62 ∧ ∀ t ∈ v.types, t.fit
end Go.Proofs.YthnmienjiangkaaGreatDoor.Pi.Q
namespace Go.Proofs.YthnmienjiangkaaGreatDoor.Pi
open Go.ChangeShapes Go.WideShapes
def litPV : Lit → PV
  | .int k n => .int k n
  | .bool b => .bool b
  | .string s => .str ⟨s.toArray⟩
  | _ => .undef
def wrapE (P : Program) (e : TypeId) (cs : List PV) : PV :=
  match tagg P e with
  | some _ => .agg cs
  | none => cs.headD .undef
mutual
def toldD {H : Type} (P : Program) : TypeId → DataW H → List PV
  | t, .lit l => [litPV l]
  | t, .nil => match P.underlying t with
    | some (.slice e) => [.slice false true 0 []]
    | _ => [.nil]
  | t, .slice elems _ => match P.underlying t with
    | some (.slice e) => [.slice false false (P.cellsOf e) (toldE P e elems)]
    | _ => []
  | t, .agg parts => match P.underlying t with
    | some (.struct fs) => toldF P fs.toList parts
    | _ => []
  | _, _ => []
def toldE {H : Type} (P : Program) (e : TypeId) : List (DataW H) → List PV
  | [] => []
  | d :: r => wrapE P e (toldD P e d) :: toldE P e r
def toldF {H : Type} (P : Program) : List Field → List (DataW H) → List PV
  | f :: fs, d :: r => toldD P f.type d ++ toldF P fs r
  | _, _ => []
end
def laidF (P : Program) : Nat → List Field → Option Nat
  | o, [] => some o
  | o, f :: r => bif f.offset == o then laidF P (o + P.cellsOf f.type) r else none
def plainT (P : Program) (T : List TypeId) (t : TypeId) : Bool :=
  match P.underlying t with
  | some .bool | some (.int _) | some .string => P.cellsOf t == 1 && (tagg P t).isNone
  | some (.slice e) => T.contains e && (decide (0 < P.cellsOf e) && (P.cellsOf t == 1 && (tagg P t).isNone))
  | some (.struct fs) => fs.toList.all (fun f => T.contains f.type) && (laidF P 0 fs.toList == some (P.cellsOf t) && (tagg P t).isSome)
  | _ => false
theorem ust {P : Program} {T : List TypeId} {e : TypeId} (he : plainT P T e = true) {cs : List PV} (hl : cs.length = P.cellsOf e) (hc : ∀ (j : Nat) (c : PV), cs[j]? = some c → isCell c = true) : (wrapE P e cs).cells = cs := by
  have one : P.cellsOf e = 1 → (tagg P e).isNone = true → (wrapE P e cs).cells = cs := fun h1 h2 => by
    obtain ⟨c, rfl⟩ : ∃ c, cs = [c] := by
      cases cs with
      | nil => simp at hl; omega
      | cons c r =>
        cases r with
        | nil => exact ⟨c, rfl⟩
        | cons d r => simp at hl; omega
    have hcell := hc 0 c rfl
    unfold wrapE
    cases ht : tagg P e with
    | some _ => rw [ht] at h2; cases h2
    | none =>
      simp only [List.headD_cons]
      cases c <;> first | rfl | cases hcell
  unfold plainT at he
  split at he
  · simp only [Bool.and_eq_true, beq_iff_eq] at he; exact one he.1 he.2
  · simp only [Bool.and_eq_true, beq_iff_eq] at he; exact one he.1 he.2
  · simp only [Bool.and_eq_true, beq_iff_eq] at he; exact one he.1 he.2
  · simp only [Bool.and_eq_true, beq_iff_eq] at he; exact one he.2.2.1 he.2.2.2
  · simp only [Bool.and_eq_true, beq_iff_eq] at he
    unfold wrapE
    cases ht : tagg P e with
    | some _ => rfl
    | none => rw [ht] at he; cases he.2.2
  · cases he
def ToldOk (W : World) (cs : List Value) (ps : List PV) : Prop :=
  ps.length = cs.length ∧ ∀ (j : Nat) (c : PV), ps[j]? = some c → isCell c = true ∧ ∀ v, cs[j]? = some v → RepF (imOf W) c v
theorem ToldOk.one {W : World} {c : PV} {v : Value} (h1 : isCell c = true) (h2 : RepF (imOf W) c v) : ToldOk W [v] [c] :=
  ⟨rfl, fun j d hd => by
    cases j with
    | zero => simp at hd; subst hd; exact ⟨h1, fun u hu => by simp at hu; subst hu; exact h2⟩
    | succ j => simp at hd⟩
variable {H : Type} {enc : TypeId × Value → H} {P : Program} {W : World} {base : Nat} {spare : Nat → Bool} {held : Bool} {T : List TypeId}
theorem uj8 {W : World} {a : Addr} {n : Nat} {l : List Value} (hn : 0 < n) (h : W.cells? base a n = some l) : a.spot = none := by
  unfold World.cells? at h
  split at h
  · have h0 := mapM_some_get h 0 0 (by simp [hn])
    have : a.add 0 = a := by simp [Addr.add]
    rw [this] at h0
    unfold World.cell? at h0
    cases hs : a.spot with
    | none => rfl
    | some x =>
      rw [hs] at h0
      have hl := mapM_some_length h
      have hlt : 0 < l.length := by rw [hl]; simpa using hn
      rw [List.getElem?_eq_getElem hlt] at h0
      split at h0 <;> simp at h0
  · cases h
theorem uxa {W : World} {a : Addr} {n : Nat} {l : List Value} (h : W.cells? base a n = some l) (hs : a.spot = none) : l.length = n ∧ ∀ (j : Nat) (v : Value), l[j]? = some v → W.cell? ⟨a.block, a.off + j, none⟩ = some v := by
  unfold World.cells? at h
  split at h
  · refine ⟨by simpa using mapM_some_length h, fun j v hv => ?_⟩
    have hj : j < n := by
      have := (List.getElem?_eq_some_iff.mp hv).1
      have h2 := mapM_some_length h
      simp at h2
      omega
    have h0 := mapM_some_get h j j (by simp [hj])
    rw [hv] at h0
    have : a.add j = ⟨a.block, a.off + j, none⟩ := by
      obtain ⟨b, o, sp⟩ := a
      simp only at hs
      subst hs
      unfold Addr.add
      split <;> simp_all
    rw [this] at h0
    exact h0
  · cases h
theorem ulo {P : Program} {e : TypeId} : ∀ (l : List (DataW H)) (i : Nat), (toldE P e l)[i]? = l[i]?.map fun d => wrapE P e (toldD P e d)
  | [], i => by simp [toldE]
  | d :: r, 0 => by simp [toldE]
  | d :: r, i + 1 => by simpa [toldE] using ulo r i
theorem uew {P : Program} {e : TypeId} : ∀ (l : List (DataW H)), (toldE P e l).length = l.length
  | [] => rfl
  | d :: r => by simp [toldE, uew r]
theorem ToldOk.append {W : World} {cs ds : List Value} {ps qs : List PV} (h : ToldOk W cs ps) (k : ToldOk W ds qs) : ToldOk W (cs ++ ds) (ps ++ qs) := by
  refine ⟨by simp [h.1, k.1], fun j c hc => ?_⟩
  by_cases hj : j < ps.length
  · rw [List.getElem?_append_left hj] at hc
    obtain ⟨h1, h2⟩ := h.2 j c hc
    refine ⟨h1, fun v hv => h2 v ?_⟩
    rwa [List.getElem?_append_left (by rw [← h.1]; exact hj)] at hv
  · rw [List.getElem?_append_right (by omega)] at hc
    obtain ⟨h1, h2⟩ := k.2 _ c hc
    refine ⟨h1, fun v hv => h2 v ?_⟩
    rwa [List.getElem?_append_right (by rw [← h.1]; omega), ← h.1] at hv
theorem uhq (n : Nat) (ok : ∀ (t : TypeId) (cs : List Value) (x : DataW H × List MemPlace), T.contains t = true → DataW.trod enc P W base spare held n t cs = some x → cs.length = P.cellsOf t ∧ ToldOk W cs (toldD P t x.1)) (cs : List Value) :
    ∀ (fs : List Field) (o : Nat) (xs : List (DataW H × List MemPlace)), (∀ f ∈ fs, T.contains f.type = true) → laidF P o fs = some cs.length → xs.length = fs.length →
      (∀ (i : Nat) (f : Field), fs[i]? = some f → DataW.trod enc P W base spare held n f.type ((cs.drop f.offset).take (P.cellsOf f.type)) = xs[i]?) → o ≤ cs.length ∧ ToldOk W (cs.drop o) (toldF P fs (xs.map (·.1)))
  | [], o, xs, hT, hl, hx, h => by
    simp only [laidF, Option.some.injEq] at hl
    subst hl
    obtain rfl : xs = [] := List.eq_nil_of_length_eq_zero (by simpa using hx)
    exact ⟨Nat.le_refl _, by simp [toldF], by simp [toldF]⟩
  | f :: fs, o, xs, hT, hl, hx, h => by
    unfold laidF at hl
    cases ho : (f.offset == o) with
    | false => rw [ho] at hl; cases hl
    | true =>
      rw [ho] at hl
      simp only [cond_true] at hl
      obtain rfl : f.offset = o := by simpa using ho
      cases xs with
      | nil => simp at hx
      | cons y ys =>
        have h0 := h 0 f rfl
        simp only [List.getElem?_cons_zero] at h0
        obtain ⟨l1, l2⟩ := ok f.type _ y (hT f (by simp)) h0
        obtain ⟨k1, k2⟩ := uhq n ok cs fs _ ys (fun g hg => hT g (by simp [hg])) hl (by simpa using hx) (fun i g hg => by
          have := h (i + 1) g (by simpa using hg)
          simpa using this)
        refine ⟨by omega, ?_⟩
        have e1 : cs.drop f.offset = (cs.drop f.offset).take (P.cellsOf f.type) ++ cs.drop (f.offset + P.cellsOf f.type) := by
          rw [← List.drop_drop, List.take_append_drop]
        rw [e1]
        simp only [List.map_cons, toldF]
        exact l2.append k2
theorem told_ok (hT : T.all (plainT P T) = true) (hsp : ∀ b, spare b = true) : ∀ (n : Nat) (t : TypeId) (cs : List Value) (x : DataW H × List MemPlace), T.contains t = true → DataW.trod enc P W base spare held n t cs = some x → cs.length = P.cellsOf t ∧ ToldOk W cs (toldD P t x.1) := by
  intro n
  induction n with
  | zero => intro t cs x _ h; simp [DataW.trod] at h
  | succ n ih =>
  intro t cs x ht h
  have hp : plainT P T t = true := List.all_eq_true.mp hT t (by simpa using ht)
  have hp0 := hp
  unfold plainT at hp
  split at hp
  · rename_i hu
    simp only [Bool.and_eq_true, beq_iff_eq] at hp
    obtain ⟨b, rfl, rfl⟩ := DataW.trod_bool hu h
    refine ⟨by simp [hp.1], ?_⟩
    simp only [toldD, litPV]
    exact .one rfl (.bool b)
  · rename_i k hu
    simp only [Bool.and_eq_true, beq_iff_eq] at hp
    obtain ⟨m, rfl, rfl, _⟩ := DataW.trod_int hu h
    refine ⟨by simp [hp.1], ?_⟩
    simp only [toldD, litPV]
    exact .one rfl (.int k m)
  · rename_i hu
    simp only [Bool.and_eq_true, beq_iff_eq] at hp
    obtain ⟨s, rfl, rfl, _⟩ := DataW.trod_string hu h
    refine ⟨by simp [hp.1], ?_⟩
    simp only [toldD, litPV]
    have e : (⟨s.data.toList.toArray⟩ : ByteArray) = s := by rw [Array.toArray_toList]
    rw [e]
    exact .one rfl (.str s)
  · rename_i e hu
    simp only [Bool.and_eq_true, beq_iff_eq, decide_eq_true_eq] at hp
    obtain ⟨he, hz, h1, _⟩ := hp
    have hpe : plainT P T e = true := List.all_eq_true.mp hT e (by simpa using he)
    rcases DataW.trod_slice hu h with ⟨rfl, rfl⟩ | ⟨a, len, cap, elems, rest, m, hm, rfl, rfl, hb, hlc, hcm, hlen, hel, hre, hno⟩
    · refine ⟨by simp [h1], ?_⟩
      simp only [toldD, hu]
      exact .one rfl (.snil 0)
    · obtain rfl : m = n := by omega
      refine ⟨by simp [h1], ?_⟩
      simp only [toldD, hu]
      have each : ∀ (i : Nat) (y : DataW H × List MemPlace), elems[i]? = some y → ∃ l : List Value, W.cells? base (a.add (i * P.cellsOf e)) (P.cellsOf e) = some l ∧ l.length = P.cellsOf e ∧ ToldOk W l (toldD P e y.1) := by
        intro i y hy
        have hi : i < len := by
          have := (List.getElem?_eq_some_iff.mp hy).1
          omega
        have := hel i hi
        rw [hy, Option.bind_eq_some_iff] at this
        obtain ⟨l, hl, hd⟩ := this
        obtain ⟨q1, q2⟩ := ih e l y he hd
        exact ⟨l, hl, q1, q2⟩
      have spot : a.spot = none ∨ cap = 0 := by
        by_cases hc : cap = 0
        · exact .inr hc
        · left
          have add0 : a.add (0 * P.cellsOf e) = a := by simp [Addr.add]
          by_cases hl0 : len = 0
          · obtain ⟨r1, r2⟩ := hre (hsp _)
            have := r2 0 (by omega)
            have hlt : 0 < rest.length := by omega
            rw [List.getElem?_eq_getElem hlt, Option.bind_eq_some_iff] at this
            obtain ⟨l, hl, _⟩ := this
            rw [hl0] at hl
            rw [show (0 + 0) * P.cellsOf e = 0 * P.cellsOf e by simp, add0] at hl
            exact uj8 hz hl
          · have hlt : 0 < elems.length := by omega
            obtain ⟨l, hl, _⟩ := each 0 _ (List.getElem?_eq_getElem hlt)
            rw [add0] at hl
            exact uj8 hz hl
      obtain ⟨g, o, sp⟩ := a
      have hcap : cap = 0 → elems = [] := fun h => List.eq_nil_of_length_eq_zero (by omega)
      have hL : (toldE P e (elems.map (·.1))).length = len := by rw [uew, List.length_map, hlen]
      have hget : ∀ (i : Nat) (x : PV), (toldE P e (elems.map (·.1)))[i]? = some x → sp = none ∧ ∃ l : List Value, (∀ (j : Nat) (v : Value), l[j]? = some v → imOf W g (o + i * P.cellsOf e + j) = some v) ∧ l.length = P.cellsOf e ∧ x.cells.length = P.cellsOf e ∧ ∀ (j : Nat) (c : PV), x.cells[j]? = some c → ∀ v, l[j]? = some v → RepF (imOf W) c v := by
        intro i x hx
        rw [ulo, List.getElem?_map] at hx
        cases hy : elems[i]? with
        | none => rw [hy] at hx; simp at hx
        | some y =>
          rw [hy] at hx
          simp only [Option.map_some, Option.some.injEq] at hx
          have hsn : sp = none := by
            rcases spot with h | h
            · exact h
            · rw [hcap h] at hy; simp at hy
          subst hsn
          obtain ⟨l, hl, q1, q2⟩ := each i y hy
          have hadd : (⟨g, o, none⟩ : Addr).add (i * P.cellsOf e) = ⟨g, o + i * P.cellsOf e, none⟩ := by unfold Addr.add; split <;> simp_all
          rw [hadd] at hl
          obtain ⟨_, q3⟩ := uxa hl rfl
          have hw := ust hpe (cs := toldD P e y.1) (by rw [q2.1, q1]) (fun j c hc => (q2.2 j c hc).1)
          rw [hx] at hw
          refine ⟨rfl, l, fun j v hv => q3 j v hv, q1, by rw [hw, q2.1, q1], fun j c hc v hv => ?_⟩
          rw [hw] at hc
          exact (q2.2 j c hc).2 v hv
      have hrep := RepF.slice (im := imOf W) (g := g) (o := o) (cap := cap) (sz := P.cellsOf e) (sp := sp) (xs := toldE P e (elems.map (·.1))) (fun i j => (imOf W g (o + i * P.cellsOf e + j)).getD .nilIface) spot (by omega)
        (fun i x hx => (hget i x hx).2.choose_spec.2.2.1)
        (fun i x j c hx hc => by
          obtain ⟨_, l, l1, l2, l3, l4⟩ := hget i x hx
          have hj : j < l.length := by
            have := (List.getElem?_eq_some_iff.mp hc).1
            omega
          rw [l1 j _ (List.getElem?_eq_getElem hj)]
          rfl)
        (fun i x j c hx hc => by
          obtain ⟨_, l, l1, l2, l3, l4⟩ := hget i x hx
          have hj : j < l.length := by
            have := (List.getElem?_eq_some_iff.mp hc).1
            omega
          rw [l1 j _ (List.getElem?_eq_getElem hj)]
          exact l4 j c hc _ (List.getElem?_eq_getElem hj))
      rw [hL] at hrep
      exact .one rfl hrep
  · rename_i fs hu
    simp only [Bool.and_eq_true, beq_iff_eq, List.all_eq_true] at hp
    obtain ⟨hTf, hlaid, _⟩ := hp
    obtain ⟨xs, m, hm, rfl, hcl, hxl, hx⟩ := DataW.trod_struct hu h
    obtain rfl : m = n := by omega
    refine ⟨hcl, ?_⟩
    simp only [toldD, hu]
    have := uhq (T := T) m (fun t cs x ht hk => ih t cs x ht hk) cs fs.toList 0 xs (fun f hf => hTf f hf) (by rw [hcl]; exact hlaid) (by simpa using hxl) (fun i f hf => hx i f (by simpa using hf))
    simpa using this.2
  · cases hp
end Go.Proofs.YthnmienjiangkaaGreatDoor.Pi
namespace Go.Proofs.YthnmienjiangkaaGreatDoor.Pi
def LZ (z : Bool) (sz : Nat) (l : List PV) : PV := match l with | [] => .slice false z (if z then 0 else sz) [] | l => .slice false false sz l
structure GL (α : Type) where
  z : Bool
  l : List α
  deriving DecidableEq
section
variable {z : Bool} {sz : Nat} {l : List PV} {H : Heap}
theorem u16 : isTup (LZ z sz l) = false := by cases l <;> rfl
theorem u0n : isCell (LZ z sz l) = true := by cases l <;> rfl
theorem u18 : (LZ z sz l).cells = [LZ z sz l] := by cases l <;> rfl
theorem low_Z {n : Nat} : (LZ z sz l).low n = true := by cases l <;> simp [LZ, ub4]
theorem strip_Z : strip (LZ z sz l) = LZ z sz l := by cases l <;> rfl
theorem u0o : stripC (LZ z sz l) = LZ z sz l := by cases l <;> rfl
theorem ln_Z : run (lnL (LZ z sz l)) H = some (.ok (.int .i64 l.length) H) := by cases l <;> rfl
theorem ia_Z {i : Nat} {x : PV} (h : l[i]? = some x) : run (iaS sz (LZ z sz l) (.int .i64 i)) H = some (.ok (.elem x.cells) H) := by
  cases l with
  | nil => simp at h
  | cons a r =>
    show run (iaS sz (.slice false false sz (a :: r)) (.int .i64 i)) H = _
    rw [uki (by omega), Int.toNat_natCast, h]
    rfl
end
theorem ul4 {sz : Nat} {l : List PV} : Q.shutP sz l = LZ true sz l := by cases l <;> rfl
end Go.Proofs.YthnmienjiangkaaGreatDoor.Pi
namespace Go.Proofs.YthnmienjiangkaaGreatDoor.Pi
open Go.ChangeShapes Go.WideShapes
mutual
def bulk {H : Type} : DataW H → Nat
  | .lit (.string bytes) => bytes.length + 1
  | .lit _ => 1
  | .nil => 1
  | .ptr d => bulk d + 1
  | .slice elems spare => bulkL elems + bulkL spare + 1
  | .agg parts => bulkL parts + 1
  | _ => 1
def bulkL {H : Type} : List (DataW H) → Nat
  | [] => 0
  | d :: r => bulk d + bulkL r
end
section
variable {H : Type} {enc : TypeId × Value → H} {P : Program} {W : World} {base : Nat} {spare : Nat → Bool} {held : Bool} {A B : Type} {n : Nat} {t e : TypeId}
structure DecArgs (H : Type) where
  enc : TypeId × Value → H
  P : Program
  W : World
  base : Nat
  spare : Nat → Bool
  held : Bool
variable (G : DecArgs H)
def Dec (n : Nat) (t : TypeId) (cells : A → List PV) (ok : A → Prop) (ms : A → Nat) : Prop :=
  ∀ cs x, DataW.trod G.enc G.P G.W G.base G.spare G.held n t cs = some x → ∃ a, toldD G.P t x.1 = cells a ∧ ok a ∧ ms a ≤ bulk x.1
def DecF (n : Nat) (fs : List Field) (cells : A → List PV) (ok : A → Prop) (ms : A → Nat) : Prop :=
  ∀ (xs : List (DataW H × List MemPlace)), xs.length = fs.length → (∀ (i : Nat) (f : Field), fs[i]? = some f → ∃ cs, DataW.trod G.enc G.P G.W G.base G.spare G.held n f.type cs = xs[i]?) →
    ∃ a, toldF G.P fs (xs.map (·.1)) = cells a ∧ ok a ∧ ms a ≤ bulkL (xs.map (·.1))
variable {G}
theorem dec_int {k : IntKind} (hu : G.P.underlying t = some (.int k)) : Dec G n t (fun m : Int => [.int k m]) (fun m => (Lit.int k m).wf = true) (fun _ => 1) := by
  intro cs x h
  obtain ⟨m, rfl, rfl, hw⟩ := DataW.trod_int hu h
  exact ⟨m, by simp [toldD, litPV], hw, by simp [bulk]⟩
theorem dec_bool (hu : G.P.underlying t = some .bool) : Dec G n t (fun b : Bool => [.bool b]) (fun _ => True) (fun _ => 1) := by
  intro cs x h
  obtain ⟨b, rfl, rfl⟩ := DataW.trod_bool hu h
  exact ⟨b, by simp [toldD, litPV], trivial, by simp [bulk]⟩
theorem dec_str (hu : G.P.underlying t = some .string) : Dec G n t (fun s : ByteArray => [.str s]) (fun s => s.size ≤ maxLen) (fun s => s.size + 1) := by
  intro cs x h
  obtain ⟨s, rfl, rfl, hs⟩ := DataW.trod_string hu h
  refine ⟨s, ?_, hs, ?_⟩
  · simp only [toldD, litPV]
  · simp only [bulk]
    exact Nat.le_of_eq (by simp)
theorem decF_nil : DecF G n [] (fun _ : Unit => []) (fun _ => True) (fun _ => 0) := by
  intro xs hl _
  exact ⟨(), by simp [toldF], trivial, Nat.zero_le _⟩
theorem decF_cons {f : Field} {fs : List Field} {cA : A → List PV} {okA : A → Prop} {mA : A → Nat} {cB : B → List PV} {okB : B → Prop} {mB : B → Nat} (ha : Dec G n f.type cA okA mA) (hb : DecF G n fs cB okB mB) :
    DecF G n (f :: fs) (fun p : A × B => cA p.1 ++ cB p.2) (fun p => okA p.1 ∧ okB p.2) (fun p => mA p.1 + mB p.2) := by
  intro xs hl h
  cases xs with
  | nil => simp at hl
  | cons y ys =>
    obtain ⟨cs, h0⟩ := h 0 f rfl
    simp only [List.getElem?_cons_zero] at h0
    obtain ⟨a, a1, a2, a3⟩ := ha _ _ h0
    obtain ⟨b, b1, b2, b3⟩ := hb ys (by simpa using hl) (fun i g hg => by simpa using h (i + 1) g (by simpa using hg))
    exact ⟨(a, b), by simp only [List.map_cons, toldF, a1, b1], ⟨a2, b2⟩, by simp only [List.map_cons, bulkL]; omega⟩
theorem dec_struct {fs : Array Field} {l : List Field} (hu : G.P.underlying t = some (.struct fs)) (hl : fs.toList = l) {cells : A → List PV} {ok : A → Prop} {ms : A → Nat} (h : ∀ m, n = m + 1 → DecF G m l cells ok ms) : Dec G n t cells ok (fun a => ms a + 1) := by
  intro cs x hx
  obtain ⟨xs, m, hm, rfl, hcl, hxl, hxi⟩ := DataW.trod_struct hu hx
  subst hl
  obtain ⟨a, a1, a2, a3⟩ := h m hm xs (by simpa using hxl) (fun i f hf => ⟨_, hxi i f (by simpa using hf)⟩)
  exact ⟨a, by simp only [toldD, hu, a1], a2, by simp only [bulk]; omega⟩
theorem Dec.map {cells : A → List PV} {ok : A → Prop} {ms : A → Nat} (h : Dec G n t cells ok ms) (f : A → B) {cB : B → List PV} {okB : B → Prop} {mB : B → Nat} (hc : ∀ a, cells a = cB (f a)) (ho : ∀ a, ok a → okB (f a)) (hm : ∀ a, mB (f a) ≤ ms a) : Dec G n t cB okB mB := by
  intro cs x hx
  obtain ⟨a, a1, a2, a3⟩ := h cs x hx
  exact ⟨f a, by rw [a1, hc], ho a a2, Nat.le_trans (hm a) a3⟩
def sumL {A : Type} (m : A → Nat) : List A → Nat
  | [] => 0
  | a :: r => m a + sumL m r
theorem um2 {cells : A → List PV} {ok : A → Prop} {ms : A → Nat} (h : Dec G n e cells ok ms) {ec : A → PV} (hec : ∀ a, wrapE G.P e (cells a) = ec a) : ∀ (ys : List (DataW H × List MemPlace)), (∀ y ∈ ys, ∃ cs, DataW.trod G.enc G.P G.W G.base G.spare G.held n e cs = some y) →
    ∃ l : List A, toldE G.P e (ys.map (·.1)) = l.map ec ∧ (∀ a ∈ l, ok a) ∧ sumL ms l ≤ bulkL (ys.map (·.1)) ∧ l.length = ys.length
  | [], _ => ⟨[], by simp [toldE], by simp, by simp [sumL], rfl⟩
  | y :: ys, hy => by
    obtain ⟨cs, h0⟩ := hy y (by simp)
    obtain ⟨a, a1, a2, a3⟩ := h _ _ h0
    obtain ⟨l, l1, l2, l3, l4⟩ := um2 h hec ys (fun z hz => hy z (by simp [hz]))
    refine ⟨a :: l, ?_, ?_, ?_, by simp [l4]⟩
    · simp only [List.map_cons, toldE, a1, hec, l1]
    · intro b hb
      rcases List.mem_cons.mp hb with rfl | hb
      · exact a2
      · exact l2 b hb
    · simp only [List.map_cons, sumL, bulkL]; omega
theorem dec_list {cells : A → List PV} {ok : A → Prop} {ms : A → Nat} (hu : G.P.underlying t = some (.slice e)) (h : ∀ m, n = m + 1 → Dec G m e cells ok ms) {ec : A → PV} (hec : ∀ a, wrapE G.P e (cells a) = ec a) {sz : Nat} (hsz : G.P.cellsOf e = sz) :
    Dec G n t (fun g : GL A => [LZ g.z sz (g.l.map ec)]) (fun g => ∀ a ∈ g.l, ok a) (fun g => sumL ms g.l + 1) := by
  intro cs x hx
  rcases DataW.trod_slice hu hx with ⟨rfl, rfl⟩ | ⟨a, len, cap, elems, rest, m, hm, rfl, rfl, hb, hlc, hcm, hlen, hel, hre, hno⟩
  · exact ⟨⟨true, []⟩, by simp [toldD, hu, LZ], by simp, by simp [bulk, sumL]⟩
  · obtain ⟨l, l1, l2, l3, l4⟩ := um2 (h m hm) hec elems (fun y hy => by
      obtain ⟨i, hi⟩ := List.getElem?_of_mem hy
      have hlt : i < len := by
        have := (List.getElem?_eq_some_iff.mp hi).1
        omega
      have := hel i hlt
      rw [hi, Option.bind_eq_some_iff] at this
      obtain ⟨cs, _, hd⟩ := this
      exact ⟨cs, hd⟩)
    refine ⟨⟨false, l⟩, ?_, l2, by simp only [bulk]; omega⟩
    simp only [toldD, hu, l1, hsz]
    cases l <;> rfl
end
end Go.Proofs.YthnmienjiangkaaGreatDoor.Pi
namespace Go.Proofs.YthnmienjiangkaaGreatDoor.Pi
open Go.ChangeShapes Go.WideShapes
theorem rep_agg {P : Program} {W : World} {base : Nat} {t : TypeId} {fs : Array Field} {v : Value} {ps : List PV} (hu : P.underlying t = some (.struct fs)) (hok : Value.okWide P W .any base t v) (ht : ToldOk W v.cells.toList ps) : Rep [] (imOf W) (.agg ps) v := by
  unfold Value.okWide at hok
  rw [hu] at hok
  obtain ⟨cs, rfl, _, _⟩ := hok
  obtain ⟨h1, h2⟩ := ht
  refine .agg (by simpa [Value.cells] using h1.symm) (fun j c hj => (h2 j c hj).1) fun j c v hc hv => .flat ((h2 j c hc).2 v (by simpa [Value.cells] using hv))
theorem rep_cell {P : Program} {W : World} {base : Nat} {t : TypeId} {d : TypeDesc} {v : Value} {p : PV} (hu : P.underlying t = some d) (hd : ∀ fs, d ≠ .struct fs) (hd2 : ∀ n e, d ≠ .array n e) (hok : Value.okWide P W .any base t v) (ht : ToldOk W v.cells.toList [p]) : Rep [] (imOf W) p v := by
  have hv : v.cells = #[v] := by
    unfold Value.okWide at hok
    rw [hu] at hok
    cases d <;> first | (exact absurd rfl (hd _)) | (exact absurd rfl (hd2 _ _)) | skip
    all_goals (unfold Cell.okWide Cell.ok at hok; simp only [hu] at hok)
    all_goals (cases v <;> first | rfl | (simp at hok; done))
  rw [hv] at ht
  exact .flat ((ht.2 0 p rfl).2 v rfl)
theorem args_nil {im : Nat → Nat → Option Value} : ArgsOk (gOf im) [] #[] := ⟨rfl, fun j p v hp => by simp at hp⟩
theorem args_cons {im : Nat → Nat → Option Value} {p : PV} {v : Value} {ps : List PV} {vs : List Value} (h : Rep [] im p v) (hs : strip p = p) (hr : ArgsOk (gOf im) ps vs.toArray) : ArgsOk (gOf im) (p :: ps) (v :: vs).toArray := by
  refine ⟨by have := hr.size; simp at this ⊢; exact this, fun j q u hq hu => ?_⟩
  cases j with
  | zero =>
    simp at hq hu
    subst hq; subst hu
    exact ⟨.one (.pure h), hs⟩
  | succ j =>
    exact hr.rep j q u (by simpa using hq) (by simpa using hu)
end Go.Proofs.YthnmienjiangkaaGreatDoor.Pi
namespace Go.Proofs.YthnmienjiangkaaGreatDoor.Pi
open Go.ChangeShapes Go.WideShapes
structure ASl where
  z : Bool
  sz : Nat
  xs : List PV
variable {H : Type} {G : DecArgs H} {n : Nat} {t e : TypeId}
end Go.Proofs.YthnmienjiangkaaGreatDoor.Pi
namespace Go.Proofs.YthnmienjiangkaaGreatDoor.Pi.Q
open Go Go.Proofs.YthnmienjiangkaaGreatDoor.Pi
def cs_V (v : VT) : List PV := [.int .i64 v.num, .bool v.nul, .int .i64 v.heap]
def ok_V (v : VT) : Prop := (Lit.int .i64 v.num).wf = true ∧ True ∧ (Lit.int .i64 v.heap).wf = true ∧ True
def ms_V (v : VT) : Nat := 1 + (1 + (1 + (0))) + 1
def cs_F (v : FT) : List PV := [.int .i64 v.ty.num, .bool v.ty.nul, .int .i64 v.ty.heap, .bool v.mu]
def ok_F (v : FT) : Prop := ok_V v.ty ∧ True ∧ True
def ms_F (v : FT) : Nat := ms_V v.ty + (1 + (0)) + 1
structure CG where
  kind : Int
  ps : GL (VT)
  rs : GL (VT)
  fs : GL (FT)
  deriving DecidableEq
def cs_CG (v : CG) : List PV := [.int .i64 v.kind, LZ v.ps.z 3 (v.ps.l.map encV), LZ v.rs.z 3 (v.rs.l.map encV), LZ v.fs.z 4 (v.fs.l.map encF)]
def ok_CG (v : CG) : Prop := (Lit.int .i64 v.kind).wf = true ∧ (∀ a ∈ v.ps.l, ok_V a) ∧ (∀ a ∈ v.rs.l, ok_V a) ∧ (∀ a ∈ v.fs.l, ok_F a) ∧ True
def ms_CG (v : CG) : Nat := 1 + ((sumL (fun a => ms_V a) v.ps.l + 1) + ((sumL (fun a => ms_V a) v.rs.l + 1) + ((sumL (fun a => ms_F a) v.fs.l + 1) + (0)))) + 1
structure SG where
  fin : Bool
  sup : GL (Int)
  comp : CG
  deriving DecidableEq
def cs_SG (v : SG) : List PV := [.bool v.fin, LZ v.sup.z 1 (v.sup.l.map encI), .int .i64 v.comp.kind, LZ v.comp.ps.z 3 (v.comp.ps.l.map encV), LZ v.comp.rs.z 3 (v.comp.rs.l.map encV), LZ v.comp.fs.z 4 (v.comp.fs.l.map encF)]
def ok_SG (v : SG) : Prop := True ∧ (∀ a ∈ v.sup.l, (Lit.int .i64 a).wf = true) ∧ ok_CG v.comp ∧ True
def ms_SG (v : SG) : Nat := 1 + ((sumL (fun a => 1) v.sup.l + 1) + (ms_CG v.comp + (0))) + 1
def encSG (v : SG) : PV := .agg [.bool v.fin, LZ v.sup.z 1 (v.sup.l.map encI), .int .i64 v.comp.kind, LZ v.comp.ps.z 3 (v.comp.ps.l.map encV), LZ v.comp.rs.z 3 (v.comp.rs.l.map encV), LZ v.comp.fs.z 4 (v.comp.fs.l.map encF)]
structure RG where
  types : GL (SG)
  exp : Bool
  deriving DecidableEq
def cs_RG (v : RG) : List PV := [LZ v.types.z 6 (v.types.l.map encSG), .bool v.exp]
def ok_RG (v : RG) : Prop := (∀ a ∈ v.types.l, ok_SG a) ∧ True ∧ True
def ms_RG (v : RG) : Nat := (sumL (fun a => ms_SG a) v.types.l + 1) + (1 + (0)) + 1
def encRG (v : RG) : PV := .agg [LZ v.types.z 6 (v.types.l.map encSG), .bool v.exp]
structure LT where
  wide : Bool
  min : Int
  max : Int
  has : Bool
  deriving DecidableEq
def cs_LT (v : LT) : List PV := [.bool v.wide, .int .u64 v.min, .int .u64 v.max, .bool v.has]
def ok_LT (v : LT) : Prop := True ∧ (Lit.int .u64 v.min).wf = true ∧ (Lit.int .u64 v.max).wf = true ∧ True ∧ True
def ms_LT (v : LT) : Nat := 1 + (1 + (1 + (1 + (0)))) + 1
def encLT (v : LT) : PV := .agg [.bool v.wide, .int .u64 v.min, .int .u64 v.max, .bool v.has]
theorem u4k {v : LT} : encLT v = .agg [.bool v.wide, .int .u64 v.min, .int .u64 v.max, .bool v.has] := nrfl rfl
def CG.plain (v : CG) : CT := ⟨v.kind, v.ps.l, v.rs.l, v.fs.l⟩
def SG.plain (v : SG) : ST := ⟨v.fin, v.sup.l, v.comp.plain⟩
def RG.plain (v : RG) : RT := ⟨v.types.l.map SG.plain, v.exp⟩
def CT.gl (v : CT) : CG := ⟨v.kind, ⟨true, v.ps⟩, ⟨true, v.rs⟩, ⟨true, v.fs⟩⟩
def ST.gl (v : ST) : SG := ⟨v.fin, ⟨true, v.sup⟩, v.comp.gl⟩
def RT.gl (v : RT) : RG := ⟨⟨true, v.types.map ST.gl⟩, v.exp⟩
end Go.Proofs.YthnmienjiangkaaGreatDoor.Pi.Q
namespace Go.Proofs.YthnmienjiangkaaGreatDoor.Pi.Q
open Go Go.Proofs.YthnmienjiangkaaGreatDoor.Pi
structure TB where
  elem : VT
  lim : LT
  deriving DecidableEq
def cs_TB (v : TB) : List PV := [.int .i64 v.elem.num, .bool v.elem.nul, .int .i64 v.elem.heap, .bool v.lim.wide, .int .u64 v.lim.min, .int .u64 v.lim.max, .bool v.lim.has]
def ok_TB (v : TB) : Prop := ok_V v.elem ∧ ok_LT v.lim ∧ True
def ms_TB (v : TB) : Nat := ms_V v.elem + (ms_LT v.lim + (0)) + 1
def encTB (v : TB) : PV := .agg [.int .i64 v.elem.num, .bool v.elem.nul, .int .i64 v.elem.heap, .bool v.lim.wide, .int .u64 v.lim.min, .int .u64 v.lim.max, .bool v.lim.has]
theorem u5k {v : TB} : encTB v = .agg [.int .i64 v.elem.num, .bool v.elem.nul, .int .i64 v.elem.heap, .bool v.lim.wide, .int .u64 v.lim.min, .int .u64 v.lim.max, .bool v.lim.has] := nrfl rfl
structure GO where
  ty : VT
  mu : Bool
  deriving DecidableEq
def cs_GO (v : GO) : List PV := [.int .i64 v.ty.num, .bool v.ty.nul, .int .i64 v.ty.heap, .bool v.mu]
def ok_GO (v : GO) : Prop := ok_V v.ty ∧ True ∧ True
def ms_GO (v : GO) : Nat := ms_V v.ty + (1 + (0)) + 1
def encGO (v : GO) : PV := .agg [.int .i64 v.ty.num, .bool v.ty.nul, .int .i64 v.ty.heap, .bool v.mu]
theorem u5l {v : GO} : encGO v = .agg [.int .i64 v.ty.num, .bool v.ty.nul, .int .i64 v.ty.heap, .bool v.mu] := nrfl rfl
structure XT where
  kind : Int
  ty : Int
  tab : TB
  mem : LT
  glo : GO
  deriving DecidableEq
def cs_XT (v : XT) : List PV := [.int .i64 v.kind, .int .i64 v.ty, .int .i64 v.tab.elem.num, .bool v.tab.elem.nul, .int .i64 v.tab.elem.heap, .bool v.tab.lim.wide, .int .u64 v.tab.lim.min, .int .u64 v.tab.lim.max, .bool v.tab.lim.has, .bool v.mem.wide, .int .u64 v.mem.min, .int .u64 v.mem.max, .bool v.mem.has, .int .i64 v.glo.ty.num, .bool v.glo.ty.nul, .int .i64 v.glo.ty.heap, .bool v.glo.mu]
def ok_XT (v : XT) : Prop := (Lit.int .i64 v.kind).wf = true ∧ (Lit.int .i64 v.ty).wf = true ∧ ok_TB v.tab ∧ ok_LT v.mem ∧ ok_GO v.glo ∧ True
def ms_XT (v : XT) : Nat := 1 + (1 + (ms_TB v.tab + (ms_LT v.mem + (ms_GO v.glo + (0))))) + 1
structure IM where
  mod : ByteArray
  nm : ByteArray
  ext : XT
  deriving DecidableEq
def cs_IM (v : IM) : List PV := [.str v.mod, .str v.nm, .int .i64 v.ext.kind, .int .i64 v.ext.ty, .int .i64 v.ext.tab.elem.num, .bool v.ext.tab.elem.nul, .int .i64 v.ext.tab.elem.heap, .bool v.ext.tab.lim.wide, .int .u64 v.ext.tab.lim.min, .int .u64 v.ext.tab.lim.max, .bool v.ext.tab.lim.has, .bool v.ext.mem.wide, .int .u64 v.ext.mem.min, .int .u64 v.ext.mem.max, .bool v.ext.mem.has, .int .i64 v.ext.glo.ty.num, .bool v.ext.glo.ty.nul, .int .i64 v.ext.glo.ty.heap, .bool v.ext.glo.mu]
def ok_IM (v : IM) : Prop := v.mod.size ≤ maxLen ∧ v.nm.size ≤ maxLen ∧ ok_XT v.ext ∧ True
def ms_IM (v : IM) : Nat := (v.mod.size + 1) + ((v.nm.size + 1) + (ms_XT v.ext + (0))) + 1
def encIM (v : IM) : PV := .agg [.str v.mod, .str v.nm, .int .i64 v.ext.kind, .int .i64 v.ext.ty, .int .i64 v.ext.tab.elem.num, .bool v.ext.tab.elem.nul, .int .i64 v.ext.tab.elem.heap, .bool v.ext.tab.lim.wide, .int .u64 v.ext.tab.lim.min, .int .u64 v.ext.tab.lim.max, .bool v.ext.tab.lim.has, .bool v.ext.mem.wide, .int .u64 v.ext.mem.min, .int .u64 v.ext.mem.max, .bool v.ext.mem.has, .int .i64 v.ext.glo.ty.num, .bool v.ext.glo.ty.nul, .int .i64 v.ext.glo.ty.heap, .bool v.ext.glo.mu]
theorem u5p {v : IM} : encIM v = .agg [.str v.mod, .str v.nm, .int .i64 v.ext.kind, .int .i64 v.ext.ty, .int .i64 v.ext.tab.elem.num, .bool v.ext.tab.elem.nul, .int .i64 v.ext.tab.elem.heap, .bool v.ext.tab.lim.wide, .int .u64 v.ext.tab.lim.min, .int .u64 v.ext.tab.lim.max, .bool v.ext.tab.lim.has, .bool v.ext.mem.wide, .int .u64 v.ext.mem.min, .int .u64 v.ext.mem.max, .bool v.ext.mem.has, .int .i64 v.ext.glo.ty.num, .bool v.ext.glo.ty.nul, .int .i64 v.ext.glo.ty.heap, .bool v.ext.glo.mu] := nrfl rfl
structure EX where
  nm : ByteArray
  kind : Int
  pl : Int
  deriving DecidableEq
end Go.Proofs.YthnmienjiangkaaGreatDoor.Pi.Q
namespace Go.Proofs.YthnmienjiangkaaGreatDoor.Pi.Q
open Go Go.Proofs.YthnmienjiangkaaGreatDoor.Pi
inductive Like : List SK → List PV → List PV → Prop where
  | nil : Like [] [] []
  | int {k : IntKind} {a b : Int} {ks : List SK} {x y : List PV} (h : Like ks x y) : Like (.int :: ks) (.int k a :: x) (.int k b :: y)
  | bool {a b : Bool} {ks : List SK} {x y : List PV} (h : Like ks x y) : Like (.bool :: ks) (.bool a :: x) (.bool b :: y)
  | str {a b : ByteArray} {ks : List SK} {x y : List PV} (h : Like ks x y) : Like (.str :: ks) (.str a :: x) (.str b :: y)
theorem beq_ba {a b : ByteArray} : (a == b) = true ↔ a = b := by
  obtain ⟨a⟩ := a
  obtain ⟨b⟩ := b
  show (a == b) = true ↔ _
  rw [beq_iff_eq]
  exact ⟨fun h => by rw [h], fun h => by injection h⟩
theorem us0 {ks : List SK} {x y : List PV} (h : Like ks x y) : (x = y → u1x ks x y = some true) ∧ (x ≠ y → u1x ks x y = some false) := by
  induction h with
  | nil => exact ⟨fun _ => rfl, fun h => absurd rfl h⟩
  | @int k a b ks x y h ih =>
    have e : u1x (.int :: ks) (.int k a :: x) (.int k b :: y) = if a = b then u1x ks x y else some false := by
      by_cases h : a = b
      · subst h
        have e1 : u26 .int (.int k a) (.int k a) = some true := by simp [u26]
        rw [if_pos rfl, u1x, e1]
      · have e1 : u26 .int (.int k a) (.int k b) = some false := by simp [u26, h]
        rw [if_neg h, u1x, e1]
    rw [e]
    constructor
    · intro hxy
      simp only [List.cons.injEq, PV.int.injEq, true_and] at hxy
      rw [if_pos hxy.1]
      exact ih.1 hxy.2
    · intro hxy
      by_cases hab : a = b
      · rw [if_pos hab]
        exact ih.2 fun g => hxy (by rw [hab, g])
      · rw [if_neg hab]
  | @bool a b ks x y h ih =>
    have e : u1x (.bool :: ks) (.bool a :: x) (.bool b :: y) = if a = b then u1x ks x y else some false := by
      by_cases h : a = b
      · subst h
        have e1 : u26 .bool (.bool a) (.bool a) = some true := by simp [u26]
        rw [if_pos rfl, u1x, e1]
      · have e1 : u26 .bool (.bool a) (.bool b) = some false := by simp [u26, h]
        rw [if_neg h, u1x, e1]
    rw [e]
    constructor
    · intro hxy
      simp only [List.cons.injEq, PV.bool.injEq] at hxy
      rw [if_pos hxy.1]
      exact ih.1 hxy.2
    · intro hxy
      by_cases hab : a = b
      · rw [if_pos hab]
        exact ih.2 fun g => hxy (by rw [hab, g])
      · rw [if_neg hab]
  | @str a b ks x y h ih =>
    have e : u1x (.str :: ks) (.str a :: x) (.str b :: y) = if a = b then u1x ks x y else some false := by
      by_cases h : a = b
      · subst h
        have := beq_ba.mpr (rfl : a = a)
        simp only [u1x, u26, this, if_true]
      · have : (a == b) = false := by
          cases hb : (a == b) with
          | false => rfl
          | true => exact absurd (beq_ba.mp hb) h
        simp only [u1x, u26, this, if_neg h]
    rw [e]
    constructor
    · intro hxy
      simp only [List.cons.injEq, PV.str.injEq] at hxy
      rw [if_pos hxy.1]
      exact ih.1 hxy.2
    · intro hxy
      by_cases hab : a = b
      · rw [if_pos hab]
        exact ih.2 fun g => hxy (by rw [hab, g])
      · rw [if_neg hab]
theorem ue2 {ks : List SK} {x y : List PV} {H : Heap} (h : Like ks x y) {p : Prop} [Decidable p] (hp : x = y ↔ p) : run (bi .eql (.struct ks) (.agg x) (.agg y)) H = some (.ok (.bool (decide p)) H) := by
  have hh := us0 h
  show (match u1x ks x y with | some b => M.pure (PV.bool b) | none => M.fail) H = _
  by_cases g : x = y
  · rw [hh.1 g, decide_eq_true (hp.mp g)]; rfl
  · rw [hh.2 g, decide_eq_false (fun q => g (hp.mpr q))]; rfl
theorem uyc {ks : List SK} {x y : List PV} {H : Heap} (h : Like ks x y) {p : Prop} [Decidable p] (hp : x = y ↔ p) : run (bi .neq (.struct ks) (.agg x) (.agg y)) H = some (.ok (.bool (!decide p)) H) := by
  have hh := us0 h
  show (match u1x ks x y with | some b => M.pure (PV.bool (!b)) | none => M.fail) H = _
  by_cases g : x = y
  · rw [hh.1 g, decide_eq_true (hp.mp g)]; rfl
  · rw [hh.2 g, decide_eq_false (fun q => g (hp.mpr q))]; rfl
end Go.Proofs.YthnmienjiangkaaGreatDoor.Pi.Q
namespace Go.Proofs.YthnmienjiangkaaGreatDoor.Pi.Q
open Go Go.Proofs.YthnmienjiangkaaGreatDoor.Pi
attribute [local congr] ite_congr
def accB (b : List UInt8) : PV := accP 1 (bytes b)
theorem byt_of {n : Nat} (h : n < 256) : byt (UInt8.ofNat n) = .int .u8 n := by
  unfold byt
  rw [UInt8.toNat_ofNat', Nat.mod_eq_of_lt h]
theorem uh7 {n : Nat} (h : n < 256) {K : Heap} : bsR true none [.int .u8 n] K = some (.ok (.slice true false 1 [byt (UInt8.ofNat n)]) K) := by
  rw [byt_of h]
  rfl
theorem ap_B {acc : List UInt8} {c : UInt8} {K : Heap} (h : acc.length + 1 ≤ 140737488355328) : run (ap true 1 1 (accB acc) (.slice true false 1 [byt c])) K = some (.ok (accB (acc ++ [c])) K) := by
  have := ap_acc (H := K) (sz := 1) (b := 1) (l := bytes acc) (v := byt c) (o := true) (by simpa [bytes] using h)
  unfold accB
  rw [this]
  simp [bytes]
def putU (n : Nat) : List UInt8 := if n < 128 then [UInt8.ofNat n] else UInt8.ofNat (n % 128 + 128) :: putU (n / 128)
termination_by n
decreasing_by omega
theorem or128 : ∀ m : Fin 256, IntKind.u8.wrap (BitVec.ofInt 8 (m.val : Int) ||| BitVec.ofInt 8 128).toNat = ((m.val % 128 + 128 : Nat) : Int) := by decide +kernel
theorem uwk (n : Nat) : bi .or .none (.int .u8 ((n % 256 : Nat) : Int)) (.int .u8 128) = M.pure (.int .u8 ((n % 128 + 128 : Nat) : Int)) := by
  rw [run_or]
  have := or128 ⟨n % 256, by omega⟩
  have e : n % 256 % 128 = n % 128 := by omega
  simp only [e] at this
  rw [show IntKind.u8.bits = 8 from rfl, this]
theorem shr7 (n : Nat) : bi .shr .none (.int .u64 (n : Int)) (.int .u64 7) = M.pure (.int .u64 ((n / 128 : Nat) : Int)) := by
  rw [ucz (by omega)]
  have : (n : Int).fdiv (2 ^ shiftN .u64 7) = ((n / 128 : Nat) : Int) := by
    have e : (2 : Int) ^ shiftN .u64 7 = 128 := by decide
    rw [e]
    simp [Int.fdiv_eq_ediv]
  rw [this]
theorem umh {H : Heap} {v2 : PV} : ∀ (m n : Nat) (acc : List UInt8), n < 128 ^ (m + 1) → n < 2 ^ 64 → acc.length + m < 1000 → run (u59 (.int .u64 n) v2 (accB acc)) H = some (.ok (accB (acc ++ putU n)) H)
  | m, n, acc, h, hn, hl => by
    have hap := fun c K => ap_B (acc := acc) (c := c) (K := K) (by omega)
    have ht : isTup (accB (acc ++ [UInt8.ofNat n])) = false := u2a
    by_cases h1 : n < 128
    · have c1 : ¬ (127 : Int) < n := by omega
      have hbs := fun K => uh7 (n := n) (by omega) (K := K)
      rw [u8s, putU, if_pos h1]
      simp +contextual -dsimp (disch := omega) only [↓goDown, goUp, cr, simprocAttr, c1, hbs, hap, ht]
    · cases m with
      | zero => simp at h; omega
      | succ m =>
        have c1 : (127 : Int) < n := by omega
        have hw : IntKind.u8.wrap (n : Int) = ((n % 256 : Nat) : Int) := by rw [show IntKind.u8.wrap (n : Int) = (n : Int) % 256 from rfl]; omega
        have hbs := fun K => uh7 (n := n % 128 + 128) (by omega) (K := K)
        have ih := umh (H := H) (v2 := v2) m (n / 128) (acc ++ [UInt8.ofNat (n % 128 + 128)]) (by
          have : 128 ^ (m + 1 + 1) = 128 ^ (m + 1) * 128 := Nat.pow_succ ..
          exact Nat.div_lt_of_lt_mul (by omega)) (by omega) (by simp; omega)
        rw [u8s, putU, if_neg h1]
        simp +contextual -dsimp (disch := omega) only [↓goDown, goUp, cr, simprocAttr, c1, hw, uwk, shr7, hbs, hap]
        rw [ih]
        simp
theorem uxd {H : Heap} {n : Nat} (hn : n < 2 ^ 64) : run (C u6f [.int .u64 n]) H = some (.ok (accB (putU n)) H) := by
  rw [uo4]
  have h := umh (H := H) (v2 := .slice false true 0 []) 9 n [] (by omega) hn (by simp)
  have h : run (u59 (.int .u64 n) (.slice false true 0 []) (.slice false true 0 [])) H = some (.ok (accB (putU n)) H) := h
  have hl : ∀ k, (accB (putU n)).low k = true := fun k => u69
  simp +contextual -dsimp (disch := omega) only [↓goDown, goUp, cr, simprocAttr, h, hl]
theorem v017 {n : Nat} : putU n ≠ [] := by
  rw [putU]
  split <;> simp
theorem uq3 : ∀ (m n : Nat), n < 128 ^ (m + 1) → (putU n).length ≤ m + 1
  | m, n, h => by
    rw [putU]
    split
    · simp
    · cases m with
      | zero => simp at h; omega
      | succ m =>
        have := uq3 m (n / 128) (by
          have : 128 ^ (m + 1 + 1) = 128 ^ (m + 1) * 128 := Nat.pow_succ ..
          exact Nat.div_lt_of_lt_mul (by omega))
        simp only [List.length_cons]
        omega
theorem ua2 {n : Nat} (h : n < 2 ^ 64) : (putU n).length ≤ 10 := uq3 9 n (by omega)
end Go.Proofs.YthnmienjiangkaaGreatDoor.Pi.Q
namespace Go.Proofs.YthnmienjiangkaaGreatDoor.Pi.Q
open Go Go.Proofs.YthnmienjiangkaaGreatDoor.Pi
attribute [local congr] ite_congr
def putS (n : Int) : List UInt8 := if -64 ≤ n ∧ n ≤ 63 then [UInt8.ofNat (n % 128).toNat] else UInt8.ofNat ((n % 128).toNat + 128) :: putS (n / 128)
termination_by n.natAbs
decreasing_by omega
theorem and127 : ∀ m : Fin 256, IntKind.u8.wrap (BitVec.ofInt 8 (m.val : Int) &&& BitVec.ofInt 8 127).toNat = ((m.val % 128 : Nat) : Int) := by decide +kernel
theorem uz5 (n : Nat) : bi .and .none (.int .u8 ((n % 256 : Nat) : Int)) (.int .u8 127) = M.pure (.int .u8 ((n % 128 : Nat) : Int)) := by
  rw [ua0]
  have := and127 ⟨n % 256, by omega⟩
  have e : n % 256 % 128 = n % 128 := by omega
  simp only [e] at this
  rw [show IntKind.u8.bits = 8 from rfl, this]
theorem shrS (n : Int) : bi .shr .none (.int .i64 n) (.int .u64 7) = M.pure (.int .i64 (n / 128)) := by
  rw [ucz (by omega)]
  have : n.fdiv (2 ^ shiftN .i64 7) = n / 128 := by
    have e : (2 : Int) ^ shiftN .i64 7 = 128 := by decide
    rw [e]
    simp [Int.fdiv_eq_ediv]
  rw [this]
theorem unc {H : Heap} {v2 : PV} : ∀ (m : Nat) (n : Int) (acc : List UInt8), -(64 * 128 ^ m) ≤ n → n < 64 * 128 ^ m → -9223372036854775808 ≤ n → n ≤ 9223372036854775807 → acc.length + m < 1000 →
    run (u5g (.int .i64 n) v2 (accB acc)) H = some (.ok (accB (acc ++ putS n)) H)
  | m, n, acc, h, h', hn, hn', hl => by
    have hap := fun c K => ap_B (acc := acc) (c := c) (K := K) (by omega)
    have hm : ((n % 128).toNat : Int) = n % 128 := Int.toNat_of_nonneg (by omega)
    have hw : IntKind.u8.wrap n = (((n % 256).toNat % 256 : Nat) : Int) := by rw [show IntKind.u8.wrap n = n % 256 from rfl]; omega
    have e128 : (n % 256).toNat % 128 = (n % 128).toNat := by omega
    by_cases h1 : -64 ≤ n ∧ n ≤ 63
    · have c1 : ¬ n < -64 := by omega
      have c2 : ¬ 63 < n := by omega
      have ha := uz5 (n % 256).toNat
      rw [e128] at ha
      have hbs := fun K => uh7 (n := (n % 128).toNat) (by omega) (K := K)
      have ht : isTup (accB (acc ++ [UInt8.ofNat (n % 128).toNat])) = false := u2a
      rw [u8r, putS, if_pos h1]
      simp +contextual -dsimp (disch := omega) only [↓goDown, goUp, cr, simprocAttr, c1, c2, hw, ha, hbs, hap, ht]
    · cases m with
      | zero => simp at h h'; omega
      | succ m =>
        have ho := uwk (n % 256).toNat
        rw [e128] at ho
        have hbs := fun K => uh7 (n := (n % 128).toNat + 128) (by omega) (K := K)
        have ih := unc (H := H) (v2 := v2) m (n / 128) (acc ++ [UInt8.ofNat ((n % 128).toNat + 128)]) (by
          have : (128 : Int) ^ (m + 1) = 128 ^ m * 128 := Int.pow_succ ..
          omega) (by
          have : (128 : Int) ^ (m + 1) = 128 ^ m * 128 := Int.pow_succ ..
          omega) (by omega) (by omega) (by simp; omega)
        rw [u8r, putS, if_neg h1]
        by_cases c1 : n < -64
        · simp +contextual -dsimp (disch := omega) only [↓goDown, goUp, cr, simprocAttr, c1, hw, ho, shrS, hbs, hap]
          rw [ih]
          simp
        · have c2 : 63 < n := by omega
          simp +contextual -dsimp (disch := omega) only [↓goDown, goUp, cr, simprocAttr, c1, c2, hw, ho, shrS, hbs, hap]
          rw [ih]
          simp
theorem v000 {H : Heap} {n : Int} (hn : -9223372036854775808 ≤ n) (hn' : n ≤ 9223372036854775807) : run (C u7c [.int .i64 n]) H = some (.ok (accB (putS n)) H) := by
  rw [up9]
  have h := unc (H := H) (v2 := .slice false true 0 []) 9 n [] (by omega) (by omega) hn hn' (by simp)
  have h : run (u5g (.int .i64 n) (.slice false true 0 []) (.slice false true 0 [])) H = some (.ok (accB (putS n)) H) := h
  have hl : ∀ k, (accB (putS n)).low k = true := fun k => u69
  simp +contextual -dsimp (disch := omega) only [↓goDown, goUp, cr, simprocAttr, h, hl]
end Go.Proofs.YthnmienjiangkaaGreatDoor.Pi.Q
namespace Go.Proofs.YthnmienjiangkaaGreatDoor.Pi.Q
open Go Go.Proofs.YthnmienjiangkaaGreatDoor.Pi
attribute [local congr] ite_congr
inductive Wr where
  | ok (u : List UInt8)
  | err (w : Nat)
theorem uy3 {H : Heap} {x : PV} : run (C u0f [x, .bool true]) H = some (.ok (.tup []) H) := by
  rw [u77]
  simp +contextual -dsimp (disch := omega) only [↓goDown, goUp, cr, simprocAttr, un_not]
theorem uxj {H : Heap} {x : PV} : run (C u0f [x, .bool false]) H = some (.pan (flt 0 4) H) := by
  rw [u77]
  simp +contextual -dsimp (disch := omega) only [↓goDown, goUp, cr, simprocAttr, un_not]
  all_goals rfl
theorem uur {H : Heap} {n : Int} : run (C u6i [.int .i64 n]) H = some (.ok (.bool (decide (0 ≤ n ∧ n ≤ 2147483647))) H) := by
  rw [ukl]
  by_cases h1 : 0 ≤ n
  · by_cases h2 : n ≤ 2147483647
    · have e : decide (0 ≤ n ∧ n ≤ 2147483647) = true := decide_eq_true ⟨h1, h2⟩
      rw [e]
      simp +contextual -dsimp (disch := omega) only [↓goDown, goUp, cr, simprocAttr, h1, h2]
    · have e : decide (0 ≤ n ∧ n ≤ 2147483647) = false := decide_eq_false (fun h => h2 h.2)
      rw [e]
      simp +contextual -dsimp (disch := omega) only [↓goDown, goUp, cr, simprocAttr, h1, h2]
  · have e : decide (0 ≤ n ∧ n ≤ 2147483647) = false := decide_eq_false (fun h => h1 h.1)
    rw [e]
    simp +contextual -dsimp (disch := omega) only [↓goDown, goUp, cr, simprocAttr, h1]
def wIndex (n : Int) : Wr := if 0 ≤ n ∧ n ≤ 2147483647 then .ok (putU n.toNat) else .err 4
def find (h : Int) : List Int → Nat → Option Nat
  | [], _ => none
  | a :: r, i => if a = h then some i else find h r (i + 1)
def absI : List Int := [-11, -9, -8, -7, -6, -5, -3, -1, -10, -4, -2, -12]
def wNamed : Option Nat → Wr
  | some j => .ok [UInt8.ofNat (105 + j)]
  | none => .err 4
def wHeap (h : Int) : Wr :=
  if 0 ≤ h then if h ≤ 2147483647 then .ok (putS h) else .err 4 else wNamed (find h absI 0)
theorem ur7 : ∀ (m : Nat) (n : Int), -(64 * 128 ^ m) ≤ n → n < 64 * 128 ^ m → (putS n).length ≤ m + 1
  | m, n, h, h' => by
    rw [putS]
    split
    · simp
    · cases m with
      | zero => simp at h h'; omega
      | succ m =>
        have e : (128 : Int) ^ (m + 1) = 128 ^ m * 128 := Int.pow_succ ..
        have := ur7 m (n / 128) (by omega) (by omega)
        simp only [List.length_cons]
        omega
theorem ux9 {H : Heap} {c : Nat} {h a : Int} {cs : List PV} {i : Nat} (hi : i < 12) (ha : nth cs i = some (.int .i64 a)) :
    run (u0v (.ptr c 0) (.int .i64 h) (.agg cs) (.int .i64 i)) H =
      if a = h then run (M.bind (C u07 [.ptr c 0, .int .u8 ((105 + i : Nat) : Int)]) fun _ => M.pure (.tup [])) H
      else run (u0v (.ptr c 0) (.int .i64 h) (.agg cs) (.int .i64 ((i + 1 : Nat) : Int))) H := by
  have c1 : (i : Int) < 12 := by omega
  have hx : run (ixA 12 1 none (.agg cs) (.int .i64 i)) H = some (.ok (.int .i64 a) H) := by
    rw [uxc, if_pos ⟨by omega, by omega⟩, Int.toNat_natCast, ha]
    rfl
  have e1 : (105 : Int) + i = ((105 + i : Nat) : Int) := by omega
  have e2 : (i : Int) + 1 = ((i + 1 : Nat) : Int) := rfl
  rw [u6d]
  by_cases hc : a = h
  · rw [if_pos hc]
    have c2 : (a = h) = True := eq_true hc
    simp +contextual -dsimp (disch := omega) only [↓goDown, goUp, cr, simprocAttr, c1, hx, c2, e1]
  · rw [if_neg hc]
    have c2 : (a = h) = False := eq_false hc
    simp +contextual -dsimp (disch := omega) only [↓goDown, goUp, cr, simprocAttr, c1, hx, c2, e2]
end Go.Proofs.YthnmienjiangkaaGreatDoor.Pi.Q
namespace Go.Proofs.YthnmienjiangkaaGreatDoor.Pi.Q
open Go Go.Proofs.YthnmienjiangkaaGreatDoor.Pi
attribute [local congr] ite_congr
def wCat (u : List UInt8) : Wr → Wr
  | .ok v => .ok (u ++ v)
  | .err w => .err w
def wVal (v : VT) : Wr :=
  if v.num = 5 then wCat (if v.nul = false then [100] else if 0 ≤ v.heap then [99] else []) (wHeap v.heap)
  else if 1 ≤ v.num ∧ v.num ≤ 4 ∧ v.nul = false ∧ v.heap = 0 then .ok [UInt8.ofNat (128 - v.num).toNat] else .err 4
end Go.Proofs.YthnmienjiangkaaGreatDoor.Pi.Q
namespace Go.Proofs.YthnmienjiangkaaGreatDoor.Pi.Q
open Go Go.Proofs.YthnmienjiangkaaGreatDoor.Pi
attribute [local congr] ite_congr
def wField (v : FT) : Wr :=
  if v.ty = ⟨6, false, 0⟩ then .ok [120, if v.mu then 1 else 0] else if v.ty = ⟨7, false, 0⟩ then .ok [119, if v.mu then 1 else 0]
  else match wVal v.ty with
    | .ok u => .ok (u ++ [if v.mu then 1 else 0])
    | .err w => .err w
theorem eql_V {H : Heap} {v : VT} {n : Int} : run (bi .eql (.struct [.int, .bool, .int]) (.agg [.int .i64 v.num, .bool v.nul, .int .i64 v.heap]) (.agg [.int .i64 n, .bool false, .int .i64 0])) H = some (.ok (.bool (decide (v = ⟨n, false, 0⟩))) H) := by
  obtain ⟨a, t, h⟩ := v
  have e : decide ((⟨a, t, h⟩ : VT) = ⟨n, false, 0⟩) = (a == n && (t == false && h == 0)) := by
    rw [Bool.eq_iff_iff]
    simp
  rw [e]
  unfold run bi
  cases hb1 : (a == n) <;> cases hb2 : (h == 0) <;> cases t <;> simp only [eqPV, u1x, u26, M.pure, hb1, hb2] <;> rfl
end Go.Proofs.YthnmienjiangkaaGreatDoor.Pi.Q
namespace Go.Proofs.YthnmienjiangkaaGreatDoor.Pi.Q
open Go Go.Proofs.YthnmienjiangkaaGreatDoor.Pi
attribute [local congr] ite_congr
def wThen : Wr → Wr → Wr
  | .ok u, r => wCat u r
  | .err w, _ => .err w
def wAll {α : Type} (w : α → Wr) : List α → Wr
  | [] => .ok []
  | x :: r => wThen (w x) (wAll w r)
def wEach {α : Type} (most : Nat) (w : α → Wr) (l : List α) : Wr := if most < l.length then .err 2 else wCat (putU l.length) (wAll w l)
end Go.Proofs.YthnmienjiangkaaGreatDoor.Pi.Q
namespace Go.Proofs.YthnmienjiangkaaGreatDoor.Pi.Q
open Go Go.Proofs.YthnmienjiangkaaGreatDoor.Pi
attribute [local congr] ite_congr
abbrev KR := Res (List UInt8) Unit
def encU (_ : Unit) : PV := .tup []
theorem u0s {u : Unit} : encU u = .tup [] := nrfl rfl
abbrev pB (acc : List UInt8) : Box := .cells [accB acc]
theorem ubh {a : List UInt8} : isCell (accB a) = true := u7b
theorem uef {a : List UInt8} : (accB a).cells = [accB a] := u8n
theorem low_B {a : List UInt8} {k : Nat} : (accB a).low k = true := u69
theorem upj {a : List UInt8} : isTup (accB a) = false := u2a
def kPut (u acc : List UInt8) : KR := if acc.length + u.length ≤ 140737488355328 then .ok () (acc ++ u) else .no
def kMust (b : Bool) (acc : List UInt8) : KR := if b = true then .ok () acc else .err u02 [0, 4]
theorem ap_X {acc u : List UInt8} {K : Heap} : run (ap true 1 1 (accB acc) (accB u)) K = if acc.length + u.length ≤ 140737488355328 then some (.ok (accB (acc ++ u)) K) else none := by
  cases acc with
  | nil => cases u with
    | nil => rfl
    | cons x r =>
      unfold accB accP run ap tail growB
      simp only [bytes, List.map_cons, List.map_nil, List.nil_append, List.length_nil, Nat.zero_add, beq_self_eq_true, Bool.or_true, cond_true, List.isEmpty_cons, cond_false, List.length_cons, List.length_map, Nat.mul_one, Nat.max_self]
      by_cases h : r.length + 1 ≤ 140737488355328
      · rw [decide_eq_true h, if_pos h]; rfl
      · rw [decide_eq_false h, if_neg h]; rfl
  | cons y a =>
    have key : (bytes (y :: a)).length + (bytes u).length = (y :: a).length + u.length := by simp [bytes]
    cases u with
    | nil =>
      unfold accB accP run ap tail growB
      simp only [bytes, List.map_cons, List.map_nil, List.append_nil, List.length_nil, Nat.add_zero, beq_self_eq_true, Bool.or_true, Bool.true_or, cond_true, cond_false, List.length_cons, List.length_map, Nat.mul_one, Nat.max_self, Bool.true_and]
      by_cases h : a.length + 1 ≤ 140737488355328
      · rw [decide_eq_true h, if_pos h]; rfl
      · rw [decide_eq_false h, if_neg h]; rfl
    | cons x r =>
      unfold accB accP run ap tail growB
      simp only [bytes, List.map_cons, List.map_nil, List.length_cons, List.length_map, beq_self_eq_true, Bool.or_true, cond_true, cond_false, Nat.mul_one, Nat.max_self, Bool.true_and]
      by_cases h : a.length + 1 + (r.length + 1) ≤ 140737488355328
      · rw [decide_eq_true h, if_pos h]
        simp only [cond_true, List.cons_append, List.map_cons, List.map_append]
        rfl
      · rw [decide_eq_false h, if_neg h]; rfl
theorem ap_X1 {acc : List UInt8} {c : UInt8} {K : Heap} : run (ap true 1 1 (accB acc) (.slice true false 1 [byt c])) K = if acc.length + 1 ≤ 140737488355328 then some (.ok (accB (acc ++ [c])) K) else none := ap_X (u := [c])
variable {c : Nat} {H : Heap} {L : List Box} {acc : List UInt8}
theorem mustK {b : Bool} (hc : c < List.length H) : runK c (C u0f [.ptr c 0, .bool b]) (St H c (pB acc) L) = outK c H L pB encU (kMust b acc) := by
  cases b with
  | true => rw [toK, uy3]; rfl
  | false =>
    rw [toK, uxj]
    show some (Out.pan _ (hset (St H c (pB acc) L) c .dead)) = some (Out.pan _ (St H c .dead L))
    rw [set_St hc]; rfl
theorem byteK {n : Int} (h0 : 0 ≤ n) (h1 : n < 256) (hc : c < List.length H) : runK c (C u07 [.ptr c 0, .int .u8 n]) (St H c (pB acc) L) = outK c H L pB encU (kPut [UInt8.ofNat n.toNat] acc) := liftK (fun H hc => by
  obtain ⟨n, rfl⟩ := Int.eq_ofNat_of_zero_le h0
  have hbs := fun K => uh7 (n := n) (by omega) (K := K)
  rw [u9f, Int.toNat_natCast]
  unfold kPut
  simp +contextual -dsimp (disch := omega) only [↓kDown, kUp, ↓goDown, goUp, cr, simprocAttr, hbs, ap_X1, ubh, uef, low_B, u0s]) hc
theorem uK {n : Int} (h0 : 0 ≤ n) (h1 : n < 18446744073709551616) (hc : c < List.length H) : runK c (C u36 [.ptr c 0, .int .u64 n]) (St H c (pB acc) L) = outK c H L pB encU (kPut (putU n.toNat) acc) := liftK (fun H hc => by
  obtain ⟨n, rfl⟩ := Int.eq_ofNat_of_zero_le h0
  have hp := fun K => uxd (H := K) (n := n) (by omega)
  rw [uie, Int.toNat_natCast]
  unfold kPut
  simp +contextual -dsimp (disch := omega) only [↓kDown, kUp, ↓goDown, goUp, cr, simprocAttr, toK (m := C u6f [.int .u64 (n : Int)]), hp, ap_X, ubh, uef, low_B, u0s]) hc
theorem flagK {b : Bool} (hc : c < List.length H) : runK c (C u61 [.ptr c 0, .bool b]) (St H c (pB acc) L) = outK c H L pB encU (kPut [if b then 1 else 0] acc) := liftK (fun H hc => by
  rw [uem]
  have h1 := fun L acc => byteK (c := c) (H := H) (L := L) (acc := acc) (n := 1) (by omega) (by omega) hc
  have h0 := fun L acc => byteK (c := c) (H := H) (L := L) (acc := acc) (n := 0) (by omega) (by omega) hc
  cases b <;> simp +contextual -dsimp (disch := omega) only [↓kDown, kUp, ↓goDown, goUp, cr, simprocAttr, h1, h0, u0s] <;> rfl) hc
def kIndex (n : Int) (acc : List UInt8) : KR := if 0 ≤ n ∧ n ≤ 2147483647 then kPut (putU n.toNat) acc else .err u02 [0, 4]
theorem indexK {n : Int} (hc : c < List.length H) : runK c (C u3a [.ptr c 0, .int .i64 n]) (St H c (pB acc) L) = outK c H L pB encU (kIndex n acc) := liftK (fun H hc => by
  rw [udf]
  unfold kIndex
  simp +contextual -dsimp (disch := omega) only [↓kDown, kUp, ↓goDown, goUp, cr, simprocAttr, toK (m := C u6i [.int .i64 n]), uur, mustK, kMust, uK, u0s]) hc
def kNamed : Option Nat → List UInt8 → KR
  | some j, acc => kPut [UInt8.ofNat (105 + j)] acc
  | none, _ => .err u02 [0, 4]
def kHeap (h : Int) (acc : List UInt8) : KR :=
  if 0 ≤ h then if h ≤ 2147483647 then kPut (putS h) acc else .err u02 [0, 4] else kNamed (find h absI 0) acc
theorem ut2 {h a : Int} {cs : List PV} {i : Nat} (hi : i < 12) (ha : nth cs i = some (.int .i64 a)) (hc : c < List.length H) :
    runK c (u0v (.ptr c 0) (.int .i64 h) (.agg cs) (.int .i64 i)) (St H c (pB acc) []) =
      if a = h then outK c H [] pB encU (kPut [UInt8.ofNat (105 + i)] acc)
      else runK c (u0v (.ptr c 0) (.int .i64 h) (.agg cs) (.int .i64 ((i + 1 : Nat) : Int))) (St H c (pB acc) []) := by
  unfold runK
  rw [ux9 hi ha]
  by_cases hc2 : a = h
  · rw [if_pos hc2, if_pos hc2]
    have hb := byteK (c := c) (H := H) (L := []) (acc := acc) (n := ((105 + i : Nat) : Int)) (by omega) (by omega) hc
    rw [Int.toNat_natCast] at hb
    show runK c _ _ = _
    simp +contextual -dsimp (disch := omega) only [↓kDown, kUp, ↓goDown, goUp, cr, simprocAttr, hb, u0s]
  · rw [if_neg hc2, if_neg hc2]
theorem ujm {h : Int} {cs : List PV} (hc : c < List.length H) : ∀ (l : List Int) (i : Nat), (∀ k (a : Int), l[k]? = some a → nth cs (i + k) = some (.int .i64 a)) → i + l.length = 12 →
    runK c (u0v (.ptr c 0) (.int .i64 h) (.agg cs) (.int .i64 i)) (St H c (pB acc) []) = outK c H [] pB encU (kNamed (find h l i) acc)
  | [], i, hcs, hi => by
    have c1 : ¬ (i : Int) < 12 := by simp at hi; omega
    rw [u6d]
    simp only [find, kNamed]
    simp +contextual -dsimp (disch := omega) only [↓kDown, kUp, ↓goDown, goUp, cr, simprocAttr, c1, mustK, kMust]
  | a :: r, i, hcs, hi => by
    have hi12 : i < 12 := by simp at hi; omega
    rw [ut2 hi12 (by simpa using hcs 0 a rfl) hc]
    unfold find
    by_cases hc2 : a = h
    · rw [if_pos hc2, if_pos hc2]; rfl
    · rw [if_neg hc2, if_neg hc2]
      exact ujm hc r (i + 1) (fun k b hb => by
        have := hcs (k + 1) b (by simpa using hb)
        rwa [show i + (k + 1) = i + 1 + k by omega] at this) (by simp at hi; omega)
theorem heapK {h : Int} (hc : c < List.length H) : runK c (C u67 [.ptr c 0, .int .i64 h]) (St H c (pB acc) L) = outK c H L pB encU (kHeap h acc) := liftK (fun H hc => by
  have hlp : runK c (u0v (.ptr c 0) (.int .i64 h) (.agg [.int .i64 (-11), .int .i64 (-9), .int .i64 (-8), .int .i64 (-7), .int .i64 (-6), .int .i64 (-5), .int .i64 (-3), .int .i64 (-1), .int .i64 (-10), .int .i64 (-4), .int .i64 (-2), .int .i64 (-12)]) (.int .i64 0)) (St H c (pB acc) []) = _ := ujm (acc := acc) (h := h) (cs := [.int .i64 (-11), .int .i64 (-9), .int .i64 (-8), .int .i64 (-7), .int .i64 (-6), .int .i64 (-5), .int .i64 (-3), .int .i64 (-1), .int .i64 (-10), .int .i64 (-4), .int .i64 (-2), .int .i64 (-12)]) hc absI 0 (fun k a hk => by
      have hk12 : k < 12 := by have := (List.getElem?_eq_some_iff.mp hk).1; simpa [absI] using this
      have : k = 0 ∨ k = 1 ∨ k = 2 ∨ k = 3 ∨ k = 4 ∨ k = 5 ∨ k = 6 ∨ k = 7 ∨ k = 8 ∨ k = 9 ∨ k = 10 ∨ k = 11 := by omega
      rcases this with rfl | rfl | rfl | rfl | rfl | rfl | rfl | rfl | rfl | rfl | rfl | rfl <;> (simp [absI] at hk; subst hk; rfl)) rfl
  rw [ueo]
  unfold kHeap
  by_cases h0 : 0 ≤ h
  · have hp := fun (h1 : h ≤ 2147483647) K => v000 (H := K) (n := h) (by omega) (by omega)
    unfold kPut
    simp +contextual -dsimp (disch := omega) only [↓kDown, kUp, ↓goDown, goUp, cr, simprocAttr, h0, toK (m := C u6i [.int .i64 h]), uur, mustK, kMust, toK (m := C u7c [.int .i64 h]), hp, ap_X, ubh, uef, low_B, u0s]
  · simp +contextual -dsimp (disch := omega) only [↓kDown, kUp, ↓goDown, goUp, cr, simprocAttr, h0, toK (m := C u4x []), uhe, hlp]) hc
def kVal (v : VT) (acc : List UInt8) : KR :=
  if v.num = 5 then (if v.nul = false then kPut [100] acc else if 0 ≤ v.heap then kPut [99] acc else .ok () acc).bind fun _ acc => kHeap v.heap acc
  else if 1 ≤ v.num ∧ v.num ≤ 4 ∧ v.nul = false ∧ v.heap = 0 then kPut [UInt8.ofNat (128 - v.num).toNat] acc else .err u02 [0, 4]
theorem valK {v : VT} (hc : c < List.length H) : runK c (C u28 [.ptr c 0, .agg [.int .i64 v.num, .bool v.nul, .int .i64 v.heap]]) (St H c (pB acc) L) = outK c H L pB encU (kVal v acc) := liftK (fun H hc => by
  have h1 := fun L acc => byteK (c := c) (H := H) (L := L) (acc := acc) (n := 100) (by omega) (by omega) hc
  have h0 := fun L acc => byteK (c := c) (H := H) (L := L) (acc := acc) (n := 99) (by omega) (by omega) hc
  have h2 := fun L acc h0 h1 => byteK (c := c) (H := H) (L := L) (acc := acc) (n := 128 - v.num) h0 h1 hc
  rw [uab]
  unfold kVal
  by_cases h5 : v.num = 5
  · cases v.nul <;> simp +contextual -dsimp (disch := omega) only [↓kDown, kUp, ↓goDown, goUp, cr, simprocAttr, h5, un_not, h1, h0, heapK, uaf, u0s] <;> rfl
  · by_cases a1 : 1 ≤ v.num
    · by_cases a2 : v.num ≤ 4
      · cases v.nul <;> simp +contextual -dsimp (disch := omega) only [↓kDown, kUp, ↓goDown, goUp, cr, simprocAttr, h5, eq_true a1, eq_true a2, un_not, mustK, kMust, h2, u0s]
      · simp +contextual -dsimp (disch := omega) only [↓kDown, kUp, ↓goDown, goUp, cr, simprocAttr, h5, eq_true a1, a2, un_not, mustK, kMust, h2, u0s]
    · simp +contextual -dsimp (disch := omega) only [↓kDown, kUp, ↓goDown, goUp, cr, simprocAttr, h5, a1, un_not, mustK, kMust, h2, u0s]) hc
end Go.Proofs.YthnmienjiangkaaGreatDoor.Pi.Q
namespace Go.Proofs.YthnmienjiangkaaGreatDoor.Pi.Q
open Go Go.Proofs.YthnmienjiangkaaGreatDoor.Pi
attribute [local congr] ite_congr
variable {c : Nat} {H : Heap} {L : List Box} {acc : List UInt8}
def kField (v : FT) (acc : List UInt8) : KR :=
  (if v.ty = ⟨6, false, 0⟩ then kPut [120] acc else if v.ty = ⟨7, false, 0⟩ then kPut [119] acc else kVal v.ty acc).bind fun _ acc => kPut [if v.mu then 1 else 0] acc
theorem fieldK {v : FT} (hc : c < List.length H) : runK c (C u39 [.ptr c 0, .agg [.int .i64 v.ty.num, .bool v.ty.nul, .int .i64 v.ty.heap, .bool v.mu]]) (St H c (pB acc) L) = outK c H L pB encU (kField v acc) := liftK (fun H hc => by
  have h1 := fun L acc => byteK (c := c) (H := H) (L := L) (acc := acc) (n := 120) (by omega) (by omega) hc
  have h0 := fun L acc => byteK (c := c) (H := H) (L := L) (acc := acc) (n := 119) (by omega) (by omega) hc
  have he := fun K n => eql_V (H := K) (v := v.ty) (n := n)
  have hv := fun L acc => valK (c := c) (H := H) (L := L) (acc := acc) (v := v.ty) hc
  have hf := fun L acc => flagK (c := c) (H := H) (L := L) (acc := acc) (b := v.mu) hc
  rw [ude]
  unfold kField
  simp +contextual -dsimp (disch := omega) only [↓kDown, kUp, ↓goDown, goUp, cr, simprocAttr, he, h1, h0, hv, hf, u9w, u0s]
  all_goals rfl) hc
def kAll {α : Type} (one : α → List UInt8 → KR) : List α → List UInt8 → KR
  | [], acc => .ok () acc
  | v :: r, acc => (one v acc).bind fun _ acc => kAll one r acc
def kEach {α : Type} (most : Nat) (one : α → List UInt8 → KR) (l : List α) (acc : List UInt8) : KR :=
  if most < l.length then .err u02 [0, 2] else (kPut (putU l.length) acc).bind fun _ acc => kAll one l acc
theorem urj {z : Bool} {one : VT → List UInt8 → KR} {f : PV} {l : List VT} (hl : l.length < 2 ^ 62) (hf : strip f = f) (hone : ∀ (H : Heap) (L : List Box) (acc : List UInt8) (v : VT), v ∈ l → c < List.length H → runK c (callV P C f [.agg [.int .i64 v.num, .bool v.nul, .int .i64 v.heap]]) (St H c (pB acc) L) = outK c H L pB encU (one v acc)) : ∀ (m i : Nat) (acc : List UInt8) (L : List Box) (H : Heap), i + m = l.length → c < List.length H →
    ∃ L', runK c (u1a f (LZ z 3 (l.map encV)) (.int .i64 l.length) (.int .i64 i)) (St H c (pB acc) L) = outK c H L' pB encU (kAll one (l.drop i) acc)
  | 0, i, acc, L, H, hi, hc => by
    have c1 : ¬ (i : Int) < l.length := by omega
    have e0 : l.drop i = [] := List.drop_eq_nil_of_le (by omega)
    refine ⟨L, ?_⟩
    rw [e0, u1h]
    simp +contextual -dsimp (disch := omega) only [↓kDown, kUp, ↓goDown, goUp, cr, simprocAttr, c1, kAll, u0s]
  | m + 1, i, acc, L, H, hi, hc => by
    have c1 : (i : Int) < l.length := by omega
    have hil : i < l.length := by omega
    have hg : (l.map encV)[i]? = some (encV l[i]) := by simp [hil]
    have hia : ∀ K, run (iaS 3 (LZ z 3 (l.map encV)) (.int .i64 i)) K = some (.ok (.elem [.int .i64 l[i].num, .bool l[i].nul, .int .i64 l[i].heap]) K) := fun K => (ia_Z hg).trans rfl
    have hd : l.drop i = l[i] :: l.drop (i + 1) := List.drop_eq_getElem_cons hil
    have e1 : ((i : Int) + 1) = ((i + 1 : Nat) : Int) := rfl
    rw [hd, uck hc]
    have hc' : c < List.length (hadd H L) := by rw [u8f]; omega
    obtain ⟨K, hK⟩ : ∃ K, K = hadd H L := ⟨_, rfl⟩
    rw [← hK] at hc' ⊢
    have h1 := hone K [.cells [.int .i64 l[i].num, .bool l[i].nul, .int .i64 l[i].heap]] acc l[i] (List.getElem_mem hil) hc'
    simp only [kAll]
    cases hw : one l[i] acc with
    | ok u acc1 =>
      obtain ⟨L', ih⟩ := urj (z := z) hl hf hone m (i + 1) acc1 [.cells [.int .i64 l[i].num, .bool l[i].nul, .int .i64 l[i].heap]] K (by omega) hc'
      refine ⟨L ++ L', ?_⟩
      rw [← u8w hK hc]
      rw [u1h]
      rw [hw] at h1
      simp +contextual -dsimp (disch := omega) only [↓kDown, kUp, ↓goDown, goUp, cr, simprocAttr, c1, hia, hf, e1, h1, ih, Res.bind, u18, u0n, low_Z, u0o, u16, strip_Z]
    | err t w =>
      refine ⟨L ++ [.cells [.int .i64 l[i].num, .bool l[i].nul, .int .i64 l[i].heap]], ?_⟩
      rw [← u8w hK hc]
      rw [u1h]
      rw [hw] at h1
      simp +contextual -dsimp (disch := omega) only [↓kDown, kUp, ↓goDown, goUp, cr, simprocAttr, c1, hia, hf, e1, h1, Res.bind, u18, u0n, low_Z, u0o, u16, strip_Z]
    | no =>
      refine ⟨L, ?_⟩
      rw [u1h]
      rw [hw] at h1
      simp +contextual -dsimp (disch := omega) only [↓kDown, kUp, ↓goDown, goUp, cr, simprocAttr, c1, hia, hf, e1, h1, Res.bind, u18, u0n, low_Z, u0o, u16, strip_Z]
theorem uxt {z : Bool} {one : VT → List UInt8 → KR} {f : PV} {l : List VT} {most : Nat} (hf : strip f = f) (hm : most ≤ 1000000) (hl : l.length < 2 ^ 62) (hone : ∀ (H : Heap) (L : List Box) (acc : List UInt8) (v : VT), v ∈ l → c < List.length H → runK c (callV P C f [.agg [.int .i64 v.num, .bool v.nul, .int .i64 v.heap]]) (St H c (pB acc) L) = outK c H L pB encU (one v acc)) (hc : c < List.length H) :
    runK c (C u21 [.ptr c 0, LZ z 3 (l.map encV), .int .i64 most, f]) (St H c (pB acc) L) = outK c H L pB encU (kEach most one l acc) := liftK (fun H hc => by
  have hu := fun L acc h0 h1 => uK (c := c) (H := H) (L := L) (acc := acc) (n := (l.length : Int)) h0 h1 hc
  rw [u94]
  unfold kEach
  by_cases h : most < l.length
  · have c1 : (most : Int) < l.length := by omega
    simp +contextual -dsimp (disch := omega) only [↓kDown, kUp, ↓goDown, goUp, cr, simprocAttr, if_pos h, strip_Z, ln_Z, List.length_map, c1]
  · have c1 : ¬ (most : Int) < l.length := by omega
    have hw : IntKind.u64.wrap (l.length : Int) = l.length := by rw [wu]; omega
    have hlp := fun acc => urj (c := c) (z := z) hl hf hone l.length 0 acc [] H (by omega) hc
    rw [if_neg h]
    obtain ⟨L1, hlp⟩ := hlp (acc ++ putU l.length)
    have hlp : runK c (u1a f (LZ z 3 (l.map encV)) (.int .i64 l.length) (.int .i64 0)) (St H c (pB (acc ++ putU l.length)) []) = outK c H L1 pB encU (kAll one l (acc ++ putU l.length)) := hlp
    unfold kPut at hu ⊢
    simp +contextual -dsimp (disch := omega) only [↓kDown, kUp, ↓goDown, goUp, cr, simprocAttr, strip_Z, ln_Z, List.length_map, c1, u7l, hw, hu, hlp, Int.toNat_natCast, hf, u0s]) hc
theorem ujg {z : Bool} {one : FT → List UInt8 → KR} {f : PV} {l : List FT} (hl : l.length < 2 ^ 62) (hf : strip f = f) (hone : ∀ (H : Heap) (L : List Box) (acc : List UInt8) (v : FT), v ∈ l → c < List.length H → runK c (callV P C f [.agg [.int .i64 v.ty.num, .bool v.ty.nul, .int .i64 v.ty.heap, .bool v.mu]]) (St H c (pB acc) L) = outK c H L pB encU (one v acc)) : ∀ (m i : Nat) (acc : List UInt8) (L : List Box) (H : Heap), i + m = l.length → c < List.length H →
    ∃ L', runK c (u1j f (LZ z 4 (l.map encF)) (.int .i64 l.length) (.int .i64 i)) (St H c (pB acc) L) = outK c H L' pB encU (kAll one (l.drop i) acc)
  | 0, i, acc, L, H, hi, hc => by
    have c1 : ¬ (i : Int) < l.length := by omega
    have e0 : l.drop i = [] := List.drop_eq_nil_of_le (by omega)
    refine ⟨L, ?_⟩
    rw [e0, u1p]
    simp +contextual -dsimp (disch := omega) only [↓kDown, kUp, ↓goDown, goUp, cr, simprocAttr, c1, kAll, u0s]
  | m + 1, i, acc, L, H, hi, hc => by
    have c1 : (i : Int) < l.length := by omega
    have hil : i < l.length := by omega
    have hg : (l.map encF)[i]? = some (encF l[i]) := by simp [hil]
    have hia : ∀ K, run (iaS 4 (LZ z 4 (l.map encF)) (.int .i64 i)) K = some (.ok (.elem [.int .i64 l[i].ty.num, .bool l[i].ty.nul, .int .i64 l[i].ty.heap, .bool l[i].mu]) K) := fun K => (ia_Z hg).trans rfl
    have hd : l.drop i = l[i] :: l.drop (i + 1) := List.drop_eq_getElem_cons hil
    have e1 : ((i : Int) + 1) = ((i + 1 : Nat) : Int) := rfl
    rw [hd, uck hc]
    have hc' : c < List.length (hadd H L) := by rw [u8f]; omega
    obtain ⟨K, hK⟩ : ∃ K, K = hadd H L := ⟨_, rfl⟩
    rw [← hK] at hc' ⊢
    have h1 := hone K [.cells [.int .i64 l[i].ty.num, .bool l[i].ty.nul, .int .i64 l[i].ty.heap, .bool l[i].mu]] acc l[i] (List.getElem_mem hil) hc'
    simp only [kAll]
    cases hw : one l[i] acc with
    | ok u acc1 =>
      obtain ⟨L', ih⟩ := ujg (z := z) hl hf hone m (i + 1) acc1 [.cells [.int .i64 l[i].ty.num, .bool l[i].ty.nul, .int .i64 l[i].ty.heap, .bool l[i].mu]] K (by omega) hc'
      refine ⟨L ++ L', ?_⟩
      rw [← u8w hK hc]
      rw [u1p]
      rw [hw] at h1
      simp +contextual -dsimp (disch := omega) only [↓kDown, kUp, ↓goDown, goUp, cr, simprocAttr, c1, hia, hf, e1, h1, ih, Res.bind, u18, u0n, low_Z, u0o, u16, strip_Z]
    | err t w =>
      refine ⟨L ++ [.cells [.int .i64 l[i].ty.num, .bool l[i].ty.nul, .int .i64 l[i].ty.heap, .bool l[i].mu]], ?_⟩
      rw [← u8w hK hc]
      rw [u1p]
      rw [hw] at h1
      simp +contextual -dsimp (disch := omega) only [↓kDown, kUp, ↓goDown, goUp, cr, simprocAttr, c1, hia, hf, e1, h1, Res.bind, u18, u0n, low_Z, u0o, u16, strip_Z]
    | no =>
      refine ⟨L, ?_⟩
      rw [u1p]
      rw [hw] at h1
      simp +contextual -dsimp (disch := omega) only [↓kDown, kUp, ↓goDown, goUp, cr, simprocAttr, c1, hia, hf, e1, h1, Res.bind, u18, u0n, low_Z, u0o, u16, strip_Z]
theorem usp {z : Bool} {one : FT → List UInt8 → KR} {f : PV} {l : List FT} {most : Nat} (hf : strip f = f) (hm : most ≤ 1000000) (hl : l.length < 2 ^ 62) (hone : ∀ (H : Heap) (L : List Box) (acc : List UInt8) (v : FT), v ∈ l → c < List.length H → runK c (callV P C f [.agg [.int .i64 v.ty.num, .bool v.ty.nul, .int .i64 v.ty.heap, .bool v.mu]]) (St H c (pB acc) L) = outK c H L pB encU (one v acc)) (hc : c < List.length H) :
    runK c (C u2d [.ptr c 0, LZ z 4 (l.map encF), .int .i64 most, f]) (St H c (pB acc) L) = outK c H L pB encU (kEach most one l acc) := liftK (fun H hc => by
  have hu := fun L acc h0 h1 => uK (c := c) (H := H) (L := L) (acc := acc) (n := (l.length : Int)) h0 h1 hc
  rw [ua6]
  unfold kEach
  by_cases h : most < l.length
  · have c1 : (most : Int) < l.length := by omega
    simp +contextual -dsimp (disch := omega) only [↓kDown, kUp, ↓goDown, goUp, cr, simprocAttr, if_pos h, strip_Z, ln_Z, List.length_map, c1]
  · have c1 : ¬ (most : Int) < l.length := by omega
    have hw : IntKind.u64.wrap (l.length : Int) = l.length := by rw [wu]; omega
    have hlp := fun acc => ujg (c := c) (z := z) hl hf hone l.length 0 acc [] H (by omega) hc
    rw [if_neg h]
    obtain ⟨L1, hlp⟩ := hlp (acc ++ putU l.length)
    have hlp : runK c (u1j f (LZ z 4 (l.map encF)) (.int .i64 l.length) (.int .i64 0)) (St H c (pB (acc ++ putU l.length)) []) = outK c H L1 pB encU (kAll one l (acc ++ putU l.length)) := hlp
    unfold kPut at hu ⊢
    simp +contextual -dsimp (disch := omega) only [↓kDown, kUp, ↓goDown, goUp, cr, simprocAttr, strip_Z, ln_Z, List.length_map, c1, u84, hw, hu, hlp, Int.toNat_natCast, hf, u0s]) hc
theorem upr {z : Bool} {one : Int → List UInt8 → KR} {f : PV} {l : List Int} (hl : l.length < 2 ^ 62) (hf : strip f = f) (hone : ∀ (H : Heap) (L : List Box) (acc : List UInt8) (v : Int), v ∈ l → c < List.length H → runK c (callV P C f [.int .i64 v]) (St H c (pB acc) L) = outK c H L pB encU (one v acc)) : ∀ (m i : Nat) (acc : List UInt8) (L : List Box) (H : Heap), i + m = l.length → c < List.length H →
    ∃ L', runK c (u2m f (LZ z 1 (l.map encI)) (.int .i64 l.length) (.int .i64 i)) (St H c (pB acc) L) = outK c H L' pB encU (kAll one (l.drop i) acc)
  | 0, i, acc, L, H, hi, hc => by
    have c1 : ¬ (i : Int) < l.length := by omega
    have e0 : l.drop i = [] := List.drop_eq_nil_of_le (by omega)
    refine ⟨L, ?_⟩
    rw [e0, u2p]
    simp +contextual -dsimp (disch := omega) only [↓kDown, kUp, ↓goDown, goUp, cr, simprocAttr, c1, kAll, u0s]
  | m + 1, i, acc, L, H, hi, hc => by
    have c1 : (i : Int) < l.length := by omega
    have hil : i < l.length := by omega
    have hg : (l.map encI)[i]? = some (encI l[i]) := by simp [hil]
    have hia : ∀ K, run (iaS 1 (LZ z 1 (l.map encI)) (.int .i64 i)) K = some (.ok (.elem [.int .i64 l[i]]) K) := fun K => (ia_Z hg).trans rfl
    have hd : l.drop i = l[i] :: l.drop (i + 1) := List.drop_eq_getElem_cons hil
    have e1 : ((i : Int) + 1) = ((i + 1 : Nat) : Int) := rfl
    rw [hd, uck hc]
    have hc' : c < List.length (hadd H L) := by rw [u8f]; omega
    obtain ⟨K, hK⟩ : ∃ K, K = hadd H L := ⟨_, rfl⟩
    rw [← hK] at hc' ⊢
    have h1 := hone K [] acc l[i] (List.getElem_mem hil) hc'
    simp only [kAll]
    cases hw : one l[i] acc with
    | ok u acc1 =>
      obtain ⟨L', ih⟩ := upr (z := z) hl hf hone m (i + 1) acc1 [] K (by omega) hc'
      refine ⟨L ++ L', ?_⟩
      rw [← u8w hK hc]
      rw [u2p]
      rw [hw] at h1
      simp +contextual -dsimp (disch := omega) only [↓kDown, kUp, ↓goDown, goUp, cr, simprocAttr, c1, hia, hf, e1, h1, ih, Res.bind, u18, u0n, low_Z, u0o, u16, strip_Z]
    | err t w =>
      refine ⟨L ++ [], ?_⟩
      rw [← u8w hK hc]
      rw [u2p]
      rw [hw] at h1
      simp +contextual -dsimp (disch := omega) only [↓kDown, kUp, ↓goDown, goUp, cr, simprocAttr, c1, hia, hf, e1, h1, Res.bind, u18, u0n, low_Z, u0o, u16, strip_Z]
    | no =>
      refine ⟨L, ?_⟩
      rw [u2p]
      rw [hw] at h1
      simp +contextual -dsimp (disch := omega) only [↓kDown, kUp, ↓goDown, goUp, cr, simprocAttr, c1, hia, hf, e1, h1, Res.bind, u18, u0n, low_Z, u0o, u16, strip_Z]
theorem uz4 {z : Bool} {one : Int → List UInt8 → KR} {f : PV} {l : List Int} {most : Nat} (hf : strip f = f) (hm : most ≤ 1000000) (hl : l.length < 2 ^ 62) (hone : ∀ (H : Heap) (L : List Box) (acc : List UInt8) (v : Int), v ∈ l → c < List.length H → runK c (callV P C f [.int .i64 v]) (St H c (pB acc) L) = outK c H L pB encU (one v acc)) (hc : c < List.length H) :
    runK c (C u4v [.ptr c 0, LZ z 1 (l.map encI), .int .i64 most, f]) (St H c (pB acc) L) = outK c H L pB encU (kEach most one l acc) := liftK (fun H hc => by
  have hu := fun L acc h0 h1 => uK (c := c) (H := H) (L := L) (acc := acc) (n := (l.length : Int)) h0 h1 hc
  rw [uen]
  unfold kEach
  by_cases h : most < l.length
  · have c1 : (most : Int) < l.length := by omega
    simp +contextual -dsimp (disch := omega) only [↓kDown, kUp, ↓goDown, goUp, cr, simprocAttr, if_pos h, strip_Z, ln_Z, List.length_map, c1]
  · have c1 : ¬ (most : Int) < l.length := by omega
    have hw : IntKind.u64.wrap (l.length : Int) = l.length := by rw [wu]; omega
    have hlp := fun acc => upr (c := c) (z := z) hl hf hone l.length 0 acc [] H (by omega) hc
    rw [if_neg h]
    obtain ⟨L1, hlp⟩ := hlp (acc ++ putU l.length)
    have hlp : runK c (u2m f (LZ z 1 (l.map encI)) (.int .i64 l.length) (.int .i64 0)) (St H c (pB (acc ++ putU l.length)) []) = outK c H L1 pB encU (kAll one l (acc ++ putU l.length)) := hlp
    unfold kPut at hu ⊢
    simp +contextual -dsimp (disch := omega) only [↓kDown, kUp, ↓goDown, goUp, cr, simprocAttr, strip_Z, ln_Z, List.length_map, c1, uaq, hw, hu, hlp, Int.toNat_natCast, hf, u0s]) hc
end Go.Proofs.YthnmienjiangkaaGreatDoor.Pi.Q
namespace Go.Proofs.YthnmienjiangkaaGreatDoor.Pi.Q
open Go Go.Proofs.YthnmienjiangkaaGreatDoor.Pi
attribute [local congr] ite_congr
variable {c : Nat} {H : Heap} {L : List Box} {acc : List UInt8}
def kVals (l : List VT) (acc : List UInt8) : KR := kEach 1000 kVal l acc
theorem valsK {z : Bool} {l : List VT} (hl : l.length < 2 ^ 62) (hc : c < List.length H) : runK c (C u66 [.ptr c 0, LZ z 3 (l.map encV)]) (St H c (pB acc) L) = outK c H L pB encU (kVals l acc) := liftK (fun H hc => by
  have hk := fun L acc => uxt (c := c) (H := H) (L := L) (acc := acc) (z := z) (f := .fn u28 [.ptr c 0] []) (one := kVal) (most := 1000) rfl (by omega) hl (fun H L acc v _ hc => by rw [u6s]; exact valK hc) hc
  simp only [Int.cast_ofNat_Int] at hk
  rw [uei]
  unfold kVals
  simp +contextual -dsimp (disch := omega) only [↓kDown, kUp, ↓goDown, goUp, cr, simprocAttr, strip_Z, run_mf, hk, u0s]) hc
def kComp (v : CT) (acc : List UInt8) : KR :=
  (kMust (v.kind == 1 || ((v.ps.length : Int) + v.rs.length == 0)) acc).bind fun _ acc =>
  if v.kind = 1 then (kMust ((v.fs.length : Int) == 0) acc).bind fun _ acc => (kPut [96] acc).bind fun _ acc => (kVals v.ps acc).bind fun _ acc => kVals v.rs acc
  else if v.kind = 2 then (kPut [95] acc).bind fun _ acc => kEach 10000 kField v.fs acc
  else if v.kind = 3 then match v.fs with
    | [f] => (kPut [94] acc).bind fun _ acc => kField f acc
    | _ => .err u02 [0, 4]
  else .err u02 [0, 4]
theorem uep {a b : Bool} : kMust (true || b) acc = .ok () acc := rfl
theorem compK {v : CG} (hv : v.plain.fit) (hc : c < List.length H) : runK c (C u5z [.ptr c 0, .agg [.int .i64 v.kind, LZ v.ps.z 3 (v.ps.l.map encV), LZ v.rs.z 3 (v.rs.l.map encV), LZ v.fs.z 4 (v.fs.l.map encF)]]) (St H c (pB acc) L) = outK c H L pB encU (kComp v.plain acc) := liftK (fun H hc => by
  obtain ⟨a1, a2, a3⟩ := hv
  simp only [CG.plain] at a1 a2 a3
  have h96 := fun L acc => byteK (c := c) (H := H) (L := L) (acc := acc) (n := 96) (by omega) (by omega) hc
  have h95 := fun L acc => byteK (c := c) (H := H) (L := L) (acc := acc) (n := 95) (by omega) (by omega) hc
  have h94 := fun L acc => byteK (c := c) (H := H) (L := L) (acc := acc) (n := 94) (by omega) (by omega) hc
  have hps := fun L acc => valsK (c := c) (H := H) (L := L) (acc := acc) (z := v.ps.z) (l := v.ps.l) (by omega) hc
  have hrs := fun L acc => valsK (c := c) (H := H) (L := L) (acc := acc) (z := v.rs.z) (l := v.rs.l) (by omega) hc
  have hfs := fun L acc => usp (c := c) (H := H) (L := L) (acc := acc) (z := v.fs.z) (l := v.fs.l) (f := .fn u39 [.ptr c 0] []) (one := kField) (most := 10000) rfl (by omega) (by omega) (fun H L acc v _ hc => by rw [u6s]; exact fieldK hc) hc
  simp only [Int.cast_ofNat_Int] at hfs
  have hf1 := fun L acc (f : FT) => fieldK (c := c) (H := H) (L := L) (acc := acc) (v := f) hc
  rw [ue4]
  unfold kComp
  simp only [CG.plain]
  by_cases h1 : v.kind = 1
  · simp +contextual -dsimp (disch := omega) only [↓kDown, kUp, ↓goDown, goUp, cr, simprocAttr, h1, ln_Z, List.length_map, mustK, kMust, uep, h96, hps, hrs, u0s, u18, u0n, low_Z, u0o, u16, strip_Z] <;> rfl
  · have e1 : (v.kind == 1) = false := beq_false_of_ne h1
    by_cases h2 : v.kind = 2
    · have c2 : (2 : Int) ≠ 1 := by omega
      simp +contextual -dsimp (disch := omega) only [↓kDown, kUp, ↓goDown, goUp, cr, simprocAttr, h2, c2, Bool.false_or, run_mf, ln_Z, List.length_map, mustK, kMust, uep, h95, hfs, u0s, u18, u0n, low_Z, u0o, u16, strip_Z] <;> rfl
    · by_cases h3 : v.kind = 3
      · have hia : ∀ (f : FT) K, run (iaS 4 (LZ v.fs.z 4 [encF f]) (.int .i64 0)) K = some (.ok (.elem [.int .i64 f.ty.num, .bool f.ty.nul, .int .i64 f.ty.heap, .bool f.mu]) K) := fun f K => rfl
        have hln : (((1 : Nat) : Int) = 1) = True := eq_true rfl
        have e2 : (3 : Int) ≠ 1 := by omega
        have e3 : (3 : Int) ≠ 2 := by omega
        match hv : v.fs.l with
        | [] =>
          have e5 : ((0 : Nat) : Int) ≠ 1 := by decide
          simp +contextual -dsimp (disch := omega) only [↓kDown, kUp, ↓goDown, goUp, cr, simprocAttr, h3, e2, e3, e5, Bool.false_or, ln_Z, hv, List.length_map, mustK, kMust, uep, u0s, u18, u0n, low_Z, u0o, u16, strip_Z] <;> rfl
        | [f] => simp +contextual -dsimp (disch := omega) only [↓kDown, kUp, ↓goDown, goUp, cr, simprocAttr, h3, e2, e3, Bool.false_or, ln_Z, hln, hia, hv, List.length_map, mustK, kMust, uep, h94, hf1, u0s, u18, u0n, low_Z, u0o, u16, strip_Z] <;> rfl
        | f :: g :: r =>
          have e4 : ¬ ((r.length + 1 + 1 : Nat) : Int) = 1 := by omega
          simp +contextual -dsimp (disch := omega) only [↓kDown, kUp, ↓goDown, goUp, cr, simprocAttr, h3, e2, e3, e4, Bool.false_or, ln_Z, hv, List.length_map, mustK, kMust, uep, u0s, u18, u0n, low_Z, u0o, u16, strip_Z] <;> rfl
      · simp +contextual -dsimp (disch := omega) only [↓kDown, kUp, ↓goDown, goUp, cr, simprocAttr, h1, h2, h3, e1, Bool.false_or, ln_Z, List.length_map, mustK, kMust, uep, u0s, u18, u0n, low_Z, u0o, u16, strip_Z] <;> rfl) hc
def kSub (v : ST) (acc : List UInt8) : KR :=
  if v.fin = true ∧ (v.sup.length : Int) = 0 then kComp v.comp acc
  else (if v.fin = true then kPut [79] acc else kPut [80] acc).bind fun _ acc => (kEach 1000 kIndex v.sup acc).bind fun _ acc => kComp v.comp acc
theorem subK {v : SG} (hv : v.plain.fit) (hc : c < List.length H) : runK c (C u4b [.ptr c 0, .agg [.bool v.fin, LZ v.sup.z 1 (v.sup.l.map encI), .int .i64 v.comp.kind, LZ v.comp.ps.z 3 (v.comp.ps.l.map encV), LZ v.comp.rs.z 3 (v.comp.rs.l.map encV), LZ v.comp.fs.z 4 (v.comp.fs.l.map encF)]]) (St H c (pB acc) L) = outK c H L pB encU (kSub v.plain acc) := liftK (fun H hc => by
  obtain ⟨fin, sup, comp⟩ := v
  obtain ⟨a1, a2⟩ := hv
  simp only [SG.plain] at a1 a2 ⊢
  have h79 := fun L acc => byteK (c := c) (H := H) (L := L) (acc := acc) (n := 79) (by omega) (by omega) hc
  have h80 := fun L acc => byteK (c := c) (H := H) (L := L) (acc := acc) (n := 80) (by omega) (by omega) hc
  have hk := fun L acc => uz4 (c := c) (H := H) (L := L) (acc := acc) (f := .fn u3a [.ptr c 0] []) (one := kIndex) (z := sup.z) (l := sup.l) (most := 1000) rfl (by omega) (by omega) (fun H L acc v _ hc => by rw [u6s]; exact indexK hc) hc
  simp only [Int.cast_ofNat_Int] at hk
  have hcm := fun L acc => compK (c := c) (H := H) (L := L) (acc := acc) a2 hc
  rw [ufk]
  unfold kSub
  cases fin <;> simp +contextual -dsimp (disch := omega) only [↓kDown, kUp, ↓goDown, goUp, cr, simprocAttr, ln_Z, List.length_map, h79, h80, run_mf, hk, hcm, ub6, u0s, u18, u0n, low_Z, u0o, u16, strip_Z] <;> rfl) hc
theorem uru {z : Bool} {one : SG → List UInt8 → KR} {f : PV} {l : List SG} (hl : l.length < 2 ^ 62) (hf : strip f = f) (hone : ∀ (H : Heap) (L : List Box) (acc : List UInt8) (v : SG), v ∈ l → c < List.length H → runK c (callV P C f [.agg [.bool v.fin, LZ v.sup.z 1 (v.sup.l.map encI), .int .i64 v.comp.kind, LZ v.comp.ps.z 3 (v.comp.ps.l.map encV), LZ v.comp.rs.z 3 (v.comp.rs.l.map encV), LZ v.comp.fs.z 4 (v.comp.fs.l.map encF)]]) (St H c (pB acc) L) = outK c H L pB encU (one v acc)) : ∀ (m i : Nat) (acc : List UInt8) (L : List Box) (H : Heap), i + m = l.length → c < List.length H →
    ∃ L', runK c (u19 f (LZ z 6 (l.map encSG)) (.int .i64 l.length) (.int .i64 i)) (St H c (pB acc) L) = outK c H L' pB encU (kAll one (l.drop i) acc)
  | 0, i, acc, L, H, hi, hc => by
    have c1 : ¬ (i : Int) < l.length := by omega
    have e0 : l.drop i = [] := List.drop_eq_nil_of_le (by omega)
    refine ⟨L, ?_⟩
    rw [e0, u1f]
    simp +contextual -dsimp (disch := omega) only [↓kDown, kUp, ↓goDown, goUp, cr, simprocAttr, c1, kAll, u0s]
  | m + 1, i, acc, L, H, hi, hc => by
    have c1 : (i : Int) < l.length := by omega
    have hil : i < l.length := by omega
    have hg : (l.map encSG)[i]? = some (encSG l[i]) := by simp [hil]
    have hia : ∀ K, run (iaS 6 (LZ z 6 (l.map encSG)) (.int .i64 i)) K = some (.ok (.elem [.bool l[i].fin, LZ l[i].sup.z 1 (l[i].sup.l.map encI), .int .i64 l[i].comp.kind, LZ l[i].comp.ps.z 3 (l[i].comp.ps.l.map encV), LZ l[i].comp.rs.z 3 (l[i].comp.rs.l.map encV), LZ l[i].comp.fs.z 4 (l[i].comp.fs.l.map encF)]) K) := fun K => (ia_Z hg).trans rfl
    have hd : l.drop i = l[i] :: l.drop (i + 1) := List.drop_eq_getElem_cons hil
    have e1 : ((i : Int) + 1) = ((i + 1 : Nat) : Int) := rfl
    rw [hd, uck hc]
    have hc' : c < List.length (hadd H L) := by rw [u8f]; omega
    obtain ⟨K, hK⟩ : ∃ K, K = hadd H L := ⟨_, rfl⟩
    rw [← hK] at hc' ⊢
    have h1 := hone K [.cells [.bool l[i].fin, LZ l[i].sup.z 1 (l[i].sup.l.map encI), .int .i64 l[i].comp.kind, LZ l[i].comp.ps.z 3 (l[i].comp.ps.l.map encV), LZ l[i].comp.rs.z 3 (l[i].comp.rs.l.map encV), LZ l[i].comp.fs.z 4 (l[i].comp.fs.l.map encF)]] acc l[i] (List.getElem_mem hil) hc'
    simp only [kAll]
    cases hw : one l[i] acc with
    | ok u acc1 =>
      obtain ⟨L', ih⟩ := uru (z := z) hl hf hone m (i + 1) acc1 [.cells [.bool l[i].fin, LZ l[i].sup.z 1 (l[i].sup.l.map encI), .int .i64 l[i].comp.kind, LZ l[i].comp.ps.z 3 (l[i].comp.ps.l.map encV), LZ l[i].comp.rs.z 3 (l[i].comp.rs.l.map encV), LZ l[i].comp.fs.z 4 (l[i].comp.fs.l.map encF)]] K (by omega) hc'
      refine ⟨L ++ L', ?_⟩
      rw [← u8w hK hc]
      rw [u1f]
      rw [hw] at h1
      simp +contextual -dsimp (disch := omega) only [↓kDown, kUp, ↓goDown, goUp, cr, simprocAttr, c1, hia, hf, e1, h1, ih, Res.bind, u18, u0n, low_Z, u0o, u16, strip_Z]
    | err t w =>
      refine ⟨L ++ [.cells [.bool l[i].fin, LZ l[i].sup.z 1 (l[i].sup.l.map encI), .int .i64 l[i].comp.kind, LZ l[i].comp.ps.z 3 (l[i].comp.ps.l.map encV), LZ l[i].comp.rs.z 3 (l[i].comp.rs.l.map encV), LZ l[i].comp.fs.z 4 (l[i].comp.fs.l.map encF)]], ?_⟩
      rw [← u8w hK hc]
      rw [u1f]
      rw [hw] at h1
      simp +contextual -dsimp (disch := omega) only [↓kDown, kUp, ↓goDown, goUp, cr, simprocAttr, c1, hia, hf, e1, h1, Res.bind, u18, u0n, low_Z, u0o, u16, strip_Z]
    | no =>
      refine ⟨L, ?_⟩
      rw [u1f]
      rw [hw] at h1
      simp +contextual -dsimp (disch := omega) only [↓kDown, kUp, ↓goDown, goUp, cr, simprocAttr, c1, hia, hf, e1, h1, Res.bind, u18, u0n, low_Z, u0o, u16, strip_Z]
theorem uy4 {z : Bool} {one : SG → List UInt8 → KR} {f : PV} {l : List SG} {most : Nat} (hf : strip f = f) (hm : most ≤ 1000000) (hl : l.length < 2 ^ 62) (hone : ∀ (H : Heap) (L : List Box) (acc : List UInt8) (v : SG), v ∈ l → c < List.length H → runK c (callV P C f [.agg [.bool v.fin, LZ v.sup.z 1 (v.sup.l.map encI), .int .i64 v.comp.kind, LZ v.comp.ps.z 3 (v.comp.ps.l.map encV), LZ v.comp.rs.z 3 (v.comp.rs.l.map encV), LZ v.comp.fs.z 4 (v.comp.fs.l.map encF)]]) (St H c (pB acc) L) = outK c H L pB encU (one v acc)) (hc : c < List.length H) :
    runK c (C u23 [.ptr c 0, LZ z 6 (l.map encSG), .int .i64 most, f]) (St H c (pB acc) L) = outK c H L pB encU (kEach most one l acc) := liftK (fun H hc => by
  have hu := fun L acc h0 h1 => uK (c := c) (H := H) (L := L) (acc := acc) (n := (l.length : Int)) h0 h1 hc
  rw [u92]
  unfold kEach
  by_cases h : most < l.length
  · have c1 : (most : Int) < l.length := by omega
    simp +contextual -dsimp (disch := omega) only [↓kDown, kUp, ↓goDown, goUp, cr, simprocAttr, if_pos h, strip_Z, ln_Z, List.length_map, c1]
  · have c1 : ¬ (most : Int) < l.length := by omega
    have hw : IntKind.u64.wrap (l.length : Int) = l.length := by rw [wu]; omega
    have hlp := fun acc => uru (c := c) (z := z) hl hf hone l.length 0 acc [] H (by omega) hc
    rw [if_neg h]
    obtain ⟨L1, hlp⟩ := hlp (acc ++ putU l.length)
    have hlp : runK c (u19 f (LZ z 6 (l.map encSG)) (.int .i64 l.length) (.int .i64 0)) (St H c (pB (acc ++ putU l.length)) []) = outK c H L1 pB encU (kAll one l (acc ++ putU l.length)) := hlp
    unfold kPut at hu ⊢
    simp +contextual -dsimp (disch := omega) only [↓kDown, kUp, ↓goDown, goUp, cr, simprocAttr, strip_Z, ln_Z, List.length_map, c1, u7k, hw, hu, hlp, Int.toNat_natCast, hf, u0s]) hc
end Go.Proofs.YthnmienjiangkaaGreatDoor.Pi.Q
namespace Go.Proofs.YthnmienjiangkaaGreatDoor.Pi.Q
open Go Go.Proofs.YthnmienjiangkaaGreatDoor.Pi
attribute [local congr] ite_congr
variable {c : Nat} {H : Heap} {L : List Box} {acc : List UInt8}
theorem unkill {K H' : Heap} (hc : c < List.length K) (h : hset H' c .dead = St K c .dead []) : ∃ b, H' = St K c b [] := by
  have hl : List.length H' = List.length K := by
    have := congrArg List.length h
    rw [u71, len_St] at this
    simpa using this
  have hc' : c < List.length H' := by omega
  refine ⟨H'[c], ?_⟩
  have h2 := congrArg (fun K => hset K c (H'[c])) h
  simp only [set_set, set_St hc] at h2
  rw [← h2]
  unfold hset
  exact (List.set_getElem_self hc').symm
theorem umm {m : M PV} {K K' : Heap} {v : PV} (h : runK c m K = some (.ok v K')) : run m K = some (.ok v K') := by
  unfold runK killR at h
  cases hr : run m K with
  | none => rw [hr] at h; cases h
  | some q => cases q with
    | ok a b => rw [hr] at h; exact h
    | pan a b => rw [hr] at h; simp at h
theorem ujh {m : M PV} {K K' : Heap} {v : PV} (hc : c < List.length K') (h : runK c m K = some (.pan v (St K' c .dead []))) : ∃ b, run m K = some (.pan v (St K' c b [])) := by
  unfold runK killR at h
  cases hr : run m K with
  | none => rw [hr] at h; cases h
  | some q => cases q with
    | ok a b => rw [hr] at h; simp at h
    | pan a b =>
      rw [hr] at h
      simp only [Option.some.injEq, Out.pan.injEq] at h
      obtain ⟨h1, h2⟩ := h
      obtain ⟨b, rfl⟩ := unkill hc h2
      exact ⟨b, by rw [h1]⟩
theorem urw {a : List UInt8} : stripC (accB a) = LZ true 1 (bytes a) := stripC_acc.trans ul4
theorem fd1_is {x y : PV} : fd 1 none (.agg [x, y]) = M.pure (stripC y) := rfl
def outW (r : KR) (H : Heap) : Option (Out PV) :=
  match r with
  | .ok _ acc => some (.ok (.tup [LZ true 1 (bytes acc), .int .i64 0]) H)
  | .err t [_, w] => if t = u02 then some (.ok (.tup [.slice false true 0 [], .int .i64 w]) H) else none
  | _ => none
theorem uza {f : PV} {r : KR} (hf : strip f = f) (hr : ∀ t l, r = .err t l → t = u02 ∧ ∃ p w, l = [p, w]) (hno : r ≠ .no)
    (h : ∀ (L : List Box) (c : Nat), List.length H ≤ c → c < List.length (hadd H L) → runK c (callV P C f [.ptr c 0]) (St (hadd H L) c (pB []) []) = outK c (hadd H L) [] pB encU r) :
    run (C u5o [f]) H = outW r H := by
  have e0 : ∀ (b b2 b3 : Box), St (hadd H [b2, b3, .dead]) (List.length H + 2) b [] = hadd H [b2, b3, b] := fun b b2 b3 => by
    unfold St hadd hset
    rw [List.append_nil, List.set_append_right _ _ (by omega)]
    simp
  have hh := h [.cells [.slice false true 0 []], .cells [.int .i64 0], .dead] (List.length H + 2) (by omega) (by rw [u8f]; simp)
  rw [e0] at hh
  have hp : pB [] = .cells [.slice false true 0 []] := rfl
  rw [uc2]
  cases r with
  | ok u acc =>
    simp only [outK, elimK, e0] at hh
    have hh := umm hh
    rw [hp] at hh
    simp +contextual -dsimp (disch := omega) only [↓goDown, goUp, cr, simprocAttr, hf, hh, u0s, ubh, uef, low_B, upj, u9g, run_mf, run_ta, bi_if, bi_ifn, cutL, uer, Nat.reduceBeqDiff, outW, urw, u16, low_Z, u0o, u18, u0n]
  | err t l =>
    obtain ⟨rfl, p, w, rfl⟩ := hr _ _ rfl
    simp only [outK, elimK] at hh
    obtain ⟨b, hh⟩ := ujh (by rw [u8f]; simp) hh
    rw [e0, hp] at hh
    simp +contextual -dsimp (disch := omega) only [↓goDown, goUp, cr, simprocAttr, hf, hh, up3, uel, run_mf, run_ta, bi_if, bi_ifn, cutL, uer, Nat.reduceBeqDiff, outW, List.map_cons, List.map_nil, fd1_is]
  | no => exact absurd rfl hno
def kRec (v : RT) (acc : List UInt8) : KR :=
  match v.types with
  | [t] => kSub t acc
  | l => (kPut [78] acc).bind fun _ acc => kEach 10000 kSub l acc
theorem uq1 {α β : Type} {k : β → List UInt8 → KR} {f : α → β} : ∀ (l : List α) (acc : List UInt8), kAll (fun a => k (f a)) l acc = kAll k (l.map f) acc
  | [], acc => rfl
  | a :: l, acc => by
    simp only [kAll, List.map_cons]
    congr 1
    funext _ acc
    exact uq1 l acc
theorem uwl {α β : Type} {most : Nat} {k : β → List UInt8 → KR} {f : α → β} {l : List α} {acc : List UInt8} : kEach most (fun a => k (f a)) l acc = kEach most k (l.map f) acc := by
  unfold kEach
  rw [List.length_map]
  congr 2
  funext _ acc
  exact uq1 l acc
def RG.fit (v : RG) : Prop := v.types.l.length < 2 ^ 62 ∧ ∀ t ∈ v.types.l, t.plain.fit
theorem recK {v : RG} {j : Nat} (hv : v.fit) (hj : hget H j = some (.cells [LZ v.types.z 6 (v.types.l.map encSG), .bool v.exp])) (hjc : j < c) (hc : c < List.length H) : runK c (C u46 [.ptr c 0, .ptr j 0]) (St H c (pB acc) []) = outK c H [] pB encU (kRec v.plain acc) := by
  obtain ⟨a1, a2⟩ := hv
  have hg : ∀ a L, hget (St H c a L) j = some (.cells [LZ v.types.z 6 (v.types.l.map encSG), .bool v.exp]) := fun a L => by
    unfold St
    rw [ubm (by omega), uj9 (by omega)]
    exact hj
  have h78 := fun L acc => byteK (c := c) (H := H) (L := L) (acc := acc) (n := 78) (by omega) (by omega) hc
  have hk := fun L acc => uy4 (c := c) (H := H) (L := L) (acc := acc) (f := .fn u4b [.ptr c 0] []) (one := fun v => kSub v.plain) (z := v.types.z) (l := v.types.l) (most := 10000) rfl (by omega) (by omega) (fun H L acc t ht hc => by rw [u6s]; exact subK (a2 t ht) hc) hc
  simp only [Int.cast_ofNat_Int, uwl] at hk
  rw [uax]
  unfold kRec
  simp only [RG.plain]
  match hv : v.types.l with
  | [] =>
    rw [hv] at hk hg
    simp only [List.map_cons, List.map_nil] at hk
    have e5 : ¬ ((0 : Nat) : Int) = 1 := by decide
    simp +contextual -dsimp (disch := omega) only [↓kDown, kUp, ↓goDown, goUp, cr, simprocAttr, hg, ln_Z, List.length_map, e5, h78, run_mf, hk, u0s, u18, u0n, low_Z, u0o, u16, strip_Z] <;> rfl
  | [t] =>
    rw [hv] at hg
    have ht : t ∈ v.types.l := by rw [hv]; simp
    have hia : ∀ K, run (iaS 6 (LZ v.types.z 6 [encSG t]) (.int .i64 0)) K = some (.ok (.elem [.bool t.fin, LZ t.sup.z 1 (t.sup.l.map encI), .int .i64 t.comp.kind, LZ t.comp.ps.z 3 (t.comp.ps.l.map encV), LZ t.comp.rs.z 3 (t.comp.rs.l.map encV), LZ t.comp.fs.z 4 (t.comp.fs.l.map encF)]) K) := fun K => rfl
    have e5 : (((1 : Nat) : Int) = 1) = True := eq_true rfl
    have hs := fun L acc => subK (c := c) (H := H) (L := L) (acc := acc) (a2 t ht) hc
    simp +contextual -dsimp (disch := omega) only [↓kDown, kUp, ↓goDown, goUp, cr, simprocAttr, hg, ln_Z, List.length_map, e5, hia, hs, u0s, u18, u0n, low_Z, u0o, u16, strip_Z] <;> rfl
  | t :: u :: r =>
    rw [hv] at hk hg
    simp only [List.map_cons, List.map_nil] at hk
    have e5 : ¬ ((r.length + 1 + 1 : Nat) : Int) = 1 := by omega
    simp +contextual -dsimp (disch := omega) only [↓kDown, kUp, ↓goDown, goUp, cr, simprocAttr, hg, ln_Z, List.length_map, e5, h78, run_mf, hk, u0s, u18, u0n, low_Z, u0o, u16, strip_Z] <;> rfl
def OkR (r : KR) : Prop := (∀ t l, r = .err t l → t = u02 ∧ ∃ p w, l = [p, w]) ∧ r ≠ .no
theorem put_1 {f1 : FuncId} {bx1 : Box} {r : KR} (hr : OkR r) (h : ∀ (K : Heap) (j c : Nat), hget K j = some bx1 → j < c → c < List.length K → runK c (C f1 [.ptr c 0, .ptr j 0]) (St K c (pB []) []) = outK c K [] pB encU r) :
    run (C u5o [.fn f1 [] [.ptr (List.length H) 0]]) (hadd H [bx1]) = outW r (hadd H [bx1]) :=
  uza (H := hadd H [bx1]) (f := .fn f1 [] [.ptr (List.length H) 0]) rfl hr.1 hr.2 (fun L c h1 h2 => by
    rw [u6s]
    refine h _ _ _ ?_ ?_ h2
    · rw [u9t, udo]; rfl
    · rw [u8f] at h1; simp at h1; omega)
theorem uvf {v : RG} (hv : v.fit) (hr : OkR (kRec v.plain [])) : run (C u6m [encRG v]) H = outW (kRec v.plain []) H := by
  have hw := put_1 (H := H) (f1 := u46) hr (fun K j c hj h1 h2 => recK hv hj h1 h2)
  rw [ud4]
  unfold encRG
  cases hk : kRec v.plain [] with
  | ok u acc =>
    rw [hk] at hw
    simp only [outW] at hw ⊢
    simp +contextual -dsimp (disch := omega) only [↓goDown, goUp, cr, simprocAttr, run_mf, hw, u18, u0n, low_Z, u0o, u16, strip_Z]
  | err t l =>
    obtain ⟨rfl, p, w, rfl⟩ := hr.1 _ _ hk
    rw [hk] at hw
    simp only [outW, if_true] at hw ⊢
    simp +contextual -dsimp (disch := omega) only [↓goDown, goUp, cr, simprocAttr, run_mf, hw, u18, u0n, low_Z, u0o, u16, strip_Z]
  | no => exact absurd hk hr.2
end Go.Proofs.YthnmienjiangkaaGreatDoor.Pi.Q
namespace Go.Proofs.YthnmienjiangkaaGreatDoor.Pi.Q
open Go Go.Proofs.YthnmienjiangkaaGreatDoor.Pi
attribute [local congr] ite_congr
variable {c : Nat} {H : Heap} {L : List Box} {acc : List UInt8}
def kU (n : Int) (acc : List UInt8) : KR := kPut (putU n.toNat) acc
theorem wf_u64 {n : Int} (h : (Lit.int .u64 n).wf = true) : 0 ≤ n ∧ n < 18446744073709551616 := by
  simp [Lit.wf, IntKind.min, IntKind.max, IntKind.bits, IntKind.signed] at h
  omega
theorem wf_i64 {n : Int} (h : (Lit.int .i64 n).wf = true) : -9223372036854775808 ≤ n ∧ n ≤ 9223372036854775807 := by
  simp [Lit.wf, IntKind.min, IntKind.max, IntKind.bits, IntKind.signed] at h
  omega
def u9a (v : LT) (acc : List UInt8) : KR :=
  (kPut [if v.has then (if v.wide then 5 else 1) else (if v.wide then 4 else 0)] acc).bind fun _ acc =>
  (kMust (v.wide || decide (v.min < 4294967296)) acc).bind fun _ acc =>
  (kU v.min acc).bind fun _ acc =>
  (if v.has = true ∨ v.max = 0 then kMust (v.wide || decide (v.max < 4294967296)) acc else .err u02 [0, 4]).bind fun _ acc =>
  if v.has = true then kU v.max acc else .ok () acc
theorem uup {v : LT} (h1 : 0 ≤ v.min ∧ v.min < 18446744073709551616) (h2 : 0 ≤ v.max ∧ v.max < 18446744073709551616) (hc : c < List.length H) : runK c (C u2n [.ptr c 0, .agg [.bool v.wide, .int .u64 v.min, .int .u64 v.max, .bool v.has]]) (St H c (pB acc) L) = outK c H L pB encU (u9a v acc) := liftK (fun H hc => by
  obtain ⟨wide, min, max, has⟩ := v
  simp only at h1 h2
  have hb := fun n h0 h1 L acc => byteK (c := c) (H := H) (L := L) (acc := acc) (n := n) h0 h1 hc
  have hu1 := fun L acc => uK (c := c) (H := H) (L := L) (acc := acc) (n := min) h1.1 h1.2 hc
  have hu2 := fun L acc => uK (c := c) (H := H) (L := L) (acc := acc) (n := max) h2.1 h2.2 hc
  rw [ucj]
  unfold u9a kU
  cases wide <;> cases has <;>
    simp +contextual -dsimp (disch := omega) only [↓kDown, kUp, ↓goDown, goUp, cr, simprocAttr, hb, hu1, hu2, mustK, kMust, u9b, u8q, u0s, Bool.and_self, Bool.and_eq_true, decide_eq_true_eq, Bool.true_or, Bool.false_or, Bool.true_and, true_or, false_or] <;> rfl) hc
def kTag (n : Int) (acc : List UInt8) : KR := (kPut [0] acc).bind fun _ acc => kIndex n acc
theorem tagK {n : Int} (hc : c < List.length H) : runK c (C u87 [.ptr c 0, .int .i64 n]) (St H c (pB acc) L) = outK c H L pB encU (kTag n acc) := liftK (fun H hc => by
  have hb := fun L acc => byteK (c := c) (H := H) (L := L) (acc := acc) (n := 0) (by omega) (by omega) hc
  rw [ufi]
  unfold kTag
  simp +contextual -dsimp (disch := omega) only [↓kDown, kUp, ↓goDown, goUp, cr, simprocAttr, hb, indexK, u0s] <;> rfl) hc
theorem get_j {bx1 : Box} {j : Nat} (hj : hget H j = some bx1) (hjc : j < c) (hc : c < List.length H) {a : Box} {L : List Box} : hget (St H c a L) j = some bx1 := by
  unfold St
  rw [ubm (by omega), uj9 (by omega)]
  exact hj
end Go.Proofs.YthnmienjiangkaaGreatDoor.Pi.Q
namespace Go.Proofs.YthnmienjiangkaaGreatDoor.Pi.Q
open Go Go.Proofs.YthnmienjiangkaaGreatDoor.Pi
attribute [local congr] ite_congr
structure WS where
  b : List UInt8
  e : Int
abbrev GR := Res WS Unit
variable {c : Nat} {H : Heap} {L : List Box} {b : List UInt8} {f : Int}
def gPut (u : List UInt8) (s : WS) : GR := if s.b.length + u.length ≤ 140737488355328 then .ok () ⟨s.b ++ u, s.e⟩ else .no
def gMust (ok : Bool) (e : Int) (s : WS) : WS := ⟨s.b, if ok = false ∧ s.e = 0 then e else s.e⟩
def gMany (n most : Int) (s : WS) : GR := gPut (putU n.toNat) (gMust (decide (n ≤ most)) 2 s)
def gIndex (n : Int) (s : WS) : GR := if 0 ≤ n then gPut (putU n.toNat) (gMust (decide (n < 2147483648)) 4 s) else .ok () (gMust false 4 s)
def codeN (h : Int) : Nat := match find h absI 0 with | some j => 105 + j | none => 0
def gHeap (h : Int) (s : WS) : GR :=
  if h < 0 then gPut [UInt8.ofNat (codeN h)] (gMust (decide (-12 ≤ h)) 4 s) else gPut (putS h) (gMust (decide (h < 2147483648)) 4 s)
end Go.Proofs.YthnmienjiangkaaGreatDoor.Pi.Q
namespace Go.Proofs.YthnmienjiangkaaGreatDoor.Pi.Q
open Go Go.Proofs.YthnmienjiangkaaGreatDoor.Pi
attribute [local congr] ite_congr
variable {c : Nat} {H : Heap} {L : List Box} {b : List UInt8} {f : Int}
def gByte (n : Int) : UInt8 := if n = 7 then 119 else if n = 6 then 120 else UInt8.ofNat (IntKind.u8.wrap (IntKind.i64.wrap (128 - n))).toNat
def gValOk (field : Bool) (v : VT) : Bool := decide (((1 ≤ v.num ∧ v.num ≤ 4) ∨ (field = true ∧ (v.num = 6 ∨ v.num = 7))) ∧ v.nul = false ∧ v.heap = 0)
def gVal (field : Bool) (v : VT) (s : WS) : GR :=
  if v.num = 5 then if v.nul = true then if v.heap < 0 then gHeap v.heap s else (gPut [99] s).bind fun _ s => gHeap v.heap s else (gPut [100] s).bind fun _ s => gHeap v.heap s
  else gPut [gByte v.num] (gMust (gValOk field v) 4 s)
end Go.Proofs.YthnmienjiangkaaGreatDoor.Pi.Q
