/- What the law rests on, part 4 of 4: a reading of the program's code over told data, and what it comes to. -/
import Derived.Test.YtiiepllnnjjmaaaDoorPiR2
set_option linter.unusedVariables false
set_option linter.unusedSimpArgs false
set_option maxRecDepth 100000
namespace Go.Proofs.YtiiepllnnjjmaaaDoor.Pi.Q
open Go Go.Proofs.YtiiepllnnjjmaaaDoor.Pi
noncomputable def u0p (v1 v2 v3 v4 : PV) : M PV := atP P X u2e [1, 1, 1, 1, 1, 0, 1, 0] (mkEnv 41 0 [(1, v1), (2, v2), (3, v3), (4, v4)])
theorem u26 (v1 v2 v3 v4 : PV) : u0p v1 v2 v3 v4 =
 M.bind (fa 2 v1) fun t22_0 =>
 M.bind (fa 3 t22_0) fun t23_1 =>
 M.bind (ld none false t23_1) fun t24_2 =>
 M.bind (lnL t24_2) fun t25_3 =>
 M.bind (bi .lss .none (strip v4) t25_3) fun t26_4 =>
 condM t26_4
 (M.bind (fa 2 v1) fun t30_5 =>
 M.bind (fa 3 t30_5) fun t31_6 =>
 M.bind (ld none false t31_6) fun t32_7 =>
 M.bind (iaS 4 t32_7 (strip v4)) fun t34_8 =>
 M.bind (fa 0 t34_8) fun t35_9 =>
 M.bind (ld (some 3) false t35_9) fun t36_10 =>
 M.bind (bs true (some 3) [t36_10]) fun t37_11 =>
 M.bind (C u0j [(strip t37_11)]) fun t38_12 =>
 M.bind (ap true 1 8 v3 t38_12) fun t39_13 =>
 M.bind (bi .add .none (strip v4) (.int .i64 1)) fun t28_14 =>
 u0p v1 v2 t39_13 t28_14)
 (resT v3 (M.pure v3)) :=
 (u13 P X _ _ _).trans (by kernel_rfl)
theorem u6r (a0 : PV) : C u2e [a0] =
 trunc (M.bind (bx 6 a0) fun t1_0 =>
 M.bind (fa 1 t1_0) fun t6_1 =>
 M.bind (ld none false t6_1) fun t7_2 =>
 M.bind (ap true 1 8 (.slice false true 0 []) t7_2) fun t8_3 =>
 M.bind (fa 2 t1_0) fun t10_4 =>
 M.bind (fa 1 t10_4) fun t11_5 =>
 M.bind (ld none false t11_5) fun t12_6 =>
 M.bind (C u0j [(strip t12_6)]) fun t13_7 =>
 M.bind (ap true 1 8 t8_3 t13_7) fun t14_8 =>
 M.bind (fa 2 t1_0) fun t16_9 =>
 M.bind (fa 2 t16_9) fun t17_10 =>
 M.bind (ld none false t17_10) fun t18_11 =>
 M.bind (C u0j [(strip t18_11)]) fun t19_12 =>
 M.bind (ap true 1 8 t14_8 t19_12) fun t20_13 =>
 u0p t1_0 (.slice false true 0 []) t20_13 (.int .i64 0)) := by
 rw [C, u0o _ _ rfl]; kernel_rfl
noncomputable def u1j (v1 v2 v4 v5 : PV) : M PV := atP P X u1t [1, 0, 1, 0] (mkEnv 51 0 [(1, v1), (2, v2), (4, v4), (5, v5)])
noncomputable def u1d (v1 v4 v6 v7 : PV) : M PV := atP P X u1t [1, 1, 1, 0, 1, 0] (mkEnv 51 0 [(1, v1), (4, v4), (6, v6), (7, v7)])
theorem u2k (v1 v2 v4 v5 : PV) : u1j v1 v2 v4 v5 =
 M.bind (fa 1 v2) fun t9_0 =>
 M.bind (ld none false t9_0) fun t10_1 =>
 M.bind (lnL t10_1) fun t11_2 =>
 M.bind (bi .lss .none (strip v5) t11_2) fun t12_3 =>
 condM t12_3
 (M.bind (fa 1 v2) fun t15_4 =>
 M.bind (ld none false t15_4) fun t16_5 =>
 M.bind (iaS 1 t16_5 (strip v5)) fun t18_6 =>
 M.bind (ld none false t18_6) fun t19_7 =>
 M.bind (bi .lss .none t19_7 (.int .i64 0)) fun t20_8 =>
 M.bind (gd (strip t20_8) false (fa 1 v2)) fun t22_9 =>
 M.bind (gd (strip t20_8) false (ld none false t22_9)) fun t23_10 =>
 M.bind (gd (strip t20_8) false (M.pure (strip v5))) fun t24_11 =>
 M.bind (gd (strip t20_8) false (iaS 1 t23_10 t24_11)) fun t25_12 =>
 M.bind (gd (strip t20_8) false (ld none false t25_12)) fun t26_13 =>
 M.bind (gd (strip t20_8) false (M.pure (strip v1))) fun t27_14 =>
 M.bind (gd (strip t20_8) false (bi .geq .none t26_13 t27_14)) fun t28_15 =>
 M.bind (pick (strip t20_8) (.bool true) t28_15) fun t29_16 =>
 condM t29_16
 (M.pure (.bool false))
 (M.bind (bi .add .none (strip v5) (.int .i64 1)) fun t14_17 =>
 u1j v1 v2 v4 t14_17))
 (M.bind (ld (some 6) false v2) fun t30_18 =>
 M.bind (C u2e [(strip t30_18)]) fun t31_19 =>
 u1d v1 v4 t31_19 (.int .i64 0)) :=
 (u13 P X _ _ _).trans (by kernel_rfl)
theorem u2b (v1 v4 v6 v7 : PV) : u1d v1 v4 v6 v7 =
 M.bind (lnL (strip v6)) fun t34_0 =>
 M.bind (bi .lss .none (strip v7) t34_0) fun t35_1 =>
 condM t35_1
 (M.bind (iaS 1 (strip v6) (strip v7)) fun t40_2 =>
 M.bind (ld none false t40_2) fun t41_3 =>
 M.bind (bi .geq .none t41_3 (strip v1)) fun t43_4 =>
 M.bind (gd (strip t43_4) false (M.pure (strip v6))) fun t45_5 =>
 M.bind (gd (strip t43_4) false (M.pure (strip v7))) fun t46_6 =>
 M.bind (gd (strip t43_4) false (iaS 1 t45_5 t46_6)) fun t47_7 =>
 M.bind (gd (strip t43_4) false (ld none false t47_7)) fun t48_8 =>
 M.bind (gd (strip t43_4) false (bi .lss .none t48_8 (.int .i64 (-12)))) fun t49_9 =>
 M.bind (pick (strip t43_4) (.bool true) t49_9) fun t50_10 =>
 condM t50_10
 (M.pure (.bool false))
 (M.bind (bi .add .none (strip v7) (.int .i64 1)) fun t37_11 =>
 u1d v1 v4 v6 t37_11))
 (M.pure (.bool true)) :=
 (u13 P X _ _ _).trans (by kernel_rfl)
theorem u6f (a0 a1 : PV) : C u1t [a0, a1] =
 trunc (M.bind (bx 6 a0) fun t2_0 =>
 u1j a1 t2_0 (.bool false) (.int .i64 0)) := by
 rw [C, u0o _ _ rfl]; kernel_rfl
theorem uag (a0 a1 a2 a3 a4 : PV) : C u0c [a0, a1, a2, a3, a4] =
 trunc (M.bind (ld none false a1) fun t8_0 =>
 M.bind (bi .lss .none (strip a0) t8_0) fun t9_1 =>
 condM t9_1
 (resT a0 (M.pure a0))
 (M.bind (noPan (ld none false a2)) fun t11_16 =>
 M.bind (noPan (M.pure (strip t11_16))) fun t12_17 =>
 M.bind (noPan (gd t12_17 true (M.pure (strip a0)))) fun t13_18 =>
 M.bind (noPan (gd t12_17 true (ld none false a1))) fun t14_19 =>
 M.bind (noPan (gd t12_17 true (ld none false a3))) fun t15_20 =>
 M.bind (noPan (gd t12_17 true (ld none false a4))) fun t16_21 =>
 M.bind (noPan (gd t12_17 true (iaS 2 t15_20 t16_21))) fun t17_22 =>
 M.bind (noPan (gd t12_17 true (fa 0 t17_22))) fun t18_23 =>
 M.bind (noPan (gd t12_17 true (ld none false t18_23))) fun t19_24 =>
 M.bind (noPan (gd t12_17 true (lnL t19_24))) fun t20_25 =>
 M.bind (noPan (gd t12_17 true (bi .add .none t14_19 t20_25))) fun t21_26 =>
 M.bind (noPan (gd t12_17 true (bi .lss .none t13_18 t21_26))) fun t22_27 =>
 M.bind (noPan (pick t12_17 t22_27 (.bool false))) fun t23_28 =>
 M.bind (noPan (st 1 true a2 t23_28)) fun _ =>
 M.bind (ld none false a1) fun t25_30 =>
 M.bind (bi .sub .none (strip a0) t25_30) fun t26_31 =>
 M.bind (bi .sub .none (.int .i64 (-100)) t26_31) fun t27_32 =>
 resT t27_32 (M.pure t27_32))) := by
 rw [C, u0o _ _ rfl]; kernel_rfl
theorem u7h (a0 a1 a2 a3 : PV) : C u05 [a0, a1, a2, a3] =
 trunc (M.bind (bi .gtr .none (strip a0) (.int .i64 (-100))) fun t7_0 =>
 condM t7_0
 (resT a0 (M.pure a0))
 (M.bind (ld none false a1) fun t9_1 =>
 M.bind (gd (strip t9_1) true (M.pure (strip a0))) fun t11_2 =>
 M.bind (gd (strip t9_1) true (bi .sub .none (.int .i64 (-100)) t11_2)) fun t12_3 =>
 M.bind (gd (strip t9_1) true (fa 0 a2)) fun t13_4 =>
 M.bind (gd (strip t9_1) true (ld none false t13_4)) fun t14_5 =>
 M.bind (gd (strip t9_1) true (lnL t14_5)) fun t15_6 =>
 M.bind (gd (strip t9_1) true (bi .lss .none t12_3 t15_6)) fun t16_7 =>
 M.bind (pick (strip t9_1) t16_7 (.bool false)) fun t17_8 =>
 M.bind (st 1 true a1 t17_8) fun _ =>
 M.bind (ld none false a3) fun t18_10 =>
 M.bind (bi .add .none t18_10 (.int .i64 (-100))) fun t19_11 =>
 M.bind (bi .sub .none t19_11 (strip a0)) fun t21_12 =>
 resT t21_12 (M.pure t21_12))) := by
 rw [C, u0o _ _ rfl]; kernel_rfl
theorem u72 (a0 a1 : PV) : C u1q [a0, a1] =
 trunc (M.bind (bx 4 a0) fun t2_0 =>
 M.bind (bx 4 a1) fun t3_1 =>
 M.bind (fa 3 t2_0) fun t5_2 =>
 M.bind (ld none false t5_2) fun t6_3 =>
 M.bind (fa 3 t3_1) fun t7_4 =>
 M.bind (ld none false t7_4) fun t8_5 =>
 M.bind (bi .eql .bool t6_3 t8_5) fun t9_6 =>
 M.bind (gd (strip t9_6) true (fa 0 t2_0)) fun t11_7 =>
 M.bind (gd (strip t9_6) true (ld (some 3) false t11_7)) fun t12_8 =>
 M.bind (gd (strip t9_6) true (fa 0 t3_1)) fun t13_9 =>
 M.bind (gd (strip t9_6) true (ld (some 3) false t13_9)) fun t14_10 =>
 M.bind (gd (strip t9_6) true (C u2j [(strip t12_8), (strip t14_10)])) fun t15_11 =>
 M.bind (pick (strip t9_6) t15_11 (.bool false)) fun t16_12 =>
 resT t16_12 (M.pure t16_12)) := by
 rw [C, u0o _ _ rfl]; kernel_rfl
theorem u73 (a0 a1 : PV) : C u1s [a0, a1] =
 trunc (M.bind (bi .eql .none (strip a0) (strip a1)) fun t7_0 =>
 resT t7_0 (M.pure t7_0)) := by
 rw [C, u0o _ _ rfl]; kernel_rfl
noncomputable def u1o (v0 v1 v2 v6 v14 v15 : PV) : M PV := atP P X u2n [1, 1, 0, 1, 0] (mkEnv 30 0 [(0, v0), (1, v1), (2, v2), (6, v6), (14, v14), (15, v15)])
theorem u2o (v0 v1 v2 v6 v14 v15 : PV) : u1o v0 v1 v2 v6 v14 v15 =
 M.bind (bi .lss .none v15 v14) fun t16_0 =>
 condM t16_0
 (M.bind (noPan (M.pure (strip v2))) fun t18_12 =>
 M.bind (noPan (M.pure (strip v0))) fun t19_13 =>
 M.bind (noPan (M.pure (strip v15))) fun t20_14 =>
 M.bind (noPan (iaS 1 t19_13 t20_14)) fun t21_15 =>
 M.bind (noPan (M.pure (strip v1))) fun t23_16 =>
 M.bind (noPan (M.pure (strip v15))) fun t24_17 =>
 M.bind (noPan (iaS 1 t23_16 t24_17)) fun t25_18 =>
 M.bind (noPan (ld none false t21_15)) fun t22_19 =>
 M.bind (noPan (ld none false t25_18)) fun t26_20 =>
 M.bind (noPan (callV P C t18_12 [(strip t22_19), (strip t26_20)])) fun t27_21 =>
 M.bind (noPan (un .not t27_21)) fun t28_22 =>
 condM t28_22
 (M.pure (.bool false))
 (M.bind (bi .add .none (strip v15) (.int .i64 1)) fun t29_23 =>
 u1o v0 v1 v2 v6 v14 (strip t29_23)))
 (M.pure (.bool true)) :=
 (u13 P X _ _ _).trans (by kernel_rfl)
theorem u75 (a0 a1 a2 : PV) : C u2n [a0, a1, a2] =
 trunc (M.bind (lnL (strip a0)) fun t9_0 =>
 M.bind (lnL (strip a1)) fun t11_1 =>
 M.bind (bi .neq .none t9_0 t11_1) fun t12_2 =>
 condM t12_2
 (M.pure (.bool false))
 (M.bind (lnL (strip a0)) fun t14_3 =>
 u1o a0 a1 a2 (.bool false) t14_3 (.int .i64 0))) := by
 rw [C, u0o _ _ rfl]; kernel_rfl
noncomputable def u0v (v0 v1 v2 v6 v14 v15 : PV) : M PV := atP P X u0x [1, 1, 0, 1, 0] (mkEnv 30 0 [(0, v0), (1, v1), (2, v2), (6, v6), (14, v14), (15, v15)])
theorem u1u (v0 v1 v2 v6 v14 v15 : PV) : u0v v0 v1 v2 v6 v14 v15 =
 M.bind (bi .lss .none v15 v14) fun t16_0 =>
 condM t16_0
 (M.bind (noPan (M.pure (strip v2))) fun t18_12 =>
 M.bind (noPan (M.pure (strip v0))) fun t19_13 =>
 M.bind (noPan (M.pure (strip v15))) fun t20_14 =>
 M.bind (noPan (iaS 3 t19_13 t20_14)) fun t21_15 =>
 M.bind (noPan (M.pure (strip v1))) fun t23_16 =>
 M.bind (noPan (M.pure (strip v15))) fun t24_17 =>
 M.bind (noPan (iaS 3 t23_16 t24_17)) fun t25_18 =>
 M.bind (noPan (ld (some 3) false t21_15)) fun t22_19 =>
 M.bind (noPan (ld (some 3) false t25_18)) fun t26_20 =>
 M.bind (noPan (callV P C t18_12 [(strip t22_19), (strip t26_20)])) fun t27_21 =>
 M.bind (noPan (un .not t27_21)) fun t28_22 =>
 condM t28_22
 (M.pure (.bool false))
 (M.bind (bi .add .none (strip v15) (.int .i64 1)) fun t29_23 =>
 u0v v0 v1 v2 v6 v14 (strip t29_23)))
 (M.pure (.bool true)) :=
 (u13 P X _ _ _).trans (by kernel_rfl)
theorem u48 (a0 a1 a2 : PV) : C u0x [a0, a1, a2] =
 trunc (M.bind (lnL (strip a0)) fun t9_0 =>
 M.bind (lnL (strip a1)) fun t11_1 =>
 M.bind (bi .neq .none t9_0 t11_1) fun t12_2 =>
 condM t12_2
 (M.pure (.bool false))
 (M.bind (lnL (strip a0)) fun t14_3 =>
 u0v a0 a1 a2 (.bool false) t14_3 (.int .i64 0))) := by
 rw [C, u0o _ _ rfl]; kernel_rfl
noncomputable def u0z (v0 v1 v2 v6 v14 v15 : PV) : M PV := atP P X u1p [1, 1, 0, 1, 0] (mkEnv 30 0 [(0, v0), (1, v1), (2, v2), (6, v6), (14, v14), (15, v15)])
theorem u1z (v0 v1 v2 v6 v14 v15 : PV) : u0z v0 v1 v2 v6 v14 v15 =
 M.bind (bi .lss .none v15 v14) fun t16_0 =>
 condM t16_0
 (M.bind (noPan (M.pure (strip v2))) fun t18_12 =>
 M.bind (noPan (M.pure (strip v0))) fun t19_13 =>
 M.bind (noPan (M.pure (strip v15))) fun t20_14 =>
 M.bind (noPan (iaS 4 t19_13 t20_14)) fun t21_15 =>
 M.bind (noPan (M.pure (strip v1))) fun t23_16 =>
 M.bind (noPan (M.pure (strip v15))) fun t24_17 =>
 M.bind (noPan (iaS 4 t23_16 t24_17)) fun t25_18 =>
 M.bind (noPan (ld (some 4) false t21_15)) fun t22_19 =>
 M.bind (noPan (ld (some 4) false t25_18)) fun t26_20 =>
 M.bind (noPan (callV P C t18_12 [(strip t22_19), (strip t26_20)])) fun t27_21 =>
 M.bind (noPan (un .not t27_21)) fun t28_22 =>
 condM t28_22
 (M.pure (.bool false))
 (M.bind (bi .add .none (strip v15) (.int .i64 1)) fun t29_23 =>
 u0z v0 v1 v2 v6 v14 (strip t29_23)))
 (M.pure (.bool true)) :=
 (u13 P X _ _ _).trans (by kernel_rfl)
theorem u4n (a0 a1 a2 : PV) : C u1p [a0, a1, a2] =
 trunc (M.bind (lnL (strip a0)) fun t9_0 =>
 M.bind (lnL (strip a1)) fun t11_1 =>
 M.bind (bi .neq .none t9_0 t11_1) fun t12_2 =>
 condM t12_2
 (M.pure (.bool false))
 (M.bind (lnL (strip a0)) fun t14_3 =>
 u0z a0 a1 a2 (.bool false) t14_3 (.int .i64 0))) := by
 rw [C, u0o _ _ rfl]; kernel_rfl
theorem u89 : C u46 [] =
 trunc (M.bind (al [(.str ⟨#[]⟩), (.str ⟨#[]⟩), (.str ⟨#[]⟩), (.str ⟨#[]⟩), (.str ⟨#[]⟩), (.str ⟨#[]⟩), (.str ⟨#[]⟩), (.str ⟨#[]⟩)]) fun t0_0 =>
 M.bind (bd [(.str ⟨#[]⟩), (.str ⟨#[]⟩), (.str ⟨#[]⟩), (.str ⟨#[]⟩), (.str ⟨#[]⟩), (.str ⟨#[]⟩), (.str ⟨#[]⟩), (.str ⟨#[]⟩)] [(0, 1, (.str ⟨#[]⟩)), (1, 1, (.str ⟨#[105, 51, 50]⟩)), (2, 1, (.str ⟨#[105, 54, 52]⟩)), (3, 1, (.str ⟨#[102, 51, 50]⟩)), (4, 1, (.str ⟨#[102, 54, 52]⟩)), (5, 1, (.str ⟨#[]⟩)), (6, 1, (.str ⟨#[105, 56]⟩)), (7, 1, (.str ⟨#[105, 49, 54]⟩))]) fun t1_1 =>
 M.bind (st 8 true t0_0 t1_1) fun _ =>
 M.bind (ld (some 8) true t0_0) fun t0_3 => guardM (!isTup t0_3) (M.pure t0_3)) := by
 rw [C, u0o _ _ rfl]; kernel_rfl
noncomputable def u30 (v2 v3 : PV) : M PV := atP P X u02 [1, 1] (mkEnv 13 0 [(2, v2), (3, v3)])
theorem u3b (v2 v3 : PV) : u30 v2 v3 =
 M.bind (ld (some 3) true v2) fun t12_0 =>
 M.bind (st 3 true v3 t12_0) fun _ =>
 M.bind (ld (some 3) true v3) fun t0_2 => guardM (!isTup t0_2) (M.pure t0_2) :=
 (u13 P X _ _ _).trans (by kernel_rfl)
theorem u7f (a0 a1 : PV) : C u02 [a0, a1] =
 trunc (M.bind (bx 3 a0) fun t2_0 =>
 M.bind (al [(.int .i64 0), (.bool false), (.int .i64 0)]) fun t3_1 =>
 M.bind (fa 0 t2_0) fun t4_2 =>
 M.bind (ld none false t4_2) fun t5_3 =>
 M.bind (bi .eql .none t5_3 (.int .i64 5)) fun t6_4 =>
 condM t6_4
 (M.bind (ld none false a1) fun t7_5 =>
 M.bind (fa 2 t2_0) fun t8_6 =>
 M.bind (ld none false t8_6) fun t9_7 =>
 M.bind (callV P C t7_5 [(strip t9_7)]) fun t10_8 =>
 M.bind (fa 2 t2_0) fun t11_9 =>
 M.bind (st 1 true t11_9 t10_8) fun _ =>
 u30 t2_0 t3_1)
 (u30 t2_0 t3_1)) := by
 rw [C, u0o _ _ rfl]; kernel_rfl
noncomputable def u1f (v0 v2 v3 v4 : PV) : M PV := atP P X u0j [1, 1, 0, 1, 0] (mkEnv 26 0 [(0, v0), (2, v2), (3, v3), (4, v4)])
noncomputable def u1n (v0 v2 v3 v4 : PV) : M PV := atP P X u0j [1, 1, 0, 1, 0, 0, 1, 1] (mkEnv 26 0 [(0, v0), (2, v2), (3, v3), (4, v4)])
theorem u2d (v0 v2 v3 v4 : PV) : u1f v0 v2 v3 v4 =
 M.bind (lnL (strip v0)) fun t7_0 =>
 M.bind (bi .lss .none (strip v4) t7_0) fun t8_1 =>
 condM t8_1
 (M.bind (iaS 3 (strip v0) (strip v4)) fun t13_2 =>
 M.bind (fa 0 t13_2) fun t14_3 =>
 M.bind (ld none false t14_3) fun t15_4 =>
 M.bind (bi .eql .none t15_4 (.int .i64 5)) fun t16_5 =>
 condM t16_5
 (M.bind (iaS 3 (strip v0) (strip v4)) fun t20_6 =>
 M.bind (fa 2 t20_6) fun t21_7 =>
 M.bind (ld none false t21_7) fun t22_8 =>
 M.bind (bs true none [t22_8]) fun t23_9 =>
 M.bind (ap true 1 8 v3 t23_9) fun t24_10 =>
 u1n v0 v2 t24_10 v4)
 (u1n v0 v2 v3 v4))
 (resT v3 (M.pure v3)) :=
 (u13 P X _ _ _).trans (by kernel_rfl)
theorem u1y (v0 v2 v3 v4 : PV) : u1n v0 v2 v3 v4 =
 M.bind (bi .add .none (strip v4) (.int .i64 1)) fun t10_0 =>
 u1f v0 v2 v3 t10_0 :=
 (u13 P X _ _ _).trans (by kernel_rfl)
theorem u5n (a0 : PV) : C u0j [a0] =
 trunc (u1f a0 (.slice false true 0 []) (.slice false true 0 []) (.int .i64 0)) := by
 rw [C, u0o _ _ rfl]; kernel_rfl
end Go.Proofs.YtiiepllnnjjmaaaDoor.Pi.Q
namespace Go.Proofs.YtiiepllnnjjmaaaDoor.Pi.Q
open Go Go.Proofs.YtiiepllnnjjmaaaDoor.Pi
attribute [local congr] ite_congr
structure VT where
  num : Int
  nul : Bool
  heap : Int
  deriving DecidableEq
def encV (v : VT) : PV := .agg [.int .i64 v.num, .bool v.nul, .int .i64 v.heap]
theorem ns (p : Nat) : ((p + 1 : Nat) : Int) = (p : Int) + 1 := rfl
end Go.Proofs.YtiiepllnnjjmaaaDoor.Pi.Q
namespace Go.Proofs.YtiiepllnnjjmaaaDoor.Pi.Q
open Go Go.Proofs.YtiiepllnnjjmaaaDoor.Pi
attribute [local congr] ite_congr
def accP (sz : Nat) (l : List PV) : PV := match l with | [] => .slice false true 0 [] | l => .slice true false sz l
theorem ap_acc {H : Heap} {sz b : Nat} {l : List PV} {v : PV} {o : Bool} (h : (l.length + 1) * max b 1 ≤ 140737488355328) :
    run (ap true sz b (accP sz l) (.slice o false sz [v])) H = some (.ok (accP sz (l ++ [v])) H) := by
  cases l with
  | nil =>
    unfold accP run ap tail growB
    have h2 : max b 1 ≤ 140737488355328 := by simpa using h
    simp [h2, M.pure]
  | cons x r =>
    unfold accP run ap tail growB
    have h2 : ((x :: r).length + [v].length) * max b 1 ≤ 140737488355328 := by simpa using h
    simp only [beq_self_eq_true, Bool.or_true, cond_true, cond_false, Bool.true_and, decide_eq_true h2]
    rfl
theorem u24 {sz : Nat} {l : List PV} : isTup (accP sz l) = false := by unfold accP; split <;> rfl
theorem u3j {sz n : Nat} {l : List PV} : (accP sz l).low n = true := by unfold accP; split <;> simp [u5a]
theorem u2l {sz : Nat} {l : List PV} : (accP sz l).cells = [accP sz l] := by unfold accP; split <;> rfl
theorem u22 {sz : Nat} {l : List PV} : isCell (accP sz l) = true := by unfold accP; split <;> rfl
structure BK where
  ty : Int
  res : VT
  deriving DecidableEq
end Go.Proofs.YtiiepllnnjjmaaaDoor.Pi.Q
namespace Go.Proofs.YtiiepllnnjjmaaaDoor.Pi.Q
open Go Go.Proofs.YtiiepllnnjjmaaaDoor.Pi
attribute [local congr] ite_congr
theorem run_mf {H : Heap} {f : FuncId} {a b : List PV} : run (mf f a b) H = if (a.all isVal && b.all isVal) = true then some (.ok (.fn f (a.map stripC) (b.map stripC)) H) else none := by
  unfold run mf
  cases (a.all isVal && b.all isVal) <;> rfl
end Go.Proofs.YtiiepllnnjjmaaaDoor.Pi.Q
namespace Go.Proofs.YtiiepllnnjjmaaaDoor.Pi.Q
open Go Go.Proofs.YtiiepllnnjjmaaaDoor.Pi
attribute [local congr] ite_congr
structure FT where
  ty : VT
  mu : Bool
  deriving DecidableEq
def encF (v : FT) : PV := .agg [.int .i64 v.ty.num, .bool v.ty.nul, .int .i64 v.ty.heap, .bool v.mu]
end Go.Proofs.YtiiepllnnjjmaaaDoor.Pi.Q
namespace Go.Proofs.YtiiepllnnjjmaaaDoor.Pi.Q
open Go Go.Proofs.YtiiepllnnjjmaaaDoor.Pi
attribute [local congr] ite_congr
abbrev encI (v : Int) : PV := .int .i64 v
def shutP (sz : Nat) (l : List PV) : PV := match l with | [] => .slice false true 0 [] | l => .slice false false sz l
theorem u50 {sz : Nat} {l : List PV} : isTup (shutP sz l) = false := by cases l <;> rfl
theorem u3x {sz : Nat} {l : List PV} : isCell (shutP sz l) = true := by cases l <;> rfl
theorem u4t {sz : Nat} {l : List PV} : (shutP sz l).cells = [shutP sz l] := by cases l <;> rfl
theorem low_P {sz : Nat} {l : List PV} {n : Nat} : (shutP sz l).low n = true := by cases l <;> simp [shutP, u5a]
theorem u4y {sz : Nat} {l : List PV} : strip (shutP sz l) = shutP sz l := by cases l <;> rfl
theorem u3y {sz : Nat} {l : List PV} : stripC (shutP sz l) = shutP sz l := by cases l <;> rfl
theorem u15 {sz : Nat} {l : List PV} : strip (accP sz l) = shutP sz l := by cases l <;> rfl
theorem u23 {sz : Nat} {l : List PV} : stripC (accP sz l) = shutP sz l := by cases l <;> rfl
structure CT where
  kind : Int
  ps : List VT
  rs : List VT
  fs : List FT
  deriving DecidableEq
structure ST where
  fin : Bool
  sup : List Int
  comp : CT
  deriving DecidableEq
end Go.Proofs.YtiiepllnnjjmaaaDoor.Pi.Q
namespace Go.Proofs.YtiiepllnnjjmaaaDoor.Pi.Q
open Go Go.Proofs.YtiiepllnnjjmaaaDoor.Pi
attribute [local congr] ite_congr
structure RT where
  types : List ST
  exp : Bool
  deriving DecidableEq
end Go.Proofs.YtiiepllnnjjmaaaDoor.Pi.Q
namespace Go.Proofs.YtiiepllnnjjmaaaDoor.Pi.Q
open Go Go.Proofs.YtiiepllnnjjmaaaDoor.Pi
attribute [local congr] ite_congr
def CT.fit (v : CT) : Prop := v.ps.length < 2 ^ 62 ∧ v.rs.length < 2 ^ 62 ∧ v.fs.length < 2 ^ 62
def ST.fit (v : ST) : Prop := v.sup.length < 2 ^ 62 ∧ v.comp.fit
def RT.fit (v : RT) : Prop := v.types.length < 2 ^ 62 ∧ ∀ t ∈ v.types, t.fit
end Go.Proofs.YtiiepllnnjjmaaaDoor.Pi.Q
namespace Go.Proofs.YtiiepllnnjjmaaaDoor.Pi
open Go.ChangeShapes Go.WideShapes
def litPV : Lit → PV
  | .int k n => .int k n
  | .bool b => .bool b
  | .string s => .str ⟨s.toArray⟩
  | _ => .undef
def wrapE (P : Program) (e : TypeId) (cs : List PV) : PV :=
  match tagg P e with
  | some _ => .agg cs
  | none => cs.headD .undef
mutual
def toldD {H : Type} (P : Program) : TypeId → DataW H → List PV
  | t, .lit l => [litPV l]
  | t, .nil => match P.underlying t with
    | some (.slice e) => [.slice false true 0 []]
    | _ => [.nil]
  | t, .slice elems _ => match P.underlying t with
    | some (.slice e) => [.slice false false (P.cellsOf e) (toldE P e elems)]
    | _ => []
  | t, .agg parts => match P.underlying t with
    | some (.struct fs) => toldF P fs.toList parts
    | _ => []
  | _, _ => []
def toldE {H : Type} (P : Program) (e : TypeId) : List (DataW H) → List PV
  | [] => []
  | d :: r => wrapE P e (toldD P e d) :: toldE P e r
def toldF {H : Type} (P : Program) : List Field → List (DataW H) → List PV
  | f :: fs, d :: r => toldD P f.type d ++ toldF P fs r
  | _, _ => []
end
def laidF (P : Program) : Nat → List Field → Option Nat
  | o, [] => some o
  | o, f :: r => bif f.offset == o then laidF P (o + P.cellsOf f.type) r else none
def plainT (P : Program) (T : List TypeId) (t : TypeId) : Bool :=
  match P.underlying t with
  | some .bool | some (.int _) | some .string => P.cellsOf t == 1 && (tagg P t).isNone
  | some (.slice e) => T.contains e && (decide (0 < P.cellsOf e) && (P.cellsOf t == 1 && (tagg P t).isNone))
  | some (.struct fs) => fs.toList.all (fun f => T.contains f.type) && (laidF P 0 fs.toList == some (P.cellsOf t) && (tagg P t).isSome)
  | _ => false
theorem uit {P : Program} {T : List TypeId} {e : TypeId} (he : plainT P T e = true) {cs : List PV} (hl : cs.length = P.cellsOf e) (hc : ∀ (j : Nat) (c : PV), cs[j]? = some c → isCell c = true) : (wrapE P e cs).cells = cs := by
  have one : P.cellsOf e = 1 → (tagg P e).isNone = true → (wrapE P e cs).cells = cs := fun h1 h2 => by
    obtain ⟨c, rfl⟩ : ∃ c, cs = [c] := by
      cases cs with
      | nil => simp at hl; omega
      | cons c r =>
        cases r with
        | nil => exact ⟨c, rfl⟩
        | cons d r => simp at hl; omega
    have hcell := hc 0 c rfl
    unfold wrapE
    cases ht : tagg P e with
    | some _ => rw [ht] at h2; cases h2
    | none =>
      simp only [List.headD_cons]
      cases c <;> first | rfl | cases hcell
  unfold plainT at he
  split at he
  · simp only [Bool.and_eq_true, beq_iff_eq] at he; exact one he.1 he.2
  · simp only [Bool.and_eq_true, beq_iff_eq] at he; exact one he.1 he.2
  · simp only [Bool.and_eq_true, beq_iff_eq] at he; exact one he.1 he.2
  · simp only [Bool.and_eq_true, beq_iff_eq] at he; exact one he.2.2.1 he.2.2.2
  · simp only [Bool.and_eq_true, beq_iff_eq] at he
    unfold wrapE
    cases ht : tagg P e with
    | some _ => rfl
    | none => rw [ht] at he; cases he.2.2
  · cases he
def ToldOk (W : World) (cs : List Value) (ps : List PV) : Prop :=
  ps.length = cs.length ∧ ∀ (j : Nat) (c : PV), ps[j]? = some c → isCell c = true ∧ ∀ v, cs[j]? = some v → RepF (imOf W) c v
theorem ToldOk.one {W : World} {c : PV} {v : Value} (h1 : isCell c = true) (h2 : RepF (imOf W) c v) : ToldOk W [v] [c] :=
  ⟨rfl, fun j d hd => by
    cases j with
    | zero => simp at hd; subst hd; exact ⟨h1, fun u hu => by simp at hu; subst hu; exact h2⟩
    | succ j => simp at hd⟩
variable {H : Type} {enc : TypeId × Value → H} {P : Program} {W : World} {base : Nat} {spare : Nat → Bool} {held : Bool} {T : List TypeId}
theorem ubu {W : World} {a : Addr} {n : Nat} {l : List Value} (hn : 0 < n) (h : W.cells? base a n = some l) : a.spot = none := by
  unfold World.cells? at h
  split at h
  · have h0 := mapM_some_get h 0 0 (by simp [hn])
    have : a.add 0 = a := by simp [Addr.add]
    rw [this] at h0
    unfold World.cell? at h0
    cases hs : a.spot with
    | none => rfl
    | some x =>
      rw [hs] at h0
      have hl := mapM_some_length h
      have hlt : 0 < l.length := by rw [hl]; simpa using hn
      rw [List.getElem?_eq_getElem hlt] at h0
      split at h0 <;> simp at h0
  · cases h
theorem ul0 {W : World} {a : Addr} {n : Nat} {l : List Value} (h : W.cells? base a n = some l) (hs : a.spot = none) : l.length = n ∧ ∀ (j : Nat) (v : Value), l[j]? = some v → W.cell? ⟨a.block, a.off + j, none⟩ = some v := by
  unfold World.cells? at h
  split at h
  · refine ⟨by simpa using mapM_some_length h, fun j v hv => ?_⟩
    have hj : j < n := by
      have := (List.getElem?_eq_some_iff.mp hv).1
      have h2 := mapM_some_length h
      simp at h2
      omega
    have h0 := mapM_some_get h j j (by simp [hj])
    rw [hv] at h0
    have : a.add j = ⟨a.block, a.off + j, none⟩ := by
      obtain ⟨b, o, sp⟩ := a
      simp only at hs
      subst hs
      unfold Addr.add
      split <;> simp_all
    rw [this] at h0
    exact h0
  · cases h
theorem ud1 {P : Program} {e : TypeId} : ∀ (l : List (DataW H)) (i : Nat), (toldE P e l)[i]? = l[i]?.map fun d => wrapE P e (toldD P e d)
  | [], i => by simp [toldE]
  | d :: r, 0 => by simp [toldE]
  | d :: r, i + 1 => by simpa [toldE] using ud1 r i
theorem u7z {P : Program} {e : TypeId} : ∀ (l : List (DataW H)), (toldE P e l).length = l.length
  | [] => rfl
  | d :: r => by simp [toldE, u7z r]
theorem ToldOk.append {W : World} {cs ds : List Value} {ps qs : List PV} (h : ToldOk W cs ps) (k : ToldOk W ds qs) : ToldOk W (cs ++ ds) (ps ++ qs) := by
  refine ⟨by simp [h.1, k.1], fun j c hc => ?_⟩
  by_cases hj : j < ps.length
  · rw [List.getElem?_append_left hj] at hc
    obtain ⟨h1, h2⟩ := h.2 j c hc
    refine ⟨h1, fun v hv => h2 v ?_⟩
    rwa [List.getElem?_append_left (by rw [← h.1]; exact hj)] at hv
  · rw [List.getElem?_append_right (by omega)] at hc
    obtain ⟨h1, h2⟩ := k.2 _ c hc
    refine ⟨h1, fun v hv => h2 v ?_⟩
    rwa [List.getElem?_append_right (by rw [← h.1]; omega), ← h.1] at hv
theorem u9z (n : Nat) (ok : ∀ (t : TypeId) (cs : List Value) (x : DataW H × List MemPlace), T.contains t = true → DataW.trod enc P W base spare held n t cs = some x → cs.length = P.cellsOf t ∧ ToldOk W cs (toldD P t x.1)) (cs : List Value) :
    ∀ (fs : List Field) (o : Nat) (xs : List (DataW H × List MemPlace)), (∀ f ∈ fs, T.contains f.type = true) → laidF P o fs = some cs.length → xs.length = fs.length →
      (∀ (i : Nat) (f : Field), fs[i]? = some f → DataW.trod enc P W base spare held n f.type ((cs.drop f.offset).take (P.cellsOf f.type)) = xs[i]?) → o ≤ cs.length ∧ ToldOk W (cs.drop o) (toldF P fs (xs.map (·.1)))
  | [], o, xs, hT, hl, hx, h => by
    simp only [laidF, Option.some.injEq] at hl
    subst hl
    obtain rfl : xs = [] := List.eq_nil_of_length_eq_zero (by simpa using hx)
    exact ⟨Nat.le_refl _, by simp [toldF], by simp [toldF]⟩
  | f :: fs, o, xs, hT, hl, hx, h => by
    unfold laidF at hl
    cases ho : (f.offset == o) with
    | false => rw [ho] at hl; cases hl
    | true =>
      rw [ho] at hl
      simp only [cond_true] at hl
      obtain rfl : f.offset = o := by simpa using ho
      cases xs with
      | nil => simp at hx
      | cons y ys =>
        have h0 := h 0 f rfl
        simp only [List.getElem?_cons_zero] at h0
        obtain ⟨l1, l2⟩ := ok f.type _ y (hT f (by simp)) h0
        obtain ⟨k1, k2⟩ := u9z n ok cs fs _ ys (fun g hg => hT g (by simp [hg])) hl (by simpa using hx) (fun i g hg => by
          have := h (i + 1) g (by simpa using hg)
          simpa using this)
        refine ⟨by omega, ?_⟩
        have e1 : cs.drop f.offset = (cs.drop f.offset).take (P.cellsOf f.type) ++ cs.drop (f.offset + P.cellsOf f.type) := by
          rw [← List.drop_drop, List.take_append_drop]
        rw [e1]
        simp only [List.map_cons, toldF]
        exact l2.append k2
theorem told_ok (hT : T.all (plainT P T) = true) (hsp : ∀ b, spare b = true) : ∀ (n : Nat) (t : TypeId) (cs : List Value) (x : DataW H × List MemPlace), T.contains t = true → DataW.trod enc P W base spare held n t cs = some x → cs.length = P.cellsOf t ∧ ToldOk W cs (toldD P t x.1) := by
  intro n
  induction n with
  | zero => intro t cs x _ h; simp [DataW.trod] at h
  | succ n ih =>
  intro t cs x ht h
  have hp : plainT P T t = true := List.all_eq_true.mp hT t (by simpa using ht)
  have hp0 := hp
  unfold plainT at hp
  split at hp
  · rename_i hu
    simp only [Bool.and_eq_true, beq_iff_eq] at hp
    obtain ⟨b, rfl, rfl⟩ := DataW.trod_bool hu h
    refine ⟨by simp [hp.1], ?_⟩
    simp only [toldD, litPV]
    exact .one rfl (.bool b)
  · rename_i k hu
    simp only [Bool.and_eq_true, beq_iff_eq] at hp
    obtain ⟨m, rfl, rfl, _⟩ := DataW.trod_int hu h
    refine ⟨by simp [hp.1], ?_⟩
    simp only [toldD, litPV]
    exact .one rfl (.int k m)
  · rename_i hu
    simp only [Bool.and_eq_true, beq_iff_eq] at hp
    obtain ⟨s, rfl, rfl, _⟩ := DataW.trod_string hu h
    refine ⟨by simp [hp.1], ?_⟩
    simp only [toldD, litPV]
    have e : (⟨s.data.toList.toArray⟩ : ByteArray) = s := by rw [Array.toArray_toList]
    rw [e]
    exact .one rfl (.str s)
  · rename_i e hu
    simp only [Bool.and_eq_true, beq_iff_eq, decide_eq_true_eq] at hp
    obtain ⟨he, hz, h1, _⟩ := hp
    have hpe : plainT P T e = true := List.all_eq_true.mp hT e (by simpa using he)
    rcases DataW.trod_slice hu h with ⟨rfl, rfl⟩ | ⟨a, len, cap, elems, rest, m, hm, rfl, rfl, hb, hlc, hcm, hlen, hel, hre, hno⟩
    · refine ⟨by simp [h1], ?_⟩
      simp only [toldD, hu]
      exact .one rfl (.snil 0)
    · obtain rfl : m = n := by omega
      refine ⟨by simp [h1], ?_⟩
      simp only [toldD, hu]
      have each : ∀ (i : Nat) (y : DataW H × List MemPlace), elems[i]? = some y → ∃ l : List Value, W.cells? base (a.add (i * P.cellsOf e)) (P.cellsOf e) = some l ∧ l.length = P.cellsOf e ∧ ToldOk W l (toldD P e y.1) := by
        intro i y hy
        have hi : i < len := by
          have := (List.getElem?_eq_some_iff.mp hy).1
          omega
        have := hel i hi
        rw [hy, Option.bind_eq_some_iff] at this
        obtain ⟨l, hl, hd⟩ := this
        obtain ⟨q1, q2⟩ := ih e l y he hd
        exact ⟨l, hl, q1, q2⟩
      have spot : a.spot = none ∨ cap = 0 := by
        by_cases hc : cap = 0
        · exact .inr hc
        · left
          have add0 : a.add (0 * P.cellsOf e) = a := by simp [Addr.add]
          by_cases hl0 : len = 0
          · obtain ⟨r1, r2⟩ := hre (hsp _)
            have := r2 0 (by omega)
            have hlt : 0 < rest.length := by omega
            rw [List.getElem?_eq_getElem hlt, Option.bind_eq_some_iff] at this
            obtain ⟨l, hl, _⟩ := this
            rw [hl0] at hl
            rw [show (0 + 0) * P.cellsOf e = 0 * P.cellsOf e by simp, add0] at hl
            exact ubu hz hl
          · have hlt : 0 < elems.length := by omega
            obtain ⟨l, hl, _⟩ := each 0 _ (List.getElem?_eq_getElem hlt)
            rw [add0] at hl
            exact ubu hz hl
      obtain ⟨g, o, sp⟩ := a
      have hcap : cap = 0 → elems = [] := fun h => List.eq_nil_of_length_eq_zero (by omega)
      have hL : (toldE P e (elems.map (·.1))).length = len := by rw [u7z, List.length_map, hlen]
      have hget : ∀ (i : Nat) (x : PV), (toldE P e (elems.map (·.1)))[i]? = some x → sp = none ∧ ∃ l : List Value, (∀ (j : Nat) (v : Value), l[j]? = some v → imOf W g (o + i * P.cellsOf e + j) = some v) ∧ l.length = P.cellsOf e ∧ x.cells.length = P.cellsOf e ∧ ∀ (j : Nat) (c : PV), x.cells[j]? = some c → ∀ v, l[j]? = some v → RepF (imOf W) c v := by
        intro i x hx
        rw [ud1, List.getElem?_map] at hx
        cases hy : elems[i]? with
        | none => rw [hy] at hx; simp at hx
        | some y =>
          rw [hy] at hx
          simp only [Option.map_some, Option.some.injEq] at hx
          have hsn : sp = none := by
            rcases spot with h | h
            · exact h
            · rw [hcap h] at hy; simp at hy
          subst hsn
          obtain ⟨l, hl, q1, q2⟩ := each i y hy
          have hadd : (⟨g, o, none⟩ : Addr).add (i * P.cellsOf e) = ⟨g, o + i * P.cellsOf e, none⟩ := by unfold Addr.add; split <;> simp_all
          rw [hadd] at hl
          obtain ⟨_, q3⟩ := ul0 hl rfl
          have hw := uit hpe (cs := toldD P e y.1) (by rw [q2.1, q1]) (fun j c hc => (q2.2 j c hc).1)
          rw [hx] at hw
          refine ⟨rfl, l, fun j v hv => q3 j v hv, q1, by rw [hw, q2.1, q1], fun j c hc v hv => ?_⟩
          rw [hw] at hc
          exact (q2.2 j c hc).2 v hv
      have hrep := RepF.slice (im := imOf W) (g := g) (o := o) (cap := cap) (sz := P.cellsOf e) (sp := sp) (xs := toldE P e (elems.map (·.1))) (fun i j => (imOf W g (o + i * P.cellsOf e + j)).getD .nilIface) spot (by omega)
        (fun i x hx => (hget i x hx).2.choose_spec.2.2.1)
        (fun i x j c hx hc => by
          obtain ⟨_, l, l1, l2, l3, l4⟩ := hget i x hx
          have hj : j < l.length := by
            have := (List.getElem?_eq_some_iff.mp hc).1
            omega
          rw [l1 j _ (List.getElem?_eq_getElem hj)]
          rfl)
        (fun i x j c hx hc => by
          obtain ⟨_, l, l1, l2, l3, l4⟩ := hget i x hx
          have hj : j < l.length := by
            have := (List.getElem?_eq_some_iff.mp hc).1
            omega
          rw [l1 j _ (List.getElem?_eq_getElem hj)]
          exact l4 j c hc _ (List.getElem?_eq_getElem hj))
      rw [hL] at hrep
      exact .one rfl hrep
  · rename_i fs hu
    simp only [Bool.and_eq_true, beq_iff_eq, List.all_eq_true] at hp
    obtain ⟨hTf, hlaid, _⟩ := hp
    obtain ⟨xs, m, hm, rfl, hcl, hxl, hx⟩ := DataW.trod_struct hu h
    obtain rfl : m = n := by omega
    refine ⟨hcl, ?_⟩
    simp only [toldD, hu]
    have := u9z (T := T) m (fun t cs x ht hk => ih t cs x ht hk) cs fs.toList 0 xs (fun f hf => hTf f hf) (by rw [hcl]; exact hlaid) (by simpa using hxl) (fun i f hf => hx i f (by simpa using hf))
    simpa using this.2
  · cases hp
end Go.Proofs.YtiiepllnnjjmaaaDoor.Pi
namespace Go.Proofs.YtiiepllnnjjmaaaDoor.Pi
def LZ (z : Bool) (sz : Nat) (l : List PV) : PV := match l with | [] => .slice false z (if z then 0 else sz) [] | l => .slice false false sz l
structure GL (α : Type) where
  z : Bool
  l : List α
  deriving DecidableEq
section
variable {z : Bool} {sz : Nat} {l : List PV} {H : Heap}
theorem u0y : isTup (LZ z sz l) = false := by cases l <;> rfl
theorem u0m : isCell (LZ z sz l) = true := by cases l <;> rfl
theorem u17 : (LZ z sz l).cells = [LZ z sz l] := by cases l <;> rfl
theorem low_Z {n : Nat} : (LZ z sz l).low n = true := by cases l <;> simp [LZ, u5a]
theorem strip_Z : strip (LZ z sz l) = LZ z sz l := by cases l <;> rfl
theorem u0a : stripC (LZ z sz l) = LZ z sz l := by cases l <;> rfl
theorem ln_Z : run (lnL (LZ z sz l)) H = some (.ok (.int .i64 l.length) H) := by cases l <;> rfl
theorem ia_Z {i : Nat} {x : PV} (h : l[i]? = some x) : run (iaS sz (LZ z sz l) (.int .i64 i)) H = some (.ok (.elem x.cells) H) := by
  cases l with
  | nil => simp at h
  | cons a r =>
    show run (iaS sz (.slice false false sz (a :: r)) (.int .i64 i)) H = _
    rw [ufk (by omega), Int.toNat_natCast, h]
    rfl
end
theorem u3t {sz : Nat} {l : List PV} : Q.shutP sz l = LZ true sz l := by cases l <;> rfl
end Go.Proofs.YtiiepllnnjjmaaaDoor.Pi
namespace Go.Proofs.YtiiepllnnjjmaaaDoor.Pi
open Go.ChangeShapes Go.WideShapes
mutual
def bulk {H : Type} : DataW H → Nat
  | .lit (.string bytes) => bytes.length + 1
  | .lit _ => 1
  | .nil => 1
  | .ptr d => bulk d + 1
  | .slice elems spare => bulkL elems + bulkL spare + 1
  | .agg parts => bulkL parts + 1
  | _ => 1
def bulkL {H : Type} : List (DataW H) → Nat
  | [] => 0
  | d :: r => bulk d + bulkL r
end
section
variable {H : Type} {enc : TypeId × Value → H} {P : Program} {W : World} {base : Nat} {spare : Nat → Bool} {held : Bool} {A B : Type} {n : Nat} {t e : TypeId}
structure DecArgs (H : Type) where
  enc : TypeId × Value → H
  P : Program
  W : World
  base : Nat
  spare : Nat → Bool
  held : Bool
variable (G : DecArgs H)
def Dec (n : Nat) (t : TypeId) (cells : A → List PV) (ok : A → Prop) (ms : A → Nat) : Prop :=
  ∀ cs x, DataW.trod G.enc G.P G.W G.base G.spare G.held n t cs = some x → ∃ a, toldD G.P t x.1 = cells a ∧ ok a ∧ ms a ≤ bulk x.1
def DecF (n : Nat) (fs : List Field) (cells : A → List PV) (ok : A → Prop) (ms : A → Nat) : Prop :=
  ∀ (xs : List (DataW H × List MemPlace)), xs.length = fs.length → (∀ (i : Nat) (f : Field), fs[i]? = some f → ∃ cs, DataW.trod G.enc G.P G.W G.base G.spare G.held n f.type cs = xs[i]?) →
    ∃ a, toldF G.P fs (xs.map (·.1)) = cells a ∧ ok a ∧ ms a ≤ bulkL (xs.map (·.1))
variable {G}
theorem dec_int {k : IntKind} (hu : G.P.underlying t = some (.int k)) : Dec G n t (fun m : Int => [.int k m]) (fun m => (Lit.int k m).wf = true) (fun _ => 1) := by
  intro cs x h
  obtain ⟨m, rfl, rfl, hw⟩ := DataW.trod_int hu h
  exact ⟨m, by simp [toldD, litPV], hw, by simp [bulk]⟩
theorem dec_bool (hu : G.P.underlying t = some .bool) : Dec G n t (fun b : Bool => [.bool b]) (fun _ => True) (fun _ => 1) := by
  intro cs x h
  obtain ⟨b, rfl, rfl⟩ := DataW.trod_bool hu h
  exact ⟨b, by simp [toldD, litPV], trivial, by simp [bulk]⟩
theorem decF_nil : DecF G n [] (fun _ : Unit => []) (fun _ => True) (fun _ => 0) := by
  intro xs hl _
  exact ⟨(), by simp [toldF], trivial, Nat.zero_le _⟩
theorem decF_cons {f : Field} {fs : List Field} {cA : A → List PV} {okA : A → Prop} {mA : A → Nat} {cB : B → List PV} {okB : B → Prop} {mB : B → Nat} (ha : Dec G n f.type cA okA mA) (hb : DecF G n fs cB okB mB) :
    DecF G n (f :: fs) (fun p : A × B => cA p.1 ++ cB p.2) (fun p => okA p.1 ∧ okB p.2) (fun p => mA p.1 + mB p.2) := by
  intro xs hl h
  cases xs with
  | nil => simp at hl
  | cons y ys =>
    obtain ⟨cs, h0⟩ := h 0 f rfl
    simp only [List.getElem?_cons_zero] at h0
    obtain ⟨a, a1, a2, a3⟩ := ha _ _ h0
    obtain ⟨b, b1, b2, b3⟩ := hb ys (by simpa using hl) (fun i g hg => by simpa using h (i + 1) g (by simpa using hg))
    exact ⟨(a, b), by simp only [List.map_cons, toldF, a1, b1], ⟨a2, b2⟩, by simp only [List.map_cons, bulkL]; omega⟩
theorem dec_struct {fs : Array Field} {l : List Field} (hu : G.P.underlying t = some (.struct fs)) (hl : fs.toList = l) {cells : A → List PV} {ok : A → Prop} {ms : A → Nat} (h : ∀ m, n = m + 1 → DecF G m l cells ok ms) : Dec G n t cells ok (fun a => ms a + 1) := by
  intro cs x hx
  obtain ⟨xs, m, hm, rfl, hcl, hxl, hxi⟩ := DataW.trod_struct hu hx
  subst hl
  obtain ⟨a, a1, a2, a3⟩ := h m hm xs (by simpa using hxl) (fun i f hf => ⟨_, hxi i f (by simpa using hf)⟩)
  exact ⟨a, by simp only [toldD, hu, a1], a2, by simp only [bulk]; omega⟩
theorem Dec.map {cells : A → List PV} {ok : A → Prop} {ms : A → Nat} (h : Dec G n t cells ok ms) (f : A → B) {cB : B → List PV} {okB : B → Prop} {mB : B → Nat} (hc : ∀ a, cells a = cB (f a)) (ho : ∀ a, ok a → okB (f a)) (hm : ∀ a, mB (f a) ≤ ms a) : Dec G n t cB okB mB := by
  intro cs x hx
  obtain ⟨a, a1, a2, a3⟩ := h cs x hx
  exact ⟨f a, by rw [a1, hc], ho a a2, Nat.le_trans (hm a) a3⟩
def sumL {A : Type} (m : A → Nat) : List A → Nat
  | [] => 0
  | a :: r => m a + sumL m r
theorem udu {cells : A → List PV} {ok : A → Prop} {ms : A → Nat} (h : Dec G n e cells ok ms) {ec : A → PV} (hec : ∀ a, wrapE G.P e (cells a) = ec a) : ∀ (ys : List (DataW H × List MemPlace)), (∀ y ∈ ys, ∃ cs, DataW.trod G.enc G.P G.W G.base G.spare G.held n e cs = some y) →
    ∃ l : List A, toldE G.P e (ys.map (·.1)) = l.map ec ∧ (∀ a ∈ l, ok a) ∧ sumL ms l ≤ bulkL (ys.map (·.1)) ∧ l.length = ys.length
  | [], _ => ⟨[], by simp [toldE], by simp, by simp [sumL], rfl⟩
  | y :: ys, hy => by
    obtain ⟨cs, h0⟩ := hy y (by simp)
    obtain ⟨a, a1, a2, a3⟩ := h _ _ h0
    obtain ⟨l, l1, l2, l3, l4⟩ := udu h hec ys (fun z hz => hy z (by simp [hz]))
    refine ⟨a :: l, ?_, ?_, ?_, by simp [l4]⟩
    · simp only [List.map_cons, toldE, a1, hec, l1]
    · intro b hb
      rcases List.mem_cons.mp hb with rfl | hb
      · exact a2
      · exact l2 b hb
    · simp only [List.map_cons, sumL, bulkL]; omega
theorem dec_list {cells : A → List PV} {ok : A → Prop} {ms : A → Nat} (hu : G.P.underlying t = some (.slice e)) (h : ∀ m, n = m + 1 → Dec G m e cells ok ms) {ec : A → PV} (hec : ∀ a, wrapE G.P e (cells a) = ec a) {sz : Nat} (hsz : G.P.cellsOf e = sz) :
    Dec G n t (fun g : GL A => [LZ g.z sz (g.l.map ec)]) (fun g => ∀ a ∈ g.l, ok a) (fun g => sumL ms g.l + 1) := by
  intro cs x hx
  rcases DataW.trod_slice hu hx with ⟨rfl, rfl⟩ | ⟨a, len, cap, elems, rest, m, hm, rfl, rfl, hb, hlc, hcm, hlen, hel, hre, hno⟩
  · exact ⟨⟨true, []⟩, by simp [toldD, hu, LZ], by simp, by simp [bulk, sumL]⟩
  · obtain ⟨l, l1, l2, l3, l4⟩ := udu (h m hm) hec elems (fun y hy => by
      obtain ⟨i, hi⟩ := List.getElem?_of_mem hy
      have hlt : i < len := by
        have := (List.getElem?_eq_some_iff.mp hi).1
        omega
      have := hel i hlt
      rw [hi, Option.bind_eq_some_iff] at this
      obtain ⟨cs, _, hd⟩ := this
      exact ⟨cs, hd⟩)
    refine ⟨⟨false, l⟩, ?_, l2, by simp only [bulk]; omega⟩
    simp only [toldD, hu, l1, hsz]
    cases l <;> rfl
end
end Go.Proofs.YtiiepllnnjjmaaaDoor.Pi
namespace Go.Proofs.YtiiepllnnjjmaaaDoor.Pi
open Go.ChangeShapes Go.WideShapes
theorem rep_cell {P : Program} {W : World} {base : Nat} {t : TypeId} {d : TypeDesc} {v : Value} {p : PV} (hu : P.underlying t = some d) (hd : ∀ fs, d ≠ .struct fs) (hd2 : ∀ n e, d ≠ .array n e) (hok : Value.okWide P W .any base t v) (ht : ToldOk W v.cells.toList [p]) : Rep [] (imOf W) p v := by
  have hv : v.cells = #[v] := by
    unfold Value.okWide at hok
    rw [hu] at hok
    cases d <;> first | (exact absurd rfl (hd _)) | (exact absurd rfl (hd2 _ _)) | skip
    all_goals (unfold Cell.okWide Cell.ok at hok; simp only [hu] at hok)
    all_goals (cases v <;> first | rfl | (simp at hok; done))
  rw [hv] at ht
  exact .flat ((ht.2 0 p rfl).2 v rfl)
theorem args_nil {im : Nat → Nat → Option Value} : ArgsOk (gOf im) [] #[] := ⟨rfl, fun j p v hp => by simp at hp⟩
theorem args_cons {im : Nat → Nat → Option Value} {p : PV} {v : Value} {ps : List PV} {vs : List Value} (h : Rep [] im p v) (hs : strip p = p) (hr : ArgsOk (gOf im) ps vs.toArray) : ArgsOk (gOf im) (p :: ps) (v :: vs).toArray := by
  refine ⟨by have := hr.size; simp at this ⊢; exact this, fun j q u hq hu => ?_⟩
  cases j with
  | zero =>
    simp at hq hu
    subst hq; subst hu
    exact ⟨.one (.pure h), hs⟩
  | succ j =>
    exact hr.rep j q u (by simpa using hq) (by simpa using hu)
end Go.Proofs.YtiiepllnnjjmaaaDoor.Pi
namespace Go.Proofs.YtiiepllnnjjmaaaDoor.Pi
open Go.ChangeShapes Go.WideShapes
structure ASl where
  z : Bool
  sz : Nat
  xs : List PV
variable {H : Type} {G : DecArgs H} {n : Nat} {t e : TypeId}
end Go.Proofs.YtiiepllnnjjmaaaDoor.Pi
namespace Go.Proofs.YtiiepllnnjjmaaaDoor.Pi.Q
open Go Go.Proofs.YtiiepllnnjjmaaaDoor.Pi
def cs_V (v : VT) : List PV := [.int .i64 v.num, .bool v.nul, .int .i64 v.heap]
def ok_V (v : VT) : Prop := (Lit.int .i64 v.num).wf = true ∧ True ∧ (Lit.int .i64 v.heap).wf = true ∧ True
def ms_V (v : VT) : Nat := 1 + (1 + (1 + (0))) + 1
def cs_F (v : FT) : List PV := [.int .i64 v.ty.num, .bool v.ty.nul, .int .i64 v.ty.heap, .bool v.mu]
def ok_F (v : FT) : Prop := ok_V v.ty ∧ True ∧ True
def ms_F (v : FT) : Nat := ms_V v.ty + (1 + (0)) + 1
structure CG where
  kind : Int
  ps : GL (VT)
  rs : GL (VT)
  fs : GL (FT)
  deriving DecidableEq
def cs_CG (v : CG) : List PV := [.int .i64 v.kind, LZ v.ps.z 3 (v.ps.l.map encV), LZ v.rs.z 3 (v.rs.l.map encV), LZ v.fs.z 4 (v.fs.l.map encF)]
def ok_CG (v : CG) : Prop := (Lit.int .i64 v.kind).wf = true ∧ (∀ a ∈ v.ps.l, ok_V a) ∧ (∀ a ∈ v.rs.l, ok_V a) ∧ (∀ a ∈ v.fs.l, ok_F a) ∧ True
def ms_CG (v : CG) : Nat := 1 + ((sumL (fun a => ms_V a) v.ps.l + 1) + ((sumL (fun a => ms_V a) v.rs.l + 1) + ((sumL (fun a => ms_F a) v.fs.l + 1) + (0)))) + 1
structure SG where
  fin : Bool
  sup : GL (Int)
  comp : CG
  deriving DecidableEq
def cs_SG (v : SG) : List PV := [.bool v.fin, LZ v.sup.z 1 (v.sup.l.map encI), .int .i64 v.comp.kind, LZ v.comp.ps.z 3 (v.comp.ps.l.map encV), LZ v.comp.rs.z 3 (v.comp.rs.l.map encV), LZ v.comp.fs.z 4 (v.comp.fs.l.map encF)]
def ok_SG (v : SG) : Prop := True ∧ (∀ a ∈ v.sup.l, (Lit.int .i64 a).wf = true) ∧ ok_CG v.comp ∧ True
def ms_SG (v : SG) : Nat := 1 + ((sumL (fun a => 1) v.sup.l + 1) + (ms_CG v.comp + (0))) + 1
def encSG (v : SG) : PV := .agg [.bool v.fin, LZ v.sup.z 1 (v.sup.l.map encI), .int .i64 v.comp.kind, LZ v.comp.ps.z 3 (v.comp.ps.l.map encV), LZ v.comp.rs.z 3 (v.comp.rs.l.map encV), LZ v.comp.fs.z 4 (v.comp.fs.l.map encF)]
structure RG where
  types : GL (SG)
  exp : Bool
  deriving DecidableEq
def cs_RG (v : RG) : List PV := [LZ v.types.z 6 (v.types.l.map encSG), .bool v.exp]
def ok_RG (v : RG) : Prop := (∀ a ∈ v.types.l, ok_SG a) ∧ True ∧ True
def ms_RG (v : RG) : Nat := (sumL (fun a => ms_SG a) v.types.l + 1) + (1 + (0)) + 1
def encRG (v : RG) : PV := .agg [LZ v.types.z 6 (v.types.l.map encSG), .bool v.exp]
structure LT where
  wide : Bool
  min : Int
  max : Int
  has : Bool
  deriving DecidableEq
def CG.plain (v : CG) : CT := ⟨v.kind, v.ps.l, v.rs.l, v.fs.l⟩
def SG.plain (v : SG) : ST := ⟨v.fin, v.sup.l, v.comp.plain⟩
def RG.plain (v : RG) : RT := ⟨v.types.l.map SG.plain, v.exp⟩
def CT.gl (v : CT) : CG := ⟨v.kind, ⟨true, v.ps⟩, ⟨true, v.rs⟩, ⟨true, v.fs⟩⟩
def ST.gl (v : ST) : SG := ⟨v.fin, ⟨true, v.sup⟩, v.comp.gl⟩
def RT.gl (v : RT) : RG := ⟨⟨true, v.types.map ST.gl⟩, v.exp⟩
end Go.Proofs.YtiiepllnnjjmaaaDoor.Pi.Q
namespace Go.Proofs.YtiiepllnnjjmaaaDoor.Pi.Q
open Go Go.Proofs.YtiiepllnnjjmaaaDoor.Pi
structure TB where
  elem : VT
  lim : LT
  deriving DecidableEq
structure GO where
  ty : VT
  mu : Bool
  deriving DecidableEq
structure XT where
  kind : Int
  ty : Int
  tab : TB
  mem : LT
  glo : GO
  deriving DecidableEq
structure IM where
  mod : ByteArray
  nm : ByteArray
  ext : XT
  deriving DecidableEq
structure EX where
  nm : ByteArray
  kind : Int
  pl : Int
  deriving DecidableEq
end Go.Proofs.YtiiepllnnjjmaaaDoor.Pi.Q
namespace Go.Proofs.YtiiepllnnjjmaaaDoor.Pi.Q
open Go Go.Proofs.YtiiepllnnjjmaaaDoor.Pi
inductive Like : List SK → List PV → List PV → Prop where
  | nil : Like [] [] []
  | int {k : IntKind} {a b : Int} {ks : List SK} {x y : List PV} (h : Like ks x y) : Like (.int :: ks) (.int k a :: x) (.int k b :: y)
  | bool {a b : Bool} {ks : List SK} {x y : List PV} (h : Like ks x y) : Like (.bool :: ks) (.bool a :: x) (.bool b :: y)
  | str {a b : ByteArray} {ks : List SK} {x y : List PV} (h : Like ks x y) : Like (.str :: ks) (.str a :: x) (.str b :: y)
theorem beq_ba {a b : ByteArray} : (a == b) = true ↔ a = b := by
  obtain ⟨a⟩ := a
  obtain ⟨b⟩ := b
  show (a == b) = true ↔ _
  rw [beq_iff_eq]
  exact ⟨fun h => by rw [h], fun h => by injection h⟩
theorem un9 {ks : List SK} {x y : List PV} (h : Like ks x y) : (x = y → u12 ks x y = some true) ∧ (x ≠ y → u12 ks x y = some false) := by
  induction h with
  | nil => exact ⟨fun _ => rfl, fun h => absurd rfl h⟩
  | @int k a b ks x y h ih =>
    have e : u12 (.int :: ks) (.int k a :: x) (.int k b :: y) = if a = b then u12 ks x y else some false := by
      by_cases h : a = b
      · subst h
        have e1 : u18 .int (.int k a) (.int k a) = some true := by simp [u18]
        rw [if_pos rfl, u12, e1]
      · have e1 : u18 .int (.int k a) (.int k b) = some false := by simp [u18, h]
        rw [if_neg h, u12, e1]
    rw [e]
    constructor
    · intro hxy
      simp only [List.cons.injEq, PV.int.injEq, true_and] at hxy
      rw [if_pos hxy.1]
      exact ih.1 hxy.2
    · intro hxy
      by_cases hab : a = b
      · rw [if_pos hab]
        exact ih.2 fun g => hxy (by rw [hab, g])
      · rw [if_neg hab]
  | @bool a b ks x y h ih =>
    have e : u12 (.bool :: ks) (.bool a :: x) (.bool b :: y) = if a = b then u12 ks x y else some false := by
      by_cases h : a = b
      · subst h
        have e1 : u18 .bool (.bool a) (.bool a) = some true := by simp [u18]
        rw [if_pos rfl, u12, e1]
      · have e1 : u18 .bool (.bool a) (.bool b) = some false := by simp [u18, h]
        rw [if_neg h, u12, e1]
    rw [e]
    constructor
    · intro hxy
      simp only [List.cons.injEq, PV.bool.injEq] at hxy
      rw [if_pos hxy.1]
      exact ih.1 hxy.2
    · intro hxy
      by_cases hab : a = b
      · rw [if_pos hab]
        exact ih.2 fun g => hxy (by rw [hab, g])
      · rw [if_neg hab]
  | @str a b ks x y h ih =>
    have e : u12 (.str :: ks) (.str a :: x) (.str b :: y) = if a = b then u12 ks x y else some false := by
      by_cases h : a = b
      · subst h
        have := beq_ba.mpr (rfl : a = a)
        simp only [u12, u18, this, if_true]
      · have : (a == b) = false := by
          cases hb : (a == b) with
          | false => rfl
          | true => exact absurd (beq_ba.mp hb) h
        simp only [u12, u18, this, if_neg h]
    rw [e]
    constructor
    · intro hxy
      simp only [List.cons.injEq, PV.str.injEq] at hxy
      rw [if_pos hxy.1]
      exact ih.1 hxy.2
    · intro hxy
      by_cases hab : a = b
      · rw [if_pos hab]
        exact ih.2 fun g => hxy (by rw [hab, g])
      · rw [if_neg hab]
theorem umr {ks : List SK} {x y : List PV} {H : Heap} (h : Like ks x y) {p : Prop} [Decidable p] (hp : x = y ↔ p) : run (bi .eql (.struct ks) (.agg x) (.agg y)) H = some (.ok (.bool (decide p)) H) := by
  have hh := un9 h
  show (match u12 ks x y with | some b => M.pure (PV.bool b) | none => M.fail) H = _
  by_cases g : x = y
  · rw [hh.1 g, decide_eq_true (hp.mp g)]; rfl
  · rw [hh.2 g, decide_eq_false (fun q => g (hp.mpr q))]; rfl
end Go.Proofs.YtiiepllnnjjmaaaDoor.Pi.Q
namespace Go.Proofs.YtiiepllnnjjmaaaDoor.Pi.Q
open Go Go.Proofs.YtiiepllnnjjmaaaDoor.Pi
def sameV (a b : VT) : Bool := if a.num = 5 ∧ b.num = 5 then decide (a = b) else a.num == b.num
def sameF (a b : FT) : Bool := a.mu == b.mu && sameV a.ty b.ty
def sameZ {α : Type} (f : α → α → Bool) : List α → List α → Bool
  | a :: l, b :: m => f a b && sameZ f l m
  | _, _ => true
def sameL {α : Type} (f : α → α → Bool) (l m : List α) : Bool := (l.length : Int) == (m.length : Int) && sameZ f l m
def sameS (a b : ST) : Bool := a.fin == b.fin && (sameL (fun x y : Int => x == y) a.sup b.sup && (a.comp.kind == b.comp.kind && (sameL sameV a.comp.ps b.comp.ps && (sameL sameV a.comp.rs b.comp.rs && sameL sameF a.comp.fs b.comp.fs))))
def sameR (a b : RT) : Bool := a.exp == b.exp && sameL sameS a.types b.types
theorem ubs {α : Type} {f : α → α → Bool} (hf : ∀ a, f a a = true) : ∀ l, sameZ f l l = true
  | [] => rfl
  | a :: l => by rw [sameZ, hf, ubs hf l]; rfl
theorem u4i {α : Type} {f : α → α → Bool} (hf : ∀ a, f a a = true) (l : List α) : sameL f l l = true := by
  unfold sameL
  rw [ubs hf, beq_self_eq_true]
  rfl
theorem u7k (a : VT) : sameV a a = true := by
  unfold sameV
  split
  · simp
  · simp
theorem uiy (a : FT) : sameF a a = true := by unfold sameF; rw [u7k, beq_self_eq_true]; rfl
theorem uis (a : ST) : sameS a a = true := by
  unfold sameS
  rw [u4i (by simp), u4i u7k, u4i u7k, u4i uiy]
  simp
theorem uim (a : RT) : sameR a a = true := by
  unfold sameR
  rw [u4i uis]
  simp
theorem u5x {α : Type} {f : α → α → Bool} {l m : List α} {i : Nat} (hl : i < l.length) (hm : i < m.length) : sameZ f (l.drop i) (m.drop i) = (f l[i] m[i] && sameZ f (l.drop (i + 1)) (m.drop (i + 1))) := by
  rw [List.drop_eq_getElem_cons hl, List.drop_eq_getElem_cons hm, sameZ]
theorem u70 {α : Type} {f : α → α → Bool} {l m : List α} {i : Nat} (hl : l.length ≤ i) : sameZ f (l.drop i) (m.drop i) = true := by
  rw [List.drop_eq_nil_of_le hl]
  unfold sameZ
  rfl
theorem ueq {α β : Type} {f : β → β → Bool} {g : α → β} : ∀ (l m : List α), sameZ (fun a b => f (g a) (g b)) l m = sameZ f (l.map g) (m.map g)
  | [], m => by unfold sameZ; rfl
  | a :: l, [] => rfl
  | a :: l, b :: m => by rw [sameZ, ueq l m]; rfl
theorem ujf {α β : Type} {f : β → β → Bool} {g : α → β} (l m : List α) : sameL (fun a b => f (g a) (g b)) l m = sameL f (l.map g) (m.map g) := by
  unfold sameL
  rw [ueq, List.length_map, List.length_map]
end Go.Proofs.YtiiepllnnjjmaaaDoor.Pi.Q
namespace Go.Proofs.YtiiepllnnjjmaaaDoor.Pi.Q
open Go Go.Proofs.YtiiepllnnjjmaaaDoor.Pi
attribute [local congr] ite_congr
theorem u99 {H : Heap} {f v6 : PV} {z1 z2 : Bool} {s : VT → VT → Bool} {l m : List VT} (hl : l.length < 2 ^ 62) (hm : l.length = m.length) (hf : strip f = f) (hone : ∀ K a b, a ∈ l → b ∈ m → run (callV P C f [.agg [.int .i64 a.num, .bool a.nul, .int .i64 a.heap], .agg [.int .i64 b.num, .bool b.nul, .int .i64 b.heap]]) K = some (.ok (.bool (s a b)) K)) : ∀ (k i : Nat), i + k = l.length →
    run (u0v (LZ z1 3 (l.map encV)) (LZ z2 3 (m.map encV)) f v6 (.int .i64 l.length) (.int .i64 i)) H = some (.ok (.bool (sameZ s (l.drop i) (m.drop i))) H)
  | 0, i, h => by
    rw [u1u, u70 (by omega)]
    have c1 : ((i : Int) < l.length) = False := eq_false (by omega)
    simp +contextual -dsimp (disch := omega) only [↓goDown, goUp, cr, simprocAttr, c1]
  | k + 1, i, h => by
    have ih := u99 (H := H) (v6 := v6) (z1 := z1) (z2 := z2) hl hm hf hone k (i + 1) (by omega)
    have hi : i < l.length := by omega
    have hj : i < m.length := by omega
    rw [u1u, u5x hi hj]
    have c1 : ((i : Int) < l.length) = True := eq_true (by omega)
    have hga : (l.map encV)[i]? = some (encV l[i]) := by simp [hi]
    have hgb : (m.map encV)[i]? = some (encV m[i]) := by simp [hj]
    have hia : ∀ K, run (iaS 3 (LZ z1 3 (l.map encV)) (.int .i64 i)) K = some (.ok (.elem [.int .i64 l[i].num, .bool l[i].nul, .int .i64 l[i].heap]) K) := fun K => ia_Z hga
    have hib : ∀ K, run (iaS 3 (LZ z2 3 (m.map encV)) (.int .i64 i)) K = some (.ok (.elem [.int .i64 m[i].num, .bool m[i].nul, .int .i64 m[i].heap]) K) := fun K => ia_Z hgb
    have hs := fun K => hone K l[i] m[i] (List.getElem_mem hi) (List.getElem_mem hj)
    cases hc : s l[i] m[i] with
    | true =>
      rw [hc] at hs
      simp +contextual -dsimp (disch := omega) only [↓goDown, goUp, cr, simprocAttr, c1, hf, hia, hib, hs, un_not, ns, strip_Z, ln_Z, u17, u0m, low_Z, u0a, u0y]
      exact ih
    | false =>
      rw [hc] at hs
      simp +contextual -dsimp (disch := omega) only [↓goDown, goUp, cr, simprocAttr, c1, hf, hia, hib, hs, un_not, ns, strip_Z, ln_Z, u17, u0m, low_Z, u0a, u0y]
      all_goals rfl
theorem ueg {H : Heap} {f : PV} {z1 z2 : Bool} {s : VT → VT → Bool} {l m : List VT} (hl : l.length < 2 ^ 62) (hf : strip f = f) (hone : ∀ K a b, a ∈ l → b ∈ m → run (callV P C f [.agg [.int .i64 a.num, .bool a.nul, .int .i64 a.heap], .agg [.int .i64 b.num, .bool b.nul, .int .i64 b.heap]]) K = some (.ok (.bool (s a b)) K)) :
    run (C u0x [LZ z1 3 (l.map encV), LZ z2 3 (m.map encV), f]) H = some (.ok (.bool (sameL s l m)) H) := by
  rw [u48]
  unfold sameL
  by_cases h : l.length = m.length
  · have hlp := fun v6 => u99 (H := H) (v6 := v6) (z1 := z1) (z2 := z2) hl h hf hone l.length 0 (by omega)
    simp only [List.drop_zero, show ((0 : Nat) : Int) = 0 from rfl] at hlp
    have e1 : ((l.length : Int) == (m.length : Int)) = true := by rw [h]; exact beq_self_eq_true _
    have e2 : ((l.length : Int) != (m.length : Int)) = false := by rw [bne, e1]; rfl
    simp +contextual -dsimp (disch := omega) only [↓goDown, goUp, cr, simprocAttr, hf, strip_Z, ln_Z, List.length_map, e1, e2, hlp, Bool.true_and]
  · have e1 : ((l.length : Int) == (m.length : Int)) = false := beq_false_of_ne (by omega)
    have e2 : ((l.length : Int) != (m.length : Int)) = true := by rw [bne, e1]; rfl
    simp +contextual -dsimp (disch := omega) only [↓goDown, goUp, cr, simprocAttr, hf, strip_Z, ln_Z, List.length_map, e1, e2, Bool.false_and]
theorem ua7 {H : Heap} {f v6 : PV} {z1 z2 : Bool} {s : Int → Int → Bool} {l m : List Int} (hl : l.length < 2 ^ 62) (hm : l.length = m.length) (hf : strip f = f) (hone : ∀ K a b, a ∈ l → b ∈ m → run (callV P C f [.int .i64 a, .int .i64 b]) K = some (.ok (.bool (s a b)) K)) : ∀ (k i : Nat), i + k = l.length →
    run (u1o (LZ z1 1 (l.map encI)) (LZ z2 1 (m.map encI)) f v6 (.int .i64 l.length) (.int .i64 i)) H = some (.ok (.bool (sameZ s (l.drop i) (m.drop i))) H)
  | 0, i, h => by
    rw [u2o, u70 (by omega)]
    have c1 : ((i : Int) < l.length) = False := eq_false (by omega)
    simp +contextual -dsimp (disch := omega) only [↓goDown, goUp, cr, simprocAttr, c1]
  | k + 1, i, h => by
    have ih := ua7 (H := H) (v6 := v6) (z1 := z1) (z2 := z2) hl hm hf hone k (i + 1) (by omega)
    have hi : i < l.length := by omega
    have hj : i < m.length := by omega
    rw [u2o, u5x hi hj]
    have c1 : ((i : Int) < l.length) = True := eq_true (by omega)
    have hga : (l.map encI)[i]? = some (encI l[i]) := by simp [hi]
    have hgb : (m.map encI)[i]? = some (encI m[i]) := by simp [hj]
    have hia : ∀ K, run (iaS 1 (LZ z1 1 (l.map encI)) (.int .i64 i)) K = some (.ok (.elem [.int .i64 l[i]]) K) := fun K => ia_Z hga
    have hib : ∀ K, run (iaS 1 (LZ z2 1 (m.map encI)) (.int .i64 i)) K = some (.ok (.elem [.int .i64 m[i]]) K) := fun K => ia_Z hgb
    have hs := fun K => hone K l[i] m[i] (List.getElem_mem hi) (List.getElem_mem hj)
    cases hc : s l[i] m[i] with
    | true =>
      rw [hc] at hs
      simp +contextual -dsimp (disch := omega) only [↓goDown, goUp, cr, simprocAttr, c1, hf, hia, hib, hs, un_not, ns, strip_Z, ln_Z, u17, u0m, low_Z, u0a, u0y]
      exact ih
    | false =>
      rw [hc] at hs
      simp +contextual -dsimp (disch := omega) only [↓goDown, goUp, cr, simprocAttr, c1, hf, hia, hib, hs, un_not, ns, strip_Z, ln_Z, u17, u0m, low_Z, u0a, u0y]
      all_goals rfl
theorem ule {H : Heap} {f : PV} {z1 z2 : Bool} {s : Int → Int → Bool} {l m : List Int} (hl : l.length < 2 ^ 62) (hf : strip f = f) (hone : ∀ K a b, a ∈ l → b ∈ m → run (callV P C f [.int .i64 a, .int .i64 b]) K = some (.ok (.bool (s a b)) K)) :
    run (C u2n [LZ z1 1 (l.map encI), LZ z2 1 (m.map encI), f]) H = some (.ok (.bool (sameL s l m)) H) := by
  rw [u75]
  unfold sameL
  by_cases h : l.length = m.length
  · have hlp := fun v6 => ua7 (H := H) (v6 := v6) (z1 := z1) (z2 := z2) hl h hf hone l.length 0 (by omega)
    simp only [List.drop_zero, show ((0 : Nat) : Int) = 0 from rfl] at hlp
    have e1 : ((l.length : Int) == (m.length : Int)) = true := by rw [h]; exact beq_self_eq_true _
    have e2 : ((l.length : Int) != (m.length : Int)) = false := by rw [bne, e1]; rfl
    simp +contextual -dsimp (disch := omega) only [↓goDown, goUp, cr, simprocAttr, hf, strip_Z, ln_Z, List.length_map, e1, e2, hlp, Bool.true_and]
  · have e1 : ((l.length : Int) == (m.length : Int)) = false := beq_false_of_ne (by omega)
    have e2 : ((l.length : Int) != (m.length : Int)) = true := by rw [bne, e1]; rfl
    simp +contextual -dsimp (disch := omega) only [↓goDown, goUp, cr, simprocAttr, hf, strip_Z, ln_Z, List.length_map, e1, e2, Bool.false_and]
theorem ua4 {H : Heap} {f v6 : PV} {z1 z2 : Bool} {s : FT → FT → Bool} {l m : List FT} (hl : l.length < 2 ^ 62) (hm : l.length = m.length) (hf : strip f = f) (hone : ∀ K a b, a ∈ l → b ∈ m → run (callV P C f [.agg [.int .i64 a.ty.num, .bool a.ty.nul, .int .i64 a.ty.heap, .bool a.mu], .agg [.int .i64 b.ty.num, .bool b.ty.nul, .int .i64 b.ty.heap, .bool b.mu]]) K = some (.ok (.bool (s a b)) K)) : ∀ (k i : Nat), i + k = l.length →
    run (u0z (LZ z1 4 (l.map encF)) (LZ z2 4 (m.map encF)) f v6 (.int .i64 l.length) (.int .i64 i)) H = some (.ok (.bool (sameZ s (l.drop i) (m.drop i))) H)
  | 0, i, h => by
    rw [u1z, u70 (by omega)]
    have c1 : ((i : Int) < l.length) = False := eq_false (by omega)
    simp +contextual -dsimp (disch := omega) only [↓goDown, goUp, cr, simprocAttr, c1]
  | k + 1, i, h => by
    have ih := ua4 (H := H) (v6 := v6) (z1 := z1) (z2 := z2) hl hm hf hone k (i + 1) (by omega)
    have hi : i < l.length := by omega
    have hj : i < m.length := by omega
    rw [u1z, u5x hi hj]
    have c1 : ((i : Int) < l.length) = True := eq_true (by omega)
    have hga : (l.map encF)[i]? = some (encF l[i]) := by simp [hi]
    have hgb : (m.map encF)[i]? = some (encF m[i]) := by simp [hj]
    have hia : ∀ K, run (iaS 4 (LZ z1 4 (l.map encF)) (.int .i64 i)) K = some (.ok (.elem [.int .i64 l[i].ty.num, .bool l[i].ty.nul, .int .i64 l[i].ty.heap, .bool l[i].mu]) K) := fun K => ia_Z hga
    have hib : ∀ K, run (iaS 4 (LZ z2 4 (m.map encF)) (.int .i64 i)) K = some (.ok (.elem [.int .i64 m[i].ty.num, .bool m[i].ty.nul, .int .i64 m[i].ty.heap, .bool m[i].mu]) K) := fun K => ia_Z hgb
    have hs := fun K => hone K l[i] m[i] (List.getElem_mem hi) (List.getElem_mem hj)
    cases hc : s l[i] m[i] with
    | true =>
      rw [hc] at hs
      simp +contextual -dsimp (disch := omega) only [↓goDown, goUp, cr, simprocAttr, c1, hf, hia, hib, hs, un_not, ns, strip_Z, ln_Z, u17, u0m, low_Z, u0a, u0y]
      exact ih
    | false =>
      rw [hc] at hs
      simp +contextual -dsimp (disch := omega) only [↓goDown, goUp, cr, simprocAttr, c1, hf, hia, hib, hs, un_not, ns, strip_Z, ln_Z, u17, u0m, low_Z, u0a, u0y]
      all_goals rfl
theorem ukz {H : Heap} {f : PV} {z1 z2 : Bool} {s : FT → FT → Bool} {l m : List FT} (hl : l.length < 2 ^ 62) (hf : strip f = f) (hone : ∀ K a b, a ∈ l → b ∈ m → run (callV P C f [.agg [.int .i64 a.ty.num, .bool a.ty.nul, .int .i64 a.ty.heap, .bool a.mu], .agg [.int .i64 b.ty.num, .bool b.ty.nul, .int .i64 b.ty.heap, .bool b.mu]]) K = some (.ok (.bool (s a b)) K)) :
    run (C u1p [LZ z1 4 (l.map encF), LZ z2 4 (m.map encF), f]) H = some (.ok (.bool (sameL s l m)) H) := by
  rw [u4n]
  unfold sameL
  by_cases h : l.length = m.length
  · have hlp := fun v6 => ua4 (H := H) (v6 := v6) (z1 := z1) (z2 := z2) hl h hf hone l.length 0 (by omega)
    simp only [List.drop_zero, show ((0 : Nat) : Int) = 0 from rfl] at hlp
    have e1 : ((l.length : Int) == (m.length : Int)) = true := by rw [h]; exact beq_self_eq_true _
    have e2 : ((l.length : Int) != (m.length : Int)) = false := by rw [bne, e1]; rfl
    simp +contextual -dsimp (disch := omega) only [↓goDown, goUp, cr, simprocAttr, hf, strip_Z, ln_Z, List.length_map, e1, e2, hlp, Bool.true_and]
  · have e1 : ((l.length : Int) == (m.length : Int)) = false := beq_false_of_ne (by omega)
    have e2 : ((l.length : Int) != (m.length : Int)) = true := by rw [bne, e1]; rfl
    simp +contextual -dsimp (disch := omega) only [↓goDown, goUp, cr, simprocAttr, hf, strip_Z, ln_Z, List.length_map, e1, e2, Bool.false_and]
theorem u8x {H : Heap} {f v6 : PV} {z1 z2 : Bool} {s : SG → SG → Bool} {l m : List SG} (hl : l.length < 2 ^ 62) (hm : l.length = m.length) (hf : strip f = f) (hone : ∀ K a b, a ∈ l → b ∈ m → run (callV P C f [.agg (cs_SG a), .agg (cs_SG b)]) K = some (.ok (.bool (s a b)) K)) : ∀ (k i : Nat), i + k = l.length →
    run (u0u (LZ z1 6 (l.map encSG)) (LZ z2 6 (m.map encSG)) f v6 (.int .i64 l.length) (.int .i64 i)) H = some (.ok (.bool (sameZ s (l.drop i) (m.drop i))) H)
  | 0, i, h => by
    rw [u1v, u70 (by omega)]
    have c1 : ((i : Int) < l.length) = False := eq_false (by omega)
    simp +contextual -dsimp (disch := omega) only [↓goDown, goUp, cr, simprocAttr, c1]
  | k + 1, i, h => by
    have ih := u8x (H := H) (v6 := v6) (z1 := z1) (z2 := z2) hl hm hf hone k (i + 1) (by omega)
    have hi : i < l.length := by omega
    have hj : i < m.length := by omega
    rw [u1v, u5x hi hj]
    have c1 : ((i : Int) < l.length) = True := eq_true (by omega)
    have hga : (l.map encSG)[i]? = some (encSG l[i]) := by simp [hi]
    have hgb : (m.map encSG)[i]? = some (encSG m[i]) := by simp [hj]
    have hia : ∀ K, run (iaS 6 (LZ z1 6 (l.map encSG)) (.int .i64 i)) K = some (.ok (.elem (cs_SG l[i])) K) := fun K => ia_Z hga
    have hib : ∀ K, run (iaS 6 (LZ z2 6 (m.map encSG)) (.int .i64 i)) K = some (.ok (.elem (cs_SG m[i])) K) := fun K => ia_Z hgb
    have hs := fun K => hone K l[i] m[i] (List.getElem_mem hi) (List.getElem_mem hj)
    unfold cs_SG at hia hib hs
    cases hc : s l[i] m[i] with
    | true =>
      rw [hc] at hs
      simp +contextual -dsimp (disch := omega) only [↓goDown, goUp, cr, simprocAttr, c1, hf, hia, hib, hs, un_not, ns, strip_Z, ln_Z, u17, u0m, low_Z, u0a, u0y]
      exact ih
    | false =>
      rw [hc] at hs
      simp +contextual -dsimp (disch := omega) only [↓goDown, goUp, cr, simprocAttr, c1, hf, hia, hib, hs, un_not, ns, strip_Z, ln_Z, u17, u0m, low_Z, u0a, u0y]
      all_goals rfl
theorem ukh {H : Heap} {f : PV} {z1 z2 : Bool} {s : SG → SG → Bool} {l m : List SG} (hl : l.length < 2 ^ 62) (hf : strip f = f) (hone : ∀ K a b, a ∈ l → b ∈ m → run (callV P C f [.agg (cs_SG a), .agg (cs_SG b)]) K = some (.ok (.bool (s a b)) K)) :
    run (C u1g [LZ z1 6 (l.map encSG), LZ z2 6 (m.map encSG), f]) H = some (.ok (.bool (sameL s l m)) H) := by
  rw [u49]
  unfold sameL
  by_cases h : l.length = m.length
  · have hlp := fun v6 => u8x (H := H) (v6 := v6) (z1 := z1) (z2 := z2) hl h hf hone l.length 0 (by omega)
    simp only [List.drop_zero, show ((0 : Nat) : Int) = 0 from rfl] at hlp
    have e1 : ((l.length : Int) == (m.length : Int)) = true := by rw [h]; exact beq_self_eq_true _
    have e2 : ((l.length : Int) != (m.length : Int)) = false := by rw [bne, e1]; rfl
    simp +contextual -dsimp (disch := omega) only [↓goDown, goUp, cr, simprocAttr, hf, strip_Z, ln_Z, List.length_map, e1, e2, hlp, Bool.true_and]
  · have e1 : ((l.length : Int) == (m.length : Int)) = false := beq_false_of_ne (by omega)
    have e2 : ((l.length : Int) != (m.length : Int)) = true := by rw [bne, e1]; rfl
    simp +contextual -dsimp (disch := omega) only [↓goDown, goUp, cr, simprocAttr, hf, strip_Z, ln_Z, List.length_map, e1, e2, Bool.false_and]
end Go.Proofs.YtiiepllnnjjmaaaDoor.Pi.Q
namespace Go.Proofs.YtiiepllnnjjmaaaDoor.Pi.Q
open Go Go.Proofs.YtiiepllnnjjmaaaDoor.Pi
attribute [local congr] ite_congr
theorem eqlB {H : Heap} {a b : Bool} : run (bi .eql .bool (.bool a) (.bool b)) H = some (.ok (.bool (a == b)) H) := by cases a <;> cases b <;> rfl
theorem eqlI {H : Heap} {k : IntKind} {a b : Int} : run (bi .eql .none (.int k a) (.int k b)) H = some (.ok (.bool (a == b)) H) := by
  unfold run
  rw [bi_eql]
  rfl
theorem u6x (b : Bool) : ∃ x, b = x := ⟨_, rfl⟩
theorem eql_VV {H : Heap} {a b : VT} : run (bi .eql (.struct [.int, .bool, .int]) (.agg [.int .i64 a.num, .bool a.nul, .int .i64 a.heap]) (.agg [.int .i64 b.num, .bool b.nul, .int .i64 b.heap])) H = some (.ok (.bool (decide (a = b))) H) := by
  obtain ⟨a1, a2, a3⟩ := a
  obtain ⟨b1, b2, b3⟩ := b
  exact umr (.int (.bool (.int .nil))) (p := (⟨a1, a2, a3⟩ : VT) = ⟨b1, b2, b3⟩) (by simp)
theorem pSame {H : Heap} {a b : VT} : run (C u2j [.agg [.int .i64 a.num, .bool a.nul, .int .i64 a.heap], .agg [.int .i64 b.num, .bool b.nul, .int .i64 b.heap]]) H = some (.ok (.bool (sameV a b)) H) := by
  have he := fun K => eql_VV (H := K) (a := a) (b := b)
  rw [uce]
  unfold sameV
  by_cases h1 : a.num = 5
  · by_cases h2 : b.num = 5
    · rw [if_pos ⟨h1, h2⟩]
      simp +contextual -dsimp (disch := omega) only [↓goDown, goUp, cr, simprocAttr, eq_true h1, eq_true h2, he]
    · rw [if_neg (fun h => h2 h.2)]
      simp +contextual -dsimp (disch := omega) only [↓goDown, goUp, cr, simprocAttr, eq_true h1, eq_false h2, he, eqlI]
  · rw [if_neg (fun h => h1 h.1)]
    simp +contextual -dsimp (disch := omega) only [↓goDown, goUp, cr, simprocAttr, eq_false h1, he, eqlI]
theorem pField {H : Heap} {a b : FT} : run (C u1q [.agg [.int .i64 a.ty.num, .bool a.ty.nul, .int .i64 a.ty.heap, .bool a.mu], .agg [.int .i64 b.ty.num, .bool b.ty.nul, .int .i64 b.ty.heap, .bool b.mu]]) H = some (.ok (.bool (sameF a b)) H) := by
  have hs := fun K => pSame (H := K) (a := a.ty) (b := b.ty)
  rw [u72]
  unfold sameF
  obtain ⟨x1, h1⟩ := u6x (a.mu == b.mu)
  cases x1 <;> simp +contextual -dsimp (disch := omega) only [↓goDown, goUp, cr, simprocAttr, h1, hs, eqlB, Bool.true_and, Bool.false_and]
theorem unq {H : Heap} {a b : Int} : run (C u1s [.int .i64 a, .int .i64 b]) H = some (.ok (.bool (a == b)) H) := by
  rw [u73]
  simp +contextual -dsimp (disch := omega) only [↓goDown, goUp, cr, simprocAttr, eqlI]
theorem pSub {H : Heap} {a b : SG} (ha : a.plain.fit) : run (C u38 [.agg (cs_SG a), .agg (cs_SG b)]) H = some (.ok (.bool (sameS a.plain b.plain)) H) := by
  obtain ⟨f1, ⟨y1, sup⟩, ⟨k1, ⟨y2, ps⟩, ⟨y3, rs⟩, ⟨y4, fs⟩⟩⟩ := a
  obtain ⟨f2, ⟨x1, sup'⟩, ⟨k2, ⟨x2, ps'⟩, ⟨x3, rs'⟩, ⟨x4, fs'⟩⟩⟩ := b
  obtain ⟨l1, l2, l3, l4⟩ := ha
  simp only [SG.plain, CG.plain] at l1 l2 l3 l4
  have i1 := fun K => ule (H := K) (f := .fn u1s [] []) (z1 := y1) (z2 := x1) (s := fun x y : Int => x == y) (l := sup) (m := sup') l1 rfl (fun K a b _ _ => by rw [u3q]; exact unq)
  have i2 := fun K => ueg (H := K) (f := .fn u2j [] []) (z1 := y2) (z2 := x2) (s := sameV) (l := ps) (m := ps') l2 rfl (fun K a b _ _ => by rw [u3q]; exact pSame)
  have i3 := fun K => ueg (H := K) (f := .fn u2j [] []) (z1 := y3) (z2 := x3) (s := sameV) (l := rs) (m := rs') l3 rfl (fun K a b _ _ => by rw [u3q]; exact pSame)
  have i4 := fun K => ukz (H := K) (f := .fn u1q [] []) (z1 := y4) (z2 := x4) (s := sameF) (l := fs) (m := fs') l4 rfl (fun K a b _ _ => by rw [u3q]; exact pField)
  rw [u88]
  unfold cs_SG sameS
  simp only [SG.plain, CG.plain]
  obtain ⟨c1, h1⟩ := u6x (f1 == f2)
  obtain ⟨c2, h2⟩ := u6x (sameL (fun x y : Int => x == y) sup sup')
  obtain ⟨c3, h3⟩ := u6x (k1 == k2)
  obtain ⟨c4, h4⟩ := u6x (sameL sameV ps ps')
  obtain ⟨c5, h5⟩ := u6x (sameL sameV rs rs')
  rw [h2] at i1
  rw [h4] at i2
  rw [h5] at i3
  rw [h1, h2, h3, h4, h5]
  cases c1 with
  | false => simp +contextual -dsimp (disch := omega) only [↓goDown, goUp, cr, simprocAttr, u65, u3f, u5v, u5s, u5u, u4j, u62, u3k, u3l, u3e, u3d, u3g, u66, u67, u4m, u61, u42, u5r, u4p, u7l, len_ne, List.cons_append, List.nil_append, List.all_cons, List.all_nil, and_self, and_true, true_and, u34, Nat.lt_add_right_iff_pos, decide_true, h1, h3, i1, i2, i3, i4, eqlB, eqlI, strip_Z, u17, u0m, low_Z, u0a, u0y, Bool.true_and, Bool.false_and]
  | true =>
    cases c2 with
    | false => simp +contextual -dsimp (disch := omega) only [↓goDown, goUp, cr, simprocAttr, u65, u3f, u5v, u5s, u5u, u4j, u62, u3k, u3l, u3e, u3d, u3g, u66, u67, u4m, u61, u42, u5r, u4p, u7l, len_ne, List.cons_append, List.nil_append, List.all_cons, List.all_nil, and_self, and_true, true_and, u34, Nat.lt_add_right_iff_pos, decide_true, h1, h3, i1, i2, i3, i4, eqlB, eqlI, strip_Z, u17, u0m, low_Z, u0a, u0y, Bool.true_and, Bool.false_and]
    | true =>
      cases c3 with
      | false => simp +contextual -dsimp (disch := omega) only [↓goDown, goUp, cr, simprocAttr, u65, u3f, u5v, u5s, u5u, u4j, u62, u3k, u3l, u3e, u3d, u3g, u66, u67, u4m, u61, u42, u5r, u4p, u7l, len_ne, List.cons_append, List.nil_append, List.all_cons, List.all_nil, and_self, and_true, true_and, u34, Nat.lt_add_right_iff_pos, decide_true, h1, h3, i1, i2, i3, i4, eqlB, eqlI, strip_Z, u17, u0m, low_Z, u0a, u0y, Bool.true_and, Bool.false_and]
      | true =>
        cases c4 with
        | false => simp +contextual -dsimp (disch := omega) only [↓goDown, goUp, cr, simprocAttr, u65, u3f, u5v, u5s, u5u, u4j, u62, u3k, u3l, u3e, u3d, u3g, u66, u67, u4m, u61, u42, u5r, u4p, u7l, len_ne, List.cons_append, List.nil_append, List.all_cons, List.all_nil, and_self, and_true, true_and, u34, Nat.lt_add_right_iff_pos, decide_true, h1, h3, i1, i2, i3, i4, eqlB, eqlI, strip_Z, u17, u0m, low_Z, u0a, u0y, Bool.true_and, Bool.false_and]
        | true =>
          cases c5 with
          | false => simp +contextual -dsimp (disch := omega) only [↓goDown, goUp, cr, simprocAttr, u65, u3f, u5v, u5s, u5u, u4j, u62, u3k, u3l, u3e, u3d, u3g, u66, u67, u4m, u61, u42, u5r, u4p, u7l, len_ne, List.cons_append, List.nil_append, List.all_cons, List.all_nil, and_self, and_true, true_and, u34, Nat.lt_add_right_iff_pos, decide_true, h1, h3, i1, i2, i3, i4, eqlB, eqlI, strip_Z, u17, u0m, low_Z, u0a, u0y, Bool.true_and, Bool.false_and]
          | true =>
            simp +contextual -dsimp (disch := omega) only [↓goDown, goUp, cr, simprocAttr, u65, u3f, u5v, u5s, u5u, u4j, u62, u3k, u3l, u3e, u3d, u3g, u66, u67, u4m, u61, u42, u5r, u4p, u7l, len_ne, List.cons_append, List.nil_append, List.all_cons, List.all_nil, and_self, and_true, true_and, u34, Nat.lt_add_right_iff_pos, decide_true, h1, h3, i1, i2, i3, i4, eqlB, eqlI, strip_Z, u17, u0m, low_Z, u0a, u0y, Bool.true_and, Bool.false_and]
theorem pRec {H : Heap} {a b : RG} (ha : a.plain.fit) : run (C u47 [.agg (cs_RG a), .agg (cs_RG b)]) H = some (.ok (.bool (sameR a.plain b.plain)) H) := by
  obtain ⟨⟨y, l⟩, e⟩ := a
  obtain ⟨⟨x, m⟩, d⟩ := b
  have hl : l.length < 2 ^ 62 := by have := ha.1; simpa [RG.plain] using this
  have hf : ∀ t ∈ l, t.plain.fit := fun t ht => ha.2 _ (List.mem_map_of_mem ht)
  have i1 := fun K => ukh (H := K) (f := .fn u38 [] []) (z1 := y) (z2 := x) (s := fun a b => sameS a.plain b.plain) (l := l) (m := m) hl rfl (fun K a b h _ => by rw [u3q]; exact pSub (hf a h))
  rw [u87]
  unfold cs_RG sameR
  simp only [RG.plain]
  rw [← ujf]
  obtain ⟨c1, h1⟩ := u6x (e == d)
  rw [h1]
  cases c1 <;> simp +contextual -dsimp (disch := omega) only [↓goDown, goUp, cr, simprocAttr, h1, i1, eqlB, strip_Z, u17, u0m, low_Z, u0a, u0y, Bool.true_and, Bool.false_and]
end Go.Proofs.YtiiepllnnjjmaaaDoor.Pi.Q
namespace Go.Proofs.YtiiepllnnjjmaaaDoor.Pi.Q
open Go Go.Proofs.YtiiepllnnjjmaaaDoor.Pi
attribute [local congr] ite_congr
theorem neqI {H : Heap} {k : IntKind} {a b : Int} : run (bi .neq .none (.int k a) (.int k b)) H = some (.ok (.bool (a != b)) H) := by
  unfold run
  rw [bi_neq]
  rfl
end Go.Proofs.YtiiepllnnjjmaaaDoor.Pi.Q
namespace Go.Proofs.YtiiepllnnjjmaaaDoor.Pi.Q
open Go Go.Proofs.YtiiepllnnjjmaaaDoor.Pi
attribute [local congr] ite_congr
theorem uiu {H : Heap} : run (C u46 []) H = some (.ok (.agg [.str ⟨#[]⟩, .str ⟨#[105, 51, 50]⟩, .str ⟨#[105, 54, 52]⟩, .str ⟨#[102, 51, 50]⟩, .str ⟨#[102, 54, 52]⟩, .str ⟨#[]⟩, .str ⟨#[105, 56]⟩, .str ⟨#[105, 49, 54]⟩]) H) := by
  rw [u89]
  simp +contextual -dsimp (disch := omega) only [↓goDown, goUp, cr, simprocAttr]
theorem tabN {H : Heap} : run (ixA 8 1 none (.agg [.str ⟨#[]⟩, .str ⟨#[105, 51, 50]⟩, .str ⟨#[105, 54, 52]⟩, .str ⟨#[102, 51, 50]⟩, .str ⟨#[102, 54, 52]⟩, .str ⟨#[]⟩, .str ⟨#[105, 56]⟩, .str ⟨#[105, 49, 54]⟩]) (.int .i64 1)) H = some (.ok (.str ⟨#[105, 51, 50]⟩) H) := by rfl
theorem unu {H : Heap} : run (C u5c [.agg [.int .i64 1, .bool false, .int .i64 0]]) H = some (.ok (.str ⟨#[105, 51, 50]⟩) H) := by
  rw [uc2]
  simp +contextual -dsimp (disch := omega) only [↓goDown, goUp, cr, simprocAttr, uiu, tabN]
theorem u7b {H : Heap} : run (C u21 []) H = some (.ok (.bool true) H) := by
  rw [u5h]
  simp +contextual -dsimp (disch := omega) only [↓goDown, goUp, cr, simprocAttr, unu]
theorem sumLen {α : Type} {m : α → Nat} : ∀ (l : List α), (∀ a ∈ l, 1 ≤ m a) → l.length ≤ sumL m l
  | [], _ => Nat.le_refl _
  | a :: l, h => by
    have h1 := h a (by simp)
    have h2 := sumLen l (fun b hb => h b (by simp [hb]))
    simp only [List.length_cons, sumL]
    omega
theorem sumMem {α : Type} {m : α → Nat} : ∀ (l : List α) (a : α), a ∈ l → m a ≤ sumL m l
  | b :: l, a, h => by
    simp only [sumL]
    rcases List.mem_cons.mp h with rfl | h
    · omega
    · have := sumMem (m := m) l a h
      omega
theorem sgFit {v : SG} (h : ms_SG v ≤ 1048576) : v.plain.fit := by
  have h1 := sumLen (m := fun a => ms_V a) v.comp.ps.l (fun a _ => by unfold ms_V; omega)
  have h2 := sumLen (m := fun a => ms_V a) v.comp.rs.l (fun a _ => by unfold ms_V; omega)
  have h3 := sumLen (m := fun a => ms_F a) v.comp.fs.l (fun a _ => by unfold ms_F; omega)
  have h4 := sumLen (m := fun _ => 1) v.sup.l (fun a _ => Nat.le_refl _)
  unfold ms_SG ms_CG at h
  exact ⟨by show v.sup.l.length < _; omega, by show v.comp.ps.l.length < _; omega, by show v.comp.rs.l.length < _; omega, by show v.comp.fs.l.length < _; omega⟩
theorem rgFit {v : RG} (hm : ms_RG v ≤ 1048576) : v.plain.fit := by
  have h1 := sumLen (m := fun a => ms_SG a) v.types.l (fun a _ => by unfold ms_SG; omega)
  unfold ms_RG at hm
  refine ⟨by simp only [RG.plain, List.length_map]; omega, fun t ht => ?_⟩
  simp only [RG.plain, List.mem_map] at ht
  obtain ⟨s, hs, rfl⟩ := ht
  exact sgFit (by have := sumMem (m := fun a => ms_SG a) _ s hs; omega)
end Go.Proofs.YtiiepllnnjjmaaaDoor.Pi.Q
namespace Go.Proofs.YtiiepllnnjjmaaaDoor.Pi.Q
open Go Go.Proofs.YtiiepllnnjjmaaaDoor.Pi
attribute [local congr] ite_congr
theorem cut_le {K : Heap} {L : List Box} {n : Nat} (h : n ≤ K.length) : hcut (hadd K L) n = hcut K n := List.take_append_of_le_length h
theorem ujb {K : Heap} {j n : Nat} {x : Box} : hcut (hset K j x) n = hset (hcut K n) j x := List.take_set
theorem u2m {K : Heap} {j n : Nat} {x : Box} (h : n ≤ j) : hcut (hset K j x) n = hcut K n := by
  rw [ujb]
  exact List.set_eq_of_length_le (by unfold hcut; simp; omega)
theorem u4e {K : Heap} {i j : Nat} {x y : Box} (h : i < j) : hset (hset K j x) i y = hset (hset K i y) j x := List.set_comm _ _ (by omega)
theorem u25 {K : Heap} {i j : Nat} {x : Box} (h : i < j) : hget (hset K i x) j = hget K j := ub8 (by omega)
theorem u1a {K : Heap} {i j : Nat} {x : Box} (h : j < i) : hget (hset K i x) j = hget K j := ub8 (by omega)
theorem u52 {K : Heap} {i j : Nat} {x y : Box} (h : j < K.length) : hget (hset (hset K i y) j x) j = some x := u3h (by rw [u0s]; exact h)
theorem q1 {K : Heap} {i : Nat} {x : Box} {L : List Box} (h : i < K.length) : hget (hadd (hset K i x) L) i = some x := by rw [u6d h, u3h h]
theorem q2 {K : Heap} {i j : Nat} {x : Box} {L : List Box} (h : j < K.length) (h2 : i < j) : hget (hadd (hset K i x) L) j = hget K j := by rw [u6d h, u25 h2]
theorem q3 {K : Heap} {i j : Nat} {x y : Box} {L : List Box} (h : j < K.length) : hget (hadd (hset (hset K i y) j x) L) j = some x := by rw [u2i (by rw [u0s, u0s]; exact h), u52 h]
theorem q4 {K : Heap} {i j : Nat} {x : Box} {L : List Box} (h : j < K.length) (h2 : j < i) : hget (hadd (hset K i x) L) j = hget K j := by rw [u6d h, u1a h2]
theorem u4q {K : Heap} {i j : Nat} {x y : Box} {L : List Box} : hget (hadd (hset (hset K i x) j y) L) K.length = nth L 0 := by
  have := u3p (H := hset (hset K i x) j y) (L := L)
  rwa [u0s, u0s] at this
theorem r2 {K : Heap} {i j : Nat} {x y : Box} {L : List Box} (h : j < K.length) (h2 : i < j) : hset (hadd (hset K i y) L) j x = hadd (hset (hset K i y) j x) L := u68 h
theorem r3 {K : Heap} {j : Nat} {x y : Box} {L : List Box} (h : j < K.length) : hset (hadd (hset K j y) L) j x = hadd (hset K j x) L := by rw [u68 h, set_set]
theorem r4 {K : Heap} {i j : Nat} {x y w : Box} {L : List Box} (h : j < K.length) : hset (hadd (hset (hset K i y) j w) L) j x = hadd (hset (hset K i y) j x) L := by rw [u9c (by rw [u0s, u0s]; exact h), set_set]
theorem r6 {K : Heap} {i j : Nat} {x y : Box} {L : List Box} (h : i < K.length) (h2 : i < j) : hset (hadd (hset K j x) L) i y = hadd (hset (hset K i y) j x) L := by rw [u68 h, u4e h2]
theorem u3t {sz : Nat} {l : List PV} : shutP sz l = LZ true sz l := by cases l <;> rfl
variable {σ : Type} {bx : σ → Box} {t : σ → Int → σ} {g : Int → Int} {I : σ → Nat → Prop} {f : PV} {c : Nat} {A H : Heap}
structure Turn (c : Nat) (A : Heap) (f : PV) (bx : σ → Box) (t : σ → Int → σ) (g : Int → Int) (I : σ → Nat → Prop) : Prop where
  call : ∀ (K : Heap) (s : σ) (a : Int) (n : Nat), hcut K c = A → hget K c = some (bx s) → I s (n + 1) → run (callV P C f [.int .i64 a]) K = some (.ok (.int .i64 (g a)) (hset K c (bx (t s a))))
  step : ∀ (s : σ) (a : Int) (n : Nat), I s (n + 1) → I (t s a) n
  mono : ∀ (s : σ) (n : Nat), I s (n + 1) → I s n
  st : strip f = f
  sc : stripC f = f
  cl : isCell f = true
  cs : f.cells = [f]
  tup : isTup f = false
  low : ∀ n, c < n → f.low n = true
def gv (g : Int → Int) (v : VT) : VT := if v.num = 5 then ⟨v.num, v.nul, g v.heap⟩ else v
def tv (t : σ → Int → σ) (s : σ) (v : VT) : σ := if v.num = 5 then t s v.heap else s
def gf (g : Int → Int) (v : FT) : FT := ⟨gv g v.ty, v.mu⟩
def tf (t : σ → Int → σ) (s : σ) (v : FT) : σ := tv t s v.ty
theorem Turn.stepV (hT : Turn c A f bx t g I) {s : σ} {v : VT} {n : Nat} (h : I s (n + 1)) : I (tv t s v) n := by
  unfold tv
  split
  · exact hT.step _ _ _ h
  · exact hT.mono _ _ h
theorem unh (hT : Turn c A f bx t g I) {K : Heap} {i : Nat} {s : σ} {v : VT} {n : Nat} (hA : hcut K c = A) (hs : hget K c = some (bx s)) (hi : hget K i = some (.cells [f])) (hI : I s (n + 1)) :
    run (C u02 [.agg [.int .i64 v.num, .bool v.nul, .int .i64 v.heap], .ptr i 0]) K = some (.ok (.agg [.int .i64 (gv g v).num, .bool (gv g v).nul, .int .i64 (gv g v).heap]) (hset K c (bx (tv t s v)))) := by
  have hid := get_lt hs
  have hil := get_lt hi
  have hgi : ∀ L, hget (hadd K L) i = some (.cells [f]) := fun L => by rw [u2i hil]; exact hi
  have hc1 : ∀ x y, run (callV P C f [.int .i64 v.heap]) (hadd K [x, y]) = some (.ok (.int .i64 (g v.heap)) (hset (hadd K [x, y]) c (bx (t s v.heap)))) := fun x y => hT.call _ s _ n (by rw [cut_le (by omega)]; exact hA) (by rw [u2i hid]; exact hs) hI
  rw [u7f]
  unfold gv tv
  by_cases h5 : v.num = 5
  · rw [if_pos h5, if_pos h5]
    simp +contextual -dsimp (disch := omega) only [↓goDown, goUp, cr, simprocAttr, eq_true h5, hgi, hc1, hT.st, hT.sc, hT.cl, hT.cs, hT.tup, u2f, u2h, u3b]
  · rw [if_neg h5, if_neg h5, u71 hs]
    simp +contextual -dsimp (disch := omega) only [↓goDown, goUp, cr, simprocAttr, eq_false h5, u2f, u2h, u3b]
structure Wd (H : Heap) (c : Nat) (b arg : Box) (f : PV) (o : Box) (K : Heap) : Prop where
  len : H.length + 4 ≤ K.length
  cut : hcut K H.length = hset H c b
  ar : hget K H.length = some arg
  fn : hget K (H.length + 1) = some (.cells [f])
  re : ∃ l, hget K (H.length + 2) = some (.cells l) ∧ l.length = 6
  ou : hget K (H.length + 3) = some o
theorem Wd.old {b arg o : Box} {K : Heap} (w : Wd H c b arg f o K) (hc : c < H.length) (hA : hcut H c = A) : hcut K c = A := by
  have h := w.cut
  have : hcut (hcut K H.length) c = hcut K c := by unfold hcut; rw [List.take_take, Nat.min_eq_left (by omega)]
  rw [← this, h, u2m (Nat.le_refl _), hA]
theorem Wd.get {b arg o : Box} {K : Heap} (w : Wd H c b arg f o K) (hc : c < H.length) : hget K c = some b := by
  have h := congrArg (fun K => hget K c) w.cut
  simp only [u3h hc] at h
  unfold hget hcut at h
  rwa [List.getElem?_take_of_lt hc] at h
theorem Wd.next {b b' arg o o' : Box} {K : Heap} {L : List Box} (w : Wd H c b arg f o K) (hc : c < H.length) : Wd H c b' arg f o' (hadd (hset (hset K c b') (H.length + 3) o') L) := by
  have hl := w.len
  refine ⟨by rw [u2z, u0s, u0s]; omega, ?_, ?_, ?_, ?_, ?_⟩
  · rw [cut_le (by rw [u0s, u0s]; omega), u2m (by omega), ujb, w.cut, set_set]
  · rw [u2i (by rw [u0s, u0s]; omega), u1a (by omega), u25 (by omega), w.ar]
  · rw [u2i (by rw [u0s, u0s]; omega), u1a (by omega), u25 (by omega), w.fn]
  · obtain ⟨l, h1, h2⟩ := w.re
    exact ⟨l, by rw [u2i (by rw [u0s, u0s]; omega), u1a (by omega), u25 (by omega), h1], h2⟩
  · rw [q3 (by omega)]
theorem Wd.same {b arg o : Box} {K : Heap} (w : Wd H c b arg f o K) (hc : c < H.length) {x : Box} : Wd H c b arg f x (hset K (H.length + 3) x) := by
  have hl := w.len
  refine ⟨by rw [u0s]; omega, ?_, ?_, ?_, ?_, ?_⟩
  · rw [u2m (by omega), w.cut]
  · rw [u1a (by omega), w.ar]
  · rw [u1a (by omega), w.fn]
  · obtain ⟨l, h1, h2⟩ := w.re
    exact ⟨l, by rw [u1a (by omega), h1], h2⟩
  · rw [u3h (by omega)]
theorem Wd.more {b arg o : Box} {K : Heap} (w : Wd H c b arg f o K) {L : List Box} : Wd H c b arg f o (hadd K L) := by
  have hl := w.len
  refine ⟨by rw [u2z]; omega, ?_, ?_, ?_, ?_, ?_⟩
  · rw [cut_le (by omega), w.cut]
  · rw [u2i (by omega), w.ar]
  · rw [u2i (by omega), w.fn]
  · obtain ⟨l, h1, h2⟩ := w.re
    exact ⟨l, by rw [u2i (by omega), h1], h2⟩
  · rw [u2i (by omega), w.ou]
theorem ucz (hT : Turn c A f bx t g I) (hc : c < H.length) (hA : hcut H c = A) {arg o : Box} {s : σ} {K : Heap} {n : Nat} {a : Int} (w : Wd H c (bx s) arg f o K) (hI : I s (n + 1)) : run (callV P C f [.int .i64 a]) K = some (.ok (.int .i64 (g a)) (hset K c (bx (t s a)))) :=
  hT.call K s a n (w.old hc hA) (w.get hc) hI
theorem u6b (hT : Turn c A f bx t g I) (hc : c < H.length) (hA : hcut H c = A) {arg o : Box} {s : σ} {K : Heap} {n : Nat} {v : VT} (w : Wd H c (bx s) arg f o K) (hI : I s (n + 1)) : run (C u02 [.agg [.int .i64 v.num, .bool v.nul, .int .i64 v.heap], .ptr (H.length + 1) 0]) K = some (.ok (.agg [.int .i64 (gv g v).num, .bool (gv g v).nul, .int .i64 (gv g v).heap]) (hset K c (bx (tv t s v)))) :=
  unh hT (w.old hc hA) (w.get hc) w.fn hI
theorem ap_VG {l : List VT} {K : Heap} {v : VT} (hl : l.length < 2000000) : run (ap true 3 24 (accP 3 (l.map encV)) (.slice true false 3 [.agg [.int .i64 v.num, .bool v.nul, .int .i64 v.heap]])) K = some (.ok (accP 3 ((l ++ [v]).map encV)) K) := by
  have := ap_acc (H := K) (sz := 3) (b := 24) (l := l.map encV) (v := encV v) (o := true) (by rw [List.length_map]; show (l.length + 1) * 24 ≤ _; omega)
  rw [List.map_append]
  exact this
theorem bsR_VG {v : VT} {K : Heap} : bsR true (some 3) [.agg [.int .i64 v.num, .bool v.nul, .int .i64 v.heap]] K = some (.ok (.slice true false 3 [.agg [.int .i64 v.num, .bool v.nul, .int .i64 v.heap]]) K) := nrfl rfl
theorem ap_FG {l : List FT} {K : Heap} {v : VT} {m : Bool} (hl : l.length < 2000000) : run (ap true 4 32 (accP 4 (l.map encF)) (.slice true false 4 [.agg [.int .i64 v.num, .bool v.nul, .int .i64 v.heap, .bool m]])) K = some (.ok (accP 4 ((l ++ [(⟨v, m⟩ : FT)]).map encF)) K) := by
  have := ap_acc (H := K) (sz := 4) (b := 32) (l := l.map encF) (v := encF ⟨v, m⟩) (o := true) (by rw [List.length_map]; show (l.length + 1) * 32 ≤ _; omega)
  rw [List.map_append]
  exact this
theorem bsR_FG {v : VT} {m : Bool} {K : Heap} : bsR true (some 4) [.agg [.int .i64 v.num, .bool v.nul, .int .i64 v.heap, .bool m]] K = some (.ok (.slice true false 4 [.agg [.int .i64 v.num, .bool v.nul, .int .i64 v.heap, .bool m]]) K) := nrfl rfl
theorem ap_IG {acc : List Int} {v : Int} {K : Heap} (h : acc.length < 2000000) : run (ap true 1 8 (accP 1 (acc.map encI)) (.slice true false 1 [.int .i64 v])) K = some (.ok (accP 1 ((acc ++ [v]).map encI)) K) := by
  have := ap_acc (H := K) (sz := 1) (b := 8) (l := acc.map encI) (v := encI v) (o := true) (by simp; omega)
  rw [this]
  simp
theorem bsR_IG {v : Int} {K : Heap} : bsR true none [.int .i64 v] K = some (.ok (.slice true false 1 [.int .i64 v]) K) := nrfl rfl
theorem turn1 (hT : Turn c A f bx t g I) (hc : c < H.length) (hA : hcut H c = A) {z : Bool} {l : List Int} (hl : l.length < 2000000) {arg : Box} {v2 v4 v5 e0 e1 e2 e3 e4 : PV} : ∀ (m j : Nat) (K : Heap) (s : σ) (acc : List Int) (n : Nat), j + m = l.length → acc.length + m ≤ 2000000 → I s (m + n) →
    Wd H c (bx s) arg f (.cells [e0, accP 1 (acc.map encI), e1, e2, e3, e4]) K →
    ∃ K', Wd H c (bx ((l.drop j).foldl ( t) s)) arg f (.cells [e0, accP 1 ((acc ++ (l.drop j).map ( g)).map encI), e1, e2, e3, e4]) K' ∧ I ((l.drop j).foldl ( t) s) n ∧
      run (u11 (v2) (.ptr (H.length + 1) 0) v4 v5 (.ptr (H.length + 3) 0) (LZ z 1 (l.map encI)) (.int .i64 l.length) (.int .i64 j)) K = run (u11 (v2) (.ptr (H.length + 1) 0) v4 v5 (.ptr (H.length + 3) 0) (LZ z 1 (l.map encI)) (.int .i64 l.length) (.int .i64 l.length)) K'
  | 0, j, K, s, acc, n, hj, hb, hI, w => by
    have hj : j = l.length := by omega
    subst hj
    rw [List.drop_length]
    refine ⟨K, ?_, ?_, rfl⟩
    · simpa using w
    · simpa using hI
  | m + 1, j, K, s, acc, n, hj, hb, hI, w => by
    have hi : j < l.length := by omega
    have hd : l.drop j = l[j] :: l.drop (j + 1) := List.drop_eq_getElem_cons hi
    have hI1 : I s ((m + n) + 1) := by rwa [Nat.add_right_comm] at hI
    have hI2 : I ( t s l[j]) (m + n) := hT.step _ _ _ hI1
    have w2 := w.next (b' := bx ( t s l[j])) (o' := .cells [e0, accP 1 ((acc ++ [ g l[j]]).map encI), e1, e2, e3, e4]) (L := []) hc
    obtain ⟨K', w3, hI3, hr⟩ := turn1 hT hc hA hl m (j + 1) _ _ (acc ++ [ g l[j]]) n (by omega) (by simp; omega) hI2 w2
    refine ⟨K', ?_, ?_, ?_⟩
    · rw [hd]
      rw [List.foldl_cons, List.map_cons, List.append_cons]
      exact w3
    · rw [hd]
      exact hI3
    · rw [← hr, u31]
      have hlen := w.len
      have ho := w.ou
      have hf := w.fn
      have hso : ∀ (K : Heap) x y, hset (hset K (H.length + 3) x) c y = hset (hset K c y) (H.length + 3) x := fun K x y => u4e (by omega)
      have c1 : ((j : Int) < l.length) = True := eq_true (by omega)
      have hga : (l.map encI)[j]? = some (encI l[j]) := by simp [hi]
      have hia : ∀ K, run (iaS 1 (LZ z 1 (l.map encI)) (.int .i64 j)) K = some (.ok (.elem [.int .i64 l[j]]) K) := fun K => ia_Z hga
      have h1 : run (callV P C f [.int .i64 l[j]]) K = some (.ok (.int .i64 (g l[j])) (hset K c (bx (t s l[j])))) := ucz hT hc hA w hI1
      have h2 : ∀ x, run (callV P C f [.int .i64 l[j]]) (hset K (H.length + 3) x) = some (.ok (.int .i64 (g l[j])) (hset (hset K (H.length + 3) x) c (bx (t s l[j])))) := fun x => ucz hT hc hA (w.same hc) hI1
      simp +contextual -dsimp (disch := omega) only [↓goDown, goUp, cr, simprocAttr, c1, hia, ho, hf, h1, h2, hT.st, hT.sc, hT.cl, hT.cs, hT.tup, hso, u25, u1a, u52, q1, q2, q3, q4, r2, r3, r4, r6, u2f, u4q, u2h, u2l, u22, u3j, u23, u15, u24, u4t, u3x, low_P, u3y, u4y, u50, bsR_IG, ap_IG, ns]
      rw [show ∀ K : Heap, hadd K [] = K from fun K => List.append_nil K]
      all_goals rfl
theorem turn2 (hT : Turn c A f bx t g I) (hc : c < H.length) (hA : hcut H c = A) {z : Bool} {l : List VT} (hl : l.length < 2000000) {arg : Box} {v2 v4 e0 e1 e2 e3 e4 : PV} : ∀ (m j : Nat) (K : Heap) (s : σ) (acc : List VT) (n : Nat), j + m = l.length → acc.length + m ≤ 2000000 → I s (m + n) →
    Wd H c (bx s) arg f (.cells [e0, e1, e2, accP 3 (acc.map encV), e3, e4]) K →
    ∃ K', Wd H c (bx ((l.drop j).foldl (tv t) s)) arg f (.cells [e0, e1, e2, accP 3 ((acc ++ (l.drop j).map (gv g)).map encV), e3, e4]) K' ∧ I ((l.drop j).foldl (tv t) s) n ∧
      run (u0k v2 v4 (.fn u02 [] [.ptr (H.length + 1) 0]) (.ptr (H.length + 3) 0) (LZ z 3 (l.map encV)) (.int .i64 l.length) (.int .i64 j)) K = run (u0k v2 v4 (.fn u02 [] [.ptr (H.length + 1) 0]) (.ptr (H.length + 3) 0) (LZ z 3 (l.map encV)) (.int .i64 l.length) (.int .i64 l.length)) K'
  | 0, j, K, s, acc, n, hj, hb, hI, w => by
    have hj : j = l.length := by omega
    subst hj
    rw [List.drop_length]
    refine ⟨K, ?_, ?_, rfl⟩
    · simpa using w
    · simpa using hI
  | m + 1, j, K, s, acc, n, hj, hb, hI, w => by
    have hi : j < l.length := by omega
    have hd : l.drop j = l[j] :: l.drop (j + 1) := List.drop_eq_getElem_cons hi
    have hI1 : I s ((m + n) + 1) := by rwa [Nat.add_right_comm] at hI
    have hI2 : I (tv t s l[j]) (m + n) := hT.stepV hI1
    have w2 := w.next (b' := bx (tv t s l[j])) (o' := .cells [e0, e1, e2, accP 3 ((acc ++ [gv g l[j]]).map encV), e3, e4]) (L := [.cells [.int .i64 l[j].num, .bool l[j].nul, .int .i64 l[j].heap]]) hc
    obtain ⟨K', w3, hI3, hr⟩ := turn2 hT hc hA hl m (j + 1) _ _ (acc ++ [gv g l[j]]) n (by omega) (by simp; omega) hI2 w2
    refine ⟨K', ?_, ?_, ?_⟩
    · rw [hd]
      rw [List.foldl_cons, List.map_cons, List.append_cons]
      exact w3
    · rw [hd]
      exact hI3
    · rw [← hr, u2t]
      have hlen := w.len
      have ho := w.ou
      have hf := w.fn
      have hso : ∀ (K : Heap) x y, hset (hset K (H.length + 3) x) c y = hset (hset K c y) (H.length + 3) x := fun K x y => u4e (by omega)
      have c1 : ((j : Int) < l.length) = True := eq_true (by omega)
      have hga : (l.map encV)[j]? = some (encV l[j]) := by simp [hi]
      have hia : ∀ K, run (iaS 3 (LZ z 3 (l.map encV)) (.int .i64 j)) K = some (.ok (.elem [.int .i64 l[j].num, .bool l[j].nul, .int .i64 l[j].heap]) K) := fun K => ia_Z hga
      have h1 : ∀ X, run (C u02 [.agg [.int .i64 l[j].num, .bool l[j].nul, .int .i64 l[j].heap], .ptr (H.length + 1) 0]) (hadd K X) = some (.ok (.agg [.int .i64 (gv g l[j]).num, .bool (gv g l[j]).nul, .int .i64 (gv g l[j]).heap]) (hset (hadd K X) c (bx (tv t s l[j])))) := fun X => u6b hT hc hA w.more hI1
      have h2 : ∀ x X, run (C u02 [.agg [.int .i64 l[j].num, .bool l[j].nul, .int .i64 l[j].heap], .ptr (H.length + 1) 0]) (hadd (hset K (H.length + 3) x) X) = some (.ok (.agg [.int .i64 (gv g l[j]).num, .bool (gv g l[j]).nul, .int .i64 (gv g l[j]).heap]) (hset (hadd (hset K (H.length + 3) x) X) c (bx (tv t s l[j])))) := fun x X => u6b hT hc hA (w.same hc).more hI1
      simp +contextual -dsimp (disch := omega) only [↓goDown, goUp, cr, simprocAttr, c1, hia, ho, hf, h1, h2, hT.st, hT.sc, hT.cl, hT.cs, hT.tup, hso, u25, u1a, u52, q1, q2, q3, q4, r2, r3, r4, r6, u2f, u4q, u2h, u2l, u22, u3j, u23, u15, u24, u4t, u3x, low_P, u3y, u4y, u50, bsR_VG, ap_VG, ns]
      all_goals rfl
theorem turn3 (hT : Turn c A f bx t g I) (hc : c < H.length) (hA : hcut H c = A) {z : Bool} {l : List VT} (hl : l.length < 2000000) {arg : Box} {v2 v4 e0 e1 e2 e3 e4 : PV} : ∀ (m j : Nat) (K : Heap) (s : σ) (acc : List VT) (n : Nat), j + m = l.length → acc.length + m ≤ 2000000 → I s (m + n) →
    Wd H c (bx s) arg f (.cells [e0, e1, e2, e3, accP 3 (acc.map encV), e4]) K →
    ∃ K', Wd H c (bx ((l.drop j).foldl (tv t) s)) arg f (.cells [e0, e1, e2, e3, accP 3 ((acc ++ (l.drop j).map (gv g)).map encV), e4]) K' ∧ I ((l.drop j).foldl (tv t) s) n ∧
      run (u0h v2 v4 (.fn u02 [] [.ptr (H.length + 1) 0]) (.ptr (H.length + 3) 0) (LZ z 3 (l.map encV)) (.int .i64 l.length) (.int .i64 j)) K = run (u0h v2 v4 (.fn u02 [] [.ptr (H.length + 1) 0]) (.ptr (H.length + 3) 0) (LZ z 3 (l.map encV)) (.int .i64 l.length) (.int .i64 l.length)) K'
  | 0, j, K, s, acc, n, hj, hb, hI, w => by
    have hj : j = l.length := by omega
    subst hj
    rw [List.drop_length]
    refine ⟨K, ?_, ?_, rfl⟩
    · simpa using w
    · simpa using hI
  | m + 1, j, K, s, acc, n, hj, hb, hI, w => by
    have hi : j < l.length := by omega
    have hd : l.drop j = l[j] :: l.drop (j + 1) := List.drop_eq_getElem_cons hi
    have hI1 : I s ((m + n) + 1) := by rwa [Nat.add_right_comm] at hI
    have hI2 : I (tv t s l[j]) (m + n) := hT.stepV hI1
    have w2 := w.next (b' := bx (tv t s l[j])) (o' := .cells [e0, e1, e2, e3, accP 3 ((acc ++ [gv g l[j]]).map encV), e4]) (L := [.cells [.int .i64 l[j].num, .bool l[j].nul, .int .i64 l[j].heap]]) hc
    obtain ⟨K', w3, hI3, hr⟩ := turn3 hT hc hA hl m (j + 1) _ _ (acc ++ [gv g l[j]]) n (by omega) (by simp; omega) hI2 w2
    refine ⟨K', ?_, ?_, ?_⟩
    · rw [hd]
      rw [List.foldl_cons, List.map_cons, List.append_cons]
      exact w3
    · rw [hd]
      exact hI3
    · rw [← hr, u2p]
      have hlen := w.len
      have ho := w.ou
      have hf := w.fn
      have hso : ∀ (K : Heap) x y, hset (hset K (H.length + 3) x) c y = hset (hset K c y) (H.length + 3) x := fun K x y => u4e (by omega)
      have c1 : ((j : Int) < l.length) = True := eq_true (by omega)
      have hga : (l.map encV)[j]? = some (encV l[j]) := by simp [hi]
      have hia : ∀ K, run (iaS 3 (LZ z 3 (l.map encV)) (.int .i64 j)) K = some (.ok (.elem [.int .i64 l[j].num, .bool l[j].nul, .int .i64 l[j].heap]) K) := fun K => ia_Z hga
      have h1 : ∀ X, run (C u02 [.agg [.int .i64 l[j].num, .bool l[j].nul, .int .i64 l[j].heap], .ptr (H.length + 1) 0]) (hadd K X) = some (.ok (.agg [.int .i64 (gv g l[j]).num, .bool (gv g l[j]).nul, .int .i64 (gv g l[j]).heap]) (hset (hadd K X) c (bx (tv t s l[j])))) := fun X => u6b hT hc hA w.more hI1
      have h2 : ∀ x X, run (C u02 [.agg [.int .i64 l[j].num, .bool l[j].nul, .int .i64 l[j].heap], .ptr (H.length + 1) 0]) (hadd (hset K (H.length + 3) x) X) = some (.ok (.agg [.int .i64 (gv g l[j]).num, .bool (gv g l[j]).nul, .int .i64 (gv g l[j]).heap]) (hset (hadd (hset K (H.length + 3) x) X) c (bx (tv t s l[j])))) := fun x X => u6b hT hc hA (w.same hc).more hI1
      simp +contextual -dsimp (disch := omega) only [↓goDown, goUp, cr, simprocAttr, c1, hia, ho, hf, h1, h2, hT.st, hT.sc, hT.cl, hT.cs, hT.tup, hso, u25, u1a, u52, q1, q2, q3, q4, r2, r3, r4, r6, u2f, u4q, u2h, u2l, u22, u3j, u23, u15, u24, u4t, u3x, low_P, u3y, u4y, u50, bsR_VG, ap_VG, ns]
      all_goals rfl
theorem turn4 (hT : Turn c A f bx t g I) (hc : c < H.length) (hA : hcut H c = A) {z : Bool} {l : List FT} (hl : l.length < 2000000) {arg : Box} {v4 e0 e1 e2 e3 e4 : PV} : ∀ (m j : Nat) (K : Heap) (s : σ) (acc : List FT) (n : Nat), j + m = l.length → acc.length + m ≤ 2000000 → I s (m + n) →
    Wd H c (bx s) arg f (.cells [e0, e1, e2, e3, e4, accP 4 (acc.map encF)]) K →
    ∃ K', Wd H c (bx ((l.drop j).foldl (tf t) s)) arg f (.cells [e0, e1, e2, e3, e4, accP 4 ((acc ++ (l.drop j).map (gf g)).map encF)]) K' ∧ I ((l.drop j).foldl (tf t) s) n ∧
      run (u0f v4 (.fn u02 [] [.ptr (H.length + 1) 0]) (.ptr (H.length + 3) 0) (LZ z 4 (l.map encF)) (.int .i64 l.length) (.int .i64 j)) K = run (u0f v4 (.fn u02 [] [.ptr (H.length + 1) 0]) (.ptr (H.length + 3) 0) (LZ z 4 (l.map encF)) (.int .i64 l.length) (.int .i64 l.length)) K'
  | 0, j, K, s, acc, n, hj, hb, hI, w => by
    have hj : j = l.length := by omega
    subst hj
    rw [List.drop_length]
    refine ⟨K, ?_, ?_, rfl⟩
    · simpa using w
    · simpa using hI
  | m + 1, j, K, s, acc, n, hj, hb, hI, w => by
    have hi : j < l.length := by omega
    have hd : l.drop j = l[j] :: l.drop (j + 1) := List.drop_eq_getElem_cons hi
    have hI1 : I s ((m + n) + 1) := by rwa [Nat.add_right_comm] at hI
    have hI2 : I (tf t s l[j]) (m + n) := hT.stepV hI1
    have w2 := w.next (b' := bx (tf t s l[j])) (o' := .cells [e0, e1, e2, e3, e4, accP 4 ((acc ++ [gf g l[j]]).map encF)]) (L := [.cells [.int .i64 l[j].ty.num, .bool l[j].ty.nul, .int .i64 l[j].ty.heap, .bool l[j].mu]]) hc
    obtain ⟨K', w3, hI3, hr⟩ := turn4 hT hc hA hl m (j + 1) _ _ (acc ++ [gf g l[j]]) n (by omega) (by simp; omega) hI2 w2
    refine ⟨K', ?_, ?_, ?_⟩
    · rw [hd]
      rw [List.foldl_cons, List.map_cons, List.append_cons]
      exact w3
    · rw [hd]
      exact hI3
    · rw [← hr, u2g]
      have hlen := w.len
      have ho := w.ou
      have hf := w.fn
      have hso : ∀ (K : Heap) x y, hset (hset K (H.length + 3) x) c y = hset (hset K c y) (H.length + 3) x := fun K x y => u4e (by omega)
      have c1 : ((j : Int) < l.length) = True := eq_true (by omega)
      have hga : (l.map encF)[j]? = some (encF l[j]) := by simp [hi]
      have hia : ∀ K, run (iaS 4 (LZ z 4 (l.map encF)) (.int .i64 j)) K = some (.ok (.elem [.int .i64 l[j].ty.num, .bool l[j].ty.nul, .int .i64 l[j].ty.heap, .bool l[j].mu]) K) := fun K => ia_Z hga
      have h1 : ∀ X, run (C u02 [.agg [.int .i64 l[j].ty.num, .bool l[j].ty.nul, .int .i64 l[j].ty.heap], .ptr (H.length + 1) 0]) (hadd K X) = some (.ok (.agg [.int .i64 (gv g l[j].ty).num, .bool (gv g l[j].ty).nul, .int .i64 (gv g l[j].ty).heap]) (hset (hadd K X) c (bx (tv t s l[j].ty)))) := fun X => u6b hT hc hA w.more hI1
      have h2 : ∀ x X, run (C u02 [.agg [.int .i64 l[j].ty.num, .bool l[j].ty.nul, .int .i64 l[j].ty.heap], .ptr (H.length + 1) 0]) (hadd (hset K (H.length + 3) x) X) = some (.ok (.agg [.int .i64 (gv g l[j].ty).num, .bool (gv g l[j].ty).nul, .int .i64 (gv g l[j].ty).heap]) (hset (hadd (hset K (H.length + 3) x) X) c (bx (tv t s l[j].ty)))) := fun x X => u6b hT hc hA (w.same hc).more hI1
      simp +contextual -dsimp (disch := omega) only [↓goDown, goUp, cr, simprocAttr, c1, hia, ho, hf, h1, h2, hT.st, hT.sc, hT.cl, hT.cs, hT.tup, hso, u25, u1a, u52, q1, q2, q3, q4, r2, r3, r4, r6, u2f, u4q, u2h, u2l, u22, u3j, u23, u15, u24, u4t, u3x, low_P, u3y, u4y, u50, bsR_FG, ap_FG, ns]
      all_goals rfl
end Go.Proofs.YtiiepllnnjjmaaaDoor.Pi.Q
namespace Go.Proofs.YtiiepllnnjjmaaaDoor.Pi.Q
open Go Go.Proofs.YtiiepllnnjjmaaaDoor.Pi
attribute [local congr] ite_congr
variable {σ : Type} {bx : σ → Box} {t : σ → Int → σ} {g : Int → Int} {I : σ → Nat → Prop} {f : PV} {c : Nat} {A H : Heap}
def tS (t : σ → Int → σ) (s : σ) (v : SG) : σ := v.comp.fs.l.foldl (tf t) (v.comp.rs.l.foldl (tv t) (v.comp.ps.l.foldl (tv t) (v.sup.l.foldl t s)))
def gS (g : Int → Int) (v : SG) : SG := ⟨v.fin, ⟨true, v.sup.l.map g⟩, ⟨v.comp.kind, ⟨true, v.comp.ps.l.map (gv g)⟩, ⟨true, v.comp.rs.l.map (gv g)⟩, ⟨true, v.comp.fs.l.map (gf g)⟩⟩⟩
def nS (v : SG) : Nat := v.sup.l.length + (v.comp.ps.l.length + (v.comp.rs.l.length + v.comp.fs.l.length))
theorem ua1 (hT : Turn c A f bx t g I) (hc : c < H.length) (hA : hcut H c = A) {s : σ} {n : Nat} {v : SG} (hs : hget H c = some (bx s)) (hm : nS v < 2000000) (hI : I s (nS v + n)) :
    run (C u01 [.agg (cs_SG v), f]) H = some (.ok (.agg (cs_SG (gS g v))) (hset H c (bx (tS t s v)))) ∧ I (tS t s v) n := by
  obtain ⟨fin, ⟨y1, sup⟩, ⟨kind, ⟨y2, ps⟩, ⟨y3, rs⟩, ⟨y4, fs⟩⟩⟩ := v
  unfold nS at hm hI
  simp only at hm hI
  unfold cs_SG gS tS
  simp only
  have hlow := hT.low
  have hst := hT.st
  have hself := u71 hs
  have e0 : ∀ sz, (.slice false true 0 [] : PV) = accP sz [] := fun sz => rfl
  have w0 : Wd H c (bx s) (.cells [.bool fin, LZ y1 1 (sup.map encI), .int .i64 kind, LZ y2 3 (ps.map encV), LZ y3 3 (rs.map encV), LZ y4 4 (fs.map encF)]) f (.cells [.bool fin, accP 1 (([] : List Int).map encI), .int .i64 kind, .slice false true 0 [], .slice false true 0 [], .slice false true 0 []])
      (hadd H [.cells [.bool fin, LZ y1 1 (sup.map encI), .int .i64 kind, LZ y2 3 (ps.map encV), LZ y3 3 (rs.map encV), LZ y4 4 (fs.map encF)], .cells [f], .cells [.bool false, .slice false true 0 [], .int .i64 0, .slice false true 0 [], .slice false true 0 [], .slice false true 0 []], .cells [.bool fin, .slice false true 0 [], .int .i64 kind, .slice false true 0 [], .slice false true 0 [], .slice false true 0 []]]) := by
    refine ⟨?_, ?_, u3p, u2q 1, ⟨_, u2q 2, rfl⟩, u2q 3⟩
    · rw [u2z]; exact Nat.le_refl _
    · rw [cutA0, hself]
  obtain ⟨K1, w1, i1, h1⟩ := turn1 (z := y1) (l := sup) (v2 := .ptr H.length 0) (v4 := .ptr (H.length + 2) 0) (v5 := .fn u02 [] [.ptr (H.length + 1) 0]) hT hc hA (by omega) sup.length 0 _ s [] (ps.length + (rs.length + fs.length) + n) (Nat.zero_add _) (by simp; omega) (by rw [← Nat.add_assoc]; exact hI) w0
  simp only [List.drop_zero, List.nil_append] at w1 i1
  obtain ⟨K2, w2, i2, h2⟩ := turn2 (z := y2) (l := ps) (v2 := .ptr H.length 0) (v4 := .ptr (H.length + 2) 0) hT hc hA (by omega) ps.length 0 K1 _ [] (rs.length + fs.length + n) (Nat.zero_add _) (by simp; omega) (by rw [show ps.length + (rs.length + fs.length + n) = ps.length + (rs.length + fs.length) + n by omega]; exact i1) w1
  simp only [List.drop_zero, List.nil_append] at w2 i2
  obtain ⟨K3, w3, i3, h3⟩ := turn3 (z := y3) (l := rs) (v2 := .ptr H.length 0) (v4 := .ptr (H.length + 2) 0) hT hc hA (by omega) rs.length 0 K2 _ [] (fs.length + n) (Nat.zero_add _) (by simp; omega) (by rw [show rs.length + (fs.length + n) = rs.length + fs.length + n by omega]; exact i2) w2
  simp only [List.drop_zero, List.nil_append] at w3 i3
  obtain ⟨K4, w4, i4, h4⟩ := turn4 (z := y4) (l := fs) (v4 := .ptr (H.length + 2) 0) hT hc hA (by omega) fs.length 0 K3 _ [] n (Nat.zero_add _) (by simp; omega) i3 w3
  simp only [List.drop_zero, List.nil_append] at w4 i4
  simp only [show ((0 : Nat) : Int) = 0 from rfl] at h1 h2 h3 h4
  have x1 := w1.ar
  have x2 := w2.ar
  have x3 := w3.ar
  have s1 : run (u11 (.ptr H.length 0) (.ptr (H.length + 1) 0) (.ptr (H.length + 2) 0) (.fn u02 [] [.ptr (H.length + 1) 0]) (.ptr (H.length + 3) 0) (LZ y1 1 (sup.map encI)) (.int .i64 sup.length) (.int .i64 sup.length)) K1 = run (u0k (.ptr H.length 0) (.ptr (H.length + 2) 0) (.fn u02 [] [.ptr (H.length + 1) 0]) (.ptr (H.length + 3) 0) (LZ y2 3 (ps.map encV)) (.int .i64 ps.length) (.int .i64 0)) K1 := by
    have c1 : ((sup.length : Int) < sup.length) = False := eq_false (by omega)
    rw [u31]
    simp +contextual -dsimp (disch := omega) only [↓goDown, goUp, cr, simprocAttr, c1, x1, strip_Z, u0a, ln_Z, u0y, List.length_map]
  have s2 : run (u0k (.ptr H.length 0) (.ptr (H.length + 2) 0) (.fn u02 [] [.ptr (H.length + 1) 0]) (.ptr (H.length + 3) 0) (LZ y2 3 (ps.map encV)) (.int .i64 ps.length) (.int .i64 ps.length)) K2 = run (u0h (.ptr H.length 0) (.ptr (H.length + 2) 0) (.fn u02 [] [.ptr (H.length + 1) 0]) (.ptr (H.length + 3) 0) (LZ y3 3 (rs.map encV)) (.int .i64 rs.length) (.int .i64 0)) K2 := by
    have c1 : ((ps.length : Int) < ps.length) = False := eq_false (by omega)
    rw [u2t]
    simp +contextual -dsimp (disch := omega) only [↓goDown, goUp, cr, simprocAttr, c1, x2, strip_Z, u0a, ln_Z, u0y, List.length_map]
  have s3 : run (u0h (.ptr H.length 0) (.ptr (H.length + 2) 0) (.fn u02 [] [.ptr (H.length + 1) 0]) (.ptr (H.length + 3) 0) (LZ y3 3 (rs.map encV)) (.int .i64 rs.length) (.int .i64 rs.length)) K3 = run (u0f (.ptr (H.length + 2) 0) (.fn u02 [] [.ptr (H.length + 1) 0]) (.ptr (H.length + 3) 0) (LZ y4 4 (fs.map encF)) (.int .i64 fs.length) (.int .i64 0)) K3 := by
    have c1 : ((rs.length : Int) < rs.length) = False := eq_false (by omega)
    rw [u2p]
    simp +contextual -dsimp (disch := omega) only [↓goDown, goUp, cr, simprocAttr, c1, x3, strip_Z, u0a, ln_Z, u0y, List.length_map]
  refine ⟨?_, i4⟩
  have hl4 := w4.len
  have ho4 := w4.ou
  obtain ⟨rl, hr4, hrl⟩ := w4.re
  have s4 : truncR H (run (u0f (.ptr (H.length + 2) 0) (.fn u02 [] [.ptr (H.length + 1) 0]) (.ptr (H.length + 3) 0) (LZ y4 4 (fs.map encF)) (.int .i64 fs.length) (.int .i64 fs.length)) K4) = some (.ok (.agg [.bool fin, LZ true 1 ((sup.map g).map encI), .int .i64 kind, LZ true 3 ((ps.map (gv g)).map encV), LZ true 3 ((rs.map (gv g)).map encV), LZ true 4 ((fs.map (gf g)).map encF)]) (hset H c (bx (fs.foldl (tf t) (rs.foldl (tv t) (ps.foldl (tv t) (sup.foldl t s))))))) := by
    have c1 : ((fs.length : Int) < fs.length) = False := eq_false (by omega)
    obtain ⟨a0, a1, a2, a3, a4, a5, rfl⟩ : ∃ a0 a1 a2 a3 a4 a5, rl = [a0, a1, a2, a3, a4, a5] := by
      match rl, hrl with
      | [a0, a1, a2, a3, a4, a5], _ => exact ⟨a0, a1, a2, a3, a4, a5, rfl⟩
    have hg2 : ∀ x, hget (hset K4 (H.length + 2) x) (H.length + 2) = some x := fun x => u3h (by omega)
    have hcut : ∀ x, hcut (hset K4 (H.length + 2) x) H.length = _ := fun x => (u2m (by omega)).trans w4.cut
    rw [u2g]
    simp +contextual -dsimp (disch := omega) only [↓goDown, goUp, cr, simprocAttr, c1, ho4, hr4, hg2, hcut, u2l, u22, u3j, u23, u15, u24, u4t, u3x, low_P, u3y, u4y, u50, u3t, u17, u0m, low_Z, u0a, strip_Z, u0y]
  rw [← s4, ← h4, ← s3, ← h3, ← s2, ← h2, ← s1, ← h1, u91]
  simp +contextual -dsimp (disch := omega) only [↓goDown, goUp, cr, simprocAttr, hT.sc, hT.cl, hT.cs, hT.tup, hlow, u17, u0m, low_Z, u0a, strip_Z, u0y, ln_Z, List.length_map, run_mf]
  all_goals rfl
end Go.Proofs.YtiiepllnnjjmaaaDoor.Pi.Q
namespace Go.Proofs.YtiiepllnnjjmaaaDoor.Pi.Q
open Go Go.Proofs.YtiiepllnnjjmaaaDoor.Pi
attribute [local congr] ite_congr
def hps : List VT → List Int
  | [] => []
  | v :: l => if v.num = 5 then v.heap :: hps l else hps l
def allS (v : SG) : List Int := ((v.sup.l ++ hps v.comp.ps.l) ++ hps v.comp.rs.l) ++ hps (v.comp.fs.l.map (·.ty))
theorem u6q : ∀ l, (hps l).length ≤ l.length
  | [] => Nat.le_refl _
  | v :: l => by
    have := u6q l
    unfold hps
    split <;> simp only [List.length_cons] <;> omega
theorem uca {σ : Type} {t : σ → Int → σ} : ∀ (l : List VT) (s : σ), l.foldl (tv t) s = (hps l).foldl t s
  | [], s => rfl
  | v :: l, s => by
    rw [List.foldl_cons, uca l, hps]
    unfold tv
    split <;> rfl
theorem ulh {σ : Type} {t : σ → Int → σ} : ∀ (l : List FT) (s : σ), l.foldl (tf t) s = (hps (l.map (·.ty))).foldl t s
  | [], s => rfl
  | v :: l, s => by
    rw [List.foldl_cons, ulh l, List.map_cons]
    unfold tf tv
    rw [hps]
    split <;> rfl
theorem tS_is {σ : Type} {t : σ → Int → σ} {s : σ} {v : SG} : tS t s v = (allS v).foldl t s := by
  unfold tS allS
  rw [ulh, uca, uca, ← List.foldl_append, ← List.foldl_append, ← List.foldl_append]
  simp only [List.append_assoc]
theorem ug5 {v : SG} : (allS v).length ≤ nS v := by
  have h1 := u6q v.comp.ps.l
  have h2 := u6q v.comp.rs.l
  have h3 := u6q (v.comp.fs.l.map (·.ty))
  unfold allS nS
  simp only [List.length_append, List.length_map] at *
  omega
theorem nS_le {v : SG} : nS v ≤ ms_SG v := by
  have h1 := sumLen (m := fun a => ms_V a) v.comp.ps.l (fun a _ => by unfold ms_V; omega)
  have h2 := sumLen (m := fun a => ms_V a) v.comp.rs.l (fun a _ => by unfold ms_V; omega)
  have h3 := sumLen (m := fun a => ms_F a) v.comp.fs.l (fun a _ => by unfold ms_F; omega)
  have h4 := sumLen (m := fun _ => 1) v.sup.l (fun a _ => Nat.le_refl _)
  unfold nS ms_SG ms_CG
  omega
def pos (l : List Int) : List Int := l.filter (fun a => decide (0 ≤ a))
theorem grow8 {n : Nat} (h : n ≤ 10000000) : growB 8 n = true := decide_eq_true (by show n * 8 ≤ _; omega)
theorem unk {z : Bool} {l : List Int} {K : Heap} (h : l.length ≤ 10000000) : run (ap true 1 8 (.slice false true 0 []) (LZ z 1 (l.map encI))) K = some (.ok (accP 1 (l.map encI)) K) := by
  cases l with
  | nil => cases z <;> rfl
  | cons a r =>
    have hg := grow8 (n := ((a :: r).map encI).length) (by rw [List.length_map]; exact h)
    have key : ap true 1 8 (.slice false true 0 []) (LZ z 1 ((a :: r).map encI)) = (bif growB 8 ((a :: r).map encI).length then M.pure (.slice true false 1 ((a :: r).map encI)) else M.fail) := rfl
    rw [key, hg]
    rfl
theorem ubz {l r : List Int} {K : Heap} (h : l.length + r.length ≤ 10000000) : run (ap true 1 8 (accP 1 (l.map encI)) (accP 1 (r.map encI))) K = some (.ok (accP 1 ((l ++ r).map encI)) K) := by
  cases l with
  | nil =>
    cases r with
    | nil => rfl
    | cons b r =>
      have hg := grow8 (n := ((b :: r).map encI).length) (by rw [List.length_map]; simp only [List.length_nil] at h; omega)
      have key : ap true 1 8 (accP 1 (([] : List Int).map encI)) (accP 1 ((b :: r).map encI)) = (bif growB 8 ((b :: r).map encI).length then M.pure (.slice true false 1 ((b :: r).map encI)) else M.fail) := rfl
      rw [key, hg]
      rfl
  | cons a l =>
    have hg := grow8 (n := ((a :: l).map encI).length + (r.map encI).length) (by rw [List.length_map, List.length_map]; exact h)
    cases r with
    | nil =>
      have key : ap true 1 8 (accP 1 ((a :: l).map encI)) (accP 1 (([] : List Int).map encI)) = (bif (true && (true && growB 8 (((a :: l).map encI).length + (([] : List Int).map encI).length))) then M.pure (.slice true false 1 ((a :: l).map encI ++ [])) else M.fail) := rfl
      rw [key, hg, List.append_nil, List.append_nil]
      rfl
    | cons b r =>
      have key : ap true 1 8 (accP 1 ((a :: l).map encI)) (accP 1 ((b :: r).map encI)) = (bif (true && (true && growB 8 (((a :: l).map encI).length + ((b :: r).map encI).length))) then M.pure (.slice true false 1 ((a :: l).map encI ++ (b :: r).map encI)) else M.fail) := rfl
      rw [key, hg, List.map_append]
      rfl
theorem u7o {H : Heap} {v2 : PV} {z : Bool} {l : List VT} (hl : l.length < 2000000) : ∀ (m i : Nat) (acc : List Int), i + m = l.length → acc.length + m < 2000000 →
    run (u1f (LZ z 3 (l.map encV)) v2 (accP 1 (acc.map encI)) (.int .i64 i)) H = some (.ok (accP 1 ((acc ++ hps (l.drop i)).map encI)) H)
  | 0, i, acc, h, ha => by
    rw [u2d, List.drop_eq_nil_of_le (by omega), hps, List.append_nil]
    have c1 : ((i : Int) < l.length) = False := eq_false (by omega)
    simp +contextual -dsimp (disch := omega) only [↓goDown, goUp, cr, simprocAttr, strip_Z, ln_Z, List.length_map, c1, u24]
  | m + 1, i, acc, h, ha => by
    have hi : i < l.length := by omega
    have hd : l.drop i = l[i] :: l.drop (i + 1) := List.drop_eq_getElem_cons hi
    rw [u2d, hd, hps]
    have c1 : ((i : Int) < l.length) = True := eq_true (by omega)
    have hga : (l.map encV)[i]? = some (encV l[i]) := by simp [hi]
    have hia : ∀ K, run (iaS 3 (LZ z 3 (l.map encV)) (.int .i64 i)) K = some (.ok (.elem [.int .i64 l[i].num, .bool l[i].nul, .int .i64 l[i].heap]) K) := fun K => ia_Z hga
    by_cases h5 : l[i].num = 5
    · have ih := u7o (H := H) (v2 := v2) (z := z) hl m (i + 1) (acc ++ [l[i].heap]) (by omega) (by simp; omega)
      rw [List.append_assoc, List.singleton_append] at ih
      rw [if_pos h5]
      simp +contextual -dsimp (disch := omega) only [↓goDown, goUp, cr, simprocAttr, strip_Z, ln_Z, List.length_map, c1, hia, eq_true h5, bsR_IG, ap_IG, u1y, ns]
      exact ih
    · have ih := u7o (H := H) (v2 := v2) (z := z) hl m (i + 1) acc (by omega) (by omega)
      rw [if_neg h5]
      simp +contextual -dsimp (disch := omega) only [↓goDown, goUp, cr, simprocAttr, strip_Z, ln_Z, List.length_map, c1, hia, eq_false h5, u1y, ns]
      exact ih
theorem uc1 {H : Heap} {z : Bool} {l : List VT} (hl : l.length < 2000000) : run (C u0j [LZ z 3 (l.map encV)]) H = some (.ok (accP 1 ((hps l).map encI)) H) := by
  have h := fun v2 => u7o (H := H) (v2 := v2) (z := z) hl l.length 0 [] (Nat.zero_add _) (by simp; omega)
  simp only [List.drop_zero, List.nil_append, show ((0 : Nat) : Int) = 0 from rfl] at h
  have e0 : (accP 1 (([] : List Int).map encI)) = .slice false true 0 [] := rfl
  rw [e0] at h
  rw [u5n]
  simp +contextual -dsimp (disch := omega) only [↓goDown, goUp, cr, simprocAttr, h, u3j]
theorem ukp {H : Heap} {v : VT} : run (C u0j [.slice false false 3 [.agg [.int .i64 v.num, .bool v.nul, .int .i64 v.heap]]]) H = some (.ok (accP 1 ((hps [v]).map encI)) H) :=
  uc1 (z := true) (l := [v]) (by simp)
theorem ugt {H : Heap} {j : Nat} {v2 a0 a1 a2 a3 a4 : PV} {z : Bool} {l : List FT} (hl : l.length < 2000000) (hj : hget H j = some (.cells [a0, a1, a2, a3, a4, LZ z 4 (l.map encF)])) : ∀ (m i : Nat) (acc : List Int), i + m = l.length → acc.length + m < 9000000 →
    run (u0p (.ptr j 0) v2 (accP 1 (acc.map encI)) (.int .i64 i)) H = some (.ok (accP 1 ((acc ++ hps ((l.drop i).map (·.ty))).map encI)) H)
  | 0, i, acc, h, ha => by
    rw [u26, List.drop_eq_nil_of_le (by omega), List.map_nil, hps, List.append_nil]
    have c1 : ((i : Int) < l.length) = False := eq_false (by omega)
    simp +contextual -dsimp (disch := omega) only [↓goDown, goUp, cr, simprocAttr, hj, strip_Z, u0a, ln_Z, List.length_map, c1, u24]
  | m + 1, i, acc, h, ha => by
    have hi : i < l.length := by omega
    have hd : l.drop i = l[i] :: l.drop (i + 1) := List.drop_eq_getElem_cons hi
    have h1 := u6q [l[i].ty]
    simp only [List.length_cons, List.length_nil] at h1
    have e1 : hps (l[i].ty :: (l.drop (i + 1)).map (·.ty)) = hps [l[i].ty] ++ hps ((l.drop (i + 1)).map (·.ty)) := by
      simp only [hps]
      split <;> simp
    rw [u26, hd, List.map_cons, e1]
    have c1 : ((i : Int) < l.length) = True := eq_true (by omega)
    have hga : (l.map encF)[i]? = some (encF l[i]) := by simp [hi]
    have hia : ∀ K, run (iaS 4 (LZ z 4 (l.map encF)) (.int .i64 i)) K = some (.ok (.elem [.int .i64 l[i].ty.num, .bool l[i].ty.nul, .int .i64 l[i].ty.heap, .bool l[i].mu]) K) := fun K => ia_Z hga
    have ho := fun K => ukp (H := K) (v := l[i].ty)
    have ih := ugt (H := H) (v2 := v2) hl hj m (i + 1) (acc ++ hps [l[i].ty]) (by omega) (by rw [List.length_append]; omega)
    rw [List.append_assoc] at ih
    have hap : ∀ K, run (ap true 1 8 (accP 1 (acc.map encI)) (accP 1 ((hps [l[i].ty]).map encI))) K = some (.ok (accP 1 ((acc ++ hps [l[i].ty]).map encI)) K) := fun K => ubz (by omega)
    simp +contextual -dsimp (disch := omega) only [↓goDown, goUp, cr, simprocAttr, hj, strip_Z, u0a, ln_Z, List.length_map, c1, hia, bsR_VG, ho, hap, ns]
    exact ih
theorem all_is {H : Heap} {v : SG} (hm : nS v < 2000000) : run (C u2e [.agg (cs_SG v)]) H = some (.ok (accP 1 ((allS v).map encI)) H) := by
  obtain ⟨fin, ⟨y1, sup⟩, ⟨kind, ⟨y2, ps⟩, ⟨y3, rs⟩, ⟨y4, fs⟩⟩⟩ := v
  unfold nS at hm
  unfold allS cs_SG
  simp only at hm ⊢
  have g1 := u6q ps
  have g2 := u6q rs
  have h1 : ∀ K, run (ap true 1 8 (.slice false true 0 []) (LZ y1 1 (sup.map encI))) K = some (.ok (accP 1 (sup.map encI)) K) := fun K => unk (by omega)
  have h2 := fun K => uc1 (H := K) (z := y2) (l := ps) (by omega)
  have h3 := fun K => uc1 (H := K) (z := y3) (l := rs) (by omega)
  have h4 : ∀ K, run (ap true 1 8 (accP 1 (sup.map encI)) (accP 1 ((hps ps).map encI))) K = some (.ok (accP 1 ((sup ++ hps ps).map encI)) K) := fun K => ubz (by omega)
  have h5 : ∀ K, run (ap true 1 8 (accP 1 ((sup ++ hps ps).map encI)) (accP 1 ((hps rs).map encI))) K = some (.ok (accP 1 ((sup ++ hps ps ++ hps rs).map encI)) K) := fun K => ubz (by rw [List.length_append]; omega)
  have h6 : ∀ v2, run (u0p (.ptr H.length 0) v2 (accP 1 ((sup ++ hps ps ++ hps rs).map encI)) (.int .i64 0)) (hadd H [.cells [.bool fin, LZ y1 1 (sup.map encI), .int .i64 kind, LZ y2 3 (ps.map encV), LZ y3 3 (rs.map encV), LZ y4 4 (fs.map encF)]]) = _ := fun v2 => ugt (v2 := v2) (by omega) u3p fs.length 0 _ (Nat.zero_add _) (by rw [List.length_append, List.length_append]; omega)
  simp only [List.drop_zero] at h6
  rw [u6r]
  simp +contextual -dsimp (disch := omega) only [↓goDown, goUp, cr, simprocAttr, u17, u0m, low_Z, u0a, strip_Z, u0y, h1, h2, h3, h4, h5, h6, u3j]
def tU (s : List Int) (a : Int) : List Int := if 0 ≤ a then s ++ [a] else s
theorem uj9 : ∀ (l s : List Int), l.foldl tU s = s ++ pos l
  | [], s => (List.append_nil _).symm
  | a :: l, s => by
    rw [List.foldl_cons, uj9 l]
    unfold tU
    by_cases h : 0 ≤ a
    · rw [if_pos h, show pos (a :: l) = a :: pos l from List.filter_cons_of_pos (decide_eq_true h), List.append_assoc]; rfl
    · rw [if_neg h, show pos (a :: l) = pos l from List.filter_cons_of_neg (by simpa using h)]
theorem turnU {c : Nat} {A : Heap} : Turn c A (.fn u2u [] [.ptr c 0]) (fun s : List Int => .cells [accP 1 (s.map encI)]) tU id (fun s n => s.length + n < 2000000) where
  call K s a n hA hs hI := by
    have hid := get_lt hs
    rw [u3q]
    show run (C u2u [.int .i64 a, .ptr c 0]) K = _
    rw [u9b]
    have hself := u71 hs
    have hg : ∀ x, hget (hset K c x) c = some x := fun x => u3h hid
    unfold tU
    by_cases h0 : 0 ≤ a
    · rw [if_pos h0]
      simp +contextual -dsimp (disch := omega) only [↓goDown, goUp, cr, simprocAttr, eq_true h0, hs, hg, bsR_IG, ap_IG, u2l, u22, u3j, u23, u15, u24, u3w, id]
    · rw [if_neg h0, hself]
      simp +contextual -dsimp (disch := omega) only [↓goDown, goUp, cr, simprocAttr, eq_false h0, u3w, id]
  step s a n h := by
    unfold tU
    split
    · simp only [List.length_append, List.length_cons, List.length_nil]; omega
    · omega
  mono s n h := by omega
  st := by rfl
  sc := by rfl
  cl := by rfl
  cs := by rfl
  tup := by rfl
  low n h := by simp [low_fn, u44, u4u, u97, h]
theorem pUses {H : Heap} {v : SG} (hm : nS v < 1900000) : run (C u4d [.agg (cs_SG v)]) H = some (.ok (accP 1 ((pos (allS v)).map encI)) H) := by
  have ht := fun X : Box => (ua1 (H := hadd H [X, .cells [accP 1 (([] : List Int).map encI)]]) (A := hadd H [X]) (n := 0) (turnU (c := H.length + 1)) (by rw [u2z]; simp) (by
    have : hadd H [X, .cells [accP 1 (([] : List Int).map encI)]] = hadd (hadd H [X]) [.cells [accP 1 (([] : List Int).map encI)]] := by unfold hadd; simp
    rw [this]
    exact uc6 (by rw [u2z]; rfl)) (s := []) (u2q 1) (v := v) (by omega) (by simp; omega)).1
  have e0 : (accP 1 (([] : List Int).map encI)) = .slice false true 0 [] := rfl
  rw [tS_is, uj9, List.nil_append] at ht
  rw [e0] at ht
  rw [uc3]
  unfold cs_SG at ht ⊢
  simp +contextual -dsimp (disch := omega) only [↓goDown, goUp, cr, simprocAttr, u17, u0m, low_Z, u0a, strip_Z, u0y, run_mf, ht, u2l, u22, u3j, u23, u15, u24]
  all_goals rfl
end Go.Proofs.YtiiepllnnjjmaaaDoor.Pi.Q
namespace Go.Proofs.YtiiepllnnjjmaaaDoor.Pi.Q
open Go Go.Proofs.YtiiepllnnjjmaaaDoor.Pi
attribute [local congr] ite_congr
def okA (e : Int) (l : List Int) : Bool := l.all fun h => decide (h < e) && decide (-12 ≤ h)
def okP (l : List Int) : Bool := l.all fun h => decide (0 ≤ h)
def okT (e : Int) (v : SG) : Bool := okP v.sup.l && okA e (allS v)
def cG (e : Nat) : List SG → Nat → Option Nat
  | [], _ => none
  | v :: l, n => if okT e v = true then cG e l (n + 1) else some n
def cL : List RG → Nat → Option Nat
  | [], _ => none
  | r :: l, n => match cG (n + r.types.l.length) r.types.l n with
    | some k => some k
    | none => cL l (n + r.types.l.length)
def cOut : Option Nat → PV
  | none => .tup [.int .i64 0, .int .i64 0]
  | some k => .tup [.int .i64 k, .int .i64 50]
def smallS (l : List SG) : Prop := l.length ≤ 1048576 ∧ ∀ s ∈ l, nS s ≤ 1048576
def nT (l : List RG) : Nat := sumL (fun r : RG => r.types.l.length) l
def smallR (l : List RG) : Prop := l.length ≤ 1048576 ∧ ∀ r ∈ l, smallS r.types.l
structure Cd (H : Heap) (e : Nat) (K : Heap) : Prop where
  cut : hcut K H.length = H
  en : hget K H.length = some (.cells [.int .i64 e])
theorem Cd.more {H K : Heap} {e : Nat} (w : Cd H e K) {L : List Box} : Cd H e (hadd K L) := by
  have hid := get_lt w.en
  exact ⟨by rw [cut_le (by omega)]; exact w.cut, by rw [u2i hid]; exact w.en⟩
end Go.Proofs.YtiiepllnnjjmaaaDoor.Pi.Q
namespace Go.Proofs.YtiiepllnnjjmaaaDoor.Pi.Q
open Go Go.Proofs.YtiiepllnnjjmaaaDoor.Pi
attribute [local congr] ite_congr
def okB (e : Int) (l : List Int) : Bool := l.all fun h => decide (0 ≤ h) && decide (h < e)
theorem ugf {e a : Int} {l : List Int} : okB e (a :: l) = ((decide (0 ≤ a) && decide (a < e)) && okB e l) := rfl
theorem ui9 {e a : Int} {l : List Int} : okA e (a :: l) = ((decide (a < e) && decide (-12 ≤ a)) && okA e l) := rfl
theorem okB_is {e : Int} : ∀ (l r : List Int), (okB e l && okA e (l ++ r)) = (okP l && okA e (l ++ r))
  | [], r => rfl
  | a :: l, r => by
    have h := okB_is (e := e) l r
    rw [List.cons_append, ugf, ui9, show okP (a :: l) = (decide (0 ≤ a) && okP l) from rfl]
    cases decide (0 ≤ a) <;> cases decide (a < e) <;> cases decide (-12 ≤ a) <;> simp_all
theorem okT_is {e : Int} {v : SG} : okT e v = (okB e v.sup.l && okA e (allS v)) := by
  unfold okT allS
  rw [List.append_assoc, List.append_assoc]
  exact (okB_is _ _).symm
theorem ub4 {H : Heap} {e : Int} {v4 : PV} {l : List Int} (hl : l.length < 9000000) : ∀ (m i : Nat), i + m = l.length →
    run (u1d (.int .i64 e) v4 (accP 1 (l.map encI)) (.int .i64 i)) H = some (.ok (.bool (okA e (l.drop i))) H)
  | 0, i, h => by
    rw [u2b, List.drop_eq_nil_of_le (by omega), show okA e [] = true from rfl]
    have c1 : ((i : Int) < l.length) = False := eq_false (by omega)
    simp +contextual -dsimp (disch := omega) only [↓goDown, goUp, cr, simprocAttr, u15, u3t, strip_Z, ln_Z, List.length_map, c1]
  | m + 1, i, h => by
    have hi : i < l.length := by omega
    have hd : l.drop i = l[i] :: l.drop (i + 1) := List.drop_eq_getElem_cons hi
    have ih := ub4 (H := H) (e := e) (v4 := v4) hl m (i + 1) (by omega)
    rw [u2b, hd, ui9]
    have c1 : ((i : Int) < l.length) = True := eq_true (by omega)
    have hga : (l.map encI)[i]? = some (encI l[i]) := by simp [hi]
    have hia : ∀ K, run (iaS 1 (LZ true 1 (l.map encI)) (.int .i64 i)) K = some (.ok (.elem [.int .i64 l[i]]) K) := fun K => ia_Z hga
    by_cases h1 : l[i] < e
    · have g1 : (e ≤ l[i]) = False := eq_false (by omega)
      by_cases h2 : -12 ≤ l[i]
      · have g2 : (l[i] < -12) = False := eq_false (by omega)
        rw [decide_eq_true h1, decide_eq_true h2]
        simp +contextual -dsimp (disch := omega) only [↓goDown, goUp, cr, simprocAttr, u15, u3t, strip_Z, ln_Z, List.length_map, c1, hia, g1, g2, Bool.true_and, ns]
        exact ih
      · have g2 : (l[i] < -12) = True := eq_true (by omega)
        rw [decide_eq_true h1, decide_eq_false h2]
        simp +contextual -dsimp (disch := omega) only [↓goDown, goUp, cr, simprocAttr, u15, u3t, strip_Z, ln_Z, List.length_map, c1, hia, g1, g2, Bool.true_and, Bool.false_and]
    · have g1 : (e ≤ l[i]) = True := eq_true (by omega)
      rw [decide_eq_false h1]
      simp +contextual -dsimp (disch := omega) only [↓goDown, goUp, cr, simprocAttr, u15, u3t, strip_Z, ln_Z, List.length_map, c1, hia, g1, Bool.false_and]
theorem ubr {H : Heap} {e : Int} {v4 : PV} {j : Nat} {v : SG} (hm : nS v < 2000000) (hj : hget H j = some (.cells (cs_SG v))) : ∀ (m i : Nat), i + m = v.sup.l.length →
    run (u1j (.int .i64 e) (.ptr j 0) v4 (.int .i64 i)) H = some (.ok (.bool (okB e (v.sup.l.drop i) && okA e (allS v))) H)
  | 0, i, h => by
    have hal := ug5 (v := v)
    have ha := fun K => all_is (H := K) hm
    have hf := ub4 (H := H) (e := e) (v4 := v4) (l := allS v) (by omega) (allS v).length 0 (Nat.zero_add _)
    rw [List.drop_zero, show ((0 : Nat) : Int) = 0 from rfl] at hf
    unfold cs_SG at hj ha
    rw [u2k, List.drop_eq_nil_of_le (by omega), show okB e [] = true from rfl, Bool.true_and]
    have c1 : ((i : Int) < v.sup.l.length) = False := eq_false (by omega)
    simp +contextual -dsimp (disch := omega) only [↓goDown, goUp, cr, simprocAttr, hj, u17, u0m, low_Z, u0a, strip_Z, u0y, ln_Z, List.length_map, c1, ha]
    exact hf
  | m + 1, i, h => by
    have hi : i < v.sup.l.length := by omega
    have hnS : v.sup.l.length ≤ nS v := by unfold nS; omega
    have hd : v.sup.l.drop i = v.sup.l[i] :: v.sup.l.drop (i + 1) := List.drop_eq_getElem_cons hi
    have ih := ubr (e := e) (v4 := v4) hm hj m (i + 1) (by omega)
    unfold cs_SG at hj
    rw [u2k, hd, ugf, Bool.and_assoc]
    have c1 : ((i : Int) < v.sup.l.length) = True := eq_true (by omega)
    have hga : (v.sup.l.map encI)[i]? = some (encI v.sup.l[i]) := by simp [hi]
    have hia : ∀ K, run (iaS 1 (LZ v.sup.z 1 (v.sup.l.map encI)) (.int .i64 i)) K = some (.ok (.elem [.int .i64 v.sup.l[i]]) K) := fun K => ia_Z hga
    by_cases h1 : 0 ≤ v.sup.l[i]
    · have g1 : (v.sup.l[i] < 0) = False := eq_false (by omega)
      by_cases h2 : v.sup.l[i] < e
      · have g2 : (e ≤ v.sup.l[i]) = False := eq_false (by omega)
        rw [decide_eq_true h1, decide_eq_true h2]
        simp +contextual -dsimp (disch := omega) only [↓goDown, goUp, cr, simprocAttr, hj, strip_Z, u0a, ln_Z, List.length_map, c1, hia, g1, g2, Bool.true_and, ns]
        exact ih
      · have g2 : (e ≤ v.sup.l[i]) = True := eq_true (by omega)
        rw [decide_eq_true h1, decide_eq_false h2]
        simp +contextual -dsimp (disch := omega) only [↓goDown, goUp, cr, simprocAttr, hj, strip_Z, u0a, ln_Z, List.length_map, c1, hia, g1, g2, Bool.true_and, Bool.false_and]
    · have g1 : (v.sup.l[i] < 0) = True := eq_true (by omega)
      rw [decide_eq_false h1]
      simp +contextual -dsimp (disch := omega) only [↓goDown, goUp, cr, simprocAttr, hj, strip_Z, u0a, ln_Z, List.length_map, c1, hia, g1, Bool.false_and]
theorem unj {H : Heap} {e : Int} {v : SG} (hm : nS v < 2000000) : run (C u1t [.agg (cs_SG v), .int .i64 e]) H = some (.ok (.bool (okT e v)) H) := by
  have h := fun v4 => ubr (H := hadd H [.cells (cs_SG v)]) (e := e) (v4 := v4) hm u3p v.sup.l.length 0 (Nat.zero_add _)
  rw [List.drop_zero, ← okT_is, show ((0 : Nat) : Int) = 0 from rfl] at h
  rw [u6f]
  unfold cs_SG at h ⊢
  simp +contextual -dsimp (disch := omega) only [↓goDown, goUp, cr, simprocAttr, u17, u0m, low_Z, u0a, strip_Z, u0y, h]
theorem ue1 {H : Heap} {z : Bool} {l : List RG} {i n : Nat} {v2 v3 : PV} (hl : smallR l) (hi : i < l.length) (hn : n ≤ 100000000000) : ∀ (m j : Nat), j + m = l[i].types.l.length →
    run (u0i (LZ z 2 (l.map encRG)) v2 v3 (.int .i64 n) (.int .i64 i) (.int .i64 (n + l[i].types.l.length : Nat)) (.int .i64 j)) H =
      match cG (n + l[i].types.l.length) (l[i].types.l.drop j) (n + j) with
      | some k => some (.ok (cOut (some k)) H)
      | none => run (u0q (LZ z 2 (l.map encRG)) v2 v3 (.int .i64 (n + l[i].types.l.length : Nat)) (.int .i64 (i + 1 : Nat))) H
  | 0, j, h => by
    have hll := hl.1
    rw [u1k, List.drop_eq_nil_of_le (by omega), cG]
    have c1 : ((j : Int) < l[i].types.l.length) = False := eq_false (by omega)
    have hga : (l.map encRG)[i]? = some (encRG l[i]) := by simp [hi]
    have hia : ∀ K, run (iaS 2 (LZ z 2 (l.map encRG)) (.int .i64 i)) K = some (.ok (.elem (cs_RG l[i])) K) := fun K => ia_Z hga
    unfold cs_RG at hia
    simp +contextual -dsimp (disch := omega) only [↓goDown, goUp, cr, simprocAttr, hia, strip_Z, u0a, ln_Z, List.length_map, c1, ns]
    all_goals rfl
  | m + 1, j, h => by
    have hll := hl.1
    have hsm := hl.2 _ (List.getElem_mem hi)
    have hl1 := hsm.1
    have hj : j < l[i].types.l.length := by omega
    have hd : l[i].types.l.drop j = l[i].types.l[j] :: l[i].types.l.drop (j + 1) := List.drop_eq_getElem_cons hj
    have ih := ue1 (H := H) (z := z) (v2 := v2) (v3 := v3) hl hi hn m (j + 1) (by omega)
    have hns := hsm.2 _ (List.getElem_mem hj)
    rw [u1k, hd, cG]
    have c1 : ((j : Int) < l[i].types.l.length) = True := eq_true (by omega)
    have hga : (l.map encRG)[i]? = some (encRG l[i]) := by simp [hi]
    have hia : ∀ K, run (iaS 2 (LZ z 2 (l.map encRG)) (.int .i64 i)) K = some (.ok (.elem (cs_RG l[i])) K) := fun K => ia_Z hga
    have hgb : (l[i].types.l.map encSG)[j]? = some (encSG l[i].types.l[j]) := by simp [hj]
    have hib : ∀ K, run (iaS 6 (LZ l[i].types.z 6 (l[i].types.l.map encSG)) (.int .i64 j)) K = some (.ok (.elem (cs_SG l[i].types.l[j])) K) := fun K => ia_Z hgb
    have hf := fun K => unj (H := K) (e := (n + l[i].types.l.length : Nat)) (v := l[i].types.l[j]) (by omega)
    unfold cs_RG at hia
    unfold cs_SG at hib hf
    cases hc : okT (n + l[i].types.l.length : Nat) l[i].types.l[j] with
    | true =>
      rw [hc] at hf
      rw [if_pos rfl]
      refine Eq.trans ?_ ih
      simp +contextual -dsimp (disch := omega) only [↓goDown, goUp, cr, simprocAttr, hia, hib, hf, un_not, Bool.not_true, strip_Z, u0a, ln_Z, List.length_map, c1, ns]
      all_goals rfl
    | false =>
      rw [hc] at hf
      rw [if_neg (by simp)]
      simp +contextual -dsimp (disch := omega) only [↓goDown, goUp, cr, simprocAttr, hia, hib, hf, un_not, Bool.not_false, strip_Z, u0a, ln_Z, List.length_map, c1, cOut]
      all_goals rfl
theorem u84 {H : Heap} {z : Bool} {l : List RG} {v2 v3 : PV} (hl : smallR l) : ∀ (m i n : Nat), i + m = l.length → n + nT (l.drop i) ≤ 100000000000 →
    run (u0q (LZ z 2 (l.map encRG)) v2 v3 (.int .i64 n) (.int .i64 i)) H = some (.ok (cOut (cL (l.drop i) n)) H)
  | 0, i, n, h, hn => by
    have c1 : ((i : Int) < l.length) = False := eq_false (by omega)
    rw [u27, List.drop_eq_nil_of_le (by omega), cL]
    simp +contextual -dsimp (disch := omega) only [↓goDown, goUp, cr, simprocAttr, strip_Z, ln_Z, List.length_map, c1, cOut]
  | m + 1, i, n, h, hn => by
    have hi : i < l.length := by omega
    have hd : l.drop i = l[i] :: l.drop (i + 1) := List.drop_eq_getElem_cons hi
    have hsm := hl.2 _ (List.getElem_mem hi)
    have hl1 := hsm.1
    have hll := hl.1
    have hnT : nT (l.drop i) = l[i].types.l.length + nT (l.drop (i + 1)) := by rw [hd]; rfl
    rw [hnT] at hn
    have hg := ue1 (H := H) (z := z) (v2 := v2) (v3 := v3) (n := n) hl hi (by omega) l[i].types.l.length 0 (Nat.zero_add _)
    have ih := u84 (H := H) (z := z) (v2 := v2) (v3 := v3) hl m (i + 1) (n + l[i].types.l.length) (by omega) (by omega)
    rw [ih, List.drop_zero, Nat.add_zero] at hg
    have c1 : ((i : Int) < l.length) = True := eq_true (by omega)
    have hga : (l.map encRG)[i]? = some (encRG l[i]) := by simp [hi]
    have hia : ∀ K, run (iaS 2 (LZ z 2 (l.map encRG)) (.int .i64 i)) K = some (.ok (.elem (cs_RG l[i])) K) := fun K => ia_Z hga
    have hr : cL (l.drop i) n = match cG (n + l[i].types.l.length) l[i].types.l n with
      | some k => some k
      | none => cL (l.drop (i + 1)) (n + l[i].types.l.length) := by rw [hd]; rfl
    have he : some (Out.ok (cOut (cL (l.drop i) n)) H) = (match cG (n + l[i].types.l.length) l[i].types.l n with
      | some k => some (.ok (cOut (some k)) H)
      | none => some (.ok (cOut (cL (l.drop (i + 1)) (n + l[i].types.l.length))) H)) := by
      rw [hr]
      cases cG (n + l[i].types.l.length) l[i].types.l n <;> rfl
    rw [he, ← hg, u27]
    unfold cs_RG at hia
    simp +contextual -dsimp (disch := omega) only [↓goDown, goUp, cr, simprocAttr, hia, strip_Z, u0a, ln_Z, List.length_map, c1, ns]
    all_goals rfl
theorem ukk {H : Heap} {z : Bool} {l : List RG} (hl : smallR l) (hn : nT l ≤ 100000000000) : run (C u1h [LZ z 2 (l.map encRG)]) H = some (.ok (cOut (cL l 0)) H) := by
  have h := fun v2 v3 => u84 (H := H) (z := z) (v2 := v2) (v3 := v3) hl l.length 0 0 (Nat.zero_add _) (by rw [List.drop_zero]; omega)
  simp only [List.drop_zero, show ((0 : Nat) : Int) = 0 from rfl] at h
  have hlow : ∀ o n, (cOut o).low n = true := fun o n => by cases o <;> simp [cOut, ufs, u44, u4u, ucb]
  rw [u55]
  simp +contextual -dsimp (disch := omega) only [↓goDown, goUp, cr, simprocAttr, h, hlow]
theorem u98 {H : Heap} {z : Bool} {l : List RG} {v2 : PV} (hl : smallR l) : ∀ (m i n : Nat) (K : Heap), i + m = l.length → n + nT (l.drop i) ≤ 100000000000 → H.length ≤ K.length → hcut K H.length = H →
    truncR H (run (u2a v2 (.int .i64 n) (LZ z 2 (l.map encRG)) (.int .i64 l.length) (.int .i64 i)) K) = some (.ok (.int .i64 (n + nT (l.drop i) : Nat)) H)
  | 0, i, n, K, h, hn, hK, hcw => by
    have c1 : ((i : Int) < l.length) = False := eq_false (by omega)
    rw [u3c, List.drop_eq_nil_of_le (by omega), show nT [] = 0 from rfl, Nat.add_zero]
    simp +contextual -dsimp (disch := omega) only [↓goDown, goUp, cr, simprocAttr, c1, hcw]
  | m + 1, i, n, K, h, hn, hK, hcw => by
    have hi : i < l.length := by omega
    have hd : l.drop i = l[i] :: l.drop (i + 1) := List.drop_eq_getElem_cons hi
    have hl1 := (hl.2 _ (List.getElem_mem hi)).1
    have hll := hl.1
    have hnT : nT (l.drop i) = l[i].types.l.length + nT (l.drop (i + 1)) := by rw [hd]; rfl
    rw [hnT] at hn ⊢
    have ih := u98 (H := H) (z := z) (v2 := v2) hl m (i + 1) (n + l[i].types.l.length) (hadd K [.cells (cs_RG l[i])]) (by omega) (by omega) (by rw [u2z]; omega) (by rw [cut_le hK]; exact hcw)
    rw [← Nat.add_assoc, ← ih]
    have c1 : ((i : Int) < l.length) = True := eq_true (by omega)
    have hga : (l.map encRG)[i]? = some (encRG l[i]) := by simp [hi]
    have hia : ∀ K, run (iaS 2 (LZ z 2 (l.map encRG)) (.int .i64 i)) K = some (.ok (.elem (cs_RG l[i])) K) := fun K => ia_Z hga
    rw [u3c]
    unfold cs_RG at hia ⊢
    simp +contextual -dsimp (disch := omega) only [↓goDown, goUp, cr, simprocAttr, hia, u17, u0m, low_Z, strip_Z, u0a, u0y, ln_Z, List.length_map, c1, ns]
    all_goals rfl
theorem pCount {H : Heap} {z : Bool} {l : List RG} (hl : smallR l) (hn : nT l ≤ 100000000000) : run (C u3z [LZ z 2 (l.map encRG)]) H = some (.ok (.int .i64 (nT l)) H) := by
  have h := fun v2 => u98 (H := H) (z := z) (v2 := v2) hl l.length 0 0 H (Nat.zero_add _) (by rw [List.drop_zero]; omega) (Nat.le_refl _) cut0
  simp only [List.drop_zero, Nat.zero_add, show ((0 : Nat) : Int) = 0 from rfl] at h
  rw [uan]
  simp +contextual -dsimp (disch := omega) only [↓goDown, goUp, cr, simprocAttr, strip_Z, ln_Z, List.length_map, h]
theorem u9w {H : Heap} {z : Bool} {l : List RG} {v2 : PV} (hl : smallR l) : ∀ (m i n : Nat), i + m = l.length → n + nT (l.drop i) ≤ 100000000000 →
    run (u1c (LZ z 2 (l.map encRG)) v2 (.int .i64 n) (.int .i64 i)) H = some (.ok (.int .i64 (n + nT (l.drop i) : Nat)) H)
  | 0, i, n, h, hn => by
    have c1 : ((i : Int) < l.length) = False := eq_false (by omega)
    rw [u2c, List.drop_eq_nil_of_le (by omega), show nT [] = 0 from rfl, Nat.add_zero]
    simp +contextual -dsimp (disch := omega) only [↓goDown, goUp, cr, simprocAttr, strip_Z, ln_Z, List.length_map, c1]
  | m + 1, i, n, h, hn => by
    have hi : i < l.length := by omega
    have hd : l.drop i = l[i] :: l.drop (i + 1) := List.drop_eq_getElem_cons hi
    have hl1 := (hl.2 _ (List.getElem_mem hi)).1
    have hll := hl.1
    have hnT : nT (l.drop i) = l[i].types.l.length + nT (l.drop (i + 1)) := by rw [hd]; rfl
    rw [hnT] at hn ⊢
    have ih := u9w (H := H) (z := z) (v2 := v2) hl m (i + 1) (n + l[i].types.l.length) (by omega) (by omega)
    rw [← Nat.add_assoc, ← ih]
    have c1 : ((i : Int) < l.length) = True := eq_true (by omega)
    have hga : (l.map encRG)[i]? = some (encRG l[i]) := by simp [hi]
    have hia : ∀ K, run (iaS 2 (LZ z 2 (l.map encRG)) (.int .i64 i)) K = some (.ok (.elem (cs_RG l[i])) K) := fun K => ia_Z hga
    rw [u2c]
    unfold cs_RG at hia
    simp +contextual -dsimp (disch := omega) only [↓goDown, goUp, cr, simprocAttr, hia, strip_Z, u0a, ln_Z, List.length_map, c1, ns]
    all_goals rfl
theorem umo {H : Heap} {z : Bool} {l : List RG} (hl : smallR l) (hn : nT l ≤ 100000000000) : run (C u20 [LZ z 2 (l.map encRG)]) H = some (.ok (.int .i64 (nT l)) H) := by
  have h := fun v2 => u9w (H := H) (z := z) (v2 := v2) hl l.length 0 0 (Nat.zero_add _) (by rw [List.drop_zero]; omega)
  simp only [List.drop_zero, Nat.zero_add, show ((0 : Nat) : Int) = 0 from rfl] at h
  rw [u5b]
  simp +contextual -dsimp (disch := omega) only [↓goDown, goUp, cr, simprocAttr, h]
end Go.Proofs.YtiiepllnnjjmaaaDoor.Pi.Q
namespace Go.Proofs.YtiiepllnnjjmaaaDoor.Pi.Q
open Go Go.Proofs.YtiiepllnnjjmaaaDoor.Pi
attribute [local congr] ite_congr
theorem um5 {l : List RG} (hm : sumL (fun a : RG => ms_RG a) l ≤ 1048576) : smallR l ∧ nT l ≤ 1048576 ∧ ∀ r ∈ l, ∀ s ∈ r.types.l, ms_SG s ≤ 1048576 := by
  have h0 := sumLen (m := fun a => ms_RG a) l (fun a _ => by unfold ms_RG; omega)
  have hr : ∀ r ∈ l, ms_RG r ≤ 1048576 := fun r h => by have := sumMem (m := fun a : RG => ms_RG a) l r h; omega
  have hls : ∀ r : RG, r.types.l.length ≤ ms_RG r := fun r => by
    have := sumLen (m := fun a => ms_SG a) r.types.l (fun a _ => by unfold ms_SG; omega)
    unfold ms_RG
    omega
  have hss : ∀ r ∈ l, ∀ s ∈ r.types.l, ms_SG s ≤ 1048576 := fun r h s h2 => by
    have h3 := sumMem (m := fun a : SG => ms_SG a) r.types.l s h2
    have h4 := hr r h
    unfold ms_RG at h4
    omega
  refine ⟨⟨by omega, fun r h => ⟨Nat.le_trans (hls r) (hr r h), fun s h2 => Nat.le_trans nS_le (hss r h s h2)⟩⟩, ?_, hss⟩
  refine Nat.le_trans ?_ hm
  unfold nT
  clear hm h0 hr hss
  induction l with
  | nil => exact Nat.le_refl _
  | cons r l ih =>
    have := hls r
    simp only [sumL]
    omega
end Go.Proofs.YtiiepllnnjjmaaaDoor.Pi.Q
namespace Go.Proofs.YtiiepllnnjjmaaaDoor.Pi.Q
open Go Go.Proofs.YtiiepllnnjjmaaaDoor.Pi
attribute [local congr] ite_congr
def rollG (first a : Int) : Int := if a < first then a else IntKind.i64.wrap (-100 - IntKind.i64.wrap (a - first))
def rollT (first lim : Int) (b : Bool) (a : Int) : Bool := if a < first then b else b && decide (a < lim)
def unG (first a : Int) : Int := if -100 < a then a else IntKind.i64.wrap (first + -100 - a)
def unT (len : Int) (b : Bool) (a : Int) : Bool := if -100 < a then b else b && decide (IntKind.i64.wrap (-100 - a) < len)
theorem u5d {K : Heap} {n p : Nat} (h : p < n) : hget (hcut K n) p = hget K p := by
  unfold hget hcut
  exact List.getElem?_take_of_lt h
theorem umz {c p1 p3 p4 : Nat} {A : Heap} {first : Int} {z : Bool} {l : List RG} {i : Nat} (hi : i < l.length) (h1 : hget A p1 = some (.cells [.int .i64 first])) (h3 : hget A p3 = some (.cells [LZ z 2 (l.map encRG)])) (h4 : hget A p4 = some (.cells [.int .i64 i])) (l1 : p1 < c) (l3 : p3 < c) (l4 : p4 < c) (hf : 0 ≤ first) (hb : first + l[i].types.l.length ≤ 100000000000) :
    Turn c A (.fn u0c [] [.ptr p1 0, .ptr c 0, .ptr p3 0, .ptr p4 0]) (fun b : Bool => .cells [.bool b]) (rollT first (first + l[i].types.l.length)) (rollG first) (fun _ _ => True) where
  call K s a n hA hs hI := by
    have hid := get_lt hs
    have g1 : hget K p1 = some (.cells [.int .i64 first]) := by rw [← hA, u5d l1] at h1; exact h1
    have g3 : hget K p3 = some (.cells [LZ z 2 (l.map encRG)]) := by rw [← hA, u5d l3] at h3; exact h3
    have g4 : hget K p4 = some (.cells [.int .i64 i]) := by rw [← hA, u5d l4] at h4; exact h4
    have hself := u71 hs
    have hga : (l.map encRG)[i]? = some (encRG l[i]) := by simp [hi]
    have hia : ∀ K, run (iaS 2 (LZ z 2 (l.map encRG)) (.int .i64 i)) K = some (.ok (.elem (cs_RG l[i])) K) := fun K => ia_Z hga
    have q1 : ∀ x, hget (hset K c x) p1 = some (.cells [.int .i64 first]) := fun x => by rw [u1a l1]; exact g1
    unfold cs_RG at hia
    rw [u3q]
    show run (C u0c [.int .i64 a, .ptr p1 0, .ptr c 0, .ptr p3 0, .ptr p4 0]) K = _
    rw [uag]
    unfold rollT rollG
    by_cases h : a < first
    · rw [if_pos h, if_pos h, hself]
      simp +contextual -dsimp (disch := omega) only [↓goDown, goUp, cr, simprocAttr, g1, eq_true h]
    · rw [if_neg h, if_neg h]
      cases s with
      | false =>
        simp +contextual -dsimp (disch := omega) only [↓goDown, goUp, cr, simprocAttr, g1, g3, g4, hs, q1, eq_false h, Bool.false_and]
      | true =>
        by_cases h2 : a < first + l[i].types.l.length
        · simp +contextual -dsimp (disch := omega) only [↓goDown, goUp, cr, simprocAttr, g1, g3, g4, hs, q1, hia, eq_false h, eq_true h2, decide_true, Bool.true_and, strip_Z, u0a, ln_Z, List.length_map]
        · simp +contextual -dsimp (disch := omega) only [↓goDown, goUp, cr, simprocAttr, g1, g3, g4, hs, q1, hia, eq_false h, eq_false h2, decide_false, Bool.true_and, strip_Z, u0a, ln_Z, List.length_map]
  step s a n h := trivial
  mono s n h := trivial
  st := by rfl
  sc := by rfl
  cl := by rfl
  cs := by rfl
  tup := by rfl
  low n h := by
    have a1 : p1 < n := by omega
    have a3 : p3 < n := by omega
    have a4 : p4 < n := by omega
    simp [low_fn, u44, u4u, u97, h, a1, a3, a4]
theorem turnUn {c pr pf : Nat} {A : Heap} {first : Int} {r : RG} (h1 : hget A pf = some (.cells [.int .i64 first])) (h3 : hget A pr = some (.cells (cs_RG r))) (l1 : pf < c) (l3 : pr < c) (hf : 0 ≤ first ∧ first ≤ 2147483647) :
    Turn c A (.fn u05 [] [.ptr c 0, .ptr pr 0, .ptr pf 0]) (fun b : Bool => .cells [.bool b]) (unT r.types.l.length) (unG first) (fun _ _ => True) where
  call K s a n hA hs hI := by
    have hid := get_lt hs
    have g1 : hget K pf = some (.cells [.int .i64 first]) := by rw [← hA, u5d l1] at h1; exact h1
    have g3 : hget K pr = some (.cells (cs_RG r)) := by rw [← hA, u5d l3] at h3; exact h3
    have hself := u71 hs
    have q1 : ∀ x, hget (hset K c x) pf = some (.cells [.int .i64 first]) := fun x => by rw [u1a l1]; exact g1
    unfold cs_RG at g3
    rw [u3q]
    show run (C u05 [.int .i64 a, .ptr c 0, .ptr pr 0, .ptr pf 0]) K = _
    rw [u7h]
    unfold unT unG
    by_cases h : -100 < a
    · rw [if_pos h, if_pos h, hself]
      simp +contextual -dsimp (disch := omega) only [↓goDown, goUp, cr, simprocAttr, g1, eq_true h]
    · rw [if_neg h, if_neg h]
      cases s with
      | false =>
        simp +contextual -dsimp (disch := omega) only [↓goDown, goUp, cr, simprocAttr, g1, g3, hs, q1, eq_false h, Bool.false_and]
      | true =>
        by_cases h2 : IntKind.i64.wrap (-100 - a) < r.types.l.length
        · simp +contextual -dsimp (disch := omega) only [↓goDown, goUp, cr, simprocAttr, g1, g3, hs, q1, eq_false h, eq_true h2, decide_true, Bool.true_and, strip_Z, u0a, ln_Z, List.length_map]
        · simp +contextual -dsimp (disch := omega) only [↓goDown, goUp, cr, simprocAttr, g1, g3, hs, q1, eq_false h, eq_false h2, decide_false, Bool.true_and, strip_Z, u0a, ln_Z, List.length_map]
  step s a n h := trivial
  mono s n h := trivial
  st := by rfl
  sc := by rfl
  cl := by rfl
  cs := by rfl
  tup := by rfl
  low n h := by
    have a1 : pf < n := by omega
    have a3 : pr < n := by omega
    simp [low_fn, u44, u4u, u97, h, a1, a3]
theorem q5 {K : Heap} {i j : Nat} {x y : Box} {L : List Box} (h : j < K.length) (h2 : i < j) : hget (hadd (hset (hset K i x) j y) L) i = some x := by rw [u2i (by rw [u0s, u0s]; omega), u1a h2, u3h (by omega)]
theorem r7 {K : Heap} {i j : Nat} {x y w : Box} {L : List Box} (h : j < K.length) (h2 : i < j) : hset (hadd (hset (hset K i w) j y) L) i x = hadd (hset (hset K i x) j y) L := by rw [u9c (by rw [u0s, u0s]; omega), u4e h2, set_set]
structure Rl (M : Heap) (x y : Box) (K : Heap) : Prop where
  len : M.length + 2 ≤ K.length
  cut : hcut K M.length = M
  gx : hget K M.length = some x
  gy : hget K (M.length + 1) = some y
theorem Rl.next {M K : Heap} {x y x' y' : Box} {L : List Box} (w : Rl M x y K) : Rl M x' y' (hadd (hset (hset K M.length x') (M.length + 1) y') L) := by
  have hl := w.len
  refine ⟨by rw [u2z, u0s, u0s]; omega, ?_, q5 (by omega) (by omega), q3 (by omega)⟩
  rw [cut_le (by rw [u0s, u0s]; omega), u2m (by omega), u2m (by omega), w.cut]
theorem Rl.same {M K : Heap} {x y x' : Box} (w : Rl M x y K) : Rl M x' y (hset K M.length x') := by
  have hl := w.len
  refine ⟨by rw [u0s]; omega, ?_, u3h (by omega), ?_⟩
  · rw [u2m (by omega), w.cut]
  · rw [u25 (by omega)]; exact w.gy
theorem Rl.more {M K : Heap} {x y : Box} (w : Rl M x y K) {L : List Box} : Rl M x y (hadd K L) := by
  have hl := w.len
  refine ⟨by rw [u2z]; omega, ?_, ?_, ?_⟩
  · rw [cut_le (by omega), w.cut]
  · rw [u2i (by omega)]; exact w.gx
  · rw [u2i (by omega)]; exact w.gy
theorem Rl.low {M K : Heap} {x y : Box} (w : Rl M x y K) {p : Nat} {b : Box} (h : hget M p = some b) : hget (hcut K (M.length + 1)) p = some b := by
  have hp := get_lt h
  rw [u5d (by omega), ← h, ← w.cut, u5d hp]
theorem ap_SG {l : List SG} {K : Heap} {v : SG} (hl : l.length < 2000000) : run (ap true 6 112 (accP 6 (l.map encSG)) (.slice true false 6 [.agg (cs_SG v)])) K = some (.ok (accP 6 ((l ++ [v]).map encSG)) K) := by
  have := ap_acc (H := K) (sz := 6) (b := 112) (l := l.map encSG) (v := encSG v) (o := true) (by rw [List.length_map]; show (l.length + 1) * 112 ≤ _; omega)
  rw [List.map_append]
  exact this
theorem bsR_SG {v : SG} {K : Heap} : bsR true (some 6) [.agg (cs_SG v)] K = some (.ok (.slice true false 6 [.agg (cs_SG v)]) K) := by
  unfold cs_SG
  cases v.sup.l <;> cases v.comp.ps.l <;> cases v.comp.rs.l <;> cases v.comp.fs.l <;> simp [bsR, u1i, PV.flat, flatL, LZ]
def gA (t : Bool → Int → Bool) (b : Bool) (v : SG) : Bool := tS t b v
theorem uhz {M : Heap} {p1 p3 p4 : Nat} {first : Int} {zl : Bool} {l : List RG} {i : Nat} (hi : i < l.length) (h1 : hget M p1 = some (.cells [.int .i64 first])) (h3 : hget M p3 = some (.cells [LZ zl 2 (l.map encRG)])) (h4 : hget M p4 = some (.cells [.int .i64 i])) (hf : 0 ≤ first) (hb : first + l[i].types.l.length ≤ 100000000000) {x : Box} {b : Bool} {K : Heap} {v : SG} (w : Rl M x (.cells [.bool b]) K) (hm : nS v ≤ 1048576) : run (C u01 [.agg (cs_SG v), (.fn u0c [] [.ptr p1 0, .ptr (M.length + 1) 0, .ptr p3 0, .ptr p4 0])]) K = some (.ok (.agg (cs_SG (gS (rollG first) v))) (hset K (M.length + 1) (.cells [.bool (gA (rollT first (first + l[i].types.l.length)) b v)]))) := by
  have m1 := get_lt h1
  have m3 := get_lt h3
  have m4 := get_lt h4
  exact (ua1 (H := K) (A := hcut K (M.length + 1)) (c := M.length + 1) (n := 0) (umz hi (w.low h1) (w.low h3) (w.low h4) (by omega) (by omega) (by omega) hf hb) (get_lt w.gy) rfl (s := b) w.gy (by omega) trivial).1
theorem ugq {M : Heap} {p1 p3 p4 : Nat} {first : Int} {zl : Bool} {l : List RG} {i : Nat} (hi : i < l.length) (h1 : hget M p1 = some (.cells [.int .i64 first])) (h3 : hget M p3 = some (.cells [LZ zl 2 (l.map encRG)])) (h4 : hget M p4 = some (.cells [.int .i64 i])) (hf : 0 ≤ first) (hb : first + l[i].types.l.length ≤ 100000000000) {z : Bool} {w : List SG} {v4 v5 : PV} {e : Bool} (hw : smallS w) : ∀ (m j : Nat) (K : Heap) (b : Bool) (acc : List SG), j + m = w.length → acc.length + m ≤ 1048576 → Rl M (.cells [accP 6 (acc.map encSG), .bool e]) (.cells [.bool b]) K →
    ∃ K', Rl M (.cells [accP 6 ((acc ++ (w.drop j).map (gS (rollG first))).map encSG), .bool e]) (.cells [.bool ((w.drop j).foldl (gA (rollT first (first + l[i].types.l.length))) b)]) K' ∧ run (u0g (.ptr p3 0) (.ptr p4 0) v4 v5 (.ptr p1 0) (.ptr M.length 0) (.ptr (M.length + 1) 0) (LZ z 6 (w.map encSG)) (.int .i64 w.length) (.int .i64 j)) K = run (u0g (.ptr p3 0) (.ptr p4 0) v4 v5 (.ptr p1 0) (.ptr M.length 0) (.ptr (M.length + 1) 0) (LZ z 6 (w.map encSG)) (.int .i64 w.length) (.int .i64 w.length)) K'
  | 0, j, K, b, acc, h, ha, rl => by
    have hj : j = w.length := by omega
    subst hj
    rw [List.drop_length]
    refine ⟨K, ?_, rfl⟩
    simpa using rl
  | m + 1, j, K, b, acc, h, ha, rl => by
    have hj : j < w.length := by omega
    have hd : w.drop j = w[j] :: w.drop (j + 1) := List.drop_eq_getElem_cons hj
    have hns := hw.2 _ (List.getElem_mem hj)
    have hlw := hw.1
    have rl2 := rl.next (x' := .cells [accP 6 ((acc ++ [gS (rollG first) w[j]]).map encSG), .bool e]) (y' := .cells [.bool (gA (rollT first (first + l[i].types.l.length)) b w[j])]) (L := [.cells (cs_SG w[j])])
    obtain ⟨K', rl3, hr⟩ := ugq hi h1 h3 h4 hf hb (z := z) (w := w) (v4 := v4) (v5 := v5) (e := e) hw m (j + 1) _ _ (acc ++ [gS (rollG first) w[j]]) (by omega) (by rw [List.length_append]; simp; omega) rl2
    refine ⟨K', ?_, ?_⟩
    · rw [hd, List.foldl_cons, List.map_cons, List.append_cons]
      exact rl3
    · rw [← hr, u33]
      have hlen := rl.len
      have ho := rl.gx
      have c1 : ((j : Int) < w.length) = True := eq_true (by omega)
      have hga : (w.map encSG)[j]? = some (encSG w[j]) := by simp [hj]
      have hia : ∀ K, run (iaS 6 (LZ z 6 (w.map encSG)) (.int .i64 j)) K = some (.ok (.elem (cs_SG w[j])) K) := fun K => ia_Z hga
      have k1 : ∀ X, _ := fun X => uhz hi h1 h3 h4 hf hb (rl.more (L := X)) hns
      have k2 : ∀ x X, _ := fun x X => uhz hi h1 h3 h4 hf hb ((rl.same (x' := x)).more (L := X)) hns
      have hbs := fun K => bsR_SG (v := gS (rollG first) w[j]) (K := K)
      have hap : ∀ K, run (ap true 6 112 (accP 6 (acc.map encSG)) (.slice true false 6 [.agg (cs_SG (gS (rollG first) w[j]))])) K = some (.ok (accP 6 ((acc ++ [gS (rollG first) w[j]]).map encSG)) K) := fun K => ap_SG (by omega)
      have hso : ∀ (K : Heap) x y, hset (hset K (M.length + 1) x) M.length y = hset (hset K M.length y) (M.length + 1) x := fun K x y => u4e (by omega)
      generalize hgs : gS (rollG first) w[j] = gs at k1 k2 hbs hap ⊢
      unfold cs_SG at hia k1 k2 hbs hap ⊢
      simp +contextual -dsimp (disch := omega) only [↓goDown, goUp, cr, simprocAttr, c1, hia, ho, k1, k2, hbs, hap, run_mf, hso, u25, u1a, u52, q1, q2, q3, q4, q5, r2, r3, r4, r6, r7, u2f, u4q, u2h, u2l, u22, u3j, u23, u15, u24, u4t, u3x, low_P, u3y, u4y, u50, u17, u0m, low_Z, u0a, strip_Z, u0y, ns]
      all_goals rfl
theorem uat {M : Heap} {pr pf : Nat} {first : Int} {r : RG} (h1 : hget M pf = some (.cells [.int .i64 first])) (h3 : hget M pr = some (.cells (cs_RG r))) (hf : 0 ≤ first ∧ first ≤ 2147483647) {x : Box} {b : Bool} {K : Heap} {v : SG} (w : Rl M x (.cells [.bool b]) K) (hm : nS v ≤ 1048576) : run (C u01 [.agg (cs_SG v), (.fn u05 [] [.ptr (M.length + 1) 0, .ptr pr 0, .ptr pf 0])]) K = some (.ok (.agg (cs_SG (gS (unG first) v))) (hset K (M.length + 1) (.cells [.bool (gA (unT r.types.l.length) b v)]))) := by
  have m1 := get_lt h1
  have m3 := get_lt h3
  exact (ua1 (H := K) (A := hcut K (M.length + 1)) (c := M.length + 1) (n := 0) (turnUn (w.low h1) (w.low h3) (by omega) (by omega) hf) (get_lt w.gy) rfl (s := b) w.gy (by omega) trivial).1
theorem uaq {M : Heap} {pr pf : Nat} {first : Int} {r : RG} (h1 : hget M pf = some (.cells [.int .i64 first])) (h3 : hget M pr = some (.cells (cs_RG r))) (hf : 0 ≤ first ∧ first ≤ 2147483647) {z : Bool} {w : List SG} {v4 v5 : PV} {e : Bool} (hw : smallS w) : ∀ (m j : Nat) (K : Heap) (b : Bool) (acc : List SG), j + m = w.length → acc.length + m ≤ 1048576 → Rl M (.cells [accP 6 (acc.map encSG), .bool e]) (.cells [.bool b]) K →
    ∃ K', Rl M (.cells [accP 6 ((acc ++ (w.drop j).map (gS (unG first))).map encSG), .bool e]) (.cells [.bool ((w.drop j).foldl (gA (unT r.types.l.length)) b)]) K' ∧ run (u0e (.ptr pr 0) (.ptr pf 0) v4 v5 (.ptr M.length 0) (.ptr (M.length + 1) 0) (LZ z 6 (w.map encSG)) (.int .i64 w.length) (.int .i64 j)) K = run (u0e (.ptr pr 0) (.ptr pf 0) v4 v5 (.ptr M.length 0) (.ptr (M.length + 1) 0) (LZ z 6 (w.map encSG)) (.int .i64 w.length) (.int .i64 w.length)) K'
  | 0, j, K, b, acc, h, ha, rl => by
    have hj : j = w.length := by omega
    subst hj
    rw [List.drop_length]
    refine ⟨K, ?_, rfl⟩
    simpa using rl
  | m + 1, j, K, b, acc, h, ha, rl => by
    have hj : j < w.length := by omega
    have hd : w.drop j = w[j] :: w.drop (j + 1) := List.drop_eq_getElem_cons hj
    have hns := hw.2 _ (List.getElem_mem hj)
    have hlw := hw.1
    have rl2 := rl.next (x' := .cells [accP 6 ((acc ++ [gS (unG first) w[j]]).map encSG), .bool e]) (y' := .cells [.bool (gA (unT r.types.l.length) b w[j])]) (L := [.cells (cs_SG w[j])])
    obtain ⟨K', rl3, hr⟩ := uaq h1 h3 hf (z := z) (w := w) (v4 := v4) (v5 := v5) (e := e) hw m (j + 1) _ _ (acc ++ [gS (unG first) w[j]]) (by omega) (by rw [List.length_append]; simp; omega) rl2
    refine ⟨K', ?_, ?_⟩
    · rw [hd, List.foldl_cons, List.map_cons, List.append_cons]
      exact rl3
    · rw [← hr, u2s]
      have hlen := rl.len
      have ho := rl.gx
      have c1 : ((j : Int) < w.length) = True := eq_true (by omega)
      have hga : (w.map encSG)[j]? = some (encSG w[j]) := by simp [hj]
      have hia : ∀ K, run (iaS 6 (LZ z 6 (w.map encSG)) (.int .i64 j)) K = some (.ok (.elem (cs_SG w[j])) K) := fun K => ia_Z hga
      have k1 : ∀ X, _ := fun X => uat h1 h3 hf (rl.more (L := X)) hns
      have k2 : ∀ x X, _ := fun x X => uat h1 h3 hf ((rl.same (x' := x)).more (L := X)) hns
      have hbs := fun K => bsR_SG (v := gS (unG first) w[j]) (K := K)
      have hap : ∀ K, run (ap true 6 112 (accP 6 (acc.map encSG)) (.slice true false 6 [.agg (cs_SG (gS (unG first) w[j]))])) K = some (.ok (accP 6 ((acc ++ [gS (unG first) w[j]]).map encSG)) K) := fun K => ap_SG (by omega)
      have hso : ∀ (K : Heap) x y, hset (hset K (M.length + 1) x) M.length y = hset (hset K M.length y) (M.length + 1) x := fun K x y => u4e (by omega)
      generalize hgs : gS (unG first) w[j] = gs at k1 k2 hbs hap ⊢
      unfold cs_SG at hia k1 k2 hbs hap ⊢
      simp +contextual -dsimp (disch := omega) only [↓goDown, goUp, cr, simprocAttr, c1, hia, ho, k1, k2, hbs, hap, run_mf, hso, u25, u1a, u52, q1, q2, q3, q4, q5, r2, r3, r4, r6, r7, u2f, u4q, u2h, u2l, u22, u3j, u23, u15, u24, u4t, u3x, low_P, u3y, u4y, u50, u17, u0m, low_Z, u0a, strip_Z, u0y, ns]
      all_goals rfl
end Go.Proofs.YtiiepllnnjjmaaaDoor.Pi.Q
namespace Go.Proofs.YtiiepllnnjjmaaaDoor.Pi.Q
open Go Go.Proofs.YtiiepllnnjjmaaaDoor.Pi
attribute [local congr] ite_congr
theorem hps_gv {g : Int → Int} : ∀ l : List VT, hps (l.map (gv g)) = (hps l).map g
  | [] => rfl
  | v :: l => by
    rw [List.map_cons, hps, hps, hps_gv l]
    unfold gv
    by_cases h : v.num = 5
    · rw [if_pos h, if_pos h, if_pos h]; rfl
    · rw [if_neg h, if_neg h, if_neg h]
theorem hps_gf {g : Int → Int} (l : List FT) : hps ((l.map (gf g)).map (·.ty)) = (hps (l.map (·.ty))).map g := by
  rw [← hps_gv, List.map_map, List.map_map]
  rfl
theorem ukq {g : Int → Int} {v : SG} : allS (gS g v) = (allS v).map g := by
  unfold allS gS
  simp only [hps_gv, hps_gf, List.map_append]
theorem nS_gS {g : Int → Int} {v : SG} : nS (gS g v) = nS v := by
  unfold nS gS
  simp only [List.length_map]
theorem gv_gv {g k : Int → Int} {v : VT} : gv k (gv g v) = gv (k ∘ g) v := by
  unfold gv
  by_cases h : v.num = 5
  · rw [if_pos h]; simp [h]
  · rw [if_neg h, if_neg h, if_neg h]
theorem gS_gS {g k : Int → Int} {v : SG} : gS k (gS g v) = gS (k ∘ g) v := by
  have h1 : ∀ l : List VT, (l.map (gv g)).map (gv k) = l.map (gv (k ∘ g)) := fun l => by rw [List.map_map]; exact List.map_congr_left fun v _ => gv_gv
  have h2 : ∀ l : List FT, (l.map (gf g)).map (gf k) = l.map (gf (k ∘ g)) := fun l => by
    rw [List.map_map]
    refine List.map_congr_left fun v _ => ?_
    show gf k (gf g v) = _
    unfold gf
    rw [gv_gv]
  unfold gS
  simp only [h1, h2, List.map_map]
theorem gv_fix {g : Int → Int} : ∀ (l : List VT), (∀ h ∈ hps l, g h = h) → l.map (gv g) = l
  | [], _ => rfl
  | v :: l, hh => by
    rw [hps] at hh
    by_cases h : v.num = 5
    · rw [if_pos h] at hh
      rw [List.map_cons, gv_fix l (fun a ha => hh a (List.mem_cons_of_mem _ ha))]
      unfold gv
      rw [if_pos h, hh v.heap List.mem_cons_self]
    · rw [if_neg h] at hh
      rw [List.map_cons, gv_fix l hh]
      unfold gv
      rw [if_neg h]
theorem gf_fix {g : Int → Int} : ∀ (l : List FT), (∀ h ∈ hps (l.map (·.ty)), g h = h) → l.map (gf g) = l
  | [], _ => rfl
  | v :: l, hh => by
    rw [List.map_cons, hps] at hh
    by_cases h : v.ty.num = 5
    · rw [if_pos h] at hh
      rw [List.map_cons, gf_fix l (fun a ha => hh a (List.mem_cons_of_mem _ ha))]
      unfold gf gv
      rw [if_pos h, hh v.ty.heap List.mem_cons_self]
    · rw [if_neg h] at hh
      rw [List.map_cons, gf_fix l hh]
      unfold gf gv
      rw [if_neg h]
theorem gS_fix {g : Int → Int} {v : SG} (h : ∀ a ∈ allS v, g a = a) : (gS g v).plain = v.plain := by
  unfold allS at h
  have h0 : v.sup.l.map g = v.sup.l := by
    conv => rhs; rw [← List.map_id v.sup.l]
    exact List.map_congr_left fun a ha => h a (by simp [ha])
  have h1 := gv_fix (g := g) v.comp.ps.l (fun a ha => h a (by simp [ha]))
  have h2 := gv_fix (g := g) v.comp.rs.l (fun a ha => h a (by simp [ha]))
  have h3 := gf_fix (g := g) v.comp.fs.l (fun a ha => h a (by
    rw [List.mem_append]; exact .inr ha))
  unfold gS SG.plain CG.plain
  simp only [h0, h1, h2, h3]
theorem ud8 {f lim : Int} : ∀ l : List Int, (∀ a ∈ l, a < lim) → l.foldl (rollT f lim) true = true
  | [], _ => rfl
  | a :: l, h => by
    rw [List.foldl_cons, show rollT f lim true a = true by unfold rollT; split; rfl; simp [h a List.mem_cons_self]]
    exact ud8 l fun b hb => h b (List.mem_cons_of_mem _ hb)
theorem ulz {len : Int} : ∀ l : List Int, (∀ a ∈ l, -100 < a ∨ IntKind.i64.wrap (-100 - a) < len) → l.foldl (unT len) true = true
  | [], _ => rfl
  | a :: l, h => by
    have h1 := h a List.mem_cons_self
    rw [List.foldl_cons, show unT len true a = true by
      unfold unT
      split
      · rfl
      · rename_i hn
        rw [decide_eq_true (h1.resolve_left hn)]
        rfl]
    exact ulz l fun b hb => h b (List.mem_cons_of_mem _ hb)
theorem ufw {t : Bool → Int → Bool} : ∀ l : List SG, (∀ s ∈ l, (allS s).foldl t true = true) → l.foldl (gA t) true = true
  | [], _ => rfl
  | s :: l, h => by
    rw [List.foldl_cons, show gA t true s = true by unfold gA; rw [tS_is]; exact h s List.mem_cons_self]
    exact ufw l fun b hb => h b (List.mem_cons_of_mem _ hb)
theorem Rl.old {M K : Heap} {x y : Box} (w : Rl M x y K) {p : Nat} {b : Box} (h : hget M p = some b) : hget K p = some b := by
  have hp := get_lt h
  rw [← h, ← w.cut, u5d hp]
theorem sl_LZ {z : Bool} {l : List RG} {i : Nat} {H : Heap} (hi : i < l.length) : run (slL 2 (LZ z 2 (l.map encRG)) none (some (.int .i64 i))) H = some (.ok (LZ false 2 ((l.take i).map encRG)) H) := by
  obtain ⟨a, r, rfl⟩ : ∃ a r, l = a :: r := by
    cases l with
    | nil => simp at hi
    | cons a r => exact ⟨a, r, rfl⟩
  have h1 : i ≤ ((a :: r).map encRG).length := by simp only [List.length_map]; omega
  have e1 : (LZ false 2 (((a :: r).take i).map encRG)) = .slice false false 2 (((a :: r).map encRG).take i) := by
    rw [← List.map_take]
    cases ((a :: r).take i).map encRG <;> rfl
  rw [e1]
  unfold run slL bnd
  simp only [LZ, List.map_cons]
  have h2 : i ≤ r.length + 1 := by simp only [List.length_cons] at hi; omega
  simp [h2, M.pure]
  all_goals omega
def rolled (f : Int) (r : RG) : RG := ⟨⟨true, r.types.l.map (gS (rollG f))⟩, r.exp⟩
def u2w (f : Int) (r : RG) : RG := ⟨⟨true, r.types.l.map (gS (unG f))⟩, r.exp⟩
theorem pRoll {H : Heap} {z : Bool} {l : List RG} {i : Nat} (hi : i < l.length) (hl : smallR l) (hn : nT l ≤ 10000000000) (ht : smallR (l.take i)) (hn2 : nT (l.take i) ≤ 10000000000)
    (hok : l[i].types.l.foldl (gA (rollT (nT (l.take i)) (nT (l.take i) + l[i].types.l.length))) true = true) :
    run (C u4b [LZ z 2 (l.map encRG), .int .i64 i]) H = some (.ok (.tup [.agg (cs_RG (rolled (nT (l.take i)) l[i])), .int .i64 0]) H) := by
  have hsm := hl.2 _ (List.getElem_mem hi)
  have hl1 := hsm.1
  have hll := hl.1
  have c1 : ((i : Int) < 0) = False := eq_false (by omega)
  have c2 : ((l.length : Int) ≤ i) = False := eq_false (by omega)
  have hsl := fun K => sl_LZ (z := z) (H := K) hi
  have hc := fun K => pCount (H := K) (z := false) ht (by omega)
  have hga : (l.map encRG)[i]? = some (encRG l[i]) := by simp [hi]
  have hia : ∀ K, run (iaS 2 (LZ z 2 (l.map encRG)) (.int .i64 i)) K = some (.ok (.elem (cs_RG l[i])) K) := fun K => ia_Z hga
  generalize hM : hadd H [.cells [LZ z 2 (l.map encRG)], .cells [.int .i64 i], .cells [.slice false true 0 [], .bool false], .cells [.int .i64 (nT (l.take i))]] = M
  have hMl : M.length = H.length + 4 := by rw [← hM, u2z]; rfl
  have m0 : hget M H.length = some (.cells [LZ z 2 (l.map encRG)]) := by rw [← hM]; exact u3p
  have m1 : hget M (H.length + 1) = some (.cells [.int .i64 i]) := by rw [← hM]; exact u2q 1
  have m2 : hget M (H.length + 2) = some (.cells [.slice false true 0 [], .bool false]) := by rw [← hM]; exact u2q 2
  have m3 : hget M (H.length + 3) = some (.cells [.int .i64 (nT (l.take i))]) := by rw [← hM]; exact u2q 3
  have rl0 : Rl M (.cells [accP 6 (([] : List SG).map encSG), .bool l[i].exp]) (.cells [.bool true]) (hadd M [.cells [accP 6 (([] : List SG).map encSG), .bool l[i].exp], .cells [.bool true]]) := ⟨by rw [u2z]; exact Nat.le_refl _, cutA0, u3p, u2q 1⟩
  obtain ⟨K', rl, hr⟩ := ugq (z := l[i].types.z) (w := l[i].types.l) (v4 := .ptr (H.length + 2) 0) (v5 := .int .i64 0) (e := l[i].exp) hi m3 m0 m1 (by omega) (by omega) hsm l[i].types.l.length 0 _ true [] (Nat.zero_add _) (by simpa using hl1) rl0
  rw [List.drop_zero, List.nil_append, hok] at rl
  rw [hMl] at hr
  have hfin : truncR H (run (u0g (.ptr H.length 0) (.ptr (H.length + 1) 0) (.ptr (H.length + 2) 0) (.int .i64 0) (.ptr (H.length + 3) 0) (.ptr (H.length + 4) 0) (.ptr (H.length + 5) 0) (LZ l[i].types.z 6 (l[i].types.l.map encSG)) (.int .i64 l[i].types.l.length) (.int .i64 l[i].types.l.length)) K') = some (.ok (.tup [.agg (cs_RG (rolled (nT (l.take i)) l[i])), .int .i64 0]) H) := by
    have e1 : ((l[i].types.l.length : Int) < l[i].types.l.length) = False := eq_false (by omega)
    have gx := rl.gx
    have gy := rl.gy
    have g2 := rl.old m2
    have hlen := rl.len
    rw [hMl] at gx gy hlen
    have gs : ∀ x, hget (hset K' (H.length + 2) x) (H.length + 2) = some x := fun x => u3h (by omega)
    have hk : ∀ x, hcut (hset K' (H.length + 2) x) H.length = H := fun x => by
      rw [u2m (by omega)]
      have h1 : hcut (hcut K' M.length) H.length = hcut K' H.length := by unfold hcut; rw [List.take_take, Nat.min_eq_left (by omega)]
      rw [← h1, rl.cut, ← hM]
      exact cutA0
    rw [u33]
    unfold cs_RG rolled
    simp +contextual -dsimp (disch := omega) only [↓goDown, goUp, cr, simprocAttr, e1, gx, gy, g2, gs, hk, un_not, Bool.not_true, u2l, u22, u3j, u23, u15, u24, u4t, u3x, low_P, u3y, u4y, u50, u3t, u17, u0m, low_Z, u0a, strip_Z, u0y]
  have hr2 : run (u0g (.ptr H.length 0) (.ptr (H.length + 1) 0) (.ptr (H.length + 2) 0) (.int .i64 0) (.ptr (H.length + 3) 0) (.ptr (H.length + 4) 0) (.ptr (H.length + 5) 0) (LZ l[i].types.z 6 (l[i].types.l.map encSG)) (.int .i64 l[i].types.l.length) (.int .i64 (0 : Nat))) _ = run (u0g (.ptr H.length 0) (.ptr (H.length + 1) 0) (.ptr (H.length + 2) 0) (.int .i64 0) (.ptr (H.length + 3) 0) (.ptr (H.length + 4) 0) (.ptr (H.length + 5) 0) (LZ l[i].types.z 6 (l[i].types.l.map encSG)) (.int .i64 l[i].types.l.length) (.int .i64 l[i].types.l.length)) K' := hr
  rw [← hfin, ← hr2, ← hM, u9k, uc0]
  unfold cs_RG at hia
  simp +contextual -dsimp (disch := omega) only [↓goDown, goUp, cr, simprocAttr, c1, c2, hsl, hc, hia, u17, u0m, low_Z, u0a, strip_Z, u0y, ln_Z, List.length_map]
  all_goals rfl
theorem ul3 {H : Heap} {r : RG} {f : Int} (hs : smallS r.types.l) (hf : 0 ≤ f ∧ f ≤ 2147483647) (hok : r.types.l.foldl (gA (unT r.types.l.length)) true = true) :
    run (C u2v [.agg (cs_RG r), .int .i64 f]) H = some (.ok (.tup [.agg (cs_RG (u2w f r)), .int .i64 0]) H) := by
  have hl1 := hs.1
  have c1 : (f < 0) = False := eq_false (by omega)
  have c2 : (2147483647 < f) = False := eq_false (by omega)
  generalize hM : hadd H [.cells (cs_RG r), .cells [.int .i64 f], .cells [.slice false true 0 [], .bool false]] = M
  have hMl : M.length = H.length + 3 := by rw [← hM, u2z]; rfl
  have m0 : hget M H.length = some (.cells (cs_RG r)) := by rw [← hM]; exact u3p
  have m1 : hget M (H.length + 1) = some (.cells [.int .i64 f]) := by rw [← hM]; exact u2q 1
  have m2 : hget M (H.length + 2) = some (.cells [.slice false true 0 [], .bool false]) := by rw [← hM]; exact u2q 2
  have rl0 : Rl M (.cells [accP 6 (([] : List SG).map encSG), .bool r.exp]) (.cells [.bool true]) (hadd M [.cells [accP 6 (([] : List SG).map encSG), .bool r.exp], .cells [.bool true]]) := ⟨by rw [u2z]; exact Nat.le_refl _, cutA0, u3p, u2q 1⟩
  obtain ⟨K', rl, hr⟩ := uaq (z := r.types.z) (w := r.types.l) (v4 := .ptr (H.length + 2) 0) (v5 := .int .i64 0) (e := r.exp) m1 m0 hf hs r.types.l.length 0 _ true [] (Nat.zero_add _) (by simpa using hl1) rl0
  rw [List.drop_zero, List.nil_append, hok] at rl
  rw [hMl] at hr
  have hfin : truncR H (run (u0e (.ptr H.length 0) (.ptr (H.length + 1) 0) (.ptr (H.length + 2) 0) (.int .i64 0) (.ptr (H.length + 3) 0) (.ptr (H.length + 4) 0) (LZ r.types.z 6 (r.types.l.map encSG)) (.int .i64 r.types.l.length) (.int .i64 r.types.l.length)) K') = some (.ok (.tup [.agg (cs_RG (u2w f r)), .int .i64 0]) H) := by
    have e1 : ((r.types.l.length : Int) < r.types.l.length) = False := eq_false (by omega)
    have gx := rl.gx
    have gy := rl.gy
    have g2 := rl.old m2
    have hlen := rl.len
    rw [hMl] at gx gy hlen
    have gs : ∀ x, hget (hset K' (H.length + 2) x) (H.length + 2) = some x := fun x => u3h (by omega)
    have hk : ∀ x, hcut (hset K' (H.length + 2) x) H.length = H := fun x => by
      rw [u2m (by omega)]
      have h1 : hcut (hcut K' M.length) H.length = hcut K' H.length := by unfold hcut; rw [List.take_take, Nat.min_eq_left (by omega)]
      rw [← h1, rl.cut, ← hM]
      exact cutA0
    rw [u2s]
    unfold cs_RG u2w
    simp +contextual -dsimp (disch := omega) only [↓goDown, goUp, cr, simprocAttr, e1, gx, gy, g2, gs, hk, un_not, Bool.not_true, u2l, u22, u3j, u23, u15, u24, u4t, u3x, low_P, u3y, u4y, u50, u3t, u17, u0m, low_Z, u0a, strip_Z, u0y]
  have hr2 : run (u0e (.ptr H.length 0) (.ptr (H.length + 1) 0) (.ptr (H.length + 2) 0) (.int .i64 0) (.ptr (H.length + 3) 0) (.ptr (H.length + 4) 0) (LZ r.types.z 6 (r.types.l.map encSG)) (.int .i64 r.types.l.length) (.int .i64 (0 : Nat))) _ = run (u0e (.ptr H.length 0) (.ptr (H.length + 1) 0) (.ptr (H.length + 2) 0) (.int .i64 0) (.ptr (H.length + 3) 0) (.ptr (H.length + 4) 0) (LZ r.types.z 6 (r.types.l.map encSG)) (.int .i64 r.types.l.length) (.int .i64 r.types.l.length)) K' := hr
  rw [← hfin, ← hr2, ← hM, u9k, u9h]
  unfold cs_RG
  simp +contextual -dsimp (disch := omega) only [↓goDown, goUp, cr, simprocAttr, c1, c2, u17, u0m, low_Z, u0a, strip_Z, u0y, ln_Z, List.length_map]
  all_goals rfl
end Go.Proofs.YtiiepllnnjjmaaaDoor.Pi.Q
namespace Go.Proofs.YtiiepllnnjjmaaaDoor.Pi.Q
open Go Go.Proofs.YtiiepllnnjjmaaaDoor.Pi
attribute [local congr] ite_congr
theorem ukn {e : Nat} : ∀ (l : List SG) (n : Nat), cG e l n = none → ∀ s ∈ l, okT e s = true
  | [], n, h, s, hs => by cases hs
  | v :: l, n, h, s, hs => by
    rw [cG] at h
    cases hc : okT e v with
    | false => rw [hc] at h; simp at h
    | true =>
      rw [hc, if_pos rfl] at h
      rcases List.mem_cons.mp hs with rfl | hs
      · exact hc
      · exact ukn l _ h s hs
theorem ujl : ∀ (l : List RG) (n : Nat), cL l n = none → ∀ (i : Nat) (hi : i < l.length), ∀ s ∈ l[i].types.l, okT (n + nT (l.take i) + l[i].types.l.length : Nat) s = true
  | [], n, h, i, hi => by simp at hi
  | r :: l, n, h, i, hi => by
    rw [cL] at h
    cases hc : cG (n + r.types.l.length) r.types.l n with
    | some k => rw [hc] at h; simp at h
    | none =>
      rw [hc] at h
      simp only at h
      cases i with
      | zero => exact ukn _ _ hc
      | succ i =>
        have ih := ujl l _ h i (by simpa using hi)
        intro s hs
        have h2 := ih s hs
        have e1 : nT ((r :: l).take (i + 1)) = r.types.l.length + nT (l.take i) := rfl
        rw [e1, ← Nat.add_assoc]
        exact h2
theorem okT_in {e : Int} {v : SG} (h : okT e v = true) : ∀ a ∈ allS v, a < e ∧ -12 ≤ a := by
  unfold okT okA at h
  rw [Bool.and_eq_true, List.all_eq_true] at h
  intro a ha
  have := h.2 a ha
  simpa using this
theorem uo3 {l : List RG} {i : Nat} : nT (l.take i) ≤ nT l := by
  induction l generalizing i with
  | nil => simp [nT]
  | cons r l ih =>
    cases i with
    | zero => exact Nat.zero_le _
    | succ i =>
      have := ih (i := i)
      show r.types.l.length + nT (l.take i) ≤ r.types.l.length + nT l
      omega
theorem ubv {l : List RG} {i : Nat} (h : smallR l) : smallR (l.take i) :=
  ⟨by rw [List.length_take]; have := h.1; omega, fun r hr => h.2 r (List.mem_of_mem_take hr)⟩
def shN (f o a : Int) : Int := if a < f then a else a + o
theorem wrapI {n : Int} (h : -9223372036854775808 ≤ n ∧ n ≤ 9223372036854775807) : IntKind.i64.wrap n = n := w_i64 h
theorem uhn {f a : Int} (h : ¬ a < f) (hf : 0 ≤ f) (ha : a ≤ 1000000000000) : rollG f a = -100 - (a - f) := by
  unfold rollG
  rw [if_neg h, wrapI (n := a - f) (by omega), wrapI (by omega)]
theorem uki {f o a : Int} (hf : 0 ≤ f) (ho : 0 ≤ o) (ho2 : f + o ≤ 2147483647) (h1 : -12 ≤ a) (h2 : a ≤ 1000000000000) : unG (f + o) (rollG f a) = shN f o a := by
  unfold shN
  by_cases h : a < f
  · have e1 : rollG f a = a := by unfold rollG; rw [if_pos h]
    rw [e1, if_pos h]
    unfold unG
    rw [if_pos (by omega)]
  · rw [uhn h hf h2, if_neg h]
    unfold unG
    rw [if_neg (by omega), wrapI (by omega)]
    omega
theorem un_ok {f len a : Int} (hf : 0 ≤ f) (h1 : -12 ≤ a) (h2 : a < f + len) (h3 : f + len ≤ 1000000000000) : -100 < rollG f a ∨ IntKind.i64.wrap (-100 - rollG f a) < len := by
  by_cases h : a < f
  · left
    unfold rollG
    rw [if_pos h]
    omega
  · right
    rw [uhn h hf (by omega), wrapI (by omega)]
    omega
theorem ujh {g : Int → Int} : ∀ l : List Int, (∀ a ∈ l, (0 ≤ g a ↔ 0 ≤ a)) → pos (l.map g) = (pos l).map g
  | [], _ => rfl
  | a :: l, h => by
    have ih := ujh l fun b hb => h b (List.mem_cons_of_mem _ hb)
    have h1 := h a List.mem_cons_self
    rw [List.map_cons]
    by_cases h0 : 0 ≤ a
    · rw [show pos (a :: l) = a :: pos l from List.filter_cons_of_pos (decide_eq_true h0), show pos (g a :: l.map g) = g a :: pos (l.map g) from List.filter_cons_of_pos (decide_eq_true (h1.mpr h0)), ih]
      rfl
    · rw [show pos (a :: l) = pos l from List.filter_cons_of_neg (by simpa using h0), show pos (g a :: l.map g) = pos (l.map g) from List.filter_cons_of_neg (by simpa using fun hh => h0 (h1.mp hh)), ih]
theorem uml {H : Heap} {z : Bool} {l : List RG} {i : Nat} (hi : i < l.length) (hl : smallR (l.take i)) (hn : nT (l.take i) ≤ 10000000000) : run (C u2r [LZ z 2 (l.map encRG), .int .i64 i]) H = some (.ok (.int .i64 (nT (l.take i))) H) := by
  have hsl := fun K => sl_LZ (z := z) (H := K) hi
  have hc := fun K => umo (H := K) (z := false) hl (by omega)
  rw [u57]
  simp +contextual -dsimp (disch := omega) only [↓goDown, goUp, cr, simprocAttr, strip_Z, hsl, hc]
theorem uie {H : Heap} {z : Bool} {l : List RG} {i : Nat} {f o : Int} {v6 v15 : PV} {j : Nat} {u : List Int} (hf : 0 ≤ f) (ho : 0 ≤ o ∧ o ≤ 255) (hj : j ≤ 1048576) (hu : u.length < 2000000) (hr : ∀ a ∈ u, 0 ≤ a ∧ a ≤ 1000000000000) : ∀ (m k : Nat), k + m = u.length →
    run (u0b (LZ z 2 (l.map encRG)) (.int .i64 i) (.int .u8 o) v6 (.int .i64 f) v15 (.int .i64 j) (accP 1 (u.map encI)) (accP 1 ((u.map (shN f o)).map encI)) (.int .i64 k)) H =
      run (u06 (LZ z 2 (l.map encRG)) (.int .i64 i) (.int .u8 o) v6 (.int .i64 f) v15 (.int .i64 (j + 1 : Nat))) H
  | 0, k, h => by
    have c1 : ((k : Int) < u.length) = False := eq_false (by omega)
    rw [u0n]
    simp +contextual -dsimp (disch := omega) only [↓goDown, goUp, cr, simprocAttr, u15, u3t, strip_Z, ln_Z, List.length_map, c1, ns]
    all_goals rfl
  | m + 1, k, h => by
    have hk : k < u.length := by omega
    have ih := uie (H := H) (z := z) (l := l) (i := i) (v6 := v6) (v15 := v15) hf ho hj hu hr m (k + 1) (by omega)
    rw [← ih, u0n]
    have c1 : ((k : Int) < u.length) = True := eq_true (by omega)
    have hga : (u.map encI)[k]? = some (encI u[k]) := by simp [hk]
    have hgb : ((u.map (shN f o)).map encI)[k]? = some (encI (shN f o u[k])) := by simp [hk]
    have hia : ∀ K, run (iaS 1 (LZ true 1 (u.map encI)) (.int .i64 k)) K = some (.ok (.elem [.int .i64 u[k]]) K) := fun K => ia_Z hga
    have hib : ∀ K, run (iaS 1 (LZ true 1 ((u.map (shN f o)).map encI)) (.int .i64 k)) K = some (.ok (.elem [.int .i64 (shN f o u[k])]) K) := fun K => ia_Z hgb
    have hb := hr _ (List.getElem_mem hk)
    by_cases hlt : u[k] < f
    · have e1 : (shN f o u[k] != u[k]) = false := by unfold shN; rw [if_pos hlt]; simp
      have e2 : (f ≤ u[k]) = False := eq_false (by omega)
      simp +contextual -dsimp (disch := omega) only [↓goDown, goUp, cr, simprocAttr, u15, u3t, strip_Z, ln_Z, List.length_map, c1, hia, hib, eq_true hlt, neqI, e1, e2, ns]
      all_goals rfl
    · have e1 : (shN f o u[k] != u[k] + o) = false := by unfold shN; rw [if_neg hlt]; simp
      have e2 : (f ≤ u[k]) = True := eq_true (by omega)
      simp +contextual -dsimp (disch := omega) only [↓goDown, goUp, cr, simprocAttr, u15, u3t, strip_Z, ln_Z, List.length_map, c1, hia, hib, eq_false hlt, neqI, e1, e2, ns]
      all_goals rfl
theorem ui6 {H : Heap} {z : Bool} {l : List RG} {i p : Nat} {f o : Int} {v6 : PV} {g : Int → Int} {e : Bool} (hi : i < l.length) (hl : smallR l) (hf : 0 ≤ f) (ho : 0 ≤ o ∧ o ≤ 255) (hp : hget H p = some (.cells [LZ true 6 ((l[i].types.l.map (gS g)).map encSG), .bool e]))
    (hr : ∀ s ∈ l[i].types.l, ∀ a ∈ allS s, g a = shN f o a ∧ a ≤ 1000000000000) : ∀ (m j : Nat), j + m = l[i].types.l.length →
    run (u06 (LZ z 2 (l.map encRG)) (.int .i64 i) (.int .u8 o) v6 (.int .i64 f) (.ptr p 0) (.int .i64 j)) H = some (.ok (.bool true) H)
  | 0, j, h => by
    have hll := hl.1
    have c1 : ((j : Int) < l[i].types.l.length) = False := eq_false (by omega)
    have hga : (l.map encRG)[i]? = some (encRG l[i]) := by simp [hi]
    have hia : ∀ K, run (iaS 2 (LZ z 2 (l.map encRG)) (.int .i64 i)) K = some (.ok (.elem (cs_RG l[i])) K) := fun K => ia_Z hga
    unfold cs_RG at hia
    rw [u16]
    simp +contextual -dsimp (disch := omega) only [↓goDown, goUp, cr, simprocAttr, hia, strip_Z, u0a, ln_Z, List.length_map, c1, u7b]
  | m + 1, j, h => by
    have hll := hl.1
    have hsm := hl.2 _ (List.getElem_mem hi)
    have hl1 := hsm.1
    have hj : j < l[i].types.l.length := by omega
    have ih := ui6 (z := z) (v6 := v6) hi hl hf ho hp hr m (j + 1) (by omega)
    have hns := hsm.2 _ (List.getElem_mem hj)
    have hrj := hr _ (List.getElem_mem hj)
    have c1 : ((j : Int) < l[i].types.l.length) = True := eq_true (by omega)
    have hga : (l.map encRG)[i]? = some (encRG l[i]) := by simp [hi]
    have hia : ∀ K, run (iaS 2 (LZ z 2 (l.map encRG)) (.int .i64 i)) K = some (.ok (.elem (cs_RG l[i])) K) := fun K => ia_Z hga
    have hgb : (l[i].types.l.map encSG)[j]? = some (encSG l[i].types.l[j]) := by simp [hj]
    have hib : ∀ K, run (iaS 6 (LZ l[i].types.z 6 (l[i].types.l.map encSG)) (.int .i64 j)) K = some (.ok (.elem (cs_SG l[i].types.l[j])) K) := fun K => ia_Z hgb
    have hgc : ((l[i].types.l.map (gS g)).map encSG)[j]? = some (encSG (gS g l[i].types.l[j])) := by simp [hj]
    have hic : ∀ K, run (iaS 6 (LZ true 6 ((l[i].types.l.map (gS g)).map encSG)) (.int .i64 j)) K = some (.ok (.elem (cs_SG (gS g l[i].types.l[j]))) K) := fun K => ia_Z hgc
    have hu := fun K => pUses (H := K) (v := l[i].types.l[j]) (by omega)
    have hw := fun K => pUses (H := K) (v := gS g l[i].types.l[j]) (by rw [nS_gS]; omega)
    have hmap : (allS l[i].types.l[j]).map g = (allS l[i].types.l[j]).map (shN f o) := List.map_congr_left fun a ha => (hrj a ha).1
    rw [ukq, hmap, ujh _ (fun a ha => by unfold shN; split <;> omega)] at hw
    have hal := ug5 (v := l[i].types.l[j])
    have hpl : (pos (allS l[i].types.l[j])).length ≤ (allS l[i].types.l[j]).length := List.length_filter_le _ _
    have hin := fun v6 => uie (H := H) (z := z) (l := l) (i := i) (f := f) (o := o) (v6 := v6) (v15 := .ptr p 0) (j := j) (u := pos (allS l[i].types.l[j])) hf ho (by omega) (by omega) (fun a ha => by
      unfold pos at ha
      rw [List.mem_filter] at ha
      exact ⟨by simpa using ha.2, (hrj a ha.1).2⟩) _ 0 (Nat.zero_add _)
    simp only [show ((0 : Nat) : Int) = 0 from rfl] at hin
    have e2 : (((pos (allS l[i].types.l[j])).length : Int) != ((pos (allS l[i].types.l[j])).length : Int)) = false := by simp
    rw [u16]
    generalize gS g l[i].types.l[j] = gs at hic hw
    unfold cs_RG at hia
    unfold cs_SG at hib hic hu hw
    simp +contextual -dsimp (disch := omega) only [↓goDown, goUp, cr, simprocAttr, hp, hia, hib, hic, hu, hw, hin, neqI, e2, u15, u3t, strip_Z, u0a, ln_Z, List.length_map, c1]
    exact ih
theorem wfU8 {n : Int} (h : (Lit.int .u8 n).wf = true) : 0 ≤ n ∧ n ≤ 255 := by
  simp [Lit.wf, IntKind.min, IntKind.max, IntKind.bits, IntKind.signed] at h
  omega
theorem uiv {l : List SG} {g : Int → Int} (h : smallS l) : smallS (l.map (gS g)) :=
  ⟨by rw [List.length_map]; exact h.1, fun s hs => by
    obtain ⟨t, ht, rfl⟩ := List.mem_map.mp hs
    rw [nS_gS]
    exact h.2 t ht⟩
theorem rolled_of {l : GL RG} {g o : Int} {H : Heap} (hg : (Lit.int .i64 g).wf = true) (ho : 0 ≤ o ∧ o ≤ 255) (hm : sumL (fun a : RG => ms_RG a) l.l ≤ 1048576) :
    run (C u1e [LZ l.z 2 (l.l.map encRG), .int .i64 g, .int .u8 o]) H = some (.ok (.bool true) H) := by
  obtain ⟨z, l⟩ := l
  simp only at hm ⊢
  obtain ⟨hR, hT, hS⟩ := um5 hm
  have hc := fun K => ukk (H := K) (z := z) hR (by omega)
  have hll := hR.1
  rw [u45]
  cases hcl : cL l 0 with
  | some k =>
    rw [hcl] at hc
    unfold cOut at hc
    simp +contextual -dsimp (disch := omega) only [↓goDown, goUp, cr, simprocAttr, hc, strip_Z, ln_Z, List.length_map, u7b]
  | none =>
    rw [hcl] at hc
    unfold cOut at hc
    by_cases h0 : g < 0
    · simp +contextual -dsimp (disch := omega) only [↓goDown, goUp, cr, simprocAttr, hc, strip_Z, ln_Z, List.length_map, u7b, eq_true h0]
    · by_cases h1 : (l.length : Int) ≤ g
      · simp +contextual -dsimp (disch := omega) only [↓goDown, goUp, cr, simprocAttr, hc, strip_Z, ln_Z, List.length_map, u7b, eq_false h0, eq_true h1]
      · obtain ⟨i, rfl⟩ : ∃ i : Nat, g = i := ⟨g.toNat, by omega⟩
        have hi : i < l.length := by omega
        have hcls := ujl l 0 hcl i hi
        have hmem := List.getElem_mem hi
        have hsm := hR.2 _ hmem
        have hl1 := hsm.1
        have hnt : nT (l.take i) ≤ 1048576 := Nat.le_trans uo3 hT
        have hin : ∀ s ∈ l[i].types.l, ∀ a ∈ allS s, a < (nT (l.take i) : Int) + l[i].types.l.length ∧ -12 ≤ a := fun s hs a ha => by
          have := okT_in (hcls s hs) a ha
          omega
        have hfi := fun K => uml (H := K) (z := z) hi (ubv hR) (by omega)
        have hro := fun K => pRoll (H := K) (z := z) hi hR (by omega) (ubv hR) (by omega) (ufw _ fun s hs => ud8 _ fun a ha => (hin s hs a ha).1)
        have hokU : (rolled (nT (l.take i)) l[i]).types.l.foldl (gA (unT (rolled (nT (l.take i)) l[i]).types.l.length)) true = true := by
          refine ufw _ fun s hs => ulz _ fun a ha => ?_
          obtain ⟨t, ht, rfl⟩ := List.mem_map.mp hs
          rw [ukq] at ha
          obtain ⟨b, hb, rfl⟩ := List.mem_map.mp ha
          have h2 := hin t ht b hb
          unfold rolled
          rw [List.length_map]
          exact un_ok (by omega) h2.2 h2.1 (by omega)
        have hsU : smallS (rolled (nT (l.take i)) l[i]).types.l := uiv hsm
        have hun1 := fun K => ul3 (H := K) (f := nT (l.take i)) hsU (by omega) hokU
        have hun2 := fun K => ul3 (H := K) (f := nT (l.take i) + o) hsU (by omega) hokU
        have hpl : (u2w (nT (l.take i)) (rolled (nT (l.take i)) l[i])).plain = l[i].plain := by
          unfold u2w rolled RG.plain
          simp only [List.map_map]
          congr 1
          refine List.map_congr_left fun s hs => ?_
          show (gS (unG _) (gS (rollG _) s)).plain = s.plain
          rw [gS_gS]
          refine gS_fix fun a ha => ?_
          have h2 := hin s hs a ha
          have h3 := uki (f := nT (l.take i)) (o := 0) (a := a) (by omega) (by omega) (by omega) h2.2 (by omega)
          rw [Int.add_zero] at h3
          show unG _ (rollG _ a) = a
          rw [h3]
          unfold shN
          split <;> omega
        have hfit : (u2w (nT (l.take i)) (rolled (nT (l.take i)) l[i])).plain.fit := by
          rw [hpl]
          exact rgFit (by have := sumMem (m := fun a : RG => ms_RG a) l _ hmem; omega)
        have hrec := fun K => pRec (H := K) (b := l[i]) hfit
        rw [hpl, uim] at hrec
        have hlp := fun v6 K p (hp : hget K p = _) => ui6 (H := K) (z := z) (p := p) (f := nT (l.take i)) (o := o) (v6 := v6) (g := unG (nT (l.take i) + o) ∘ rollG (nT (l.take i))) (e := l[i].exp) hi hR (by omega) ho hp (fun s hs a ha => by
          have h2 := hin s hs a ha
          exact ⟨uki (by omega) (by omega) (by omega) h2.2 (by omega), by omega⟩) l[i].types.l.length 0 (Nat.zero_add _)
        have hthere : (u2w (nT (l.take i) + o) (rolled (nT (l.take i)) l[i])).types.l = l[i].types.l.map (gS (unG (nT (l.take i) + o) ∘ rollG (nT (l.take i)))) := by
          unfold u2w rolled
          simp only [List.map_map]
          exact List.map_congr_left fun s _ => gS_gS
        have hga : (l.map encRG)[i]? = some (encRG l[i]) := by simp [hi]
        have hia : ∀ K, run (iaS 2 (LZ z 2 (l.map encRG)) (.int .i64 i)) K = some (.ok (.elem (cs_RG l[i])) K) := fun K => ia_Z hga
        have e2 : ((l[i].types.l.length : Int) != (l[i].types.l.length : Int)) = false := by simp
        have hthz : (u2w (nT (l.take i) + o) (rolled (nT (l.take i)) l[i])).types.z = true := rfl
        have hthe : (u2w (nT (l.take i) + o) (rolled (nT (l.take i)) l[i])).exp = l[i].exp := rfl
        generalize u2w (nT (l.take i) + o) (rolled (nT (l.take i)) l[i]) = th at hun2 hthere hthz hthe
        generalize u2w (nT (l.take i)) (rolled (nT (l.take i)) l[i]) = bk at hun1 hrec
        generalize rolled (nT (l.take i)) l[i] = rd at hro hun1 hun2
        have hthl : th.types.l.length = l[i].types.l.length := by rw [hthere, List.length_map]
        have hcth : cs_RG th = [LZ true 6 ((l[i].types.l.map (gS (unG (nT (l.take i) + o) ∘ rollG (nT (l.take i))))).map encSG), .bool l[i].exp] := by
          unfold cs_RG
          rw [hthz, hthere, hthe]
        have hlp2 : ∀ v6, run (u06 (LZ z 2 (l.map encRG)) (.int .i64 i) (.int .u8 o) v6 (.int .i64 (nT (l.take i))) (.ptr (H.length + 2) 0) (.int .i64 0)) (hadd H [.cells (cs_RG rd), .cells (cs_RG bk), .cells (cs_RG th)]) = some (.ok (.bool true) (hadd H [.cells (cs_RG rd), .cells (cs_RG bk), .cells (cs_RG th)])) := fun v6 => hlp v6 _ _ (by rw [← hcth]; exact u2q 2)
        have hw1 : IntKind.i64.wrap o = o := wrapI (by omega)
        unfold cs_RG at hro hun1 hun2 hrec hia hlp2
        simp +contextual -dsimp (disch := omega) only [↓goDown, goUp, cr, simprocAttr, hc, strip_Z, ln_Z, List.length_map, eq_false h0, eq_false h1, hfi, hro, hun1, hun2, hrec, hia, hlp2, hw1, u17, u0m, low_Z, u0a, u0y, un_not, Bool.not_true, neqI, e2, hthl]
end Go.Proofs.YtiiepllnnjjmaaaDoor.Pi.Q
