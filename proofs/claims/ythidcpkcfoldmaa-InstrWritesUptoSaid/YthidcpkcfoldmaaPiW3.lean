/- What the law rests on, part 4 of 6: a reading of the program's code over told data, and what it comes to. -/
import Derived.Test.YthidcpkcfoldmaaPiW2
namespace Go.Proofs.Ythidcpkcfoldmaa.Pi.Q
open Go Go.Proofs.Ythidcpkcfoldmaa.Pi
set_option linter.unusedVariables false
set_option maxRecDepth 100000
theorem ratchetref09_table_eq : C k_ratchetref09_table [] =
 trunc (M.bind (bd [(.int .i64 0), (.str ⟨#[]⟩), (.str ⟨#[]⟩), (.str ⟨#[]⟩)] [(0, 1, (.int .i64 0)), (1, 1, (.str ⟨#[]⟩)), (2, 1, (.str ⟨#[117, 110, 114, 101, 97, 99, 104, 97, 98, 108, 101, 32, 110, 111, 112]⟩)), (3, 1, (.str ⟨#[45]⟩))]) fun t1_0 =>
 M.bind (bd [(.int .i64 0), (.str ⟨#[]⟩), (.str ⟨#[]⟩), (.str ⟨#[]⟩)] [(0, 1, (.int .i64 2)), (1, 1, (.str ⟨#[]⟩)), (2, 1, (.str ⟨#[98, 108, 111, 99, 107, 32, 108, 111, 111, 112, 32, 105, 102]⟩)), (3, 1, (.str ⟨#[98, 108, 111, 99, 107]⟩))]) fun t2_1 =>
 M.bind (bd [(.int .i64 0), (.str ⟨#[]⟩), (.str ⟨#[]⟩), (.str ⟨#[]⟩)] [(0, 1, (.int .i64 5)), (1, 1, (.str ⟨#[]⟩)), (2, 1, (.str ⟨#[101, 108, 115, 101]⟩)), (3, 1, (.str ⟨#[45]⟩))]) fun t3_2 =>
 M.bind (bd [(.int .i64 0), (.str ⟨#[]⟩), (.str ⟨#[]⟩), (.str ⟨#[]⟩)] [(0, 1, (.int .i64 8)), (1, 1, (.str ⟨#[]⟩)), (2, 1, (.str ⟨#[116, 104, 114, 111, 119]⟩)), (3, 1, (.str ⟨#[120]⟩))]) fun t4_3 =>
 M.bind (bd [(.int .i64 0), (.str ⟨#[]⟩), (.str ⟨#[]⟩), (.str ⟨#[]⟩)] [(0, 1, (.int .i64 10)), (1, 1, (.str ⟨#[]⟩)), (2, 1, (.str ⟨#[116, 104, 114, 111, 119, 95, 114, 101, 102, 32, 101, 110, 100]⟩)), (3, 1, (.str ⟨#[45]⟩))]) fun t5_4 =>
 M.bind (bd [(.int .i64 0), (.str ⟨#[]⟩), (.str ⟨#[]⟩), (.str ⟨#[]⟩)] [(0, 1, (.int .i64 12)), (1, 1, (.str ⟨#[]⟩)), (2, 1, (.str ⟨#[98, 114, 32, 98, 114, 95, 105, 102]⟩)), (3, 1, (.str ⟨#[120]⟩))]) fun t6_5 =>
 M.bind (bd [(.int .i64 0), (.str ⟨#[]⟩), (.str ⟨#[]⟩), (.str ⟨#[]⟩)] [(0, 1, (.int .i64 14)), (1, 1, (.str ⟨#[]⟩)), (2, 1, (.str ⟨#[98, 114, 95, 116, 97, 98, 108, 101]⟩)), (3, 1, (.str ⟨#[116, 97, 98, 108, 101]⟩))]) fun t7_6 =>
 M.bind (bd [(.int .i64 0), (.str ⟨#[]⟩), (.str ⟨#[]⟩), (.str ⟨#[]⟩)] [(0, 1, (.int .i64 15)), (1, 1, (.str ⟨#[]⟩)), (2, 1, (.str ⟨#[114, 101, 116, 117, 114, 110]⟩)), (3, 1, (.str ⟨#[45]⟩))]) fun t8_7 =>
 M.bind (bd [(.int .i64 0), (.str ⟨#[]⟩), (.str ⟨#[]⟩), (.str ⟨#[]⟩)] [(0, 1, (.int .i64 16)), (1, 1, (.str ⟨#[]⟩)), (2, 1, (.str ⟨#[99, 97, 108, 108]⟩)), (3, 1, (.str ⟨#[120]⟩))]) fun t9_8 =>
 M.bind (bd [(.int .i64 0), (.str ⟨#[]⟩), (.str ⟨#[]⟩), (.str ⟨#[]⟩)] [(0, 1, (.int .i64 17)), (1, 1, (.str ⟨#[]⟩)), (2, 1, (.str ⟨#[99, 97, 108, 108, 95, 105, 110, 100, 105, 114, 101, 99, 116]⟩)), (3, 1, (.str ⟨#[120, 121]⟩))]) fun t10_9 =>
 M.bind (bd [(.int .i64 0), (.str ⟨#[]⟩), (.str ⟨#[]⟩), (.str ⟨#[]⟩)] [(0, 1, (.int .i64 18)), (1, 1, (.str ⟨#[]⟩)), (2, 1, (.str ⟨#[114, 101, 116, 117, 114, 110, 95, 99, 97, 108, 108]⟩)), (3, 1, (.str ⟨#[120]⟩))]) fun t11_10 =>
 M.bind (bd [(.int .i64 0), (.str ⟨#[]⟩), (.str ⟨#[]⟩), (.str ⟨#[]⟩)] [(0, 1, (.int .i64 19)), (1, 1, (.str ⟨#[]⟩)), (2, 1, (.str ⟨#[114, 101, 116, 117, 114, 110, 95, 99, 97, 108, 108, 95, 105, 110, 100, 105, 114, 101, 99, 116]⟩)), (3, 1, (.str ⟨#[120, 121]⟩))]) fun t12_11 =>
 M.bind (bd [(.int .i64 0), (.str ⟨#[]⟩), (.str ⟨#[]⟩), (.str ⟨#[]⟩)] [(0, 1, (.int .i64 20)), (1, 1, (.str ⟨#[]⟩)), (2, 1, (.str ⟨#[99, 97, 108, 108, 95, 114, 101, 102, 32, 114, 101, 116, 117, 114, 110, 95, 99, 97, 108, 108, 95, 114, 101, 102]⟩)), (3, 1, (.str ⟨#[120]⟩))]) fun t13_12 =>
 M.bind (bd [(.int .i64 0), (.str ⟨#[]⟩), (.str ⟨#[]⟩), (.str ⟨#[]⟩)] [(0, 1, (.int .i64 26)), (1, 1, (.str ⟨#[]⟩)), (2, 1, (.str ⟨#[100, 114, 111, 112, 32, 115, 101, 108, 101, 99, 116]⟩)), (3, 1, (.str ⟨#[45]⟩))]) fun t14_13 =>
 M.bind (bd [(.int .i64 0), (.str ⟨#[]⟩), (.str ⟨#[]⟩), (.str ⟨#[]⟩)] [(0, 1, (.int .i64 28)), (1, 1, (.str ⟨#[]⟩)), (2, 1, (.str ⟨#[115, 101, 108, 101, 99, 116, 95, 116]⟩)), (3, 1, (.str ⟨#[115, 101, 108, 101, 99, 116]⟩))]) fun t15_14 =>
 M.bind (bd [(.int .i64 0), (.str ⟨#[]⟩), (.str ⟨#[]⟩), (.str ⟨#[]⟩)] [(0, 1, (.int .i64 31)), (1, 1, (.str ⟨#[]⟩)), (2, 1, (.str ⟨#[116, 114, 121, 95, 116, 97, 98, 108, 101]⟩)), (3, 1, (.str ⟨#[116, 114, 121]⟩))]) fun t16_15 =>
 M.bind (bd [(.int .i64 0), (.str ⟨#[]⟩), (.str ⟨#[]⟩), (.str ⟨#[]⟩)] [(0, 1, (.int .i64 32)), (1, 1, (.str ⟨#[]⟩)), (2, 1, (.str ⟨#[108, 111, 99, 97, 108, 46, 103, 101, 116, 32, 108, 111, 99, 97, 108, 46, 115, 101, 116, 32, 108, 111, 99, 97, 108, 46, 116, 101, 101, 32, 103, 108, 111, 98, 97, 108, 46, 103, 101, 116, 32, 103, 108, 111, 98, 97, 108, 46, 115, 101, 116, 32, 116, 97, 98, 108, 101, 46, 103, 101, 116, 32, 116, 97, 98, 108, 101, 46, 115, 101, 116]⟩)), (3, 1, (.str ⟨#[120]⟩))]) fun t17_16 =>
 M.bind (bd [(.int .i64 0), (.str ⟨#[]⟩), (.str ⟨#[]⟩), (.str ⟨#[]⟩)] [(0, 1, (.int .i64 40)), (1, 1, (.str ⟨#[]⟩)), (2, 1, (.str ⟨#[105, 51, 50, 46, 108, 111, 97, 100, 32, 105, 54, 52, 46, 108, 111, 97, 100, 32, 102, 51, 50, 46, 108, 111, 97, 100, 32, 102, 54, 52, 46, 108, 111, 97, 100, 32, 105, 51, 50, 46, 108, 111, 97, 100, 56, 95, 115, 32, 105, 51, 50, 46, 108, 111, 97, 100, 56, 95, 117, 32, 105, 51, 50, 46, 108, 111, 97, 100, 49, 54, 95, 115, 32, 105, 51, 50, 46, 108, 111, 97, 100, 49, 54, 95, 117, 32, 105, 54, 52, 46, 108, 111, 97, 100, 56, 95, 115, 32, 105, 54, 52, 46, 108, 111, 97, 100, 56, 95, 117, 32, 105, 54, 52, 46, 108, 111, 97, 100, 49, 54, 95, 115, 32, 105, 54, 52, 46, 108, 111, 97, 100, 49, 54, 95, 117, 32, 105, 54, 52, 46, 108, 111, 97, 100, 51, 50, 95, 115, 32, 105, 54, 52, 46, 108, 111, 97, 100, 51, 50, 95, 117, 32, 105, 51, 50, 46, 115, 116, 111, 114, 101, 32, 105, 54, 52, 46, 115, 116, 111, 114, 101, 32, 102, 51, 50, 46, 115, 116, 111, 114, 101, 32, 102, 54, 52, 46, 115, 116, 111, 114, 101, 32, 105, 51, 50, 46, 115, 116, 111, 114, 101, 56, 32, 105, 51, 50, 46, 115, 116, 111, 114, 101, 49, 54, 32, 105, 54, 52, 46, 115, 116, 111, 114, 101, 56, 32, 105, 54, 52, 46, 115, 116, 111, 114, 101, 49, 54, 32, 105, 54, 52, 46, 115, 116, 111, 114, 101, 51, 50]⟩)), (3, 1, (.str ⟨#[109, 101, 109]⟩))]) fun t18_17 =>
 M.bind (bd [(.int .i64 0), (.str ⟨#[]⟩), (.str ⟨#[]⟩), (.str ⟨#[]⟩)] [(0, 1, (.int .i64 63)), (1, 1, (.str ⟨#[]⟩)), (2, 1, (.str ⟨#[109, 101, 109, 111, 114, 121, 46, 115, 105, 122, 101, 32, 109, 101, 109, 111, 114, 121, 46, 103, 114, 111, 119]⟩)), (3, 1, (.str ⟨#[120]⟩))]) fun t19_18 =>
 M.bind (bd [(.int .i64 0), (.str ⟨#[]⟩), (.str ⟨#[]⟩), (.str ⟨#[]⟩)] [(0, 1, (.int .i64 65)), (1, 1, (.str ⟨#[]⟩)), (2, 1, (.str ⟨#[105, 51, 50, 46, 99, 111, 110, 115, 116]⟩)), (3, 1, (.str ⟨#[105, 51, 50]⟩))]) fun t20_19 =>
 M.bind (bd [(.int .i64 0), (.str ⟨#[]⟩), (.str ⟨#[]⟩), (.str ⟨#[]⟩)] [(0, 1, (.int .i64 66)), (1, 1, (.str ⟨#[]⟩)), (2, 1, (.str ⟨#[105, 54, 52, 46, 99, 111, 110, 115, 116]⟩)), (3, 1, (.str ⟨#[105, 54, 52]⟩))]) fun t21_20 =>
 M.bind (bd [(.int .i64 0), (.str ⟨#[]⟩), (.str ⟨#[]⟩), (.str ⟨#[]⟩)] [(0, 1, (.int .i64 67)), (1, 1, (.str ⟨#[]⟩)), (2, 1, (.str ⟨#[102, 51, 50, 46, 99, 111, 110, 115, 116]⟩)), (3, 1, (.str ⟨#[102, 51, 50]⟩))]) fun t22_21 =>
 M.bind (bd [(.int .i64 0), (.str ⟨#[]⟩), (.str ⟨#[]⟩), (.str ⟨#[]⟩)] [(0, 1, (.int .i64 68)), (1, 1, (.str ⟨#[]⟩)), (2, 1, (.str ⟨#[102, 54, 52, 46, 99, 111, 110, 115, 116]⟩)), (3, 1, (.str ⟨#[102, 54, 52]⟩))]) fun t23_22 =>
 M.bind (bd [(.int .i64 0), (.str ⟨#[]⟩), (.str ⟨#[]⟩), (.str ⟨#[]⟩)] [(0, 1, (.int .i64 69)), (1, 1, (.str ⟨#[105, 51, 50, 46]⟩)), (2, 1, (.str ⟨#[101, 113, 122, 32, 101, 113, 32, 110, 101, 32, 108, 116, 95, 115, 32, 108, 116, 95, 117, 32, 103, 116, 95, 115, 32, 103, 116, 95, 117, 32, 108, 101, 95, 115, 32, 108, 101, 95, 117, 32, 103, 101, 95, 115, 32, 103, 101, 95, 117]⟩)), (3, 1, (.str ⟨#[45]⟩))]) fun t24_23 =>
 M.bind (bd [(.int .i64 0), (.str ⟨#[]⟩), (.str ⟨#[]⟩), (.str ⟨#[]⟩)] [(0, 1, (.int .i64 80)), (1, 1, (.str ⟨#[105, 54, 52, 46]⟩)), (2, 1, (.str ⟨#[101, 113, 122, 32, 101, 113, 32, 110, 101, 32, 108, 116, 95, 115, 32, 108, 116, 95, 117, 32, 103, 116, 95, 115, 32, 103, 116, 95, 117, 32, 108, 101, 95, 115, 32, 108, 101, 95, 117, 32, 103, 101, 95, 115, 32, 103, 101, 95, 117]⟩)), (3, 1, (.str ⟨#[45]⟩))]) fun t25_24 =>
 M.bind (bd [(.int .i64 0), (.str ⟨#[]⟩), (.str ⟨#[]⟩), (.str ⟨#[]⟩)] [(0, 1, (.int .i64 91)), (1, 1, (.str ⟨#[102, 51, 50, 46]⟩)), (2, 1, (.str ⟨#[101, 113, 32, 110, 101, 32, 108, 116, 32, 103, 116, 32, 108, 101, 32, 103, 101]⟩)), (3, 1, (.str ⟨#[45]⟩))]) fun t26_25 =>
 M.bind (bd [(.int .i64 0), (.str ⟨#[]⟩), (.str ⟨#[]⟩), (.str ⟨#[]⟩)] [(0, 1, (.int .i64 97)), (1, 1, (.str ⟨#[102, 54, 52, 46]⟩)), (2, 1, (.str ⟨#[101, 113, 32, 110, 101, 32, 108, 116, 32, 103, 116, 32, 108, 101, 32, 103, 101]⟩)), (3, 1, (.str ⟨#[45]⟩))]) fun t27_26 =>
 M.bind (bd [(.int .i64 0), (.str ⟨#[]⟩), (.str ⟨#[]⟩), (.str ⟨#[]⟩)] [(0, 1, (.int .i64 103)), (1, 1, (.str ⟨#[105, 51, 50, 46]⟩)), (2, 1, (.str ⟨#[99, 108, 122, 32, 99, 116, 122, 32, 112, 111, 112, 99, 110, 116, 32, 97, 100, 100, 32, 115, 117, 98, 32, 109, 117, 108, 32, 100, 105, 118, 95, 115, 32, 100, 105, 118, 95, 117, 32, 114, 101, 109, 95, 115, 32, 114, 101, 109, 95, 117, 32, 97, 110, 100, 32, 111, 114, 32, 120, 111, 114, 32, 115, 104, 108, 32, 115, 104, 114, 95, 115, 32, 115, 104, 114, 95, 117, 32, 114, 111, 116, 108, 32, 114, 111, 116, 114]⟩)), (3, 1, (.str ⟨#[45]⟩))]) fun t28_27 =>
 M.bind (bd [(.int .i64 0), (.str ⟨#[]⟩), (.str ⟨#[]⟩), (.str ⟨#[]⟩)] [(0, 1, (.int .i64 121)), (1, 1, (.str ⟨#[105, 54, 52, 46]⟩)), (2, 1, (.str ⟨#[99, 108, 122, 32, 99, 116, 122, 32, 112, 111, 112, 99, 110, 116, 32, 97, 100, 100, 32, 115, 117, 98, 32, 109, 117, 108, 32, 100, 105, 118, 95, 115, 32, 100, 105, 118, 95, 117, 32, 114, 101, 109, 95, 115, 32, 114, 101, 109, 95, 117, 32, 97, 110, 100, 32, 111, 114, 32, 120, 111, 114, 32, 115, 104, 108, 32, 115, 104, 114, 95, 115, 32, 115, 104, 114, 95, 117, 32, 114, 111, 116, 108, 32, 114, 111, 116, 114]⟩)), (3, 1, (.str ⟨#[45]⟩))]) fun t29_28 =>
 M.bind (bd [(.int .i64 0), (.str ⟨#[]⟩), (.str ⟨#[]⟩), (.str ⟨#[]⟩)] [(0, 1, (.int .i64 139)), (1, 1, (.str ⟨#[102, 51, 50, 46]⟩)), (2, 1, (.str ⟨#[97, 98, 115, 32, 110, 101, 103, 32, 99, 101, 105, 108, 32, 102, 108, 111, 111, 114, 32, 116, 114, 117, 110, 99, 32, 110, 101, 97, 114, 101, 115, 116, 32, 115, 113, 114, 116, 32, 97, 100, 100, 32, 115, 117, 98, 32, 109, 117, 108, 32, 100, 105, 118, 32, 109, 105, 110, 32, 109, 97, 120, 32, 99, 111, 112, 121, 115, 105, 103, 110]⟩)), (3, 1, (.str ⟨#[45]⟩))]) fun t30_29 =>
 M.bind (bd [(.int .i64 0), (.str ⟨#[]⟩), (.str ⟨#[]⟩), (.str ⟨#[]⟩)] [(0, 1, (.int .i64 153)), (1, 1, (.str ⟨#[102, 54, 52, 46]⟩)), (2, 1, (.str ⟨#[97, 98, 115, 32, 110, 101, 103, 32, 99, 101, 105, 108, 32, 102, 108, 111, 111, 114, 32, 116, 114, 117, 110, 99, 32, 110, 101, 97, 114, 101, 115, 116, 32, 115, 113, 114, 116, 32, 97, 100, 100, 32, 115, 117, 98, 32, 109, 117, 108, 32, 100, 105, 118, 32, 109, 105, 110, 32, 109, 97, 120, 32, 99, 111, 112, 121, 115, 105, 103, 110]⟩)), (3, 1, (.str ⟨#[45]⟩))]) fun t31_30 =>
 M.bind (bd [(.int .i64 0), (.str ⟨#[]⟩), (.str ⟨#[]⟩), (.str ⟨#[]⟩)] [(0, 1, (.int .i64 167)), (1, 1, (.str ⟨#[105, 51, 50, 46]⟩)), (2, 1, (.str ⟨#[119, 114, 97, 112, 95, 105, 54, 52, 32, 116, 114, 117, 110, 99, 95, 102, 51, 50, 95, 115, 32, 116, 114, 117, 110, 99, 95, 102, 51, 50, 95, 117, 32, 116, 114, 117, 110, 99, 95, 102, 54, 52, 95, 115, 32, 116, 114, 117, 110, 99, 95, 102, 54, 52, 95, 117]⟩)), (3, 1, (.str ⟨#[45]⟩))]) fun t32_31 =>
 M.bind (bd [(.int .i64 0), (.str ⟨#[]⟩), (.str ⟨#[]⟩), (.str ⟨#[]⟩)] [(0, 1, (.int .i64 172)), (1, 1, (.str ⟨#[105, 54, 52, 46]⟩)), (2, 1, (.str ⟨#[101, 120, 116, 101, 110, 100, 95, 105, 51, 50, 95, 115, 32, 101, 120, 116, 101, 110, 100, 95, 105, 51, 50, 95, 117, 32, 116, 114, 117, 110, 99, 95, 102, 51, 50, 95, 115, 32, 116, 114, 117, 110, 99, 95, 102, 51, 50, 95, 117, 32, 116, 114, 117, 110, 99, 95, 102, 54, 52, 95, 115, 32, 116, 114, 117, 110, 99, 95, 102, 54, 52, 95, 117]⟩)), (3, 1, (.str ⟨#[45]⟩))]) fun t33_32 =>
 M.bind (bd [(.int .i64 0), (.str ⟨#[]⟩), (.str ⟨#[]⟩), (.str ⟨#[]⟩)] [(0, 1, (.int .i64 178)), (1, 1, (.str ⟨#[102, 51, 50, 46]⟩)), (2, 1, (.str ⟨#[99, 111, 110, 118, 101, 114, 116, 95, 105, 51, 50, 95, 115, 32, 99, 111, 110, 118, 101, 114, 116, 95, 105, 51, 50, 95, 117, 32, 99, 111, 110, 118, 101, 114, 116, 95, 105, 54, 52, 95, 115, 32, 99, 111, 110, 118, 101, 114, 116, 95, 105, 54, 52, 95, 117, 32, 100, 101, 109, 111, 116, 101, 95, 102, 54, 52]⟩)), (3, 1, (.str ⟨#[45]⟩))]) fun t34_33 =>
 M.bind (bd [(.int .i64 0), (.str ⟨#[]⟩), (.str ⟨#[]⟩), (.str ⟨#[]⟩)] [(0, 1, (.int .i64 183)), (1, 1, (.str ⟨#[102, 54, 52, 46]⟩)), (2, 1, (.str ⟨#[99, 111, 110, 118, 101, 114, 116, 95, 105, 51, 50, 95, 115, 32, 99, 111, 110, 118, 101, 114, 116, 95, 105, 51, 50, 95, 117, 32, 99, 111, 110, 118, 101, 114, 116, 95, 105, 54, 52, 95, 115, 32, 99, 111, 110, 118, 101, 114, 116, 95, 105, 54, 52, 95, 117, 32, 112, 114, 111, 109, 111, 116, 101, 95, 102, 51, 50]⟩)), (3, 1, (.str ⟨#[45]⟩))]) fun t35_34 =>
 M.bind (bd [(.int .i64 0), (.str ⟨#[]⟩), (.str ⟨#[]⟩), (.str ⟨#[]⟩)] [(0, 1, (.int .i64 188)), (1, 1, (.str ⟨#[]⟩)), (2, 1, (.str ⟨#[105, 51, 50, 46, 114, 101, 105, 110, 116, 101, 114, 112, 114, 101, 116, 95, 102, 51, 50, 32, 105, 54, 52, 46, 114, 101, 105, 110, 116, 101, 114, 112, 114, 101, 116, 95, 102, 54, 52, 32, 102, 51, 50, 46, 114, 101, 105, 110, 116, 101, 114, 112, 114, 101, 116, 95, 105, 51, 50, 32, 102, 54, 52, 46, 114, 101, 105, 110, 116, 101, 114, 112, 114, 101, 116, 95, 105, 54, 52]⟩)), (3, 1, (.str ⟨#[45]⟩))]) fun t36_35 =>
 M.bind (bd [(.int .i64 0), (.str ⟨#[]⟩), (.str ⟨#[]⟩), (.str ⟨#[]⟩)] [(0, 1, (.int .i64 192)), (1, 1, (.str ⟨#[]⟩)), (2, 1, (.str ⟨#[105, 51, 50, 46, 101, 120, 116, 101, 110, 100, 56, 95, 115, 32, 105, 51, 50, 46, 101, 120, 116, 101, 110, 100, 49, 54, 95, 115, 32, 105, 54, 52, 46, 101, 120, 116, 101, 110, 100, 56, 95, 115, 32, 105, 54, 52, 46, 101, 120, 116, 101, 110, 100, 49, 54, 95, 115, 32, 105, 54, 52, 46, 101, 120, 116, 101, 110, 100, 51, 50, 95, 115]⟩)), (3, 1, (.str ⟨#[45]⟩))]) fun t37_36 =>
 M.bind (bs true (some 4) [t1_0, t2_1, t3_2, t4_3, t5_4, t6_5, t7_6, t8_7, t9_8, t10_9, t11_10, t12_11, t13_12, t14_13, t15_14, t16_15, t17_16, t18_17, t19_18, t20_19, t21_20, t22_21, t23_22, t24_23, t25_24, t26_25, t27_26, t28_27, t29_28, t30_29, t31_30, t32_31, t33_32, t34_33, t35_34, t36_35, t37_36]) fun t38_37 =>
 resT t38_37 (M.pure t38_37)) := by
 rw [C, callW_eq _ _ rfl]; kernel_rfl
theorem ratchetref09_refs_eq : C k_ratchetref09_refs [] =
 trunc (M.bind (bd [(.int .i64 0), (.str ⟨#[]⟩), (.str ⟨#[]⟩), (.str ⟨#[]⟩)] [(0, 1, (.int .i64 208)), (1, 1, (.str ⟨#[]⟩)), (2, 1, (.str ⟨#[114, 101, 102, 46, 110, 117, 108, 108]⟩)), (3, 1, (.str ⟨#[104, 101, 97, 112]⟩))]) fun t1_0 =>
 M.bind (bd [(.int .i64 0), (.str ⟨#[]⟩), (.str ⟨#[]⟩), (.str ⟨#[]⟩)] [(0, 1, (.int .i64 209)), (1, 1, (.str ⟨#[]⟩)), (2, 1, (.str ⟨#[114, 101, 102, 46, 105, 115, 95, 110, 117, 108, 108]⟩)), (3, 1, (.str ⟨#[45]⟩))]) fun t2_1 =>
 M.bind (bd [(.int .i64 0), (.str ⟨#[]⟩), (.str ⟨#[]⟩), (.str ⟨#[]⟩)] [(0, 1, (.int .i64 210)), (1, 1, (.str ⟨#[]⟩)), (2, 1, (.str ⟨#[114, 101, 102, 46, 102, 117, 110, 99]⟩)), (3, 1, (.str ⟨#[120]⟩))]) fun t3_2 =>
 M.bind (bd [(.int .i64 0), (.str ⟨#[]⟩), (.str ⟨#[]⟩), (.str ⟨#[]⟩)] [(0, 1, (.int .i64 211)), (1, 1, (.str ⟨#[]⟩)), (2, 1, (.str ⟨#[114, 101, 102, 46, 101, 113, 32, 114, 101, 102, 46, 97, 115, 95, 110, 111, 110, 95, 110, 117, 108, 108]⟩)), (3, 1, (.str ⟨#[45]⟩))]) fun t4_3 =>
 M.bind (bd [(.int .i64 0), (.str ⟨#[]⟩), (.str ⟨#[]⟩), (.str ⟨#[]⟩)] [(0, 1, (.int .i64 213)), (1, 1, (.str ⟨#[]⟩)), (2, 1, (.str ⟨#[98, 114, 95, 111, 110, 95, 110, 117, 108, 108, 32, 98, 114, 95, 111, 110, 95, 110, 111, 110, 95, 110, 117, 108, 108]⟩)), (3, 1, (.str ⟨#[120]⟩))]) fun t5_4 =>
 M.bind (bd [(.int .i64 0), (.str ⟨#[]⟩), (.str ⟨#[]⟩), (.str ⟨#[]⟩)] [(0, 1, (.int .i64 64256)), (1, 1, (.str ⟨#[]⟩)), (2, 1, (.str ⟨#[115, 116, 114, 117, 99, 116, 46, 110, 101, 119, 32, 115, 116, 114, 117, 99, 116, 46, 110, 101, 119, 95, 100, 101, 102, 97, 117, 108, 116]⟩)), (3, 1, (.str ⟨#[120]⟩))]) fun t6_5 =>
 M.bind (bd [(.int .i64 0), (.str ⟨#[]⟩), (.str ⟨#[]⟩), (.str ⟨#[]⟩)] [(0, 1, (.int .i64 64258)), (1, 1, (.str ⟨#[]⟩)), (2, 1, (.str ⟨#[115, 116, 114, 117, 99, 116, 46, 103, 101, 116, 32, 115, 116, 114, 117, 99, 116, 46, 103, 101, 116, 95, 115, 32, 115, 116, 114, 117, 99, 116, 46, 103, 101, 116, 95, 117, 32, 115, 116, 114, 117, 99, 116, 46, 115, 101, 116]⟩)), (3, 1, (.str ⟨#[120, 121]⟩))]) fun t7_6 =>
 M.bind (bd [(.int .i64 0), (.str ⟨#[]⟩), (.str ⟨#[]⟩), (.str ⟨#[]⟩)] [(0, 1, (.int .i64 64262)), (1, 1, (.str ⟨#[]⟩)), (2, 1, (.str ⟨#[97, 114, 114, 97, 121, 46, 110, 101, 119, 32, 97, 114, 114, 97, 121, 46, 110, 101, 119, 95, 100, 101, 102, 97, 117, 108, 116]⟩)), (3, 1, (.str ⟨#[120]⟩))]) fun t8_7 =>
 M.bind (bd [(.int .i64 0), (.str ⟨#[]⟩), (.str ⟨#[]⟩), (.str ⟨#[]⟩)] [(0, 1, (.int .i64 64264)), (1, 1, (.str ⟨#[]⟩)), (2, 1, (.str ⟨#[97, 114, 114, 97, 121, 46, 110, 101, 119, 95, 102, 105, 120, 101, 100]⟩)), (3, 1, (.str ⟨#[120, 110]⟩))]) fun t9_8 =>
 M.bind (bd [(.int .i64 0), (.str ⟨#[]⟩), (.str ⟨#[]⟩), (.str ⟨#[]⟩)] [(0, 1, (.int .i64 64265)), (1, 1, (.str ⟨#[]⟩)), (2, 1, (.str ⟨#[97, 114, 114, 97, 121, 46, 110, 101, 119, 95, 100, 97, 116, 97, 32, 97, 114, 114, 97, 121, 46, 110, 101, 119, 95, 101, 108, 101, 109]⟩)), (3, 1, (.str ⟨#[120, 121]⟩))]) fun t10_9 =>
 M.bind (bd [(.int .i64 0), (.str ⟨#[]⟩), (.str ⟨#[]⟩), (.str ⟨#[]⟩)] [(0, 1, (.int .i64 64267)), (1, 1, (.str ⟨#[]⟩)), (2, 1, (.str ⟨#[97, 114, 114, 97, 121, 46, 103, 101, 116, 32, 97, 114, 114, 97, 121, 46, 103, 101, 116, 95, 115, 32, 97, 114, 114, 97, 121, 46, 103, 101, 116, 95, 117, 32, 97, 114, 114, 97, 121, 46, 115, 101, 116]⟩)), (3, 1, (.str ⟨#[120]⟩))]) fun t11_10 =>
 M.bind (bd [(.int .i64 0), (.str ⟨#[]⟩), (.str ⟨#[]⟩), (.str ⟨#[]⟩)] [(0, 1, (.int .i64 64271)), (1, 1, (.str ⟨#[]⟩)), (2, 1, (.str ⟨#[97, 114, 114, 97, 121, 46, 108, 101, 110]⟩)), (3, 1, (.str ⟨#[45]⟩))]) fun t12_11 =>
 M.bind (bd [(.int .i64 0), (.str ⟨#[]⟩), (.str ⟨#[]⟩), (.str ⟨#[]⟩)] [(0, 1, (.int .i64 64272)), (1, 1, (.str ⟨#[]⟩)), (2, 1, (.str ⟨#[97, 114, 114, 97, 121, 46, 102, 105, 108, 108]⟩)), (3, 1, (.str ⟨#[120]⟩))]) fun t13_12 =>
 M.bind (bd [(.int .i64 0), (.str ⟨#[]⟩), (.str ⟨#[]⟩), (.str ⟨#[]⟩)] [(0, 1, (.int .i64 64273)), (1, 1, (.str ⟨#[]⟩)), (2, 1, (.str ⟨#[97, 114, 114, 97, 121, 46, 99, 111, 112, 121, 32, 97, 114, 114, 97, 121, 46, 105, 110, 105, 116, 95, 100, 97, 116, 97, 32, 97, 114, 114, 97, 121, 46, 105, 110, 105, 116, 95, 101, 108, 101, 109]⟩)), (3, 1, (.str ⟨#[120, 121]⟩))]) fun t14_13 =>
 M.bind (bd [(.int .i64 0), (.str ⟨#[]⟩), (.str ⟨#[]⟩), (.str ⟨#[]⟩)] [(0, 1, (.int .i64 64276)), (1, 1, (.str ⟨#[]⟩)), (2, 1, (.str ⟨#[114, 101, 102, 46, 116, 101, 115, 116, 32, 114, 101, 102, 46, 116, 101, 115, 116, 95, 110, 117, 108, 108, 32, 114, 101, 102, 46, 99, 97, 115, 116, 32, 114, 101, 102, 46, 99, 97, 115, 116, 95, 110, 117, 108, 108]⟩)), (3, 1, (.str ⟨#[99, 97, 115, 116]⟩))]) fun t15_14 =>
 M.bind (bd [(.int .i64 0), (.str ⟨#[]⟩), (.str ⟨#[]⟩), (.str ⟨#[]⟩)] [(0, 1, (.int .i64 64280)), (1, 1, (.str ⟨#[]⟩)), (2, 1, (.str ⟨#[98, 114, 95, 111, 110, 95, 99, 97, 115, 116, 32, 98, 114, 95, 111, 110, 95, 99, 97, 115, 116, 95, 102, 97, 105, 108]⟩)), (3, 1, (.str ⟨#[98, 114, 95, 99, 97, 115, 116]⟩))]) fun t16_15 =>
 M.bind (bd [(.int .i64 0), (.str ⟨#[]⟩), (.str ⟨#[]⟩), (.str ⟨#[]⟩)] [(0, 1, (.int .i64 64282)), (1, 1, (.str ⟨#[]⟩)), (2, 1, (.str ⟨#[97, 110, 121, 46, 99, 111, 110, 118, 101, 114, 116, 95, 101, 120, 116, 101, 114, 110, 32, 101, 120, 116, 101, 114, 110, 46, 99, 111, 110, 118, 101, 114, 116, 95, 97, 110, 121, 32, 114, 101, 102, 46, 105, 51, 49, 32, 105, 51, 49, 46, 103, 101, 116, 95, 115, 32, 105, 51, 49, 46, 103, 101, 116, 95, 117]⟩)), (3, 1, (.str ⟨#[45]⟩))]) fun t17_16 =>
 M.bind (bd [(.int .i64 0), (.str ⟨#[]⟩), (.str ⟨#[]⟩), (.str ⟨#[]⟩)] [(0, 1, (.int .i64 64512)), (1, 1, (.str ⟨#[]⟩)), (2, 1, (.str ⟨#[105, 51, 50, 46, 116, 114, 117, 110, 99, 95, 115, 97, 116, 95, 102, 51, 50, 95, 115, 32, 105, 51, 50, 46, 116, 114, 117, 110, 99, 95, 115, 97, 116, 95, 102, 51, 50, 95, 117, 32, 105, 51, 50, 46, 116, 114, 117, 110, 99, 95, 115, 97, 116, 95, 102, 54, 52, 95, 115, 32, 105, 51, 50, 46, 116, 114, 117, 110, 99, 95, 115, 97, 116, 95, 102, 54, 52, 95, 117, 32, 105, 54, 52, 46, 116, 114, 117, 110, 99, 95, 115, 97, 116, 95, 102, 51, 50, 95, 115, 32, 105, 54, 52, 46, 116, 114, 117, 110, 99, 95, 115, 97, 116, 95, 102, 51, 50, 95, 117, 32, 105, 54, 52, 46, 116, 114, 117, 110, 99, 95, 115, 97, 116, 95, 102, 54, 52, 95, 115, 32, 105, 54, 52, 46, 116, 114, 117, 110, 99, 95, 115, 97, 116, 95, 102, 54, 52, 95, 117]⟩)), (3, 1, (.str ⟨#[45]⟩))]) fun t18_17 =>
 M.bind (bd [(.int .i64 0), (.str ⟨#[]⟩), (.str ⟨#[]⟩), (.str ⟨#[]⟩)] [(0, 1, (.int .i64 64520)), (1, 1, (.str ⟨#[]⟩)), (2, 1, (.str ⟨#[109, 101, 109, 111, 114, 121, 46, 105, 110, 105, 116]⟩)), (3, 1, (.str ⟨#[120, 121]⟩))]) fun t19_18 =>
 M.bind (bd [(.int .i64 0), (.str ⟨#[]⟩), (.str ⟨#[]⟩), (.str ⟨#[]⟩)] [(0, 1, (.int .i64 64521)), (1, 1, (.str ⟨#[]⟩)), (2, 1, (.str ⟨#[100, 97, 116, 97, 46, 100, 114, 111, 112]⟩)), (3, 1, (.str ⟨#[120]⟩))]) fun t20_19 =>
 M.bind (bd [(.int .i64 0), (.str ⟨#[]⟩), (.str ⟨#[]⟩), (.str ⟨#[]⟩)] [(0, 1, (.int .i64 64522)), (1, 1, (.str ⟨#[]⟩)), (2, 1, (.str ⟨#[109, 101, 109, 111, 114, 121, 46, 99, 111, 112, 121]⟩)), (3, 1, (.str ⟨#[120, 121]⟩))]) fun t21_20 =>
 M.bind (bd [(.int .i64 0), (.str ⟨#[]⟩), (.str ⟨#[]⟩), (.str ⟨#[]⟩)] [(0, 1, (.int .i64 64523)), (1, 1, (.str ⟨#[]⟩)), (2, 1, (.str ⟨#[109, 101, 109, 111, 114, 121, 46, 102, 105, 108, 108]⟩)), (3, 1, (.str ⟨#[120]⟩))]) fun t22_21 =>
 M.bind (bd [(.int .i64 0), (.str ⟨#[]⟩), (.str ⟨#[]⟩), (.str ⟨#[]⟩)] [(0, 1, (.int .i64 64524)), (1, 1, (.str ⟨#[]⟩)), (2, 1, (.str ⟨#[116, 97, 98, 108, 101, 46, 105, 110, 105, 116]⟩)), (3, 1, (.str ⟨#[120, 121]⟩))]) fun t23_22 =>
 M.bind (bd [(.int .i64 0), (.str ⟨#[]⟩), (.str ⟨#[]⟩), (.str ⟨#[]⟩)] [(0, 1, (.int .i64 64525)), (1, 1, (.str ⟨#[]⟩)), (2, 1, (.str ⟨#[101, 108, 101, 109, 46, 100, 114, 111, 112]⟩)), (3, 1, (.str ⟨#[120]⟩))]) fun t24_23 =>
 M.bind (bd [(.int .i64 0), (.str ⟨#[]⟩), (.str ⟨#[]⟩), (.str ⟨#[]⟩)] [(0, 1, (.int .i64 64526)), (1, 1, (.str ⟨#[]⟩)), (2, 1, (.str ⟨#[116, 97, 98, 108, 101, 46, 99, 111, 112, 121]⟩)), (3, 1, (.str ⟨#[120, 121]⟩))]) fun t25_24 =>
 M.bind (bd [(.int .i64 0), (.str ⟨#[]⟩), (.str ⟨#[]⟩), (.str ⟨#[]⟩)] [(0, 1, (.int .i64 64527)), (1, 1, (.str ⟨#[]⟩)), (2, 1, (.str ⟨#[116, 97, 98, 108, 101, 46, 103, 114, 111, 119, 32, 116, 97, 98, 108, 101, 46, 115, 105, 122, 101, 32, 116, 97, 98, 108, 101, 46, 102, 105, 108, 108]⟩)), (3, 1, (.str ⟨#[120]⟩))]) fun t26_25 =>
 M.bind (bs true (some 4) [t1_0, t2_1, t3_2, t4_3, t5_4, t6_5, t7_6, t8_7, t9_8, t10_9, t11_10, t12_11, t13_12, t14_13, t15_14, t16_15, t17_16, t18_17, t19_18, t20_19, t21_20, t22_21, t23_22, t24_23, t25_24, t26_25]) fun t27_26 =>
 resT t27_26 (M.pure t27_26)) := by
 rw [C, callW_eq _ _ rfl]; kernel_rfl
noncomputable def p_ratchetref09_nth_11010 (v0 v1 v4 v5 v6 v7 : PV) : M PV := atP P X k_ratchetref09_nth [1, 1, 0, 1, 0] (mkEnv 34 0 [(0, v0), (1, v1), (4, v4), (5, v5), (6, v6), (7, v7)])
noncomputable def p_ratchetref09_nth_11010011 (v0 v1 v4 v5 v6 v7 : PV) : M PV := atP P X k_ratchetref09_nth [1, 1, 0, 1, 0, 0, 1, 1] (mkEnv 34 0 [(0, v0), (1, v1), (4, v4), (5, v5), (6, v6), (7, v7)])
theorem p_ratchetref09_nth_11010_eq (v0 v1 v4 v5 v6 v7 : PV) : p_ratchetref09_nth_11010 v0 v1 v4 v5 v6 v7 =
 M.bind (lnS (strip v0)) fun t10_0 =>
 M.bind (bi .leq .none (strip v7) t10_0) fun t11_1 =>
 condM t11_1
 (M.bind (lnS (strip v0)) fun t16_2 =>
 M.bind (bi .lss .none (strip v7) t16_2) fun t17_3 =>
 M.bind (gd (strip t17_3) true (M.pure (strip v0))) fun t19_4 =>
 M.bind (gd (strip t17_3) true (M.pure (strip v7))) fun t20_5 =>
 M.bind (gd (strip t17_3) true (ixS t19_4 t20_5)) fun t21_6 =>
 M.bind (gd (strip t17_3) true (bi .neq .none t21_6 (.int .u8 32))) fun t22_7 =>
 M.bind (pick (strip t17_3) t22_7 (.bool false)) fun t23_8 =>
 condM t23_8
 (p_ratchetref09_nth_11010011 v0 v1 v4 v5 v6 v7)
 (M.bind (bi .eql .none (strip v1) (.int .i64 0)) fun t25_9 =>
 condM t25_9
 (M.bind (slS (strip v0) (some (strip v6)) (some (strip v7))) fun t29_10 =>
 resT t29_10 (M.pure (.tup [t29_10, (.bool true)])))
 (M.bind (bi .sub .none (strip v1) (.int .i64 1)) fun t31_11 =>
 M.bind (bi .add .none (strip v7) (.int .i64 1)) fun t33_12 =>
 p_ratchetref09_nth_11010011 v0 t31_11 v4 v5 t33_12 v7)))
 (M.pure (.tup [(.str ⟨#[]⟩), (.bool false)])) :=
 (atP_step P X _ _ _).trans (by kernel_rfl)
theorem p_ratchetref09_nth_11010011_eq (v0 v1 v4 v5 v6 v7 : PV) : p_ratchetref09_nth_11010011 v0 v1 v4 v5 v6 v7 =
 M.bind (bi .add .none (strip v7) (.int .i64 1)) fun t13_0 =>
 p_ratchetref09_nth_11010 v0 v1 v4 v5 v6 t13_0 :=
 (atP_step P X _ _ _).trans (by kernel_rfl)
theorem ratchetref09_nth_eq (a0 a1 : PV) : C k_ratchetref09_nth [a0, a1] =
 trunc (p_ratchetref09_nth_11010 a0 a1 (.str ⟨#[]⟩) (.bool false) (.int .i64 0) (.int .i64 0)) := by
 rw [C, callW_eq _ _ rfl]; kernel_rfl
noncomputable def p_instr_nth_11010 (v0 v1 v4 v5 v9 : PV) : M PV := atP P X k_instr_nth [1, 1, 0, 1, 0] (mkEnv 29 0 [(0, v0), (1, v1), (4, v4), (5, v5), (9, v9)])
theorem p_instr_nth_11010_eq (v0 v1 v4 v5 v9 : PV) : p_instr_nth_11010 v0 v1 v4 v5 v9 =
 M.bind (nx v9) fun t10_0 =>
 M.bind (ex 0 t10_0) fun t11_1 =>
 condM t11_1
 (M.bind (ex 1 (tupDrop 0 t10_0)) fun t12_2 =>
 M.bind (ex 2 (tupDrop 1 (tupDrop 0 t10_0))) fun t13_3 =>
 M.bind (bi .neq .none (strip t13_3) (.int .i32 32)) fun t15_4 =>
 condM t15_4
 (p_instr_nth_11010 v0 v1 v4 v5 v9)
 (M.bind (bi .eql .none (strip v1) (.int .i64 0)) fun t17_5 =>
 condM t17_5
 (M.bind (slS (strip v0) (some (strip v5)) (some (strip t12_2))) fun t21_6 =>
 resT t21_6 (M.pure t21_6))
 (M.bind (bi .sub .none (strip v1) (.int .i64 1)) fun t23_7 =>
 M.bind (bi .add .none (strip t12_2) (.int .i64 1)) fun t25_8 =>
 p_instr_nth_11010 v0 t23_7 v4 t25_8 v9)))
 (M.bind (slS (strip v0) (some (strip v5)) none) fun t28_9 =>
 resT t28_9 (M.pure t28_9)) :=
 (atP_step P X _ _ _).trans (by kernel_rfl)
theorem instr_nth_eq (a0 a1 : PV) : C k_instr_nth [a0, a1] =
 trunc (M.bind (rg (strip a0)) fun t9_0 =>
 p_instr_nth_11010 a0 a1 (.str ⟨#[]⟩) (.int .i64 0) t9_0) := by
 rw [C, callW_eq _ _ rfl]; kernel_rfl
noncomputable def p_leb_PutU_1100 (v0 v2 v3 : PV) : M PV := atP P X k_leb_PutU [1, 1, 0, 0] (mkEnv 19 0 [(0, v0), (2, v2), (3, v3)])
theorem p_leb_PutU_1100_eq (v0 v2 v3 : PV) : p_leb_PutU_1100 v0 v2 v3 =
 M.bind (bi .gtr .none (strip v0) (.int .u64 127)) fun t5_0 =>
 condM t5_0
 (M.bind (cv (.int .u8) true (strip v0)) fun t10_1 =>
 M.bind (bi .or .none t10_1 (.int .u8 128)) fun t11_2 =>
 M.bind (bs true none [t11_2]) fun t12_3 =>
 M.bind (ap true 1 1 v3 t12_3) fun t13_4 =>
 M.bind (bi .shr .none (strip v0) (.int .u64 7)) fun t7_5 =>
 p_leb_PutU_1100 t7_5 v2 t13_4)
 (M.bind (cv (.int .u8) true (strip v0)) fun t16_6 =>
 M.bind (bs true none [t16_6]) fun t17_7 =>
 M.bind (ap true 1 1 v3 t17_7) fun t18_8 =>
 resT t18_8 (M.pure t18_8)) :=
 (atP_step P X _ _ _).trans (by kernel_rfl)
theorem leb_PutU_eq (a0 : PV) : C k_leb_PutU [a0] =
 trunc (p_leb_PutU_1100 a0 (.slice false true 0 []) (.slice false true 0 [])) := by
 rw [C, callW_eq _ _ rfl]; kernel_rfl
theorem entry_write_eq (a0 : PV) : C k_entry_write [a0] =
 trunc (M.bind (al [(.slice false true 0 [])]) fun t2_0 =>
 M.bind (al [(.int .i64 0)]) fun t3_1 =>
 M.bind (mf k_entry_write_1 [] [t2_0, t3_1]) fun t5_2 =>
 guardM (isPtr t2_0 && isPtr t3_1) <| deferM CD t5_2 []
 (M.bind (bd [(.slice false true 0 [])] []) fun t6_3 =>
 M.bind (bx 1 t6_3) fun t7_4 =>
 M.bind (callV P C (strip a0) [(strip (strip t7_4))]) fun t10_5 =>
 M.bind (nc P (strip t7_4)) fun t12_6 =>
 M.bind (fa 0 t12_6) fun t13_7 =>
 M.bind (ld none true t13_7) fun t14_8 =>
 M.bind (st 1 true t2_0 t14_8) fun _ =>
 M.bind (st 1 false t3_1 (.int .i64 0)) fun _ =>
 M.bind (ld none true t2_0) fun t0_11 => guardM (!isTup t0_11) (M.bind (ld none true t3_1) fun t0_12 => guardM (!isTup t0_12) (M.pure (.tup [t0_11, t0_12]))))
 (M.bind (ld none true t2_0) fun t0_13 => guardM (!isTup t0_13) (M.bind (ld none true t3_1) fun t0_14 => guardM (!isTup t0_14) (M.pure (.tup [t0_13, t0_14]))))) := by
 rw [C, callW_eq _ _ rfl]; kernel_rfl
theorem entry_PutBlockType_1_eq (a0 a1 : PV) : C k_entry_PutBlockType_1 [a0, a1] =
 trunc (M.bind (fa 1 a1) fun t4_0 =>
 M.bind (ld (some 3) false t4_0) fun t5_1 =>
 M.bind (bd [(.int .i64 0), (.bool false), (.int .i64 0)] []) fun t6_2 =>
 M.bind (bi .eql (.struct [.int, .bool, .int]) t5_1 t6_2) fun t7_3 =>
 M.bind (fa 0 a1) fun t13_4 =>
 M.bind (ld none false t13_4) fun t14_5 =>
 M.bind (bi .geq .none t14_5 (.int .i64 0)) fun t15_6 =>
 condM t15_6
 (M.bind (gd (strip (strip t7_3)) true (fa 0 a1)) fun t19_7 =>
 M.bind (gd (strip (strip t7_3)) true (ld none false t19_7)) fun t20_8 =>
 M.bind (gd (strip (strip t7_3)) true (C k_entry_fits [(strip t20_8)])) fun t21_9 =>
 M.bind (pick (strip (strip t7_3)) t21_9 (.bool false)) fun t22_10 =>
 M.bind (C k_entry_pen_must [(strip (strip a0)), (strip t22_10)]) fun t23_11 =>
 M.bind (fa 0 a1) fun t25_12 =>
 M.bind (ld none false t25_12) fun t26_13 =>
 M.bind (C k_leb_PutS [(strip t26_13)]) fun t27_14 =>
 M.bind (nc P (strip a0)) fun t28_15 =>
 M.bind (fa 0 t28_15) fun t29_16 =>
 M.bind (st 1 true t29_16 t27_14) fun _ =>
 M.pure (.tup []))
 (M.bind (fa 0 a1) fun t31_18 =>
 M.bind (ld none false t31_18) fun t32_19 =>
 M.bind (bi .lss .none t32_19 (.int .i64 (-1))) fun t33_20 =>
 condM t33_20
 (M.bind (C k_entry_pen_must [(strip (strip a0)), (.bool false)]) fun t35_21 =>
 M.pure (.tup []))
 (condM t7_3
 (M.bind (C k_entry_pen_byte [(strip (strip a0)), (.int .u8 64)]) fun t39_22 =>
 M.pure (.tup []))
 (M.bind (fa 1 a1) fun t9_23 =>
 M.bind (ld (some 3) false t9_23) fun t10_24 =>
 M.bind (C k_entry_pen_val [(strip (strip a0)), (strip t10_24)]) fun t11_25 =>
 M.pure (.tup []))))) := by
 rw [C, callW_eq _ _ rfl]; kernel_rfl
theorem entry_pen_must_eq (a0 a1 : PV) : C k_entry_pen_must [a0, a1] =
 trunc (M.bind (un .not (strip a1)) fun t5_0 =>
 condM t5_0
 (M.bind (bd [(.int .i64 0), (.int .i64 0)] [(0, 1, (.int .i64 0)), (1, 1, (.int .i64 4))]) fun t6_1 =>
 M.bind (mi y_entry_fault t6_1) fun t7_2 =>
 M.bind (pn t7_2) fun _ =>
 M.pure (.tup []))
 (M.pure (.tup []))) := by
 rw [C, callW_eq _ _ rfl]; kernel_rfl
theorem entry_fits_eq (a0 : PV) : C k_entry_fits [a0] =
 trunc (M.bind (bi .geq .none (strip a0) (.int .i64 0)) fun t4_0 =>
 M.bind (gd (strip t4_0) true (M.pure (strip a0))) fun t6_1 =>
 M.bind (gd (strip t4_0) true (bi .leq .none t6_1 (.int .i64 2147483647))) fun t7_2 =>
 M.bind (pick (strip t4_0) t7_2 (.bool false)) fun t8_3 =>
 resT t8_3 (M.pure t8_3)) := by
 rw [C, callW_eq _ _ rfl]; kernel_rfl
noncomputable def p_leb_PutS_1100 (v0 v2 v3 : PV) : M PV := atP P X k_leb_PutS [1, 1, 0, 0] (mkEnv 24 0 [(0, v0), (2, v2), (3, v3)])
theorem p_leb_PutS_1100_eq (v0 v2 v3 : PV) : p_leb_PutS_1100 v0 v2 v3 =
 M.bind (bi .lss .none (strip v0) (.int .i64 (-64))) fun t5_0 =>
 M.bind (gd (strip t5_0) false (M.pure (strip v0))) fun t7_1 =>
 M.bind (gd (strip t5_0) false (bi .gtr .none t7_1 (.int .i64 63))) fun t8_2 =>
 M.bind (pick (strip t5_0) (.bool true) t8_2) fun t9_3 =>
 condM t9_3
 (M.bind (cv (.int .u8) true (strip v0)) fun t14_4 =>
 M.bind (bi .or .none t14_4 (.int .u8 128)) fun t15_5 =>
 M.bind (bs true none [t15_5]) fun t16_6 =>
 M.bind (ap true 1 1 v3 t16_6) fun t17_7 =>
 M.bind (bi .shr .none (strip v0) (.int .u64 7)) fun t11_8 =>
 p_leb_PutS_1100 t11_8 v2 t17_7)
 (M.bind (cv (.int .u8) true (strip v0)) fun t20_9 =>
 M.bind (bi .and .none t20_9 (.int .u8 127)) fun t21_10 =>
 M.bind (bs true none [t21_10]) fun t22_11 =>
 M.bind (ap true 1 1 v3 t22_11) fun t23_12 =>
 resT t23_12 (M.pure t23_12)) :=
 (atP_step P X _ _ _).trans (by kernel_rfl)
theorem leb_PutS_eq (a0 : PV) : C k_leb_PutS [a0] =
 trunc (p_leb_PutS_1100 a0 (.slice false true 0 []) (.slice false true 0 [])) := by
 rw [C, callW_eq _ _ rfl]; kernel_rfl
theorem entry_pen_byte_eq (a0 a1 : PV) : C k_entry_pen_byte [a0, a1] =
 trunc (M.bind (nc P (strip a0)) fun t6_0 =>
 M.bind (fa 0 t6_0) fun t7_1 =>
 M.bind (ld none true t7_1) fun t8_2 =>
 M.bind (bs true none [(strip a1)]) fun t10_3 =>
 M.bind (ap true 1 1 t8_2 t10_3) fun t11_4 =>
 M.bind (nc P (strip a0)) fun t12_5 =>
 M.bind (fa 0 t12_5) fun t13_6 =>
 M.bind (st 1 true t13_6 t11_4) fun _ =>
 M.pure (.tup [])) := by
 rw [C, callW_eq _ _ rfl]; kernel_rfl
noncomputable def p_entry_pen_val_111 (v0 v3 : PV) : M PV := atP P X k_entry_pen_val [1, 1, 1] (mkEnv 49 0 [(0, v0), (3, v3)])
theorem p_entry_pen_val_111_eq (v0 v3 : PV) : p_entry_pen_val_111 v0 v3 =
 M.bind (fa 2 v3) fun t46_0 =>
 M.bind (ld none false t46_0) fun t47_1 =>
 M.bind (C k_entry_pen_heap [(strip (strip v0)), (strip t47_1)]) fun t48_2 =>
 M.pure (.tup []) :=
 (atP_step P X _ _ _).trans (by kernel_rfl)
theorem entry_pen_val_eq (a0 a1 : PV) : C k_entry_pen_val [a0, a1] =
 trunc (M.bind (bx 3 a1) fun t3_0 =>
 M.bind (fa 0 t3_0) fun t4_1 =>
 M.bind (ld none false t4_1) fun t5_2 =>
 M.bind (bi .neq .none t5_2 (.int .i64 5)) fun t6_3 =>
 condM t6_3
 (M.bind (fa 0 t3_0) fun t8_4 =>
 M.bind (ld none false t8_4) fun t9_5 =>
 M.bind (bi .geq .none t9_5 (.int .i64 1)) fun t10_6 =>
 M.bind (gd (strip t10_6) true (fa 0 t3_0)) fun t12_7 =>
 M.bind (gd (strip t10_6) true (ld none false t12_7)) fun t13_8 =>
 M.bind (gd (strip t10_6) true (bi .leq .none t13_8 (.int .i64 4))) fun t14_9 =>
 M.bind (pick (strip t10_6) t14_9 (.bool false)) fun t15_10 =>
 M.bind (gd (strip t15_10) true (fa 1 t3_0)) fun t17_11 =>
 M.bind (gd (strip t15_10) true (ld none false t17_11)) fun t18_12 =>
 M.bind (gd (strip t15_10) true (un .not t18_12)) fun t19_13 =>
 M.bind (pick (strip t15_10) t19_13 (.bool false)) fun t20_14 =>
 M.bind (gd (strip t20_14) true (fa 2 t3_0)) fun t22_15 =>
 M.bind (gd (strip t20_14) true (ld none false t22_15)) fun t23_16 =>
 M.bind (gd (strip t20_14) true (bi .eql .none t23_16 (.int .i64 0))) fun t24_17 =>
 M.bind (pick (strip t20_14) t24_17 (.bool false)) fun t25_18 =>
 M.bind (C k_entry_pen_must [(strip (strip a0)), (strip t25_18)]) fun t26_19 =>
 M.bind (fa 0 t3_0) fun t28_20 =>
 M.bind (ld none false t28_20) fun t29_21 =>
 M.bind (cv (.int .u8) true t29_21) fun t30_22 =>
 M.bind (bi .sub .none (.int .u8 128) t30_22) fun t31_23 =>
 M.bind (C k_entry_pen_byte [(strip (strip a0)), (strip t31_23)]) fun t32_24 =>
 M.pure (.tup []))
 (M.bind (fa 1 t3_0) fun t34_25 =>
 M.bind (ld none false t34_25) fun t35_26 =>
 M.bind (un .not t35_26) fun t36_27 =>
 condM t36_27
 (M.bind (C k_entry_pen_byte [(strip (strip a0)), (.int .u8 100)]) fun t38_28 =>
 p_entry_pen_val_111 a0 t3_0)
 (M.bind (fa 2 t3_0) fun t40_29 =>
 M.bind (ld none false t40_29) fun t41_30 =>
 M.bind (bi .geq .none t41_30 (.int .i64 0)) fun t42_31 =>
 condM t42_31
 (M.bind (C k_entry_pen_byte [(strip (strip a0)), (.int .u8 99)]) fun t44_32 =>
 p_entry_pen_val_111 a0 t3_0)
 (p_entry_pen_val_111 a0 t3_0)))) := by
 rw [C, callW_eq _ _ rfl]; kernel_rfl
theorem entry_PutValType_eq (a0 : PV) : C k_entry_PutValType [a0] =
 trunc (M.bind (bx 3 a0) fun t1_0 =>
 M.bind (mf k_entry_PutValType_1 [] [t1_0]) fun t4_1 =>
 M.bind (C k_entry_write [(strip t4_1)]) fun t5_2 =>
 M.bind (ex 0 t5_2) fun t6_3 =>
 M.bind (ex 1 (tupDrop 0 t5_2)) fun t7_4 =>
 resT t6_3 (resT t7_4 (M.pure (.tup [t6_3, t7_4])))) := by
 rw [C, callW_eq _ _ rfl]; kernel_rfl
theorem entry_PutHeapType_eq (a0 : PV) : C k_entry_PutHeapType [a0] =
 trunc (M.bind (bx 1 a0) fun t1_0 =>
 M.bind (mf k_entry_PutHeapType_1 [] [t1_0]) fun t4_1 =>
 M.bind (C k_entry_write [(strip t4_1)]) fun t5_2 =>
 M.bind (ex 0 t5_2) fun t6_3 =>
 M.bind (ex 1 (tupDrop 0 t5_2)) fun t7_4 =>
 resT t6_3 (resT t7_4 (M.pure (.tup [t6_3, t7_4])))) := by
 rw [C, callW_eq _ _ rfl]; kernel_rfl
theorem leb_PutF32_eq (a0 : PV) : C k_leb_PutF32 [a0] =
 trunc (M.bind (cv (.int .u64) true (strip a0)) fun t4_0 =>
 M.bind (C k_leb_bits [(strip t4_0), (.int .i64 4)]) fun t5_1 =>
 resT t5_1 (M.pure t5_1)) := by
 rw [C, callW_eq _ _ rfl]; kernel_rfl
theorem leb_PutF64_eq (a0 : PV) : C k_leb_PutF64 [a0] =
 trunc (M.bind (C k_leb_bits [(strip (strip a0)), (.int .i64 8)]) fun t4_0 =>
 resT t4_0 (M.pure t4_0)) := by
 rw [C, callW_eq _ _ rfl]; kernel_rfl
noncomputable def p_ratchetref08_PutBlockType_1111 (v2 v3 v4 : PV) : M PV := atP P X k_ratchetref08_PutBlockType [1, 1, 1, 1] (mkEnv 50 0 [(2, v2), (3, v3), (4, v4)])
theorem p_ratchetref08_PutBlockType_1111_eq (v2 v3 v4 : PV) : p_ratchetref08_PutBlockType_1111 v2 v3 v4 =
 M.bind (C k_ratchetref08_writing_done [(strip (strip v4))]) fun t47_0 =>
 M.bind (ex 0 t47_0) fun t48_1 =>
 M.bind (ex 1 (tupDrop 0 t47_0)) fun t49_2 =>
 resT t48_1 (resT t49_2 (M.pure (.tup [t48_1, t49_2]))) :=
 (atP_step P X _ _ _).trans (by kernel_rfl)
theorem ratchetref08_PutBlockType_eq (a0 : PV) : C k_ratchetref08_PutBlockType [a0] =
 trunc (M.bind (bx 4 a0) fun t1_0 =>
 M.bind (bd [(.slice false true 0 []), (.int .i64 0)] []) fun t6_1 =>
 M.bind (bx 2 t6_1) fun t7_2 =>
 M.bind (fa 1 t1_0) fun t8_3 =>
 M.bind (ld (some 3) false t8_3) fun t9_4 =>
 M.bind (bd [(.int .i64 0), (.bool false), (.int .i64 0)] []) fun t10_5 =>
 M.bind (bi .eql (.struct [.int, .bool, .int]) t9_4 t10_5) fun t11_6 =>
 M.bind (fa 0 t1_0) fun t17_7 =>
 M.bind (ld none false t17_7) fun t18_8 =>
 M.bind (bi .geq .none t18_8 (.int .i64 0)) fun t19_9 =>
 condM t19_9
 (M.bind (gd (strip (strip t11_6)) true (fa 0 t1_0)) fun t23_10 =>
 M.bind (gd (strip (strip t11_6)) true (ld none false t23_10)) fun t24_11 =>
 M.bind (gd (strip (strip t11_6)) true (bi .lss .none t24_11 (.int .i64 2147483648))) fun t25_12 =>
 M.bind (pick (strip (strip t11_6)) t25_12 (.bool false)) fun t26_13 =>
 M.bind (C k_ratchetref08_writing_must [(strip (strip t7_2)), (strip t26_13), (.int .i64 4)]) fun t27_14 =>
 M.bind (fa 0 t1_0) fun t29_15 =>
 M.bind (ld none false t29_15) fun t30_16 =>
 M.bind (C k_ratchetref01_PutS [(strip t30_16)]) fun t31_17 =>
 M.bind (nc P (strip t7_2)) fun t32_18 =>
 M.bind (fa 0 t32_18) fun t33_19 =>
 M.bind (st 1 true t33_19 t31_17) fun _ =>
 p_ratchetref08_PutBlockType_1111 (.slice false true 0 []) (.int .i64 0) t7_2)
 (M.bind (fa 0 t1_0) fun t35_21 =>
 M.bind (ld none false t35_21) fun t36_22 =>
 M.bind (bi .lss .none t36_22 (.int .i64 (-1))) fun t37_23 =>
 condM t37_23
 (M.bind (C k_ratchetref08_writing_must [(strip (strip t7_2)), (.bool false), (.int .i64 4)]) fun t39_24 =>
 p_ratchetref08_PutBlockType_1111 (.slice false true 0 []) (.int .i64 0) t7_2)
 (condM t11_6
 (M.bind (bs true none [(.int .u8 64)]) fun t43_25 =>
 M.bind (nc P (strip t7_2)) fun t44_26 =>
 M.bind (fa 0 t44_26) fun t45_27 =>
 M.bind (st 1 true t45_27 t43_25) fun _ =>
 p_ratchetref08_PutBlockType_1111 (.slice false true 0 []) (.int .i64 0) t7_2)
 (M.bind (fa 1 t1_0) fun t13_29 =>
 M.bind (ld (some 3) false t13_29) fun t14_30 =>
 M.bind (C k_ratchetref08_writing_val [(strip (strip t7_2)), (strip t14_30), (.bool false)]) fun t15_31 =>
 p_ratchetref08_PutBlockType_1111 (.slice false true 0 []) (.int .i64 0) t7_2)))) := by
 rw [C, callW_eq _ _ rfl]; kernel_rfl
noncomputable def p_ratchetref01_PutU_1100 (v0 v2 v3 : PV) : M PV := atP P X k_ratchetref01_PutU [1, 1, 0, 0] (mkEnv 20 0 [(0, v0), (2, v2), (3, v3)])
theorem p_ratchetref01_PutU_1100_eq (v0 v2 v3 : PV) : p_ratchetref01_PutU_1100 v0 v2 v3 =
 M.bind (bi .geq .none (strip v0) (.int .u64 128)) fun t5_0 =>
 condM t5_0
 (M.bind (bi .rem .none (strip v0) (.int .u64 128)) fun t8_1 =>
 M.bind (cv (.int .u8) true t8_1) fun t9_2 =>
 M.bind (bi .add .none t9_2 (.int .u8 128)) fun t10_3 =>
 M.bind (bs true none [t10_3]) fun t11_4 =>
 M.bind (ap true 1 1 v3 t11_4) fun t12_5 =>
 M.bind (bi .quo .none (strip v0) (.int .u64 128)) fun t14_6 =>
 p_ratchetref01_PutU_1100 t14_6 v2 t12_5)
 (M.bind (cv (.int .u8) true (strip v0)) fun t17_7 =>
 M.bind (bs true none [t17_7]) fun t18_8 =>
 M.bind (ap true 1 1 v3 t18_8) fun t19_9 =>
 resT t19_9 (M.pure t19_9)) :=
 (atP_step P X _ _ _).trans (by kernel_rfl)
theorem ratchetref01_PutU_eq (a0 : PV) : C k_ratchetref01_PutU [a0] =
 trunc (p_ratchetref01_PutU_1100 a0 (.slice false true 0 []) (.slice false true 0 [])) := by
 rw [C, callW_eq _ _ rfl]; kernel_rfl
theorem ratchetref08_PutValType_eq (a0 : PV) : C k_ratchetref08_PutValType [a0] =
 trunc (M.bind (bx 3 a0) fun t1_0 =>
 M.bind (bd [(.slice false true 0 []), (.int .i64 0)] []) fun t5_1 =>
 M.bind (bx 2 t5_1) fun t6_2 =>
 M.bind (ld (some 3) false t1_0) fun t8_3 =>
 M.bind (C k_ratchetref08_writing_val [(strip (strip t6_2)), (strip t8_3), (.bool false)]) fun t9_4 =>
 M.bind (C k_ratchetref08_writing_done [(strip (strip t6_2))]) fun t11_5 =>
 M.bind (ex 0 t11_5) fun t12_6 =>
 M.bind (ex 1 (tupDrop 0 t11_5)) fun t13_7 =>
 resT t12_6 (resT t13_7 (M.pure (.tup [t12_6, t13_7])))) := by
 rw [C, callW_eq _ _ rfl]; kernel_rfl
noncomputable def p_ratchetref09_writing_refs_11010 (v0 v1 v6 v7 v8 : PV) : M PV := atP P X k_ratchetref09_writing_refs [1, 1, 0, 1, 0] (mkEnv 34 0 [(0, v0), (1, v1), (6, v6), (7, v7), (8, v8)])
noncomputable def p_ratchetref09_writing_refs_1111 (v6 v7 : PV) : M PV := atP P X k_ratchetref09_writing_refs [1, 1, 1, 1] (mkEnv 34 0 [(6, v6), (7, v7)])
theorem p_ratchetref09_writing_refs_11010_eq (v0 v1 v6 v7 v8 : PV) : p_ratchetref09_writing_refs_11010 v0 v1 v6 v7 v8 =
 M.bind (lnL (strip v1)) fun t15_0 =>
 M.bind (bi .lss .none (strip v8) t15_0) fun t16_1 =>
 condM t16_1
 (M.bind (gd (strip (strip v7)) true (M.pure (strip v1))) fun t21_2 =>
 M.bind (gd (strip (strip v7)) true (M.pure (strip v8))) fun t22_3 =>
 M.bind (gd (strip (strip v7)) true (iaS 3 t21_2 t22_3)) fun t23_4 =>
 M.bind (gd (strip (strip v7)) true (fa 0 t23_4)) fun t24_5 =>
 M.bind (gd (strip (strip v7)) true (ld none false t24_5)) fun t25_6 =>
 M.bind (gd (strip (strip v7)) true (bi .eql .none t25_6 (.int .i64 5))) fun t26_7 =>
 M.bind (pick (strip (strip v7)) t26_7 (.bool false)) fun t27_8 =>
 M.bind (bi .add .none (strip v8) (.int .i64 1)) fun t18_9 =>
 p_ratchetref09_writing_refs_11010 v0 v1 v6 t27_8 t18_9)
 (M.bind (un .not (strip v7)) fun t29_10 =>
 condM t29_10
 (M.bind (nc P (strip v0)) fun t31_11 =>
 M.bind (fa 1 t31_11) fun t32_12 =>
 M.bind (st 1 false t32_12 (.bool true)) fun _ =>
 p_ratchetref09_writing_refs_1111 v6 v7)
 (p_ratchetref09_writing_refs_1111 v6 v7)) :=
 (atP_step P X _ _ _).trans (by kernel_rfl)
theorem p_ratchetref09_writing_refs_1111_eq (v6 v7 : PV) : p_ratchetref09_writing_refs_1111 v6 v7 =
 resT v7 (M.pure v7) :=
 (atP_step P X _ _ _).trans (by kernel_rfl)
theorem ratchetref09_writing_refs_eq (a0 a1 a2 : PV) : C k_ratchetref09_writing_refs [a0, a1, a2] =
 trunc (M.bind (lnL (strip a1)) fun t10_0 =>
 M.bind (bi .eql .none t10_0 (strip a2)) fun t12_1 =>
 p_ratchetref09_writing_refs_11010 a0 a1 (.bool false) t12_1 (.int .i64 0)) := by
 rw [C, callW_eq _ _ rfl]; kernel_rfl
noncomputable def p_ratchetref09_writing_heap_11 (v0 v4 : PV) : M PV := atP P X k_ratchetref09_writing_heap [1, 1] (mkEnv 25 0 [(0, v0), (4, v4)])
theorem p_ratchetref09_writing_heap_11_eq (v0 v4 : PV) : p_ratchetref09_writing_heap_11 v0 v4 =
 M.bind (nc P (strip v0)) fun t18_0 =>
 M.bind (fa 0 t18_0) fun t19_1 =>
 M.bind (ld none true t19_1) fun t20_2 =>
 M.bind (ap true 1 1 t20_2 (strip v4)) fun t22_3 =>
 M.bind (nc P (strip v0)) fun t23_4 =>
 M.bind (fa 0 t23_4) fun t24_5 =>
 M.bind (st 1 true t24_5 t22_3) fun _ =>
 M.pure (.tup []) :=
 (atP_step P X _ _ _).trans (by kernel_rfl)
theorem ratchetref09_writing_heap_eq (a0 a1 : PV) : C k_ratchetref09_writing_heap [a0, a1] =
 trunc (M.bind (C k_ratchetref08_PutHeapType [(strip (strip a1))]) fun t8_0 =>
 M.bind (ex 0 (strip t8_0)) fun t9_1 =>
 M.bind (ex 1 (tupDrop 0 (strip t8_0))) fun t10_2 =>
 M.bind (bi .neq .none (strip t10_2) (.int .i64 0)) fun t12_3 =>
 condM t12_3
 (M.bind (nc P (strip a0)) fun t14_4 =>
 M.bind (fa 1 t14_4) fun t15_5 =>
 M.bind (st 1 false t15_5 (.bool true)) fun _ =>
 p_ratchetref09_writing_heap_11 a0 t9_1)
 (p_ratchetref09_writing_heap_11 a0 t9_1)) := by
 rw [C, callW_eq _ _ rfl]; kernel_rfl
noncomputable def p_ratchetref01_PutS_1100 (v0 v2 v3 : PV) : M PV := atP P X k_ratchetref01_PutS [1, 1, 0, 0] (mkEnv 25 0 [(0, v0), (2, v2), (3, v3)])
theorem p_ratchetref01_PutS_1100_eq (v0 v2 v3 : PV) : p_ratchetref01_PutS_1100 v0 v2 v3 =
 M.bind (bi .lss .none (strip v0) (.int .i64 (-64))) fun t5_0 =>
 M.bind (gd (strip t5_0) false (M.pure (strip v0))) fun t7_1 =>
 M.bind (gd (strip t5_0) false (bi .gtr .none t7_1 (.int .i64 63))) fun t8_2 =>
 M.bind (pick (strip t5_0) (.bool true) t8_2) fun t9_3 =>
 condM t9_3
 (M.bind (bi .and .none (strip v0) (.int .i64 127)) fun t12_4 =>
 M.bind (cv (.int .u8) true t12_4) fun t13_5 =>
 M.bind (bi .add .none t13_5 (.int .u8 128)) fun t14_6 =>
 M.bind (bs true none [t14_6]) fun t15_7 =>
 M.bind (ap true 1 1 v3 t15_7) fun t16_8 =>
 M.bind (bi .shr .none (strip v0) (.int .u64 7)) fun t18_9 =>
 p_ratchetref01_PutS_1100 t18_9 v2 t16_8)
 (M.bind (bi .and .none (strip v0) (.int .i64 127)) fun t21_10 =>
 M.bind (cv (.int .u8) true t21_10) fun t22_11 =>
 M.bind (bs true none [t22_11]) fun t23_12 =>
 M.bind (ap true 1 1 v3 t23_12) fun t24_13 =>
 resT t24_13 (M.pure t24_13)) :=
 (atP_step P X _ _ _).trans (by kernel_rfl)
theorem ratchetref01_PutS_eq (a0 : PV) : C k_ratchetref01_PutS [a0] =
 trunc (p_ratchetref01_PutS_1100 a0 (.slice false true 0 []) (.slice false true 0 [])) := by
 rw [C, callW_eq _ _ rfl]; kernel_rfl
noncomputable def p_ratchetref01_PutFixed_11010 (v0 v1 v4 v5 v6 : PV) : M PV := atP P X k_ratchetref01_PutFixed [1, 1, 0, 1, 0] (mkEnv 21 0 [(0, v0), (1, v1), (4, v4), (5, v5), (6, v6)])
theorem p_ratchetref01_PutFixed_11010_eq (v0 v1 v4 v5 v6 : PV) : p_ratchetref01_PutFixed_11010 v0 v1 v4 v5 v6 =
 M.bind (bi .lss .none (strip v6) (strip v1)) fun t9_0 =>
 condM t9_0
 (M.bind (bi .rem .none (strip v0) (.int .u64 256)) fun t14_1 =>
 M.bind (cv (.int .u8) true t14_1) fun t15_2 =>
 M.bind (bs true none [t15_2]) fun t16_3 =>
 M.bind (ap true 1 1 v5 t16_3) fun t17_4 =>
 M.bind (bi .quo .none (strip v0) (.int .u64 256)) fun t19_5 =>
 M.bind (bi .add .none (strip v6) (.int .i64 1)) fun t11_6 =>
 p_ratchetref01_PutFixed_11010 t19_5 v1 v4 t17_4 t11_6)
 (resT v5 (M.pure v5)) :=
 (atP_step P X _ _ _).trans (by kernel_rfl)
theorem ratchetref01_PutFixed_eq (a0 a1 : PV) : C k_ratchetref01_PutFixed [a0, a1] =
 trunc (p_ratchetref01_PutFixed_11010 a0 a1 (.slice false true 0 []) (.slice false true 0 []) (.int .i64 0)) := by
 rw [C, callW_eq _ _ rfl]; kernel_rfl
theorem entry_write_1_deq (a0 a1 : PV) : CD none k_entry_write_1 [a0, a1] =
 noPan (trunc (M.bind (M.pure .niliface) fun t3_0 =>
 M.bind (bi .neq .iface (strip t3_0) .niliface) fun t5_1 =>
 condM t5_1
 (nb (M.pure (strip t3_0)) fun t6_2 =>
 nb (ta y_entry_fault (.agg [(.int .i64 0), (.int .i64 0)]) false t6_2) fun t7_3 =>
 nb (fd 1 none t7_3) fun t8_4 =>
 guardM (!clash (tst a0) (.no) && (!clash (tst a0) (.no) && (!clash (tst a0) (.no) && true))) <| M.bind (noPan (st 1 false a0 (.slice false true 0 []))) fun _ =>
 M.bind (noPan (st 1 true a1 t8_4)) fun _ =>
 M.pure (.tup []))
 (M.pure (.tup [])))) := by
 rw [CD, callDW_eq]; kernel_rfl
theorem entry_write_1_req (r : PV) (a0 a1 : PV) : CD (some r) k_entry_write_1 [a0, a1] =
 noPan (trunc (M.bind (M.pure r) fun t3_0 =>
 M.bind (bi .neq .iface (strip t3_0) .niliface) fun t5_1 =>
 condM t5_1
 (nb (M.pure (strip t3_0)) fun t6_2 =>
 nb (ta y_entry_fault (.agg [(.int .i64 0), (.int .i64 0)]) false t6_2) fun t7_3 =>
 nb (fd 1 none t7_3) fun t8_4 =>
 guardM (!clash (tst a0) (.no) && (!clash (tst a0) (.no) && (!clash (tst a0) (.no) && true))) <| M.bind (noPan (st 1 false a0 (.slice false true 0 []))) fun _ =>
 M.bind (noPan (st 1 true a1 t8_4)) fun _ =>
 M.pure (.tup []))
 (M.pure (.tup [])))) := by
 rw [CD, callDW_eq]; kernel_rfl
noncomputable def p_entry_pen_heap_1010 (v0 v1 v22 v23 : PV) : M PV := atP P X k_entry_pen_heap [1, 0, 1, 0] (mkEnv 38 0 [(0, v0), (1, v1), (22, v22), (23, v23)])
theorem p_entry_pen_heap_1010_eq (v0 v1 v22 v23 : PV) : p_entry_pen_heap_1010 v0 v1 v22 v23 =
 M.bind (bi .lss .none v23 (.int .i64 12)) fun t24_0 =>
 condM t24_0
 (M.bind (ixA 12 1 none v22 (strip v23)) fun t26_1 =>
 M.bind (bi .eql .none (strip t26_1) (strip v1)) fun t29_2 =>
 condM t29_2
 (M.bind (cv (.int .u8) true (strip v23)) fun t32_3 =>
 M.bind (bi .add .none (.int .u8 105) t32_3) fun t33_4 =>
 M.bind (C k_entry_pen_byte [(strip (strip v0)), (strip t33_4)]) fun t34_5 =>
 M.pure (.tup []))
 (M.bind (bi .add .none (strip v23) (.int .i64 1)) fun t35_6 =>
 p_entry_pen_heap_1010 v0 v1 v22 (strip t35_6)))
 (M.bind (C k_entry_pen_must [(strip (strip v0)), (.bool false)]) fun t37_7 =>
 M.pure (.tup [])) :=
 (atP_step P X _ _ _).trans (by kernel_rfl)
theorem entry_pen_heap_eq (a0 a1 : PV) : C k_entry_pen_heap [a0, a1] =
 trunc (M.bind (bi .geq .none (strip a1) (.int .i64 0)) fun t7_0 =>
 condM t7_0
 (M.bind (C k_entry_fits [(strip (strip a1))]) fun t10_1 =>
 M.bind (C k_entry_pen_must [(strip (strip a0)), (strip t10_1)]) fun t11_2 =>
 chk
 (M.bind (noPan (M.pure (strip a0))) fun t12_14 =>
 M.bind (noPan (M.pure (strip a0))) fun t13_15 =>
 M.bind (noPan (nc P t13_15)) fun t14_16 =>
 M.bind (noPan (fa 0 t14_16)) fun t15_17 =>
 M.bind (noPan (M.pure (strip a1))) fun t17_18 =>
 M.bind (noPan (C k_leb_PutS [(strip t17_18)])) fun t18_19 =>
 M.bind (noPan (ld none true t15_17)) fun t16_20 =>
 M.bind (noPan (ap true 1 1 t16_20 t18_19)) fun t19_21 =>
 M.bind (noPan (nc P t12_14)) fun t20_22 =>
 M.bind (noPan (fa 0 t20_22)) fun t21_23 =>
 M.bind (noPan (st 1 true t21_23 t19_21)) fun _ =>
 M.pure [a0, a1, .undef, .undef, .undef, .undef, (strip a1), t7_0, (strip a0), (strip a1), t10_1, t11_2, t12_14, t13_15, t14_16, t15_17, (strip t16_20), t17_18, t18_19, (strip t19_21), t20_22, t21_23, .undef, .undef, .undef, .undef, .undef, .undef, .undef, .undef, .undef, .undef, .undef, .undef, .undef, .undef, .undef, .undef])
 (M.bind (noPan (M.pure (strip a0))) fun t12_3 =>
 M.bind (noPan (M.pure (strip a0))) fun t13_4 =>
 M.bind (noPan (nc P t13_4)) fun t14_5 =>
 M.bind (noPan (fa 0 t14_5)) fun t15_6 =>
 M.bind (noPan (M.pure (strip a1))) fun t17_7 =>
 M.bind (noPan (ld none true t15_6)) fun t16_8 =>
 M.bind (noPan (C k_leb_PutS [(strip t17_7)])) fun t18_9 =>
 M.bind (noPan (ap true 1 1 t16_8 t18_9)) fun t19_10 =>
 M.bind (noPan (nc P t12_3)) fun t20_11 =>
 M.bind (noPan (fa 0 t20_11)) fun t21_12 =>
 M.bind (noPan (st 1 true t21_12 t19_10)) fun _ =>
 M.pure [a0, a1, .undef, .undef, .undef, .undef, (strip a1), t7_0, (strip a0), (strip a1), t10_1, t11_2, t12_3, t13_4, t14_5, t15_6, (strip t16_8), t17_7, t18_9, (strip t19_10), t20_11, t21_12, .undef, .undef, .undef, .undef, .undef, .undef, .undef, .undef, .undef, .undef, .undef, .undef, .undef, .undef, .undef, .undef]) <|
 M.bind (noPan (M.pure (strip a0))) fun t12_25 =>
 M.bind (noPan (M.pure (strip a0))) fun t13_26 =>
 M.bind (noPan (nc P t13_26)) fun t14_27 =>
 M.bind (noPan (fa 0 t14_27)) fun t15_28 =>
 M.bind (noPan (M.pure (strip a1))) fun t17_29 =>
 M.bind (noPan (ld none true t15_28)) fun t16_30 =>
 M.bind (noPan (C k_leb_PutS [(strip t17_29)])) fun t18_31 =>
 M.bind (noPan (ap true 1 1 t16_30 t18_31)) fun t19_32 =>
 M.bind (noPan (nc P t12_25)) fun t20_33 =>
 M.bind (noPan (fa 0 t20_33)) fun t21_34 =>
 M.bind (noPan (st 1 true t21_34 t19_32)) fun _ =>
 M.pure (.tup []))
 (M.bind (C k_entry_abstract []) fun t22_36 =>
 p_entry_pen_heap_1010 a0 a1 t22_36 (.int .i64 0))) := by
 rw [C, callW_eq _ _ rfl]; kernel_rfl
theorem entry_PutValType_1_eq (a0 a1 : PV) : C k_entry_PutValType_1 [a0, a1] =
 trunc (M.bind (ld (some 3) false a1) fun t4_0 =>
 M.bind (C k_entry_pen_val [(strip (strip a0)), (strip t4_0)]) fun t5_1 =>
 M.pure (.tup [])) := by
 rw [C, callW_eq _ _ rfl]; kernel_rfl
theorem entry_PutHeapType_1_eq (a0 a1 : PV) : C k_entry_PutHeapType_1 [a0, a1] =
 trunc (M.bind (ld none false a1) fun t4_0 =>
 M.bind (C k_entry_pen_heap [(strip (strip a0)), (strip t4_0)]) fun t5_1 =>
 M.pure (.tup [])) := by
 rw [C, callW_eq _ _ rfl]; kernel_rfl
noncomputable def p_leb_bits_11010 (v0 v4 v5 v6 v7 : PV) : M PV := atP P X k_leb_bits [1, 1, 0, 1, 0] (mkEnv 18 0 [(0, v0), (4, v4), (5, v5), (6, v6), (7, v7)])
theorem p_leb_bits_11010_eq (v0 v4 v5 v6 v7 : PV) : p_leb_bits_11010 v0 v4 v5 v6 v7 =
 M.bind (bi .lss .none v7 v6) fun t8_0 =>
 condM t8_0
 (M.bind (cv (.int .u8) true (strip v0)) fun t11_1 =>
 M.bind (bs true none [t11_1]) fun t12_2 =>
 M.bind (ap true 1 1 v5 t12_2) fun t13_3 =>
 M.bind (bi .shr .none (strip v0) (.int .u64 8)) fun t15_4 =>
 M.bind (bi .add .none v7 (.int .i64 1)) fun t16_5 =>
 p_leb_bits_11010 t15_4 v4 t13_3 v6 (strip t16_5))
 (resT v5 (M.pure v5)) :=
 (atP_step P X _ _ _).trans (by kernel_rfl)
theorem leb_bits_eq (a0 a1 : PV) : C k_leb_bits [a0, a1] =
 trunc (p_leb_bits_11010 a0 (.slice false true 0 []) (.slice false true 0 []) (strip a1) (.int .i64 0)) := by
 rw [C, callW_eq _ _ rfl]; kernel_rfl
theorem ratchetref08_writing_must_eq (a0 a1 a2 : PV) : C k_ratchetref08_writing_must [a0, a1, a2] =
 trunc (M.bind (un .not (strip a1)) fun t7_0 =>
 M.bind (gd (strip t7_0) true (M.pure (strip a0))) fun t9_1 =>
 M.bind (gd (strip t7_0) true (nc P t9_1)) fun t10_2 =>
 M.bind (gd (strip t7_0) true (fa 1 t10_2)) fun t11_3 =>
 M.bind (gd (strip t7_0) true (ld none false t11_3)) fun t12_4 =>
 M.bind (gd (strip t7_0) true (bi .eql .none t12_4 (.int .i64 0))) fun t13_5 =>
 M.bind (pick (strip t7_0) t13_5 (.bool false)) fun t14_6 =>
 condM t14_6
 (M.bind (nc P (strip a0)) fun t17_7 =>
 M.bind (fa 1 t17_7) fun t18_8 =>
 M.bind (st 1 true t18_8 a2) fun _ =>
 M.pure (.tup []))
 (M.pure (.tup []))) := by
 rw [C, callW_eq _ _ rfl]; kernel_rfl
noncomputable def p_ratchetref08_writing_val_1111 (v0 v4 : PV) : M PV := atP P X k_ratchetref08_writing_val [1, 1, 1, 1] (mkEnv 100 0 [(0, v0), (4, v4)])
noncomputable def p_ratchetref08_writing_val_10101111 (v0 v4 v7 : PV) : M PV := atP P X k_ratchetref08_writing_val [1, 0, 1, 0, 1, 1, 1, 1] (mkEnv 100 0 [(0, v0), (4, v4), (7, v7)])
noncomputable def p_ratchetref08_writing_val_101011111 (v0 v4 v7 : PV) : M PV := atP P X k_ratchetref08_writing_val [1, 0, 1, 0, 1, 1, 1, 1, 1] (mkEnv 100 0 [(0, v0), (4, v4), (7, v7)])
theorem p_ratchetref08_writing_val_1111_eq (v0 v4 : PV) : p_ratchetref08_writing_val_1111 v0 v4 =
 M.bind (fa 2 v4) fun t97_0 =>
 M.bind (ld none false t97_0) fun t98_1 =>
 M.bind (C k_ratchetref08_writing_heap [(strip (strip v0)), (strip t98_1)]) fun t99_2 =>
 M.pure (.tup []) :=
 (atP_step P X _ _ _).trans (by kernel_rfl)
theorem p_ratchetref08_writing_val_10101111_eq (v0 v4 v7 : PV) : p_ratchetref08_writing_val_10101111 v0 v4 v7 =
 M.bind (fa 0 v4) fun t51_0 =>
 M.bind (ld none false t51_0) fun t52_1 =>
 M.bind (bi .eql .none t52_1 (.int .i64 7)) fun t53_2 =>
 condM t53_2
 (p_ratchetref08_writing_val_101011111 v0 v4 (.int .i64 119))
 (p_ratchetref08_writing_val_101011111 v0 v4 v7) :=
 (atP_step P X _ _ _).trans (by kernel_rfl)
theorem p_ratchetref08_writing_val_101011111_eq (v0 v4 v7 : PV) : p_ratchetref08_writing_val_101011111 v0 v4 v7 =
 M.bind (nc P (strip v0)) fun t56_0 =>
 M.bind (fa 0 t56_0) fun t57_1 =>
 M.bind (ld none true t57_1) fun t58_2 =>
 M.bind (cv (.int .u8) true (strip v7)) fun t60_3 =>
 M.bind (bs true none [t60_3]) fun t61_4 =>
 M.bind (ap true 1 1 t58_2 t61_4) fun t62_5 =>
 M.bind (nc P (strip v0)) fun t63_6 =>
 M.bind (fa 0 t63_6) fun t64_7 =>
 M.bind (st 1 true t64_7 t62_5) fun _ =>
 M.pure (.tup []) :=
 (atP_step P X _ _ _).trans (by kernel_rfl)
theorem ratchetref08_writing_val_eq (a0 a1 a2 : PV) : C k_ratchetref08_writing_val [a0, a1, a2] =
 trunc (M.bind (bx 3 a1) fun t4_0 =>
 M.bind (fa 0 t4_0) fun t8_1 =>
 M.bind (ld none false t8_1) fun t9_2 =>
 M.bind (bi .neq .none t9_2 (.int .i64 5)) fun t10_3 =>
 condM t10_3
 (M.bind (fa 0 t4_0) fun t11_4 =>
 M.bind (ld none false t11_4) fun t12_5 =>
 M.bind (bi .eql .none t12_5 (.int .i64 6)) fun t13_6 =>
 M.bind (gd (strip t13_6) false (fa 0 t4_0)) fun t15_7 =>
 M.bind (gd (strip t13_6) false (ld none false t15_7)) fun t16_8 =>
 M.bind (gd (strip t13_6) false (bi .eql .none t16_8 (.int .i64 7))) fun t17_9 =>
 M.bind (pick (strip t13_6) (.bool true) t17_9) fun t18_10 =>
 M.bind (fa 0 t4_0) fun t20_11 =>
 M.bind (ld none false t20_11) fun t21_12 =>
 M.bind (bi .geq .none t21_12 (.int .i64 1)) fun t22_13 =>
 M.bind (gd (strip t22_13) true (fa 0 t4_0)) fun t24_14 =>
 M.bind (gd (strip t22_13) true (ld none false t24_14)) fun t25_15 =>
 M.bind (gd (strip t22_13) true (bi .leq .none t25_15 (.int .i64 4))) fun t26_16 =>
 M.bind (pick (strip t22_13) t26_16 (.bool false)) fun t27_17 =>
 M.bind (gd (strip t27_17) false (M.pure (strip a2))) fun t29_18 =>
 M.bind (gd (strip t27_17) false (M.pure (strip t29_18))) fun t30_19 =>
 M.bind (gd t30_19 true (M.pure (strip t18_10))) fun t31_20 =>
 M.bind (gd (strip t27_17) false (pick t30_19 t31_20 (.bool false))) fun t32_21 =>
 M.bind (pick (strip t27_17) (.bool true) t32_21) fun t33_22 =>
 M.bind (gd (strip t33_22) true (fa 1 t4_0)) fun t35_23 =>
 M.bind (gd (strip t33_22) true (ld none false t35_23)) fun t36_24 =>
 M.bind (gd (strip t33_22) true (un .not t36_24)) fun t37_25 =>
 M.bind (pick (strip t33_22) t37_25 (.bool false)) fun t38_26 =>
 M.bind (gd (strip t38_26) true (fa 2 t4_0)) fun t40_27 =>
 M.bind (gd (strip t38_26) true (ld none false t40_27)) fun t41_28 =>
 M.bind (gd (strip t38_26) true (bi .eql .none t41_28 (.int .i64 0))) fun t42_29 =>
 M.bind (pick (strip t38_26) t42_29 (.bool false)) fun t43_30 =>
 M.bind (C k_ratchetref08_writing_must [(strip (strip a0)), (strip t43_30), (.int .i64 4)]) fun t44_31 =>
 M.bind (fa 0 t4_0) fun t45_32 =>
 M.bind (ld none false t45_32) fun t46_33 =>
 M.bind (bi .sub .none (.int .i64 128) t46_33) fun t47_34 =>
 M.bind (fa 0 t4_0) fun t48_35 =>
 M.bind (ld none false t48_35) fun t49_36 =>
 M.bind (bi .eql .none t49_36 (.int .i64 6)) fun t50_37 =>
 condM t50_37
 (p_ratchetref08_writing_val_10101111 a0 t4_0 (.int .i64 120))
 (p_ratchetref08_writing_val_10101111 a0 t4_0 t47_34))
 (M.bind (fa 1 t4_0) fun t65_38 =>
 M.bind (ld none false t65_38) fun t66_39 =>
 M.bind (gd (strip t66_39) true (fa 2 t4_0)) fun t68_40 =>
 M.bind (gd (strip t66_39) true (ld none false t68_40)) fun t69_41 =>
 M.bind (gd (strip t66_39) true (bi .lss .none t69_41 (.int .i64 0))) fun t70_42 =>
 M.bind (pick (strip t66_39) t70_42 (.bool false)) fun t71_43 =>
 condM t71_43
 (M.bind (fa 2 t4_0) fun t73_44 =>
 M.bind (ld none false t73_44) fun t74_45 =>
 M.bind (C k_ratchetref08_writing_heap [(strip (strip a0)), (strip t74_45)]) fun t75_46 =>
 M.pure (.tup []))
 (M.bind (fa 1 t4_0) fun t76_47 =>
 M.bind (ld none false t76_47) fun t77_48 =>
 condM t77_48
 (M.bind (nc P (strip a0)) fun t80_49 =>
 M.bind (fa 0 t80_49) fun t81_50 =>
 M.bind (ld none true t81_50) fun t82_51 =>
 M.bind (bs true none [(.int .u8 99)]) fun t83_52 =>
 M.bind (ap true 1 1 t82_51 t83_52) fun t84_53 =>
 M.bind (nc P (strip a0)) fun t85_54 =>
 M.bind (fa 0 t85_54) fun t86_55 =>
 M.bind (st 1 true t86_55 t84_53) fun _ =>
 p_ratchetref08_writing_val_1111 a0 t4_0)
 (M.bind (nc P (strip a0)) fun t89_57 =>
 M.bind (fa 0 t89_57) fun t90_58 =>
 M.bind (ld none true t90_58) fun t91_59 =>
 M.bind (bs true none [(.int .u8 100)]) fun t92_60 =>
 M.bind (ap true 1 1 t91_59 t92_60) fun t93_61 =>
 M.bind (nc P (strip a0)) fun t94_62 =>
 M.bind (fa 0 t94_62) fun t95_63 =>
 M.bind (st 1 true t95_63 t93_61) fun _ =>
 p_ratchetref08_writing_val_1111 a0 t4_0)))) := by
 rw [C, callW_eq _ _ rfl]; kernel_rfl
end Go.Proofs.Ythidcpkcfoldmaa.Pi.Q
namespace Go.Proofs.Ythidcpkcfoldmaa.Pi.Q
open Go Go.Proofs.Ythidcpkcfoldmaa.Pi
set_option linter.unusedVariables false
set_option maxRecDepth 100000
theorem ratchetref08_writing_done_eq (a0 : PV) : C k_ratchetref08_writing_done [a0] =
 trunc (M.bind (nc P (strip a0)) fun t5_0 =>
 M.bind (fa 1 t5_0) fun t6_1 =>
 M.bind (ld none false t6_1) fun t7_2 =>
 M.bind (bi .neq .none t7_2 (.int .i64 0)) fun t8_3 =>
 condM t8_3
 (nb (nc P (strip a0)) fun t10_4 =>
 nb (fa 1 t10_4) fun t11_5 =>
 nb (ld none true t11_5) fun t12_6 =>
 resT t12_6 (M.pure (.tup [(.slice false true 0 []), t12_6])))
 (M.bind (nc P (strip a0)) fun t14_7 =>
 M.bind (fa 0 t14_7) fun t15_8 =>
 M.bind (ld none true t15_8) fun t16_9 =>
 resT t16_9 (M.pure (.tup [t16_9, (.int .i64 0)])))) := by
 rw [C, callW_eq _ _ rfl]; kernel_rfl
theorem ratchetref08_PutHeapType_eq (a0 : PV) : C k_ratchetref08_PutHeapType [a0] =
 trunc (M.bind (bd [(.slice false true 0 []), (.int .i64 0)] []) fun t5_0 =>
 M.bind (bx 2 t5_0) fun t6_1 =>
 M.bind (C k_ratchetref08_writing_heap [(strip (strip t6_1)), (strip (strip a0))]) fun t9_2 =>
 M.bind (C k_ratchetref08_writing_done [(strip (strip t6_1))]) fun t11_3 =>
 M.bind (ex 0 t11_3) fun t12_4 =>
 M.bind (ex 1 (tupDrop 0 t11_3)) fun t13_5 =>
 resT t12_4 (resT t13_5 (M.pure (.tup [t12_4, t13_5])))) := by
 rw [C, callW_eq _ _ rfl]; kernel_rfl
theorem entry_abstract_eq : C k_entry_abstract [] =
 trunc (M.bind (al [(.int .i64 0), (.int .i64 0), (.int .i64 0), (.int .i64 0), (.int .i64 0), (.int .i64 0), (.int .i64 0), (.int .i64 0), (.int .i64 0), (.int .i64 0), (.int .i64 0), (.int .i64 0)]) fun t0_0 =>
 M.bind (bd [(.int .i64 0), (.int .i64 0), (.int .i64 0), (.int .i64 0), (.int .i64 0), (.int .i64 0), (.int .i64 0), (.int .i64 0), (.int .i64 0), (.int .i64 0), (.int .i64 0), (.int .i64 0)] [(0, 1, (.int .i64 (-11))), (1, 1, (.int .i64 (-9))), (2, 1, (.int .i64 (-8))), (3, 1, (.int .i64 (-7))), (4, 1, (.int .i64 (-6))), (5, 1, (.int .i64 (-5))), (6, 1, (.int .i64 (-3))), (7, 1, (.int .i64 (-1))), (8, 1, (.int .i64 (-10))), (9, 1, (.int .i64 (-4))), (10, 1, (.int .i64 (-2))), (11, 1, (.int .i64 (-12)))]) fun t1_1 =>
 M.bind (st 12 true t0_0 t1_1) fun _ =>
 M.bind (ld (some 12) true t0_0) fun t0_3 => guardM (!isTup t0_3) (M.pure t0_3)) := by
 rw [C, callW_eq _ _ rfl]; kernel_rfl
theorem ratchetref08_writing_heap_eq (a0 a1 : PV) : C k_ratchetref08_writing_heap [a0, a1] =
 trunc (M.bind (bi .lss .none (strip a1) (.int .i64 0)) fun t5_0 =>
 condM t5_0
 (M.bind (bi .geq .none (strip a1) (.int .i64 (-12))) fun t8_1 =>
 M.bind (C k_ratchetref08_writing_must [(strip (strip a0)), (strip t8_1), (.int .i64 4)]) fun t9_2 =>
 chk
 (M.bind (noPan (M.pure (strip a0))) fun t10_15 =>
 M.bind (noPan (M.pure (strip a0))) fun t11_16 =>
 M.bind (noPan (nc P t11_16)) fun t12_17 =>
 M.bind (noPan (fa 0 t12_17)) fun t13_18 =>
 M.bind (noPan (M.pure (strip a1))) fun t15_19 =>
 M.bind (noPan (C k_ratchetref08_code [(strip t15_19)])) fun t16_20 =>
 M.bind (noPan (bs true none [t16_20])) fun t17_21 =>
 M.bind (noPan (ld none true t13_18)) fun t14_22 =>
 M.bind (noPan (ap true 1 1 t14_22 t17_21)) fun t18_23 =>
 M.bind (noPan (nc P t10_15)) fun t19_24 =>
 M.bind (noPan (fa 0 t19_24)) fun t20_25 =>
 M.bind (noPan (st 1 true t20_25 t18_23)) fun _ =>
 M.pure [a0, a1, .undef, .undef, (strip a1), t5_0, (strip a0), (strip a1), t8_1, t9_2, t10_15, t11_16, t12_17, t13_18, (strip t14_22), t15_19, t16_20, t17_21, (strip t18_23), t19_24, t20_25, .undef, .undef, .undef, .undef, .undef, .undef, .undef, .undef, .undef, .undef, .undef, .undef, .undef, .undef])
 (M.bind (noPan (M.pure (strip a0))) fun t10_3 =>
 M.bind (noPan (M.pure (strip a0))) fun t11_4 =>
 M.bind (noPan (nc P t11_4)) fun t12_5 =>
 M.bind (noPan (fa 0 t12_5)) fun t13_6 =>
 M.bind (noPan (M.pure (strip a1))) fun t15_7 =>
 M.bind (noPan (ld none true t13_6)) fun t14_8 =>
 M.bind (noPan (C k_ratchetref08_code [(strip t15_7)])) fun t16_9 =>
 M.bind (noPan (bs true none [t16_9])) fun t17_10 =>
 M.bind (noPan (ap true 1 1 t14_8 t17_10)) fun t18_11 =>
 M.bind (noPan (nc P t10_3)) fun t19_12 =>
 M.bind (noPan (fa 0 t19_12)) fun t20_13 =>
 M.bind (noPan (st 1 true t20_13 t18_11)) fun _ =>
 M.pure [a0, a1, .undef, .undef, (strip a1), t5_0, (strip a0), (strip a1), t8_1, t9_2, t10_3, t11_4, t12_5, t13_6, (strip t14_8), t15_7, t16_9, t17_10, (strip t18_11), t19_12, t20_13, .undef, .undef, .undef, .undef, .undef, .undef, .undef, .undef, .undef, .undef, .undef, .undef, .undef, .undef]) <|
 M.bind (noPan (M.pure (strip a0))) fun t10_27 =>
 M.bind (noPan (M.pure (strip a0))) fun t11_28 =>
 M.bind (noPan (nc P t11_28)) fun t12_29 =>
 M.bind (noPan (fa 0 t12_29)) fun t13_30 =>
 M.bind (noPan (M.pure (strip a1))) fun t15_31 =>
 M.bind (noPan (ld none true t13_30)) fun t14_32 =>
 M.bind (noPan (C k_ratchetref08_code [(strip t15_31)])) fun t16_33 =>
 M.bind (noPan (bs true none [t16_33])) fun t17_34 =>
 M.bind (noPan (ap true 1 1 t14_32 t17_34)) fun t18_35 =>
 M.bind (noPan (nc P t10_27)) fun t19_36 =>
 M.bind (noPan (fa 0 t19_36)) fun t20_37 =>
 M.bind (noPan (st 1 true t20_37 t18_35)) fun _ =>
 M.pure (.tup []))
 (M.bind (bi .lss .none (strip a1) (.int .i64 2147483648)) fun t23_39 =>
 M.bind (C k_ratchetref08_writing_must [(strip (strip a0)), (strip t23_39), (.int .i64 4)]) fun t24_40 =>
 chk
 (M.bind (noPan (M.pure (strip a0))) fun t25_52 =>
 M.bind (noPan (M.pure (strip a0))) fun t26_53 =>
 M.bind (noPan (nc P t26_53)) fun t27_54 =>
 M.bind (noPan (fa 0 t27_54)) fun t28_55 =>
 M.bind (noPan (M.pure (strip a1))) fun t30_56 =>
 M.bind (noPan (C k_ratchetref01_PutS [(strip t30_56)])) fun t31_57 =>
 M.bind (noPan (ld none true t28_55)) fun t29_58 =>
 M.bind (noPan (ap true 1 1 t29_58 t31_57)) fun t32_59 =>
 M.bind (noPan (nc P t25_52)) fun t33_60 =>
 M.bind (noPan (fa 0 t33_60)) fun t34_61 =>
 M.bind (noPan (st 1 true t34_61 t32_59)) fun _ =>
 M.pure [a0, a1, .undef, .undef, (strip a1), t5_0, .undef, .undef, .undef, .undef, .undef, .undef, .undef, .undef, .undef, .undef, .undef, .undef, .undef, .undef, .undef, (strip a0), (strip a1), t23_39, t24_40, t25_52, t26_53, t27_54, t28_55, (strip t29_58), t30_56, t31_57, (strip t32_59), t33_60, t34_61])
 (M.bind (noPan (M.pure (strip a0))) fun t25_41 =>
 M.bind (noPan (M.pure (strip a0))) fun t26_42 =>
 M.bind (noPan (nc P t26_42)) fun t27_43 =>
 M.bind (noPan (fa 0 t27_43)) fun t28_44 =>
 M.bind (noPan (M.pure (strip a1))) fun t30_45 =>
 M.bind (noPan (ld none true t28_44)) fun t29_46 =>
 M.bind (noPan (C k_ratchetref01_PutS [(strip t30_45)])) fun t31_47 =>
 M.bind (noPan (ap true 1 1 t29_46 t31_47)) fun t32_48 =>
 M.bind (noPan (nc P t25_41)) fun t33_49 =>
 M.bind (noPan (fa 0 t33_49)) fun t34_50 =>
 M.bind (noPan (st 1 true t34_50 t32_48)) fun _ =>
 M.pure [a0, a1, .undef, .undef, (strip a1), t5_0, .undef, .undef, .undef, .undef, .undef, .undef, .undef, .undef, .undef, .undef, .undef, .undef, .undef, .undef, .undef, (strip a0), (strip a1), t23_39, t24_40, t25_41, t26_42, t27_43, t28_44, (strip t29_46), t30_45, t31_47, (strip t32_48), t33_49, t34_50]) <|
 M.bind (noPan (M.pure (strip a0))) fun t25_63 =>
 M.bind (noPan (M.pure (strip a0))) fun t26_64 =>
 M.bind (noPan (nc P t26_64)) fun t27_65 =>
 M.bind (noPan (fa 0 t27_65)) fun t28_66 =>
 M.bind (noPan (M.pure (strip a1))) fun t30_67 =>
 M.bind (noPan (ld none true t28_66)) fun t29_68 =>
 M.bind (noPan (C k_ratchetref01_PutS [(strip t30_67)])) fun t31_69 =>
 M.bind (noPan (ap true 1 1 t29_68 t31_69)) fun t32_70 =>
 M.bind (noPan (nc P t25_63)) fun t33_71 =>
 M.bind (noPan (fa 0 t33_71)) fun t34_72 =>
 M.bind (noPan (st 1 true t34_72 t32_70)) fun _ =>
 M.pure (.tup []))) := by
 rw [C, callW_eq _ _ rfl]; kernel_rfl
noncomputable def p_ratchetref08_code_1010 (v0 v2 v3 : PV) : M PV := atP P X k_ratchetref08_code [1, 0, 1, 0] (mkEnv 15 0 [(0, v0), (2, v2), (3, v3)])
theorem p_ratchetref08_code_1010_eq (v0 v2 v3 : PV) : p_ratchetref08_code_1010 v0 v2 v3 =
 M.bind (bi .leq .none (strip v3) (.int .i64 116)) fun t5_0 =>
 condM t5_0
 (M.bind (cv (.int .u8) true (strip v3)) fun t9_1 =>
 M.bind (C k_ratchetref08_abstract [(strip t9_1)]) fun t10_2 =>
 M.bind (bi .eql .none t10_2 (strip v0)) fun t12_3 =>
 condM t12_3
 (M.bind (cv (.int .u8) true (strip v3)) fun t14_4 =>
 resT t14_4 (M.pure t14_4))
 (M.bind (bi .add .none (strip v3) (.int .i64 1)) fun t7_5 =>
 p_ratchetref08_code_1010 v0 v2 t7_5))
 (M.pure (.int .u8 0)) :=
 (atP_step P X _ _ _).trans (by kernel_rfl)
theorem ratchetref08_code_eq (a0 : PV) : C k_ratchetref08_code [a0] =
 trunc (p_ratchetref08_code_1010 a0 (.int .u8 0) (.int .i64 105)) := by
 rw [C, callW_eq _ _ rfl]; kernel_rfl
theorem ratchetref08_abstract_eq (a0 : PV) : C k_ratchetref08_abstract [a0] =
 trunc (M.bind (bi .eql .none (strip a0) (.int .u8 115)) fun t5_0 =>
 condM t5_0
 (M.pure (.int .i64 (-2)))
 (M.bind (bi .eql .none (strip a0) (.int .u8 114)) fun t7_1 =>
 condM t7_1
 (M.pure (.int .i64 (-4)))
 (M.bind (bi .eql .none (strip a0) (.int .u8 113)) fun t9_2 =>
 condM t9_2
 (M.pure (.int .i64 (-10)))
 (M.bind (bi .eql .none (strip a0) (.int .u8 112)) fun t11_3 =>
 condM t11_3
 (M.pure (.int .i64 (-1)))
 (M.bind (bi .eql .none (strip a0) (.int .u8 111)) fun t13_4 =>
 condM t13_4
 (M.pure (.int .i64 (-3)))
 (M.bind (bi .eql .none (strip a0) (.int .u8 110)) fun t15_5 =>
 condM t15_5
 (M.pure (.int .i64 (-5)))
 (M.bind (bi .eql .none (strip a0) (.int .u8 109)) fun t17_6 =>
 condM t17_6
 (M.pure (.int .i64 (-6)))
 (M.bind (bi .eql .none (strip a0) (.int .u8 108)) fun t19_7 =>
 condM t19_7
 (M.pure (.int .i64 (-7)))
 (M.bind (bi .eql .none (strip a0) (.int .u8 107)) fun t21_8 =>
 condM t21_8
 (M.pure (.int .i64 (-8)))
 (M.bind (bi .eql .none (strip a0) (.int .u8 106)) fun t23_9 =>
 condM t23_9
 (M.pure (.int .i64 (-9)))
 (M.bind (bi .eql .none (strip a0) (.int .u8 105)) fun t25_10 =>
 condM t25_10
 (M.pure (.int .i64 (-11)))
 (M.bind (bi .eql .none (strip a0) (.int .u8 116)) fun t27_11 =>
 condM t27_11
 (M.pure (.int .i64 (-12)))
 (M.pure (.int .i64 0)))))))))))))) := by
 rw [C, callW_eq _ _ rfl]; kernel_rfl
end Go.Proofs.Ythidcpkcfoldmaa.Pi.Q
namespace Go.Proofs.Ythidcpkcfoldmaa.Pi.Q
open Go Go.Proofs.Ythidcpkcfoldmaa.Pi
set_option linter.unusedVariables false
set_option linter.unusedSimpArgs false
set_option maxRecDepth 100000
attribute [local congr] ite_congr
def flt (p e : Nat) : PV := .iface y_entry_fault (.agg [.int .i64 p, .int .i64 e])
def hname (c : Nat) : Int :=
  if c = 115 then -2 else if c = 114 then -4 else if c = 113 then -10 else if c = 112 then -1 else if c = 111 then -3 else if c = 110 then -5 else if c = 109 then -6 else if c = 108 then -7 else if c = 107 then -8 else if c = 106 then -9 else if c = 105 then -11 else if c = 116 then -12 else 0
theorem abstract_is {H : Heap} : run (C k_entry_abstract []) H = some (.ok (.agg [.int .i64 (-11), .int .i64 (-9), .int .i64 (-8), .int .i64 (-7), .int .i64 (-6), .int .i64 (-5), .int .i64 (-3), .int .i64 (-1), .int .i64 (-10), .int .i64 (-4), .int .i64 (-2), .int .i64 (-12)]) H) := by
  rw [entry_abstract_eq]
  simp (contextual := true) (dsimp := false) (disch := omega) only [↓goDown, goUp, List.length_cons, List.length_nil, List.map_cons, List.map_nil, List.take_succ_cons, List.take_zero, List.drop_succ_cons, List.drop_zero, List.drop_nil, List.take_nil, List.cons_append, List.nil_append, List.append_nil, List.set_cons_zero, List.set_cons_succ, List.all_cons, List.all_nil, ↓reduceIte, reduceCtorEq, ge_iff_le, gt_iff_lt, eq_self_iff_true, beq_self_eq_true, beq_iff_eq, bne_iff_ne, ne_eq, ite_not, Int.reduceEq, Option.getD_some, Option.getD_none, ite_self, Nat.reduceAdd, Nat.reduceSub, Nat.reduceMul, Nat.reduceLeDiff, Nat.reduceEqDiff, Nat.reduceBEq, Nat.reduceBNe, Int.reduceLT, Int.reduceLE, Int.reduceAdd, Int.reduceSub, Int.reduceMul, Int.reduceNeg, Int.reduceNe, Int.reduceBEq, Int.reduceBNe, Int.reduceToNat]
theorem run_ixA {len : Nat} {cs : List PV} {k : IntKind} {n : Int} {H : Heap} : run (ixA len 1 none (.agg cs) (.int k n)) H = if 0 ≤ n ∧ n < len then ldFR H (nth cs n.toNat) else none := by
  unfold run ixA fd
  by_cases h : 0 ≤ n ∧ n < len
  · have h1 : (decide (0 ≤ n) && decide (n < (len : Int))) = true := by simp [h]
    rw [if_pos h]
    simp only [h1, cond_true, Nat.mul_one, nth_is]
    cases nth cs n.toNat <;> rfl
  · have h1 : (decide (0 ≤ n) && decide (n < (len : Int))) = false := by
      rw [Bool.and_eq_false_iff]
      by_cases h0 : 0 ≤ n
      · right; simp; omega
      · left; simp; omega
    rw [if_neg h]
    simp only [h1, cond_false]
    rfl
theorem hname_out {c : Nat} (h : c < 105 ∨ 116 < c) : hname c = 0 := by
  unfold hname
  rw [if_neg (by omega), if_neg (by omega), if_neg (by omega), if_neg (by omega), if_neg (by omega), if_neg (by omega), if_neg (by omega), if_neg (by omega), if_neg (by omega), if_neg (by omega), if_neg (by omega), if_neg (by omega)]
end Go.Proofs.Ythidcpkcfoldmaa.Pi.Q
namespace Go.Proofs.Ythidcpkcfoldmaa.Pi.Q
open Go Go.Proofs.Ythidcpkcfoldmaa.Pi
set_option linter.unusedVariables false
set_option linter.unusedSimpArgs false
set_option maxRecDepth 100000
attribute [local congr] ite_congr
structure VT where
  num : Int
  nul : Bool
  heap : Int
  deriving DecidableEq
def encV (v : VT) : PV := .agg [.int .i64 v.num, .bool v.nul, .int .i64 v.heap]
theorem ns (p : Nat) : ((p + 1 : Nat) : Int) = (p : Int) + 1 := rfl
end Go.Proofs.Ythidcpkcfoldmaa.Pi.Q
namespace Go.Proofs.Ythidcpkcfoldmaa.Pi.Q
open Go Go.Proofs.Ythidcpkcfoldmaa.Pi
set_option linter.unusedVariables false
set_option linter.unusedSimpArgs false
set_option maxRecDepth 100000
attribute [local congr] ite_congr
def accP (sz : Nat) (l : List PV) : PV := match l with | [] => .slice false true 0 [] | l => .slice true false sz l
theorem ap_acc {H : Heap} {sz b : Nat} {l : List PV} {v : PV} {o : Bool} (h : (l.length + 1) * max b 1 ≤ 140737488355328) :
    run (ap true sz b (accP sz l) (.slice o false sz [v])) H = some (.ok (accP sz (l ++ [v])) H) := by
  cases l with
  | nil =>
    unfold accP run ap tail growB
    have h2 : max b 1 ≤ 140737488355328 := by simpa using h
    simp [h2, M.pure]
  | cons x r =>
    unfold accP run ap tail growB
    have h2 : ((x :: r).length + [v].length) * max b 1 ≤ 140737488355328 := by simpa using h
    simp only [beq_self_eq_true, Bool.or_true, cond_true, cond_false, Bool.true_and, decide_eq_true h2]
    rfl
theorem isTup_acc {sz : Nat} {l : List PV} : isTup (accP sz l) = false := by unfold accP; split <;> rfl
theorem low_acc {sz n : Nat} {l : List PV} : (accP sz l).low n = true := by unfold accP; split <;> simp [low_slice]
theorem cells_acc {sz : Nat} {l : List PV} : (accP sz l).cells = [accP sz l] := by unfold accP; split <;> rfl
theorem isCell_acc {sz : Nat} {l : List PV} : isCell (accP sz l) = true := by unfold accP; split <;> rfl
structure BK where
  ty : Int
  res : VT
  deriving DecidableEq
end Go.Proofs.Ythidcpkcfoldmaa.Pi.Q
namespace Go.Proofs.Ythidcpkcfoldmaa.Pi.Q
open Go Go.Proofs.Ythidcpkcfoldmaa.Pi
set_option linter.unusedVariables false
set_option linter.unusedSimpArgs false
set_option maxRecDepth 100000
attribute [local congr] ite_congr
theorem run_ta {H : Heap} {t : TypeId} {zv v : PV} : run (ta t zv false (.iface t v)) H = some (.ok v H) := by
  unfold run ta
  simp [M.pure]
theorem run_mf {H : Heap} {f : FuncId} {a b : List PV} : run (mf f a b) H = if (a.all isVal && b.all isVal) = true then some (.ok (.fn f (a.map stripC) (b.map stripC)) H) else none := by
  unfold run mf
  cases (a.all isVal && b.all isVal) <;> rfl
theorem bi_if {a : PV} {t : TypeId} {H : Heap} : run (bi .neq .iface (.iface t a) .niliface) H = some (.ok (.bool true) H) := nrfl rfl
theorem bi_ifn {H : Heap} : run (bi .neq .iface .niliface .niliface) H = some (.ok (.bool false) H) := nrfl rfl
theorem cutL {H : Heap} {L : List Box} (k : Nat) : hcut (hadd H L) (H.length + k) = hadd H (L.take k) := by unfold hcut hadd; rw [List.take_append, List.take_of_length_le (by omega), Nat.add_sub_cancel_left]
theorem ne_len0 {n k : Nat} : (n + (k + 1) == n) = false := by simp
end Go.Proofs.Ythidcpkcfoldmaa.Pi.Q
namespace Go.Proofs.Ythidcpkcfoldmaa.Pi.Q
open Go Go.Proofs.Ythidcpkcfoldmaa.Pi
set_option linter.unusedVariables false
set_option linter.unusedSimpArgs false
set_option maxRecDepth 100000
attribute [local congr] ite_congr
theorem rabs_is {H : Heap} {c : Nat} : run (C k_ratchetref08_abstract [.int .u8 c]) H = some (.ok (.int .i64 (hname c)) H) := by
  rw [ratchetref08_abstract_eq]
  by_cases h : c < 105 ∨ 116 < c
  · rw [hname_out h]
    have e115 : ((c : Int) = 115) = False := eq_false (by omega)
    have e114 : ((c : Int) = 114) = False := eq_false (by omega)
    have e113 : ((c : Int) = 113) = False := eq_false (by omega)
    have e112 : ((c : Int) = 112) = False := eq_false (by omega)
    have e111 : ((c : Int) = 111) = False := eq_false (by omega)
    have e110 : ((c : Int) = 110) = False := eq_false (by omega)
    have e109 : ((c : Int) = 109) = False := eq_false (by omega)
    have e108 : ((c : Int) = 108) = False := eq_false (by omega)
    have e107 : ((c : Int) = 107) = False := eq_false (by omega)
    have e106 : ((c : Int) = 106) = False := eq_false (by omega)
    have e105 : ((c : Int) = 105) = False := eq_false (by omega)
    have e116 : ((c : Int) = 116) = False := eq_false (by omega)
    simp (dsimp := false) (disch := omega) only [↓goDown, goUp, List.length_cons, List.length_nil, List.map_cons, List.map_nil, List.take_succ_cons, List.take_zero, List.drop_succ_cons, List.drop_zero, List.drop_nil, List.take_nil, List.cons_append, List.nil_append, List.append_nil, List.set_cons_zero, List.set_cons_succ, List.all_cons, List.all_nil, ↓reduceIte, reduceCtorEq, ge_iff_le, gt_iff_lt, eq_self_iff_true, beq_self_eq_true, beq_iff_eq, bne_iff_ne, ne_eq, ite_not, Int.reduceEq, Option.getD_some, Option.getD_none, ite_self, Nat.reduceAdd, Nat.reduceSub, Nat.reduceMul, Nat.reduceLeDiff, Nat.reduceEqDiff, Nat.reduceBEq, Nat.reduceBNe, Int.reduceLT, Int.reduceLE, Int.reduceAdd, Int.reduceSub, Int.reduceMul, Int.reduceNeg, Int.reduceNe, Int.reduceBEq, Int.reduceBNe, Int.reduceToNat, e115, e114, e113, e112, e111, e110, e109, e108, e107, e106, e105, e116]
  · have h : c = 105 ∨ c = 106 ∨ c = 107 ∨ c = 108 ∨ c = 109 ∨ c = 110 ∨ c = 111 ∨ c = 112 ∨ c = 113 ∨ c = 114 ∨ c = 115 ∨ c = 116 := by omega
    rcases h with rfl | rfl | rfl | rfl | rfl | rfl | rfl | rfl | rfl | rfl | rfl | rfl <;>
      simp (dsimp := false) (disch := omega) only [↓goDown, goUp, List.length_cons, List.length_nil, List.map_cons, List.map_nil, List.take_succ_cons, List.take_zero, List.drop_succ_cons, List.drop_zero, List.drop_nil, List.take_nil, List.cons_append, List.nil_append, List.append_nil, List.set_cons_zero, List.set_cons_succ, List.all_cons, List.all_nil, ↓reduceIte, reduceCtorEq, ge_iff_le, gt_iff_lt, eq_self_iff_true, beq_self_eq_true, beq_iff_eq, bne_iff_ne, ne_eq, ite_not, Int.reduceEq, Option.getD_some, Option.getD_none, ite_self, Nat.reduceAdd, Nat.reduceSub, Nat.reduceMul, Nat.reduceLeDiff, Nat.reduceEqDiff, Nat.reduceBEq, Nat.reduceBNe, Int.reduceLT, Int.reduceLE, Int.reduceAdd, Int.reduceSub, Int.reduceMul, Int.reduceNeg, Int.reduceNe, Int.reduceBEq, Int.reduceBNe, Int.reduceToNat, Int.cast_ofNat_Int] <;> rfl
end Go.Proofs.Ythidcpkcfoldmaa.Pi.Q
namespace Go.Proofs.Ythidcpkcfoldmaa.Pi.Q
open Go Go.Proofs.Ythidcpkcfoldmaa.Pi
set_option linter.unusedVariables false
set_option linter.unusedSimpArgs false
set_option maxRecDepth 100000
attribute [local congr] ite_congr
theorem str_eq {H : Heap} {s : ByteArray} : run (bi .eql .none (.str s) (.str s)) H = some (.ok (.bool true) H) := by
  show some (Out.ok (PV.bool (s.toList == s.toList)) H) = _
  rw [beq_self_eq_true]
end Go.Proofs.Ythidcpkcfoldmaa.Pi.Q
namespace Go.Proofs.Ythidcpkcfoldmaa.Pi.Q
open Go Go.Proofs.Ythidcpkcfoldmaa.Pi
set_option linter.unusedVariables false
set_option linter.unusedSimpArgs false
set_option maxRecDepth 100000
attribute [local congr] ite_congr
structure FT where
  ty : VT
  mu : Bool
  deriving DecidableEq
end Go.Proofs.Ythidcpkcfoldmaa.Pi.Q
namespace Go.Proofs.Ythidcpkcfoldmaa.Pi.Q
open Go Go.Proofs.Ythidcpkcfoldmaa.Pi
set_option linter.unusedVariables false
set_option linter.unusedSimpArgs false
set_option maxRecDepth 100000
attribute [local congr] ite_congr
def shutP (sz : Nat) (l : List PV) : PV := match l with | [] => .slice false true 0 [] | l => .slice false false sz l
theorem stripC_acc {sz : Nat} {l : List PV} : stripC (accP sz l) = shutP sz l := by cases l <;> rfl
structure CT where
  kind : Int
  ps : List VT
  rs : List VT
  fs : List FT
  deriving DecidableEq
structure ST where
  fin : Bool
  sup : List Int
  comp : CT
  deriving DecidableEq
end Go.Proofs.Ythidcpkcfoldmaa.Pi.Q
namespace Go.Proofs.Ythidcpkcfoldmaa.Pi.Q
open Go Go.Proofs.Ythidcpkcfoldmaa.Pi
set_option linter.unusedVariables false
set_option linter.unusedSimpArgs false
set_option maxRecDepth 100000
attribute [local congr] ite_congr
structure RT where
  types : List ST
  exp : Bool
  deriving DecidableEq
end Go.Proofs.Ythidcpkcfoldmaa.Pi.Q
namespace Go.Proofs.Ythidcpkcfoldmaa.Pi
open Go.ChangeShapes Go.WideShapes
set_option linter.unusedVariables false
set_option linter.unusedSimpArgs false
def litPV : Lit → PV
  | .int k n => .int k n
  | .bool b => .bool b
  | .string s => .str ⟨s.toArray⟩
  | _ => .undef
def wrapE (P : Program) (e : TypeId) (cs : List PV) : PV :=
  match tagg P e with
  | some _ => .agg cs
  | none => cs.headD .undef
mutual
def toldD {H : Type} (P : Program) : TypeId → DataW H → List PV
  | t, .lit l => [litPV l]
  | t, .nil => match P.underlying t with
    | some (.slice e) => [.slice false true 0 []]
    | _ => [.nil]
  | t, .slice elems _ => match P.underlying t with
    | some (.slice e) => [.slice false false (P.cellsOf e) (toldE P e elems)]
    | _ => []
  | t, .agg parts => match P.underlying t with
    | some (.struct fs) => toldF P fs.toList parts
    | _ => []
  | _, _ => []
def toldE {H : Type} (P : Program) (e : TypeId) : List (DataW H) → List PV
  | [] => []
  | d :: r => wrapE P e (toldD P e d) :: toldE P e r
def toldF {H : Type} (P : Program) : List Field → List (DataW H) → List PV
  | f :: fs, d :: r => toldD P f.type d ++ toldF P fs r
  | _, _ => []
end
def laidF (P : Program) : Nat → List Field → Option Nat
  | o, [] => some o
  | o, f :: r => bif f.offset == o then laidF P (o + P.cellsOf f.type) r else none
def plainT (P : Program) (T : List TypeId) (t : TypeId) : Bool :=
  match P.underlying t with
  | some .bool | some (.int _) | some .string => P.cellsOf t == 1 && (tagg P t).isNone
  | some (.slice e) => T.contains e && (decide (0 < P.cellsOf e) && (P.cellsOf t == 1 && (tagg P t).isNone))
  | some (.struct fs) => fs.toList.all (fun f => T.contains f.type) && (laidF P 0 fs.toList == some (P.cellsOf t) && (tagg P t).isSome)
  | _ => false
theorem wrap_cells {P : Program} {T : List TypeId} {e : TypeId} (he : plainT P T e = true) {cs : List PV} (hl : cs.length = P.cellsOf e) (hc : ∀ (j : Nat) (c : PV), cs[j]? = some c → isCell c = true) : (wrapE P e cs).cells = cs := by
  have one : P.cellsOf e = 1 → (tagg P e).isNone = true → (wrapE P e cs).cells = cs := fun h1 h2 => by
    obtain ⟨c, rfl⟩ : ∃ c, cs = [c] := by
      cases cs with
      | nil => simp at hl; omega
      | cons c r =>
        cases r with
        | nil => exact ⟨c, rfl⟩
        | cons d r => simp at hl; omega
    have hcell := hc 0 c rfl
    unfold wrapE
    cases ht : tagg P e with
    | some _ => rw [ht] at h2; cases h2
    | none =>
      simp only [List.headD_cons]
      cases c <;> first | rfl | cases hcell
  unfold plainT at he
  split at he
  · simp only [Bool.and_eq_true, beq_iff_eq] at he; exact one he.1 he.2
  · simp only [Bool.and_eq_true, beq_iff_eq] at he; exact one he.1 he.2
  · simp only [Bool.and_eq_true, beq_iff_eq] at he; exact one he.1 he.2
  · simp only [Bool.and_eq_true, beq_iff_eq] at he; exact one he.2.2.1 he.2.2.2
  · simp only [Bool.and_eq_true, beq_iff_eq] at he
    unfold wrapE
    cases ht : tagg P e with
    | some _ => rfl
    | none => rw [ht] at he; cases he.2.2
  · cases he
def ToldOk (W : World) (cs : List Value) (ps : List PV) : Prop :=
  ps.length = cs.length ∧ ∀ (j : Nat) (c : PV), ps[j]? = some c → isCell c = true ∧ ∀ v, cs[j]? = some v → RepF (imOf W) c v
theorem ToldOk.one {W : World} {c : PV} {v : Value} (h1 : isCell c = true) (h2 : RepF (imOf W) c v) : ToldOk W [v] [c] :=
  ⟨rfl, fun j d hd => by
    cases j with
    | zero => simp at hd; subst hd; exact ⟨h1, fun u hu => by simp at hu; subst hu; exact h2⟩
    | succ j => simp at hd⟩
variable {H : Type} {enc : TypeId × Value → H} {P : Program} {W : World} {base : Nat} {spare : Nat → Bool} {held : Bool} {T : List TypeId}
theorem cells_spot {W : World} {a : Addr} {n : Nat} {l : List Value} (hn : 0 < n) (h : W.cells? base a n = some l) : a.spot = none := by
  unfold World.cells? at h
  split at h
  · have h0 := mapM_some_get h 0 0 (by simp [hn])
    have : a.add 0 = a := by simp [Addr.add]
    rw [this] at h0
    unfold World.cell? at h0
    cases hs : a.spot with
    | none => rfl
    | some x =>
      rw [hs] at h0
      have hl := mapM_some_length h
      have hlt : 0 < l.length := by rw [hl]; simpa using hn
      rw [List.getElem?_eq_getElem hlt] at h0
      split at h0 <;> simp at h0
  · cases h
theorem cells_get {W : World} {a : Addr} {n : Nat} {l : List Value} (h : W.cells? base a n = some l) (hs : a.spot = none) : l.length = n ∧ ∀ (j : Nat) (v : Value), l[j]? = some v → W.cell? ⟨a.block, a.off + j, none⟩ = some v := by
  unfold World.cells? at h
  split at h
  · refine ⟨by simpa using mapM_some_length h, fun j v hv => ?_⟩
    have hj : j < n := by
      have := (List.getElem?_eq_some_iff.mp hv).1
      have h2 := mapM_some_length h
      simp at h2
      omega
    have h0 := mapM_some_get h j j (by simp [hj])
    rw [hv] at h0
    have : a.add j = ⟨a.block, a.off + j, none⟩ := by
      obtain ⟨b, o, sp⟩ := a
      simp only at hs
      subst hs
      unfold Addr.add
      split <;> simp_all
    rw [this] at h0
    exact h0
  · cases h
theorem toldE_get {P : Program} {e : TypeId} : ∀ (l : List (DataW H)) (i : Nat), (toldE P e l)[i]? = l[i]?.map fun d => wrapE P e (toldD P e d)
  | [], i => by simp [toldE]
  | d :: r, 0 => by simp [toldE]
  | d :: r, i + 1 => by simpa [toldE] using toldE_get r i
theorem toldE_length {P : Program} {e : TypeId} : ∀ (l : List (DataW H)), (toldE P e l).length = l.length
  | [] => rfl
  | d :: r => by simp [toldE, toldE_length r]
theorem ToldOk.append {W : World} {cs ds : List Value} {ps qs : List PV} (h : ToldOk W cs ps) (k : ToldOk W ds qs) : ToldOk W (cs ++ ds) (ps ++ qs) := by
  refine ⟨by simp [h.1, k.1], fun j c hc => ?_⟩
  by_cases hj : j < ps.length
  · rw [List.getElem?_append_left hj] at hc
    obtain ⟨h1, h2⟩ := h.2 j c hc
    refine ⟨h1, fun v hv => h2 v ?_⟩
    rwa [List.getElem?_append_left (by rw [← h.1]; exact hj)] at hv
  · rw [List.getElem?_append_right (by omega)] at hc
    obtain ⟨h1, h2⟩ := k.2 _ c hc
    refine ⟨h1, fun v hv => h2 v ?_⟩
    rwa [List.getElem?_append_right (by rw [← h.1]; omega), ← h.1] at hv
theorem told_fields (n : Nat) (ok : ∀ (t : TypeId) (cs : List Value) (x : DataW H × List MemPlace), T.contains t = true → DataW.trod enc P W base spare held n t cs = some x → cs.length = P.cellsOf t ∧ ToldOk W cs (toldD P t x.1)) (cs : List Value) :
    ∀ (fs : List Field) (o : Nat) (xs : List (DataW H × List MemPlace)), (∀ f ∈ fs, T.contains f.type = true) → laidF P o fs = some cs.length → xs.length = fs.length →
      (∀ (i : Nat) (f : Field), fs[i]? = some f → DataW.trod enc P W base spare held n f.type ((cs.drop f.offset).take (P.cellsOf f.type)) = xs[i]?) → o ≤ cs.length ∧ ToldOk W (cs.drop o) (toldF P fs (xs.map (·.1)))
  | [], o, xs, hT, hl, hx, h => by
    simp only [laidF, Option.some.injEq] at hl
    subst hl
    obtain rfl : xs = [] := List.eq_nil_of_length_eq_zero (by simpa using hx)
    exact ⟨Nat.le_refl _, by simp [toldF], by simp [toldF]⟩
  | f :: fs, o, xs, hT, hl, hx, h => by
    unfold laidF at hl
    cases ho : (f.offset == o) with
    | false => rw [ho] at hl; cases hl
    | true =>
      rw [ho] at hl
      simp only [cond_true] at hl
      obtain rfl : f.offset = o := by simpa using ho
      cases xs with
      | nil => simp at hx
      | cons y ys =>
        have h0 := h 0 f rfl
        simp only [List.getElem?_cons_zero] at h0
        obtain ⟨l1, l2⟩ := ok f.type _ y (hT f (by simp)) h0
        obtain ⟨k1, k2⟩ := told_fields n ok cs fs _ ys (fun g hg => hT g (by simp [hg])) hl (by simpa using hx) (fun i g hg => by
          have := h (i + 1) g (by simpa using hg)
          simpa using this)
        refine ⟨by omega, ?_⟩
        have e1 : cs.drop f.offset = (cs.drop f.offset).take (P.cellsOf f.type) ++ cs.drop (f.offset + P.cellsOf f.type) := by
          rw [← List.drop_drop, List.take_append_drop]
        rw [e1]
        simp only [List.map_cons, toldF]
        exact l2.append k2
theorem told_ok (hT : T.all (plainT P T) = true) (hsp : ∀ b, spare b = true) : ∀ (n : Nat) (t : TypeId) (cs : List Value) (x : DataW H × List MemPlace), T.contains t = true → DataW.trod enc P W base spare held n t cs = some x → cs.length = P.cellsOf t ∧ ToldOk W cs (toldD P t x.1) := by
  intro n
  induction n with
  | zero => intro t cs x _ h; simp [DataW.trod] at h
  | succ n ih =>
  intro t cs x ht h
  have hp : plainT P T t = true := List.all_eq_true.mp hT t (by simpa using ht)
  have hp0 := hp
  unfold plainT at hp
  split at hp
  · rename_i hu
    simp only [Bool.and_eq_true, beq_iff_eq] at hp
    obtain ⟨b, rfl, rfl⟩ := DataW.trod_bool hu h
    refine ⟨by simp [hp.1], ?_⟩
    simp only [toldD, litPV]
    exact .one rfl (.bool b)
  · rename_i k hu
    simp only [Bool.and_eq_true, beq_iff_eq] at hp
    obtain ⟨m, rfl, rfl, _⟩ := DataW.trod_int hu h
    refine ⟨by simp [hp.1], ?_⟩
    simp only [toldD, litPV]
    exact .one rfl (.int k m)
  · rename_i hu
    simp only [Bool.and_eq_true, beq_iff_eq] at hp
    obtain ⟨s, rfl, rfl, _⟩ := DataW.trod_string hu h
    refine ⟨by simp [hp.1], ?_⟩
    simp only [toldD, litPV]
    have e : (⟨s.data.toList.toArray⟩ : ByteArray) = s := by rw [Array.toArray_toList]
    rw [e]
    exact .one rfl (.str s)
  · rename_i e hu
    simp only [Bool.and_eq_true, beq_iff_eq, decide_eq_true_eq] at hp
    obtain ⟨he, hz, h1, _⟩ := hp
    have hpe : plainT P T e = true := List.all_eq_true.mp hT e (by simpa using he)
    rcases DataW.trod_slice hu h with ⟨rfl, rfl⟩ | ⟨a, len, cap, elems, rest, m, hm, rfl, rfl, hb, hlc, hcm, hlen, hel, hre, hno⟩
    · refine ⟨by simp [h1], ?_⟩
      simp only [toldD, hu]
      exact .one rfl (.snil 0)
    · obtain rfl : m = n := by omega
      refine ⟨by simp [h1], ?_⟩
      simp only [toldD, hu]
      have each : ∀ (i : Nat) (y : DataW H × List MemPlace), elems[i]? = some y → ∃ l : List Value, W.cells? base (a.add (i * P.cellsOf e)) (P.cellsOf e) = some l ∧ l.length = P.cellsOf e ∧ ToldOk W l (toldD P e y.1) := by
        intro i y hy
        have hi : i < len := by
          have := (List.getElem?_eq_some_iff.mp hy).1
          omega
        have := hel i hi
        rw [hy, Option.bind_eq_some_iff] at this
        obtain ⟨l, hl, hd⟩ := this
        obtain ⟨q1, q2⟩ := ih e l y he hd
        exact ⟨l, hl, q1, q2⟩
      have spot : a.spot = none ∨ cap = 0 := by
        by_cases hc : cap = 0
        · exact .inr hc
        · left
          have add0 : a.add (0 * P.cellsOf e) = a := by simp [Addr.add]
          by_cases hl0 : len = 0
          · obtain ⟨r1, r2⟩ := hre (hsp _)
            have := r2 0 (by omega)
            have hlt : 0 < rest.length := by omega
            rw [List.getElem?_eq_getElem hlt, Option.bind_eq_some_iff] at this
            obtain ⟨l, hl, _⟩ := this
            rw [hl0] at hl
            rw [show (0 + 0) * P.cellsOf e = 0 * P.cellsOf e by simp, add0] at hl
            exact cells_spot hz hl
          · have hlt : 0 < elems.length := by omega
            obtain ⟨l, hl, _⟩ := each 0 _ (List.getElem?_eq_getElem hlt)
            rw [add0] at hl
            exact cells_spot hz hl
      obtain ⟨g, o, sp⟩ := a
      have hcap : cap = 0 → elems = [] := fun h => List.eq_nil_of_length_eq_zero (by omega)
      have hL : (toldE P e (elems.map (·.1))).length = len := by rw [toldE_length, List.length_map, hlen]
      have hget : ∀ (i : Nat) (x : PV), (toldE P e (elems.map (·.1)))[i]? = some x → sp = none ∧ ∃ l : List Value, (∀ (j : Nat) (v : Value), l[j]? = some v → imOf W g (o + i * P.cellsOf e + j) = some v) ∧ l.length = P.cellsOf e ∧ x.cells.length = P.cellsOf e ∧ ∀ (j : Nat) (c : PV), x.cells[j]? = some c → ∀ v, l[j]? = some v → RepF (imOf W) c v := by
        intro i x hx
        rw [toldE_get, List.getElem?_map] at hx
        cases hy : elems[i]? with
        | none => rw [hy] at hx; simp at hx
        | some y =>
          rw [hy] at hx
          simp only [Option.map_some, Option.some.injEq] at hx
          have hsn : sp = none := by
            rcases spot with h | h
            · exact h
            · rw [hcap h] at hy; simp at hy
          subst hsn
          obtain ⟨l, hl, q1, q2⟩ := each i y hy
          have hadd : (⟨g, o, none⟩ : Addr).add (i * P.cellsOf e) = ⟨g, o + i * P.cellsOf e, none⟩ := by unfold Addr.add; split <;> simp_all
          rw [hadd] at hl
          obtain ⟨_, q3⟩ := cells_get hl rfl
          have hw := wrap_cells hpe (cs := toldD P e y.1) (by rw [q2.1, q1]) (fun j c hc => (q2.2 j c hc).1)
          rw [hx] at hw
          refine ⟨rfl, l, fun j v hv => q3 j v hv, q1, by rw [hw, q2.1, q1], fun j c hc v hv => ?_⟩
          rw [hw] at hc
          exact (q2.2 j c hc).2 v hv
      have hrep := RepF.slice (im := imOf W) (g := g) (o := o) (cap := cap) (sz := P.cellsOf e) (sp := sp) (xs := toldE P e (elems.map (·.1))) (fun i j => (imOf W g (o + i * P.cellsOf e + j)).getD .nilIface) spot (by omega)
        (fun i x hx => (hget i x hx).2.choose_spec.2.2.1)
        (fun i x j c hx hc => by
          obtain ⟨_, l, l1, l2, l3, l4⟩ := hget i x hx
          have hj : j < l.length := by
            have := (List.getElem?_eq_some_iff.mp hc).1
            omega
          rw [l1 j _ (List.getElem?_eq_getElem hj)]
          rfl)
        (fun i x j c hx hc => by
          obtain ⟨_, l, l1, l2, l3, l4⟩ := hget i x hx
          have hj : j < l.length := by
            have := (List.getElem?_eq_some_iff.mp hc).1
            omega
          rw [l1 j _ (List.getElem?_eq_getElem hj)]
          exact l4 j c hc _ (List.getElem?_eq_getElem hj))
      rw [hL] at hrep
      exact .one rfl hrep
  · rename_i fs hu
    simp only [Bool.and_eq_true, beq_iff_eq, List.all_eq_true] at hp
    obtain ⟨hTf, hlaid, _⟩ := hp
    obtain ⟨xs, m, hm, rfl, hcl, hxl, hx⟩ := DataW.trod_struct hu h
    obtain rfl : m = n := by omega
    refine ⟨hcl, ?_⟩
    simp only [toldD, hu]
    have := told_fields (T := T) m (fun t cs x ht hk => ih t cs x ht hk) cs fs.toList 0 xs (fun f hf => hTf f hf) (by rw [hcl]; exact hlaid) (by simpa using hxl) (fun i f hf => hx i f (by simpa using hf))
    simpa using this.2
  · cases hp
end Go.Proofs.Ythidcpkcfoldmaa.Pi
namespace Go.Proofs.Ythidcpkcfoldmaa.Pi
set_option linter.unusedVariables false
set_option linter.unusedSimpArgs false
def LZ (z : Bool) (sz : Nat) (l : List PV) : PV := match l with | [] => .slice false z (if z then 0 else sz) [] | l => .slice false false sz l
structure GL (α : Type) where
  z : Bool
  l : List α
  deriving DecidableEq
section
variable {z : Bool} {sz : Nat} {l : List PV} {H : Heap}
theorem isTup_Z : isTup (LZ z sz l) = false := by cases l <;> rfl
theorem isCell_Z : isCell (LZ z sz l) = true := by cases l <;> rfl
theorem cells_Z : (LZ z sz l).cells = [LZ z sz l] := by cases l <;> rfl
theorem low_Z {n : Nat} : (LZ z sz l).low n = true := by cases l <;> simp [LZ, low_slice]
theorem strip_Z : strip (LZ z sz l) = LZ z sz l := by cases l <;> rfl
theorem stripC_Z : stripC (LZ z sz l) = LZ z sz l := by cases l <;> rfl
theorem ln_Z : run (lnL (LZ z sz l)) H = some (.ok (.int .i64 l.length) H) := by cases l <;> rfl
theorem ia_Z {i : Nat} {x : PV} (h : l[i]? = some x) : run (iaS sz (LZ z sz l) (.int .i64 i)) H = some (.ok (.elem x.cells) H) := by
  cases l with
  | nil => simp at h
  | cons a r =>
    show run (iaS sz (.slice false false sz (a :: r)) (.int .i64 i)) H = _
    rw [run_iaS (by omega), Int.toNat_natCast, h]
    rfl
end
theorem shut_LZ {sz : Nat} {l : List PV} : Q.shutP sz l = LZ true sz l := by cases l <;> rfl
end Go.Proofs.Ythidcpkcfoldmaa.Pi
namespace Go.Proofs.Ythidcpkcfoldmaa.Pi
open Go.ChangeShapes Go.WideShapes
set_option linter.unusedVariables false
set_option linter.unusedSimpArgs false
mutual
def bulk {H : Type} : DataW H → Nat
  | .lit (.string bytes) => bytes.length + 1
  | .lit _ => 1
  | .nil => 1
  | .ptr d => bulk d + 1
  | .slice elems spare => bulkL elems + bulkL spare + 1
  | .agg parts => bulkL parts + 1
  | _ => 1
def bulkL {H : Type} : List (DataW H) → Nat
  | [] => 0
  | d :: r => bulk d + bulkL r
end
section
variable {H : Type} {enc : TypeId × Value → H} {P : Program} {W : World} {base : Nat} {spare : Nat → Bool} {held : Bool} {A B : Type} {n : Nat} {t e : TypeId}
structure DecArgs (H : Type) where
  enc : TypeId × Value → H
  P : Program
  W : World
  base : Nat
  spare : Nat → Bool
  held : Bool
variable (G : DecArgs H)
def Dec (n : Nat) (t : TypeId) (cells : A → List PV) (ok : A → Prop) (ms : A → Nat) : Prop :=
  ∀ cs x, DataW.trod G.enc G.P G.W G.base G.spare G.held n t cs = some x → ∃ a, toldD G.P t x.1 = cells a ∧ ok a ∧ ms a ≤ bulk x.1
def DecF (n : Nat) (fs : List Field) (cells : A → List PV) (ok : A → Prop) (ms : A → Nat) : Prop :=
  ∀ (xs : List (DataW H × List MemPlace)), xs.length = fs.length → (∀ (i : Nat) (f : Field), fs[i]? = some f → ∃ cs, DataW.trod G.enc G.P G.W G.base G.spare G.held n f.type cs = xs[i]?) →
    ∃ a, toldF G.P fs (xs.map (·.1)) = cells a ∧ ok a ∧ ms a ≤ bulkL (xs.map (·.1))
variable {G}
theorem dec_int {k : IntKind} (hu : G.P.underlying t = some (.int k)) : Dec G n t (fun m : Int => [.int k m]) (fun m => (Lit.int k m).wf = true) (fun _ => 1) := by
  intro cs x h
  obtain ⟨m, rfl, rfl, hw⟩ := DataW.trod_int hu h
  exact ⟨m, by simp [toldD, litPV], hw, by simp [bulk]⟩
theorem dec_bool (hu : G.P.underlying t = some .bool) : Dec G n t (fun b : Bool => [.bool b]) (fun _ => True) (fun _ => 1) := by
  intro cs x h
  obtain ⟨b, rfl, rfl⟩ := DataW.trod_bool hu h
  exact ⟨b, by simp [toldD, litPV], trivial, by simp [bulk]⟩
theorem decF_nil : DecF G n [] (fun _ : Unit => []) (fun _ => True) (fun _ => 0) := by
  intro xs hl _
  exact ⟨(), by simp [toldF], trivial, Nat.zero_le _⟩
theorem decF_cons {f : Field} {fs : List Field} {cA : A → List PV} {okA : A → Prop} {mA : A → Nat} {cB : B → List PV} {okB : B → Prop} {mB : B → Nat} (ha : Dec G n f.type cA okA mA) (hb : DecF G n fs cB okB mB) :
    DecF G n (f :: fs) (fun p : A × B => cA p.1 ++ cB p.2) (fun p => okA p.1 ∧ okB p.2) (fun p => mA p.1 + mB p.2) := by
  intro xs hl h
  cases xs with
  | nil => simp at hl
  | cons y ys =>
    obtain ⟨cs, h0⟩ := h 0 f rfl
    simp only [List.getElem?_cons_zero] at h0
    obtain ⟨a, a1, a2, a3⟩ := ha _ _ h0
    obtain ⟨b, b1, b2, b3⟩ := hb ys (by simpa using hl) (fun i g hg => by simpa using h (i + 1) g (by simpa using hg))
    exact ⟨(a, b), by simp only [List.map_cons, toldF, a1, b1], ⟨a2, b2⟩, by simp only [List.map_cons, bulkL]; omega⟩
theorem dec_struct {fs : Array Field} {l : List Field} (hu : G.P.underlying t = some (.struct fs)) (hl : fs.toList = l) {cells : A → List PV} {ok : A → Prop} {ms : A → Nat} (h : ∀ m, n = m + 1 → DecF G m l cells ok ms) : Dec G n t cells ok (fun a => ms a + 1) := by
  intro cs x hx
  obtain ⟨xs, m, hm, rfl, hcl, hxl, hxi⟩ := DataW.trod_struct hu hx
  subst hl
  obtain ⟨a, a1, a2, a3⟩ := h m hm xs (by simpa using hxl) (fun i f hf => ⟨_, hxi i f (by simpa using hf)⟩)
  exact ⟨a, by simp only [toldD, hu, a1], a2, by simp only [bulk]; omega⟩
theorem Dec.map {cells : A → List PV} {ok : A → Prop} {ms : A → Nat} (h : Dec G n t cells ok ms) (f : A → B) {cB : B → List PV} {okB : B → Prop} {mB : B → Nat} (hc : ∀ a, cells a = cB (f a)) (ho : ∀ a, ok a → okB (f a)) (hm : ∀ a, mB (f a) ≤ ms a) : Dec G n t cB okB mB := by
  intro cs x hx
  obtain ⟨a, a1, a2, a3⟩ := h cs x hx
  exact ⟨f a, by rw [a1, hc], ho a a2, Nat.le_trans (hm a) a3⟩
def sumL {A : Type} (m : A → Nat) : List A → Nat
  | [] => 0
  | a :: r => m a + sumL m r
theorem dec_elems {cells : A → List PV} {ok : A → Prop} {ms : A → Nat} (h : Dec G n e cells ok ms) {ec : A → PV} (hec : ∀ a, wrapE G.P e (cells a) = ec a) : ∀ (ys : List (DataW H × List MemPlace)), (∀ y ∈ ys, ∃ cs, DataW.trod G.enc G.P G.W G.base G.spare G.held n e cs = some y) →
    ∃ l : List A, toldE G.P e (ys.map (·.1)) = l.map ec ∧ (∀ a ∈ l, ok a) ∧ sumL ms l ≤ bulkL (ys.map (·.1)) ∧ l.length = ys.length
  | [], _ => ⟨[], by simp [toldE], by simp, by simp [sumL], rfl⟩
  | y :: ys, hy => by
    obtain ⟨cs, h0⟩ := hy y (by simp)
    obtain ⟨a, a1, a2, a3⟩ := h _ _ h0
    obtain ⟨l, l1, l2, l3, l4⟩ := dec_elems h hec ys (fun z hz => hy z (by simp [hz]))
    refine ⟨a :: l, ?_, ?_, ?_, by simp [l4]⟩
    · simp only [List.map_cons, toldE, a1, hec, l1]
    · intro b hb
      rcases List.mem_cons.mp hb with rfl | hb
      · exact a2
      · exact l2 b hb
    · simp only [List.map_cons, sumL, bulkL]; omega
theorem dec_list {cells : A → List PV} {ok : A → Prop} {ms : A → Nat} (hu : G.P.underlying t = some (.slice e)) (h : ∀ m, n = m + 1 → Dec G m e cells ok ms) {ec : A → PV} (hec : ∀ a, wrapE G.P e (cells a) = ec a) {sz : Nat} (hsz : G.P.cellsOf e = sz) :
    Dec G n t (fun g : GL A => [LZ g.z sz (g.l.map ec)]) (fun g => ∀ a ∈ g.l, ok a) (fun g => sumL ms g.l + 1) := by
  intro cs x hx
  rcases DataW.trod_slice hu hx with ⟨rfl, rfl⟩ | ⟨a, len, cap, elems, rest, m, hm, rfl, rfl, hb, hlc, hcm, hlen, hel, hre, hno⟩
  · exact ⟨⟨true, []⟩, by simp [toldD, hu, LZ], by simp, by simp [bulk, sumL]⟩
  · obtain ⟨l, l1, l2, l3, l4⟩ := dec_elems (h m hm) hec elems (fun y hy => by
      obtain ⟨i, hi⟩ := List.getElem?_of_mem hy
      have hlt : i < len := by
        have := (List.getElem?_eq_some_iff.mp hi).1
        omega
      have := hel i hlt
      rw [hi, Option.bind_eq_some_iff] at this
      obtain ⟨cs, _, hd⟩ := this
      exact ⟨cs, hd⟩)
    refine ⟨⟨false, l⟩, ?_, l2, by simp only [bulk]; omega⟩
    simp only [toldD, hu, l1, hsz]
    cases l <;> rfl
end
end Go.Proofs.Ythidcpkcfoldmaa.Pi
namespace Go.Proofs.Ythidcpkcfoldmaa.Pi
open Go.ChangeShapes Go.WideShapes
set_option linter.unusedVariables false
set_option linter.unusedSimpArgs false
theorem rep_agg {P : Program} {W : World} {base : Nat} {t : TypeId} {fs : Array Field} {v : Value} {ps : List PV} (hu : P.underlying t = some (.struct fs)) (hok : Value.okWide P W .any base t v) (ht : ToldOk W v.cells.toList ps) : Rep [] (imOf W) (.agg ps) v := by
  unfold Value.okWide at hok
  rw [hu] at hok
  obtain ⟨cs, rfl, _, _⟩ := hok
  obtain ⟨h1, h2⟩ := ht
  refine .agg (by simpa [Value.cells] using h1.symm) (fun j c hj => (h2 j c hj).1) fun j c v hc hv => .flat ((h2 j c hc).2 v (by simpa [Value.cells] using hv))
theorem args_nil {im : Nat → Nat → Option Value} : ArgsOk (gOf im) [] #[] := ⟨rfl, fun j p v hp => by simp at hp⟩
theorem args_cons {im : Nat → Nat → Option Value} {p : PV} {v : Value} {ps : List PV} {vs : List Value} (h : Rep [] im p v) (hs : strip p = p) (hr : ArgsOk (gOf im) ps vs.toArray) : ArgsOk (gOf im) (p :: ps) (v :: vs).toArray := by
  refine ⟨by have := hr.size; simp at this ⊢; exact this, fun j q u hq hu => ?_⟩
  cases j with
  | zero =>
    simp at hq hu
    subst hq; subst hu
    exact ⟨.one (.pure h), hs⟩
  | succ j =>
    exact hr.rep j q u (by simpa using hq) (by simpa using hu)
end Go.Proofs.Ythidcpkcfoldmaa.Pi
namespace Go.Proofs.Ythidcpkcfoldmaa.Pi
open Go.ChangeShapes Go.WideShapes
set_option linter.unusedVariables false
set_option linter.unusedSimpArgs false
structure ASl where
  z : Bool
  sz : Nat
  xs : List PV
variable {H : Type} {G : DecArgs H} {n : Nat} {t e : TypeId}
theorem dec_any (hu : G.P.underlying t = some (.slice e)) : Dec G n t (fun s : ASl => [.slice false s.z s.sz s.xs]) (fun _ => True) (fun _ => 0) := by
  intro cs x hx
  rcases DataW.trod_slice hu hx with ⟨rfl, rfl⟩ | ⟨a, len, cap, elems, rest, m, hm, rfl, rfl, hb, hlc, hcm, hlen, hel, hre, hno⟩
  · exact ⟨⟨true, 0, []⟩, by simp [toldD, hu], trivial, Nat.zero_le _⟩
  · exact ⟨⟨false, G.P.cellsOf e, toldE G.P e (elems.map (·.1))⟩, by simp [toldD, hu], trivial, Nat.zero_le _⟩
end Go.Proofs.Ythidcpkcfoldmaa.Pi
namespace Go.Proofs.Ythidcpkcfoldmaa.Pi.Q
open Go Go.Proofs.Ythidcpkcfoldmaa.Pi
set_option linter.unusedVariables false
def cs_V (v : VT) : List PV := [.int .i64 v.num, .bool v.nul, .int .i64 v.heap]
def ok_V (v : VT) : Prop := (Lit.int .i64 v.num).wf = true ∧ True ∧ (Lit.int .i64 v.heap).wf = true ∧ True
def ms_V (v : VT) : Nat := 1 + (1 + (1 + (0))) + 1
structure CG where
  kind : Int
  ps : GL (VT)
  rs : GL (VT)
  fs : GL (FT)
  deriving DecidableEq
structure SG where
  fin : Bool
  sup : GL (Int)
  comp : CG
  deriving DecidableEq
structure RG where
  types : GL (SG)
  exp : Bool
  deriving DecidableEq
structure LT where
  wide : Bool
  min : Int
  max : Int
  has : Bool
  deriving DecidableEq
def cs_B (v : BK) : List PV := [.int .i64 v.ty, .int .i64 v.res.num, .bool v.res.nul, .int .i64 v.res.heap]
def ok_B (v : BK) : Prop := (Lit.int .i64 v.ty).wf = true ∧ ok_V v.res ∧ True
def ms_B (v : BK) : Nat := 1 + (ms_V v.res + (0)) + 1
def CG.plain (v : CG) : CT := ⟨v.kind, v.ps.l, v.rs.l, v.fs.l⟩
def SG.plain (v : SG) : ST := ⟨v.fin, v.sup.l, v.comp.plain⟩
def RG.plain (v : RG) : RT := ⟨v.types.l.map SG.plain, v.exp⟩
end Go.Proofs.Ythidcpkcfoldmaa.Pi.Q
namespace Go.Proofs.Ythidcpkcfoldmaa.Pi.Q
open Go Go.Proofs.Ythidcpkcfoldmaa.Pi
set_option linter.unusedVariables false
def encU32 (n : Int) : PV := .int .u32 n
structure MG where
  align : Int
  mem : Int
  off : Int
  deriving DecidableEq
def cs_MG (v : MG) : List PV := [.int .u32 v.align, .int .u32 v.mem, .int .u64 v.off]
def ok_MG (v : MG) : Prop := (Lit.int .u32 v.align).wf = true ∧ (Lit.int .u32 v.mem).wf = true ∧ (Lit.int .u64 v.off).wf = true ∧ True
def ms_MG (v : MG) : Nat := 1 + (1 + (1 + (0))) + 1
structure CH where
  kind : Int
  tag : Int
  label : Int
  deriving DecidableEq
def cs_CH (v : CH) : List PV := [.int .i64 v.kind, .int .u32 v.tag, .int .u32 v.label]
def ok_CH (v : CH) : Prop := (Lit.int .i64 v.kind).wf = true ∧ (Lit.int .u32 v.tag).wf = true ∧ (Lit.int .u32 v.label).wf = true ∧ True
def ms_CH (v : CH) : Nat := 1 + (1 + (1 + (0))) + 1
def encCH (v : CH) : PV := .agg [.int .i64 v.kind, .int .u32 v.tag, .int .u32 v.label]
structure IG where
  op : Int
  x : Int
  y : Int
  n : Int
  mem : MG
  block : BK
  body : ASl
  els : ASl
  hasElse : Bool
  labels : GL (Int)
  types : GL (VT)
  catches : GL (CH)
def cs_IG (v : IG) : List PV := [.int .i64 v.op, .int .u32 v.x, .int .u32 v.y, .int .u64 v.n, .int .u32 v.mem.align, .int .u32 v.mem.mem, .int .u64 v.mem.off, .int .i64 v.block.ty, .int .i64 v.block.res.num, .bool v.block.res.nul, .int .i64 v.block.res.heap, .slice false v.body.z v.body.sz v.body.xs, .slice false v.els.z v.els.sz v.els.xs, .bool v.hasElse, LZ v.labels.z 1 (v.labels.l.map encU32), LZ v.types.z 3 (v.types.l.map encV), LZ v.catches.z 3 (v.catches.l.map encCH)]
def ok_IG (v : IG) : Prop := (Lit.int .i64 v.op).wf = true ∧ (Lit.int .u32 v.x).wf = true ∧ (Lit.int .u32 v.y).wf = true ∧ (Lit.int .u64 v.n).wf = true ∧ ok_MG v.mem ∧ ok_B v.block ∧ True ∧ True ∧ True ∧ (∀ a ∈ v.labels.l, (Lit.int .u32 a).wf = true) ∧ (∀ a ∈ v.types.l, ok_V a) ∧ (∀ a ∈ v.catches.l, ok_CH a) ∧ True
def ms_IG (v : IG) : Nat := 1 + (1 + (1 + (1 + (ms_MG v.mem + (ms_B v.block + (0 + (0 + (1 + ((sumL (fun a => 1) v.labels.l + 1) + ((sumL (fun a => ms_V a) v.types.l + 1) + ((sumL (fun a => ms_CH a) v.catches.l + 1) + (0)))))))))))) + 1
end Go.Proofs.Ythidcpkcfoldmaa.Pi.Q
namespace Go.Proofs.Ythidcpkcfoldmaa.Pi.Q
open Go Go.Proofs.Ythidcpkcfoldmaa.Pi
set_option linter.unusedVariables false
set_option linter.unusedSimpArgs false
set_option maxRecDepth 100000
attribute [local congr] ite_congr
def accB (b : List UInt8) : PV := accP 1 (bytes b)
theorem byt_of {n : Nat} (h : n < 256) : byt (UInt8.ofNat n) = .int .u8 n := by
  unfold byt
  rw [UInt8.toNat_ofNat', Nat.mod_eq_of_lt h]
theorem bsR_byt {n : Nat} (h : n < 256) {K : Heap} : bsR true none [.int .u8 n] K = some (.ok (.slice true false 1 [byt (UInt8.ofNat n)]) K) := by
  rw [byt_of h]
  rfl
theorem ap_B {acc : List UInt8} {c : UInt8} {K : Heap} (h : acc.length + 1 ≤ 140737488355328) : run (ap true 1 1 (accB acc) (.slice true false 1 [byt c])) K = some (.ok (accB (acc ++ [c])) K) := by
  have := ap_acc (H := K) (sz := 1) (b := 1) (l := bytes acc) (v := byt c) (o := true) (by simpa [bytes] using h)
  unfold accB
  rw [this]
  simp [bytes]
def putU (n : Nat) : List UInt8 := if n < 128 then [UInt8.ofNat n] else UInt8.ofNat (n % 128 + 128) :: putU (n / 128)
termination_by n
decreasing_by omega
theorem or128 : ∀ m : Fin 256, IntKind.u8.wrap (BitVec.ofInt 8 (m.val : Int) ||| BitVec.ofInt 8 128).toNat = ((m.val % 128 + 128 : Nat) : Int) := by decide +kernel
theorem or_byte (n : Nat) : bi .or .none (.int .u8 ((n % 256 : Nat) : Int)) (.int .u8 128) = M.pure (.int .u8 ((n % 128 + 128 : Nat) : Int)) := by
  rw [run_or]
  have := or128 ⟨n % 256, by omega⟩
  have e : n % 256 % 128 = n % 128 := by omega
  simp only [e] at this
  rw [show IntKind.u8.bits = 8 from rfl, this]
theorem shr7 (n : Nat) : bi .shr .none (.int .u64 (n : Int)) (.int .u64 7) = M.pure (.int .u64 ((n / 128 : Nat) : Int)) := by
  rw [run_shr (by omega)]
  have : (n : Int).fdiv (2 ^ shiftN .u64 7) = ((n / 128 : Nat) : Int) := by
    have e : (2 : Int) ^ shiftN .u64 7 = 128 := by decide
    rw [e]
    simp [Int.fdiv_eq_ediv]
  rw [this]
theorem putU_loop {H : Heap} {v2 : PV} : ∀ (m n : Nat) (acc : List UInt8), n < 128 ^ (m + 1) → n < 2 ^ 64 → acc.length + m < 1000 → run (p_leb_PutU_1100 (.int .u64 n) v2 (accB acc)) H = some (.ok (accB (acc ++ putU n)) H)
  | m, n, acc, h, hn, hl => by
    have hap := fun c K => ap_B (acc := acc) (c := c) (K := K) (by omega)
    have ht : isTup (accB (acc ++ [UInt8.ofNat n])) = false := isTup_acc
    by_cases h1 : n < 128
    · have c1 : ¬ (127 : Int) < n := by omega
      have hbs := fun K => bsR_byt (n := n) (by omega) (K := K)
      rw [p_leb_PutU_1100_eq, putU, if_pos h1]
      simp (contextual := true) (dsimp := false) (disch := omega) only [↓goDown, goUp, List.length_cons, List.length_nil, List.map_cons, List.map_nil, List.take_succ_cons, List.take_zero, List.drop_succ_cons, List.drop_zero, List.drop_nil, List.take_nil, List.cons_append, List.nil_append, List.append_nil, List.set_cons_zero, List.set_cons_succ, List.all_cons, List.all_nil, ↓reduceIte, reduceCtorEq, ge_iff_le, gt_iff_lt, eq_self_iff_true, beq_self_eq_true, beq_iff_eq, bne_iff_ne, ne_eq, ite_not, Int.reduceEq, Option.getD_some, Option.getD_none, ite_self, Nat.reduceAdd, Nat.reduceSub, Nat.reduceMul, Nat.reduceLeDiff, Nat.reduceEqDiff, Nat.reduceBEq, Nat.reduceBNe, Int.reduceLT, Int.reduceLE, Int.reduceAdd, Int.reduceSub, Int.reduceMul, Int.reduceNeg, Int.reduceNe, Int.reduceBEq, Int.reduceBNe, Int.reduceToNat, c1, hbs, hap, ht]
    · cases m with
      | zero => simp at h; omega
      | succ m =>
        have c1 : (127 : Int) < n := by omega
        have hw : IntKind.u8.wrap (n : Int) = ((n % 256 : Nat) : Int) := by rw [show IntKind.u8.wrap (n : Int) = (n : Int) % 256 from rfl]; omega
        have hbs := fun K => bsR_byt (n := n % 128 + 128) (by omega) (K := K)
        have ih := putU_loop (H := H) (v2 := v2) m (n / 128) (acc ++ [UInt8.ofNat (n % 128 + 128)]) (by
          have : 128 ^ (m + 1 + 1) = 128 ^ (m + 1) * 128 := Nat.pow_succ ..
          exact Nat.div_lt_of_lt_mul (by omega)) (by omega) (by simp; omega)
        rw [p_leb_PutU_1100_eq, putU, if_neg h1]
        simp (contextual := true) (dsimp := false) (disch := omega) only [↓goDown, goUp, List.length_cons, List.length_nil, List.map_cons, List.map_nil, List.take_succ_cons, List.take_zero, List.drop_succ_cons, List.drop_zero, List.drop_nil, List.take_nil, List.cons_append, List.nil_append, List.append_nil, List.set_cons_zero, List.set_cons_succ, List.all_cons, List.all_nil, ↓reduceIte, reduceCtorEq, ge_iff_le, gt_iff_lt, eq_self_iff_true, beq_self_eq_true, beq_iff_eq, bne_iff_ne, ne_eq, ite_not, Int.reduceEq, Option.getD_some, Option.getD_none, ite_self, Nat.reduceAdd, Nat.reduceSub, Nat.reduceMul, Nat.reduceLeDiff, Nat.reduceEqDiff, Nat.reduceBEq, Nat.reduceBNe, Int.reduceLT, Int.reduceLE, Int.reduceAdd, Int.reduceSub, Int.reduceMul, Int.reduceNeg, Int.reduceNe, Int.reduceBEq, Int.reduceBNe, Int.reduceToNat, c1, hw, or_byte, shr7, hbs, hap]
        rw [ih]
        simp
theorem putU_is {H : Heap} {n : Nat} (hn : n < 2 ^ 64) : run (C k_leb_PutU [.int .u64 n]) H = some (.ok (accB (putU n)) H) := by
  rw [leb_PutU_eq]
  have h := putU_loop (H := H) (v2 := .slice false true 0 []) 9 n [] (by omega) hn (by simp)
  have h : run (p_leb_PutU_1100 (.int .u64 n) (.slice false true 0 []) (.slice false true 0 [])) H = some (.ok (accB (putU n)) H) := h
  have hl : ∀ k, (accB (putU n)).low k = true := fun k => low_acc
  simp (contextual := true) (dsimp := false) (disch := omega) only [↓goDown, goUp, List.length_cons, List.length_nil, List.map_cons, List.map_nil, List.take_succ_cons, List.take_zero, List.drop_succ_cons, List.drop_zero, List.drop_nil, List.take_nil, List.cons_append, List.nil_append, List.append_nil, List.set_cons_zero, List.set_cons_succ, List.all_cons, List.all_nil, ↓reduceIte, reduceCtorEq, ge_iff_le, gt_iff_lt, eq_self_iff_true, beq_self_eq_true, beq_iff_eq, bne_iff_ne, ne_eq, ite_not, Int.reduceEq, Option.getD_some, Option.getD_none, ite_self, Nat.reduceAdd, Nat.reduceSub, Nat.reduceMul, Nat.reduceLeDiff, Nat.reduceEqDiff, Nat.reduceBEq, Nat.reduceBNe, Int.reduceLT, Int.reduceLE, Int.reduceAdd, Int.reduceSub, Int.reduceMul, Int.reduceNeg, Int.reduceNe, Int.reduceBEq, Int.reduceBNe, Int.reduceToNat, h, hl]
theorem rputU_loop {H : Heap} {v2 : PV} : ∀ (m n : Nat) (acc : List UInt8), n < 128 ^ (m + 1) → n < 2 ^ 64 → acc.length + m < 1000 → run (p_ratchetref01_PutU_1100 (.int .u64 n) v2 (accB acc)) H = some (.ok (accB (acc ++ putU n)) H)
  | m, n, acc, h, hn, hl => by
    have hap := fun c K => ap_B (acc := acc) (c := c) (K := K) (by omega)
    have ht : isTup (accB (acc ++ [UInt8.ofNat n])) = false := isTup_acc
    by_cases h1 : n < 128
    · have c1 : ¬ (128 : Int) ≤ n := by omega
      have hbs := fun K => bsR_byt (n := n) (by omega) (K := K)
      rw [p_ratchetref01_PutU_1100_eq, putU, if_pos h1]
      simp (contextual := true) (dsimp := false) (disch := omega) only [↓goDown, goUp, List.length_cons, List.length_nil, List.map_cons, List.map_nil, List.take_succ_cons, List.take_zero, List.drop_succ_cons, List.drop_zero, List.drop_nil, List.take_nil, List.cons_append, List.nil_append, List.append_nil, List.set_cons_zero, List.set_cons_succ, List.all_cons, List.all_nil, ↓reduceIte, reduceCtorEq, ge_iff_le, gt_iff_lt, eq_self_iff_true, beq_self_eq_true, beq_iff_eq, bne_iff_ne, ne_eq, ite_not, Int.reduceEq, Option.getD_some, Option.getD_none, ite_self, Nat.reduceAdd, Nat.reduceSub, Nat.reduceMul, Nat.reduceLeDiff, Nat.reduceEqDiff, Nat.reduceBEq, Nat.reduceBNe, Int.reduceLT, Int.reduceLE, Int.reduceAdd, Int.reduceSub, Int.reduceMul, Int.reduceNeg, Int.reduceNe, Int.reduceBEq, Int.reduceBNe, Int.reduceToNat, c1, hbs, hap, ht]
    · cases m with
      | zero => simp at h; omega
      | succ m =>
        have c1 : (128 : Int) ≤ n := by omega
        have hrem : (n : Int).tmod 128 = ((n % 128 : Nat) : Int) := rfl
        have hquo : (n : Int).tdiv 128 = ((n / 128 : Nat) : Int) := rfl
        have hadd : ((n % 128 : Nat) : Int) + 128 = ((n % 128 + 128 : Nat) : Int) := rfl
        have hbs := fun K => bsR_byt (n := n % 128 + 128) (by omega) (K := K)
        have ih := rputU_loop (H := H) (v2 := v2) m (n / 128) (acc ++ [UInt8.ofNat (n % 128 + 128)]) (by
          have : 128 ^ (m + 1 + 1) = 128 ^ (m + 1) * 128 := Nat.pow_succ ..
          exact Nat.div_lt_of_lt_mul (by omega)) (by omega) (by simp; omega)
        rw [p_ratchetref01_PutU_1100_eq, putU, if_neg h1]
        simp (contextual := true) (dsimp := false) (disch := omega) only [↓goDown, goUp, List.length_cons, List.length_nil, List.map_cons, List.map_nil, List.take_succ_cons, List.take_zero, List.drop_succ_cons, List.drop_zero, List.drop_nil, List.take_nil, List.cons_append, List.nil_append, List.append_nil, List.set_cons_zero, List.set_cons_succ, List.all_cons, List.all_nil, ↓reduceIte, reduceCtorEq, ge_iff_le, gt_iff_lt, eq_self_iff_true, beq_self_eq_true, beq_iff_eq, bne_iff_ne, ne_eq, ite_not, Int.reduceEq, Option.getD_some, Option.getD_none, ite_self, Nat.reduceAdd, Nat.reduceSub, Nat.reduceMul, Nat.reduceLeDiff, Nat.reduceEqDiff, Nat.reduceBEq, Nat.reduceBNe, Int.reduceLT, Int.reduceLE, Int.reduceAdd, Int.reduceSub, Int.reduceMul, Int.reduceNeg, Int.reduceNe, Int.reduceBEq, Int.reduceBNe, Int.reduceToNat, c1, hrem, hquo, hadd, hbs, hap]
        rw [ih]
        simp
theorem rputU_is {H : Heap} {n : Nat} (hn : n < 2 ^ 64) : run (C k_ratchetref01_PutU [.int .u64 n]) H = some (.ok (accB (putU n)) H) := by
  rw [ratchetref01_PutU_eq]
  have h := rputU_loop (H := H) (v2 := .slice false true 0 []) 9 n [] (by omega) hn (by simp)
  have h : run (p_ratchetref01_PutU_1100 (.int .u64 n) (.slice false true 0 []) (.slice false true 0 [])) H = some (.ok (accB (putU n)) H) := h
  have hl : ∀ k, (accB (putU n)).low k = true := fun k => low_acc
  simp (contextual := true) (dsimp := false) (disch := omega) only [↓goDown, goUp, List.length_cons, List.length_nil, List.map_cons, List.map_nil, List.take_succ_cons, List.take_zero, List.drop_succ_cons, List.drop_zero, List.drop_nil, List.take_nil, List.cons_append, List.nil_append, List.append_nil, List.set_cons_zero, List.set_cons_succ, List.all_cons, List.all_nil, ↓reduceIte, reduceCtorEq, ge_iff_le, gt_iff_lt, eq_self_iff_true, beq_self_eq_true, beq_iff_eq, bne_iff_ne, ne_eq, ite_not, Int.reduceEq, Option.getD_some, Option.getD_none, ite_self, Nat.reduceAdd, Nat.reduceSub, Nat.reduceMul, Nat.reduceLeDiff, Nat.reduceEqDiff, Nat.reduceBEq, Nat.reduceBNe, Int.reduceLT, Int.reduceLE, Int.reduceAdd, Int.reduceSub, Int.reduceMul, Int.reduceNeg, Int.reduceNe, Int.reduceBEq, Int.reduceBNe, Int.reduceToNat, h, hl]
theorem putU_len : ∀ (m n : Nat), n < 128 ^ (m + 1) → (putU n).length ≤ m + 1
  | m, n, h => by
    rw [putU]
    split
    · simp
    · cases m with
      | zero => simp at h; omega
      | succ m =>
        have := putU_len m (n / 128) (by
          have : 128 ^ (m + 1 + 1) = 128 ^ (m + 1) * 128 := Nat.pow_succ ..
          exact Nat.div_lt_of_lt_mul (by omega))
        simp only [List.length_cons]
        omega
theorem putU_ten {n : Nat} (h : n < 2 ^ 64) : (putU n).length ≤ 10 := putU_len 9 n (by omega)
end Go.Proofs.Ythidcpkcfoldmaa.Pi.Q
namespace Go.Proofs.Ythidcpkcfoldmaa.Pi.Q
open Go Go.Proofs.Ythidcpkcfoldmaa.Pi
set_option linter.unusedVariables false
set_option linter.unusedSimpArgs false
set_option maxRecDepth 100000
attribute [local congr] ite_congr
def putS (n : Int) : List UInt8 := if -64 ≤ n ∧ n ≤ 63 then [UInt8.ofNat (n % 128).toNat] else UInt8.ofNat ((n % 128).toNat + 128) :: putS (n / 128)
termination_by n.natAbs
decreasing_by omega
theorem and127 : ∀ m : Fin 256, IntKind.u8.wrap (BitVec.ofInt 8 (m.val : Int) &&& BitVec.ofInt 8 127).toNat = ((m.val % 128 : Nat) : Int) := by decide +kernel
theorem and_byte (n : Nat) : bi .and .none (.int .u8 ((n % 256 : Nat) : Int)) (.int .u8 127) = M.pure (.int .u8 ((n % 128 : Nat) : Int)) := by
  rw [run_and]
  have := and127 ⟨n % 256, by omega⟩
  have e : n % 256 % 128 = n % 128 := by omega
  simp only [e] at this
  rw [show IntKind.u8.bits = 8 from rfl, this]
theorem shrS (n : Int) : bi .shr .none (.int .i64 n) (.int .u64 7) = M.pure (.int .i64 (n / 128)) := by
  rw [run_shr (by omega)]
  have : n.fdiv (2 ^ shiftN .i64 7) = n / 128 := by
    have e : (2 : Int) ^ shiftN .i64 7 = 128 := by decide
    rw [e]
    simp [Int.fdiv_eq_ediv]
  rw [this]
theorem putS_loop {H : Heap} {v2 : PV} : ∀ (m : Nat) (n : Int) (acc : List UInt8), -(64 * 128 ^ m) ≤ n → n < 64 * 128 ^ m → -9223372036854775808 ≤ n → n ≤ 9223372036854775807 → acc.length + m < 1000 →
    run (p_leb_PutS_1100 (.int .i64 n) v2 (accB acc)) H = some (.ok (accB (acc ++ putS n)) H)
  | m, n, acc, h, h', hn, hn', hl => by
    have hap := fun c K => ap_B (acc := acc) (c := c) (K := K) (by omega)
    have hm : ((n % 128).toNat : Int) = n % 128 := Int.toNat_of_nonneg (by omega)
    have hw : IntKind.u8.wrap n = (((n % 256).toNat % 256 : Nat) : Int) := by rw [show IntKind.u8.wrap n = n % 256 from rfl]; omega
    have e128 : (n % 256).toNat % 128 = (n % 128).toNat := by omega
    by_cases h1 : -64 ≤ n ∧ n ≤ 63
    · have c1 : ¬ n < -64 := by omega
      have c2 : ¬ 63 < n := by omega
      have ha := and_byte (n % 256).toNat
      rw [e128] at ha
      have hbs := fun K => bsR_byt (n := (n % 128).toNat) (by omega) (K := K)
      have ht : isTup (accB (acc ++ [UInt8.ofNat (n % 128).toNat])) = false := isTup_acc
      rw [p_leb_PutS_1100_eq, putS, if_pos h1]
      simp (contextual := true) (dsimp := false) (disch := omega) only [↓goDown, goUp, List.length_cons, List.length_nil, List.map_cons, List.map_nil, List.take_succ_cons, List.take_zero, List.drop_succ_cons, List.drop_zero, List.drop_nil, List.take_nil, List.cons_append, List.nil_append, List.append_nil, List.set_cons_zero, List.set_cons_succ, List.all_cons, List.all_nil, ↓reduceIte, reduceCtorEq, ge_iff_le, gt_iff_lt, eq_self_iff_true, beq_self_eq_true, beq_iff_eq, bne_iff_ne, ne_eq, ite_not, Int.reduceEq, Option.getD_some, Option.getD_none, ite_self, Nat.reduceAdd, Nat.reduceSub, Nat.reduceMul, Nat.reduceLeDiff, Nat.reduceEqDiff, Nat.reduceBEq, Nat.reduceBNe, Int.reduceLT, Int.reduceLE, Int.reduceAdd, Int.reduceSub, Int.reduceMul, Int.reduceNeg, Int.reduceNe, Int.reduceBEq, Int.reduceBNe, Int.reduceToNat, c1, c2, hw, ha, hbs, hap, ht]
    · cases m with
      | zero => simp at h h'; omega
      | succ m =>
        have ho := or_byte (n % 256).toNat
        rw [e128] at ho
        have hbs := fun K => bsR_byt (n := (n % 128).toNat + 128) (by omega) (K := K)
        have ih := putS_loop (H := H) (v2 := v2) m (n / 128) (acc ++ [UInt8.ofNat ((n % 128).toNat + 128)]) (by
          have : (128 : Int) ^ (m + 1) = 128 ^ m * 128 := Int.pow_succ ..
          omega) (by
          have : (128 : Int) ^ (m + 1) = 128 ^ m * 128 := Int.pow_succ ..
          omega) (by omega) (by omega) (by simp; omega)
        rw [p_leb_PutS_1100_eq, putS, if_neg h1]
        by_cases c1 : n < -64
        · simp (contextual := true) (dsimp := false) (disch := omega) only [↓goDown, goUp, List.length_cons, List.length_nil, List.map_cons, List.map_nil, List.take_succ_cons, List.take_zero, List.drop_succ_cons, List.drop_zero, List.drop_nil, List.take_nil, List.cons_append, List.nil_append, List.append_nil, List.set_cons_zero, List.set_cons_succ, List.all_cons, List.all_nil, ↓reduceIte, reduceCtorEq, ge_iff_le, gt_iff_lt, eq_self_iff_true, beq_self_eq_true, beq_iff_eq, bne_iff_ne, ne_eq, ite_not, Int.reduceEq, Option.getD_some, Option.getD_none, ite_self, Nat.reduceAdd, Nat.reduceSub, Nat.reduceMul, Nat.reduceLeDiff, Nat.reduceEqDiff, Nat.reduceBEq, Nat.reduceBNe, Int.reduceLT, Int.reduceLE, Int.reduceAdd, Int.reduceSub, Int.reduceMul, Int.reduceNeg, Int.reduceNe, Int.reduceBEq, Int.reduceBNe, Int.reduceToNat, c1, hw, ho, shrS, hbs, hap]
          rw [ih]
          simp
        · have c2 : 63 < n := by omega
          simp (contextual := true) (dsimp := false) (disch := omega) only [↓goDown, goUp, List.length_cons, List.length_nil, List.map_cons, List.map_nil, List.take_succ_cons, List.take_zero, List.drop_succ_cons, List.drop_zero, List.drop_nil, List.take_nil, List.cons_append, List.nil_append, List.append_nil, List.set_cons_zero, List.set_cons_succ, List.all_cons, List.all_nil, ↓reduceIte, reduceCtorEq, ge_iff_le, gt_iff_lt, eq_self_iff_true, beq_self_eq_true, beq_iff_eq, bne_iff_ne, ne_eq, ite_not, Int.reduceEq, Option.getD_some, Option.getD_none, ite_self, Nat.reduceAdd, Nat.reduceSub, Nat.reduceMul, Nat.reduceLeDiff, Nat.reduceEqDiff, Nat.reduceBEq, Nat.reduceBNe, Int.reduceLT, Int.reduceLE, Int.reduceAdd, Int.reduceSub, Int.reduceMul, Int.reduceNeg, Int.reduceNe, Int.reduceBEq, Int.reduceBNe, Int.reduceToNat, c1, c2, hw, ho, shrS, hbs, hap]
          rw [ih]
          simp
theorem putS_is {H : Heap} {n : Int} (hn : -9223372036854775808 ≤ n) (hn' : n ≤ 9223372036854775807) : run (C k_leb_PutS [.int .i64 n]) H = some (.ok (accB (putS n)) H) := by
  rw [leb_PutS_eq]
  have h := putS_loop (H := H) (v2 := .slice false true 0 []) 9 n [] (by omega) (by omega) hn hn' (by simp)
  have h : run (p_leb_PutS_1100 (.int .i64 n) (.slice false true 0 []) (.slice false true 0 [])) H = some (.ok (accB (putS n)) H) := h
  have hl : ∀ k, (accB (putS n)).low k = true := fun k => low_acc
  simp (contextual := true) (dsimp := false) (disch := omega) only [↓goDown, goUp, List.length_cons, List.length_nil, List.map_cons, List.map_nil, List.take_succ_cons, List.take_zero, List.drop_succ_cons, List.drop_zero, List.drop_nil, List.take_nil, List.cons_append, List.nil_append, List.append_nil, List.set_cons_zero, List.set_cons_succ, List.all_cons, List.all_nil, ↓reduceIte, reduceCtorEq, ge_iff_le, gt_iff_lt, eq_self_iff_true, beq_self_eq_true, beq_iff_eq, bne_iff_ne, ne_eq, ite_not, Int.reduceEq, Option.getD_some, Option.getD_none, ite_self, Nat.reduceAdd, Nat.reduceSub, Nat.reduceMul, Nat.reduceLeDiff, Nat.reduceEqDiff, Nat.reduceBEq, Nat.reduceBNe, Int.reduceLT, Int.reduceLE, Int.reduceAdd, Int.reduceSub, Int.reduceMul, Int.reduceNeg, Int.reduceNe, Int.reduceBEq, Int.reduceBNe, Int.reduceToNat, h, hl]
theorem and_i64 (n : Int) : bi .and .none (.int .i64 n) (.int .i64 127) = M.pure (.int .i64 (n % 128)) := by
  rw [run_and, show IntKind.i64.bits = 64 from rfl]
  have e : (BitVec.ofInt 64 n &&& BitVec.ofInt 64 127).toNat = (n % 128).toNat := by
    rw [BitVec.toNat_and, BitVec.toNat_ofInt, show (BitVec.ofInt 64 127).toNat = 2 ^ 7 - 1 from rfl, Nat.and_two_pow_sub_one_eq_mod]
    omega
  rw [e, Int.toNat_of_nonneg (by omega), show IntKind.i64.wrap (n % 128) = n % 128 from by rw [wi]; omega]
theorem rputS_loop {H : Heap} {v2 : PV} : ∀ (m : Nat) (n : Int) (acc : List UInt8), -(64 * 128 ^ m) ≤ n → n < 64 * 128 ^ m → -9223372036854775808 ≤ n → n ≤ 9223372036854775807 → acc.length + m < 1000 →
    run (p_ratchetref01_PutS_1100 (.int .i64 n) v2 (accB acc)) H = some (.ok (accB (acc ++ putS n)) H)
  | m, n, acc, h, h', hn, hn', hl => by
    have hap := fun c K => ap_B (acc := acc) (c := c) (K := K) (by omega)
    have hm : n % 128 = ((n % 128).toNat : Int) := (Int.toNat_of_nonneg (by omega)).symm
    have ha := and_i64 n
    rw [hm] at ha
    by_cases h1 : -64 ≤ n ∧ n ≤ 63
    · have c1 : ¬ n < -64 := by omega
      have c2 : ¬ 63 < n := by omega
      have hbs := fun K => bsR_byt (n := (n % 128).toNat) (by omega) (K := K)
      have ht : isTup (accB (acc ++ [UInt8.ofNat (n % 128).toNat])) = false := isTup_acc
      rw [p_ratchetref01_PutS_1100_eq, putS, if_pos h1]
      simp (contextual := true) (dsimp := false) (disch := omega) only [↓goDown, goUp, List.length_cons, List.length_nil, List.map_cons, List.map_nil, List.take_succ_cons, List.take_zero, List.drop_succ_cons, List.drop_zero, List.drop_nil, List.take_nil, List.cons_append, List.nil_append, List.append_nil, List.set_cons_zero, List.set_cons_succ, List.all_cons, List.all_nil, ↓reduceIte, reduceCtorEq, ge_iff_le, gt_iff_lt, eq_self_iff_true, beq_self_eq_true, beq_iff_eq, bne_iff_ne, ne_eq, ite_not, Int.reduceEq, Option.getD_some, Option.getD_none, ite_self, Nat.reduceAdd, Nat.reduceSub, Nat.reduceMul, Nat.reduceLeDiff, Nat.reduceEqDiff, Nat.reduceBEq, Nat.reduceBNe, Int.reduceLT, Int.reduceLE, Int.reduceAdd, Int.reduceSub, Int.reduceMul, Int.reduceNeg, Int.reduceNe, Int.reduceBEq, Int.reduceBNe, Int.reduceToNat, c1, c2, ha, hbs, hap, ht]
    · cases m with
      | zero => simp at h h'; omega
      | succ m =>
        have hadd : (((n % 128).toNat : Nat) : Int) + 128 = (((n % 128).toNat + 128 : Nat) : Int) := rfl
        have hbs := fun K => bsR_byt (n := (n % 128).toNat + 128) (by omega) (K := K)
        have ih := rputS_loop (H := H) (v2 := v2) m (n / 128) (acc ++ [UInt8.ofNat ((n % 128).toNat + 128)]) (by
          have : (128 : Int) ^ (m + 1) = 128 ^ m * 128 := Int.pow_succ ..
          omega) (by
          have : (128 : Int) ^ (m + 1) = 128 ^ m * 128 := Int.pow_succ ..
          omega) (by omega) (by omega) (by simp; omega)
        rw [p_ratchetref01_PutS_1100_eq, putS, if_neg h1]
        by_cases c1 : n < -64
        · simp (contextual := true) (dsimp := false) (disch := omega) only [↓goDown, goUp, List.length_cons, List.length_nil, List.map_cons, List.map_nil, List.take_succ_cons, List.take_zero, List.drop_succ_cons, List.drop_zero, List.drop_nil, List.take_nil, List.cons_append, List.nil_append, List.append_nil, List.set_cons_zero, List.set_cons_succ, List.all_cons, List.all_nil, ↓reduceIte, reduceCtorEq, ge_iff_le, gt_iff_lt, eq_self_iff_true, beq_self_eq_true, beq_iff_eq, bne_iff_ne, ne_eq, ite_not, Int.reduceEq, Option.getD_some, Option.getD_none, ite_self, Nat.reduceAdd, Nat.reduceSub, Nat.reduceMul, Nat.reduceLeDiff, Nat.reduceEqDiff, Nat.reduceBEq, Nat.reduceBNe, Int.reduceLT, Int.reduceLE, Int.reduceAdd, Int.reduceSub, Int.reduceMul, Int.reduceNeg, Int.reduceNe, Int.reduceBEq, Int.reduceBNe, Int.reduceToNat, c1, ha, hadd, shrS, hbs, hap]
          rw [ih]
          simp
        · have c2 : 63 < n := by omega
          simp (contextual := true) (dsimp := false) (disch := omega) only [↓goDown, goUp, List.length_cons, List.length_nil, List.map_cons, List.map_nil, List.take_succ_cons, List.take_zero, List.drop_succ_cons, List.drop_zero, List.drop_nil, List.take_nil, List.cons_append, List.nil_append, List.append_nil, List.set_cons_zero, List.set_cons_succ, List.all_cons, List.all_nil, ↓reduceIte, reduceCtorEq, ge_iff_le, gt_iff_lt, eq_self_iff_true, beq_self_eq_true, beq_iff_eq, bne_iff_ne, ne_eq, ite_not, Int.reduceEq, Option.getD_some, Option.getD_none, ite_self, Nat.reduceAdd, Nat.reduceSub, Nat.reduceMul, Nat.reduceLeDiff, Nat.reduceEqDiff, Nat.reduceBEq, Nat.reduceBNe, Int.reduceLT, Int.reduceLE, Int.reduceAdd, Int.reduceSub, Int.reduceMul, Int.reduceNeg, Int.reduceNe, Int.reduceBEq, Int.reduceBNe, Int.reduceToNat, c1, c2, ha, hadd, shrS, hbs, hap]
          rw [ih]
          simp
theorem rputS_is {H : Heap} {n : Int} (hn : -9223372036854775808 ≤ n) (hn' : n ≤ 9223372036854775807) : run (C k_ratchetref01_PutS [.int .i64 n]) H = some (.ok (accB (putS n)) H) := by
  rw [ratchetref01_PutS_eq]
  have h := rputS_loop (H := H) (v2 := .slice false true 0 []) 9 n [] (by omega) (by omega) hn hn' (by simp)
  have h : run (p_ratchetref01_PutS_1100 (.int .i64 n) (.slice false true 0 []) (.slice false true 0 [])) H = some (.ok (accB (putS n)) H) := h
  have hl : ∀ k, (accB (putS n)).low k = true := fun k => low_acc
  simp (contextual := true) (dsimp := false) (disch := omega) only [↓goDown, goUp, List.length_cons, List.length_nil, List.map_cons, List.map_nil, List.take_succ_cons, List.take_zero, List.drop_succ_cons, List.drop_zero, List.drop_nil, List.take_nil, List.cons_append, List.nil_append, List.append_nil, List.set_cons_zero, List.set_cons_succ, List.all_cons, List.all_nil, ↓reduceIte, reduceCtorEq, ge_iff_le, gt_iff_lt, eq_self_iff_true, beq_self_eq_true, beq_iff_eq, bne_iff_ne, ne_eq, ite_not, Int.reduceEq, Option.getD_some, Option.getD_none, ite_self, Nat.reduceAdd, Nat.reduceSub, Nat.reduceMul, Nat.reduceLeDiff, Nat.reduceEqDiff, Nat.reduceBEq, Nat.reduceBNe, Int.reduceLT, Int.reduceLE, Int.reduceAdd, Int.reduceSub, Int.reduceMul, Int.reduceNeg, Int.reduceNe, Int.reduceBEq, Int.reduceBNe, Int.reduceToNat, h, hl]
end Go.Proofs.Ythidcpkcfoldmaa.Pi.Q
namespace Go.Proofs.Ythidcpkcfoldmaa.Pi.Q
open Go Go.Proofs.Ythidcpkcfoldmaa.Pi
set_option linter.unusedVariables false
set_option linter.unusedSimpArgs false
set_option maxRecDepth 100000
attribute [local congr] ite_congr
inductive Wr where
  | ok (u : List UInt8)
  | err (w : Nat)
theorem pmust_ok {H : Heap} {x : PV} : run (C k_entry_pen_must [x, .bool true]) H = some (.ok (.tup []) H) := by
  rw [entry_pen_must_eq]
  simp (contextual := true) (dsimp := false) (disch := omega) only [↓goDown, goUp, List.length_cons, List.length_nil, List.map_cons, List.map_nil, List.take_succ_cons, List.take_zero, List.drop_succ_cons, List.drop_zero, List.drop_nil, List.take_nil, List.cons_append, List.nil_append, List.append_nil, List.set_cons_zero, List.set_cons_succ, List.all_cons, List.all_nil, ↓reduceIte, reduceCtorEq, ge_iff_le, gt_iff_lt, eq_self_iff_true, beq_self_eq_true, beq_iff_eq, bne_iff_ne, ne_eq, ite_not, Int.reduceEq, Option.getD_some, Option.getD_none, ite_self, Nat.reduceAdd, Nat.reduceSub, Nat.reduceMul, Nat.reduceLeDiff, Nat.reduceEqDiff, Nat.reduceBEq, Nat.reduceBNe, Int.reduceLT, Int.reduceLE, Int.reduceAdd, Int.reduceSub, Int.reduceMul, Int.reduceNeg, Int.reduceNe, Int.reduceBEq, Int.reduceBNe, Int.reduceToNat, un_not]
theorem pmust_no {H : Heap} {x : PV} : run (C k_entry_pen_must [x, .bool false]) H = some (.pan (flt 0 4) H) := by
  rw [entry_pen_must_eq]
  simp (contextual := true) (dsimp := false) (disch := omega) only [↓goDown, goUp, List.length_cons, List.length_nil, List.map_cons, List.map_nil, List.take_succ_cons, List.take_zero, List.drop_succ_cons, List.drop_zero, List.drop_nil, List.take_nil, List.cons_append, List.nil_append, List.append_nil, List.set_cons_zero, List.set_cons_succ, List.all_cons, List.all_nil, ↓reduceIte, reduceCtorEq, ge_iff_le, gt_iff_lt, eq_self_iff_true, beq_self_eq_true, beq_iff_eq, bne_iff_ne, ne_eq, ite_not, Int.reduceEq, Option.getD_some, Option.getD_none, ite_self, Nat.reduceAdd, Nat.reduceSub, Nat.reduceMul, Nat.reduceLeDiff, Nat.reduceEqDiff, Nat.reduceBEq, Nat.reduceBNe, Int.reduceLT, Int.reduceLE, Int.reduceAdd, Int.reduceSub, Int.reduceMul, Int.reduceNeg, Int.reduceNe, Int.reduceBEq, Int.reduceBNe, Int.reduceToNat, un_not]
  rfl
theorem fits_is {H : Heap} {n : Int} : run (C k_entry_fits [.int .i64 n]) H = some (.ok (.bool (decide (0 ≤ n ∧ n ≤ 2147483647))) H) := by
  rw [entry_fits_eq]
  by_cases h1 : 0 ≤ n
  · by_cases h2 : n ≤ 2147483647
    · have e : decide (0 ≤ n ∧ n ≤ 2147483647) = true := decide_eq_true ⟨h1, h2⟩
      rw [e]
      simp (contextual := true) (dsimp := false) (disch := omega) only [↓goDown, goUp, List.length_cons, List.length_nil, List.map_cons, List.map_nil, List.take_succ_cons, List.take_zero, List.drop_succ_cons, List.drop_zero, List.drop_nil, List.take_nil, List.cons_append, List.nil_append, List.append_nil, List.set_cons_zero, List.set_cons_succ, List.all_cons, List.all_nil, ↓reduceIte, reduceCtorEq, ge_iff_le, gt_iff_lt, eq_self_iff_true, beq_self_eq_true, beq_iff_eq, bne_iff_ne, ne_eq, ite_not, Int.reduceEq, Option.getD_some, Option.getD_none, ite_self, Nat.reduceAdd, Nat.reduceSub, Nat.reduceMul, Nat.reduceLeDiff, Nat.reduceEqDiff, Nat.reduceBEq, Nat.reduceBNe, Int.reduceLT, Int.reduceLE, Int.reduceAdd, Int.reduceSub, Int.reduceMul, Int.reduceNeg, Int.reduceNe, Int.reduceBEq, Int.reduceBNe, Int.reduceToNat, h1, h2]
    · have e : decide (0 ≤ n ∧ n ≤ 2147483647) = false := decide_eq_false (fun h => h2 h.2)
      rw [e]
      simp (contextual := true) (dsimp := false) (disch := omega) only [↓goDown, goUp, List.length_cons, List.length_nil, List.map_cons, List.map_nil, List.take_succ_cons, List.take_zero, List.drop_succ_cons, List.drop_zero, List.drop_nil, List.take_nil, List.cons_append, List.nil_append, List.append_nil, List.set_cons_zero, List.set_cons_succ, List.all_cons, List.all_nil, ↓reduceIte, reduceCtorEq, ge_iff_le, gt_iff_lt, eq_self_iff_true, beq_self_eq_true, beq_iff_eq, bne_iff_ne, ne_eq, ite_not, Int.reduceEq, Option.getD_some, Option.getD_none, ite_self, Nat.reduceAdd, Nat.reduceSub, Nat.reduceMul, Nat.reduceLeDiff, Nat.reduceEqDiff, Nat.reduceBEq, Nat.reduceBNe, Int.reduceLT, Int.reduceLE, Int.reduceAdd, Int.reduceSub, Int.reduceMul, Int.reduceNeg, Int.reduceNe, Int.reduceBEq, Int.reduceBNe, Int.reduceToNat, h1, h2]
  · have e : decide (0 ≤ n ∧ n ≤ 2147483647) = false := decide_eq_false (fun h => h1 h.1)
    rw [e]
    simp (contextual := true) (dsimp := false) (disch := omega) only [↓goDown, goUp, List.length_cons, List.length_nil, List.map_cons, List.map_nil, List.take_succ_cons, List.take_zero, List.drop_succ_cons, List.drop_zero, List.drop_nil, List.take_nil, List.cons_append, List.nil_append, List.append_nil, List.set_cons_zero, List.set_cons_succ, List.all_cons, List.all_nil, ↓reduceIte, reduceCtorEq, ge_iff_le, gt_iff_lt, eq_self_iff_true, beq_self_eq_true, beq_iff_eq, bne_iff_ne, ne_eq, ite_not, Int.reduceEq, Option.getD_some, Option.getD_none, ite_self, Nat.reduceAdd, Nat.reduceSub, Nat.reduceMul, Nat.reduceLeDiff, Nat.reduceEqDiff, Nat.reduceBEq, Nat.reduceBNe, Int.reduceLT, Int.reduceLE, Int.reduceAdd, Int.reduceSub, Int.reduceMul, Int.reduceNeg, Int.reduceNe, Int.reduceBEq, Int.reduceBNe, Int.reduceToNat, h1]
def find (h : Int) : List Int → Nat → Option Nat
  | [], _ => none
  | a :: r, i => if a = h then some i else find h r (i + 1)
def absI : List Int := [-11, -9, -8, -7, -6, -5, -3, -1, -10, -4, -2, -12]
theorem putS_len : ∀ (m : Nat) (n : Int), -(64 * 128 ^ m) ≤ n → n < 64 * 128 ^ m → (putS n).length ≤ m + 1
  | m, n, h, h' => by
    rw [putS]
    split
    · simp
    · cases m with
      | zero => simp at h h'; omega
      | succ m =>
        have e : (128 : Int) ^ (m + 1) = 128 ^ m * 128 := Int.pow_succ ..
        have := putS_len m (n / 128) (by omega) (by omega)
        simp only [List.length_cons]
        omega
theorem heap_step {H : Heap} {c : Nat} {h a : Int} {cs : List PV} {i : Nat} (hi : i < 12) (ha : nth cs i = some (.int .i64 a)) :
    run (p_entry_pen_heap_1010 (.ptr c 0) (.int .i64 h) (.agg cs) (.int .i64 i)) H =
      if a = h then run (M.bind (C k_entry_pen_byte [.ptr c 0, .int .u8 ((105 + i : Nat) : Int)]) fun _ => M.pure (.tup [])) H
      else run (p_entry_pen_heap_1010 (.ptr c 0) (.int .i64 h) (.agg cs) (.int .i64 ((i + 1 : Nat) : Int))) H := by
  have c1 : (i : Int) < 12 := by omega
  have hx : run (ixA 12 1 none (.agg cs) (.int .i64 i)) H = some (.ok (.int .i64 a) H) := by
    rw [run_ixA, if_pos ⟨by omega, by omega⟩, Int.toNat_natCast, ha]
    rfl
  have e1 : (105 : Int) + i = ((105 + i : Nat) : Int) := by omega
  have e2 : (i : Int) + 1 = ((i + 1 : Nat) : Int) := rfl
  rw [p_entry_pen_heap_1010_eq]
  by_cases hc : a = h
  · rw [if_pos hc]
    have c2 : (a = h) = True := eq_true hc
    simp (contextual := true) (dsimp := false) (disch := omega) only [↓goDown, goUp, List.length_cons, List.length_nil, List.map_cons, List.map_nil, List.take_succ_cons, List.take_zero, List.drop_succ_cons, List.drop_zero, List.drop_nil, List.take_nil, List.cons_append, List.nil_append, List.append_nil, List.set_cons_zero, List.set_cons_succ, List.all_cons, List.all_nil, ↓reduceIte, reduceCtorEq, ge_iff_le, gt_iff_lt, eq_self_iff_true, beq_self_eq_true, beq_iff_eq, bne_iff_ne, ne_eq, ite_not, Int.reduceEq, Option.getD_some, Option.getD_none, ite_self, Nat.reduceAdd, Nat.reduceSub, Nat.reduceMul, Nat.reduceLeDiff, Nat.reduceEqDiff, Nat.reduceBEq, Nat.reduceBNe, Int.reduceLT, Int.reduceLE, Int.reduceAdd, Int.reduceSub, Int.reduceMul, Int.reduceNeg, Int.reduceNe, Int.reduceBEq, Int.reduceBNe, Int.reduceToNat, c1, hx, c2, e1]
  · rw [if_neg hc]
    have c2 : (a = h) = False := eq_false hc
    simp (contextual := true) (dsimp := false) (disch := omega) only [↓goDown, goUp, List.length_cons, List.length_nil, List.map_cons, List.map_nil, List.take_succ_cons, List.take_zero, List.drop_succ_cons, List.drop_zero, List.drop_nil, List.take_nil, List.cons_append, List.nil_append, List.append_nil, List.set_cons_zero, List.set_cons_succ, List.all_cons, List.all_nil, ↓reduceIte, reduceCtorEq, ge_iff_le, gt_iff_lt, eq_self_iff_true, beq_self_eq_true, beq_iff_eq, bne_iff_ne, ne_eq, ite_not, Int.reduceEq, Option.getD_some, Option.getD_none, ite_self, Nat.reduceAdd, Nat.reduceSub, Nat.reduceMul, Nat.reduceLeDiff, Nat.reduceEqDiff, Nat.reduceBEq, Nat.reduceBNe, Int.reduceLT, Int.reduceLE, Int.reduceAdd, Int.reduceSub, Int.reduceMul, Int.reduceNeg, Int.reduceNe, Int.reduceBEq, Int.reduceBNe, Int.reduceToNat, c1, hx, c2, e2]
end Go.Proofs.Ythidcpkcfoldmaa.Pi.Q
namespace Go.Proofs.Ythidcpkcfoldmaa.Pi.Q
open Go Go.Proofs.Ythidcpkcfoldmaa.Pi
set_option linter.unusedVariables false
set_option linter.unusedSimpArgs false
set_option maxRecDepth 100000
attribute [local congr] ite_congr
theorem eql_V {H : Heap} {v : VT} {n : Int} : run (bi .eql (.struct [.int, .bool, .int]) (.agg [.int .i64 v.num, .bool v.nul, .int .i64 v.heap]) (.agg [.int .i64 n, .bool false, .int .i64 0])) H = some (.ok (.bool (decide (v = ⟨n, false, 0⟩))) H) := by
  obtain ⟨a, t, h⟩ := v
  have e : decide ((⟨a, t, h⟩ : VT) = ⟨n, false, 0⟩) = (a == n && (t == false && h == 0)) := by
    rw [Bool.eq_iff_iff]
    simp
  rw [e]
  unfold run bi
  cases hb1 : (a == n) <;> cases hb2 : (h == 0) <;> cases t <;> simp only [eqPV, eqCells, eqScalar, M.pure, hb1, hb2] <;> rfl
end Go.Proofs.Ythidcpkcfoldmaa.Pi.Q
namespace Go.Proofs.Ythidcpkcfoldmaa.Pi.Q
open Go Go.Proofs.Ythidcpkcfoldmaa.Pi
set_option linter.unusedVariables false
set_option linter.unusedSimpArgs false
set_option maxRecDepth 100000
attribute [local congr] ite_congr
abbrev KR := Res (List UInt8) Unit
def encU (_ : Unit) : PV := .tup []
theorem encU_is {u : Unit} : encU u = .tup [] := nrfl rfl
abbrev pB (acc : List UInt8) : Box := .cells [accB acc]
theorem isCell_B {a : List UInt8} : isCell (accB a) = true := isCell_acc
theorem cells_B {a : List UInt8} : (accB a).cells = [accB a] := cells_acc
theorem low_B {a : List UInt8} {k : Nat} : (accB a).low k = true := low_acc
theorem isTup_B {a : List UInt8} : isTup (accB a) = false := isTup_acc
def kPut (u acc : List UInt8) : KR := if acc.length + u.length ≤ 140737488355328 then .ok () (acc ++ u) else .no
def kMust (b : Bool) (acc : List UInt8) : KR := if b = true then .ok () acc else .err y_entry_fault [0, 4]
theorem ap_X {acc u : List UInt8} {K : Heap} : run (ap true 1 1 (accB acc) (accB u)) K = if acc.length + u.length ≤ 140737488355328 then some (.ok (accB (acc ++ u)) K) else none := by
  cases acc with
  | nil => cases u with
    | nil => rfl
    | cons x r =>
      unfold accB accP run ap tail growB
      simp only [bytes, List.map_cons, List.map_nil, List.nil_append, List.length_nil, Nat.zero_add, beq_self_eq_true, Bool.or_true, cond_true, List.isEmpty_cons, cond_false, List.length_cons, List.length_map, Nat.mul_one, Nat.max_self]
      by_cases h : r.length + 1 ≤ 140737488355328
      · rw [decide_eq_true h, if_pos h]; rfl
      · rw [decide_eq_false h, if_neg h]; rfl
  | cons y a =>
    have key : (bytes (y :: a)).length + (bytes u).length = (y :: a).length + u.length := by simp [bytes]
    cases u with
    | nil =>
      unfold accB accP run ap tail growB
      simp only [bytes, List.map_cons, List.map_nil, List.append_nil, List.length_nil, Nat.add_zero, beq_self_eq_true, Bool.or_true, Bool.true_or, cond_true, cond_false, List.length_cons, List.length_map, Nat.mul_one, Nat.max_self, Bool.true_and]
      by_cases h : a.length + 1 ≤ 140737488355328
      · rw [decide_eq_true h, if_pos h]; rfl
      · rw [decide_eq_false h, if_neg h]; rfl
    | cons x r =>
      unfold accB accP run ap tail growB
      simp only [bytes, List.map_cons, List.map_nil, List.length_cons, List.length_map, beq_self_eq_true, Bool.or_true, cond_true, cond_false, Nat.mul_one, Nat.max_self, Bool.true_and]
      by_cases h : a.length + 1 + (r.length + 1) ≤ 140737488355328
      · rw [decide_eq_true h, if_pos h]
        simp only [cond_true, List.cons_append, List.map_cons, List.map_append]
        rfl
      · rw [decide_eq_false h, if_neg h]; rfl
theorem ap_X1 {acc : List UInt8} {c : UInt8} {K : Heap} : run (ap true 1 1 (accB acc) (.slice true false 1 [byt c])) K = if acc.length + 1 ≤ 140737488355328 then some (.ok (accB (acc ++ [c])) K) else none := ap_X (u := [c])
variable {c : Nat} {H : Heap} {L : List Box} {acc : List UInt8}
theorem mustK {b : Bool} (hc : c < List.length H) : runK c (C k_entry_pen_must [.ptr c 0, .bool b]) (St H c (pB acc) L) = outK c H L pB encU (kMust b acc) := by
  cases b with
  | true => rw [toK, pmust_ok]; rfl
  | false =>
    rw [toK, pmust_no]
    show some (Out.pan _ (hset (St H c (pB acc) L) c .dead)) = some (Out.pan _ (St H c .dead L))
    rw [set_St hc]; rfl
theorem byteK {n : Int} (h0 : 0 ≤ n) (h1 : n < 256) (hc : c < List.length H) : runK c (C k_entry_pen_byte [.ptr c 0, .int .u8 n]) (St H c (pB acc) L) = outK c H L pB encU (kPut [UInt8.ofNat n.toNat] acc) := liftK (fun H hc => by
  obtain ⟨n, rfl⟩ := Int.eq_ofNat_of_zero_le h0
  have hbs := fun K => bsR_byt (n := n) (by omega) (K := K)
  rw [entry_pen_byte_eq, Int.toNat_natCast]
  unfold kPut
  simp (contextual := true) (dsimp := false) (disch := omega) only [↓kDown, kUp, ↓goDown, goUp, List.length_cons, List.length_nil, List.map_cons, List.map_nil, List.take_succ_cons, List.take_zero, List.drop_succ_cons, List.drop_zero, List.drop_nil, List.take_nil, List.cons_append, List.nil_append, List.append_nil, List.set_cons_zero, List.set_cons_succ, List.all_cons, List.all_nil, ↓reduceIte, reduceCtorEq, ge_iff_le, gt_iff_lt, eq_self_iff_true, beq_self_eq_true, beq_iff_eq, bne_iff_ne, ne_eq, ite_not, Int.reduceEq, Option.getD_some, Option.getD_none, ite_self, Nat.reduceAdd, Nat.reduceSub, Nat.reduceMul, Nat.reduceLeDiff, Nat.reduceEqDiff, Nat.reduceBEq, Nat.reduceBNe, Int.reduceLT, Int.reduceLE, Int.reduceAdd, Int.reduceSub, Int.reduceMul, Int.reduceNeg, Int.reduceNe, Int.reduceBEq, Int.reduceBNe, Int.reduceToNat, hbs, ap_X1, isCell_B, cells_B, low_B, encU_is]) hc
def kNamed : Option Nat → List UInt8 → KR
  | some j, acc => kPut [UInt8.ofNat (105 + j)] acc
  | none, _ => .err y_entry_fault [0, 4]
def kHeap (h : Int) (acc : List UInt8) : KR :=
  if 0 ≤ h then if h ≤ 2147483647 then kPut (putS h) acc else .err y_entry_fault [0, 4] else kNamed (find h absI 0) acc
theorem heapK_step {h a : Int} {cs : List PV} {i : Nat} (hi : i < 12) (ha : nth cs i = some (.int .i64 a)) (hc : c < List.length H) :
    runK c (p_entry_pen_heap_1010 (.ptr c 0) (.int .i64 h) (.agg cs) (.int .i64 i)) (St H c (pB acc) []) =
      if a = h then outK c H [] pB encU (kPut [UInt8.ofNat (105 + i)] acc)
      else runK c (p_entry_pen_heap_1010 (.ptr c 0) (.int .i64 h) (.agg cs) (.int .i64 ((i + 1 : Nat) : Int))) (St H c (pB acc) []) := by
  unfold runK
  rw [heap_step hi ha]
  by_cases hc2 : a = h
  · rw [if_pos hc2, if_pos hc2]
    have hb := byteK (c := c) (H := H) (L := []) (acc := acc) (n := ((105 + i : Nat) : Int)) (by omega) (by omega) hc
    rw [Int.toNat_natCast] at hb
    show runK c _ _ = _
    simp (contextual := true) (dsimp := false) (disch := omega) only [↓kDown, kUp, ↓goDown, goUp, List.length_cons, List.length_nil, List.map_cons, List.map_nil, List.take_succ_cons, List.take_zero, List.drop_succ_cons, List.drop_zero, List.drop_nil, List.take_nil, List.cons_append, List.nil_append, List.append_nil, List.set_cons_zero, List.set_cons_succ, List.all_cons, List.all_nil, ↓reduceIte, reduceCtorEq, ge_iff_le, gt_iff_lt, eq_self_iff_true, beq_self_eq_true, beq_iff_eq, bne_iff_ne, ne_eq, ite_not, Int.reduceEq, Option.getD_some, Option.getD_none, ite_self, Nat.reduceAdd, Nat.reduceSub, Nat.reduceMul, Nat.reduceLeDiff, Nat.reduceEqDiff, Nat.reduceBEq, Nat.reduceBNe, Int.reduceLT, Int.reduceLE, Int.reduceAdd, Int.reduceSub, Int.reduceMul, Int.reduceNeg, Int.reduceNe, Int.reduceBEq, Int.reduceBNe, Int.reduceToNat, hb, encU_is]
  · rw [if_neg hc2, if_neg hc2]
theorem heapK_loop {h : Int} {cs : List PV} (hc : c < List.length H) : ∀ (l : List Int) (i : Nat), (∀ k (a : Int), l[k]? = some a → nth cs (i + k) = some (.int .i64 a)) → i + l.length = 12 →
    runK c (p_entry_pen_heap_1010 (.ptr c 0) (.int .i64 h) (.agg cs) (.int .i64 i)) (St H c (pB acc) []) = outK c H [] pB encU (kNamed (find h l i) acc)
  | [], i, hcs, hi => by
    have c1 : ¬ (i : Int) < 12 := by simp at hi; omega
    rw [p_entry_pen_heap_1010_eq]
    simp only [find, kNamed]
    simp (contextual := true) (dsimp := false) (disch := omega) only [↓kDown, kUp, ↓goDown, goUp, List.length_cons, List.length_nil, List.map_cons, List.map_nil, List.take_succ_cons, List.take_zero, List.drop_succ_cons, List.drop_zero, List.drop_nil, List.take_nil, List.cons_append, List.nil_append, List.append_nil, List.set_cons_zero, List.set_cons_succ, List.all_cons, List.all_nil, ↓reduceIte, reduceCtorEq, ge_iff_le, gt_iff_lt, eq_self_iff_true, beq_self_eq_true, beq_iff_eq, bne_iff_ne, ne_eq, ite_not, Int.reduceEq, Option.getD_some, Option.getD_none, ite_self, Nat.reduceAdd, Nat.reduceSub, Nat.reduceMul, Nat.reduceLeDiff, Nat.reduceEqDiff, Nat.reduceBEq, Nat.reduceBNe, Int.reduceLT, Int.reduceLE, Int.reduceAdd, Int.reduceSub, Int.reduceMul, Int.reduceNeg, Int.reduceNe, Int.reduceBEq, Int.reduceBNe, Int.reduceToNat, c1, mustK, kMust]
  | a :: r, i, hcs, hi => by
    have hi12 : i < 12 := by simp at hi; omega
    rw [heapK_step hi12 (by simpa using hcs 0 a rfl) hc]
    unfold find
    by_cases hc2 : a = h
    · rw [if_pos hc2, if_pos hc2]; rfl
    · rw [if_neg hc2, if_neg hc2]
      exact heapK_loop hc r (i + 1) (fun k b hb => by
        have := hcs (k + 1) b (by simpa using hb)
        rwa [show i + (k + 1) = i + 1 + k by omega] at this) (by simp at hi; omega)
theorem heapK {h : Int} (hc : c < List.length H) : runK c (C k_entry_pen_heap [.ptr c 0, .int .i64 h]) (St H c (pB acc) L) = outK c H L pB encU (kHeap h acc) := liftK (fun H hc => by
  have hlp : runK c (p_entry_pen_heap_1010 (.ptr c 0) (.int .i64 h) (.agg [.int .i64 (-11), .int .i64 (-9), .int .i64 (-8), .int .i64 (-7), .int .i64 (-6), .int .i64 (-5), .int .i64 (-3), .int .i64 (-1), .int .i64 (-10), .int .i64 (-4), .int .i64 (-2), .int .i64 (-12)]) (.int .i64 0)) (St H c (pB acc) []) = _ := heapK_loop (acc := acc) (h := h) (cs := [.int .i64 (-11), .int .i64 (-9), .int .i64 (-8), .int .i64 (-7), .int .i64 (-6), .int .i64 (-5), .int .i64 (-3), .int .i64 (-1), .int .i64 (-10), .int .i64 (-4), .int .i64 (-2), .int .i64 (-12)]) hc absI 0 (fun k a hk => by
      have hk12 : k < 12 := by have := (List.getElem?_eq_some_iff.mp hk).1; simpa [absI] using this
      have : k = 0 ∨ k = 1 ∨ k = 2 ∨ k = 3 ∨ k = 4 ∨ k = 5 ∨ k = 6 ∨ k = 7 ∨ k = 8 ∨ k = 9 ∨ k = 10 ∨ k = 11 := by omega
      rcases this with rfl | rfl | rfl | rfl | rfl | rfl | rfl | rfl | rfl | rfl | rfl | rfl <;> (simp [absI] at hk; subst hk; rfl)) rfl
  rw [entry_pen_heap_eq]
  unfold kHeap
  by_cases h0 : 0 ≤ h
  · have hp := fun (h1 : h ≤ 2147483647) K => putS_is (H := K) (n := h) (by omega) (by omega)
    unfold kPut
    simp (contextual := true) (dsimp := false) (disch := omega) only [↓kDown, kUp, ↓goDown, goUp, List.length_cons, List.length_nil, List.map_cons, List.map_nil, List.take_succ_cons, List.take_zero, List.drop_succ_cons, List.drop_zero, List.drop_nil, List.take_nil, List.cons_append, List.nil_append, List.append_nil, List.set_cons_zero, List.set_cons_succ, List.all_cons, List.all_nil, ↓reduceIte, reduceCtorEq, ge_iff_le, gt_iff_lt, eq_self_iff_true, beq_self_eq_true, beq_iff_eq, bne_iff_ne, ne_eq, ite_not, Int.reduceEq, Option.getD_some, Option.getD_none, ite_self, Nat.reduceAdd, Nat.reduceSub, Nat.reduceMul, Nat.reduceLeDiff, Nat.reduceEqDiff, Nat.reduceBEq, Nat.reduceBNe, Int.reduceLT, Int.reduceLE, Int.reduceAdd, Int.reduceSub, Int.reduceMul, Int.reduceNeg, Int.reduceNe, Int.reduceBEq, Int.reduceBNe, Int.reduceToNat, h0, toK (m := C k_entry_fits [.int .i64 h]), fits_is, mustK, kMust, toK (m := C k_leb_PutS [.int .i64 h]), hp, ap_X, isCell_B, cells_B, low_B, encU_is]
  · simp (contextual := true) (dsimp := false) (disch := omega) only [↓kDown, kUp, ↓goDown, goUp, List.length_cons, List.length_nil, List.map_cons, List.map_nil, List.take_succ_cons, List.take_zero, List.drop_succ_cons, List.drop_zero, List.drop_nil, List.take_nil, List.cons_append, List.nil_append, List.append_nil, List.set_cons_zero, List.set_cons_succ, List.all_cons, List.all_nil, ↓reduceIte, reduceCtorEq, ge_iff_le, gt_iff_lt, eq_self_iff_true, beq_self_eq_true, beq_iff_eq, bne_iff_ne, ne_eq, ite_not, Int.reduceEq, Option.getD_some, Option.getD_none, ite_self, Nat.reduceAdd, Nat.reduceSub, Nat.reduceMul, Nat.reduceLeDiff, Nat.reduceEqDiff, Nat.reduceBEq, Nat.reduceBNe, Int.reduceLT, Int.reduceLE, Int.reduceAdd, Int.reduceSub, Int.reduceMul, Int.reduceNeg, Int.reduceNe, Int.reduceBEq, Int.reduceBNe, Int.reduceToNat, h0, toK (m := C k_entry_abstract []), abstract_is, hlp]) hc
def kVal (v : VT) (acc : List UInt8) : KR :=
  if v.num = 5 then (if v.nul = false then kPut [100] acc else if 0 ≤ v.heap then kPut [99] acc else .ok () acc).bind fun _ acc => kHeap v.heap acc
  else if 1 ≤ v.num ∧ v.num ≤ 4 ∧ v.nul = false ∧ v.heap = 0 then kPut [UInt8.ofNat (128 - v.num).toNat] acc else .err y_entry_fault [0, 4]
theorem valK {v : VT} (hc : c < List.length H) : runK c (C k_entry_pen_val [.ptr c 0, .agg [.int .i64 v.num, .bool v.nul, .int .i64 v.heap]]) (St H c (pB acc) L) = outK c H L pB encU (kVal v acc) := liftK (fun H hc => by
  have h1 := fun L acc => byteK (c := c) (H := H) (L := L) (acc := acc) (n := 100) (by omega) (by omega) hc
  have h0 := fun L acc => byteK (c := c) (H := H) (L := L) (acc := acc) (n := 99) (by omega) (by omega) hc
  have h2 := fun L acc h0 h1 => byteK (c := c) (H := H) (L := L) (acc := acc) (n := 128 - v.num) h0 h1 hc
  rw [entry_pen_val_eq]
  unfold kVal
  by_cases h5 : v.num = 5
  · cases v.nul <;> simp (contextual := true) (dsimp := false) (disch := omega) only [↓kDown, kUp, ↓goDown, goUp, List.length_cons, List.length_nil, List.map_cons, List.map_nil, List.take_succ_cons, List.take_zero, List.drop_succ_cons, List.drop_zero, List.drop_nil, List.take_nil, List.cons_append, List.nil_append, List.append_nil, List.set_cons_zero, List.set_cons_succ, List.all_cons, List.all_nil, ↓reduceIte, reduceCtorEq, ge_iff_le, gt_iff_lt, eq_self_iff_true, beq_self_eq_true, beq_iff_eq, bne_iff_ne, ne_eq, ite_not, Int.reduceEq, Option.getD_some, Option.getD_none, ite_self, Nat.reduceAdd, Nat.reduceSub, Nat.reduceMul, Nat.reduceLeDiff, Nat.reduceEqDiff, Nat.reduceBEq, Nat.reduceBNe, Int.reduceLT, Int.reduceLE, Int.reduceAdd, Int.reduceSub, Int.reduceMul, Int.reduceNeg, Int.reduceNe, Int.reduceBEq, Int.reduceBNe, Int.reduceToNat, h5, un_not, h1, h0, heapK, p_entry_pen_val_111_eq, encU_is] <;> rfl
  · by_cases a1 : 1 ≤ v.num
    · by_cases a2 : v.num ≤ 4
      · cases v.nul <;> simp (contextual := true) (dsimp := false) (disch := omega) only [↓kDown, kUp, ↓goDown, goUp, List.length_cons, List.length_nil, List.map_cons, List.map_nil, List.take_succ_cons, List.take_zero, List.drop_succ_cons, List.drop_zero, List.drop_nil, List.take_nil, List.cons_append, List.nil_append, List.append_nil, List.set_cons_zero, List.set_cons_succ, List.all_cons, List.all_nil, ↓reduceIte, reduceCtorEq, ge_iff_le, gt_iff_lt, eq_self_iff_true, beq_self_eq_true, beq_iff_eq, bne_iff_ne, ne_eq, ite_not, Int.reduceEq, Option.getD_some, Option.getD_none, ite_self, Nat.reduceAdd, Nat.reduceSub, Nat.reduceMul, Nat.reduceLeDiff, Nat.reduceEqDiff, Nat.reduceBEq, Nat.reduceBNe, Int.reduceLT, Int.reduceLE, Int.reduceAdd, Int.reduceSub, Int.reduceMul, Int.reduceNeg, Int.reduceNe, Int.reduceBEq, Int.reduceBNe, Int.reduceToNat, h5, eq_true a1, eq_true a2, un_not, mustK, kMust, h2, encU_is]
      · simp (contextual := true) (dsimp := false) (disch := omega) only [↓kDown, kUp, ↓goDown, goUp, List.length_cons, List.length_nil, List.map_cons, List.map_nil, List.take_succ_cons, List.take_zero, List.drop_succ_cons, List.drop_zero, List.drop_nil, List.take_nil, List.cons_append, List.nil_append, List.append_nil, List.set_cons_zero, List.set_cons_succ, List.all_cons, List.all_nil, ↓reduceIte, reduceCtorEq, ge_iff_le, gt_iff_lt, eq_self_iff_true, beq_self_eq_true, beq_iff_eq, bne_iff_ne, ne_eq, ite_not, Int.reduceEq, Option.getD_some, Option.getD_none, ite_self, Nat.reduceAdd, Nat.reduceSub, Nat.reduceMul, Nat.reduceLeDiff, Nat.reduceEqDiff, Nat.reduceBEq, Nat.reduceBNe, Int.reduceLT, Int.reduceLE, Int.reduceAdd, Int.reduceSub, Int.reduceMul, Int.reduceNeg, Int.reduceNe, Int.reduceBEq, Int.reduceBNe, Int.reduceToNat, h5, eq_true a1, a2, un_not, mustK, kMust, h2, encU_is]
    · simp (contextual := true) (dsimp := false) (disch := omega) only [↓kDown, kUp, ↓goDown, goUp, List.length_cons, List.length_nil, List.map_cons, List.map_nil, List.take_succ_cons, List.take_zero, List.drop_succ_cons, List.drop_zero, List.drop_nil, List.take_nil, List.cons_append, List.nil_append, List.append_nil, List.set_cons_zero, List.set_cons_succ, List.all_cons, List.all_nil, ↓reduceIte, reduceCtorEq, ge_iff_le, gt_iff_lt, eq_self_iff_true, beq_self_eq_true, beq_iff_eq, bne_iff_ne, ne_eq, ite_not, Int.reduceEq, Option.getD_some, Option.getD_none, ite_self, Nat.reduceAdd, Nat.reduceSub, Nat.reduceMul, Nat.reduceLeDiff, Nat.reduceEqDiff, Nat.reduceBEq, Nat.reduceBNe, Int.reduceLT, Int.reduceLE, Int.reduceAdd, Int.reduceSub, Int.reduceMul, Int.reduceNeg, Int.reduceNe, Int.reduceBEq, Int.reduceBNe, Int.reduceToNat, h5, a1, un_not, mustK, kMust, h2, encU_is]) hc
end Go.Proofs.Ythidcpkcfoldmaa.Pi.Q
namespace Go.Proofs.Ythidcpkcfoldmaa.Pi.Q
open Go Go.Proofs.Ythidcpkcfoldmaa.Pi
set_option linter.unusedVariables false
set_option linter.unusedSimpArgs false
set_option maxRecDepth 100000
attribute [local congr] ite_congr
variable {c : Nat} {H : Heap} {L : List Box} {acc : List UInt8}
theorem unkill {K H' : Heap} (hc : c < List.length K) (h : hset H' c .dead = St K c .dead []) : ∃ b, H' = St K c b [] := by
  have hl : List.length H' = List.length K := by
    have := congrArg List.length h
    rw [len_set, len_St] at this
    simpa using this
  have hc' : c < List.length H' := by omega
  refine ⟨H'[c], ?_⟩
  have h2 := congrArg (fun K => hset K c (H'[c])) h
  simp only [set_set, set_St hc] at h2
  rw [← h2]
  unfold hset
  exact (List.set_getElem_self hc').symm
theorem run_of_ok {m : M PV} {K K' : Heap} {v : PV} (h : runK c m K = some (.ok v K')) : run m K = some (.ok v K') := by
  unfold runK killR at h
  cases hr : run m K with
  | none => rw [hr] at h; cases h
  | some q => cases q with
    | ok a b => rw [hr] at h; exact h
    | pan a b => rw [hr] at h; simp at h
theorem run_of_pan {m : M PV} {K K' : Heap} {v : PV} (hc : c < List.length K') (h : runK c m K = some (.pan v (St K' c .dead []))) : ∃ b, run m K = some (.pan v (St K' c b [])) := by
  unfold runK killR at h
  cases hr : run m K with
  | none => rw [hr] at h; cases h
  | some q => cases q with
    | ok a b => rw [hr] at h; simp at h
    | pan a b =>
      rw [hr] at h
      simp only [Option.some.injEq, Out.pan.injEq] at h
      obtain ⟨h1, h2⟩ := h
      obtain ⟨b, rfl⟩ := unkill hc h2
      exact ⟨b, by rw [h1]⟩
theorem stripC_B {a : List UInt8} : stripC (accB a) = LZ true 1 (bytes a) := stripC_acc.trans shut_LZ
theorem fd1_is {x y : PV} : fd 1 none (.agg [x, y]) = M.pure (stripC y) := rfl
def outW (r : KR) (H : Heap) : Option (Out PV) :=
  match r with
  | .ok _ acc => some (.ok (.tup [LZ true 1 (bytes acc), .int .i64 0]) H)
  | .err t [_, w] => if t = y_entry_fault then some (.ok (.tup [.slice false true 0 [], .int .i64 w]) H) else none
  | _ => none
theorem write_is {f : PV} {r : KR} (hf : strip f = f) (hr : ∀ t l, r = .err t l → t = y_entry_fault ∧ ∃ p w, l = [p, w]) (hno : r ≠ .no)
    (h : ∀ (L : List Box) (c : Nat), List.length H ≤ c → c < List.length (hadd H L) → runK c (callV P C f [.ptr c 0]) (St (hadd H L) c (pB []) []) = outK c (hadd H L) [] pB encU r) :
    run (C k_entry_write [f]) H = outW r H := by
  have e0 : ∀ (b b2 b3 : Box), St (hadd H [b2, b3, .dead]) (List.length H + 2) b [] = hadd H [b2, b3, b] := fun b b2 b3 => by
    unfold St hadd hset
    rw [List.append_nil, List.set_append_right _ _ (by omega)]
    simp
  have hh := h [.cells [.slice false true 0 []], .cells [.int .i64 0], .dead] (List.length H + 2) (by omega) (by rw [len_add]; simp)
  rw [e0] at hh
  have hp : pB [] = .cells [.slice false true 0 []] := rfl
  rw [entry_write_eq]
  cases r with
  | ok u acc =>
    simp only [outK, elimK, e0] at hh
    have hh := run_of_ok hh
    rw [hp] at hh
    simp (contextual := true) (dsimp := false) (disch := omega) only [↓goDown, goUp, List.length_cons, List.length_nil, List.map_cons, List.map_nil, List.take_succ_cons, List.take_zero, List.drop_succ_cons, List.drop_zero, List.drop_nil, List.take_nil, List.cons_append, List.nil_append, List.append_nil, List.set_cons_zero, List.set_cons_succ, List.all_cons, List.all_nil, ↓reduceIte, reduceCtorEq, ge_iff_le, gt_iff_lt, eq_self_iff_true, beq_self_eq_true, beq_iff_eq, bne_iff_ne, ne_eq, ite_not, Int.reduceEq, Option.getD_some, Option.getD_none, ite_self, Nat.reduceAdd, Nat.reduceSub, Nat.reduceMul, Nat.reduceLeDiff, Nat.reduceEqDiff, Nat.reduceBEq, Nat.reduceBNe, Int.reduceLT, Int.reduceLE, Int.reduceAdd, Int.reduceSub, Int.reduceMul, Int.reduceNeg, Int.reduceNe, Int.reduceBEq, Int.reduceBNe, Int.reduceToNat, hf, hh, encU_is, isCell_B, cells_B, low_B, isTup_B, entry_write_1_deq, run_mf, run_ta, bi_if, bi_ifn, cutL, ne_len0, Nat.reduceBeqDiff, outW, stripC_B, isTup_Z, low_Z, stripC_Z, cells_Z, isCell_Z]
  | err t l =>
    obtain ⟨rfl, p, w, rfl⟩ := hr _ _ rfl
    simp only [outK, elimK] at hh
    obtain ⟨b, hh⟩ := run_of_pan (by rw [len_add]; simp) hh
    rw [e0, hp] at hh
    simp (contextual := true) (dsimp := false) (disch := omega) only [↓goDown, goUp, List.length_cons, List.length_nil, List.map_cons, List.map_nil, List.take_succ_cons, List.take_zero, List.drop_succ_cons, List.drop_zero, List.drop_nil, List.take_nil, List.cons_append, List.nil_append, List.append_nil, List.set_cons_zero, List.set_cons_succ, List.all_cons, List.all_nil, ↓reduceIte, reduceCtorEq, ge_iff_le, gt_iff_lt, eq_self_iff_true, beq_self_eq_true, beq_iff_eq, bne_iff_ne, ne_eq, ite_not, Int.reduceEq, Option.getD_some, Option.getD_none, ite_self, Nat.reduceAdd, Nat.reduceSub, Nat.reduceMul, Nat.reduceLeDiff, Nat.reduceEqDiff, Nat.reduceBEq, Nat.reduceBNe, Int.reduceLT, Int.reduceLE, Int.reduceAdd, Int.reduceSub, Int.reduceMul, Int.reduceNeg, Int.reduceNe, Int.reduceBEq, Int.reduceBNe, Int.reduceToNat, hf, hh, fltP_is, entry_write_1_req, run_mf, run_ta, bi_if, bi_ifn, cutL, ne_len0, Nat.reduceBeqDiff, outW, List.map_cons, List.map_nil, fd1_is]
  | no => exact absurd rfl hno
def OkR (r : KR) : Prop := (∀ t l, r = .err t l → t = y_entry_fault ∧ ∃ p w, l = [p, w]) ∧ r ≠ .no
theorem put_1 {f1 : FuncId} {bx1 : Box} {r : KR} (hr : OkR r) (h : ∀ (K : Heap) (j c : Nat), hget K j = some bx1 → j < c → c < List.length K → runK c (C f1 [.ptr c 0, .ptr j 0]) (St K c (pB []) []) = outK c K [] pB encU r) :
    run (C k_entry_write [.fn f1 [] [.ptr (List.length H) 0]]) (hadd H [bx1]) = outW r (hadd H [bx1]) :=
  write_is (H := hadd H [bx1]) (f := .fn f1 [] [.ptr (List.length H) 0]) rfl hr.1 hr.2 (fun L c h1 h2 => by
    rw [callV_fn]
    refine h _ _ _ ?_ ?_ h2
    · rw [add_add, get_loc0]; rfl
    · rw [len_add] at h1; simp at h1; omega)
end Go.Proofs.Ythidcpkcfoldmaa.Pi.Q
namespace Go.Proofs.Ythidcpkcfoldmaa.Pi.Q
open Go Go.Proofs.Ythidcpkcfoldmaa.Pi
set_option linter.unusedVariables false
set_option linter.unusedSimpArgs false
set_option maxRecDepth 100000
attribute [local congr] ite_congr
variable {c : Nat} {H : Heap} {L : List Box} {acc : List UInt8}
theorem wf_u64 {n : Int} (h : (Lit.int .u64 n).wf = true) : 0 ≤ n ∧ n < 18446744073709551616 := by
  simp [Lit.wf, IntKind.min, IntKind.max, IntKind.bits, IntKind.signed] at h
  omega
theorem wf_i64 {n : Int} (h : (Lit.int .i64 n).wf = true) : -9223372036854775808 ≤ n ∧ n ≤ 9223372036854775807 := by
  simp [Lit.wf, IntKind.min, IntKind.max, IntKind.bits, IntKind.signed] at h
  omega
theorem get_j {bx1 : Box} {j : Nat} (hj : hget H j = some bx1) (hjc : j < c) (hc : c < List.length H) {a : Box} {L : List Box} : hget (St H c a L) j = some bx1 := by
  unfold St
  rw [get_old1 (by omega), get_set_ne (by omega)]
  exact hj
theorem pHeapK {h : Int} {j : Nat} (hj : hget H j = some (.cells [.int .i64 h])) (hjc : j < c) (hc : c < List.length H) : runK c (C k_entry_PutHeapType_1 [.ptr c 0, .ptr j 0]) (St H c (pB acc) []) = outK c H [] pB encU (kHeap h acc) := by
  have hg := fun a L => get_j hj hjc hc (a := a) (L := L)
  rw [entry_PutHeapType_1_eq]
  simp (contextual := true) (dsimp := false) (disch := omega) only [↓kDown, kUp, ↓goDown, goUp, List.length_cons, List.length_nil, List.map_cons, List.map_nil, List.take_succ_cons, List.take_zero, List.drop_succ_cons, List.drop_zero, List.drop_nil, List.take_nil, List.cons_append, List.nil_append, List.append_nil, List.set_cons_zero, List.set_cons_succ, List.all_cons, List.all_nil, ↓reduceIte, reduceCtorEq, ge_iff_le, gt_iff_lt, eq_self_iff_true, beq_self_eq_true, beq_iff_eq, bne_iff_ne, ne_eq, ite_not, Int.reduceEq, Option.getD_some, Option.getD_none, ite_self, Nat.reduceAdd, Nat.reduceSub, Nat.reduceMul, Nat.reduceLeDiff, Nat.reduceEqDiff, Nat.reduceBEq, Nat.reduceBNe, Int.reduceLT, Int.reduceLE, Int.reduceAdd, Int.reduceSub, Int.reduceMul, Int.reduceNeg, Int.reduceNe, Int.reduceBEq, Int.reduceBNe, Int.reduceToNat, hg, heapK, encU_is]
theorem pValK {v : VT} {j : Nat} (hj : hget H j = some (.cells [.int .i64 v.num, .bool v.nul, .int .i64 v.heap])) (hjc : j < c) (hc : c < List.length H) : runK c (C k_entry_PutValType_1 [.ptr c 0, .ptr j 0]) (St H c (pB acc) []) = outK c H [] pB encU (kVal v acc) := by
  have hg := fun a L => get_j hj hjc hc (a := a) (L := L)
  rw [entry_PutValType_1_eq]
  simp (contextual := true) (dsimp := false) (disch := omega) only [↓kDown, kUp, ↓goDown, goUp, List.length_cons, List.length_nil, List.map_cons, List.map_nil, List.take_succ_cons, List.take_zero, List.drop_succ_cons, List.drop_zero, List.drop_nil, List.take_nil, List.cons_append, List.nil_append, List.append_nil, List.set_cons_zero, List.set_cons_succ, List.all_cons, List.all_nil, ↓reduceIte, reduceCtorEq, ge_iff_le, gt_iff_lt, eq_self_iff_true, beq_self_eq_true, beq_iff_eq, bne_iff_ne, ne_eq, ite_not, Int.reduceEq, Option.getD_some, Option.getD_none, ite_self, Nat.reduceAdd, Nat.reduceSub, Nat.reduceMul, Nat.reduceLeDiff, Nat.reduceEqDiff, Nat.reduceBEq, Nat.reduceBNe, Int.reduceLT, Int.reduceLE, Int.reduceAdd, Int.reduceSub, Int.reduceMul, Int.reduceNeg, Int.reduceNe, Int.reduceBEq, Int.reduceBNe, Int.reduceToNat, hg, valK, encU_is]
def kBlock (v : BK) (acc : List UInt8) : KR :=
  if 0 ≤ v.ty then if v.res = ⟨0, false, 0⟩ ∧ v.ty ≤ 2147483647 then .ok () (putS v.ty) else .err y_entry_fault [0, 4]
  else if v.ty < -1 then .err y_entry_fault [0, 4]
  else if v.res = ⟨0, false, 0⟩ then kPut [64] acc else kVal v.res acc
theorem pBlockK {v : BK} {j : Nat} (hj : hget H j = some (.cells [.int .i64 v.ty, .int .i64 v.res.num, .bool v.res.nul, .int .i64 v.res.heap])) (hjc : j < c) (hc : c < List.length H) : runK c (C k_entry_PutBlockType_1 [.ptr c 0, .ptr j 0]) (St H c (pB acc) []) = outK c H [] pB encU (kBlock v acc) := by
  have hg := fun a L => get_j hj hjc hc (a := a) (L := L)
  have he := fun K => eql_V (H := K) (v := v.res) (n := 0)
  have hb := fun L acc => byteK (c := c) (H := H) (L := L) (acc := acc) (n := 64) (by omega) (by omega) hc
  have hp := fun (h0 : 0 ≤ v.ty) (h1 : v.ty ≤ 2147483647) K => putS_is (H := K) (n := v.ty) (by omega) (by omega)
  rw [entry_PutBlockType_1_eq]
  unfold kBlock
  by_cases h1 : v.res = ⟨0, false, 0⟩
  · rw [decide_eq_true h1] at he
    simp (contextual := true) (dsimp := false) (disch := omega) only [↓kDown, kUp, ↓goDown, goUp, List.length_cons, List.length_nil, List.map_cons, List.map_nil, List.take_succ_cons, List.take_zero, List.drop_succ_cons, List.drop_zero, List.drop_nil, List.take_nil, List.cons_append, List.nil_append, List.append_nil, List.set_cons_zero, List.set_cons_succ, List.all_cons, List.all_nil, ↓reduceIte, reduceCtorEq, ge_iff_le, gt_iff_lt, eq_self_iff_true, beq_self_eq_true, beq_iff_eq, bne_iff_ne, ne_eq, ite_not, Int.reduceEq, Option.getD_some, Option.getD_none, ite_self, Nat.reduceAdd, Nat.reduceSub, Nat.reduceMul, Nat.reduceLeDiff, Nat.reduceEqDiff, Nat.reduceBEq, Nat.reduceBNe, Int.reduceLT, Int.reduceLE, Int.reduceAdd, Int.reduceSub, Int.reduceMul, Int.reduceNeg, Int.reduceNe, Int.reduceBEq, Int.reduceBNe, Int.reduceToNat, hg, he, eq_true h1, hb, toK (m := C k_entry_fits [.int .i64 v.ty]), fits_is, mustK, kMust, toK (m := C k_leb_PutS [.int .i64 v.ty]), hp, isCell_B, cells_B, low_B, encU_is] <;> rfl
  · rw [decide_eq_false h1] at he
    simp (contextual := true) (dsimp := false) (disch := omega) only [↓kDown, kUp, ↓goDown, goUp, List.length_cons, List.length_nil, List.map_cons, List.map_nil, List.take_succ_cons, List.take_zero, List.drop_succ_cons, List.drop_zero, List.drop_nil, List.take_nil, List.cons_append, List.nil_append, List.append_nil, List.set_cons_zero, List.set_cons_succ, List.all_cons, List.all_nil, ↓reduceIte, reduceCtorEq, ge_iff_le, gt_iff_lt, eq_self_iff_true, beq_self_eq_true, beq_iff_eq, bne_iff_ne, ne_eq, ite_not, Int.reduceEq, Option.getD_some, Option.getD_none, ite_self, Nat.reduceAdd, Nat.reduceSub, Nat.reduceMul, Nat.reduceLeDiff, Nat.reduceEqDiff, Nat.reduceBEq, Nat.reduceBNe, Int.reduceLT, Int.reduceLE, Int.reduceAdd, Int.reduceSub, Int.reduceMul, Int.reduceNeg, Int.reduceNe, Int.reduceBEq, Int.reduceBNe, Int.reduceToNat, hg, he, eq_false h1, hb, valK, mustK, kMust, encU_is] <;> rfl
theorem put_heap {h : Int} (hr : OkR (kHeap h [])) : run (C k_entry_PutHeapType [.int .i64 h]) H = outW (kHeap h []) H := by
  have hw := put_1 (H := H) (f1 := k_entry_PutHeapType_1) (bx1 := .cells [.int .i64 h]) hr (fun K j c hj h1 h2 => pHeapK hj h1 h2)
  rw [entry_PutHeapType_eq]
  cases hk : kHeap h [] with
  | ok u acc =>
    rw [hk] at hw
    simp only [outW] at hw ⊢
    simp (contextual := true) (dsimp := false) (disch := omega) only [↓goDown, goUp, List.length_cons, List.length_nil, List.map_cons, List.map_nil, List.take_succ_cons, List.take_zero, List.drop_succ_cons, List.drop_zero, List.drop_nil, List.take_nil, List.cons_append, List.nil_append, List.append_nil, List.set_cons_zero, List.set_cons_succ, List.all_cons, List.all_nil, ↓reduceIte, reduceCtorEq, ge_iff_le, gt_iff_lt, eq_self_iff_true, beq_self_eq_true, beq_iff_eq, bne_iff_ne, ne_eq, ite_not, Int.reduceEq, Option.getD_some, Option.getD_none, ite_self, Nat.reduceAdd, Nat.reduceSub, Nat.reduceMul, Nat.reduceLeDiff, Nat.reduceEqDiff, Nat.reduceBEq, Nat.reduceBNe, Int.reduceLT, Int.reduceLE, Int.reduceAdd, Int.reduceSub, Int.reduceMul, Int.reduceNeg, Int.reduceNe, Int.reduceBEq, Int.reduceBNe, Int.reduceToNat, run_mf, hw, cells_Z, isCell_Z, low_Z, stripC_Z, isTup_Z, strip_Z]
  | err t l =>
    obtain ⟨rfl, p, w, rfl⟩ := hr.1 _ _ hk
    rw [hk] at hw
    simp only [outW, if_true] at hw ⊢
    simp (contextual := true) (dsimp := false) (disch := omega) only [↓goDown, goUp, List.length_cons, List.length_nil, List.map_cons, List.map_nil, List.take_succ_cons, List.take_zero, List.drop_succ_cons, List.drop_zero, List.drop_nil, List.take_nil, List.cons_append, List.nil_append, List.append_nil, List.set_cons_zero, List.set_cons_succ, List.all_cons, List.all_nil, ↓reduceIte, reduceCtorEq, ge_iff_le, gt_iff_lt, eq_self_iff_true, beq_self_eq_true, beq_iff_eq, bne_iff_ne, ne_eq, ite_not, Int.reduceEq, Option.getD_some, Option.getD_none, ite_self, Nat.reduceAdd, Nat.reduceSub, Nat.reduceMul, Nat.reduceLeDiff, Nat.reduceEqDiff, Nat.reduceBEq, Nat.reduceBNe, Int.reduceLT, Int.reduceLE, Int.reduceAdd, Int.reduceSub, Int.reduceMul, Int.reduceNeg, Int.reduceNe, Int.reduceBEq, Int.reduceBNe, Int.reduceToNat, run_mf, hw, cells_Z, isCell_Z, low_Z, stripC_Z, isTup_Z, strip_Z]
  | no => exact absurd hk hr.2
theorem put_val {v : VT} (hr : OkR (kVal v [])) : run (C k_entry_PutValType [.agg [.int .i64 v.num, .bool v.nul, .int .i64 v.heap]]) H = outW (kVal v []) H := by
  have hw := put_1 (H := H) (f1 := k_entry_PutValType_1) (bx1 := .cells [.int .i64 v.num, .bool v.nul, .int .i64 v.heap]) hr (fun K j c hj h1 h2 => pValK hj h1 h2)
  rw [entry_PutValType_eq]
  cases hk : kVal v [] with
  | ok u acc =>
    rw [hk] at hw
    simp only [outW] at hw ⊢
    simp (contextual := true) (dsimp := false) (disch := omega) only [↓goDown, goUp, List.length_cons, List.length_nil, List.map_cons, List.map_nil, List.take_succ_cons, List.take_zero, List.drop_succ_cons, List.drop_zero, List.drop_nil, List.take_nil, List.cons_append, List.nil_append, List.append_nil, List.set_cons_zero, List.set_cons_succ, List.all_cons, List.all_nil, ↓reduceIte, reduceCtorEq, ge_iff_le, gt_iff_lt, eq_self_iff_true, beq_self_eq_true, beq_iff_eq, bne_iff_ne, ne_eq, ite_not, Int.reduceEq, Option.getD_some, Option.getD_none, ite_self, Nat.reduceAdd, Nat.reduceSub, Nat.reduceMul, Nat.reduceLeDiff, Nat.reduceEqDiff, Nat.reduceBEq, Nat.reduceBNe, Int.reduceLT, Int.reduceLE, Int.reduceAdd, Int.reduceSub, Int.reduceMul, Int.reduceNeg, Int.reduceNe, Int.reduceBEq, Int.reduceBNe, Int.reduceToNat, run_mf, hw, cells_Z, isCell_Z, low_Z, stripC_Z, isTup_Z, strip_Z]
  | err t l =>
    obtain ⟨rfl, p, w, rfl⟩ := hr.1 _ _ hk
    rw [hk] at hw
    simp only [outW, if_true] at hw ⊢
    simp (contextual := true) (dsimp := false) (disch := omega) only [↓goDown, goUp, List.length_cons, List.length_nil, List.map_cons, List.map_nil, List.take_succ_cons, List.take_zero, List.drop_succ_cons, List.drop_zero, List.drop_nil, List.take_nil, List.cons_append, List.nil_append, List.append_nil, List.set_cons_zero, List.set_cons_succ, List.all_cons, List.all_nil, ↓reduceIte, reduceCtorEq, ge_iff_le, gt_iff_lt, eq_self_iff_true, beq_self_eq_true, beq_iff_eq, bne_iff_ne, ne_eq, ite_not, Int.reduceEq, Option.getD_some, Option.getD_none, ite_self, Nat.reduceAdd, Nat.reduceSub, Nat.reduceMul, Nat.reduceLeDiff, Nat.reduceEqDiff, Nat.reduceBEq, Nat.reduceBNe, Int.reduceLT, Int.reduceLE, Int.reduceAdd, Int.reduceSub, Int.reduceMul, Int.reduceNeg, Int.reduceNe, Int.reduceBEq, Int.reduceBNe, Int.reduceToNat, run_mf, hw, cells_Z, isCell_Z, low_Z, stripC_Z, isTup_Z, strip_Z]
  | no => exact absurd hk hr.2
theorem put_block {v : BK} (hr : OkR (kBlock v [])) : run (C k_entry_PutBlockType [.agg [.int .i64 v.ty, .int .i64 v.res.num, .bool v.res.nul, .int .i64 v.res.heap]]) H = outW (kBlock v []) H := by
  have hw := put_1 (H := H) (f1 := k_entry_PutBlockType_1) (bx1 := .cells [.int .i64 v.ty, .int .i64 v.res.num, .bool v.res.nul, .int .i64 v.res.heap]) hr (fun K j c hj h1 h2 => pBlockK hj h1 h2)
  rw [entry_PutBlockType_eq]
  cases hk : kBlock v [] with
  | ok u acc =>
    rw [hk] at hw
    simp only [outW] at hw ⊢
    simp (contextual := true) (dsimp := false) (disch := omega) only [↓goDown, goUp, List.length_cons, List.length_nil, List.map_cons, List.map_nil, List.take_succ_cons, List.take_zero, List.drop_succ_cons, List.drop_zero, List.drop_nil, List.take_nil, List.cons_append, List.nil_append, List.append_nil, List.set_cons_zero, List.set_cons_succ, List.all_cons, List.all_nil, ↓reduceIte, reduceCtorEq, ge_iff_le, gt_iff_lt, eq_self_iff_true, beq_self_eq_true, beq_iff_eq, bne_iff_ne, ne_eq, ite_not, Int.reduceEq, Option.getD_some, Option.getD_none, ite_self, Nat.reduceAdd, Nat.reduceSub, Nat.reduceMul, Nat.reduceLeDiff, Nat.reduceEqDiff, Nat.reduceBEq, Nat.reduceBNe, Int.reduceLT, Int.reduceLE, Int.reduceAdd, Int.reduceSub, Int.reduceMul, Int.reduceNeg, Int.reduceNe, Int.reduceBEq, Int.reduceBNe, Int.reduceToNat, run_mf, hw, cells_Z, isCell_Z, low_Z, stripC_Z, isTup_Z, strip_Z]
  | err t l =>
    obtain ⟨rfl, p, w, rfl⟩ := hr.1 _ _ hk
    rw [hk] at hw
    simp only [outW, if_true] at hw ⊢
    simp (contextual := true) (dsimp := false) (disch := omega) only [↓goDown, goUp, List.length_cons, List.length_nil, List.map_cons, List.map_nil, List.take_succ_cons, List.take_zero, List.drop_succ_cons, List.drop_zero, List.drop_nil, List.take_nil, List.cons_append, List.nil_append, List.append_nil, List.set_cons_zero, List.set_cons_succ, List.all_cons, List.all_nil, ↓reduceIte, reduceCtorEq, ge_iff_le, gt_iff_lt, eq_self_iff_true, beq_self_eq_true, beq_iff_eq, bne_iff_ne, ne_eq, ite_not, Int.reduceEq, Option.getD_some, Option.getD_none, ite_self, Nat.reduceAdd, Nat.reduceSub, Nat.reduceMul, Nat.reduceLeDiff, Nat.reduceEqDiff, Nat.reduceBEq, Nat.reduceBNe, Int.reduceLT, Int.reduceLE, Int.reduceAdd, Int.reduceSub, Int.reduceMul, Int.reduceNeg, Int.reduceNe, Int.reduceBEq, Int.reduceBNe, Int.reduceToNat, run_mf, hw, cells_Z, isCell_Z, low_Z, stripC_Z, isTup_Z, strip_Z]
  | no => exact absurd hk hr.2
end Go.Proofs.Ythidcpkcfoldmaa.Pi.Q
namespace Go.Proofs.Ythidcpkcfoldmaa.Pi.Q
open Go Go.Proofs.Ythidcpkcfoldmaa.Pi
set_option linter.unusedVariables false
set_option linter.unusedSimpArgs false
set_option maxRecDepth 100000
attribute [local congr] ite_congr
structure WS where
  b : List UInt8
  e : Int
abbrev GR := Res WS Unit
abbrev wB (s : WS) : Box := .cells [accB s.b, .int .i64 s.e]
variable {c : Nat} {H : Heap} {L : List Box} {b : List UInt8} {f : Int}
def gPut (u : List UInt8) (s : WS) : GR := if s.b.length + u.length ≤ 140737488355328 then .ok () ⟨s.b ++ u, s.e⟩ else .no
def gMust (ok : Bool) (e : Int) (s : WS) : WS := ⟨s.b, if ok = false ∧ s.e = 0 then e else s.e⟩
theorem gmustK {ok : Bool} {e : Int} (hc : c < List.length H) : runK c (C k_ratchetref08_writing_must [.ptr c 0, .bool ok, .int .i64 e]) (St H c (.cells [accB b, .int .i64 f]) L) = outK c H L wB encU (.ok () (gMust ok e ⟨b, f⟩)) := liftK (fun H hc => by
  rw [ratchetref08_writing_must_eq]
  unfold gMust
  cases ok
  · by_cases h : f = 0
    · simp (contextual := true) (dsimp := false) (disch := omega) only [↓kDown, kUp, ↓goDown, goUp, List.length_cons, List.length_nil, List.map_cons, List.map_nil, List.take_succ_cons, List.take_zero, List.drop_succ_cons, List.drop_zero, List.drop_nil, List.take_nil, List.cons_append, List.nil_append, List.append_nil, List.set_cons_zero, List.set_cons_succ, List.all_cons, List.all_nil, ↓reduceIte, reduceCtorEq, ge_iff_le, gt_iff_lt, eq_self_iff_true, beq_self_eq_true, beq_iff_eq, bne_iff_ne, ne_eq, ite_not, Int.reduceEq, Option.getD_some, Option.getD_none, ite_self, Nat.reduceAdd, Nat.reduceSub, Nat.reduceMul, Nat.reduceLeDiff, Nat.reduceEqDiff, Nat.reduceBEq, Nat.reduceBNe, Int.reduceLT, Int.reduceLE, Int.reduceAdd, Int.reduceSub, Int.reduceMul, Int.reduceNeg, Int.reduceNe, Int.reduceBEq, Int.reduceBNe, Int.reduceToNat, un_not, h, isCell_B, cells_B, low_B, encU_is]
    · simp (contextual := true) (dsimp := false) (disch := omega) only [↓kDown, kUp, ↓goDown, goUp, List.length_cons, List.length_nil, List.map_cons, List.map_nil, List.take_succ_cons, List.take_zero, List.drop_succ_cons, List.drop_zero, List.drop_nil, List.take_nil, List.cons_append, List.nil_append, List.append_nil, List.set_cons_zero, List.set_cons_succ, List.all_cons, List.all_nil, ↓reduceIte, reduceCtorEq, ge_iff_le, gt_iff_lt, eq_self_iff_true, beq_self_eq_true, beq_iff_eq, bne_iff_ne, ne_eq, ite_not, Int.reduceEq, Option.getD_some, Option.getD_none, ite_self, Nat.reduceAdd, Nat.reduceSub, Nat.reduceMul, Nat.reduceLeDiff, Nat.reduceEqDiff, Nat.reduceBEq, Nat.reduceBNe, Int.reduceLT, Int.reduceLE, Int.reduceAdd, Int.reduceSub, Int.reduceMul, Int.reduceNeg, Int.reduceNe, Int.reduceBEq, Int.reduceBNe, Int.reduceToNat, un_not, h, isCell_B, cells_B, low_B, encU_is]
  · simp (contextual := true) (dsimp := false) (disch := omega) only [↓kDown, kUp, ↓goDown, goUp, List.length_cons, List.length_nil, List.map_cons, List.map_nil, List.take_succ_cons, List.take_zero, List.drop_succ_cons, List.drop_zero, List.drop_nil, List.take_nil, List.cons_append, List.nil_append, List.append_nil, List.set_cons_zero, List.set_cons_succ, List.all_cons, List.all_nil, ↓reduceIte, reduceCtorEq, ge_iff_le, gt_iff_lt, eq_self_iff_true, beq_self_eq_true, beq_iff_eq, bne_iff_ne, ne_eq, ite_not, Int.reduceEq, Option.getD_some, Option.getD_none, ite_self, Nat.reduceAdd, Nat.reduceSub, Nat.reduceMul, Nat.reduceLeDiff, Nat.reduceEqDiff, Nat.reduceBEq, Nat.reduceBNe, Int.reduceLT, Int.reduceLE, Int.reduceAdd, Int.reduceSub, Int.reduceMul, Int.reduceNeg, Int.reduceNe, Int.reduceBEq, Int.reduceBNe, Int.reduceToNat, un_not, isCell_B, cells_B, low_B, encU_is]) hc
def codeN (h : Int) : Nat := match find h absI 0 with | some j => 105 + j | none => 0
theorem code_loop {h : Int} {v2 : PV} (hh : h < 0) : ∀ (l : List Int) (i : Nat), (∀ k (a : Int), l[k]? = some a → hname (105 + i + k) = a) → i + l.length = 12 → ∀ K : Heap,
    run (p_ratchetref08_code_1010 (.int .i64 h) v2 (.int .i64 ((105 + i : Nat) : Int))) K = some (.ok (.int .u8 ((match find h l i with | some j => 105 + j | none => 0 : Nat) : Int)) K)
  | [], i, hl, hi, K => by
    have c1 : ¬ ((105 + i : Nat) : Int) ≤ 116 := by simp at hi; omega
    rw [p_ratchetref08_code_1010_eq]
    simp only [find]
    simp (contextual := true) (dsimp := false) (disch := omega) only [↓goDown, goUp, List.length_cons, List.length_nil, List.map_cons, List.map_nil, List.take_succ_cons, List.take_zero, List.drop_succ_cons, List.drop_zero, List.drop_nil, List.take_nil, List.cons_append, List.nil_append, List.append_nil, List.set_cons_zero, List.set_cons_succ, List.all_cons, List.all_nil, ↓reduceIte, reduceCtorEq, ge_iff_le, gt_iff_lt, eq_self_iff_true, beq_self_eq_true, beq_iff_eq, bne_iff_ne, ne_eq, ite_not, Int.reduceEq, Option.getD_some, Option.getD_none, ite_self, Nat.reduceAdd, Nat.reduceSub, Nat.reduceMul, Nat.reduceLeDiff, Nat.reduceEqDiff, Nat.reduceBEq, Nat.reduceBNe, Int.reduceLT, Int.reduceLE, Int.reduceAdd, Int.reduceSub, Int.reduceMul, Int.reduceNeg, Int.reduceNe, Int.reduceBEq, Int.reduceBNe, Int.reduceToNat, c1]
    rfl
  | a :: r, i, hl, hi, K => by
    have hi12 : i < 12 := by simp at hi; omega
    have c1 : ((105 + i : Nat) : Int) ≤ 116 := by omega
    have ha : hname (105 + i) = a := by simpa using hl 0 a rfl
    have hab := fun K => rabs_is (H := K) (c := 105 + i)
    rw [ha] at hab
    have e1 : ((105 + i : Nat) : Int) + 1 = ((105 + (i + 1) : Nat) : Int) := by omega
    have ih := code_loop (h := h) (v2 := v2) hh r (i + 1) (fun k b hb => by
      have := hl (k + 1) b (by simpa using hb)
      rwa [show 105 + i + (k + 1) = 105 + (i + 1) + k by omega] at this) (by simp at hi; omega)
    rw [p_ratchetref08_code_1010_eq]
    unfold find
    by_cases hc : a = h
    · rw [if_pos hc]
      have c2 : (a = h) = True := eq_true hc
      simp (contextual := true) (dsimp := false) (disch := omega) only [↓goDown, goUp, List.length_cons, List.length_nil, List.map_cons, List.map_nil, List.take_succ_cons, List.take_zero, List.drop_succ_cons, List.drop_zero, List.drop_nil, List.take_nil, List.cons_append, List.nil_append, List.append_nil, List.set_cons_zero, List.set_cons_succ, List.all_cons, List.all_nil, ↓reduceIte, reduceCtorEq, ge_iff_le, gt_iff_lt, eq_self_iff_true, beq_self_eq_true, beq_iff_eq, bne_iff_ne, ne_eq, ite_not, Int.reduceEq, Option.getD_some, Option.getD_none, ite_self, Nat.reduceAdd, Nat.reduceSub, Nat.reduceMul, Nat.reduceLeDiff, Nat.reduceEqDiff, Nat.reduceBEq, Nat.reduceBNe, Int.reduceLT, Int.reduceLE, Int.reduceAdd, Int.reduceSub, Int.reduceMul, Int.reduceNeg, Int.reduceNe, Int.reduceBEq, Int.reduceBNe, Int.reduceToNat, c1, hab, c2]
    · rw [if_neg hc]
      have c2 : (a = h) = False := eq_false hc
      simp (contextual := true) (dsimp := false) (disch := omega) only [↓goDown, goUp, List.length_cons, List.length_nil, List.map_cons, List.map_nil, List.take_succ_cons, List.take_zero, List.drop_succ_cons, List.drop_zero, List.drop_nil, List.take_nil, List.cons_append, List.nil_append, List.append_nil, List.set_cons_zero, List.set_cons_succ, List.all_cons, List.all_nil, ↓reduceIte, reduceCtorEq, ge_iff_le, gt_iff_lt, eq_self_iff_true, beq_self_eq_true, beq_iff_eq, bne_iff_ne, ne_eq, ite_not, Int.reduceEq, Option.getD_some, Option.getD_none, ite_self, Nat.reduceAdd, Nat.reduceSub, Nat.reduceMul, Nat.reduceLeDiff, Nat.reduceEqDiff, Nat.reduceBEq, Nat.reduceBNe, Int.reduceLT, Int.reduceLE, Int.reduceAdd, Int.reduceSub, Int.reduceMul, Int.reduceNeg, Int.reduceNe, Int.reduceBEq, Int.reduceBNe, Int.reduceToNat, c1, hab, c2, e1, ih]
theorem code_is {h : Int} (hh : h < 0) {K : Heap} : run (C k_ratchetref08_code [.int .i64 h]) K = some (.ok (.int .u8 (codeN h : Int)) K) := by
  have hlp := code_loop (h := h) (v2 := .int .u8 0) hh [-11, -9, -8, -7, -6, -5, -3, -1, -10, -4, -2, -12] 0 (fun k a hk => by
    have hk12 : k < 12 := by simpa using (List.getElem?_eq_some_iff.mp hk).1
    have : k = 0 ∨ k = 1 ∨ k = 2 ∨ k = 3 ∨ k = 4 ∨ k = 5 ∨ k = 6 ∨ k = 7 ∨ k = 8 ∨ k = 9 ∨ k = 10 ∨ k = 11 := by omega
    rcases this with rfl | rfl | rfl | rfl | rfl | rfl | rfl | rfl | rfl | rfl | rfl | rfl <;> (simp at hk; subst hk; decide)) rfl K
  have hlp : run (p_ratchetref08_code_1010 (.int .i64 h) (.int .u8 0) (.int .i64 105)) K = some (.ok (.int .u8 (codeN h : Int)) K) := hlp
  rw [ratchetref08_code_eq]
  simp (contextual := true) (dsimp := false) (disch := omega) only [↓goDown, goUp, List.length_cons, List.length_nil, List.map_cons, List.map_nil, List.take_succ_cons, List.take_zero, List.drop_succ_cons, List.drop_zero, List.drop_nil, List.take_nil, List.cons_append, List.nil_append, List.append_nil, List.set_cons_zero, List.set_cons_succ, List.all_cons, List.all_nil, ↓reduceIte, reduceCtorEq, ge_iff_le, gt_iff_lt, eq_self_iff_true, beq_self_eq_true, beq_iff_eq, bne_iff_ne, ne_eq, ite_not, Int.reduceEq, Option.getD_some, Option.getD_none, ite_self, Nat.reduceAdd, Nat.reduceSub, Nat.reduceMul, Nat.reduceLeDiff, Nat.reduceEqDiff, Nat.reduceBEq, Nat.reduceBNe, Int.reduceLT, Int.reduceLE, Int.reduceAdd, Int.reduceSub, Int.reduceMul, Int.reduceNeg, Int.reduceNe, Int.reduceBEq, Int.reduceBNe, Int.reduceToNat, hlp]
theorem find_lt {h : Int} : ∀ (l : List Int) (i j : Nat), find h l i = some j → j < i + l.length
  | [], i, j, e => by cases e
  | a :: r, i, j, e => by
    unfold find at e
    split at e
    · cases e; simp
    · have := find_lt r (i + 1) j e
      simp
      omega
theorem codeN_lt {h : Int} : codeN h < 256 := by
  unfold codeN
  cases hf : find h absI 0 with
  | none => simp
  | some j =>
    have := find_lt _ _ _ hf
    simp [absI] at this ⊢
    omega
def gHeap (h : Int) (s : WS) : GR :=
  if h < 0 then gPut [UInt8.ofNat (codeN h)] (gMust (decide (-12 ≤ h)) 4 s) else gPut (putS h) (gMust (decide (h < 2147483648)) 4 s)
theorem gheapK {h : Int} (h1 : h ≤ 9223372036854775807) (hc : c < List.length H) : runK c (C k_ratchetref08_writing_heap [.ptr c 0, .int .i64 h]) (St H c (.cells [accB b, .int .i64 f]) L) = outK c H L wB encU (gHeap h ⟨b, f⟩) := liftK (fun H hc => by
  have hcd := fun (hh : h < 0) K => code_is (K := K) hh
  have hbs := fun K => bsR_byt (n := codeN h) codeN_lt (K := K)
  have hp := fun (hh : ¬ h < 0) K => rputS_is (H := K) (n := h) (by omega) h1
  rw [ratchetref08_writing_heap_eq]
  unfold gHeap gPut
  by_cases hh : h < 0
  · simp (contextual := true) (dsimp := false) (disch := omega) only [↓kDown, kUp, ↓goDown, goUp, List.length_cons, List.length_nil, List.map_cons, List.map_nil, List.take_succ_cons, List.take_zero, List.drop_succ_cons, List.drop_zero, List.drop_nil, List.take_nil, List.cons_append, List.nil_append, List.append_nil, List.set_cons_zero, List.set_cons_succ, List.all_cons, List.all_nil, ↓reduceIte, reduceCtorEq, ge_iff_le, gt_iff_lt, eq_self_iff_true, beq_self_eq_true, beq_iff_eq, bne_iff_ne, ne_eq, ite_not, Int.reduceEq, Option.getD_some, Option.getD_none, ite_self, Nat.reduceAdd, Nat.reduceSub, Nat.reduceMul, Nat.reduceLeDiff, Nat.reduceEqDiff, Nat.reduceBEq, Nat.reduceBNe, Int.reduceLT, Int.reduceLE, Int.reduceAdd, Int.reduceSub, Int.reduceMul, Int.reduceNeg, Int.reduceNe, Int.reduceBEq, Int.reduceBNe, Int.reduceToNat, eq_true hh, hcd hh, hbs, gmustK, ap_X1, isCell_B, cells_B, low_B, encU_is]
  · simp (contextual := true) (dsimp := false) (disch := omega) only [↓kDown, kUp, ↓goDown, goUp, List.length_cons, List.length_nil, List.map_cons, List.map_nil, List.take_succ_cons, List.take_zero, List.drop_succ_cons, List.drop_zero, List.drop_nil, List.take_nil, List.cons_append, List.nil_append, List.append_nil, List.set_cons_zero, List.set_cons_succ, List.all_cons, List.all_nil, ↓reduceIte, reduceCtorEq, ge_iff_le, gt_iff_lt, eq_self_iff_true, beq_self_eq_true, beq_iff_eq, bne_iff_ne, ne_eq, ite_not, Int.reduceEq, Option.getD_some, Option.getD_none, ite_self, Nat.reduceAdd, Nat.reduceSub, Nat.reduceMul, Nat.reduceLeDiff, Nat.reduceEqDiff, Nat.reduceBEq, Nat.reduceBNe, Int.reduceLT, Int.reduceLE, Int.reduceAdd, Int.reduceSub, Int.reduceMul, Int.reduceNeg, Int.reduceNe, Int.reduceBEq, Int.reduceBNe, Int.reduceToNat, hh, hp hh, gmustK, ap_X, isCell_B, cells_B, low_B, encU_is]) hc
end Go.Proofs.Ythidcpkcfoldmaa.Pi.Q
namespace Go.Proofs.Ythidcpkcfoldmaa.Pi.Q
open Go Go.Proofs.Ythidcpkcfoldmaa.Pi
set_option linter.unusedVariables false
set_option linter.unusedSimpArgs false
set_option maxRecDepth 100000
attribute [local congr] ite_congr
variable {c : Nat} {H : Heap} {L : List Box} {b : List UInt8} {f : Int}
theorem u8_range (x : Int) : 0 ≤ IntKind.u8.wrap x ∧ IntKind.u8.wrap x < 256 := by
  rw [u8_wrap]
  omega
theorem bsR_wrap {x : Int} {K : Heap} : bsR true none [.int .u8 (IntKind.u8.wrap x)] K = some (.ok (.slice true false 1 [byt (UInt8.ofNat (IntKind.u8.wrap x).toNat)]) K) := by
  obtain ⟨h0, h1⟩ := u8_range x
  obtain ⟨n, hn⟩ := Int.eq_ofNat_of_zero_le h0
  rw [hn]
  exact bsR_byt (by omega)
def gByte (n : Int) : UInt8 := if n = 7 then 119 else if n = 6 then 120 else UInt8.ofNat (IntKind.u8.wrap (IntKind.i64.wrap (128 - n))).toNat
def gValOk (field : Bool) (v : VT) : Bool := decide (((1 ≤ v.num ∧ v.num ≤ 4) ∨ (field = true ∧ (v.num = 6 ∨ v.num = 7))) ∧ v.nul = false ∧ v.heap = 0)
def gVal (field : Bool) (v : VT) (s : WS) : GR :=
  if v.num = 5 then if v.nul = true then if v.heap < 0 then gHeap v.heap s else (gPut [99] s).bind fun _ s => gHeap v.heap s else (gPut [100] s).bind fun _ s => gHeap v.heap s
  else gPut [gByte v.num] (gMust (gValOk field v) 4 s)
theorem gvalK {field : Bool} {v : VT} (h1 : v.heap ≤ 9223372036854775807) (hc : c < List.length H) : runK c (C k_ratchetref08_writing_val [.ptr c 0, .agg [.int .i64 v.num, .bool v.nul, .int .i64 v.heap], .bool field]) (St H c (.cells [accB b, .int .i64 f]) L) = outK c H L wB encU (gVal field v ⟨b, f⟩) := liftK (fun H hc => by
  obtain ⟨num, nul, heap⟩ := v
  simp only at h1 ⊢
  have hh := fun L b f => gheapK (c := c) (H := H) (L := L) (b := b) (f := f) (h := heap) h1 hc
  have hb := fun K => bsR_wrap (x := IntKind.i64.wrap (128 - num)) (K := K)
  have b99 : ∀ K, bsR true none [.int .u8 99] K = some (.ok (.slice true false 1 [byt 99]) K) := fun K => bsR_byt (n := 99) (by omega)
  have b100 : ∀ K, bsR true none [.int .u8 100] K = some (.ok (.slice true false 1 [byt 100]) K) := fun K => bsR_byt (n := 100) (by omega)
  have b119 : ∀ K, bsR true none [.int .u8 119] K = some (.ok (.slice true false 1 [byt 119]) K) := fun K => bsR_byt (n := 119) (by omega)
  have b120 : ∀ K, bsR true none [.int .u8 120] K = some (.ok (.slice true false 1 [byt 120]) K) := fun K => bsR_byt (n := 120) (by omega)
  rw [ratchetref08_writing_val_eq]
  unfold gVal
  simp only
  by_cases h5 : num = 5
  · subst h5
    rw [if_pos rfl]
    unfold gPut
    cases nul
    · simp (contextual := true) (dsimp := false) (disch := omega) only [↓kDown, kUp, ↓goDown, goUp, List.length_cons, List.length_nil, List.map_cons, List.map_nil, List.take_succ_cons, List.take_zero, List.drop_succ_cons, List.drop_zero, List.drop_nil, List.take_nil, List.cons_append, List.nil_append, List.append_nil, List.set_cons_zero, List.set_cons_succ, List.all_cons, List.all_nil, ↓reduceIte, reduceCtorEq, ge_iff_le, gt_iff_lt, eq_self_iff_true, beq_self_eq_true, beq_iff_eq, bne_iff_ne, ne_eq, ite_not, Int.reduceEq, Option.getD_some, Option.getD_none, ite_self, Nat.reduceAdd, Nat.reduceSub, Nat.reduceMul, Nat.reduceLeDiff, Nat.reduceEqDiff, Nat.reduceBEq, Nat.reduceBNe, Int.reduceLT, Int.reduceLE, Int.reduceAdd, Int.reduceSub, Int.reduceMul, Int.reduceNeg, Int.reduceNe, Int.reduceBEq, Int.reduceBNe, Int.reduceToNat, hh, b100, ap_X1, p_ratchetref08_writing_val_1111_eq, isCell_B, cells_B, low_B, encU_is]
    · by_cases h0 : heap < 0
      · simp (contextual := true) (dsimp := false) (disch := omega) only [↓kDown, kUp, ↓goDown, goUp, List.length_cons, List.length_nil, List.map_cons, List.map_nil, List.take_succ_cons, List.take_zero, List.drop_succ_cons, List.drop_zero, List.drop_nil, List.take_nil, List.cons_append, List.nil_append, List.append_nil, List.set_cons_zero, List.set_cons_succ, List.all_cons, List.all_nil, ↓reduceIte, reduceCtorEq, ge_iff_le, gt_iff_lt, eq_self_iff_true, beq_self_eq_true, beq_iff_eq, bne_iff_ne, ne_eq, ite_not, Int.reduceEq, Option.getD_some, Option.getD_none, ite_self, Nat.reduceAdd, Nat.reduceSub, Nat.reduceMul, Nat.reduceLeDiff, Nat.reduceEqDiff, Nat.reduceBEq, Nat.reduceBNe, Int.reduceLT, Int.reduceLE, Int.reduceAdd, Int.reduceSub, Int.reduceMul, Int.reduceNeg, Int.reduceNe, Int.reduceBEq, Int.reduceBNe, Int.reduceToNat, eq_true h0, hh, b99, ap_X1, p_ratchetref08_writing_val_1111_eq, isCell_B, cells_B, low_B, encU_is]
      · simp (contextual := true) (dsimp := false) (disch := omega) only [↓kDown, kUp, ↓goDown, goUp, List.length_cons, List.length_nil, List.map_cons, List.map_nil, List.take_succ_cons, List.take_zero, List.drop_succ_cons, List.drop_zero, List.drop_nil, List.take_nil, List.cons_append, List.nil_append, List.append_nil, List.set_cons_zero, List.set_cons_succ, List.all_cons, List.all_nil, ↓reduceIte, reduceCtorEq, ge_iff_le, gt_iff_lt, eq_self_iff_true, beq_self_eq_true, beq_iff_eq, bne_iff_ne, ne_eq, ite_not, Int.reduceEq, Option.getD_some, Option.getD_none, ite_self, Nat.reduceAdd, Nat.reduceSub, Nat.reduceMul, Nat.reduceLeDiff, Nat.reduceEqDiff, Nat.reduceBEq, Nat.reduceBNe, Int.reduceLT, Int.reduceLE, Int.reduceAdd, Int.reduceSub, Int.reduceMul, Int.reduceNeg, Int.reduceNe, Int.reduceBEq, Int.reduceBNe, Int.reduceToNat, h0, hh, b99, ap_X1, p_ratchetref08_writing_val_1111_eq, isCell_B, cells_B, low_B, encU_is]
  · rw [if_neg h5]
    have hyes : (1 ≤ num ∧ num ≤ 4) ∨ (field = true ∧ (num = 6 ∨ num = 7)) → nul = false → gValOk field ⟨num, nul, heap⟩ = (heap == 0) := fun h hn => by
      unfold gValOk
      rw [Bool.eq_iff_iff]
      simp [h, hn]
    have hno : ¬ (((1 ≤ num ∧ num ≤ 4) ∨ (field = true ∧ (num = 6 ∨ num = 7))) ∧ nul = false) → gValOk field ⟨num, nul, heap⟩ = false := fun h => by
      unfold gValOk
      exact decide_eq_false (fun k => h ⟨k.1, k.2.1⟩)
    unfold gPut gByte
    by_cases h6 : num = 6
    · subst h6
      cases nul
      · cases field
        · rw [hno (by simp)]
          simp (contextual := true) (dsimp := false) (disch := omega) only [↓kDown, kUp, ↓goDown, goUp, List.length_cons, List.length_nil, List.map_cons, List.map_nil, List.take_succ_cons, List.take_zero, List.drop_succ_cons, List.drop_zero, List.drop_nil, List.take_nil, List.cons_append, List.nil_append, List.append_nil, List.set_cons_zero, List.set_cons_succ, List.all_cons, List.all_nil, ↓reduceIte, reduceCtorEq, ge_iff_le, gt_iff_lt, eq_self_iff_true, beq_self_eq_true, beq_iff_eq, bne_iff_ne, ne_eq, ite_not, Int.reduceEq, Option.getD_some, Option.getD_none, ite_self, Nat.reduceAdd, Nat.reduceSub, Nat.reduceMul, Nat.reduceLeDiff, Nat.reduceEqDiff, Nat.reduceBEq, Nat.reduceBNe, Int.reduceLT, Int.reduceLE, Int.reduceAdd, Int.reduceSub, Int.reduceMul, Int.reduceNeg, Int.reduceNe, Int.reduceBEq, Int.reduceBNe, Int.reduceToNat, un_not, gmustK, b120, ap_X1, p_ratchetref08_writing_val_10101111_eq, p_ratchetref08_writing_val_101011111_eq, isCell_B, cells_B, low_B, encU_is]
        · rw [hyes (by simp) rfl]
          simp (contextual := true) (dsimp := false) (disch := omega) only [↓kDown, kUp, ↓goDown, goUp, List.length_cons, List.length_nil, List.map_cons, List.map_nil, List.take_succ_cons, List.take_zero, List.drop_succ_cons, List.drop_zero, List.drop_nil, List.take_nil, List.cons_append, List.nil_append, List.append_nil, List.set_cons_zero, List.set_cons_succ, List.all_cons, List.all_nil, ↓reduceIte, reduceCtorEq, ge_iff_le, gt_iff_lt, eq_self_iff_true, beq_self_eq_true, beq_iff_eq, bne_iff_ne, ne_eq, ite_not, Int.reduceEq, Option.getD_some, Option.getD_none, ite_self, Nat.reduceAdd, Nat.reduceSub, Nat.reduceMul, Nat.reduceLeDiff, Nat.reduceEqDiff, Nat.reduceBEq, Nat.reduceBNe, Int.reduceLT, Int.reduceLE, Int.reduceAdd, Int.reduceSub, Int.reduceMul, Int.reduceNeg, Int.reduceNe, Int.reduceBEq, Int.reduceBNe, Int.reduceToNat, un_not, gmustK, b120, ap_X1, p_ratchetref08_writing_val_10101111_eq, p_ratchetref08_writing_val_101011111_eq, isCell_B, cells_B, low_B, encU_is]
      · rw [hno (by simp)]
        cases field <;> simp (contextual := true) (dsimp := false) (disch := omega) only [↓kDown, kUp, ↓goDown, goUp, List.length_cons, List.length_nil, List.map_cons, List.map_nil, List.take_succ_cons, List.take_zero, List.drop_succ_cons, List.drop_zero, List.drop_nil, List.take_nil, List.cons_append, List.nil_append, List.append_nil, List.set_cons_zero, List.set_cons_succ, List.all_cons, List.all_nil, ↓reduceIte, reduceCtorEq, ge_iff_le, gt_iff_lt, eq_self_iff_true, beq_self_eq_true, beq_iff_eq, bne_iff_ne, ne_eq, ite_not, Int.reduceEq, Option.getD_some, Option.getD_none, ite_self, Nat.reduceAdd, Nat.reduceSub, Nat.reduceMul, Nat.reduceLeDiff, Nat.reduceEqDiff, Nat.reduceBEq, Nat.reduceBNe, Int.reduceLT, Int.reduceLE, Int.reduceAdd, Int.reduceSub, Int.reduceMul, Int.reduceNeg, Int.reduceNe, Int.reduceBEq, Int.reduceBNe, Int.reduceToNat, un_not, gmustK, b120, ap_X1, p_ratchetref08_writing_val_10101111_eq, p_ratchetref08_writing_val_101011111_eq, isCell_B, cells_B, low_B, encU_is]
    · by_cases h7 : num = 7
      · subst h7
        cases nul
        · cases field
          · rw [hno (by simp)]
            simp (contextual := true) (dsimp := false) (disch := omega) only [↓kDown, kUp, ↓goDown, goUp, List.length_cons, List.length_nil, List.map_cons, List.map_nil, List.take_succ_cons, List.take_zero, List.drop_succ_cons, List.drop_zero, List.drop_nil, List.take_nil, List.cons_append, List.nil_append, List.append_nil, List.set_cons_zero, List.set_cons_succ, List.all_cons, List.all_nil, ↓reduceIte, reduceCtorEq, ge_iff_le, gt_iff_lt, eq_self_iff_true, beq_self_eq_true, beq_iff_eq, bne_iff_ne, ne_eq, ite_not, Int.reduceEq, Option.getD_some, Option.getD_none, ite_self, Nat.reduceAdd, Nat.reduceSub, Nat.reduceMul, Nat.reduceLeDiff, Nat.reduceEqDiff, Nat.reduceBEq, Nat.reduceBNe, Int.reduceLT, Int.reduceLE, Int.reduceAdd, Int.reduceSub, Int.reduceMul, Int.reduceNeg, Int.reduceNe, Int.reduceBEq, Int.reduceBNe, Int.reduceToNat, un_not, gmustK, b119, ap_X1, p_ratchetref08_writing_val_10101111_eq, p_ratchetref08_writing_val_101011111_eq, isCell_B, cells_B, low_B, encU_is]
          · rw [hyes (by simp) rfl]
            simp (contextual := true) (dsimp := false) (disch := omega) only [↓kDown, kUp, ↓goDown, goUp, List.length_cons, List.length_nil, List.map_cons, List.map_nil, List.take_succ_cons, List.take_zero, List.drop_succ_cons, List.drop_zero, List.drop_nil, List.take_nil, List.cons_append, List.nil_append, List.append_nil, List.set_cons_zero, List.set_cons_succ, List.all_cons, List.all_nil, ↓reduceIte, reduceCtorEq, ge_iff_le, gt_iff_lt, eq_self_iff_true, beq_self_eq_true, beq_iff_eq, bne_iff_ne, ne_eq, ite_not, Int.reduceEq, Option.getD_some, Option.getD_none, ite_self, Nat.reduceAdd, Nat.reduceSub, Nat.reduceMul, Nat.reduceLeDiff, Nat.reduceEqDiff, Nat.reduceBEq, Nat.reduceBNe, Int.reduceLT, Int.reduceLE, Int.reduceAdd, Int.reduceSub, Int.reduceMul, Int.reduceNeg, Int.reduceNe, Int.reduceBEq, Int.reduceBNe, Int.reduceToNat, un_not, gmustK, b119, ap_X1, p_ratchetref08_writing_val_10101111_eq, p_ratchetref08_writing_val_101011111_eq, isCell_B, cells_B, low_B, encU_is]
        · rw [hno (by simp)]
          cases field <;> simp (contextual := true) (dsimp := false) (disch := omega) only [↓kDown, kUp, ↓goDown, goUp, List.length_cons, List.length_nil, List.map_cons, List.map_nil, List.take_succ_cons, List.take_zero, List.drop_succ_cons, List.drop_zero, List.drop_nil, List.take_nil, List.cons_append, List.nil_append, List.append_nil, List.set_cons_zero, List.set_cons_succ, List.all_cons, List.all_nil, ↓reduceIte, reduceCtorEq, ge_iff_le, gt_iff_lt, eq_self_iff_true, beq_self_eq_true, beq_iff_eq, bne_iff_ne, ne_eq, ite_not, Int.reduceEq, Option.getD_some, Option.getD_none, ite_self, Nat.reduceAdd, Nat.reduceSub, Nat.reduceMul, Nat.reduceLeDiff, Nat.reduceEqDiff, Nat.reduceBEq, Nat.reduceBNe, Int.reduceLT, Int.reduceLE, Int.reduceAdd, Int.reduceSub, Int.reduceMul, Int.reduceNeg, Int.reduceNe, Int.reduceBEq, Int.reduceBNe, Int.reduceToNat, un_not, gmustK, b119, ap_X1, p_ratchetref08_writing_val_10101111_eq, p_ratchetref08_writing_val_101011111_eq, isCell_B, cells_B, low_B, encU_is]
      · have c6 : (num == 6) = false := beq_false_of_ne h6
        have c7 : (num == 7) = false := beq_false_of_ne h7
        by_cases a1 : 1 ≤ num
        · by_cases a2 : num ≤ 4
          · have hb2 : ∀ K, bsR true none [.int .u8 (128 - num)] K = some (.ok (.slice true false 1 [byt (UInt8.ofNat (128 - num).toNat)]) K) := fun K => by
              obtain ⟨n, hn⟩ := Int.eq_ofNat_of_zero_le (show 0 ≤ 128 - num by omega)
              rw [hn]
              exact bsR_byt (by omega)
            cases nul
            · rw [hyes (.inl ⟨a1, a2⟩) rfl]
              cases field <;> simp (contextual := true) (dsimp := false) (disch := omega) only [↓kDown, kUp, ↓goDown, goUp, List.length_cons, List.length_nil, List.map_cons, List.map_nil, List.take_succ_cons, List.take_zero, List.drop_succ_cons, List.drop_zero, List.drop_nil, List.take_nil, List.cons_append, List.nil_append, List.append_nil, List.set_cons_zero, List.set_cons_succ, List.all_cons, List.all_nil, ↓reduceIte, reduceCtorEq, ge_iff_le, gt_iff_lt, eq_self_iff_true, beq_self_eq_true, beq_iff_eq, bne_iff_ne, ne_eq, ite_not, Int.reduceEq, Option.getD_some, Option.getD_none, ite_self, Nat.reduceAdd, Nat.reduceSub, Nat.reduceMul, Nat.reduceLeDiff, Nat.reduceEqDiff, Nat.reduceBEq, Nat.reduceBNe, Int.reduceLT, Int.reduceLE, Int.reduceAdd, Int.reduceSub, Int.reduceMul, Int.reduceNeg, Int.reduceNe, Int.reduceBEq, Int.reduceBNe, Int.reduceToNat, h5, h6, h7, c6, c7, eq_true a1, eq_true a2, un_not, gmustK, hb2, ap_X1, p_ratchetref08_writing_val_10101111_eq, p_ratchetref08_writing_val_101011111_eq, isCell_B, cells_B, low_B, encU_is]
            · rw [hno (by simp)]
              cases field <;> simp (contextual := true) (dsimp := false) (disch := omega) only [↓kDown, kUp, ↓goDown, goUp, List.length_cons, List.length_nil, List.map_cons, List.map_nil, List.take_succ_cons, List.take_zero, List.drop_succ_cons, List.drop_zero, List.drop_nil, List.take_nil, List.cons_append, List.nil_append, List.append_nil, List.set_cons_zero, List.set_cons_succ, List.all_cons, List.all_nil, ↓reduceIte, reduceCtorEq, ge_iff_le, gt_iff_lt, eq_self_iff_true, beq_self_eq_true, beq_iff_eq, bne_iff_ne, ne_eq, ite_not, Int.reduceEq, Option.getD_some, Option.getD_none, ite_self, Nat.reduceAdd, Nat.reduceSub, Nat.reduceMul, Nat.reduceLeDiff, Nat.reduceEqDiff, Nat.reduceBEq, Nat.reduceBNe, Int.reduceLT, Int.reduceLE, Int.reduceAdd, Int.reduceSub, Int.reduceMul, Int.reduceNeg, Int.reduceNe, Int.reduceBEq, Int.reduceBNe, Int.reduceToNat, h5, h6, h7, c6, c7, eq_true a1, eq_true a2, un_not, gmustK, hb2, ap_X1, p_ratchetref08_writing_val_10101111_eq, p_ratchetref08_writing_val_101011111_eq, isCell_B, cells_B, low_B, encU_is]
          · rw [hno (by simp [h6, h7, a2])]
            cases field <;> simp (contextual := true) (dsimp := false) (disch := omega) only [↓kDown, kUp, ↓goDown, goUp, List.length_cons, List.length_nil, List.map_cons, List.map_nil, List.take_succ_cons, List.take_zero, List.drop_succ_cons, List.drop_zero, List.drop_nil, List.take_nil, List.cons_append, List.nil_append, List.append_nil, List.set_cons_zero, List.set_cons_succ, List.all_cons, List.all_nil, ↓reduceIte, reduceCtorEq, ge_iff_le, gt_iff_lt, eq_self_iff_true, beq_self_eq_true, beq_iff_eq, bne_iff_ne, ne_eq, ite_not, Int.reduceEq, Option.getD_some, Option.getD_none, ite_self, Nat.reduceAdd, Nat.reduceSub, Nat.reduceMul, Nat.reduceLeDiff, Nat.reduceEqDiff, Nat.reduceBEq, Nat.reduceBNe, Int.reduceLT, Int.reduceLE, Int.reduceAdd, Int.reduceSub, Int.reduceMul, Int.reduceNeg, Int.reduceNe, Int.reduceBEq, Int.reduceBNe, Int.reduceToNat, h5, h6, h7, c6, c7, eq_true a1, a2, un_not, gmustK, hb, ap_X1, p_ratchetref08_writing_val_10101111_eq, p_ratchetref08_writing_val_101011111_eq, isCell_B, cells_B, low_B, encU_is]
        · rw [hno (by simp [h6, h7, a1])]
          cases field <;> simp (contextual := true) (dsimp := false) (disch := omega) only [↓kDown, kUp, ↓goDown, goUp, List.length_cons, List.length_nil, List.map_cons, List.map_nil, List.take_succ_cons, List.take_zero, List.drop_succ_cons, List.drop_zero, List.drop_nil, List.take_nil, List.cons_append, List.nil_append, List.append_nil, List.set_cons_zero, List.set_cons_succ, List.all_cons, List.all_nil, ↓reduceIte, reduceCtorEq, ge_iff_le, gt_iff_lt, eq_self_iff_true, beq_self_eq_true, beq_iff_eq, bne_iff_ne, ne_eq, ite_not, Int.reduceEq, Option.getD_some, Option.getD_none, ite_self, Nat.reduceAdd, Nat.reduceSub, Nat.reduceMul, Nat.reduceLeDiff, Nat.reduceEqDiff, Nat.reduceBEq, Nat.reduceBNe, Int.reduceLT, Int.reduceLE, Int.reduceAdd, Int.reduceSub, Int.reduceMul, Int.reduceNeg, Int.reduceNe, Int.reduceBEq, Int.reduceBNe, Int.reduceToNat, h5, h6, h7, c6, c7, a1, un_not, gmustK, hb, ap_X1, p_ratchetref08_writing_val_10101111_eq, p_ratchetref08_writing_val_101011111_eq, isCell_B, cells_B, low_B, encU_is]) hc
end Go.Proofs.Ythidcpkcfoldmaa.Pi.Q
namespace Go.Proofs.Ythidcpkcfoldmaa.Pi.Q
open Go Go.Proofs.Ythidcpkcfoldmaa.Pi
set_option linter.unusedVariables false
set_option linter.unusedSimpArgs false
set_option maxRecDepth 100000
attribute [local congr] ite_congr
variable {c : Nat} {H : Heap} {L : List Box} {b : List UInt8} {f : Int}
theorem bs64 {K : Heap} : bsR true none [.int .u8 64] K = some (.ok (.slice true false 1 [byt 64]) K) := bsR_byt (n := 64) (by omega)
def CT.wide (v : CT) : Prop := (∀ a ∈ v.ps, a.heap ≤ 9223372036854775807) ∧ (∀ a ∈ v.rs, a.heap ≤ 9223372036854775807) ∧ ∀ a ∈ v.fs, a.ty.heap ≤ 9223372036854775807
def ST.wide (v : ST) : Prop := (∀ a ∈ v.sup, a ≤ 9223372036854775807) ∧ v.comp.wide
end Go.Proofs.Ythidcpkcfoldmaa.Pi.Q
namespace Go.Proofs.Ythidcpkcfoldmaa.Pi.Q
open Go Go.Proofs.Ythidcpkcfoldmaa.Pi
set_option linter.unusedVariables false
set_option linter.unusedSimpArgs false
set_option maxRecDepth 100000
attribute [local congr] ite_congr
variable {c : Nat} {H : Heap} {L : List Box} {b : List UInt8} {f : Int}
def doneB (b : List UInt8) (f : Int) : Box := if f = 0 then .cells [LZ true 1 (bytes b), .int .i64 f] else .cells [accB b, .int .i64 f]
def doneV (b : List UInt8) (f : Int) : PV := if f = 0 then .tup [accB b, .int .i64 0] else .tup [.slice false true 0 [], .int .i64 f]
theorem done_at (hc : c < List.length H) : run (C k_ratchetref08_writing_done [.ptr c 0]) (St H c (.cells [accB b, .int .i64 f]) L) = some (.ok (doneV b f) (St H c (doneB b f) L)) := by
  rw [ratchetref08_writing_done_eq, St_flat (L := L) hc, St_flat (L := L) hc]
  have hc' : c < List.length (hadd H L) := by rw [len_add]; omega
  generalize hadd H L = K at hc'
  unfold doneV doneB
  by_cases h : f = 0
  · subst h
    simp (contextual := true) (dsimp := false) (disch := omega) only [↓kDown, kUp, ↓goDown, goUp, List.length_cons, List.length_nil, List.map_cons, List.map_nil, List.take_succ_cons, List.take_zero, List.drop_succ_cons, List.drop_zero, List.drop_nil, List.take_nil, List.cons_append, List.nil_append, List.append_nil, List.set_cons_zero, List.set_cons_succ, List.all_cons, List.all_nil, ↓reduceIte, reduceCtorEq, ge_iff_le, gt_iff_lt, eq_self_iff_true, beq_self_eq_true, beq_iff_eq, bne_iff_ne, ne_eq, ite_not, Int.reduceEq, Option.getD_some, Option.getD_none, ite_self, Nat.reduceAdd, Nat.reduceSub, Nat.reduceMul, Nat.reduceLeDiff, Nat.reduceEqDiff, Nat.reduceBEq, Nat.reduceBNe, Int.reduceLT, Int.reduceLE, Int.reduceAdd, Int.reduceSub, Int.reduceMul, Int.reduceNeg, Int.reduceNe, Int.reduceBEq, Int.reduceBNe, Int.reduceToNat, isCell_B, cells_B, low_B, isTup_B, stripC_B]
  · simp (contextual := true) (dsimp := false) (disch := omega) only [↓kDown, kUp, ↓goDown, goUp, List.length_cons, List.length_nil, List.map_cons, List.map_nil, List.take_succ_cons, List.take_zero, List.drop_succ_cons, List.drop_zero, List.drop_nil, List.take_nil, List.cons_append, List.nil_append, List.append_nil, List.set_cons_zero, List.set_cons_succ, List.all_cons, List.all_nil, ↓reduceIte, reduceCtorEq, ge_iff_le, gt_iff_lt, eq_self_iff_true, beq_self_eq_true, beq_iff_eq, bne_iff_ne, ne_eq, ite_not, Int.reduceEq, Option.getD_some, Option.getD_none, ite_self, Nat.reduceAdd, Nat.reduceSub, Nat.reduceMul, Nat.reduceLeDiff, Nat.reduceEqDiff, Nat.reduceBEq, Nat.reduceBNe, Int.reduceLT, Int.reduceLE, Int.reduceAdd, Int.reduceSub, Int.reduceMul, Int.reduceNeg, Int.reduceNe, Int.reduceBEq, Int.reduceBNe, Int.reduceToNat, h, isCell_B, cells_B, low_B, isTup_B, stripC_B]
theorem St_1 {x : Box} : hadd H [x] = St (hadd H [.dead]) (List.length H) x [] := by
  unfold St hadd hset
  rw [List.append_nil, List.set_append_right _ _ (by omega)]
  simp
theorem St_2 {x y : Box} : hadd H [x, y] = St (hadd H [x, .dead]) (List.length H + 1) y [] := by
  unfold St hadd hset
  rw [List.append_nil, List.set_append_right _ _ (by omega)]
  simp
theorem use_1 {m : M PV} {x : Box} {r : GR} {s : WS} (h : runK (List.length H) m (St (hadd H [.dead]) (List.length H) x []) = outK (List.length H) (hadd H [.dead]) [] wB encU r) (hr : r = .ok () s) : run m (hadd H [x]) = some (.ok (.tup []) (hadd H [wB s])) := by
  subst hr
  rw [← St_1, outK_ok, ← St_1] at h
  exact run_of_ok h
theorem use_2 {m : M PV} {x y : Box} {r : GR} {s : WS} (h : runK (List.length H + 1) m (St (hadd H [x, .dead]) (List.length H + 1) y []) = outK (List.length H + 1) (hadd H [x, .dead]) [] wB encU r) (hr : r = .ok () s) : run m (hadd H [x, y]) = some (.ok (.tup []) (hadd H [x, wB s])) := by
  subst hr
  rw [← St_2, outK_ok, ← St_2] at h
  exact run_of_ok h
theorem done_1 : run (C k_ratchetref08_writing_done [.ptr (List.length H) 0]) (hadd H [.cells [accB b, .int .i64 f]]) = some (.ok (doneV b f) (hadd H [doneB b f])) := by
  have := done_at (H := hadd H [.dead]) (c := List.length H) (L := []) (b := b) (f := f) (by rw [len_add]; simp)
  rwa [← St_1, ← St_1] at this
theorem done_2 {x : Box} : run (C k_ratchetref08_writing_done [.ptr (List.length H + 1) 0]) (hadd H [x, .cells [accB b, .int .i64 f]]) = some (.ok (doneV b f) (hadd H [x, doneB b f])) := by
  have := done_at (H := hadd H [x, .dead]) (c := List.length H + 1) (L := []) (b := b) (f := f) (by rw [len_add]; simp)
  rwa [← St_2, ← St_2] at this
theorem doneV_cases (p : PV → Prop) (h1 : p (.tup [accB b, .int .i64 0])) (h2 : p (.tup [.slice false true 0 [], .int .i64 f])) : p (doneV b f) := by
  unfold doneV
  split
  · exact h1
  · exact h2
theorem new1 {x : Box} : List.length H < List.length (hadd H [x]) := by rw [len_add]; simp
theorem new2 {x y : Box} : List.length H + 1 < List.length (hadd H [x, y]) := by rw [len_add]; simp
theorem gput_heap {h : Int} {s : WS} (h1 : h ≤ 9223372036854775807) (hr : gHeap h ⟨[], 0⟩ = .ok () s) : run (C k_ratchetref08_PutHeapType [.int .i64 h]) H = some (.ok (doneV s.b s.e) H) := by
  have hk := use_1 (H := H) (gheapK (L := []) (b := []) (f := 0) h1 new1) hr
  have hp : (.cells [accB [], .int .i64 0] : Box) = .cells [.slice false true 0 [], .int .i64 0] := rfl
  rw [hp] at hk
  have hd := done_1 (H := H) (b := s.b) (f := s.e)
  rw [ratchetref08_PutHeapType_eq]
  revert hd
  refine doneV_cases (fun t => run (C k_ratchetref08_writing_done [.ptr (List.length H) 0]) (hadd H [.cells [accB s.b, .int .i64 s.e]]) = some (.ok t (hadd H [doneB s.b s.e])) → _ = some (Out.ok t H)) ?_ ?_ <;> intro hd <;>
    simp (contextual := true) (dsimp := false) (disch := omega) only [↓goDown, goUp, List.length_cons, List.length_nil, List.map_cons, List.map_nil, List.take_succ_cons, List.take_zero, List.drop_succ_cons, List.drop_zero, List.drop_nil, List.take_nil, List.cons_append, List.nil_append, List.append_nil, List.set_cons_zero, List.set_cons_succ, List.all_cons, List.all_nil, ↓reduceIte, reduceCtorEq, ge_iff_le, gt_iff_lt, eq_self_iff_true, beq_self_eq_true, beq_iff_eq, bne_iff_ne, ne_eq, ite_not, Int.reduceEq, Option.getD_some, Option.getD_none, ite_self, Nat.reduceAdd, Nat.reduceSub, Nat.reduceMul, Nat.reduceLeDiff, Nat.reduceEqDiff, Nat.reduceBEq, Nat.reduceBNe, Int.reduceLT, Int.reduceLE, Int.reduceAdd, Int.reduceSub, Int.reduceMul, Int.reduceNeg, Int.reduceNe, Int.reduceBEq, Int.reduceBNe, Int.reduceToNat, hk, hd, isTup_B, low_B]
theorem gput_val {v : VT} {s : WS} (h1 : v.heap ≤ 9223372036854775807) (hr : gVal false v ⟨[], 0⟩ = .ok () s) : run (C k_ratchetref08_PutValType [.agg [.int .i64 v.num, .bool v.nul, .int .i64 v.heap]]) H = some (.ok (doneV s.b s.e) H) := by
  have hk := use_2 (H := H) (x := .cells [.int .i64 v.num, .bool v.nul, .int .i64 v.heap]) (gvalK (L := []) (b := []) (f := 0) h1 new2) hr
  have hp : (.cells [accB [], .int .i64 0] : Box) = .cells [.slice false true 0 [], .int .i64 0] := rfl
  rw [hp] at hk
  have hd := done_2 (H := H) (x := .cells [.int .i64 v.num, .bool v.nul, .int .i64 v.heap]) (b := s.b) (f := s.e)
  rw [ratchetref08_PutValType_eq]
  revert hd
  refine doneV_cases (fun t => run (C k_ratchetref08_writing_done [.ptr (List.length H + 1) 0]) (hadd H [.cells [.int .i64 v.num, .bool v.nul, .int .i64 v.heap], .cells [accB s.b, .int .i64 s.e]]) = some (.ok t (hadd H [.cells [.int .i64 v.num, .bool v.nul, .int .i64 v.heap], doneB s.b s.e])) → _ = some (Out.ok t H)) ?_ ?_ <;> intro hd <;>
    simp (contextual := true) (dsimp := false) (disch := omega) only [↓goDown, goUp, List.length_cons, List.length_nil, List.map_cons, List.map_nil, List.take_succ_cons, List.take_zero, List.drop_succ_cons, List.drop_zero, List.drop_nil, List.take_nil, List.cons_append, List.nil_append, List.append_nil, List.set_cons_zero, List.set_cons_succ, List.all_cons, List.all_nil, ↓reduceIte, reduceCtorEq, ge_iff_le, gt_iff_lt, eq_self_iff_true, beq_self_eq_true, beq_iff_eq, bne_iff_ne, ne_eq, ite_not, Int.reduceEq, Option.getD_some, Option.getD_none, ite_self, Nat.reduceAdd, Nat.reduceSub, Nat.reduceMul, Nat.reduceLeDiff, Nat.reduceEqDiff, Nat.reduceBEq, Nat.reduceBNe, Int.reduceLT, Int.reduceLE, Int.reduceAdd, Int.reduceSub, Int.reduceMul, Int.reduceNeg, Int.reduceNe, Int.reduceBEq, Int.reduceBNe, Int.reduceToNat, hk, hd, isTup_B, low_B]
end Go.Proofs.Ythidcpkcfoldmaa.Pi.Q
namespace Go.Proofs.Ythidcpkcfoldmaa.Pi.Q
open Go Go.Proofs.Ythidcpkcfoldmaa.Pi
set_option linter.unusedVariables false
set_option linter.unusedSimpArgs false
set_option maxRecDepth 100000
attribute [local congr] ite_congr
variable {c : Nat} {H : Heap} {L : List Box} {b : List UInt8} {f : Int}
def gBlock (v : BK) : GR :=
  if 0 ≤ v.ty then .ok () ⟨putS v.ty, (gMust (decide (v.res = ⟨0, false, 0⟩ ∧ v.ty < 2147483648)) 4 ⟨[], 0⟩).e⟩
  else if v.ty < -1 then .ok () (gMust false 4 ⟨[], 0⟩)
  else if v.res = ⟨0, false, 0⟩ then .ok () ⟨[64], 0⟩ else gVal false v.res ⟨[], 0⟩
theorem gput_block {v : BK} {s : WS} (h1 : v.res.heap ≤ 9223372036854775807) (h2 : v.ty ≤ 9223372036854775807) (hr : gBlock v = .ok () s) : run (C k_ratchetref08_PutBlockType [.agg [.int .i64 v.ty, .int .i64 v.res.num, .bool v.res.nul, .int .i64 v.res.heap]]) H = some (.ok (doneV s.b s.e) H) := by
  obtain ⟨ty, res⟩ := v
  simp only at h1 h2 ⊢
  have he := fun K => eql_V (H := K) (v := res) (n := 0)
  have hp0 : (.cells [accB [], .int .i64 0] : Box) = .cells [.slice false true 0 [], .int .i64 0] := rfl
  have hm := fun ok => use_2 (H := H) (x := .cells [.int .i64 ty, .int .i64 res.num, .bool res.nul, .int .i64 res.heap]) (m := C k_ratchetref08_writing_must [.ptr (List.length H + 1) 0, .bool ok, .int .i64 4]) (gmustK (L := []) (b := []) (f := 0) (ok := ok) (e := 4) new2) rfl
  rw [hp0] at hm
  have hps := fun (hh : 0 ≤ ty) K => rputS_is (H := K) (n := ty) (by omega) h2
  have hd := fun b f => done_2 (H := H) (x := .cells [.int .i64 ty, .int .i64 res.num, .bool res.nul, .int .i64 res.heap]) (b := b) (f := f)
  have hb0 : ∀ ok e, (gMust ok e ⟨[], 0⟩).b = [] := fun ok e => rfl
  have fin : ∀ b f, run (p_ratchetref08_PutBlockType_1111 (.slice false true 0 []) (.int .i64 0) (.ptr (List.length H + 1) 0)) (hadd H [.cells [.int .i64 ty, .int .i64 res.num, .bool res.nul, .int .i64 res.heap], .cells [accB b, .int .i64 f]]) = some (.ok (doneV b f) (hadd H [.cells [.int .i64 ty, .int .i64 res.num, .bool res.nul, .int .i64 res.heap], doneB b f])) := fun b f => by
    have hd := hd b f
    rw [p_ratchetref08_PutBlockType_1111_eq]
    revert hd
    refine doneV_cases (fun t => run (C k_ratchetref08_writing_done [.ptr (List.length H + 1) 0]) (hadd H [.cells [.int .i64 ty, .int .i64 res.num, .bool res.nul, .int .i64 res.heap], .cells [accB b, .int .i64 f]]) = some (.ok t (hadd H [.cells [.int .i64 ty, .int .i64 res.num, .bool res.nul, .int .i64 res.heap], doneB b f])) → _ = some (Out.ok t (hadd H [.cells [.int .i64 ty, .int .i64 res.num, .bool res.nul, .int .i64 res.heap], doneB b f]))) ?_ ?_ <;> intro hd <;>
      simp (contextual := true) (dsimp := false) (disch := omega) only [↓goDown, goUp, List.length_cons, List.length_nil, List.map_cons, List.map_nil, List.take_succ_cons, List.take_zero, List.drop_succ_cons, List.drop_zero, List.drop_nil, List.take_nil, List.cons_append, List.nil_append, List.append_nil, List.set_cons_zero, List.set_cons_succ, List.all_cons, List.all_nil, ↓reduceIte, reduceCtorEq, ge_iff_le, gt_iff_lt, eq_self_iff_true, beq_self_eq_true, beq_iff_eq, bne_iff_ne, ne_eq, ite_not, Int.reduceEq, Option.getD_some, Option.getD_none, ite_self, Nat.reduceAdd, Nat.reduceSub, Nat.reduceMul, Nat.reduceLeDiff, Nat.reduceEqDiff, Nat.reduceBEq, Nat.reduceBNe, Int.reduceLT, Int.reduceLE, Int.reduceAdd, Int.reduceSub, Int.reduceMul, Int.reduceNeg, Int.reduceNe, Int.reduceBEq, Int.reduceBNe, Int.reduceToNat, hd, isTup_B, low_B]
  have hlow : ∀ b f n, (doneV b f).low n = true := fun b f n => doneV_cases (fun t => t.low n = true) (by simp [low_tup, lowL_cons, lowL_nil, low_B, low_int]) (by simp [low_tup, lowL_cons, lowL_nil, low_slice, low_int])
  have hbs : ∀ K, bsR true none [.int .u8 64] K = some (.ok (accB [64]) K) := fun K => bs64
  rw [ratchetref08_PutBlockType_eq]
  unfold gBlock at hr
  simp only at hr
  by_cases h0 : 0 ≤ ty
  · rw [if_pos h0] at hr
    cases hr
    simp only
    by_cases hz : res = ⟨0, false, 0⟩
    · rw [decide_eq_true hz] at he
      have e1 : decide (res = ⟨0, false, 0⟩ ∧ ty < 2147483648) = decide (ty < 2147483648) := by simp [hz]
      rw [e1]
      simp (contextual := true) (dsimp := false) (disch := omega) only [↓goDown, goUp, List.length_cons, List.length_nil, List.map_cons, List.map_nil, List.take_succ_cons, List.take_zero, List.drop_succ_cons, List.drop_zero, List.drop_nil, List.take_nil, List.cons_append, List.nil_append, List.append_nil, List.set_cons_zero, List.set_cons_succ, List.all_cons, List.all_nil, ↓reduceIte, reduceCtorEq, ge_iff_le, gt_iff_lt, eq_self_iff_true, beq_self_eq_true, beq_iff_eq, bne_iff_ne, ne_eq, ite_not, Int.reduceEq, Option.getD_some, Option.getD_none, ite_self, Nat.reduceAdd, Nat.reduceSub, Nat.reduceMul, Nat.reduceLeDiff, Nat.reduceEqDiff, Nat.reduceBEq, Nat.reduceBNe, Int.reduceLT, Int.reduceLE, Int.reduceAdd, Int.reduceSub, Int.reduceMul, Int.reduceNeg, Int.reduceNe, Int.reduceBEq, Int.reduceBNe, Int.reduceToNat, eq_true h0, he, hm, hb0, hps h0, fin, hlow, isTup_B, low_B, cells_B, isCell_B]
    · rw [decide_eq_false hz] at he
      have e1 : decide (res = ⟨0, false, 0⟩ ∧ ty < 2147483648) = false := by simp [hz]
      rw [e1]
      simp (contextual := true) (dsimp := false) (disch := omega) only [↓goDown, goUp, List.length_cons, List.length_nil, List.map_cons, List.map_nil, List.take_succ_cons, List.take_zero, List.drop_succ_cons, List.drop_zero, List.drop_nil, List.take_nil, List.cons_append, List.nil_append, List.append_nil, List.set_cons_zero, List.set_cons_succ, List.all_cons, List.all_nil, ↓reduceIte, reduceCtorEq, ge_iff_le, gt_iff_lt, eq_self_iff_true, beq_self_eq_true, beq_iff_eq, bne_iff_ne, ne_eq, ite_not, Int.reduceEq, Option.getD_some, Option.getD_none, ite_self, Nat.reduceAdd, Nat.reduceSub, Nat.reduceMul, Nat.reduceLeDiff, Nat.reduceEqDiff, Nat.reduceBEq, Nat.reduceBNe, Int.reduceLT, Int.reduceLE, Int.reduceAdd, Int.reduceSub, Int.reduceMul, Int.reduceNeg, Int.reduceNe, Int.reduceBEq, Int.reduceBNe, Int.reduceToNat, eq_true h0, he, hm, hb0, hps h0, fin, hlow, isTup_B, low_B, cells_B, isCell_B]
  · rw [if_neg h0] at hr
    by_cases h3 : ty < -1
    · rw [if_pos h3] at hr
      cases hr
      cases hz : decide (res = ⟨0, false, 0⟩) <;> rw [hz] at he <;>
        simp (contextual := true) (dsimp := false) (disch := omega) only [↓goDown, goUp, List.length_cons, List.length_nil, List.map_cons, List.map_nil, List.take_succ_cons, List.take_zero, List.drop_succ_cons, List.drop_zero, List.drop_nil, List.take_nil, List.cons_append, List.nil_append, List.append_nil, List.set_cons_zero, List.set_cons_succ, List.all_cons, List.all_nil, ↓reduceIte, reduceCtorEq, ge_iff_le, gt_iff_lt, eq_self_iff_true, beq_self_eq_true, beq_iff_eq, bne_iff_ne, ne_eq, ite_not, Int.reduceEq, Option.getD_some, Option.getD_none, ite_self, Nat.reduceAdd, Nat.reduceSub, Nat.reduceMul, Nat.reduceLeDiff, Nat.reduceEqDiff, Nat.reduceBEq, Nat.reduceBNe, Int.reduceLT, Int.reduceLE, Int.reduceAdd, Int.reduceSub, Int.reduceMul, Int.reduceNeg, Int.reduceNe, Int.reduceBEq, Int.reduceBNe, Int.reduceToNat, h0, eq_true h3, he, hm, hb0, fin, hlow, isTup_B, low_B, cells_B, isCell_B]
    · rw [if_neg h3] at hr
      by_cases hz : res = ⟨0, false, 0⟩
      · rw [if_pos hz] at hr
        cases hr
        rw [decide_eq_true hz] at he
        simp (contextual := true) (dsimp := false) (disch := omega) only [↓goDown, goUp, List.length_cons, List.length_nil, List.map_cons, List.map_nil, List.take_succ_cons, List.take_zero, List.drop_succ_cons, List.drop_zero, List.drop_nil, List.take_nil, List.cons_append, List.nil_append, List.append_nil, List.set_cons_zero, List.set_cons_succ, List.all_cons, List.all_nil, ↓reduceIte, reduceCtorEq, ge_iff_le, gt_iff_lt, eq_self_iff_true, beq_self_eq_true, beq_iff_eq, bne_iff_ne, ne_eq, ite_not, Int.reduceEq, Option.getD_some, Option.getD_none, ite_self, Nat.reduceAdd, Nat.reduceSub, Nat.reduceMul, Nat.reduceLeDiff, Nat.reduceEqDiff, Nat.reduceBEq, Nat.reduceBNe, Int.reduceLT, Int.reduceLE, Int.reduceAdd, Int.reduceSub, Int.reduceMul, Int.reduceNeg, Int.reduceNe, Int.reduceBEq, Int.reduceBNe, Int.reduceToNat, h0, h3, he, hbs, fin, hlow, isTup_B, low_B, cells_B, isCell_B]
      · rw [if_neg hz] at hr
        rw [decide_eq_false hz] at he
        have hv := use_2 (H := H) (x := .cells [.int .i64 ty, .int .i64 res.num, .bool res.nul, .int .i64 res.heap]) (gvalK (L := []) (b := []) (f := 0) h1 new2) hr
        rw [hp0] at hv
        simp (contextual := true) (dsimp := false) (disch := omega) only [↓goDown, goUp, List.length_cons, List.length_nil, List.map_cons, List.map_nil, List.take_succ_cons, List.take_zero, List.drop_succ_cons, List.drop_zero, List.drop_nil, List.take_nil, List.cons_append, List.nil_append, List.append_nil, List.set_cons_zero, List.set_cons_succ, List.all_cons, List.all_nil, ↓reduceIte, reduceCtorEq, ge_iff_le, gt_iff_lt, eq_self_iff_true, beq_self_eq_true, beq_iff_eq, bne_iff_ne, ne_eq, ite_not, Int.reduceEq, Option.getD_some, Option.getD_none, ite_self, Nat.reduceAdd, Nat.reduceSub, Nat.reduceMul, Nat.reduceLeDiff, Nat.reduceEqDiff, Nat.reduceBEq, Nat.reduceBNe, Int.reduceLT, Int.reduceLE, Int.reduceAdd, Int.reduceSub, Int.reduceMul, Int.reduceNeg, Int.reduceNe, Int.reduceBEq, Int.reduceBNe, Int.reduceToNat, h0, h3, he, hv, fin, hlow, isTup_B, low_B, cells_B, isCell_B]
def RT.wide (v : RT) : Prop := ∀ t ∈ v.types, t.wide
end Go.Proofs.Ythidcpkcfoldmaa.Pi.Q
namespace Go.Proofs.Ythidcpkcfoldmaa.Pi.Q
open Go Go.Proofs.Ythidcpkcfoldmaa.Pi
set_option linter.unusedVariables false
set_option linter.unusedSimpArgs false
def Sim (n : Nat) (k : List UInt8 → KR) (g : WS → GR) : Prop :=
  (∀ acc, acc.length + n ≤ 140737488355328 →
    (∃ a, a.length ≤ acc.length + n ∧ k acc = .ok () a ∧ g ⟨acc, 0⟩ = .ok () ⟨a, 0⟩) ∨ (∃ e b, e ≠ 0 ∧ b.length ≤ acc.length + n ∧ k acc = .err y_entry_fault [0, e] ∧ g ⟨acc, 0⟩ = .ok () ⟨b, e⟩)) ∧
  ∀ acc e, e ≠ 0 → acc.length + n ≤ 140737488355328 → ∃ b, b.length ≤ acc.length + n ∧ g ⟨acc, e⟩ = .ok () ⟨b, e⟩
theorem Sim.mono {n m : Nat} {k : List UInt8 → KR} {g : WS → GR} (h : Sim n k g) (hnm : n ≤ m) : Sim m k g := by
  refine ⟨fun acc ha => ?_, fun acc e he ha => ?_⟩
  · rcases h.1 acc (by omega) with ⟨a, h1, h2⟩ | ⟨e, b, h1, h2, h3⟩
    · exact .inl ⟨a, by omega, h2⟩
    · exact .inr ⟨e, b, h1, by omega, h3⟩
  · obtain ⟨b, h1, h2⟩ := h.2 acc e he (by omega)
    exact ⟨b, by omega, h2⟩
theorem Sim.bind {n m : Nat} {k k' : List UInt8 → KR} {g g' : WS → GR} (h : Sim n k g) (h' : Sim m k' g') : Sim (n + m) (fun acc => (k acc).bind fun _ acc => k' acc) (fun s => (g s).bind fun _ s => g' s) := by
  refine ⟨fun acc ha => ?_, fun acc e he ha => ?_⟩
  · rcases h.1 acc (by omega) with ⟨a, h1, h2, h3⟩ | ⟨e, b, h1, h2, h3, h4⟩
    · simp only [h2, h3, Res.bind]
      rcases h'.1 a (by omega) with ⟨a', q1, q2⟩ | ⟨e, b, q1, q2, q3⟩
      · exact .inl ⟨a', by omega, q2⟩
      · exact .inr ⟨e, b, q1, by omega, q3⟩
    · simp only [h3, h4, Res.bind]
      obtain ⟨b', q1, q2⟩ := h'.2 b e h1 (by omega)
      exact .inr ⟨e, b', h1, by omega, rfl, q2⟩
  · obtain ⟨b, h1, h2⟩ := h.2 acc e he (by omega)
    simp only [h2, Res.bind]
    obtain ⟨b', q1, q2⟩ := h'.2 b e he (by omega)
    exact ⟨b', by omega, q2⟩
theorem sim_put {u : List UInt8} {n : Nat} (h : u.length ≤ n) : Sim n (kPut u) (gPut u) := by
  refine ⟨fun acc ha => .inl ⟨acc ++ u, by simp; omega, ?_, ?_⟩, fun acc e he ha => ⟨acc ++ u, by simp; omega, ?_⟩⟩
  · exact if_pos (by omega)
  · exact if_pos (show acc.length + u.length ≤ _ by omega)
  · exact if_pos (show acc.length + u.length ≤ _ by omega)
theorem sim_err {n : Nat} {e : Int} {g : WS → GR} (he : e ≠ 0) (h : ∀ acc, acc.length + n ≤ 140737488355328 → ∃ b, b.length ≤ acc.length + n ∧ g ⟨acc, 0⟩ = .ok () ⟨b, e⟩) (h2 : ∀ acc f, f ≠ 0 → acc.length + n ≤ 140737488355328 → ∃ b, b.length ≤ acc.length + n ∧ g ⟨acc, f⟩ = .ok () ⟨b, f⟩) : Sim n (fun _ => .err y_entry_fault [0, e]) g :=
  ⟨fun acc ha => by obtain ⟨b, h3, h4⟩ := h acc ha; exact .inr ⟨e, b, he, h3, rfl, h4⟩, h2⟩
def Runs (n : Nat) (g : WS → GR) : Prop := ∀ acc e, acc.length + n ≤ 140737488355328 → e ≠ 0 → ∃ b, b.length ≤ acc.length + n ∧ g ⟨acc, e⟩ = .ok () ⟨b, e⟩
theorem Sim.runs {n : Nat} {k : List UInt8 → KR} {g : WS → GR} (h : Sim n k g) : Runs n g := fun acc e ha he => h.2 acc e he ha
theorem Runs.mono {n m : Nat} {g : WS → GR} (h : Runs n g) (hnm : n ≤ m) : Runs m g := fun acc e ha he => by
  obtain ⟨b, h1, h2⟩ := h acc e (by omega) he
  exact ⟨b, by omega, h2⟩
theorem sim_fail {n : Nat} {e : Int} {g : WS → GR} (he : e ≠ 0) (hg : Runs n g) : Sim n (fun _ => .err y_entry_fault [0, e]) (fun s => g (gMust false e s)) := by
  refine sim_err he (fun acc ha => ?_) (fun acc f hf ha => ?_)
  · have : gMust false e ⟨acc, 0⟩ = ⟨acc, e⟩ := by simp [gMust]
    rw [this]
    exact hg acc e ha he
  · have : gMust false e ⟨acc, f⟩ = ⟨acc, f⟩ := by simp [gMust, hf]
    rw [this]
    exact hg acc f ha hf
theorem runs_put {u : List UInt8} {n : Nat} (h : u.length ≤ n) : Runs n (gPut u) := (sim_put h).runs
theorem sim_congr {n : Nat} {k k' : List UInt8 → KR} {g g' : WS → GR} (h : Sim n k g) (hk : ∀ acc, k' acc = k acc) (hg : ∀ s, g' s = g s) : Sim n k' g' := by
  have e1 : k' = k := funext hk
  have e2 : g' = g := funext hg
  rw [e1, e2]
  exact h
theorem find_range {h : Int} : ∀ (l : List Int) (i j : Nat), find h l i = some j → h ∈ l
  | [], i, j, e => by cases e
  | a :: r, i, j, e => by
    unfold find at e
    split at e
    · rename_i ha; rw [ha]; simp
    · exact List.mem_cons_of_mem _ (find_range r (i + 1) j e)
theorem find_none {h : Int} (hh : h < 0) (h2 : -12 ≤ h) : ∃ j, find h absI 0 = some j ∧ j < 12 := by
  have : h = -11 ∨ h = -9 ∨ h = -8 ∨ h = -7 ∨ h = -6 ∨ h = -5 ∨ h = -3 ∨ h = -1 ∨ h = -10 ∨ h = -4 ∨ h = -2 ∨ h = -12 := by omega
  rcases this with rfl | rfl | rfl | rfl | rfl | rfl | rfl | rfl | rfl | rfl | rfl | rfl <;> exact ⟨_, rfl, by decide⟩
theorem heap_sim {h : Int} (h1 : -9223372036854775808 ≤ h) (h2 : h ≤ 9223372036854775807) : Sim 10 (kHeap h) (gHeap h) := by
  by_cases h0 : h < 0
  · by_cases h3 : -12 ≤ h
    · obtain ⟨j, hj, hj12⟩ := find_none h0 h3
      refine sim_congr (sim_put (u := [UInt8.ofNat (105 + j)]) (n := 10) (by simp)) (fun acc => ?_) (fun s => ?_)
      · unfold kHeap; rw [if_neg (by omega), hj]; rfl
      · unfold gHeap
        rw [if_pos h0, decide_eq_true h3]
        have : gMust true 4 s = s := by simp [gMust]
        rw [this]
        unfold codeN
        rw [hj]
    · refine sim_congr (sim_fail (e := 4) (by decide) (runs_put (u := [UInt8.ofNat (codeN h)]) (n := 10) (by simp))) (fun acc => ?_) (fun s => ?_)
      · unfold kHeap
        rw [if_neg (by omega)]
        have : find h absI 0 = none := by
          cases hf : find h absI 0 with
          | none => rfl
          | some j =>
            have := find_range _ _ _ hf
            simp [absI] at this
            omega
        rw [this]
        rfl
      · unfold gHeap
        rw [if_pos h0, decide_eq_false h3]
  · have hten : (putS h).length ≤ 10 := putS_len 9 h (by omega) (by omega)
    by_cases h3 : h ≤ 2147483647
    · refine sim_congr (sim_put (u := putS h) hten) (fun acc => ?_) (fun s => ?_)
      · unfold kHeap; rw [if_pos (by omega), if_pos h3]
      · unfold gHeap
        rw [if_neg h0, decide_eq_true (show h < 2147483648 by omega)]
        have : gMust true 4 s = s := by simp [gMust]
        rw [this]
    · refine sim_congr (sim_fail (e := 4) (by decide) (runs_put (u := putS h) hten)) (fun acc => ?_) (fun s => ?_)
      · unfold kHeap; rw [if_pos (by omega), if_neg h3]
      · unfold gHeap
        rw [if_neg h0, decide_eq_false (show ¬ h < 2147483648 by omega)]
def I64 (n : Int) : Prop := -9223372036854775808 ≤ n ∧ n ≤ 9223372036854775807
theorem must_true {e : Int} {s : WS} : gMust true e s = s := by simp [gMust]
theorem val_sim {v : VT} (h1 : I64 v.heap) : Sim 11 (kVal v) (gVal false v) := by
  have hh := heap_sim h1.1 h1.2
  by_cases h5 : v.num = 5
  · cases hn : v.nul with
    | true =>
      by_cases h0 : v.heap < 0
      · refine sim_congr (hh.mono (by omega)) (fun acc => ?_) (fun s => ?_)
        · unfold kVal; rw [if_pos h5, if_neg (by simp [hn]), if_neg (by omega)]; rfl
        · unfold gVal; rw [if_pos h5, if_pos hn, if_pos h0]
      · refine sim_congr (Sim.bind (sim_put (u := [99]) (n := 1) (by simp)) hh) (fun acc => ?_) (fun s => ?_)
        · unfold kVal; rw [if_pos h5, if_neg (by simp [hn]), if_pos (by omega)]
        · unfold gVal; rw [if_pos h5, if_pos hn, if_neg h0]
    | false =>
      refine sim_congr (Sim.bind (sim_put (u := [100]) (n := 1) (by simp)) hh) (fun acc => ?_) (fun s => ?_)
      · unfold kVal; rw [if_pos h5, if_pos hn]
      · unfold gVal; rw [if_pos h5, if_neg (by simp [hn])]
  · by_cases hc : 1 ≤ v.num ∧ v.num ≤ 4 ∧ v.nul = false ∧ v.heap = 0
    · obtain ⟨c1, c2, c3, c4⟩ := hc
      refine sim_congr (sim_put (u := [UInt8.ofNat (128 - v.num).toNat]) (n := 11) (by simp)) (fun acc => ?_) (fun s => ?_)
      · unfold kVal; rw [if_neg h5, if_pos ⟨c1, c2, c3, c4⟩]
      · unfold gVal
        have e1 : gValOk false v = true := by unfold gValOk; exact decide_eq_true ⟨.inl ⟨c1, c2⟩, c3, c4⟩
        have e2 : gByte v.num = UInt8.ofNat (128 - v.num).toNat := by
          unfold gByte
          rw [if_neg (by omega), if_neg (by omega), w_i64 (by omega), w_u8 (by omega)]
        rw [if_neg h5, e1, must_true, e2]
    · refine sim_congr (sim_fail (e := 4) (by decide) (runs_put (u := [gByte v.num]) (n := 11) (by simp))) (fun acc => ?_) (fun s => ?_)
      · unfold kVal; rw [if_neg h5, if_neg hc]
      · unfold gVal
        have e1 : gValOk false v = false := by
          unfold gValOk
          refine decide_eq_false (fun h => hc ?_)
          obtain ⟨h | h, h3, h4⟩ := h
          · exact ⟨h.1, h.2, h3, h4⟩
          · cases h.1
        rw [if_neg h5, e1]
def CT.w (v : CT) : Prop := (∀ a ∈ v.ps, I64 a.heap) ∧ (∀ a ∈ v.rs, I64 a.heap) ∧ ∀ a ∈ v.fs, I64 a.ty.heap
theorem Runs.bind {n m : Nat} {g g' : WS → GR} (h : Runs n g) (h' : Runs m g') : Runs (n + m) (fun s => (g s).bind fun _ s => g' s) := fun acc e ha he => by
  obtain ⟨b, h1, h2⟩ := h acc e (by omega) he
  simp only [h2, Res.bind]
  obtain ⟨b', q1, q2⟩ := h' b e (by omega) he
  exact ⟨b', by omega, q2⟩
end Go.Proofs.Ythidcpkcfoldmaa.Pi.Q
namespace Go.Proofs.Ythidcpkcfoldmaa.Pi.Q
open Go Go.Proofs.Ythidcpkcfoldmaa.Pi
set_option linter.unusedVariables false
set_option linter.unusedSimpArgs false
set_option maxRecDepth 100000
attribute [local congr] ite_congr
def ST.w (v : ST) : Prop := (∀ a ∈ v.sup, I64 a) ∧ v.comp.w
def RT.w (v : RT) : Prop := ∀ t ∈ v.types, t.w
def Both (k : KR) (g : GR) : Prop := (∃ a, k = .ok () a ∧ g = .ok () ⟨a, 0⟩) ∨ (∃ e b, e ≠ 0 ∧ k = .err y_entry_fault [0, e] ∧ g = .ok () ⟨b, e⟩)
theorem Sim.both {n : Nat} {k : List UInt8 → KR} {g : WS → GR} (h : Sim n k g) (hn : n ≤ 140737488355328) : Both (k []) (g ⟨[], 0⟩) := by
  rcases h.1 [] (by simpa using hn) with ⟨a, h1, h2, h3⟩ | ⟨e, b, h1, h2, h3, h4⟩
  · exact .inl ⟨a, h2, h3⟩
  · exact .inr ⟨e, b, h1, h3, h4⟩
theorem block_both {v : BK} (h1 : I64 v.res.heap) : Both (kBlock v []) (gBlock v) := by
  unfold kBlock gBlock
  by_cases h0 : 0 ≤ v.ty
  · rw [if_pos h0, if_pos h0]
    by_cases hc : v.res = ⟨0, false, 0⟩ ∧ v.ty ≤ 2147483647
    · rw [if_pos hc, decide_eq_true ⟨hc.1, by omega⟩]
      exact .inl ⟨_, rfl, rfl⟩
    · rw [if_neg hc, decide_eq_false (fun h => hc ⟨h.1, by omega⟩)]
      exact .inr ⟨4, _, by decide, rfl, rfl⟩
  · rw [if_neg h0, if_neg h0]
    by_cases h3 : v.ty < -1
    · rw [if_pos h3, if_pos h3]
      exact .inr ⟨4, _, by decide, rfl, rfl⟩
    · rw [if_neg h3, if_neg h3]
      by_cases hz : v.res = ⟨0, false, 0⟩
      · rw [if_pos hz, if_pos hz]
        exact .inl ⟨_, rfl, rfl⟩
      · rw [if_neg hz, if_neg hz]
        exact (val_sim h1).both (by decide)
theorem toBytes_bytes : ∀ u : List UInt8, toBytes (bytes u) = some u
  | [] => rfl
  | c :: r => by
    have ih := toBytes_bytes r
    have e : toBytes (bytes (c :: r)) = (toBytes (bytes r)).map (UInt8.ofNat ((c.toNat : Int)).toNat :: ·) := rfl
    rw [e, ih]
    simp
theorem cv_LZ {o z : Bool} {u : List UInt8} {K : Heap} : run (cv .bytesToStr o (LZ z 1 (bytes u))) K = some (.ok (.str ⟨u.toArray⟩) K) := by
  have key : ∀ z s xs, xs = bytes u → run (cv .bytesToStr o (.slice false z s xs)) K = some (.ok (.str ⟨u.toArray⟩) K) := fun z s xs h => by
    subst h
    unfold run cv
    simp only [toBytes_bytes]
    rfl
  cases u with
  | nil => exact key _ _ _ rfl
  | cons c r => exact key _ _ _ rfl
end Go.Proofs.Ythidcpkcfoldmaa.Pi.Q
namespace Go.Proofs.Ythidcpkcfoldmaa.Pi.Q
open Go Go.Proofs.Ythidcpkcfoldmaa.Pi
set_option linter.unusedVariables false
set_option maxRecDepth 100000
structure PRow where
  first : Int
  many : Int
  head : ByteArray
  names : ByteArray
  form : Int
def PRow.enc (r : PRow) : PV := .agg [.int .i64 r.first, .int .i64 r.many, .str r.head, .str r.names, .int .i64 r.form]
structure RRow where
  first : Int
  head : ByteArray
  names : ByteArray
  form : ByteArray
def RRow.enc (r : RRow) : PV := .agg [.int .i64 r.first, .str r.head, .str r.names, .str r.form]
def numP : List PRow := [
  ⟨0, 2, ⟨#[]⟩, ⟨#[117, 110, 114, 101, 97, 99, 104, 97, 98, 108, 101, 32, 110, 111, 112]⟩, 1⟩,
  ⟨2, 3, ⟨#[]⟩, ⟨#[98, 108, 111, 99, 107, 32, 108, 111, 111, 112, 32, 105, 102]⟩, 2⟩,
  ⟨5, 1, ⟨#[]⟩, ⟨#[101, 108, 115, 101]⟩, 1⟩,
  ⟨8, 1, ⟨#[]⟩, ⟨#[116, 104, 114, 111, 119]⟩, 4⟩,
  ⟨10, 2, ⟨#[]⟩, ⟨#[116, 104, 114, 111, 119, 95, 114, 101, 102, 32, 101, 110, 100]⟩, 1⟩,
  ⟨12, 2, ⟨#[]⟩, ⟨#[98, 114, 32, 98, 114, 95, 105, 102]⟩, 4⟩,
  ⟨14, 1, ⟨#[]⟩, ⟨#[98, 114, 95, 116, 97, 98, 108, 101]⟩, 6⟩,
  ⟨15, 1, ⟨#[]⟩, ⟨#[114, 101, 116, 117, 114, 110]⟩, 1⟩,
  ⟨16, 1, ⟨#[]⟩, ⟨#[99, 97, 108, 108]⟩, 4⟩,
  ⟨17, 1, ⟨#[]⟩, ⟨#[99, 97, 108, 108, 95, 105, 110, 100, 105, 114, 101, 99, 116]⟩, 5⟩,
  ⟨18, 1, ⟨#[]⟩, ⟨#[114, 101, 116, 117, 114, 110, 95, 99, 97, 108, 108]⟩, 4⟩,
  ⟨19, 1, ⟨#[]⟩, ⟨#[114, 101, 116, 117, 114, 110, 95, 99, 97, 108, 108, 95, 105, 110, 100, 105, 114, 101, 99, 116]⟩, 5⟩,
  ⟨20, 2, ⟨#[]⟩, ⟨#[99, 97, 108, 108, 95, 114, 101, 102, 32, 114, 101, 116, 117, 114, 110, 95, 99, 97, 108, 108, 95, 114, 101, 102]⟩, 4⟩,
  ⟨26, 2, ⟨#[]⟩, ⟨#[100, 114, 111, 112, 32, 115, 101, 108, 101, 99, 116]⟩, 1⟩,
  ⟨28, 1, ⟨#[]⟩, ⟨#[115, 101, 108, 101, 99, 116, 95, 116]⟩, 7⟩,
  ⟨31, 1, ⟨#[]⟩, ⟨#[116, 114, 121, 95, 116, 97, 98, 108, 101]⟩, 3⟩,
  ⟨32, 7, ⟨#[]⟩, ⟨#[108, 111, 99, 97, 108, 46, 103, 101, 116, 32, 108, 111, 99, 97, 108, 46, 115, 101, 116, 32, 108, 111, 99, 97, 108, 46, 116, 101, 101, 32, 103, 108, 111, 98, 97, 108, 46, 103, 101, 116, 32, 103, 108, 111, 98, 97, 108, 46, 115, 101, 116, 32, 116, 97, 98, 108, 101, 46, 103, 101, 116, 32, 116, 97, 98, 108, 101, 46, 115, 101, 116]⟩, 4⟩,
  ⟨40, 23, ⟨#[]⟩, ⟨#[105, 51, 50, 46, 108, 111, 97, 100, 32, 105, 54, 52, 46, 108, 111, 97, 100, 32, 102, 51, 50, 46, 108, 111, 97, 100, 32, 102, 54, 52, 46, 108, 111, 97, 100, 32, 105, 51, 50, 46, 108, 111, 97, 100, 56, 95, 115, 32, 105, 51, 50, 46, 108, 111, 97, 100, 56, 95, 117, 32, 105, 51, 50, 46, 108, 111, 97, 100, 49, 54, 95, 115, 32, 105, 51, 50, 46, 108, 111, 97, 100, 49, 54, 95, 117, 32, 105, 54, 52, 46, 108, 111, 97, 100, 56, 95, 115, 32, 105, 54, 52, 46, 108, 111, 97, 100, 56, 95, 117, 32, 105, 54, 52, 46, 108, 111, 97, 100, 49, 54, 95, 115, 32, 105, 54, 52, 46, 108, 111, 97, 100, 49, 54, 95, 117, 32, 105, 54, 52, 46, 108, 111, 97, 100, 51, 50, 95, 115, 32, 105, 54, 52, 46, 108, 111, 97, 100, 51, 50, 95, 117, 32, 105, 51, 50, 46, 115, 116, 111, 114, 101, 32, 105, 54, 52, 46, 115, 116, 111, 114, 101, 32, 102, 51, 50, 46, 115, 116, 111, 114, 101, 32, 102, 54, 52, 46, 115, 116, 111, 114, 101, 32, 105, 51, 50, 46, 115, 116, 111, 114, 101, 56, 32, 105, 51, 50, 46, 115, 116, 111, 114, 101, 49, 54, 32, 105, 54, 52, 46, 115, 116, 111, 114, 101, 56, 32, 105, 54, 52, 46, 115, 116, 111, 114, 101, 49, 54, 32, 105, 54, 52, 46, 115, 116, 111, 114, 101, 51, 50]⟩, 8⟩,
  ⟨63, 2, ⟨#[]⟩, ⟨#[109, 101, 109, 111, 114, 121, 46, 115, 105, 122, 101, 32, 109, 101, 109, 111, 114, 121, 46, 103, 114, 111, 119]⟩, 4⟩,
  ⟨65, 1, ⟨#[]⟩, ⟨#[105, 51, 50, 46, 99, 111, 110, 115, 116]⟩, 9⟩,
  ⟨66, 1, ⟨#[]⟩, ⟨#[105, 54, 52, 46, 99, 111, 110, 115, 116]⟩, 10⟩,
  ⟨67, 1, ⟨#[]⟩, ⟨#[102, 51, 50, 46, 99, 111, 110, 115, 116]⟩, 11⟩,
  ⟨68, 1, ⟨#[]⟩, ⟨#[102, 54, 52, 46, 99, 111, 110, 115, 116]⟩, 12⟩,
  ⟨69, 11, ⟨#[105, 51, 50, 46]⟩, ⟨#[101, 113, 122, 32, 101, 113, 32, 110, 101, 32, 108, 116, 95, 115, 32, 108, 116, 95, 117, 32, 103, 116, 95, 115, 32, 103, 116, 95, 117, 32, 108, 101, 95, 115, 32, 108, 101, 95, 117, 32, 103, 101, 95, 115, 32, 103, 101, 95, 117]⟩, 1⟩,
  ⟨80, 11, ⟨#[105, 54, 52, 46]⟩, ⟨#[101, 113, 122, 32, 101, 113, 32, 110, 101, 32, 108, 116, 95, 115, 32, 108, 116, 95, 117, 32, 103, 116, 95, 115, 32, 103, 116, 95, 117, 32, 108, 101, 95, 115, 32, 108, 101, 95, 117, 32, 103, 101, 95, 115, 32, 103, 101, 95, 117]⟩, 1⟩,
  ⟨91, 6, ⟨#[102, 51, 50, 46]⟩, ⟨#[101, 113, 32, 110, 101, 32, 108, 116, 32, 103, 116, 32, 108, 101, 32, 103, 101]⟩, 1⟩,
  ⟨97, 6, ⟨#[102, 54, 52, 46]⟩, ⟨#[101, 113, 32, 110, 101, 32, 108, 116, 32, 103, 116, 32, 108, 101, 32, 103, 101]⟩, 1⟩,
  ⟨103, 18, ⟨#[105, 51, 50, 46]⟩, ⟨#[99, 108, 122, 32, 99, 116, 122, 32, 112, 111, 112, 99, 110, 116, 32, 97, 100, 100, 32, 115, 117, 98, 32, 109, 117, 108, 32, 100, 105, 118, 95, 115, 32, 100, 105, 118, 95, 117, 32, 114, 101, 109, 95, 115, 32, 114, 101, 109, 95, 117, 32, 97, 110, 100, 32, 111, 114, 32, 120, 111, 114, 32, 115, 104, 108, 32, 115, 104, 114, 95, 115, 32, 115, 104, 114, 95, 117, 32, 114, 111, 116, 108, 32, 114, 111, 116, 114]⟩, 1⟩,
  ⟨121, 18, ⟨#[105, 54, 52, 46]⟩, ⟨#[99, 108, 122, 32, 99, 116, 122, 32, 112, 111, 112, 99, 110, 116, 32, 97, 100, 100, 32, 115, 117, 98, 32, 109, 117, 108, 32, 100, 105, 118, 95, 115, 32, 100, 105, 118, 95, 117, 32, 114, 101, 109, 95, 115, 32, 114, 101, 109, 95, 117, 32, 97, 110, 100, 32, 111, 114, 32, 120, 111, 114, 32, 115, 104, 108, 32, 115, 104, 114, 95, 115, 32, 115, 104, 114, 95, 117, 32, 114, 111, 116, 108, 32, 114, 111, 116, 114]⟩, 1⟩,
  ⟨139, 14, ⟨#[102, 51, 50, 46]⟩, ⟨#[97, 98, 115, 32, 110, 101, 103, 32, 99, 101, 105, 108, 32, 102, 108, 111, 111, 114, 32, 116, 114, 117, 110, 99, 32, 110, 101, 97, 114, 101, 115, 116, 32, 115, 113, 114, 116, 32, 97, 100, 100, 32, 115, 117, 98, 32, 109, 117, 108, 32, 100, 105, 118, 32, 109, 105, 110, 32, 109, 97, 120, 32, 99, 111, 112, 121, 115, 105, 103, 110]⟩, 1⟩,
  ⟨153, 14, ⟨#[102, 54, 52, 46]⟩, ⟨#[97, 98, 115, 32, 110, 101, 103, 32, 99, 101, 105, 108, 32, 102, 108, 111, 111, 114, 32, 116, 114, 117, 110, 99, 32, 110, 101, 97, 114, 101, 115, 116, 32, 115, 113, 114, 116, 32, 97, 100, 100, 32, 115, 117, 98, 32, 109, 117, 108, 32, 100, 105, 118, 32, 109, 105, 110, 32, 109, 97, 120, 32, 99, 111, 112, 121, 115, 105, 103, 110]⟩, 1⟩,
  ⟨167, 5, ⟨#[105, 51, 50, 46]⟩, ⟨#[119, 114, 97, 112, 95, 105, 54, 52, 32, 116, 114, 117, 110, 99, 95, 102, 51, 50, 95, 115, 32, 116, 114, 117, 110, 99, 95, 102, 51, 50, 95, 117, 32, 116, 114, 117, 110, 99, 95, 102, 54, 52, 95, 115, 32, 116, 114, 117, 110, 99, 95, 102, 54, 52, 95, 117]⟩, 1⟩,
  ⟨172, 6, ⟨#[105, 54, 52, 46]⟩, ⟨#[101, 120, 116, 101, 110, 100, 95, 105, 51, 50, 95, 115, 32, 101, 120, 116, 101, 110, 100, 95, 105, 51, 50, 95, 117, 32, 116, 114, 117, 110, 99, 95, 102, 51, 50, 95, 115, 32, 116, 114, 117, 110, 99, 95, 102, 51, 50, 95, 117, 32, 116, 114, 117, 110, 99, 95, 102, 54, 52, 95, 115, 32, 116, 114, 117, 110, 99, 95, 102, 54, 52, 95, 117]⟩, 1⟩,
  ⟨178, 5, ⟨#[102, 51, 50, 46]⟩, ⟨#[99, 111, 110, 118, 101, 114, 116, 95, 105, 51, 50, 95, 115, 32, 99, 111, 110, 118, 101, 114, 116, 95, 105, 51, 50, 95, 117, 32, 99, 111, 110, 118, 101, 114, 116, 95, 105, 54, 52, 95, 115, 32, 99, 111, 110, 118, 101, 114, 116, 95, 105, 54, 52, 95, 117, 32, 100, 101, 109, 111, 116, 101, 95, 102, 54, 52]⟩, 1⟩,
  ⟨183, 5, ⟨#[102, 54, 52, 46]⟩, ⟨#[99, 111, 110, 118, 101, 114, 116, 95, 105, 51, 50, 95, 115, 32, 99, 111, 110, 118, 101, 114, 116, 95, 105, 51, 50, 95, 117, 32, 99, 111, 110, 118, 101, 114, 116, 95, 105, 54, 52, 95, 115, 32, 99, 111, 110, 118, 101, 114, 116, 95, 105, 54, 52, 95, 117, 32, 112, 114, 111, 109, 111, 116, 101, 95, 102, 51, 50]⟩, 1⟩,
  ⟨188, 4, ⟨#[]⟩, ⟨#[105, 51, 50, 46, 114, 101, 105, 110, 116, 101, 114, 112, 114, 101, 116, 95, 102, 51, 50, 32, 105, 54, 52, 46, 114, 101, 105, 110, 116, 101, 114, 112, 114, 101, 116, 95, 102, 54, 52, 32, 102, 51, 50, 46, 114, 101, 105, 110, 116, 101, 114, 112, 114, 101, 116, 95, 105, 51, 50, 32, 102, 54, 52, 46, 114, 101, 105, 110, 116, 101, 114, 112, 114, 101, 116, 95, 105, 54, 52]⟩, 1⟩,
  ⟨192, 5, ⟨#[]⟩, ⟨#[105, 51, 50, 46, 101, 120, 116, 101, 110, 100, 56, 95, 115, 32, 105, 51, 50, 46, 101, 120, 116, 101, 110, 100, 49, 54, 95, 115, 32, 105, 54, 52, 46, 101, 120, 116, 101, 110, 100, 56, 95, 115, 32, 105, 54, 52, 46, 101, 120, 116, 101, 110, 100, 49, 54, 95, 115, 32, 105, 54, 52, 46, 101, 120, 116, 101, 110, 100, 51, 50, 95, 115]⟩, 1⟩]
theorem numP_is {H : Heap} : run (C k_instr_numbers []) H = some (.ok (.slice true false 5 (numP.map PRow.enc)) H) := by
  rw [instr_numbers_eq]
  exact trunc_same (by kernel_rfl)
def othP : List PRow := [
  ⟨208, 1, ⟨#[]⟩, ⟨#[114, 101, 102, 46, 110, 117, 108, 108]⟩, 13⟩,
  ⟨209, 1, ⟨#[]⟩, ⟨#[114, 101, 102, 46, 105, 115, 95, 110, 117, 108, 108]⟩, 1⟩,
  ⟨210, 1, ⟨#[]⟩, ⟨#[114, 101, 102, 46, 102, 117, 110, 99]⟩, 4⟩,
  ⟨211, 2, ⟨#[]⟩, ⟨#[114, 101, 102, 46, 101, 113, 32, 114, 101, 102, 46, 97, 115, 95, 110, 111, 110, 95, 110, 117, 108, 108]⟩, 1⟩,
  ⟨213, 2, ⟨#[]⟩, ⟨#[98, 114, 95, 111, 110, 95, 110, 117, 108, 108, 32, 98, 114, 95, 111, 110, 95, 110, 111, 110, 95, 110, 117, 108, 108]⟩, 4⟩,
  ⟨64256, 2, ⟨#[]⟩, ⟨#[115, 116, 114, 117, 99, 116, 46, 110, 101, 119, 32, 115, 116, 114, 117, 99, 116, 46, 110, 101, 119, 95, 100, 101, 102, 97, 117, 108, 116]⟩, 4⟩,
  ⟨64258, 4, ⟨#[]⟩, ⟨#[115, 116, 114, 117, 99, 116, 46, 103, 101, 116, 32, 115, 116, 114, 117, 99, 116, 46, 103, 101, 116, 95, 115, 32, 115, 116, 114, 117, 99, 116, 46, 103, 101, 116, 95, 117, 32, 115, 116, 114, 117, 99, 116, 46, 115, 101, 116]⟩, 5⟩,
  ⟨64262, 2, ⟨#[]⟩, ⟨#[97, 114, 114, 97, 121, 46, 110, 101, 119, 32, 97, 114, 114, 97, 121, 46, 110, 101, 119, 95, 100, 101, 102, 97, 117, 108, 116]⟩, 4⟩,
  ⟨64264, 1, ⟨#[]⟩, ⟨#[97, 114, 114, 97, 121, 46, 110, 101, 119, 95, 102, 105, 120, 101, 100]⟩, 16⟩,
  ⟨64265, 2, ⟨#[]⟩, ⟨#[97, 114, 114, 97, 121, 46, 110, 101, 119, 95, 100, 97, 116, 97, 32, 97, 114, 114, 97, 121, 46, 110, 101, 119, 95, 101, 108, 101, 109]⟩, 5⟩,
  ⟨64267, 4, ⟨#[]⟩, ⟨#[97, 114, 114, 97, 121, 46, 103, 101, 116, 32, 97, 114, 114, 97, 121, 46, 103, 101, 116, 95, 115, 32, 97, 114, 114, 97, 121, 46, 103, 101, 116, 95, 117, 32, 97, 114, 114, 97, 121, 46, 115, 101, 116]⟩, 4⟩,
  ⟨64271, 1, ⟨#[]⟩, ⟨#[97, 114, 114, 97, 121, 46, 108, 101, 110]⟩, 1⟩,
  ⟨64272, 1, ⟨#[]⟩, ⟨#[97, 114, 114, 97, 121, 46, 102, 105, 108, 108]⟩, 4⟩,
  ⟨64273, 3, ⟨#[]⟩, ⟨#[97, 114, 114, 97, 121, 46, 99, 111, 112, 121, 32, 97, 114, 114, 97, 121, 46, 105, 110, 105, 116, 95, 100, 97, 116, 97, 32, 97, 114, 114, 97, 121, 46, 105, 110, 105, 116, 95, 101, 108, 101, 109]⟩, 5⟩,
  ⟨64276, 4, ⟨#[]⟩, ⟨#[114, 101, 102, 46, 116, 101, 115, 116, 32, 114, 101, 102, 46, 116, 101, 115, 116, 95, 110, 117, 108, 108, 32, 114, 101, 102, 46, 99, 97, 115, 116, 32, 114, 101, 102, 46, 99, 97, 115, 116, 95, 110, 117, 108, 108]⟩, 14⟩,
  ⟨64280, 2, ⟨#[]⟩, ⟨#[98, 114, 95, 111, 110, 95, 99, 97, 115, 116, 32, 98, 114, 95, 111, 110, 95, 99, 97, 115, 116, 95, 102, 97, 105, 108]⟩, 15⟩,
  ⟨64282, 5, ⟨#[]⟩, ⟨#[97, 110, 121, 46, 99, 111, 110, 118, 101, 114, 116, 95, 101, 120, 116, 101, 114, 110, 32, 101, 120, 116, 101, 114, 110, 46, 99, 111, 110, 118, 101, 114, 116, 95, 97, 110, 121, 32, 114, 101, 102, 46, 105, 51, 49, 32, 105, 51, 49, 46, 103, 101, 116, 95, 115, 32, 105, 51, 49, 46, 103, 101, 116, 95, 117]⟩, 1⟩,
  ⟨64512, 8, ⟨#[]⟩, ⟨#[105, 51, 50, 46, 116, 114, 117, 110, 99, 95, 115, 97, 116, 95, 102, 51, 50, 95, 115, 32, 105, 51, 50, 46, 116, 114, 117, 110, 99, 95, 115, 97, 116, 95, 102, 51, 50, 95, 117, 32, 105, 51, 50, 46, 116, 114, 117, 110, 99, 95, 115, 97, 116, 95, 102, 54, 52, 95, 115, 32, 105, 51, 50, 46, 116, 114, 117, 110, 99, 95, 115, 97, 116, 95, 102, 54, 52, 95, 117, 32, 105, 54, 52, 46, 116, 114, 117, 110, 99, 95, 115, 97, 116, 95, 102, 51, 50, 95, 115, 32, 105, 54, 52, 46, 116, 114, 117, 110, 99, 95, 115, 97, 116, 95, 102, 51, 50, 95, 117, 32, 105, 54, 52, 46, 116, 114, 117, 110, 99, 95, 115, 97, 116, 95, 102, 54, 52, 95, 115, 32, 105, 54, 52, 46, 116, 114, 117, 110, 99, 95, 115, 97, 116, 95, 102, 54, 52, 95, 117]⟩, 1⟩,
  ⟨64520, 1, ⟨#[]⟩, ⟨#[109, 101, 109, 111, 114, 121, 46, 105, 110, 105, 116]⟩, 5⟩,
  ⟨64521, 1, ⟨#[]⟩, ⟨#[100, 97, 116, 97, 46, 100, 114, 111, 112]⟩, 4⟩,
  ⟨64522, 1, ⟨#[]⟩, ⟨#[109, 101, 109, 111, 114, 121, 46, 99, 111, 112, 121]⟩, 5⟩,
  ⟨64523, 1, ⟨#[]⟩, ⟨#[109, 101, 109, 111, 114, 121, 46, 102, 105, 108, 108]⟩, 4⟩,
  ⟨64524, 1, ⟨#[]⟩, ⟨#[116, 97, 98, 108, 101, 46, 105, 110, 105, 116]⟩, 5⟩,
  ⟨64525, 1, ⟨#[]⟩, ⟨#[101, 108, 101, 109, 46, 100, 114, 111, 112]⟩, 4⟩,
  ⟨64526, 1, ⟨#[]⟩, ⟨#[116, 97, 98, 108, 101, 46, 99, 111, 112, 121]⟩, 5⟩,
  ⟨64527, 3, ⟨#[]⟩, ⟨#[116, 97, 98, 108, 101, 46, 103, 114, 111, 119, 32, 116, 97, 98, 108, 101, 46, 115, 105, 122, 101, 32, 116, 97, 98, 108, 101, 46, 102, 105, 108, 108]⟩, 4⟩]
theorem othP_is {H : Heap} : run (C k_instr_others []) H = some (.ok (.slice true false 5 (othP.map PRow.enc)) H) := by
  rw [instr_others_eq]
  exact trunc_same (by kernel_rfl)
def tabR : List RRow := [
  ⟨0, ⟨#[]⟩, ⟨#[117, 110, 114, 101, 97, 99, 104, 97, 98, 108, 101, 32, 110, 111, 112]⟩, ⟨#[45]⟩⟩,
  ⟨2, ⟨#[]⟩, ⟨#[98, 108, 111, 99, 107, 32, 108, 111, 111, 112, 32, 105, 102]⟩, ⟨#[98, 108, 111, 99, 107]⟩⟩,
  ⟨5, ⟨#[]⟩, ⟨#[101, 108, 115, 101]⟩, ⟨#[45]⟩⟩,
  ⟨8, ⟨#[]⟩, ⟨#[116, 104, 114, 111, 119]⟩, ⟨#[120]⟩⟩,
  ⟨10, ⟨#[]⟩, ⟨#[116, 104, 114, 111, 119, 95, 114, 101, 102, 32, 101, 110, 100]⟩, ⟨#[45]⟩⟩,
  ⟨12, ⟨#[]⟩, ⟨#[98, 114, 32, 98, 114, 95, 105, 102]⟩, ⟨#[120]⟩⟩,
  ⟨14, ⟨#[]⟩, ⟨#[98, 114, 95, 116, 97, 98, 108, 101]⟩, ⟨#[116, 97, 98, 108, 101]⟩⟩,
  ⟨15, ⟨#[]⟩, ⟨#[114, 101, 116, 117, 114, 110]⟩, ⟨#[45]⟩⟩,
  ⟨16, ⟨#[]⟩, ⟨#[99, 97, 108, 108]⟩, ⟨#[120]⟩⟩,
  ⟨17, ⟨#[]⟩, ⟨#[99, 97, 108, 108, 95, 105, 110, 100, 105, 114, 101, 99, 116]⟩, ⟨#[120, 121]⟩⟩,
  ⟨18, ⟨#[]⟩, ⟨#[114, 101, 116, 117, 114, 110, 95, 99, 97, 108, 108]⟩, ⟨#[120]⟩⟩,
  ⟨19, ⟨#[]⟩, ⟨#[114, 101, 116, 117, 114, 110, 95, 99, 97, 108, 108, 95, 105, 110, 100, 105, 114, 101, 99, 116]⟩, ⟨#[120, 121]⟩⟩,
  ⟨20, ⟨#[]⟩, ⟨#[99, 97, 108, 108, 95, 114, 101, 102, 32, 114, 101, 116, 117, 114, 110, 95, 99, 97, 108, 108, 95, 114, 101, 102]⟩, ⟨#[120]⟩⟩,
  ⟨26, ⟨#[]⟩, ⟨#[100, 114, 111, 112, 32, 115, 101, 108, 101, 99, 116]⟩, ⟨#[45]⟩⟩,
  ⟨28, ⟨#[]⟩, ⟨#[115, 101, 108, 101, 99, 116, 95, 116]⟩, ⟨#[115, 101, 108, 101, 99, 116]⟩⟩,
  ⟨31, ⟨#[]⟩, ⟨#[116, 114, 121, 95, 116, 97, 98, 108, 101]⟩, ⟨#[116, 114, 121]⟩⟩,
  ⟨32, ⟨#[]⟩, ⟨#[108, 111, 99, 97, 108, 46, 103, 101, 116, 32, 108, 111, 99, 97, 108, 46, 115, 101, 116, 32, 108, 111, 99, 97, 108, 46, 116, 101, 101, 32, 103, 108, 111, 98, 97, 108, 46, 103, 101, 116, 32, 103, 108, 111, 98, 97, 108, 46, 115, 101, 116, 32, 116, 97, 98, 108, 101, 46, 103, 101, 116, 32, 116, 97, 98, 108, 101, 46, 115, 101, 116]⟩, ⟨#[120]⟩⟩,
  ⟨40, ⟨#[]⟩, ⟨#[105, 51, 50, 46, 108, 111, 97, 100, 32, 105, 54, 52, 46, 108, 111, 97, 100, 32, 102, 51, 50, 46, 108, 111, 97, 100, 32, 102, 54, 52, 46, 108, 111, 97, 100, 32, 105, 51, 50, 46, 108, 111, 97, 100, 56, 95, 115, 32, 105, 51, 50, 46, 108, 111, 97, 100, 56, 95, 117, 32, 105, 51, 50, 46, 108, 111, 97, 100, 49, 54, 95, 115, 32, 105, 51, 50, 46, 108, 111, 97, 100, 49, 54, 95, 117, 32, 105, 54, 52, 46, 108, 111, 97, 100, 56, 95, 115, 32, 105, 54, 52, 46, 108, 111, 97, 100, 56, 95, 117, 32, 105, 54, 52, 46, 108, 111, 97, 100, 49, 54, 95, 115, 32, 105, 54, 52, 46, 108, 111, 97, 100, 49, 54, 95, 117, 32, 105, 54, 52, 46, 108, 111, 97, 100, 51, 50, 95, 115, 32, 105, 54, 52, 46, 108, 111, 97, 100, 51, 50, 95, 117, 32, 105, 51, 50, 46, 115, 116, 111, 114, 101, 32, 105, 54, 52, 46, 115, 116, 111, 114, 101, 32, 102, 51, 50, 46, 115, 116, 111, 114, 101, 32, 102, 54, 52, 46, 115, 116, 111, 114, 101, 32, 105, 51, 50, 46, 115, 116, 111, 114, 101, 56, 32, 105, 51, 50, 46, 115, 116, 111, 114, 101, 49, 54, 32, 105, 54, 52, 46, 115, 116, 111, 114, 101, 56, 32, 105, 54, 52, 46, 115, 116, 111, 114, 101, 49, 54, 32, 105, 54, 52, 46, 115, 116, 111, 114, 101, 51, 50]⟩, ⟨#[109, 101, 109]⟩⟩,
  ⟨63, ⟨#[]⟩, ⟨#[109, 101, 109, 111, 114, 121, 46, 115, 105, 122, 101, 32, 109, 101, 109, 111, 114, 121, 46, 103, 114, 111, 119]⟩, ⟨#[120]⟩⟩,
  ⟨65, ⟨#[]⟩, ⟨#[105, 51, 50, 46, 99, 111, 110, 115, 116]⟩, ⟨#[105, 51, 50]⟩⟩,
  ⟨66, ⟨#[]⟩, ⟨#[105, 54, 52, 46, 99, 111, 110, 115, 116]⟩, ⟨#[105, 54, 52]⟩⟩,
  ⟨67, ⟨#[]⟩, ⟨#[102, 51, 50, 46, 99, 111, 110, 115, 116]⟩, ⟨#[102, 51, 50]⟩⟩,
  ⟨68, ⟨#[]⟩, ⟨#[102, 54, 52, 46, 99, 111, 110, 115, 116]⟩, ⟨#[102, 54, 52]⟩⟩,
  ⟨69, ⟨#[105, 51, 50, 46]⟩, ⟨#[101, 113, 122, 32, 101, 113, 32, 110, 101, 32, 108, 116, 95, 115, 32, 108, 116, 95, 117, 32, 103, 116, 95, 115, 32, 103, 116, 95, 117, 32, 108, 101, 95, 115, 32, 108, 101, 95, 117, 32, 103, 101, 95, 115, 32, 103, 101, 95, 117]⟩, ⟨#[45]⟩⟩,
  ⟨80, ⟨#[105, 54, 52, 46]⟩, ⟨#[101, 113, 122, 32, 101, 113, 32, 110, 101, 32, 108, 116, 95, 115, 32, 108, 116, 95, 117, 32, 103, 116, 95, 115, 32, 103, 116, 95, 117, 32, 108, 101, 95, 115, 32, 108, 101, 95, 117, 32, 103, 101, 95, 115, 32, 103, 101, 95, 117]⟩, ⟨#[45]⟩⟩,
  ⟨91, ⟨#[102, 51, 50, 46]⟩, ⟨#[101, 113, 32, 110, 101, 32, 108, 116, 32, 103, 116, 32, 108, 101, 32, 103, 101]⟩, ⟨#[45]⟩⟩,
  ⟨97, ⟨#[102, 54, 52, 46]⟩, ⟨#[101, 113, 32, 110, 101, 32, 108, 116, 32, 103, 116, 32, 108, 101, 32, 103, 101]⟩, ⟨#[45]⟩⟩,
  ⟨103, ⟨#[105, 51, 50, 46]⟩, ⟨#[99, 108, 122, 32, 99, 116, 122, 32, 112, 111, 112, 99, 110, 116, 32, 97, 100, 100, 32, 115, 117, 98, 32, 109, 117, 108, 32, 100, 105, 118, 95, 115, 32, 100, 105, 118, 95, 117, 32, 114, 101, 109, 95, 115, 32, 114, 101, 109, 95, 117, 32, 97, 110, 100, 32, 111, 114, 32, 120, 111, 114, 32, 115, 104, 108, 32, 115, 104, 114, 95, 115, 32, 115, 104, 114, 95, 117, 32, 114, 111, 116, 108, 32, 114, 111, 116, 114]⟩, ⟨#[45]⟩⟩,
  ⟨121, ⟨#[105, 54, 52, 46]⟩, ⟨#[99, 108, 122, 32, 99, 116, 122, 32, 112, 111, 112, 99, 110, 116, 32, 97, 100, 100, 32, 115, 117, 98, 32, 109, 117, 108, 32, 100, 105, 118, 95, 115, 32, 100, 105, 118, 95, 117, 32, 114, 101, 109, 95, 115, 32, 114, 101, 109, 95, 117, 32, 97, 110, 100, 32, 111, 114, 32, 120, 111, 114, 32, 115, 104, 108, 32, 115, 104, 114, 95, 115, 32, 115, 104, 114, 95, 117, 32, 114, 111, 116, 108, 32, 114, 111, 116, 114]⟩, ⟨#[45]⟩⟩,
  ⟨139, ⟨#[102, 51, 50, 46]⟩, ⟨#[97, 98, 115, 32, 110, 101, 103, 32, 99, 101, 105, 108, 32, 102, 108, 111, 111, 114, 32, 116, 114, 117, 110, 99, 32, 110, 101, 97, 114, 101, 115, 116, 32, 115, 113, 114, 116, 32, 97, 100, 100, 32, 115, 117, 98, 32, 109, 117, 108, 32, 100, 105, 118, 32, 109, 105, 110, 32, 109, 97, 120, 32, 99, 111, 112, 121, 115, 105, 103, 110]⟩, ⟨#[45]⟩⟩,
  ⟨153, ⟨#[102, 54, 52, 46]⟩, ⟨#[97, 98, 115, 32, 110, 101, 103, 32, 99, 101, 105, 108, 32, 102, 108, 111, 111, 114, 32, 116, 114, 117, 110, 99, 32, 110, 101, 97, 114, 101, 115, 116, 32, 115, 113, 114, 116, 32, 97, 100, 100, 32, 115, 117, 98, 32, 109, 117, 108, 32, 100, 105, 118, 32, 109, 105, 110, 32, 109, 97, 120, 32, 99, 111, 112, 121, 115, 105, 103, 110]⟩, ⟨#[45]⟩⟩,
  ⟨167, ⟨#[105, 51, 50, 46]⟩, ⟨#[119, 114, 97, 112, 95, 105, 54, 52, 32, 116, 114, 117, 110, 99, 95, 102, 51, 50, 95, 115, 32, 116, 114, 117, 110, 99, 95, 102, 51, 50, 95, 117, 32, 116, 114, 117, 110, 99, 95, 102, 54, 52, 95, 115, 32, 116, 114, 117, 110, 99, 95, 102, 54, 52, 95, 117]⟩, ⟨#[45]⟩⟩,
  ⟨172, ⟨#[105, 54, 52, 46]⟩, ⟨#[101, 120, 116, 101, 110, 100, 95, 105, 51, 50, 95, 115, 32, 101, 120, 116, 101, 110, 100, 95, 105, 51, 50, 95, 117, 32, 116, 114, 117, 110, 99, 95, 102, 51, 50, 95, 115, 32, 116, 114, 117, 110, 99, 95, 102, 51, 50, 95, 117, 32, 116, 114, 117, 110, 99, 95, 102, 54, 52, 95, 115, 32, 116, 114, 117, 110, 99, 95, 102, 54, 52, 95, 117]⟩, ⟨#[45]⟩⟩,
  ⟨178, ⟨#[102, 51, 50, 46]⟩, ⟨#[99, 111, 110, 118, 101, 114, 116, 95, 105, 51, 50, 95, 115, 32, 99, 111, 110, 118, 101, 114, 116, 95, 105, 51, 50, 95, 117, 32, 99, 111, 110, 118, 101, 114, 116, 95, 105, 54, 52, 95, 115, 32, 99, 111, 110, 118, 101, 114, 116, 95, 105, 54, 52, 95, 117, 32, 100, 101, 109, 111, 116, 101, 95, 102, 54, 52]⟩, ⟨#[45]⟩⟩,
  ⟨183, ⟨#[102, 54, 52, 46]⟩, ⟨#[99, 111, 110, 118, 101, 114, 116, 95, 105, 51, 50, 95, 115, 32, 99, 111, 110, 118, 101, 114, 116, 95, 105, 51, 50, 95, 117, 32, 99, 111, 110, 118, 101, 114, 116, 95, 105, 54, 52, 95, 115, 32, 99, 111, 110, 118, 101, 114, 116, 95, 105, 54, 52, 95, 117, 32, 112, 114, 111, 109, 111, 116, 101, 95, 102, 51, 50]⟩, ⟨#[45]⟩⟩,
  ⟨188, ⟨#[]⟩, ⟨#[105, 51, 50, 46, 114, 101, 105, 110, 116, 101, 114, 112, 114, 101, 116, 95, 102, 51, 50, 32, 105, 54, 52, 46, 114, 101, 105, 110, 116, 101, 114, 112, 114, 101, 116, 95, 102, 54, 52, 32, 102, 51, 50, 46, 114, 101, 105, 110, 116, 101, 114, 112, 114, 101, 116, 95, 105, 51, 50, 32, 102, 54, 52, 46, 114, 101, 105, 110, 116, 101, 114, 112, 114, 101, 116, 95, 105, 54, 52]⟩, ⟨#[45]⟩⟩,
  ⟨192, ⟨#[]⟩, ⟨#[105, 51, 50, 46, 101, 120, 116, 101, 110, 100, 56, 95, 115, 32, 105, 51, 50, 46, 101, 120, 116, 101, 110, 100, 49, 54, 95, 115, 32, 105, 54, 52, 46, 101, 120, 116, 101, 110, 100, 56, 95, 115, 32, 105, 54, 52, 46, 101, 120, 116, 101, 110, 100, 49, 54, 95, 115, 32, 105, 54, 52, 46, 101, 120, 116, 101, 110, 100, 51, 50, 95, 115]⟩, ⟨#[45]⟩⟩]
theorem tabR_is {H : Heap} : run (C k_ratchetref09_table []) H = some (.ok (.slice true false 4 (tabR.map RRow.enc)) H) := by
  rw [ratchetref09_table_eq]
  exact trunc_same (by kernel_rfl)
def refR : List RRow := [
  ⟨208, ⟨#[]⟩, ⟨#[114, 101, 102, 46, 110, 117, 108, 108]⟩, ⟨#[104, 101, 97, 112]⟩⟩,
  ⟨209, ⟨#[]⟩, ⟨#[114, 101, 102, 46, 105, 115, 95, 110, 117, 108, 108]⟩, ⟨#[45]⟩⟩,
  ⟨210, ⟨#[]⟩, ⟨#[114, 101, 102, 46, 102, 117, 110, 99]⟩, ⟨#[120]⟩⟩,
  ⟨211, ⟨#[]⟩, ⟨#[114, 101, 102, 46, 101, 113, 32, 114, 101, 102, 46, 97, 115, 95, 110, 111, 110, 95, 110, 117, 108, 108]⟩, ⟨#[45]⟩⟩,
  ⟨213, ⟨#[]⟩, ⟨#[98, 114, 95, 111, 110, 95, 110, 117, 108, 108, 32, 98, 114, 95, 111, 110, 95, 110, 111, 110, 95, 110, 117, 108, 108]⟩, ⟨#[120]⟩⟩,
  ⟨64256, ⟨#[]⟩, ⟨#[115, 116, 114, 117, 99, 116, 46, 110, 101, 119, 32, 115, 116, 114, 117, 99, 116, 46, 110, 101, 119, 95, 100, 101, 102, 97, 117, 108, 116]⟩, ⟨#[120]⟩⟩,
  ⟨64258, ⟨#[]⟩, ⟨#[115, 116, 114, 117, 99, 116, 46, 103, 101, 116, 32, 115, 116, 114, 117, 99, 116, 46, 103, 101, 116, 95, 115, 32, 115, 116, 114, 117, 99, 116, 46, 103, 101, 116, 95, 117, 32, 115, 116, 114, 117, 99, 116, 46, 115, 101, 116]⟩, ⟨#[120, 121]⟩⟩,
  ⟨64262, ⟨#[]⟩, ⟨#[97, 114, 114, 97, 121, 46, 110, 101, 119, 32, 97, 114, 114, 97, 121, 46, 110, 101, 119, 95, 100, 101, 102, 97, 117, 108, 116]⟩, ⟨#[120]⟩⟩,
  ⟨64264, ⟨#[]⟩, ⟨#[97, 114, 114, 97, 121, 46, 110, 101, 119, 95, 102, 105, 120, 101, 100]⟩, ⟨#[120, 110]⟩⟩,
  ⟨64265, ⟨#[]⟩, ⟨#[97, 114, 114, 97, 121, 46, 110, 101, 119, 95, 100, 97, 116, 97, 32, 97, 114, 114, 97, 121, 46, 110, 101, 119, 95, 101, 108, 101, 109]⟩, ⟨#[120, 121]⟩⟩,
  ⟨64267, ⟨#[]⟩, ⟨#[97, 114, 114, 97, 121, 46, 103, 101, 116, 32, 97, 114, 114, 97, 121, 46, 103, 101, 116, 95, 115, 32, 97, 114, 114, 97, 121, 46, 103, 101, 116, 95, 117, 32, 97, 114, 114, 97, 121, 46, 115, 101, 116]⟩, ⟨#[120]⟩⟩,
  ⟨64271, ⟨#[]⟩, ⟨#[97, 114, 114, 97, 121, 46, 108, 101, 110]⟩, ⟨#[45]⟩⟩,
  ⟨64272, ⟨#[]⟩, ⟨#[97, 114, 114, 97, 121, 46, 102, 105, 108, 108]⟩, ⟨#[120]⟩⟩,
  ⟨64273, ⟨#[]⟩, ⟨#[97, 114, 114, 97, 121, 46, 99, 111, 112, 121, 32, 97, 114, 114, 97, 121, 46, 105, 110, 105, 116, 95, 100, 97, 116, 97, 32, 97, 114, 114, 97, 121, 46, 105, 110, 105, 116, 95, 101, 108, 101, 109]⟩, ⟨#[120, 121]⟩⟩,
  ⟨64276, ⟨#[]⟩, ⟨#[114, 101, 102, 46, 116, 101, 115, 116, 32, 114, 101, 102, 46, 116, 101, 115, 116, 95, 110, 117, 108, 108, 32, 114, 101, 102, 46, 99, 97, 115, 116, 32, 114, 101, 102, 46, 99, 97, 115, 116, 95, 110, 117, 108, 108]⟩, ⟨#[99, 97, 115, 116]⟩⟩,
  ⟨64280, ⟨#[]⟩, ⟨#[98, 114, 95, 111, 110, 95, 99, 97, 115, 116, 32, 98, 114, 95, 111, 110, 95, 99, 97, 115, 116, 95, 102, 97, 105, 108]⟩, ⟨#[98, 114, 95, 99, 97, 115, 116]⟩⟩,
  ⟨64282, ⟨#[]⟩, ⟨#[97, 110, 121, 46, 99, 111, 110, 118, 101, 114, 116, 95, 101, 120, 116, 101, 114, 110, 32, 101, 120, 116, 101, 114, 110, 46, 99, 111, 110, 118, 101, 114, 116, 95, 97, 110, 121, 32, 114, 101, 102, 46, 105, 51, 49, 32, 105, 51, 49, 46, 103, 101, 116, 95, 115, 32, 105, 51, 49, 46, 103, 101, 116, 95, 117]⟩, ⟨#[45]⟩⟩,
  ⟨64512, ⟨#[]⟩, ⟨#[105, 51, 50, 46, 116, 114, 117, 110, 99, 95, 115, 97, 116, 95, 102, 51, 50, 95, 115, 32, 105, 51, 50, 46, 116, 114, 117, 110, 99, 95, 115, 97, 116, 95, 102, 51, 50, 95, 117, 32, 105, 51, 50, 46, 116, 114, 117, 110, 99, 95, 115, 97, 116, 95, 102, 54, 52, 95, 115, 32, 105, 51, 50, 46, 116, 114, 117, 110, 99, 95, 115, 97, 116, 95, 102, 54, 52, 95, 117, 32, 105, 54, 52, 46, 116, 114, 117, 110, 99, 95, 115, 97, 116, 95, 102, 51, 50, 95, 115, 32, 105, 54, 52, 46, 116, 114, 117, 110, 99, 95, 115, 97, 116, 95, 102, 51, 50, 95, 117, 32, 105, 54, 52, 46, 116, 114, 117, 110, 99, 95, 115, 97, 116, 95, 102, 54, 52, 95, 115, 32, 105, 54, 52, 46, 116, 114, 117, 110, 99, 95, 115, 97, 116, 95, 102, 54, 52, 95, 117]⟩, ⟨#[45]⟩⟩,
  ⟨64520, ⟨#[]⟩, ⟨#[109, 101, 109, 111, 114, 121, 46, 105, 110, 105, 116]⟩, ⟨#[120, 121]⟩⟩,
  ⟨64521, ⟨#[]⟩, ⟨#[100, 97, 116, 97, 46, 100, 114, 111, 112]⟩, ⟨#[120]⟩⟩,
  ⟨64522, ⟨#[]⟩, ⟨#[109, 101, 109, 111, 114, 121, 46, 99, 111, 112, 121]⟩, ⟨#[120, 121]⟩⟩,
  ⟨64523, ⟨#[]⟩, ⟨#[109, 101, 109, 111, 114, 121, 46, 102, 105, 108, 108]⟩, ⟨#[120]⟩⟩,
  ⟨64524, ⟨#[]⟩, ⟨#[116, 97, 98, 108, 101, 46, 105, 110, 105, 116]⟩, ⟨#[120, 121]⟩⟩,
  ⟨64525, ⟨#[]⟩, ⟨#[101, 108, 101, 109, 46, 100, 114, 111, 112]⟩, ⟨#[120]⟩⟩,
  ⟨64526, ⟨#[]⟩, ⟨#[116, 97, 98, 108, 101, 46, 99, 111, 112, 121]⟩, ⟨#[120, 121]⟩⟩,
  ⟨64527, ⟨#[]⟩, ⟨#[116, 97, 98, 108, 101, 46, 103, 114, 111, 119, 32, 116, 97, 98, 108, 101, 46, 115, 105, 122, 101, 32, 116, 97, 98, 108, 101, 46, 102, 105, 108, 108]⟩, ⟨#[120]⟩⟩]
theorem refR_is {H : Heap} : run (C k_ratchetref09_refs []) H = some (.ok (.slice true false 4 (refR.map RRow.enc)) H) := by
  rw [ratchetref09_refs_eq]
  exact trunc_same (by kernel_rfl)
end Go.Proofs.Ythidcpkcfoldmaa.Pi.Q
