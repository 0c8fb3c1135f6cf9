/- Whole numbers in digits of seven bits: laws of arithmetic and of lists, without any program. -/
import Derived.Test.YteajikofpcnagaaWMore
import Derived.Laws.BitsAllLaws
import Derived.Laws.BitsLemmas
import Derived.RowKit
namespace Go.Proofs.Yteajikofpcnagaa.LM
set_option linter.unusedVariables false
set_option linter.unusedSimpArgs false
open Go.RowKit Go.Proofs.YteajikofpcnagaaW.PrintWords Go.Proofs.YteajikofpcnagaaW.PrintLast Go.Proofs.YteajikofpcnagaaW.PrintMore

theorem w64_in {x : Int} (h0 : -9223372036854775808 ≤ x) (h1 : x < 9223372036854775808) : wrap64 x = x := by unfold wrap64; omega
theorem wu64_in {x : Int} (h0 : 0 ≤ x) (h1 : x < 18446744073709551616) : IntKind.u64.wrap x = x := by rw [IntKind.wrap_u64]; omega
theorem wu64 (x : Int) : IntKind.u64.wrap x = x % 18446744073709551616 := IntKind.wrap_u64 x
theorem or128_nat : ∀ y, y < 256 → y ||| 128 = y % 128 + 128 := by decide +kernel
theorem and64_nat : ∀ y, y < 256 → y &&& 64 = if y % 128 < 64 then 0 else 64 := by decide +kernel
theorem and127_nat (y : Nat) : y &&& 127 = y % 128 := Nat.and_two_pow_sub_one_eq_mod y 7
theorem and127 {c : Int} (h0 : 0 ≤ c) (h1 : c < 256) : bits .and .u8 c 127 = c % 128 := by
  rw [u8_and c 127 h0 h1 (by omega) (by omega)]
  have e : (127 : Int).toNat = 127 := rfl
  rw [e, and127_nat]; omega
theorem and64 {c : Int} (h0 : 0 ≤ c) (h1 : c < 256) : bits .and .u8 c 64 = if c % 128 < 64 then 0 else 64 := by
  rw [u8_and c 64 h0 h1 (by omega) (by omega)]
  have e : (64 : Int).toNat = 64 := rfl
  rw [e, and64_nat _ (by omega)]
  split <;> split <;> omega
theorem or128 {c : Int} (h0 : 0 ≤ c) (h1 : c < 256) : bits .or .u8 c 128 = c % 128 + 128 := by
  rw [u8_or c 128 h0 h1 (by omega) (by omega)]
  have e : (128 : Int).toNat = 128 := rfl
  rw [e, or128_nat _ (by omega)]; omega
theorem nat_join' (i x y : Nat) (hx : x % 2 ^ i = 0) (hy : y < 2 ^ i) : y ||| x = y + x := by
  rw [Nat.or_comm, nat_join i x y hx hy]; omega
theorem pow_pos' (s : Nat) : (0 : Int) < 2 ^ s := Int.pow_pos (by omega)
theorem toNat_pow (s : Nat) : ((2 : Int) ^ s).toNat = 2 ^ s := by
  have : ((2 : Int) ^ s) = ((2 ^ s : Nat) : Int) := by simp
  rw [this]; exact Int.toNat_natCast _
/-- Bits above and bits below: their union is their sum. -/
theorem or_u64 {n m : Int} (s : Nat) (hn : 0 ≤ n) (hs : n < 2 ^ s) (hm : 0 ≤ m) (hb : n + m * 2 ^ s < 18446744073709551616) : bits .or .u64 n (m * 2 ^ s) = n + m * 2 ^ s := by
  have hp := pow_pos' s
  have hq : 0 ≤ m * 2 ^ s := Int.mul_nonneg hm (Int.le_of_lt hp)
  rw [u64_or n _ hn (by omega) hq (by omega)]
  obtain ⟨a, rfl⟩ := Int.eq_ofNat_of_zero_le hn
  obtain ⟨b, rfl⟩ := Int.eq_ofNat_of_zero_le hm
  have e : ((b : Int) * 2 ^ s) = ((b * 2 ^ s : Nat) : Int) := by simp
  rw [e, Int.toNat_natCast, Int.toNat_natCast, nat_join' s _ _ (Nat.mul_mod_left _ _) ?_]
  · simp
  · have h2 : ((a : Nat) : Int) < ((2 ^ s : Nat) : Int) := by simpa using hs
    exact Int.ofNat_lt.1 h2
theorem ofInt_emod (a : Int) : BitVec.ofInt 64 (a % 18446744073709551616) = BitVec.ofInt 64 a := by
  apply BitVec.eq_of_toNat_eq
  rw [BitVec.toNat_ofInt, BitVec.toNat_ofInt]
  have e : ((2 ^ 64 : Nat) : Int) = 18446744073709551616 := rfl
  rw [e, Int.emod_emod_of_dvd _ (Int.dvd_refl _)]
/-- The union of two signed numbers is the union of their bits. -/
theorem or_i64 (a b : Int) : bits .or .i64 a b = wrap64 (bits .or .u64 (a % 18446744073709551616) (b % 18446744073709551616)) := by
  have e1 : bits .or .i64 a b = IntKind.i64.wrap ((BitVec.ofInt 64 a ||| BitVec.ofInt 64 b).toNat : Int) := rfl
  have e2 : bits .or .u64 (a % 18446744073709551616) (b % 18446744073709551616) = IntKind.u64.wrap ((BitVec.ofInt 64 (a % 18446744073709551616) ||| BitVec.ofInt 64 (b % 18446744073709551616)).toNat : Int) := rfl
  rw [e1, e2, ofInt_emod, ofInt_emod, IntKind.wrap_i64, IntKind.wrap_u64]
  have := (BitVec.ofInt 64 a ||| BitVec.ofInt 64 b).isLt
  unfold wrap64
  omega
theorem pow64 {s : Nat} (h : s ≤ 64) : (18446744073709551616 : Int) = 2 ^ (64 - s) * 2 ^ s := by
  rw [← Int.pow_add, Nat.sub_add_cancel h]; rfl
theorem shifted_mod (x : Int) {s : Nat} (h : s ≤ 64) : (x * 2 ^ s) % 18446744073709551616 = (x % 2 ^ (64 - s)) * 2 ^ s := by
  rw [pow64 h, Int.mul_comm x, Int.mul_comm (2 ^ (64 - s)), Int.mul_emod_mul_of_pos _ _ (pow_pos' s), Int.mul_comm]
theorem wrap64_emod (x : Int) : wrap64 x % 18446744073709551616 = x % 18446744073709551616 := by unfold wrap64; omega
theorem wrap64_congr {x y : Int} (h : x % 18446744073709551616 = y % 18446744073709551616) : wrap64 x = wrap64 y := by unfold wrap64; omega
theorem pow_le64 {s : Nat} (h : s ≤ 64) : (2 : Int) ^ s ≤ 18446744073709551616 := by
  have h1 := pow64 h
  have h2 := pow_pos' s
  have h3 := pow_pos' (64 - s)
  have h4 : 1 * (2 : Int) ^ s ≤ 2 ^ (64 - s) * 2 ^ s := Int.mul_le_mul_of_nonneg_right (by omega) (by omega)
  omega
/-- Digits joined in a signed word. -/
theorem or_digit {N x : Int} {s : Nat} (hs : s ≤ 63) (h0 : 0 ≤ N) (h1 : N < 2 ^ s) : bits .or .i64 (wrap64 N) (wrap64 (x * 2 ^ s)) = wrap64 (N + x * 2 ^ s) := by
  have hp := pow_le64 (show s ≤ 64 by omega)
  have hq := pow_pos' s
  have hr := pow_pos' (64 - s)
  have hm0 := Int.emod_nonneg x (show (2 : Int) ^ (64 - s) ≠ 0 by omega)
  have hm1 := Int.emod_lt_of_pos x hr
  have hN : N % 18446744073709551616 = N := by omega
  have hb : N + (x % 2 ^ (64 - s)) * 2 ^ s < 18446744073709551616 := by
    have h2 : (x % 2 ^ (64 - s) + 1) * 2 ^ s ≤ 2 ^ (64 - s) * 2 ^ s := Int.mul_le_mul_of_nonneg_right (by omega) (by omega)
    rw [← pow64 (show s ≤ 64 by omega), Int.add_mul] at h2
    omega
  rw [or_i64, wrap64_emod, wrap64_emod, hN, shifted_mod x (by omega), or_u64 s h0 h1 hm0 hb]
  apply wrap64_congr
  rw [Int.add_emod, ← shifted_mod x (by omega), Int.emod_emod_of_dvd _ (Int.dvd_refl _), ← Int.add_emod]
theorem min64 {s : Nat} (hs : s ≤ 63) : min ((s : Int).toNat) 64 = s := by rw [Int.toNat_natCast]; omega
theorem bits_u64_64 : IntKind.u64.bits = 64 := rfl
theorem bits_i64_64 : IntKind.i64.bits = 64 := rfl
/-- One more digit of an unsigned number. -/
theorem join_u64 {n x : Int} {s : Nat} (hs : s ≤ 63) (h0 : 0 ≤ n) (h1 : n < 2 ^ s) (hx0 : 0 ≤ x) (hx1 : x < 2 ^ (64 - s)) :
    bits .or .u64 n (shl .u64 (IntKind.u64.wrap x) (s : Int)) = n + x * 2 ^ s ∧ n + x * 2 ^ s < 18446744073709551616 := by
  have hq := pow_pos' s
  have hb : n + x * 2 ^ s < 18446744073709551616 := by
    have h2 : (x + 1) * 2 ^ s ≤ 2 ^ (64 - s) * 2 ^ s := Int.mul_le_mul_of_nonneg_right (by omega) (by omega)
    rw [← pow64 (show s ≤ 64 by omega), Int.add_mul] at h2
    omega
  have hx2 : x < 18446744073709551616 := by
    have := pow_le64 (show 64 - s ≤ 64 by omega)
    omega
  have hnn : 0 ≤ x * 2 ^ s := Int.mul_nonneg hx0 (by omega)
  refine ⟨?_, hb⟩
  unfold shl
  rw [bits_u64_64, min64 hs, wu64_in hx0 hx2, wu64_in hnn (by omega), or_u64 s h0 h1 hx0 hb]
/-- One more digit of a signed number. -/
theorem join_i64 {N x : Int} {s : Nat} (hs : s ≤ 63) (h0 : 0 ≤ N) (h1 : N < 2 ^ s) (hx0 : 0 ≤ x) (hx1 : x < 128) :
    bits .or .i64 (wrap64 N) (shl .i64 (wrap64 x) (s : Int)) = wrap64 (N + x * 2 ^ s) := by
  unfold shl
  rw [bits_i64_64, min64 hs, w64_in (x := x) (by omega) (by omega)]
  have e : IntKind.i64.wrap (x * 2 ^ s) = wrap64 (x * 2 ^ s) := by unfold wrap64; rw [IntKind.wrap_i64]
  rw [e, or_digit hs h0 h1]
/-- The sign filled up. -/
theorem join_sign {N : Int} {s : Nat} (hs : s ≤ 63) (h0 : 0 ≤ N) (h1 : N < 2 ^ s) : bits .or .i64 (wrap64 N) (shl .i64 (-1) (s : Int)) = wrap64 (N - 2 ^ s) := by
  unfold shl
  rw [bits_i64_64, min64 hs]
  have e : IntKind.i64.wrap (-1 * 2 ^ s) = wrap64 (-1 * 2 ^ s) := by unfold wrap64; rw [IntKind.wrap_i64]
  rw [e, or_digit hs h0 h1]
  congr 1; omega
/-- Bytes: each below 256. -/
def Bytes (l : List Int) : Prop := ∀ x ∈ l, 0 ≤ x ∧ x < 256
theorem rd_byte {l : List Int} (h : Bytes l) (p : Int) : 0 ≤ rd l p ∧ rd l p < 256 := by
  unfold rd
  rw [List.getD_eq_getElem?_getD]
  cases e : l[p.toNat]? with
  | none => simp
  | some x => simp; exact h x (List.mem_of_getElem? e)
theorem rd_at (pre : List Int) (c : Int) (post : List Int) : rd (pre ++ c :: post) (pre.length : Int) = c := by
  unfold rd; simp
/-- An unsigned number read: i digits are known (n), the next one stands at p. -/
def US (B : Nat) (l : List Int) (e : Int) : Nat → Nat → Int → Int → Int × Int × Int
  | 0, _, _, p => (0, p, 4)
  | f + 1, i, n, p => if p ≥ e then (0, e, 3) else if B < 7 * i + 7 ∧ rd l p / 2 ^ (B - 7 * i) ≠ 0 then (0, p, 4) else if rd l p < 128 then (n + rd l p * 2 ^ (7 * i), p + 1, 0) else US B l e f (i + 1) (n + rd l p % 128 * 2 ^ (7 * i)) (p + 1)
/-- Are a signed number's last bits as they must be? h: how many of them belong to the number. -/
def okS (h : Nat) (c : Int) : Prop := c < 128 ∧ (c / 2 ^ (h - 1) = 0 ∨ c / 2 ^ (h - 1) = 2 ^ (8 - h) - 1)
instance (h : Nat) (c : Int) : Decidable (okS h c) := by unfold okS; infer_instance
/-- A signed number read. -/
def SS (B : Nat) (l : List Int) (e : Int) : Nat → Nat → Int → Int → Int × Int × Int
  | 0, _, _, p => (0, p, 4)
  | f + 1, i, n, p => if p ≥ e then (0, e, 3) else if B < 7 * i + 7 ∧ ¬ okS (B - 7 * i) (rd l p) then (0, p, 4) else if rd l p < 128 then (n + (if rd l p < 64 then rd l p else rd l p - 128) * 2 ^ (7 * i), p + 1, 0) else SS B l e f (i + 1) (n + rd l p % 128 * 2 ^ (7 * i)) (p + 1)
end Go.Proofs.Yteajikofpcnagaa.LM
