/- Numbers are written in their shortest bytes: the plain statement. -/
import Derived.Test.YteajikofpcnagaaLP
import Derived.Test.YteajikofpcnagaaLeb1
namespace Go.Proofs.Yteajikofpcnagaa.Pure
set_option linter.unusedVariables false
set_option linter.unusedSimpArgs false
open Go.RowKit Go.Proofs.YteajikofpcnagaaW.PrintWords Go.Proofs.YteajikofpcnagaaW.PrintLast Go.Proofs.YteajikofpcnagaaW.PrintMore Go.Proofs.Yteajikofpcnagaa.LM Go.Proofs.Yteajikofpcnagaa.LP Go.Proofs.Yteajikofpcnagaa.Leb

theorem same_self (l : List Int) : ratchetlaw01_same.f l l = some true := by unfold ratchetlaw01_same.f; simp
theorem refU_is : ∀ (f n : Nat) (acc : List Int) (k : Nat), n < 2 ^ (7 * (f + 1)) → n < 18446744073709551616 → f + 1 ≤ k → acc.length + f < 1000 → ratchetref01_PutU.l0 k (n : Int) acc = some (acc ++ du n) := by
  intro f
  induction f with
  | zero =>
    intro n acc k h h64 hk ha
    obtain ⟨k, rfl⟩ : ∃ m, k = m + 1 := ⟨k - 1, by omega⟩
    have h : n < 128 := by simpa using h
    rw [ratchetref01_PutU.l0, if_neg (by omega), if_pos (by omega), du_small h]
    have : (n : Int) % 256 = n := by omega
    rw [this]
  | succ f ih =>
    intro n acc k h h64 hk ha
    obtain ⟨k, rfl⟩ : ∃ m, k = m + 1 := ⟨k - 1, by omega⟩
    by_cases h1 : n < 128
    · rw [ratchetref01_PutU.l0, if_neg (by omega), if_pos (by omega), du_small h1]
      have : (n : Int) % 256 = n := by omega
      rw [this]
    · rw [pow128] at h
      have e1 : IntKind.u64.wrap (Int.tdiv (n : Int) 128) = ((n / 128 : Nat) : Int) := by
        rw [Int.tdiv_eq_ediv_of_nonneg (by omega), wu64_in (by omega) (by omega)]; omega
      have e2 : (Int.tmod (n : Int) 128 + 128) % 256 = ((n % 128 + 128 : Nat) : Int) := by
        rw [Int.tmod_eq_emod_of_nonneg (by omega)]; omega
      rw [ratchetref01_PutU.l0, if_pos (by omega), if_pos (by omega), e1, e2, ih (n / 128) _ k (by omega) (by omega) (by omega) (by simp; omega), du_more h1]
      simp
theorem and_i64_127 (x : Int) : bits .and .i64 x 127 = x % 128 := by
  have e1 : bits .and .i64 x 127 = IntKind.i64.wrap ((BitVec.ofInt 64 x &&& BitVec.ofInt 64 127).toNat : Int) := rfl
  have e2 : (BitVec.ofInt 64 127).toNat = 127 := rfl
  rw [e1, BitVec.toNat_and, e2, and127_nat, BitVec.toNat_ofInt, IntKind.wrap_i64]
  have e3 : ((2 ^ 64 : Nat) : Int) = 18446744073709551616 := rfl
  rw [e3]
  omega
theorem refS_is : ∀ (f : Nat) (n : Int) (acc : List Int) (k : Nat), -(64 * 2 ^ (7 * f)) ≤ n → n < 64 * 2 ^ (7 * f) → f + 1 ≤ k → acc.length + f < 1000 → ratchetref01_PutS.l0 k n acc = some (acc ++ ds n) := by
  intro f
  induction f with
  | zero =>
    intro n acc k h h2 hk ha
    obtain ⟨k, rfl⟩ : ∃ m, k = m + 1 := ⟨k - 1, by omega⟩
    simp at h h2
    have : n % 128 % 256 = n % 128 := by omega
    rw [ratchetref01_PutS.l0, if_neg (by omega), if_neg (by omega), if_pos (by omega), ds_small (n := n) (by omega), and_i64_127, this]
  | succ f ih =>
    intro n acc k h h2 hk ha
    obtain ⟨k, rfl⟩ : ∃ m, k = m + 1 := ⟨k - 1, by omega⟩
    have e : (2 : Int) ^ (7 * (f + 1)) = 128 * 2 ^ (7 * f) := by rw [Nat.mul_add, Int.pow_add, Int.mul_comm]; rfl
    rw [e] at h h2
    have e2 : n % 128 % 256 = n % 128 := by omega
    have e3 : (n % 128 + 128) % 256 = n % 128 + 128 := by omega
    by_cases h3 : n < -64
    · rw [ratchetref01_PutS.l0, if_pos h3, if_pos (by omega), and_i64_127, e3, ih (n / 128) _ k (by omega) (by omega) (by omega) (by simp; omega), ds_more (n := n) (by omega)]
      simp
    by_cases h4 : n > 63
    · rw [ratchetref01_PutS.l0, if_neg h3, if_pos h4, if_pos (by omega), and_i64_127, e3, ih (n / 128) _ k (by omega) (by omega) (by omega) (by simp; omega), ds_more (n := n) (by omega)]
      simp
    rw [ratchetref01_PutS.l0, if_neg h3, if_neg h4, if_pos (by omega), ds_small (n := n) (by omega), and_i64_127, e2]
theorem refPutU_is {n : Int} (h0 : 0 ≤ n) (h1 : n < 18446744073709551616) {k : Nat} (hk : 10 ≤ k) : ratchetref01_PutU.f k n = some (du n.toNat) := by
  unfold ratchetref01_PutU.f
  obtain ⟨m, rfl⟩ := Int.eq_ofNat_of_zero_le h0
  rw [refU_is 9 m [] k (by show m < 2 ^ 70; omega) (by omega) (by omega) (by simp)]
  simp
theorem refPutS_is {n : Int} (h0 : -9223372036854775808 ≤ n) (h1 : n < 9223372036854775808) {k : Nat} (hk : 10 ≤ k) : ratchetref01_PutS.f k n = some (ds n) := by
  unfold ratchetref01_PutS.f
  rw [refS_is 9 n [] k (by show -(64 * 2 ^ 63) ≤ n; omega) (by show n < 64 * 2 ^ 63; omega) (by omega) (by simp)]
  simp
/-- The bytes of a word, the lowest first. -/
def le : Nat → Int → List Int
  | 0, _ => []
  | j + 1, n => n % 256 :: le j (n / 256)
theorem bits_is {m : Int} (hm : m < 1000) : ∀ (j : Nat) (x : Int) (acc : List Int) (i : Int) (k : Nat), i + j = m → 0 ≤ i → j + 1 ≤ k → acc.length + j < 1000 → leb_bits.l0 k x acc m i = some (acc ++ le j x) := by
  intro j
  induction j with
  | zero =>
    intro x acc i k hi h0 hk ha
    obtain ⟨k, rfl⟩ : ∃ m, k = m + 1 := ⟨k - 1, by omega⟩
    rw [leb_bits.l0, if_neg (by omega), le]; simp
  | succ j ih =>
    intro x acc i k hi h0 hk ha
    obtain ⟨k, rfl⟩ : ∃ m, k = m + 1 := ⟨k - 1, by omega⟩
    rw [leb_bits.l0, if_pos (by omega), if_pos (by omega), w64_in (by omega) (by omega), ih _ _ (i + 1) k (by omega) (by omega) (by omega) (by simp; omega), le]
    simp
theorem fixed_is {m : Int} (hm : m < 1000) : ∀ (j : Nat) (x : Int) (acc : List Int) (i : Int) (k : Nat), 0 ≤ x → x < 18446744073709551616 → i + j = m → 0 ≤ i → j + 1 ≤ k → acc.length + j < 1000 → ratchetref01_PutFixed.l0 k x m acc i = some (acc ++ le j x) := by
  intro j
  induction j with
  | zero =>
    intro x acc i k x0 x1 hi h0 hk ha
    obtain ⟨k, rfl⟩ : ∃ m, k = m + 1 := ⟨k - 1, by omega⟩
    rw [ratchetref01_PutFixed.l0, if_neg (by omega), le]; simp
  | succ j ih =>
    intro x acc i k x0 x1 hi h0 hk ha
    obtain ⟨k, rfl⟩ : ∃ m, k = m + 1 := ⟨k - 1, by omega⟩
    have e1 : IntKind.u64.wrap (Int.tdiv x 256) = x / 256 := by rw [Int.tdiv_eq_ediv_of_nonneg x0, wu64_in (by omega) (by omega)]
    have e2 : Int.tmod x 256 % 256 = x % 256 := by rw [Int.tmod_eq_emod_of_nonneg x0]; omega
    rw [ratchetref01_PutFixed.l0, if_pos (by omega), if_pos (by omega), w64_in (by omega) (by omega), e1, e2, ih _ _ (i + 1) k (by omega) (by omega) (by omega) (by omega) (by omega) (by simp; omega), le]
    simp
theorem LebWrites : ratchetlaw01_LebWrites.Pure := by
  intro n w
  obtain ⟨h0, h1⟩ := range_u64 w
  have hs := wrap64_range n
  have hm : Int.tmod n 4294967296 = n % 4294967296 := Int.tmod_eq_emod_of_nonneg h0
  refine ⟨100, ?_⟩
  unfold ratchetlaw01_LebWrites.f leb_PutF32.f leb_PutF64.f leb_bits.f ratchetref01_PutFixed.f
  rw [PutU_is h0 h1 (by omega), refPutU_is h0 h1 (by omega)]
  simp only [Option.bind_some]
  rw [same_self]
  simp only [Option.bind_some, if_true]
  rw [PutS_is hs.1 hs.2 (by omega), refPutS_is hs.1 hs.2 (by omega)]
  simp only [Option.bind_some]
  rw [same_self]
  simp only [Option.bind_some, if_true]
  rw [hm, wu64_in (x := n % 4294967296) (by omega) (by omega), bits_is (m := 4) (by omega) 4 _ [] 0 100 (by omega) (by omega) (by omega) (by simp), fixed_is (m := 4) (by omega) 4 _ [] 0 100 (by omega) (by omega) (by omega) (by omega) (by omega) (by simp)]
  simp only [Option.bind_some]
  rw [same_self]
  simp only [Option.bind_some, if_true]
  rw [bits_is (m := 8) (by omega) 8 _ [] 0 100 (by omega) (by omega) (by omega) (by simp), fixed_is (m := 8) (by omega) 8 _ [] 0 100 (by omega) (by omega) (by omega) (by omega) (by omega) (by simp)]
  simp only [Option.bind_some]
  rw [same_self]
  rfl
end Go.Proofs.Yteajikofpcnagaa.Pure
