/- How numbers are written in seven-bit digits, and that they are read back. -/
import Derived.Test.YteajikofpcnagaaLM
import Derived.Test.YteajikofpcnagaaLeb1
namespace Go.Proofs.Yteajikofpcnagaa.LP
set_option linter.unusedVariables false
set_option linter.unusedSimpArgs false
open Go.RowKit Go.Proofs.YteajikofpcnagaaW.PrintWords Go.Proofs.YteajikofpcnagaaW.PrintLast Go.Proofs.YteajikofpcnagaaW.PrintMore Go.Proofs.Yteajikofpcnagaa.LM Go.Proofs.Yteajikofpcnagaa.Leb

/-- The digits of an unsigned number. -/
def du (n : Nat) : List Int := if n < 128 then [(n : Int)] else ((n % 128 + 128 : Nat) : Int) :: du (n / 128)
termination_by n
decreasing_by omega
/-- The digits of a signed one. -/
def ds (n : Int) : List Int := if -64 ≤ n ∧ n ≤ 63 then [n % 128] else (n % 128 + 128) :: ds (n / 128)
termination_by n.natAbs
decreasing_by omega
theorem du_small {n : Nat} (h : n < 128) : du n = [(n : Int)] := by rw [du, if_pos h]
theorem du_more {n : Nat} (h : ¬ n < 128) : du n = ((n % 128 + 128 : Nat) : Int) :: du (n / 128) := by rw [du, if_neg h]
theorem ds_small {n : Int} (h : -64 ≤ n ∧ n ≤ 63) : ds n = [n % 128] := by rw [ds, if_pos h]
theorem ds_more {n : Int} (h : ¬ (-64 ≤ n ∧ n ≤ 63)) : ds n = (n % 128 + 128) :: ds (n / 128) := by rw [ds, if_neg h]
theorem pow128 (f : Nat) : (2 : Nat) ^ (7 * (f + 1)) = 128 * 2 ^ (7 * f) := by rw [Nat.mul_add, Nat.pow_add, Nat.mul_comm]
theorem du_length : ∀ (f n : Nat), n < 2 ^ (7 * (f + 1)) → 1 ≤ (du n).length ∧ (du n).length ≤ f + 1 := by
  intro f
  induction f with
  | zero => intro n h; rw [du_small (by simpa using h)]; simp
  | succ f ih =>
    intro n h
    by_cases h1 : n < 128
    · rw [du_small h1]; simp
    · rw [du_more h1]
      rw [pow128] at h
      have := ih (n / 128) (by omega)
      simp; omega
theorem du_bytes : ∀ (f n : Nat), n < 2 ^ (7 * (f + 1)) → Bytes (du n) := by
  intro f
  induction f with
  | zero => intro n h x hx; rw [du_small (by simpa using h)] at hx; simp at hx; simp at h; omega
  | succ f ih =>
    intro n h
    by_cases h1 : n < 128
    · intro x hx; rw [du_small h1] at hx; simp at hx; omega
    · rw [pow128] at h
      intro x hx
      rw [du_more h1] at hx
      rcases List.mem_cons.1 hx with rfl | hx
      · omega
      · exact ih (n / 128) (by omega) x hx
theorem putU_is : ∀ (f n : Nat) (acc : List Int) (k : Nat), n < 2 ^ (7 * (f + 1)) → f + 1 ≤ k → acc.length + f < 1000 → leb_PutU.l0 k (n : Int) acc = some (acc ++ du n) := by
  intro f
  induction f with
  | zero =>
    intro n acc k h hk ha
    obtain ⟨k, rfl⟩ : ∃ m, k = m + 1 := ⟨k - 1, by omega⟩
    have h : n < 128 := by simpa using h
    rw [leb_PutU.l0, if_neg (by omega), if_pos (by omega), du_small h]
    have : (n : Int) % 256 = n := by omega
    rw [this]
  | succ f ih =>
    intro n acc k h hk ha
    obtain ⟨k, rfl⟩ : ∃ m, k = m + 1 := ⟨k - 1, by omega⟩
    by_cases h1 : n < 128
    · rw [leb_PutU.l0, if_neg (by omega), if_pos (by omega), du_small h1]
      have : (n : Int) % 256 = n := by omega
      rw [this]
    · rw [pow128] at h
      rw [leb_PutU.l0, if_pos (by omega), if_pos (by omega), or128 (by omega) (by omega)]
      have e1 : (n : Int) / 128 = ((n / 128 : Nat) : Int) := by omega
      have e2 : (n : Int) % 256 % 128 + 128 = ((n % 128 + 128 : Nat) : Int) := by omega
      rw [e1, e2, ih (n / 128) _ k (by omega) (by omega) (by simp; omega), du_more h1]
      simp
theorem PutU_is {n : Int} (h0 : 0 ≤ n) (h1 : n < 18446744073709551616) {k : Nat} (hk : 10 ≤ k) : leb_PutU.f k n = some (du n.toNat) := by
  unfold leb_PutU.f
  obtain ⟨m, rfl⟩ := Int.eq_ofNat_of_zero_le h0
  rw [putU_is 9 m [] k (by show m < 2 ^ 70; omega) (by omega) (by simp)]
  simp
theorem ds_length : ∀ (f : Nat) (n : Int), -(64 * 2 ^ (7 * f)) ≤ n → n < 64 * 2 ^ (7 * f) → 1 ≤ (ds n).length ∧ (ds n).length ≤ f + 1 := by
  intro f
  induction f with
  | zero => intro n h h2; rw [ds_small (by simp at h h2; omega)]; simp
  | succ f ih =>
    intro n h h2
    by_cases h1 : -64 ≤ n ∧ n ≤ 63
    · rw [ds_small h1]; simp
    · rw [ds_more h1]
      have e : (2 : Int) ^ (7 * (f + 1)) = 128 * 2 ^ (7 * f) := by rw [Nat.mul_add, Int.pow_add, Int.mul_comm]; rfl
      rw [e] at h h2
      have := ih (n / 128) (by omega) (by omega)
      simp; omega
theorem ds_bytes : ∀ (f : Nat) (n : Int), -(64 * 2 ^ (7 * f)) ≤ n → n < 64 * 2 ^ (7 * f) → Bytes (ds n) := by
  intro f
  induction f with
  | zero => intro n h h2 x hx; rw [ds_small (by simp at h h2; omega)] at hx; simp at hx; omega
  | succ f ih =>
    intro n h h2 x hx
    by_cases h1 : -64 ≤ n ∧ n ≤ 63
    · rw [ds_small h1] at hx; simp at hx; omega
    · have e : (2 : Int) ^ (7 * (f + 1)) = 128 * 2 ^ (7 * f) := by rw [Nat.mul_add, Int.pow_add, Int.mul_comm]; rfl
      rw [e] at h h2
      rw [ds_more h1] at hx
      rcases List.mem_cons.1 hx with rfl | hx
      · omega
      · exact ih (n / 128) (by omega) (by omega) x hx
theorem putS_is : ∀ (f : Nat) (n : Int) (acc : List Int) (k : Nat), -(64 * 2 ^ (7 * f)) ≤ n → n < 64 * 2 ^ (7 * f) → f + 1 ≤ k → acc.length + f < 1000 → leb_PutS.l0 k n acc = some (acc ++ ds n) := by
  intro f
  induction f with
  | zero =>
    intro n acc k h h2 hk ha
    obtain ⟨k, rfl⟩ : ∃ m, k = m + 1 := ⟨k - 1, by omega⟩
    simp at h h2
    rw [leb_PutS.l0, if_neg (by omega), if_neg (by omega), if_pos (by omega), ds_small (n := n) (by omega), and127 (by omega) (by omega)]
    have : n % 256 % 128 = n % 128 := by omega
    rw [this]
  | succ f ih =>
    intro n acc k h h2 hk ha
    obtain ⟨k, rfl⟩ : ∃ m, k = m + 1 := ⟨k - 1, by omega⟩
    have e : (2 : Int) ^ (7 * (f + 1)) = 128 * 2 ^ (7 * f) := by rw [Nat.mul_add, Int.pow_add, Int.mul_comm]; rfl
    rw [e] at h h2
    have e2 : n % 256 % 128 = n % 128 := by omega
    by_cases h3 : n < -64
    · rw [leb_PutS.l0, if_pos h3, if_pos (by omega), or128 (by omega) (by omega), e2, ih (n / 128) _ k (by omega) (by omega) (by omega) (by simp; omega), ds_more (n := n) (by omega)]
      simp
    by_cases h4 : n > 63
    · rw [leb_PutS.l0, if_neg h3, if_pos h4, if_pos (by omega), or128 (by omega) (by omega), e2, ih (n / 128) _ k (by omega) (by omega) (by omega) (by simp; omega), ds_more (n := n) (by omega)]
      simp
    rw [leb_PutS.l0, if_neg h3, if_neg h4, if_pos (by omega), ds_small (n := n) (by omega), and127 (by omega) (by omega), e2]
theorem PutS_is {n : Int} (h0 : -9223372036854775808 ≤ n) (h1 : n < 9223372036854775808) {k : Nat} (hk : 10 ≤ k) : leb_PutS.f k n = some (ds n) := by
  unfold leb_PutS.f
  rw [putS_is 9 n [] k (by show -(64 * 2 ^ 63) ≤ n; omega) (by show n < 64 * 2 ^ 63; omega) (by omega) (by simp)]
  simp
theorem rd_mid (pre : List Int) (c : Int) (r post : List Int) : rd (pre ++ (c :: r) ++ post) (pre.length : Int) = c := by
  unfold rd; simp
theorem split_mid (pre : List Int) (c : Int) (r post : List Int) : pre ++ (c :: r) ++ post = (pre ++ [c]) ++ r ++ post := by simp
theorem pw {i : Nat} : (2 : Int) ^ (7 * (i + 1)) = 128 * 2 ^ (7 * i) := by rw [Nat.mul_add, Int.pow_add, Int.mul_comm]; rfl
/-- What was written is read, if all of it is there. -/
theorem US_back : ∀ (f i m : Nat) (acc : Int) (pre post : List Int) (e : Int), 7 * i < 64 → 64 ≤ 7 * (i + f) → m < 2 ^ (64 - 7 * i) → (pre.length + (du m).length : Int) ≤ e →
    US 64 (pre ++ du m ++ post) e f i acc pre.length = (acc + m * 2 ^ (7 * i), ((pre.length + (du m).length : Nat) : Int), 0) := by
  intro f
  induction f with
  | zero => intro i m acc pre post e h1 h2; omega
  | succ f ih =>
    intro i m acc pre post e hi hf hm he
    rw [US]
    by_cases h1 : m < 128
    · rw [du_small h1] at he ⊢
      simp at he
      rw [if_neg (by omega), rd_mid]
      have hz : (m : Int) / 2 ^ (64 - 7 * i) = 0 := by
        have : ((m : Nat) : Int) < ((2 ^ (64 - 7 * i) : Nat) : Int) := Int.ofNat_lt.2 hm
        exact Int.ediv_eq_zero_of_lt (by omega) (by simpa using this)
      rw [if_neg (fun h => h.2 hz), if_pos (by omega)]
      simp
    · rw [du_more h1] at he ⊢
      simp at he
      rw [if_neg (by omega), rd_mid]
      have hi8 : i ≤ 8 := by
        apply Decidable.byContradiction
        intro hn
        have e9 : i = 9 := by omega
        subst e9
        have : m < 2 := hm
        omega
      rw [if_neg (by omega), if_neg (by omega), split_mid]
      have e1 : (pre.length : Int) + 1 = ((pre ++ [((m % 128 + 128 : Nat) : Int)]).length : Int) := by simp
      have hm2 : m / 128 < 2 ^ (64 - 7 * (i + 1)) := by
        have e2 : 64 - 7 * i = 7 + (64 - 7 * (i + 1)) := by omega
        rw [e2, Nat.pow_add] at hm
        exact Nat.div_lt_of_lt_mul hm
      rw [e1, ih (i + 1) (m / 128) _ _ post e (by omega) (by omega) hm2 (by simp; omega)]
      have e3 : (((m % 128 + 128 : Nat) : Int)) % 128 = ((m % 128 : Nat) : Int) := by omega
      have e4 : (m : Int) = ((m % 128 : Nat) : Int) + 128 * ((m / 128 : Nat) : Int) := by omega
      rw [e3, pw]
      have e5 : acc + ((m % 128 : Nat) : Int) * 2 ^ (7 * i) + ((m / 128 : Nat) : Int) * (128 * 2 ^ (7 * i)) = acc + (m : Int) * 2 ^ (7 * i) := by
        generalize (2 : Int) ^ (7 * i) = P
        have e6 : (m : Int) * P = (((m % 128 : Nat) : Int) + 128 * ((m / 128 : Nat) : Int)) * P := by rw [← e4]
        rw [e6, Int.add_mul, Int.mul_comm 128 ((m / 128 : Nat) : Int), Int.mul_assoc]
        omega
      rw [e5]
      simp
      omega
/-- Cut off, it ends too early. -/
theorem US_short : ∀ (f i m : Nat) (acc : Int) (pre post : List Int) (e : Int), 7 * i < 64 → 64 ≤ 7 * (i + f) → m < 2 ^ (64 - 7 * i) → (pre.length : Int) ≤ e → e < pre.length + (du m).length →
    US 64 (pre ++ du m ++ post) e f i acc pre.length = (0, e, 3) := by
  intro f
  induction f with
  | zero => intro i m acc pre post e h1 h2; omega
  | succ f ih =>
    intro i m acc pre post e hi hf hm h0 he
    rw [US]
    by_cases hp : (pre.length : Int) ≥ e
    · rw [if_pos hp]
    rw [if_neg hp]
    by_cases h1 : m < 128
    · rw [du_small h1] at he
      simp at he
      omega
    · rw [du_more h1] at he ⊢
      simp at he
      rw [rd_mid]
      have hi8 : i ≤ 8 := by
        apply Decidable.byContradiction
        intro hn
        have e9 : i = 9 := by omega
        subst e9
        have : m < 2 := hm
        omega
      rw [if_neg (by omega), if_neg (by omega), split_mid]
      have e1 : (pre.length : Int) + 1 = ((pre ++ [((m % 128 + 128 : Nat) : Int)]).length : Int) := by simp
      have hm2 : m / 128 < 2 ^ (64 - 7 * (i + 1)) := by
        have e2 : 64 - 7 * i = 7 + (64 - 7 * (i + 1)) := by omega
        rw [e2, Nat.pow_add] at hm
        exact Nat.div_lt_of_lt_mul hm
      rw [e1, ih (i + 1) (m / 128) _ _ post e (by omega) (by omega) hm2 (by simp; omega) (by simp; omega)]
theorem SS_back : ∀ (f i : Nat) (m acc : Int) (pre post : List Int) (e : Int), 7 * i < 64 → 64 ≤ 7 * (i + f) → -(2 ^ (63 - 7 * i)) ≤ m → m < 2 ^ (63 - 7 * i) → (pre.length + (ds m).length : Int) ≤ e →
    SS 64 (pre ++ ds m ++ post) e f i acc pre.length = (acc + m * 2 ^ (7 * i), ((pre.length + (ds m).length : Nat) : Int), 0) := by
  intro f
  induction f with
  | zero => intro i m acc pre post e h1 h2; omega
  | succ f ih =>
    intro i m acc pre post e hi hf hl hm he
    rw [SS]
    by_cases h1 : -64 ≤ m ∧ m ≤ 63
    · rw [ds_small h1] at he ⊢
      simp at he
      rw [if_neg (by omega), rd_mid]
      have hz : 64 < 7 * i + 7 → okS (64 - 7 * i) (m % 128) := by
        intro hs
        have e9 : i = 9 := by omega
        subst e9
        simp at hl hm
        show okS 1 (m % 128)
        unfold okS
        refine ⟨by omega, ?_⟩
        simp
        omega
      rw [if_neg (fun h => h.2 (hz h.1)), if_pos (by omega)]
      have hd : (if m % 128 < 64 then m % 128 else m % 128 - 128) = m := by split <;> omega
      rw [hd]
      simp
    · rw [ds_more h1] at he ⊢
      simp at he
      rw [if_neg (by omega), rd_mid]
      have hi8 : i ≤ 8 := by
        apply Decidable.byContradiction
        intro hn
        have e9 : i = 9 := by omega
        subst e9
        simp at hl hm
        omega
      rw [if_neg (by omega), if_neg (by omega), split_mid]
      have e1 : (pre.length : Int) + 1 = ((pre ++ [m % 128 + 128]).length : Int) := by simp
      have e2 : (2 : Int) ^ (63 - 7 * i) = 128 * 2 ^ (63 - 7 * (i + 1)) := by
        have : 63 - 7 * i = (63 - 7 * (i + 1)) + 7 := by omega
        rw [this, Int.pow_add, Int.mul_comm]; rfl
      rw [e2] at hl hm
      rw [e1, ih (i + 1) (m / 128) _ _ post e (by omega) (by omega) (by omega) (by omega) (by simp; omega)]
      have e3 : (m % 128 + 128) % 128 = m % 128 := by omega
      have e4 : m = m % 128 + 128 * (m / 128) := by omega
      rw [e3, pw]
      have e5 : acc + m % 128 * 2 ^ (7 * i) + m / 128 * (128 * 2 ^ (7 * i)) = acc + m * 2 ^ (7 * i) := by
        generalize (2 : Int) ^ (7 * i) = P
        have e6 : m * P = (m % 128 + 128 * (m / 128)) * P := by rw [← e4]
        rw [e6, Int.add_mul, Int.mul_comm 128 (m / 128), Int.mul_assoc]
        omega
      rw [e5]
      simp
      omega
theorem SS_short : ∀ (f i : Nat) (m acc : Int) (pre post : List Int) (e : Int), 7 * i < 64 → 64 ≤ 7 * (i + f) → -(2 ^ (63 - 7 * i)) ≤ m → m < 2 ^ (63 - 7 * i) → (pre.length : Int) ≤ e → e < pre.length + (ds m).length →
    SS 64 (pre ++ ds m ++ post) e f i acc pre.length = (0, e, 3) := by
  intro f
  induction f with
  | zero => intro i m acc pre post e h1 h2; omega
  | succ f ih =>
    intro i m acc pre post e hi hf hl hm h0 he
    rw [SS]
    by_cases hp : (pre.length : Int) ≥ e
    · rw [if_pos hp]
    rw [if_neg hp]
    by_cases h1 : -64 ≤ m ∧ m ≤ 63
    · rw [ds_small h1] at he
      simp at he
      omega
    · rw [ds_more h1] at he ⊢
      simp at he
      rw [rd_mid]
      have hi8 : i ≤ 8 := by
        apply Decidable.byContradiction
        intro hn
        have e9 : i = 9 := by omega
        subst e9
        simp at hl hm
        omega
      rw [if_neg (by omega), if_neg (by omega), split_mid]
      have e1 : (pre.length : Int) + 1 = ((pre ++ [m % 128 + 128]).length : Int) := by simp
      have e2 : (2 : Int) ^ (63 - 7 * i) = 128 * 2 ^ (63 - 7 * (i + 1)) := by
        have : 63 - 7 * i = (63 - 7 * (i + 1)) + 7 := by omega
        rw [this, Int.pow_add, Int.mul_comm]; rfl
      rw [e2] at hl hm
      rw [e1, ih (i + 1) (m / 128) _ _ post e (by omega) (by omega) (by omega) (by omega) (by simp; omega) (by simp; omega)]
theorem bytes_append {a b : List Int} (ha : Bytes a) (hb : Bytes b) : Bytes (a ++ b) := fun x hx => (List.mem_append.1 hx).elim (ha x) (hb x)
theorem bytes_of_wf {l : List Int} (h : ∀ x ∈ l, (Lit.int .u8 x).wf = true) : Bytes l := by
  intro x hx
  have := h x hx
  have hmin : IntKind.u8.min = 0 := rfl
  have hmax : IntKind.u8.max = 255 := rfl
  simp only [Lit.wf, Bool.and_eq_true, decide_eq_true_eq, hmin, hmax] at this
  omega
theorem range_u64 {x : Int} (h : (Lit.int .u64 x).wf = true) : 0 ≤ x ∧ x < 18446744073709551616 := by
  have hmin : IntKind.u64.min = 0 := rfl
  have hmax : IntKind.u64.max = 18446744073709551615 := rfl
  simp only [Lit.wf, Bool.and_eq_true, decide_eq_true_eq, hmin, hmax] at h
  omega
theorem range_u8 {x : Int} (h : (Lit.int .u8 x).wf = true) : 0 ≤ x ∧ x < 256 := by
  have hmin : IntKind.u8.min = 0 := rfl
  have hmax : IntKind.u8.max = 255 := rfl
  simp only [Lit.wf, Bool.and_eq_true, decide_eq_true_eq, hmin, hmax] at h
  omega
theorem wrap64_range (x : Int) : -9223372036854775808 ≤ wrap64 x ∧ wrap64 x < 9223372036854775808 := by unfold wrap64; omega
theorem du64 {n : Int} (h0 : 0 ≤ n) (h1 : n < 18446744073709551616) : Bytes (du n.toNat) ∧ 1 ≤ (du n.toNat).length ∧ (du n.toNat).length ≤ 10 := ⟨du_bytes 9 _ (by show _ < 2 ^ 70; omega), du_length 9 _ (by show _ < 2 ^ 70; omega)⟩
theorem ds64 {n : Int} (h0 : -9223372036854775808 ≤ n) (h1 : n < 9223372036854775808) : Bytes (ds n) ∧ 1 ≤ (ds n).length ∧ (ds n).length ≤ 10 := ⟨ds_bytes 9 _ (by show -(64 * 2 ^ 63) ≤ n; omega) (by show n < 64 * 2 ^ 63; omega), ds_length 9 _ (by show -(64 * 2 ^ 63) ≤ n; omega) (by show n < 64 * 2 ^ 63; omega)⟩
end Go.Proofs.Yteajikofpcnagaa.LP
