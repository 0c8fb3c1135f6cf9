/- What the reference's reading of numbers comes to: the plain readings of LM. -/
import Derived.Test.YteajikofpcnagaaLR
import Derived.Test.YteajikofpcnagaaLeb5
namespace Go.Proofs.Yteajikofpcnagaa.LF
set_option linter.unusedVariables false
set_option linter.unusedSimpArgs false
open Go.RowKit Go.Proofs.YteajikofpcnagaaW.PrintWords Go.Proofs.YteajikofpcnagaaW.PrintLast Go.Proofs.YteajikofpcnagaaW.PrintMore Go.Proofs.Yteajikofpcnagaa.LM Go.Proofs.Yteajikofpcnagaa.LR Go.Proofs.Yteajikofpcnagaa.Leb

theorem reads_is (l : List Int) (a e : Int) : ratchetref01_reads.f l a e = some (decide (able l a e)) := by
  unfold ratchetref01_reads.f
  by_cases h1 : a ≥ 0
  · rw [if_pos h1]
    by_cases h2 : e ≤ (l.length : Int)
    · rw [if_pos h2]
      congr 1
      rw [decide_eq_decide]
      exact ⟨fun h => ⟨h1, h2, h⟩, fun h => h.2.2⟩
    · rw [if_neg h2, decide_eq_false (fun h : able l a e => h2 h.2.1)]
  · rw [if_neg h1, decide_eq_false (fun h : able l a e => h1 h.1)]
theorem shr64 {c : Int} {h : Nat} (hh : h ≤ 63) (c0 : 0 ≤ c) (c1 : c < 256) : shr .i64 (wrap64 c) (IntKind.u64.wrap (h : Int)) = c / 2 ^ h := by
  unfold shr
  rw [w64_in (by omega) (by omega), wu64_in (by omega) (by omega), Int.toNat_natCast]
  have : min h IntKind.i64.bits = h := by show min h 64 = h; omega
  rw [this]
theorem last_u {c : Int} {B i : Nat} (hB : B = 32 ∨ B = 64) (hi : 7 * i < B) (hs : B < 7 * i + 7) (c0 : 0 ≤ c) (c1 : c < 256) :
    ratchetref01_last.f c (B : Int) (i : Int) false = some (decide (c / 2 ^ (B - 7 * i) = 0)) := by
  unfold ratchetref01_last.f
  have e1 : wrap64 ((B : Int) - wrap64 (7 * (i : Int))) = ((B - 7 * i : Nat) : Int) := by
    rw [w64_in (x := 7 * (i : Int)) (by omega) (by omega), w64_in (by omega) (by omega)]; omega
  rw [e1]
  by_cases h128 : c ≥ 128
  · rw [if_pos h128]
    have hne : ¬ (c / 2 ^ (B - 7 * i) = 0) := by
      intro h
      have h5 := div_zero_lt c0 (pow_pos' _) h
      have h6 : (2 : Int) ^ (B - 7 * i) ≤ 2 ^ 6 := pow_mono' (by omega)
      omega
    rw [decide_eq_false hne]
  · rw [if_neg h128, if_pos (by rw [wu64_in (by omega) (by omega)]; omega), if_neg (by decide), shr64 (by omega) c0 c1]
    rfl
theorem last_s {c : Int} {B i : Nat} (hB : B = 32 ∨ B = 33 ∨ B = 64) (hi : 7 * i < B) (hs : B < 7 * i + 7) (c0 : 0 ≤ c) (c1 : c < 256) :
    ratchetref01_last.f c (B : Int) (i : Int) true = some (decide (okS (B - 7 * i) c)) := by
  unfold ratchetref01_last.f
  have e1 : wrap64 ((B : Int) - wrap64 (7 * (i : Int))) = ((B - 7 * i : Nat) : Int) := by
    rw [w64_in (x := 7 * (i : Int)) (by omega) (by omega), w64_in (by omega) (by omega)]; omega
  have e2 : wrap64 (((B - 7 * i : Nat) : Int) - 1) = ((B - 7 * i - 1 : Nat) : Int) := by rw [w64_in (by omega) (by omega)]; omega
  have e3 : wrap64 (8 - ((B - 7 * i : Nat) : Int)) = ((8 - (B - 7 * i) : Nat) : Int) := by rw [w64_in (by omega) (by omega)]; omega
  rw [e1, e2, e3]
  by_cases h128 : c ≥ 128
  · rw [if_pos h128, decide_eq_false (fun h : okS _ _ => by have := h.1; omega)]
  have hh : B - 7 * i = 1 ∨ B - 7 * i = 4 ∨ B - 7 * i = 5 := by omega
  rw [if_neg h128, if_pos (by rw [wu64_in (by omega) (by omega)]; omega), if_pos rfl, if_pos (by rw [wu64_in (by omega) (by omega)]; omega), shr64 (by omega) c0 c1]
  have e4 : wrap64 (shl .i64 1 (IntKind.u64.wrap ((8 - (B - 7 * i) : Nat) : Int)) - 1) = 2 ^ (8 - (B - 7 * i)) - 1 := by
    unfold shl
    rw [wu64_in (by omega) (by omega), Int.toNat_natCast]
    have : min (8 - (B - 7 * i)) IntKind.i64.bits = 8 - (B - 7 * i) := by show min _ 64 = _; omega
    rw [this, IntKind.wrap_i64]
    unfold wrap64
    rcases hh with h | h | h <;> rw [h] <;> rfl
  by_cases hz : c / 2 ^ (B - 7 * i - 1) = 0
  · rw [if_pos hz, decide_eq_true (show okS (B - 7 * i) c from ⟨by omega, .inl hz⟩)]
  · rw [if_neg hz, if_pos (by rw [wu64_in (by omega) (by omega)]; omega), e4]
    congr 1
    have : okS (B - 7 * i) c ↔ c / 2 ^ (B - 7 * i - 1) = 2 ^ (8 - (B - 7 * i)) - 1 := ⟨fun h => h.2.resolve_left hz, fun h => ⟨by omega, .inr h⟩⟩
    rw [show decide (okS (B - 7 * i) c) = decide (c / 2 ^ (B - 7 * i - 1) = 2 ^ (8 - (B - 7 * i)) - 1) from decide_eq_decide.2 this]
    rfl
theorem ref_digit {n c : Int} {s : Nat} (hs : s ≤ 63) (c0 : 0 ≤ c) (c1 : c < 256) : IntKind.u64.wrap (n + shl .u64 (IntKind.u64.wrap (Int.tmod c 128)) (s : Int)) = (n + c % 128 * 2 ^ s) % 18446744073709551616 := by
  unfold shl
  rw [bits_u64_64, min64 hs, Int.tmod_eq_emod_of_nonneg c0, wu64_in (x := c % 128) (by omega) (by omega), wu64, wu64]
  rw [Int.add_emod, Int.emod_emod_of_dvd _ (Int.dvd_refl _), ← Int.add_emod]
theorem ref_sign {n : Int} {s : Nat} (hs : s ≤ 63) : IntKind.u64.wrap (n % 18446744073709551616 - shl .u64 1 (s : Int)) = (n - 2 ^ s) % 18446744073709551616 := by
  unfold shl
  rw [bits_u64_64, min64 hs, Int.one_mul, wu64, wu64]
  generalize (2 : Int) ^ s = P
  omega
/-- One round of the reference's reading. -/
theorem ref_tail {B n c a e : Int} {l : List Int} {most : Int} {i k : Nat} {sg : Bool} (hi : 7 * i ≤ 63) (h0 : 0 ≤ n) (h1 : n < 2 ^ (7 * i)) (c0 : 0 ≤ c) (c1 : c < 256) (ha : 0 ≤ a) (ha1 : a + i < 140737488351232) :
    ratchetref01_Number.j1 (k + 1) l a e B sg most n (i : Int) c false = if c < 128 then some ((n + (if sg = true then (if c < 64 then c else c - 128) else c) * 2 ^ (7 * i)) % 18446744073709551616, a + i + 1, 0) else ratchetref01_Number.l0 k l a e B sg most ((n + c % 128 * 2 ^ (7 * i)) % 18446744073709551616) ((i + 1 : Nat) : Int) := by
  have e1 : wrap64 (7 * (i : Int)) = ((7 * i : Nat) : Int) := by rw [w64_in (by omega) (by omega)]; omega
  have e2 : wrap64 (wrap64 (a + (i : Int)) + 1) = a + i + 1 := by rw [w64_in (x := a + (i : Int)) (by omega) (by omega), w64_in (by omega) (by omega)]
  have e3 : wrap64 (((7 * i : Nat) : Int) + 7) = ((7 * i + 7 : Nat) : Int) := by rw [w64_in (by omega) (by omega)]; omega
  have e4 : wrap64 ((i : Int) + 1) = ((i + 1 : Nat) : Int) := by rw [w64_in (by omega) (by omega)]; omega
  simp only [ratchetref01_Number.j1]
  rw [if_neg (by decide), e1, e2, e3, e4, wu64_in (x := ((7 * i : Nat) : Int)) (by omega) (by omega), if_pos (by omega), ref_digit hi c0 c1]
  by_cases hc : c < 128
  · rw [if_pos hc, if_pos hc]
    have hm : c % 128 = c := by omega
    rw [hm]
    cases sg with
    | false => rw [if_neg (by decide), if_neg (by decide)]
    | true =>
      rw [if_pos rfl, if_pos rfl]
      by_cases h64 : c ≥ 64
      · have hr : (if c < 64 then c else c - 128) = c - 128 := if_neg (by omega)
        rw [if_pos h64, hr]
        have ep : (2 : Int) ^ (7 * i + 7) = 128 * 2 ^ (7 * i) := by rw [Int.pow_add, Int.mul_comm]; rfl
        by_cases hs : 7 * i + 7 < 64
        · rw [if_pos (by omega), wu64_in (x := ((7 * i + 7 : Nat) : Int)) (by omega) (by omega), if_pos (by omega), ref_sign (by omega), ep, Int.sub_mul]
          congr 2
          congr 1
          omega
        · rw [if_neg (by omega)]
          have e9 : i = 9 := by omega
          subst e9
          congr 2
          show (n + c * 2 ^ 63) % _ = (n + (c - 128) * 2 ^ 63) % _
          rw [two63]
          omega
      · rw [if_neg h64, if_pos (by omega)]
  · rw [if_neg hc, if_neg hc]
/-- The reference's loop, signed or not. -/
theorem ref_all {B : Nat} {sg : Bool} (hB : (sg = false ∧ (B = 32 ∨ B = 64)) ∨ (sg = true ∧ (B = 32 ∨ B = 33 ∨ B = 64))) {l : List Int} (hl : Bytes l) (hlen : l.length ≤ 140737488351232) {a e : Int} (ha : 0 ≤ a) (he : e ≤ l.length) :
    ∀ (f i : Nat) (n : Int) (k : Nat), i + f = (B + 6) / 7 → 1 ≤ f → a + i ≤ e + i → 2 * f ≤ k → 0 ≤ n → n < 2 ^ (7 * i) →
      ratchetref01_Number.l0 k l a e (B : Int) sg (((B + 6) / 7 : Nat) : Int) n (i : Int) = some (if sg = true then ((SS B l e f i n (a + i)).1 % 18446744073709551616, (SS B l e f i n (a + i)).2) else ((US B l e f i n (a + i)).1 % 18446744073709551616, (US B l e f i n (a + i)).2)) := by
  intro f
  induction f with
  | zero => intro i n k h1 h2; omega
  | succ f ih =>
    intro i n k hf h1f hp hk h0 h1
    obtain ⟨k, rfl⟩ : ∃ m, k = m + 2 := ⟨k - 2, by omega⟩
    have hi : 7 * i < B := by omega
    have ei : wrap64 (a + (i : Int)) = a + i := w64_in (by omega) (by omega)
    rw [ratchetref01_Number.l0, if_pos (by omega), ei, US, SS]
    by_cases hpe : a + (i : Int) ≥ e
    · rw [if_pos hpe, if_pos hpe, if_pos hpe]
      cases sg <;> rfl
    rw [if_neg hpe, if_neg hpe, if_neg hpe, if_pos (by omega), if_pos (by omega)]
    obtain ⟨c0, c1⟩ := rd_byte hl (a + i)
    generalize hcv : rd l (a + i) = c at *
    have em : wrap64 ((((B + 6) / 7 : Nat) : Int) - 1) = (((B + 6) / 7 - 1 : Nat) : Int) := by rw [w64_in (by omega) (by omega)]; omega
    have hlast : (i : Int) = wrap64 ((((B + 6) / 7 : Nat) : Int) - 1) ↔ B < 7 * i + 7 := by rw [em]; omega
    have tail := ref_tail (B := (B : Int)) (e := e) (l := l) (most := (((B + 6) / 7 : Nat) : Int)) (k := k) (sg := sg) (show 7 * i ≤ 63 by omega) h0 h1 c0 c1 ha (by omega)
    have hd := digit_lt h0 h1 c0
    have hmod : B ≥ 7 * i + 7 → (n + c % 128 * 2 ^ (7 * i)) % 18446744073709551616 = n + c % 128 * 2 ^ (7 * i) := by
      intro hge
      have hp : (2 : Int) ^ (7 * (i + 1)) ≤ 2 ^ 63 := pow_mono' (by omega)
      rw [two63] at hp
      exact Int.emod_eq_of_lt hd.1 (by omega)
    have next : ¬ c < 128 → B ≥ 7 * i + 7 → ratchetref01_Number.l0 k l a e (B : Int) sg (((B + 6) / 7 : Nat) : Int) ((n + c % 128 * 2 ^ (7 * i)) % 18446744073709551616) ((i + 1 : Nat) : Int) = some (if sg = true then ((SS B l e f (i + 1) (n + c % 128 * 2 ^ (7 * i)) (a + i + 1)).1 % 18446744073709551616, (SS B l e f (i + 1) (n + c % 128 * 2 ^ (7 * i)) (a + i + 1)).2) else ((US B l e f (i + 1) (n + c % 128 * 2 ^ (7 * i)) (a + i + 1)).1 % 18446744073709551616, (US B l e f (i + 1) (n + c % 128 * 2 ^ (7 * i)) (a + i + 1)).2)) := by
      intro hc hge
      rw [hmod hge]
      have h := ih (i + 1) (n + c % 128 * 2 ^ (7 * i)) k (by omega) (by omega) (by omega) (by omega) hd.1 hd.2
      have ea : a + ((i + 1 : Nat) : Int) = a + i + 1 := by omega
      rw [ea] at h
      exact h
    by_cases hs : B < 7 * i + 7
    · rw [if_pos (hlast.2 hs)]
      rcases hB with ⟨rfl, hB⟩ | ⟨rfl, hB⟩
      · rw [last_u hB hi hs c0 c1, if_neg (show ¬ (false = true) by decide)]
        simp only [Option.bind_some]
        by_cases hz : c / 2 ^ (B - 7 * i) = 0
        · rw [decide_eq_true hz, if_neg (fun h : B < 7 * i + 7 ∧ c / 2 ^ (B - 7 * i) ≠ 0 => h.2 hz), show (!true) = false from rfl, tail]
          have h5 := div_zero_lt c0 (pow_pos' _) hz
          have h6 : (2 : Int) ^ (B - 7 * i) ≤ 2 ^ 7 := pow_mono' (by omega)
          rw [if_pos (show c < 128 by omega), if_pos (show c < 128 by omega)]
          rfl
        · rw [decide_eq_false hz, if_pos ⟨hs, hz⟩]
          simp only [ratchetref01_Number.j1, Bool.not_false, if_true, ei]
          rfl
      · rw [last_s hB hi hs c0 c1, if_pos (show (true = true) from rfl)]
        simp only [Option.bind_some]
        by_cases hz : okS (B - 7 * i) c
        · rw [decide_eq_true hz, if_neg (fun h : B < 7 * i + 7 ∧ ¬ okS (B - 7 * i) c => h.2 hz), show (!true) = false from rfl, tail, if_pos hz.1, if_pos hz.1]
          rfl
        · rw [decide_eq_false hz, if_pos (show B < 7 * i + 7 ∧ ¬ okS (B - 7 * i) c from ⟨hs, hz⟩)]
          simp only [ratchetref01_Number.j1, Bool.not_false, if_true, ei]
          rfl
    · rw [if_neg (fun h => hs (hlast.1 h)), tail, if_neg (fun h : B < 7 * i + 7 ∧ c / 2 ^ (B - 7 * i) ≠ 0 => hs h.1), if_neg (fun h : B < 7 * i + 7 ∧ ¬ okS (B - 7 * i) c => hs h.1)]
      by_cases h128 : c < 128
      · rw [if_pos h128, if_pos h128, if_pos h128]
        cases sg <;> rfl
      · rw [if_neg h128, if_neg h128, if_neg h128, next h128 (by omega)]
theorem Number_is {B : Nat} {sg : Bool} (hB : (sg = false ∧ (B = 32 ∨ B = 64)) ∨ (sg = true ∧ (B = 32 ∨ B = 33 ∨ B = 64))) {l : List Int} (hl : Bytes l) (hlen : l.length ≤ 140737488351232) (a e : Int) {k : Nat} (hk : 20 ≤ k) :
    ratchetref01_Number.f k l a e (B : Int) sg = some (if sg = true then ((rdS B l a e).1 % 18446744073709551616, (rdS B l a e).2) else ((rdU B l a e).1 % 18446744073709551616, (rdU B l a e).2)) := by
  unfold ratchetref01_Number.f rdS rdU
  rw [reads_is]
  simp only [Option.bind_some]
  by_cases ha : able l a e
  · rw [decide_eq_true ha, if_pos rfl, if_pos ha, if_pos ha]
    have em : wrap64 (Int.tdiv (wrap64 ((B : Int) + 6)) 7) = (((B + 6) / 7 : Nat) : Int) := by
      rw [w64_in (x := (B : Int) + 6) (by omega) (by omega), Int.tdiv_eq_ediv_of_nonneg (by omega), w64_in (by omega) (by omega)]; omega
    rw [em]
    have h := ref_all hB hl hlen ha.1 ha.2.1 ((B + 6) / 7) 0 0 k (by omega) (by omega) (by have := ha.2.2; omega) (by omega) (by omega) (by decide)
    have ez : a + ((0 : Nat) : Int) = a := by omega
    rw [ez] at h
    exact h
  · rw [decide_eq_false ha, if_neg (by decide), if_neg ha, if_neg ha]
    cases sg <;> rfl
/- floats -/
theorem or_byte {x b : Int} (b0 : 0 ≤ b) (b1 : b < 256) : bits .or .u64 (IntKind.u64.wrap (x * 256)) (IntKind.u64.wrap b) = IntKind.u64.wrap (IntKind.u64.wrap (256 * x) + IntKind.u64.wrap b) := by
  have e1 : IntKind.u64.wrap (x * 256) = (x % 72057594037927936) * 2 ^ 8 := by rw [wu64]; show _ = _ * 256; omega
  have e2 : IntKind.u64.wrap (256 * x) = (x % 72057594037927936) * 2 ^ 8 := by rw [wu64]; show _ = _ * 256; omega
  rw [e1, e2, wu64_in (x := b) b0 (by omega)]
  have e8 : (2 : Int) ^ 8 = 256 := rfl
  have hor : bits .or .u64 ((x % 72057594037927936) * 2 ^ 8) b = bits .or .u64 b ((x % 72057594037927936) * 2 ^ 8) := by
    rw [u64_or _ _ (by rw [e8]; omega) (by rw [e8]; omega) (by omega) (by omega), u64_or _ _ (by omega) (by omega) (by rw [e8]; omega) (by rw [e8]; omega), Nat.or_comm]
  rw [hor, or_u64 8 b0 (by rw [e8]; omega) (by omega) (by rw [e8]; omega), wu64_in (by rw [e8]; omega) (by rw [e8]; omega)]
  omega
theorem fixed_eq {l : List Int} (hl : Bytes l) (a e n : Int) : ∀ (k : Nat) (x i : Int), leb_window_fixed.l0 k n x i l a e = ratchetref01_Fixed.l0 k l a n x i := by
  intro k
  induction k with
  | zero => intro x i; rfl
  | succ k ih =>
    intro x i
    rw [leb_window_fixed.l0, ratchetref01_Fixed.l0]
    obtain ⟨c0, c1⟩ := rd_byte hl (wrap64 (a + i))
    rw [or_byte c0 c1, ih]
theorem fixed_some {l : List Int} {a n : Int} (ha : 0 ≤ a) (hlen : l.length ≤ 140737488351232) : ∀ (j : Nat) (x : Int) (k : Nat), j + 1 ≤ k → j ≤ 100 → a + j ≤ l.length → ∃ r, ratchetref01_Fixed.l0 k l a n x ((j : Int) - 1) = some r := by
  intro j
  induction j with
  | zero =>
    intro x k hk _ _
    obtain ⟨k, rfl⟩ : ∃ m, k = m + 1 := ⟨k - 1, by omega⟩
    rw [ratchetref01_Fixed.l0, if_neg (by omega)]
    exact ⟨_, rfl⟩
  | succ j ih =>
    intro x k hk hj hp
    obtain ⟨k, rfl⟩ : ∃ m, k = m + 1 := ⟨k - 1, by omega⟩
    have e1 : ((j + 1 : Nat) : Int) - 1 = j := by omega
    have e2 : wrap64 (a + (j : Int)) = a + j := w64_in (by omega) (by omega)
    have e3 : wrap64 ((j : Int) - 1) = (j : Int) - 1 := w64_in (by omega) (by omega)
    rw [e1, ratchetref01_Fixed.l0, if_pos (by omega), e2, e3, if_pos (by omega), if_pos (by omega)]
    exact ih _ k (by omega) (by omega) (by omega)
/-- Both read a float's bytes alike. -/
theorem Fixed_is {B : Nat} (hB : B = 4 ∨ B = 8) {l : List Int} (hl : Bytes l) (hlen : l.length ≤ 140737488351232) (a e : Int) {k : Nat} (hk : 20 ≤ k) :
    ∃ r, ratchetref01_Fixed.f k l a e (B : Int) = some r ∧ (able l a e → leb_window_fixed.f k l a e (B : Int) = some r) ∧ (¬ able l a e → r = (0, 0, 1)) := by
  unfold ratchetref01_Fixed.f leb_window_fixed.f
  rw [reads_is]
  simp only [Option.bind_some]
  by_cases ha : able l a e
  · rw [decide_eq_true ha, if_pos rfl]
    obtain ⟨h0, h1, h2⟩ := ha
    by_cases hs : wrap64 (e - a) < (B : Int)
    · rw [if_pos hs, if_pos hs]
      exact ⟨_, rfl, fun _ => rfl, fun h => absurd ⟨h0, h1, h2⟩ h⟩
    · rw [if_neg hs, if_neg hs]
      rw [w64_in (by omega) (by omega)] at hs
      have e1 : wrap64 ((B : Int) - 1) = (B : Int) - 1 := w64_in (by omega) (by omega)
      rw [e1, fixed_eq hl]
      obtain ⟨r, hr⟩ := fixed_some (l := l) (a := a) (n := (B : Int)) h0 hlen B 0 k (by omega) (by omega) (by omega)
      exact ⟨r, hr, fun _ => hr, fun h => absurd ⟨h0, h1, h2⟩ h⟩
  · rw [decide_eq_false ha, if_neg (by decide)]
    exact ⟨_, rfl, fun h => absurd h ha, fun _ => rfl⟩
theorem F32_is {l : List Int} (hl : Bytes l) (hlen : l.length ≤ 140737488351232) (a e : Int) {k : Nat} (hk : 20 ≤ k) :
    ∃ r, ratchetref01_Fixed.f k l a e 4 = some r ∧ leb_F32.f k l a e = some (r.1 % 4294967296, r.2.1, r.2.2) := by
  obtain ⟨r, h1, h2, h3⟩ := Fixed_is (B := 4) (.inl rfl) hl hlen a e hk
  refine ⟨r, h1, ?_⟩
  unfold leb_F32.f leb_number_uint32_uint64_f32.f leb_f32.f
  rw [opened_is]
  by_cases ha : able l a e
  · rw [if_pos ha]
    simp only [Option.bind_some, if_true]
    erw [h2 ha]
    rfl
  · rw [if_neg ha, h3 ha]; rfl
theorem F64_is {l : List Int} (hl : Bytes l) (hlen : l.length ≤ 140737488351232) (a e : Int) {k : Nat} (hk : 20 ≤ k) :
    ∃ r, ratchetref01_Fixed.f k l a e 8 = some r ∧ leb_F64.f k l a e = some r := by
  obtain ⟨r, h1, h2, h3⟩ := Fixed_is (B := 8) (.inr rfl) hl hlen a e hk
  refine ⟨r, h1, ?_⟩
  unfold leb_F64.f leb_number_uint64_uint64_f64.f leb_f64.f
  rw [opened_is]
  by_cases ha : able l a e
  · rw [if_pos ha]
    simp only [Option.bind_some, if_true]
    erw [h2 ha]
    rfl
  · rw [if_neg ha, h3 ha]; rfl
end Go.Proofs.Yteajikofpcnagaa.LF
