/- What the printed readers of numbers come to: the plain readings of LM. -/
import Derived.Test.YteajikofpcnagaaLM
import Derived.Test.YteajikofpcnagaaLeb4
namespace Go.Proofs.Yteajikofpcnagaa.LR
set_option linter.unusedVariables false
set_option linter.unusedSimpArgs false
open Go.RowKit Go.Proofs.YteajikofpcnagaaW.PrintWords Go.Proofs.YteajikofpcnagaaW.PrintLast Go.Proofs.YteajikofpcnagaaW.PrintMore Go.Proofs.Yteajikofpcnagaa.LM Go.Proofs.Yteajikofpcnagaa.Leb

theorem uns_tail {B n p c a e : Int} {l : List Int} {i k : Nat} (hi : 7 * i ≤ 63) (h0 : 0 ≤ n) (h1 : n < 2 ^ (7 * i)) (c0 : 0 ≤ c) (c1 : c < 256) (hx : c % 128 < 2 ^ (64 - 7 * i)) (hp : 0 ≤ p) (hp1 : p < 140737488351232) :
    leb_window_unsigned.j1 (k + 1) B n ((7 * i : Nat) : Int) p c false l a e = if c < 128 then some (n + c * 2 ^ (7 * i), p + 1, 0) else leb_window_unsigned.l0 k B (n + c % 128 * 2 ^ (7 * i)) ((7 * (i + 1) : Nat) : Int) (p + 1) l a e := by
  simp only [leb_window_unsigned.j1]
  rw [if_neg (by decide), if_pos (by omega), and127 c0 c1, (join_u64 hi h0 h1 (by omega) hx).1]
  have e1 : wrap64 (p + 1) = p + 1 := w64_in (by omega) (by omega)
  have e2 : wrap64 (((7 * i : Nat) : Int) + 7) = ((7 * (i + 1) : Nat) : Int) := by rw [w64_in (by omega) (by omega)]; omega
  rw [e1, e2]
  by_cases hc : c < 128
  · rw [if_pos hc, if_pos hc]
    have : c % 128 = c := by omega
    rw [this]
  · rw [if_neg hc, if_neg hc]

theorem pow_mono' {s t : Nat} (h : s ≤ t) : (2 : Int) ^ s ≤ 2 ^ t := by
  have e : t = s + (t - s) := by omega
  rw [e, Int.pow_add]
  have h1 := pow_pos' s
  have h2 := pow_pos' (t - s)
  have h3 : (2 : Int) ^ s * 1 ≤ 2 ^ s * 2 ^ (t - s) := Int.mul_le_mul_of_nonneg_left (by omega) (by omega)
  omega
theorem div_zero_lt {c d : Int} (c0 : 0 ≤ c) (hd : 0 < d) (h : c / d = 0) : c < d := by
  have h1 := Int.emod_add_mul_ediv c d
  have h2 := Int.emod_lt_of_pos c hd
  rw [h] at h1
  simp at h1
  omega

theorem uns_round {B : Nat} (hB : B ≤ 64) {l : List Int} (hl : Bytes l) (hlen : l.length ≤ 140737488351232) {a e n p : Int} {i k : Nat} (hi : 7 * i < B) (h0 : 0 ≤ n) (h1 : n < 2 ^ (7 * i)) (hp : 0 ≤ p) (hpl : p < e → p < l.length) :
    leb_window_unsigned.l0 (k + 2) (B : Int) n ((7 * i : Nat) : Int) p l a e = if p ≥ e then some (0, e, 3) else if B < 7 * i + 7 ∧ rd l p / 2 ^ (B - 7 * i) ≠ 0 then some (0, p, 4) else if rd l p < 128 then some (n + rd l p * 2 ^ (7 * i), p + 1, 0) else leb_window_unsigned.l0 k (B : Int) (n + rd l p % 128 * 2 ^ (7 * i)) ((7 * (i + 1) : Nat) : Int) (p + 1) l a e := by
  rw [leb_window_unsigned.l0]
  by_cases hpe : p ≥ e
  · rw [if_pos hpe, if_pos hpe]
  rw [if_neg hpe, if_pos hp, if_pos (hpl (by omega)), if_neg hpe]
  obtain ⟨c0, c1⟩ := rd_byte hl p
  have hpl' := hpl (by omega)
  generalize rd l p = c at *
  have hw : wrap64 ((B : Int) - ((7 * i : Nat) : Int)) = ((B - 7 * i : Nat) : Int) := by rw [w64_in (by omega) (by omega)]; omega
  rw [hw]
  have hpow : (2 : Int) ^ (B - 7 * i) ≤ 2 ^ (64 - 7 * i) := pow_mono' (by omega)
  have h127 := Int.emod_lt_of_pos c (show (0 : Int) < 128 by omega)
  by_cases hs : B < 7 * i + 7
  · rw [if_pos (by omega), if_pos (by omega)]
    have hsh : shr .u8 c ((B - 7 * i : Nat) : Int) = c / 2 ^ (B - 7 * i) := by
      unfold shr
      have : min (((B - 7 * i : Nat) : Int).toNat) IntKind.u8.bits = B - 7 * i := by
        rw [Int.toNat_natCast]; show min _ 8 = _; omega
      rw [this]
    rw [hsh]
    by_cases hz : c / 2 ^ (B - 7 * i) = 0
    · have hb : (c / 2 ^ (B - 7 * i) != 0) = false := by simp [hz]
      rw [hb, if_neg (fun h => h.2 hz)]
      exact uns_tail (by omega) h0 h1 c0 c1 (by have := div_zero_lt c0 (pow_pos' _) hz; omega) hp (by omega)
    · have hb : (c / 2 ^ (B - 7 * i) != 0) = true := by simp [hz]
      rw [hb, if_pos ⟨hs, hz⟩]
      simp only [leb_window_unsigned.j1, if_true]
  · rw [if_neg (by omega), if_neg (fun h => hs h.1)]
    have h7 : (2 : Int) ^ 7 ≤ 2 ^ (64 - 7 * i) := pow_mono' (by omega)
    exact uns_tail (by omega) h0 h1 c0 c1 (by omega) hp (by omega)

theorem digit_lt {n c : Int} {i : Nat} (h0 : 0 ≤ n) (h1 : n < 2 ^ (7 * i)) (c0 : 0 ≤ c) : 0 ≤ n + c % 128 * 2 ^ (7 * i) ∧ n + c % 128 * 2 ^ (7 * i) < 2 ^ (7 * (i + 1)) := by
  have hq := pow_pos' (7 * i)
  have hc0 : 0 ≤ c % 128 := by omega
  have hc1 : c % 128 ≤ 127 := by omega
  have e : (2 : Int) ^ (7 * (i + 1)) = 128 * 2 ^ (7 * i) := by
    rw [Nat.mul_add, Int.pow_add, Int.mul_comm]; rfl
  have h2 : 0 ≤ c % 128 * 2 ^ (7 * i) := Int.mul_nonneg hc0 (by omega)
  have h3 : c % 128 * 2 ^ (7 * i) ≤ 127 * 2 ^ (7 * i) := Int.mul_le_mul_of_nonneg_right hc1 (by omega)
  rw [e]
  omega

theorem uns_all {B : Nat} (hB : B = 32 ∨ B = 64) {l : List Int} (hl : Bytes l) (hlen : l.length ≤ 140737488351232) {a e : Int} (he : e ≤ l.length) :
    ∀ (f i : Nat) (n p : Int) (k : Nat), 7 * i < B → B ≤ 7 * (i + f) → 2 * f ≤ k → 0 ≤ n → n < 2 ^ (7 * i) → 0 ≤ p → leb_window_unsigned.l0 k (B : Int) n ((7 * i : Nat) : Int) p l a e = some (US B l e f i n p) := by
  intro f
  induction f with
  | zero => intro i n p k h1 h2; omega
  | succ f ih =>
    intro i n p k hi hf hk h0 h1 hp
    obtain ⟨k, rfl⟩ : ∃ m, k = m + 2 := ⟨k - 2, by omega⟩
    rw [uns_round (by omega) hl hlen hi h0 h1 hp (by omega), US]
    by_cases hpe : p ≥ e
    · rw [if_pos hpe, if_pos hpe]
    rw [if_neg hpe, if_neg hpe]
    by_cases hc : B < 7 * i + 7 ∧ rd l p / 2 ^ (B - 7 * i) ≠ 0
    · rw [if_pos hc, if_pos hc]
    rw [if_neg hc, if_neg hc]
    by_cases h128 : rd l p < 128
    · rw [if_pos h128, if_pos h128]
    rw [if_neg h128, if_neg h128]
    obtain ⟨c0, c1⟩ := rd_byte hl p
    have hd := digit_lt h0 h1 c0
    refine ih (i + 1) _ (p + 1) k ?_ (by omega) (by omega) hd.1 hd.2 (by omega)
    by_cases hs : B < 7 * i + 7
    · have hz : rd l p / 2 ^ (B - 7 * i) = 0 := Decidable.byContradiction fun h => hc ⟨hs, h⟩
      have h5 := div_zero_lt c0 (pow_pos' _) hz
      have h6 : (2 : Int) ^ (B - 7 * i) ≤ 2 ^ 7 := pow_mono' (by omega)
      omega
    · omega

/-- May a number be read from at on, ahead of end? -/
def able (l : List Int) (at_ e : Int) : Prop := 0 ≤ at_ ∧ e ≤ l.length ∧ at_ ≤ e
instance (l : List Int) (at_ e : Int) : Decidable (able l at_ e) := by unfold able; infer_instance
theorem opened_is (l : List Int) (at_ e : Int) : leb_opened.f l at_ e = if able l at_ e then some (l, at_, e, 0) else some ([], 0, 0, 1) := by
  unfold leb_opened.f
  by_cases h1 : at_ < 0
  · rw [if_pos h1, if_neg (fun h => by unfold able at h; omega)]
  rw [if_neg h1]
  by_cases h2 : e > (l.length : Int)
  · rw [if_pos h2, if_neg (fun h => by unfold able at h; omega)]
  rw [if_neg h2]
  by_cases h3 : at_ > e
  · rw [if_pos h3, if_neg (fun h => by unfold able at h; omega)]
  rw [if_neg h3, if_pos (by unfold able; omega)]
/-- The unsigned reading of B bits. -/
def rdU (B : Nat) (l : List Int) (at_ e : Int) : Int × Int × Int := if able l at_ e then US B l e ((B + 6) / 7) 0 0 at_ else (0, 0, 1)
def rdS (B : Nat) (l : List Int) (at_ e : Int) : Int × Int × Int := if able l at_ e then SS B l e ((B + 6) / 7) 0 0 at_ else (0, 0, 1)
theorem US_bound {B : Nat} (h7 : B % 7 ≠ 0) {l : List Int} (hl : Bytes l) {e : Int} : ∀ (f i : Nat) (n p : Int), 7 * i < B → B ≤ 7 * (i + f) → 0 ≤ n → n < 2 ^ (7 * i) → 0 ≤ (US B l e f i n p).1 ∧ (US B l e f i n p).1 < 2 ^ B := by
  intro f
  induction f with
  | zero => intro i n p h1 h2; omega
  | succ f ih =>
    intro i n p hi hf h0 h1
    have hBp := pow_pos' B
    rw [US]
    by_cases hpe : p ≥ e
    · rw [if_pos hpe]; exact ⟨Int.le_refl _, hBp⟩
    rw [if_neg hpe]
    by_cases hc : B < 7 * i + 7 ∧ rd l p / 2 ^ (B - 7 * i) ≠ 0
    · rw [if_pos hc]; exact ⟨Int.le_refl _, hBp⟩
    rw [if_neg hc]
    obtain ⟨c0, c1⟩ := rd_byte hl p
    have hq := pow_pos' (7 * i)
    by_cases h128 : rd l p < 128
    · rw [if_pos h128]
      have hm : rd l p < 2 ^ (B - 7 * i) := by
        by_cases hs : B < 7 * i + 7
        · exact div_zero_lt c0 (pow_pos' _) (Decidable.byContradiction fun h => hc ⟨hs, h⟩)
        · have h7 : (2 : Int) ^ 7 ≤ 2 ^ (B - 7 * i) := pow_mono' (by omega)
          omega
      have h2 : (rd l p + 1) * 2 ^ (7 * i) ≤ 2 ^ (B - 7 * i) * 2 ^ (7 * i) := Int.mul_le_mul_of_nonneg_right (by omega) (by omega)
      rw [← Int.pow_add, Nat.sub_add_cancel (by omega), Int.add_mul] at h2
      have h3 : 0 ≤ rd l p * 2 ^ (7 * i) := Int.mul_nonneg c0 (by omega)
      exact ⟨by show 0 ≤ n + _; omega, by show n + _ < _; omega⟩
    rw [if_neg h128]
    have hd := digit_lt h0 h1 c0
    by_cases hn : 7 * (i + 1) < B
    · exact ih (i + 1) _ (p + 1) hn (by omega) hd.1 hd.2
    · have hB' : B ≤ 7 * i + 7 := by omega
      by_cases hs : B < 7 * i + 7
      · have h5 := div_zero_lt c0 (pow_pos' _) (Decidable.byContradiction fun h => hc ⟨hs, h⟩)
        have h6 : (2 : Int) ^ (B - 7 * i) ≤ 2 ^ 7 := pow_mono' (by omega)
        omega
      · omega

/- signed -/
theorem i8_wrap (n : Int) : IntKind.i8.wrap n = (n + 128) % 256 - 128 := by
  have h : IntKind.i8.wrap n = if 128 ≤ n % 256 then n % 256 - 256 else n % 256 := by
    simp [IntKind.wrap, IntKind.bits, IntKind.signed]
  rw [h]; split <;> omega
theorem top_ok {h : Nat} (hh : h = 1 ∨ h = 4 ∨ h = 5) {c : Int} (c0 : 0 ≤ c) (c1 : c < 128) :
    (shr .i8 (IntKind.i8.wrap ((c * 2) % 256)) (h : Int) = 0 ∨ shr .i8 (IntKind.i8.wrap ((c * 2) % 256)) (h : Int) = -1) ↔ okS h c := by
  unfold shr okS
  rw [i8_wrap]
  rcases hh with rfl | rfl | rfl
  · show ((((c * 2) % 256 + 128) % 256 - 128) / 2 ^ 1 = 0 ∨ (((c * 2) % 256 + 128) % 256 - 128) / 2 ^ 1 = -1) ↔ (c < 128 ∧ (c / 2 ^ 0 = 0 ∨ c / 2 ^ 0 = 2 ^ 7 - 1))
    omega
  · show ((((c * 2) % 256 + 128) % 256 - 128) / 2 ^ 4 = 0 ∨ (((c * 2) % 256 + 128) % 256 - 128) / 2 ^ 4 = -1) ↔ (c < 128 ∧ (c / 2 ^ 3 = 0 ∨ c / 2 ^ 3 = 2 ^ 4 - 1))
    omega
  · show ((((c * 2) % 256 + 128) % 256 - 128) / 2 ^ 5 = 0 ∨ (((c * 2) % 256 + 128) % 256 - 128) / 2 ^ 5 = -1) ↔ (c < 128 ∧ (c / 2 ^ 4 = 0 ∨ c / 2 ^ 4 = 2 ^ 3 - 1))
    omega
theorem two63 : (2 : Int) ^ 63 = 9223372036854775808 := rfl
theorem sgn_tail {B n p c a e : Int} {l : List Int} {i k : Nat} (hi : 7 * i ≤ 63) (h0 : 0 ≤ n) (h1 : n < 2 ^ (7 * i)) (c0 : 0 ≤ c) (c1 : c < 256) (hp : 0 ≤ p) (hp1 : p < 140737488351232) :
    leb_window_signed.j1 (k + 1) B (wrap64 n) ((7 * i : Nat) : Int) p c l a e = if c < 128 then some (wrap64 (n + (if c < 64 then c else c - 128) * 2 ^ (7 * i)), p + 1, 0) else leb_window_signed.l0 k B (wrap64 (n + c % 128 * 2 ^ (7 * i))) ((7 * (i + 1) : Nat) : Int) (p + 1) l a e := by
  simp only [leb_window_signed.j1]
  have e1 : wrap64 (p + 1) = p + 1 := w64_in (by omega) (by omega)
  have e2 : wrap64 (((7 * i : Nat) : Int) + 7) = ((7 * (i + 1) : Nat) : Int) := by rw [w64_in (by omega) (by omega)]; omega
  rw [if_pos (show (0 : Int) ≤ ((7 * i : Nat) : Int) by omega), and127 c0 c1, join_i64 hi h0 h1 (by omega) (by omega), and64 c0 c1, e1, e2]
  by_cases hc : c < 128
  · rw [if_pos hc, if_pos hc]
    have hm : c % 128 = c := by omega
    rw [hm]
    by_cases h64 : c < 64
    · rw [if_pos h64, if_pos rfl, if_pos h64]
    rw [if_neg h64, if_neg (by decide), if_neg h64]
    have hd := digit_lt h0 h1 c0
    rw [hm] at hd
    have ep : (2 : Int) ^ (7 * (i + 1)) = 128 * 2 ^ (7 * i) := by rw [Nat.mul_add, Int.pow_add, Int.mul_comm]; rfl
    by_cases hs : 7 * (i + 1) < 64
    · rw [if_pos (by omega), if_pos (by omega), join_sign (by omega) hd.1 hd.2, ep, Int.sub_mul]
      congr 2
      congr 1
      omega
    · rw [if_neg (by omega)]
      have e9 : i = 9 := by omega
      subst e9
      congr 2
      apply wrap64_congr
      show (n + c * 2 ^ 63) % _ = (n + (c - 128) * 2 ^ 63) % _
      rw [two63]
      omega
  · rw [if_neg hc, if_neg hc]
theorem sgn_round {B : Nat} (hB : B = 32 ∨ B = 33 ∨ B = 64) {l : List Int} (hl : Bytes l) (hlen : l.length ≤ 140737488351232) {a e n p : Int} {i k : Nat} (hi : 7 * i < B) (h0 : 0 ≤ n) (h1 : n < 2 ^ (7 * i)) (hp : 0 ≤ p) (hpl : p < e → p < l.length) :
    leb_window_signed.l0 (k + 2) (B : Int) (wrap64 n) ((7 * i : Nat) : Int) p l a e = if p ≥ e then some (0, e, 3) else if B < 7 * i + 7 ∧ ¬ okS (B - 7 * i) (rd l p) then some (0, p, 4) else if rd l p < 128 then some (wrap64 (n + (if rd l p < 64 then rd l p else rd l p - 128) * 2 ^ (7 * i)), p + 1, 0) else leb_window_signed.l0 k (B : Int) (wrap64 (n + rd l p % 128 * 2 ^ (7 * i))) ((7 * (i + 1) : Nat) : Int) (p + 1) l a e := by
  rw [leb_window_signed.l0]
  by_cases hpe : p ≥ e
  · rw [if_pos hpe, if_pos hpe]
  rw [if_neg hpe, if_pos hp, if_pos (hpl (by omega)), if_neg hpe]
  obtain ⟨c0, c1⟩ := rd_byte hl p
  have hpl' := hpl (by omega)
  generalize rd l p = c at *
  have hw : wrap64 ((B : Int) - ((7 * i : Nat) : Int)) = ((B - 7 * i : Nat) : Int) := by rw [w64_in (by omega) (by omega)]; omega
  rw [hw]
  have tail := sgn_tail (B := (B : Int)) (p := p) (a := a) (e := e) (l := l) (k := k) (i := i) (by omega) h0 h1 c0 c1 hp (by omega)
  by_cases hs : B < 7 * i + 7
  · rw [if_pos (by omega), if_pos (by omega)]
    have hh : B - 7 * i = 1 ∨ B - 7 * i = 4 ∨ B - 7 * i = 5 := by omega
    by_cases h128 : c ≥ 128
    · rw [if_pos h128, if_pos ⟨hs, fun h => by have := h.1; omega⟩]
    rw [if_neg h128]
    have hok := top_ok hh c0 (by omega)
    by_cases z : shr .i8 (IntKind.i8.wrap ((c * 2) % 256)) ((B - 7 * i : Nat) : Int) = 0
    · rw [if_pos z, if_neg (fun h => h.2 (hok.1 (.inl z)))]; exact tail
    rw [if_neg z]
    by_cases z' : shr .i8 (IntKind.i8.wrap ((c * 2) % 256)) ((B - 7 * i : Nat) : Int) = -1
    · rw [if_pos z', if_neg (fun h => h.2 (hok.1 (.inr z')))]; exact tail
    rw [if_neg z', if_pos ⟨hs, fun h => by rcases hok.2 h with h | h; exact z h; exact z' h⟩]
  · rw [if_neg (by omega), if_neg (fun h => hs h.1)]
    exact tail
theorem sgn_all {B : Nat} (hB : B = 32 ∨ B = 33 ∨ B = 64) {l : List Int} (hl : Bytes l) (hlen : l.length ≤ 140737488351232) {a e : Int} (he : e ≤ l.length) :
    ∀ (f i : Nat) (n p : Int) (k : Nat), 7 * i < B → B ≤ 7 * (i + f) → 2 * f ≤ k → 0 ≤ n → n < 2 ^ (7 * i) → 0 ≤ p → leb_window_signed.l0 k (B : Int) (wrap64 n) ((7 * i : Nat) : Int) p l a e = some (wrap64 (SS B l e f i n p).1, (SS B l e f i n p).2.1, (SS B l e f i n p).2.2) := by
  intro f
  induction f with
  | zero => intro i n p k h1 h2; omega
  | succ f ih =>
    intro i n p k hi hf hk h0 h1 hp
    obtain ⟨k, rfl⟩ : ∃ m, k = m + 2 := ⟨k - 2, by omega⟩
    rw [sgn_round hB hl hlen hi h0 h1 hp (by omega), SS]
    by_cases hpe : p ≥ e
    · rw [if_pos hpe, if_pos hpe]; show some ((0 : Int), e, (3 : Int)) = some (wrap64 0, e, 3); rw [w64_in (by omega) (by omega)]
    rw [if_neg hpe, if_neg hpe]
    by_cases hc : B < 7 * i + 7 ∧ ¬ okS (B - 7 * i) (rd l p)
    · rw [if_pos hc, if_pos hc]; show some ((0 : Int), p, (4 : Int)) = some (wrap64 0, p, 4); rw [w64_in (by omega) (by omega)]
    rw [if_neg hc, if_neg hc]
    by_cases h128 : rd l p < 128
    · rw [if_pos h128, if_pos h128]
    rw [if_neg h128, if_neg h128]
    obtain ⟨c0, c1⟩ := rd_byte hl p
    have hd := digit_lt h0 h1 c0
    refine ih (i + 1) _ (p + 1) k ?_ (by omega) (by omega) hd.1 hd.2 (by omega)
    by_cases hs : B < 7 * i + 7
    · have hz : okS (B - 7 * i) (rd l p) := Decidable.byContradiction fun h => hc ⟨hs, h⟩
      exact absurd hz.1 h128
    · omega
theorem SS_bound {B : Nat} (hB : B = 32 ∨ B = 33 ∨ B = 64) {l : List Int} (hl : Bytes l) {e : Int} : ∀ (f i : Nat) (n p : Int), 7 * i < B → B ≤ 7 * (i + f) → 0 ≤ n → n < 2 ^ (7 * i) → -(2 ^ (B - 1)) ≤ (SS B l e f i n p).1 ∧ (SS B l e f i n p).1 < 2 ^ (B - 1) := by
  intro f
  induction f with
  | zero => intro i n p h1 h2; omega
  | succ f ih =>
    intro i n p hi hf h0 h1
    have hBp := pow_pos' (B - 1)
    rw [SS]
    by_cases hpe : p ≥ e
    · rw [if_pos hpe]; exact ⟨by show _ ≤ (0 : Int); omega, hBp⟩
    rw [if_neg hpe]
    by_cases hc : B < 7 * i + 7 ∧ ¬ okS (B - 7 * i) (rd l p)
    · rw [if_pos hc]; exact ⟨by show _ ≤ (0 : Int); omega, hBp⟩
    rw [if_neg hc]
    obtain ⟨c0, c1⟩ := rd_byte hl p
    have hq := pow_pos' (7 * i)
    by_cases h128 : rd l p < 128
    · rw [if_pos h128]
      have hr := pow_pos' (B - 7 * i - 1)
      obtain ⟨d, hdd⟩ : ∃ d, d = (if rd l p < 64 then rd l p else rd l p - 128) := ⟨_, rfl⟩
      rw [← hdd]
      have hm : -(2 ^ (B - 7 * i - 1)) ≤ d ∧ d < 2 ^ (B - 7 * i - 1) := by
        by_cases hs : B < 7 * i + 7
        · have hz : okS (B - 7 * i) (rd l p) := Decidable.byContradiction fun h => hc ⟨hs, h⟩
          unfold okS at hz
          have hh : B - 7 * i = 1 ∨ B - 7 * i = 4 ∨ B - 7 * i = 5 := by omega
          generalize rd l p = c at *
          rcases hh with h | h | h <;> rw [h] at hz ⊢ <;> simp at hz ⊢ <;> split at hdd <;> omega
        · have h7 : (2 : Int) ^ 6 ≤ 2 ^ (B - 7 * i - 1) := pow_mono' (by omega)
          split at hdd <;> omega
      have e2 : (2 : Int) ^ (B - 1) = 2 ^ (B - 7 * i - 1) * 2 ^ (7 * i) := by rw [← Int.pow_add]; congr 1; omega
      have h2 : (d + 1) * 2 ^ (7 * i) ≤ 2 ^ (B - 7 * i - 1) * 2 ^ (7 * i) := Int.mul_le_mul_of_nonneg_right (by omega) (by omega)
      have h3 : (-(2 ^ (B - 7 * i - 1))) * 2 ^ (7 * i) ≤ d * 2 ^ (7 * i) := Int.mul_le_mul_of_nonneg_right (by omega) (by omega)
      rw [Int.neg_mul] at h3
      rw [Int.add_mul] at h2
      rw [e2]
      exact ⟨by show _ ≤ n + _; omega, by show n + _ < _; omega⟩
    rw [if_neg h128]
    have hd := digit_lt h0 h1 c0
    by_cases hs : B < 7 * i + 7
    · have hz : okS (B - 7 * i) (rd l p) := Decidable.byContradiction fun h => hc ⟨hs, h⟩
      exact absurd hz.1 h128
    · exact ih (i + 1) _ (p + 1) (by omega) (by omega) hd.1 hd.2
theorem US_top {B : Nat} (h7 : B % 7 ≠ 0) (h0 : 0 < B) {l : List Int} (hl : Bytes l) (e p : Int) : 0 ≤ (US B l e ((B + 6) / 7) 0 0 p).1 ∧ (US B l e ((B + 6) / 7) 0 0 p).1 < 2 ^ B := US_bound h7 hl _ 0 0 p (by omega) (by omega) (by omega) (by decide)
theorem SS_top {B : Nat} (hB : B = 32 ∨ B = 33 ∨ B = 64) {l : List Int} (hl : Bytes l) (e p : Int) : -(2 ^ (B - 1)) ≤ (SS B l e ((B + 6) / 7) 0 0 p).1 ∧ (SS B l e ((B + 6) / 7) 0 0 p).1 < 2 ^ (B - 1) := SS_bound hB hl _ 0 0 p (by omega) (by omega) (by omega) (by decide)
theorem window_unsigned_is {B : Nat} (hB : B = 32 ∨ B = 64) {l : List Int} (hl : Bytes l) (hlen : l.length ≤ 140737488351232) {a e : Int} (ha : able l a e) {k : Nat} (hk : 20 ≤ k) : leb_window_unsigned.f k l a e (B : Int) = some (US B l e ((B + 6) / 7) 0 0 a) := by
  unfold leb_window_unsigned.f
  exact uns_all hB hl hlen ha.2.1 _ 0 0 a k (by omega) (by omega) (by omega) (by omega) (by decide) ha.1
theorem window_signed_is {B : Nat} (hB : B = 32 ∨ B = 33 ∨ B = 64) {l : List Int} (hl : Bytes l) (hlen : l.length ≤ 140737488351232) {a e : Int} (ha : able l a e) {k : Nat} (hk : 20 ≤ k) : leb_window_signed.f k l a e (B : Int) = some (SS B l e ((B + 6) / 7) 0 0 a) := by
  unfold leb_window_signed.f
  have h := sgn_all hB hl hlen (a := a) ha.2.1 ((B + 6) / 7) 0 0 a k (by omega) (by omega) (by omega) (by omega) (by decide) ha.1
  have hb := SS_top hB hl e a
  have hp : (2 : Int) ^ (B - 1) ≤ 2 ^ 63 := pow_mono' (by omega)
  rw [two63] at hp
  rw [w64_in (x := 0) (by omega) (by omega), w64_in (x := (SS B l e ((B + 6) / 7) 0 0 a).1) (by omega) (by omega)] at h
  exact h
theorem U64_is {l : List Int} (hl : Bytes l) (hlen : l.length ≤ 140737488351232) (a e : Int) {k : Nat} (hk : 20 ≤ k) : leb_U64.f k l a e = some (rdU 64 l a e) := by
  unfold leb_U64.f leb_number_uint64_uint64_u64.f rdU leb_u64.f
  rw [opened_is]
  by_cases ha : able l a e
  · rw [if_pos ha, if_pos ha]
    have h := window_unsigned_is (B := 64) (.inr rfl) hl hlen ha hk
    simp only [Option.bind_some, if_true]
    erw [h]
    rfl
  · rw [if_neg ha, if_neg ha]; rfl
theorem U32_is {l : List Int} (hl : Bytes l) (hlen : l.length ≤ 140737488351232) (a e : Int) {k : Nat} (hk : 20 ≤ k) : leb_U32.f k l a e = some (rdU 32 l a e) := by
  unfold leb_U32.f leb_number_uint32_uint64_u32.f rdU leb_u32.f
  rw [opened_is]
  by_cases ha : able l a e
  · rw [if_pos ha, if_pos ha]
    have h := window_unsigned_is (B := 32) (.inl rfl) hl hlen ha hk
    have hb := US_top (B := 32) (by decide) (by decide) hl e a
    have e32 : (2 : Int) ^ 32 = 4294967296 := rfl
    rw [e32] at hb
    simp only [Option.bind_some, if_true]
    erw [h]
    simp only [Option.bind_some]
    rw [Int.emod_eq_of_lt hb.1 hb.2]
  · rw [if_neg ha, if_neg ha]; rfl
theorem S64_is {l : List Int} (hl : Bytes l) (hlen : l.length ≤ 140737488351232) (a e : Int) {k : Nat} (hk : 20 ≤ k) : leb_S64.f k l a e = some (rdS 64 l a e) := by
  unfold leb_S64.f leb_number_int64_int64_s64.f rdS leb_s64.f
  rw [opened_is]
  by_cases ha : able l a e
  · rw [if_pos ha, if_pos ha]
    have h := window_signed_is (B := 64) (.inr (.inr rfl)) hl hlen ha hk
    simp only [Option.bind_some, if_true]
    erw [h]
    rfl
  · rw [if_neg ha, if_neg ha]; rfl
theorem S33_is {l : List Int} (hl : Bytes l) (hlen : l.length ≤ 140737488351232) (a e : Int) {k : Nat} (hk : 20 ≤ k) : leb_S33.f k l a e = some (rdS 33 l a e) := by
  unfold leb_S33.f leb_number_int64_int64_s33.f rdS leb_s33.f
  rw [opened_is]
  by_cases ha : able l a e
  · rw [if_pos ha, if_pos ha]
    have h := window_signed_is (B := 33) (.inr (.inl rfl)) hl hlen ha hk
    simp only [Option.bind_some, if_true]
    erw [h]
    rfl
  · rw [if_neg ha, if_neg ha]; rfl
theorem S32_is {l : List Int} (hl : Bytes l) (hlen : l.length ≤ 140737488351232) (a e : Int) {k : Nat} (hk : 20 ≤ k) : leb_S32.f k l a e = some (rdS 32 l a e) := by
  unfold leb_S32.f leb_number_int32_int64_s32.f rdS leb_s32.f
  rw [opened_is]
  by_cases ha : able l a e
  · rw [if_pos ha, if_pos ha]
    have h := window_signed_is (B := 32) (.inl rfl) hl hlen ha hk
    have hb := SS_top (B := 32) (.inl rfl) hl e a
    have e31 : (2 : Int) ^ (32 - 1) = 2147483648 := rfl
    rw [e31] at hb
    have hw : wrap32 (SS 32 l e ((32 + 6) / 7) 0 0 a).1 = (SS 32 l e ((32 + 6) / 7) 0 0 a).1 := by unfold wrap32; omega
    simp only [Option.bind_some, if_true]
    erw [h]
    simp only [Option.bind_some]
    rw [hw]
  · rw [if_neg ha, if_neg ha]; rfl
end Go.Proofs.Yteajikofpcnagaa.LR
