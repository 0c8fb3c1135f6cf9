/- What is a number of few bits is the same number of more bits: the plain statement. -/
import Derived.Test.YteajikofpcnagaaLP
import Derived.Test.YteajikofpcnagaaLR
import Derived.Test.YteajikofpcnagaaLeb4
namespace Go.Proofs.Yteajikofpcnagaa.Pure
set_option linter.unusedVariables false
set_option linter.unusedSimpArgs false
open Go.RowKit Go.Proofs.YteajikofpcnagaaW.PrintWords Go.Proofs.YteajikofpcnagaaW.PrintLast Go.Proofs.YteajikofpcnagaaW.PrintMore Go.Proofs.Yteajikofpcnagaa.LM Go.Proofs.Yteajikofpcnagaa.LP Go.Proofs.Yteajikofpcnagaa.LR Go.Proofs.Yteajikofpcnagaa.Leb

/-- A reading that succeeds with 32 bits is the same with 64. -/
theorem US_wider {l : List Int} {e : Int} : ∀ (f g i : Nat) (n p : Int), 7 * i < 32 → 32 ≤ 7 * (i + f) → 64 ≤ 7 * (i + g) → (US 32 l e f i n p).2.2 = 0 → US 64 l e g i n p = US 32 l e f i n p := by
  intro f
  induction f with
  | zero => intro g i n p h1 h2; omega
  | succ f ih =>
    intro g i n p hi hf hg h
    obtain ⟨g, rfl⟩ : ∃ m, g = m + 1 := ⟨g - 1, by omega⟩
    rw [US] at h
    rw [US, US]
    by_cases hp : p ≥ e
    · rw [if_pos hp, if_pos hp]
    rw [if_neg hp] at h ⊢
    rw [if_neg hp]
    by_cases hc : 32 < 7 * i + 7 ∧ rd l p / 2 ^ (32 - 7 * i) ≠ 0
    · rw [if_pos hc] at h
      exact absurd h (by show ¬ ((4 : Int) = 0); decide)
    rw [if_neg hc] at h ⊢
    rw [if_neg (by omega)]
    by_cases h128 : rd l p < 128
    · rw [if_pos h128, if_pos h128]
    rw [if_neg h128] at h ⊢
    rw [if_neg h128]
    by_cases hn : 7 * (i + 1) < 32
    · exact ih g (i + 1) _ (p + 1) hn (by omega) (by omega) h
    · exfalso
      have e4 : i = 4 := by omega
      subst e4
      have hz : rd l p / 2 ^ (32 - 7 * 4) = 0 := Decidable.byContradiction fun h => hc ⟨by omega, h⟩
      have hz : rd l p / 16 = 0 := hz
      omega
theorem SS_wider {l : List Int} {e : Int} {A B : Nat} (hA : (A = 32 ∧ B = 33) ∨ (A = 32 ∧ B = 64)) : ∀ (f g i : Nat) (n p : Int), 7 * i < A → A ≤ 7 * (i + f) → B ≤ 7 * (i + g) → (SS A l e f i n p).2.2 = 0 → SS B l e g i n p = SS A l e f i n p := by
  intro f
  induction f with
  | zero => intro g i n p h1 h2; omega
  | succ f ih =>
    intro g i n p hi hf hg h
    obtain ⟨g, rfl⟩ : ∃ m, g = m + 1 := ⟨g - 1, by omega⟩
    rw [SS] at h
    rw [SS, SS]
    by_cases hp : p ≥ e
    · rw [if_pos hp, if_pos hp]
    rw [if_neg hp] at h ⊢
    rw [if_neg hp]
    by_cases hc : A < 7 * i + 7 ∧ ¬ okS (A - 7 * i) (rd l p)
    · rw [if_pos hc] at h
      exact absurd h (by show ¬ ((4 : Int) = 0); decide)
    rw [if_neg hc] at h ⊢
    have hB : ¬ (B < 7 * i + 7 ∧ ¬ okS (B - 7 * i) (rd l p)) := by
      rintro ⟨h1, h2⟩
      rcases hA with ⟨rfl, rfl⟩ | ⟨rfl, rfl⟩
      · have e4 : i = 4 := by omega
        subst e4
        have hz : okS 4 (rd l p) := Decidable.byContradiction fun h => hc ⟨by omega, h⟩
        apply h2
        show okS 5 (rd l p)
        unfold okS at hz ⊢
        simp at hz ⊢
        omega
      · omega
    rw [if_neg hB]
    by_cases h128 : rd l p < 128
    · rw [if_pos h128, if_pos h128]
    rw [if_neg h128] at h ⊢
    rw [if_neg h128]
    by_cases hn : 7 * (i + 1) < A
    · exact ih g (i + 1) _ (p + 1) hn (by omega) (by omega) h
    · exfalso
      have hz : okS (A - 7 * i) (rd l p) := Decidable.byContradiction fun h => hc ⟨by omega, h⟩
      exact h128 hz.1
theorem rdU_wider {l : List Int} {a e : Int} (h : (rdU 32 l a e).2.2 = 0) : rdU 64 l a e = rdU 32 l a e := by
  unfold rdU at h ⊢
  by_cases ha : able l a e
  · rw [if_pos ha] at h ⊢
    rw [if_pos ha]
    exact US_wider _ _ 0 0 a (by omega) (by omega) (by omega) h
  · rw [if_neg ha, if_neg ha]
theorem rdS_wider {B : Nat} (hB : B = 33 ∨ B = 64) {l : List Int} {a e : Int} (h : (rdS 32 l a e).2.2 = 0) : rdS B l a e = rdS 32 l a e := by
  unfold rdS at h ⊢
  by_cases ha : able l a e
  · rw [if_pos ha] at h ⊢
    rw [if_pos ha]
    exact SS_wider (by omega) _ _ 0 0 a (by omega) (by omega) (by omega) h
  · rw [if_neg ha, if_neg ha]
theorem rdU_bound {B : Nat} (h7 : B % 7 ≠ 0) (h0 : 0 < B) {l : List Int} (hl : Bytes l) (a e : Int) : 0 ≤ (rdU B l a e).1 ∧ (rdU B l a e).1 < 2 ^ B := by
  unfold rdU
  split
  · exact US_top h7 h0 hl e a
  · exact ⟨Int.le_refl _, pow_pos' B⟩
theorem rdS_bound {B : Nat} (hB : B = 32 ∨ B = 33 ∨ B = 64) {l : List Int} (hl : Bytes l) (a e : Int) : -(2 ^ (B - 1)) ≤ (rdS B l a e).1 ∧ (rdS B l a e).1 < 2 ^ (B - 1) := by
  unfold rdS
  split
  · exact SS_top hB hl e a
  · have := pow_pos' (B - 1)
    exact ⟨by show _ ≤ (0 : Int); omega, this⟩
theorem LebWider : ratchetlaw01_LebWider.Pure := by
  intro l m1 y1 w1
  have hb := bytes_of_wf w1
  refine ⟨101, ?_⟩
  have hj : ratchetlaw01_LebWider.j0 101 l = some true := by
    rw [ratchetlaw01_LebWider.j0, S32_is hb (by omega) _ _ (by omega)]
    simp only [Option.bind_some]
    by_cases h : (rdS 32 l 0 l.length).2.2 = 0
    · rw [if_pos h, S33_is hb (by omega) _ _ (by omega)]
      simp only [Option.bind_some]
      rw [S64_is hb (by omega) _ _ (by omega)]
      simp only [Option.bind_some]
      have hr := rdS_bound (B := 32) (.inl rfl) hb 0 l.length
      have e31 : (2 : Int) ^ (32 - 1) = 2147483648 := rfl
      rw [e31] at hr
      rw [rdS_wider (.inl rfl) h, rdS_wider (.inr rfl) h, if_pos h, if_pos h, w64_in (by omega) (by omega), if_pos rfl, if_pos rfl, if_pos rfl, if_pos rfl]
    · rw [if_neg h]
  have hp : leb_PutU.f 101 0 = some [0] := by
    rw [PutU_is (by omega) (by omega) (by omega), du_small (by decide)]; rfl
  unfold ratchetlaw01_LebWider.f
  rw [hp]
  simp only [Option.bind_some]
  rw [if_pos (by rfl), U32_is hb (by omega) _ _ (by omega)]
  simp only [Option.bind_some]
  by_cases h : (rdU 32 l 0 l.length).2.2 = 0
  · have hr := rdU_bound (B := 32) (by decide) (by decide) hb 0 l.length
    have e32 : (2 : Int) ^ 32 = 4294967296 := rfl
    rw [e32] at hr
    rw [if_pos h, U64_is hb (by omega) _ _ (by omega)]
    simp only [Option.bind_some]
    rw [rdU_wider h, if_pos h, wu64_in hr.1 (by omega), if_pos rfl, if_pos rfl, hj]
  · rw [if_neg h, hj]
end Go.Proofs.Yteajikofpcnagaa.Pure
