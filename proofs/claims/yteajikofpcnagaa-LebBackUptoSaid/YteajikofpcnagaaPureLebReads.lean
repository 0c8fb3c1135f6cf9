/- Every reading of a number tells the number, the place behind it, or the first fault: the plain statement. -/
import Derived.Test.YteajikofpcnagaaLP
import Derived.Test.YteajikofpcnagaaLF
import Derived.Test.YteajikofpcnagaaPureLebWider
import Derived.Test.YteajikofpcnagaaLeb6
namespace Go.Proofs.Yteajikofpcnagaa.Pure
set_option linter.unusedVariables false
set_option linter.unusedSimpArgs false
open Go.RowKit Go.Proofs.YteajikofpcnagaaW.PrintWords Go.Proofs.YteajikofpcnagaaW.PrintLast Go.Proofs.YteajikofpcnagaaW.PrintMore Go.Proofs.Yteajikofpcnagaa.LM Go.Proofs.Yteajikofpcnagaa.LP Go.Proofs.Yteajikofpcnagaa.LR Go.Proofs.Yteajikofpcnagaa.LF Go.Proofs.Yteajikofpcnagaa.Leb

theorem copied_is {l : List Int} (h : l.length < 140737488355328) : ratchetlaw01_copied.f l = some l := by
  unfold ratchetlaw01_copied.f
  simp only [Option.bind_some]
  rw [if_pos (by simpa using h)]
  simp
theorem bne_self' (x : Int) : (x != x) = false := by simp
theorem floats_is {l : List Int} (hl : Bytes l) (hlen : l.length ≤ 140737488351232) (a e : Int) {k : Nat} (hk : 21 ≤ k) : ratchetlaw01_floats.f k l a e = some true := by
  obtain ⟨r, h1, h2⟩ := F32_is hl hlen a e (show 20 ≤ k by omega)
  unfold ratchetlaw01_floats.f
  rw [copied_is (by omega)]
  simp only [Option.bind_some]
  rw [h2]
  simp only [Option.bind_some]
  rw [h1]
  simp only [Option.bind_some, if_true]
  rw [bne_self']
  obtain ⟨k, rfl⟩ : ∃ m, k = m + 1 := ⟨k - 1, by omega⟩
  rw [ratchetlaw01_floats.j0, if_neg (by decide), copied_is (by omega)]
  simp only [Option.bind_some]
  obtain ⟨q, h3, h4⟩ := F64_is hl hlen a e (show 20 ≤ k by omega)
  rw [h4]
  simp only [Option.bind_some]
  rw [h3]
  simp
theorem LebReads : ratchetlaw01_LebReads.Pure := by
  intro l a e m1 y1 w1 wa we
  have hb := bytes_of_wf w1
  have hlen : l.length ≤ 140737488351232 := by omega
  have e64 : (2 : Int) ^ 64 = 18446744073709551616 := rfl
  have e63 : (2 : Int) ^ (64 - 1) = 9223372036854775808 := rfl
  have e32 : (2 : Int) ^ 32 = 4294967296 := rfl
  have e32' : (2 : Int) ^ (33 - 1) = 4294967296 := rfl
  have e31 : (2 : Int) ^ (32 - 1) = 2147483648 := rfl
  have cp := copied_is (l := l) (by omega)
  have j3 : ratchetlaw01_LebReads.j3 100 l a e false = some true := by
    rw [ratchetlaw01_LebReads.j3, if_neg (by decide), cp]
    simp only [Option.bind_some]
    rw [S64_is hb hlen _ _ (by omega)]
    simp only [Option.bind_some]
    erw [Number_is (B := 64) (sg := true) (.inr ⟨rfl, .inr (.inr rfl)⟩) hb hlen a e (show 20 ≤ 99 by omega)]
    simp only [Option.bind_some, if_true]
    have hr := rdS_bound (B := 64) (.inr (.inr rfl)) hb a e
    rw [e63] at hr
    rw [if_pos (by unfold wrap64; omega), floats_is hb hlen a e (by omega)]
    simp only [Option.bind_some, if_true]
    rw [PutU_is (by omega) (by omega) (by omega)]
    simp only [Option.bind_some]
    rw [du_small (by decide)]
    rfl
  have j2 : ratchetlaw01_LebReads.j2 101 l a e false = some true := by
    rw [ratchetlaw01_LebReads.j2, if_neg (by decide), cp]
    simp only [Option.bind_some]
    rw [S33_is hb hlen _ _ (by omega)]
    simp only [Option.bind_some]
    erw [Number_is (B := 33) (sg := true) (.inr ⟨rfl, .inr (.inl rfl)⟩) hb hlen a e (show 20 ≤ 100 by omega)]
    simp only [Option.bind_some, if_true]
    have hr := rdS_bound (B := 33) (.inr (.inl rfl)) hb a e
    rw [e32'] at hr
    rw [if_pos (by unfold wrap64; omega), bne_self', j3]
  have j1 : ratchetlaw01_LebReads.j1 102 l a e false = some true := by
    rw [ratchetlaw01_LebReads.j1, if_neg (by decide), cp]
    simp only [Option.bind_some]
    rw [S32_is hb hlen _ _ (by omega)]
    simp only [Option.bind_some]
    erw [Number_is (B := 32) (sg := true) (.inr ⟨rfl, .inl rfl⟩) hb hlen a e (show 20 ≤ 101 by omega)]
    simp only [Option.bind_some, if_true]
    have hr := rdS_bound (B := 32) (.inl rfl) hb a e
    rw [e31] at hr
    rw [if_pos (by unfold wrap32; omega), bne_self', j2]
  have j0 : ratchetlaw01_LebReads.j0 103 l a e false = some true := by
    rw [ratchetlaw01_LebReads.j0, if_neg (by decide), cp]
    simp only [Option.bind_some]
    rw [U64_is hb hlen _ _ (by omega)]
    simp only [Option.bind_some]
    erw [Number_is (B := 64) (sg := false) (.inl ⟨rfl, .inr rfl⟩) hb hlen a e (show 20 ≤ 102 by omega)]
    rw [if_neg (by decide)]
    simp only [Option.bind_some, if_true]
    have hr := rdU_bound (B := 64) (by decide) (by decide) hb a e
    rw [e64] at hr
    rw [if_pos (by omega), bne_self', j1]
  refine ⟨103, ?_⟩
  unfold ratchetlaw01_LebReads.f
  rw [cp]
  simp only [Option.bind_some]
  rw [U32_is hb hlen _ _ (by omega)]
  simp only [Option.bind_some]
  erw [Number_is (B := 32) (sg := false) (.inl ⟨rfl, .inl rfl⟩) hb hlen a e (show 20 ≤ 103 by omega)]
  rw [if_neg (by decide)]
  simp only [Option.bind_some, if_true]
  have hr := rdU_bound (B := 32) (by decide) (by decide) hb a e
  rw [e32] at hr
  rw [if_pos (by omega), bne_self', j0]
end Go.Proofs.Yteajikofpcnagaa.Pure
