/- Of a beginning of a number's bytes the answer is that they end too early: the plain statement. -/
import Derived.Test.YteajikofpcnagaaLP
import Derived.Test.YteajikofpcnagaaLR
import Derived.Test.YteajikofpcnagaaLeb3
namespace Go.Proofs.Yteajikofpcnagaa.Pure
set_option linter.unusedVariables false
set_option linter.unusedSimpArgs false
open Go.RowKit Go.Proofs.YteajikofpcnagaaW.PrintWords Go.Proofs.YteajikofpcnagaaW.PrintLast Go.Proofs.YteajikofpcnagaaW.PrintMore Go.Proofs.Yteajikofpcnagaa.LM Go.Proofs.Yteajikofpcnagaa.LP Go.Proofs.Yteajikofpcnagaa.LR Go.Proofs.Yteajikofpcnagaa.Leb

theorem cut_in {c : Int} {n : Nat} (h0 : 0 ≤ c) (h1 : c < 256) (hn : 1 ≤ n) : 0 ≤ Int.tmod (wrap64 c) (n : Int) ∧ Int.tmod (wrap64 c) (n : Int) < n := by
  rw [w64_in (by omega) (by omega), Int.tmod_eq_emod_of_nonneg h0]
  exact ⟨Int.emod_nonneg _ (by omega), Int.emod_lt_of_pos _ (by omega)⟩
theorem rdU_short {n : Int} (h0 : 0 ≤ n) (h1 : n < 18446744073709551616) {e : Int} (he : 0 ≤ e) (h2 : e < (du n.toNat).length) : rdU 64 (du n.toNat) 0 e = (0, e, 3) := by
  unfold rdU
  rw [if_pos (by unfold able; omega)]
  have h := US_short ((64 + 6) / 7) 0 n.toNat 0 [] [] e (by omega) (by omega) (by show _ < 2 ^ 64; omega) (by simpa using he) (by simpa using h2)
  simpa using h
theorem rdS_short {n : Int} (h0 : -9223372036854775808 ≤ n) (h1 : n < 9223372036854775808) {e : Int} (he : 0 ≤ e) (h2 : e < (ds n).length) : rdS 64 (ds n) 0 e = (0, e, 3) := by
  unfold rdS
  rw [if_pos (by unfold able; omega)]
  have h := SS_short ((64 + 6) / 7) 0 n 0 [] [] e (by omega) (by omega) (by show -(2 ^ 63) ≤ n; omega) (by show n < 2 ^ 63; omega) (by simpa using he) (by simpa using h2)
  simpa using h
theorem LebShort : ratchetlaw01_LebShort.Pure := by
  intro a0 a1 w0 w1
  obtain ⟨h0, h1⟩ := range_u64 w0
  obtain ⟨c0, c1⟩ := range_u8 w1
  have hs := wrap64_range a0
  obtain ⟨bu, lu1, lu2⟩ := du64 h0 h1
  obtain ⟨bs, ls1, ls2⟩ := ds64 hs.1 hs.2
  have cu := cut_in c0 c1 lu1
  have cs := cut_in c0 c1 ls1
  refine ⟨101, ?_⟩
  unfold ratchetlaw01_LebShort.f
  rw [PutU_is h0 h1 (by omega)]
  simp only [Option.bind_some]
  rw [if_neg (by omega), U64_is bu (by omega) _ _ (by omega), rdU_short h0 h1 cu.1 cu.2]
  simp only [Option.bind_some, if_true]
  rw [ratchetlaw01_LebShort.j0, if_neg (by decide), PutS_is hs.1 hs.2 (by omega)]
  simp only [Option.bind_some]
  rw [if_neg (by omega), S64_is bs (by omega) _ _ (by omega), rdS_short hs.1 hs.2 cs.1 cs.2]
  simp only [Option.bind_some, if_true]
  rfl
end Go.Proofs.Yteajikofpcnagaa.Pure
