/- What is written is read back as itself, between any bytes: the plain statement, for bytes of at most 1048576 each. -/
import Derived.Test.YteajikofpcnagaaPureLebReads
import Derived.Test.YteajikofpcnagaaLeb3
namespace Go.Proofs.Yteajikofpcnagaa.Pure
set_option linter.unusedVariables false
set_option linter.unusedSimpArgs false
open Go.RowKit Go.Proofs.YteajikofpcnagaaW.PrintWords Go.Proofs.YteajikofpcnagaaW.PrintLast Go.Proofs.YteajikofpcnagaaW.PrintMore Go.Proofs.Yteajikofpcnagaa.LM Go.Proofs.Yteajikofpcnagaa.LP Go.Proofs.Yteajikofpcnagaa.LR Go.Proofs.Yteajikofpcnagaa.Leb

def LebBackU : Prop := ∀ (a0 : Int) (l1 : List Int) (l2 : List Int), (Lit.int .u64 a0).wf = true → l1.length ≤ 1048576 → (∀ x ∈ l1, (Lit.int .u8 x).wf = true) → l2.length ≤ 1048576 → (∀ x ∈ l2, (Lit.int .u8 x).wf = true) → ∃ k, ratchetlaw01_LebBack.f k a0 l1 l2 = some true
theorem rdU_back {n : Int} (h0 : 0 ≤ n) (h1 : n < 18446744073709551616) (pre post : List Int) : rdU 64 (pre ++ du n.toNat ++ post) pre.length (pre ++ du n.toNat ++ post).length = (n, ((pre.length + (du n.toNat).length : Nat) : Int), 0) := by
  unfold rdU
  rw [if_pos (by unfold able; simp; omega)]
  have h := US_back ((64 + 6) / 7) 0 n.toNat 0 pre post (pre ++ du n.toNat ++ post).length (by omega) (by omega) (by show _ < 2 ^ 64; omega) (by simp; omega)
  rw [h]
  have : (n.toNat : Int) = n := by omega
  rw [this]
  simp
theorem rdS_back {n : Int} (h0 : -9223372036854775808 ≤ n) (h1 : n < 9223372036854775808) (pre post : List Int) : rdS 64 (pre ++ ds n ++ post) pre.length (pre ++ ds n ++ post).length = (n, ((pre.length + (ds n).length : Nat) : Int), 0) := by
  unfold rdS
  rw [if_pos (by unfold able; simp; omega)]
  have h := SS_back ((64 + 6) / 7) 0 n 0 pre post (pre ++ ds n ++ post).length (by omega) (by omega) (by show -(2 ^ 63) ≤ n; omega) (by show n < 2 ^ 63; omega) (by simp; omega)
  rw [h]
  simp
theorem LebBackU_holds : LebBackU := by
  intro n l1 l2 w0 y1 w1 y2 w2
  obtain ⟨h0, h1⟩ := range_u64 w0
  have hs := wrap64_range n
  have b1 := bytes_of_wf w1
  have b2 := bytes_of_wf w2
  obtain ⟨bu, lu1, lu2⟩ := du64 h0 h1
  obtain ⟨bs, ls1, ls2⟩ := ds64 hs.1 hs.2
  have cp := copied_is (l := l1) (by omega)
  refine ⟨101, ?_⟩
  unfold ratchetlaw01_LebBack.f
  rw [PutU_is h0 h1 (by omega)]
  simp only [Option.bind_some]
  rw [cp]
  simp only [Option.bind_some]
  rw [if_pos (by omega), if_pos (by simp; omega), U64_is (bytes_append (bytes_append b1 bu) b2) (by simp; omega) _ _ (by omega), rdU_back h0 h1]
  simp only [Option.bind_some, if_true]
  rw [if_pos (by rw [w64_in (by omega) (by omega)]; omega)]
  have hz : (((du n.toNat).length : Int) == 0) = false := by rw [beq_eq_false_iff_ne]; omega
  rw [hz, ratchetlaw01_LebBack.j0, if_neg (by decide), PutS_is hs.1 hs.2 (by omega)]
  simp only [Option.bind_some]
  rw [cp]
  simp only [Option.bind_some]
  rw [if_pos (by omega), if_pos (by simp; omega), S64_is (bytes_append (bytes_append b1 bs) b2) (by simp; omega) _ _ (by omega), rdS_back hs.1 hs.2]
  simp only [Option.bind_some, if_true]
  rw [w64_in (x := (l1.length : Int) + ((ds (wrap64 n)).length : Int)) (by omega) (by omega)]
  simp
end Go.Proofs.Yteajikofpcnagaa.Pure
