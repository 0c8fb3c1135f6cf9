/- The law of the opcodes: rising, known as named, and each found again by its name. -/
import Derived.Test.YthidcpkcfoldmaaIV
import Derived.Test.YthidcpkcfoldmaaIW
import Derived.Test.YthidcpkcfoldmaaIns6
namespace Go.Proofs.Ythidcpkcfoldmaa.IX
set_option linter.unusedVariables false
set_option linter.unusedSimpArgs false
open Go.RowKit Go.Proofs.YthidcpkcfoldmaaW.PrintWords Go.Proofs.YthidcpkcfoldmaaW.PrintLast Go.Proofs.YthidcpkcfoldmaaW.PrintMore Go.Proofs.Ythidcpkcfoldmaa.Ins Go.Proofs.Ythidcpkcfoldmaa.IT Go.Proofs.Ythidcpkcfoldmaa.IU Go.Proofs.Ythidcpkcfoldmaa.IV Go.Proofs.Ythidcpkcfoldmaa.IW

theorem len_all : allP.length = 243 := by rw [len_eq, ops_lit]; rfl
theorem toD {a b : ByteArray} (h : a.toList = b.toList) : a.data.toList = b.data.toList := by rwa [ByteArray.toList_eq, ByteArray.toList_eq] at h
theorem enc_at {i : Nat} (h : i < 243) : litN[i]? = some (enc (allP.getD i z53).f1.data.toList) := by
  rw [← enc_all, List.getElem?_map, List.getElem?_eq_getElem (by rw [len_all]; exact h), List.getD_eq_getElem?_getD, List.getElem?_eq_getElem (by rw [len_all]; exact h)]
  rfl
/-- Two rows of one name are one row. -/
theorem one_row {i j : Nat} (hi : i < 243) (hj : j < 243) (h : (allP.getD i z53).f1.data.toList = (allP.getD j z53).f1.data.toList) : i = j := by
  have h1 := enc_at hi
  have h2 := enc_at hj
  rw [h] at h1
  exact (List.getElem?_inj (by rw [litN_len]; exact hi) litN_nodup).mp (h1.trans h2.symm)
/-- The search for a name that the list has. -/
theorem find_it (x0 : ByteArray) (j : Nat) (hj : j < 243) (hx : (allP.getD j z53).f1.toList = x0.toList) : ∀ (m i K : Nat), i + m = j → m + 1 ≤ K → instr_Op.l0 K x0 allP allP.length i = some ((allP.getD j z53).f0, 0) := by
  have hl := len_all
  intro m
  induction m with
  | zero =>
    intro i K hi hK
    obtain ⟨k, rfl⟩ : ∃ m, K = m + 1 := ⟨K - 1, by omega⟩
    obtain rfl : i = j := by omega
    have hrp : rd_T53 allP (i : Int) = allP.getD i z53 := by simp [rd_T53]
    rw [instr_Op.l0, if_pos (by omega), if_pos (by omega), if_pos (by omega), hrp, if_pos hx]
  | succ m ih =>
    intro i K hi hK
    obtain ⟨k, rfl⟩ : ∃ m, K = m + 1 := ⟨K - 1, by omega⟩
    have hrp : rd_T53 allP (i : Int) = allP.getD i z53 := by simp [rd_T53]
    have hw : wrap64 ((i : Int) + 1) = ((i + 1 : Nat) : Int) := by rw [w64 (by omega) (by omega)]; omega
    rw [instr_Op.l0, if_pos (by omega), if_pos (by omega), if_pos (by omega), hrp, if_neg, hw]
    · exact ih (i + 1) k (by omega) (by omega)
    · intro he
      have := one_row (i := i) (j := j) (by omega) hj (toD (he.trans hx.symm))
      omega
/-- What the law does after its loop. -/
theorem tail (a0 : Int) (K : Nat) (hK : 4000 ≤ K) (i : Int) (hi : (litO.length : Int) ≤ i) : ratchetlaw09_InstrOps.l0 (K + 1) a0 litO (litO.contains a0) i = some true := by
  rw [ratchetlaw09_InstrOps.l0, if_neg (by omega)]
  have hops : ratchetref09_Ops.f K = some litO := by rw [← ops_lit]; exact lift (f := fun k => ratchetref09_Ops.f k) ratchetref09_Ops.mono (by omega) ops_is
  by_cases hn : near a0
  · obtain ⟨p, r, w, g1, g2, g3, g4, g5⟩ := near_both hn
    have hc := chk3_near hn
    unfold chk3 at hc
    rw [g1] at hc
    simp only [beq_iff_eq] at hc
    have e1 : instr_Name.f K a0 = some p.2.1 := by unfold instr_Name.f; rw [find_lift g1 (by omega)]; rfl
    rw [e1]
    simp only [Option.bind_some]
    rw [hops]
    simp only [Option.bind_some]
    have hc2 : (litO.contains a0 != (p.2.1.toList != ([] : List UInt8))) = false := by
      rw [hc, ByteArray.toList_eq]
      simp [bne]
    rw [hc2, if_neg (by decide), if_pos trivial, Op_f (by omega)]
    by_cases hh : litO.contains a0 = true
    · have hm : a0 ∈ litO := by simpa using hh
      obtain ⟨j, hj, hjx⟩ := List.getElem_of_mem hm
      rw [litO_len] at hj
      obtain ⟨h1, h2, q, h3, h4⟩ := rows_at (i := j) (by rw [len_all]; exact hj)
      have ho : opsR.getD j 0 = a0 := by
        rw [ops_lit, List.getD_eq_getElem?_getD, List.getElem?_eq_getElem (by rw [litO_len]; exact hj), hjx]
        rfl
      rw [ho] at h1 h3
      rw [g1] at h3
      cases h3
      have hf := find_it p.2.1 j hj (toL h4).symm j 0 K (by omega) (by omega)
      rw [show ((0 : Nat) : Int) = 0 from rfl] at hf
      rw [hf, h1]
      simp only [Option.bind_some]
      rw [if_pos hh, if_pos trivial]
      simp
    · have hlk := lock p.2.1 allP.length 0 K (by omega) (by rw [len_all]; omega)
      rw [show ((0 : Nat) : Int) = 0 from rfl] at hlk
      rcases hlk with ⟨h1, h2⟩ | ⟨o, ho, h1, h2, q, h3, h4⟩
      · rw [h1]; simp only [Option.bind_some]; rw [if_neg hh]
      · rw [h1]; simp only [Option.bind_some]; rw [if_neg hh]
  · have e1 : instr_Name.f K a0 = some ⟨#[]⟩ := by unfold instr_Name.f; rw [far_p hn (by omega)]; rfl
    rw [e1]
    simp only [Option.bind_some]
    have hh : litO.contains a0 = false := by
      cases h : litO.contains a0 with
      | false => rfl
      | true => exact absurd (litO_near h) hn
    rw [hops]
    simp only [Option.bind_some]
    rw [hh]
    have hc2 : (false != ((⟨#[]⟩ : ByteArray).toList != ([] : List UInt8))) = false := by
      rw [ByteArray.toList_eq]; rfl
    rw [hc2, if_neg (by decide), if_pos trivial, Op_f (by omega)]
    have hlk := lock ⟨#[]⟩ allP.length 0 K (by omega) (by rw [len_all]; omega)
    rw [show ((0 : Nat) : Int) = 0 from rfl] at hlk
    rcases hlk with ⟨h1, h2⟩ | ⟨o, ho, h1, h2, q, h3, h4⟩
    · rw [h1]; rfl
    · rw [h1]; rfl
theorem take_has (l : List Int) (i : Nat) (h : i < l.length) (a0 : Int) : (l.take (i + 1)).contains a0 = ((l.take i).contains a0 || (l.getD i 0 == a0)) := by
  rw [List.take_add_one, List.getD_eq_getElem?_getD, List.getElem?_eq_getElem h]
  simp only [Option.toList_some, Option.getD_some, List.contains_eq_any_beq, List.any_append, List.any_cons, List.any_nil, Bool.or_false]
  congr 1
  rw [Bool.eq_iff_iff, beq_iff_eq, beq_iff_eq]
  exact eq_comm
theorem loop (a0 : Int) : ∀ (j i K : Nat), i + j = 243 → ratchetlaw09_InstrOps.l0 (K + 4000 + j + 1) a0 litO ((litO.take i).contains a0) i = some true := by
  have hl := litO_len
  intro j
  induction j with
  | zero =>
    intro i K hi
    have ht : litO.take i = litO := List.take_of_length_le (by omega)
    rw [ht]
    exact tail a0 (K + 4000) (by omega) i (by omega)
  | succ j ih =>
    intro i K hi
    have hw : wrap64 ((i : Int) + 1) = ((i + 1 : Nat) : Int) := by rw [w64 (by omega) (by omega)]; omega
    have hrd : rd litO (i : Int) = litO.getD i 0 := by simp [rd]
    have hstep := ih (i + 1) K (by omega)
    have hct := take_has litO i (by omega) a0
    rw [hct] at hstep
    have hb : (if (litO.take i).contains a0 = true then ratchetlaw09_InstrOps.l0 (K + 4000 + j + 1) a0 litO true (wrap64 ((i : Int) + 1)) else ratchetlaw09_InstrOps.l0 (K + 4000 + j + 1) a0 litO (rd litO (i : Int) == a0) (wrap64 ((i : Int) + 1))) = some true := by
      rw [hw, hrd]
      by_cases h : (litO.take i).contains a0 = true
      · rw [if_pos h]; rw [h, Bool.true_or] at hstep; exact hstep
      · rw [if_neg h]; rw [Bool.eq_false_iff.mpr h, Bool.false_or] at hstep; exact hstep
    rw [show K + 4000 + (j + 1) + 1 = (K + 4000 + j + 1) + 1 by omega, ratchetlaw09_InstrOps.l0, if_pos (by omega)]
    by_cases h0 : (i : Int) > 0
    · have hp : wrap64 ((i : Int) - 1) = ((i - 1 : Nat) : Int) := by rw [w64 (by omega) (by omega)]; omega
      have hr : litO.getD (i - 1) 0 < litO.getD i 0 := by
        have := List.all_eq_true.1 litO_rising (i - 1) (List.mem_range.2 (by omega))
        rw [show i - 1 + 1 = i by omega] at this
        exact of_decide_eq_true this
      have hrdp : rd litO ((i - 1 : Nat) : Int) = litO.getD (i - 1) 0 := by simp only [rd, Int.toNat_natCast]
      rw [if_pos h0, if_pos (by omega), hp, if_pos (by omega), if_pos (by omega), hrdp, hrd, if_neg (by omega), ← hrd]
      exact hb
    · rw [if_neg h0, if_pos (show (0 : Int) ≤ i by omega)]
      exact hb
theorem instrOps (a0 : Int) : ratchetlaw09_InstrOps.f 5000 a0 = some true := by
  unfold ratchetlaw09_InstrOps.f
  rw [lift (f := fun k => instr_Ops.f k) instr_Ops.mono (by omega) Ops_lit]
  simp only [Option.bind_some]
  have h := loop a0 243 0 756 (by omega)
  simpa using h
end Go.Proofs.Ythidcpkcfoldmaa.IX
