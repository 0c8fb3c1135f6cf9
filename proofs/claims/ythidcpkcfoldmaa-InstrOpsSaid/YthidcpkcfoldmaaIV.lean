/- The search for a name, in step in both lists. -/
import Derived.Test.YthidcpkcfoldmaaIT
import Derived.Test.YthidcpkcfoldmaaIUa
import Derived.Test.YthidcpkcfoldmaaIUb
import Derived.Test.YthidcpkcfoldmaaIUc
import Derived.Test.YthidcpkcfoldmaaIUd
import Derived.Test.YthidcpkcfoldmaaIns5
namespace Go.Proofs.Ythidcpkcfoldmaa.IV
set_option linter.unusedVariables false
set_option linter.unusedSimpArgs false
open Go.RowKit Go.Proofs.YthidcpkcfoldmaaW.PrintWords Go.Proofs.YthidcpkcfoldmaaW.PrintLast Go.Proofs.YthidcpkcfoldmaaW.PrintMore Go.Proofs.Ythidcpkcfoldmaa.Ins Go.Proofs.Ythidcpkcfoldmaa.IT Go.Proofs.Ythidcpkcfoldmaa.IU

theorem lift {α : Type} {f : Nat → Option α} (hm : ∀ k, LeO (f k) (f (k + 1))) {k m : Nat} (h : k ≤ m) {r : α} (hr : f k = some r) : f m = some r := by
  induction m with
  | zero => obtain rfl : k = 0 := by omega
            exact hr
  | succ m ih =>
    rcases Nat.lt_or_ge m k with hk | hk
    · obtain rfl : k = m + 1 := by omega
      exact hr
    · exact hm m r (ih hk)
theorem toL {a b : ByteArray} (h : a.data.toList = b.data.toList) : a.toList = b.toList := by
  rw [ByteArray.toList_eq, ByteArray.toList_eq, h]
/-- One opcode: near, and what both tables tell of its name. -/
theorem near_both {op : Int} (h : near op) : ∃ p r w, instr_find.f 700 op = some p ∧ ratchetref09_find.f 700 op = some r ∧ p.2.1.data.toList = r.2.2.2.2.1.data.toList ∧ instr_words.at_ p.2.2 = some w ∧ w.data.toList = r.2.2.2.1.data.toList := by
  have hc := chk_near h
  unfold chk1 at hc
  split at hc
  · rename_i p r hp hr
    simp only [Bool.and_eq_true, beq_iff_eq] at hc
    obtain ⟨h1, h2⟩ := hc
    split at h2
    · rename_i w hw
      simp only [beq_iff_eq] at h2
      exact ⟨p, r, w, hp, hr, h1, hw, h2⟩
    · cases h2
  · cases hc
theorem chk2_all : chk2 allP opsR = true := by
  have hd := chk2_append _ _ _ _ piece_c piece_d
  rw [show allP.drop 186 = (allP.drop 124).drop 62 by rw [List.drop_drop], show opsR.drop 186 = (opsR.drop 124).drop 62 by rw [List.drop_drop], List.take_append_drop, List.take_append_drop] at hd
  have hc := chk2_append _ _ _ _ piece_b hd
  rw [show allP.drop 124 = (allP.drop 62).drop 62 by rw [List.drop_drop], show opsR.drop 124 = (opsR.drop 62).drop 62 by rw [List.drop_drop], List.take_append_drop, List.take_append_drop] at hc
  have hb := chk2_append _ _ _ _ piece_a hc
  rw [List.take_append_drop, List.take_append_drop] at hb
  exact hb
/-- What the two lists share, row for row. -/
theorem rows_at {i : Nat} (h : i < allP.length) : (allP.getD i z53).f0 = opsR.getD i 0 ∧ near (opsR.getD i 0) ∧ ∃ p, instr_find.f 700 (opsR.getD i 0) = some p ∧ p.2.1.data.toList = (allP.getD i z53).f1.data.toList := by
  have key : ∀ (l : List S53) (m : List Int) (i : Nat), chk2 l m = true → i < l.length → (l.getD i z53).f0 = m.getD i 0 ∧ near (m.getD i 0) ∧ ∃ p, instr_find.f 700 (m.getD i 0) = some p ∧ p.2.1.data.toList = (l.getD i z53).f1.data.toList := by
    intro l
    induction l with
    | nil => intro m i _ h; simp at h
    | cons x l ih =>
      intro m i hc hi
      cases m with
      | nil => simp [chk2] at hc
      | cons o m =>
        simp only [chk2, Bool.and_eq_true, Bool.or_eq_true, beq_iff_eq, decide_eq_true_eq] at hc
        obtain ⟨⟨⟨h1, h2⟩, h3⟩, h4⟩ := hc
        cases i with
        | zero =>
          simp only [List.getD_cons_zero]
          refine ⟨h1, by unfold near; omega, ?_⟩
          split at h2
          · rename_i p hp
            exact ⟨p, hp, by simpa using h2⟩
          · cases h2
        | succ i =>
          simp only [List.getD_cons_succ]
          exact ih m i h4 (by simpa using hi)
  exact key allP opsR i chk2_all h
theorem len_eq : allP.length = opsR.length := by
  have key : ∀ (l : List S53) (m : List Int), chk2 l m = true → l.length = m.length := by
    intro l
    induction l with
    | nil => intro m h; cases m with
      | nil => rfl
      | cons o m => simp [chk2] at h
    | cons x l ih => intro m h; cases m with
      | nil => simp [chk2] at h
      | cons o m =>
        simp only [chk2, Bool.and_eq_true] at h
        simp [ih m h.2]
  exact key allP opsR chk2_all
/-- Both searches, in step. -/
theorem lock (x0 : ByteArray) : ∀ (j i K : Nat), i + j = allP.length → j + 701 ≤ K →
    (instr_Op.l0 K x0 allP allP.length i = some (0, 6) ∧ ratchetref09_Op.l0 K x0 opsR i = some (-1)) ∨
    ∃ o, near o ∧ instr_Op.l0 K x0 allP allP.length i = some (o, 0) ∧ ratchetref09_Op.l0 K x0 opsR i = some o ∧ ∃ p, instr_find.f 700 o = some p ∧ p.2.1.toList = x0.toList := by
  have hlen := len_lt
  have hle := len_eq
  intro j
  induction j with
  | zero =>
    intro i K hi hK
    obtain ⟨k, rfl⟩ : ∃ m, K = m + 1 := ⟨K - 1, by omega⟩
    refine .inl ⟨?_, ?_⟩
    · rw [instr_Op.l0, if_neg (by omega)]
    · rw [ratchetref09_Op.l0, if_neg (by omega)]
  | succ j ih =>
    intro i K hi hK
    obtain ⟨k, rfl⟩ : ∃ m, K = m + 1 := ⟨K - 1, by omega⟩
    obtain ⟨h1, h2, p, h3, h4⟩ := rows_at (i := i) (by omega)
    obtain ⟨p', r, w, g1, g2, g3, g4, g5⟩ := near_both h2
    rw [h3] at g1
    cases g1
    have hn : ratchetref09_Name.f k (opsR.getD i 0) = some r.2.2.2.2.1 := by
      unfold ratchetref09_Name.f
      rw [lift (ratchetref09_find.mono _) (by omega) g2]
      rfl
    have hrd : rd opsR (i : Int) = opsR.getD i 0 := by simp [rd]
    have hrp : rd_T53 allP (i : Int) = allP.getD i z53 := by simp [rd_T53]
    have e1 : p.2.1.toList = ((allP.getD i z53).f1).toList := toL h4
    have e2 : p.2.1.toList = r.2.2.2.2.1.toList := toL g3
    have hw : wrap64 ((i : Int) + 1) = ((i + 1 : Nat) : Int) := by rw [w64 (by omega) (by omega)]; omega
    have A : instr_Op.l0 (k + 1) x0 allP allP.length i = if ((allP.getD i z53).f1).toList = x0.toList then some ((allP.getD i z53).f0, 0) else instr_Op.l0 k x0 allP allP.length (wrap64 ((i : Int) + 1)) := by
      rw [instr_Op.l0, if_pos (by omega), if_pos (by omega), if_pos (by omega), hrp]
    have B : ratchetref09_Op.l0 (k + 1) x0 opsR i = if r.2.2.2.2.1.toList = x0.toList then some (opsR.getD i 0) else ratchetref09_Op.l0 k x0 opsR (wrap64 ((i : Int) + 1)) := by
      rw [ratchetref09_Op.l0, if_pos (by omega), if_pos (by omega), hrd, hn]
      rfl
    rw [A, B]
    rw [← e1, ← e2, hw]
    by_cases hx : p.2.1.toList = x0.toList
    · rw [if_pos hx, if_pos hx, h1]
      exact .inr ⟨_, h2, rfl, rfl, p, h3, hx⟩
    · rw [if_neg hx, if_neg hx]
      exact ih (i + 1) k (by omega) (by omega)
theorem find_lift {k : Nat} {op : Int} {p} (h : instr_find.f 700 op = some p) (hk : 700 ≤ k) : instr_find.f k op = some p := lift (instr_find.mono op) hk h
theorem Op_f {k : Nat} (hk : 3000 ≤ k) (x : ByteArray) : instr_Op.f k x = instr_Op.l0 k x allP allP.length 0 := by
  unfold instr_Op.f
  rw [lift (f := fun k => instr_all.f k) instr_all.mono hk all_is]
  rfl
theorem rOp_f {k : Nat} (hk : 3000 ≤ k) (x : ByteArray) : ratchetref09_Op.f k x = ratchetref09_Op.l0 k x opsR 0 := by
  unfold ratchetref09_Op.f
  rw [lift (f := fun k => ratchetref09_Ops.f k) ratchetref09_Ops.mono hk ops_is]
  rfl
/-- Names and forms, near and far. -/
theorem names (op : Int) : ∃ a b c d, (∀ k, 3000 ≤ k → instr_Name.f k op = some a ∧ ratchetref09_Name.f k op = some b ∧ instr_Form.f k op = some c ∧ ratchetref09_Form.f k op = some d) ∧ a.toList = b.toList ∧ c.toList = d.toList := by
  by_cases h : near op
  · obtain ⟨p, r, w, g1, g2, g3, g4, g5⟩ := near_both h
    refine ⟨p.2.1, r.2.2.2.2.1, w, r.2.2.2.1, fun k hk => ?_, toL g3, toL g5⟩
    have e1 := find_lift g1 (show 700 ≤ k by omega)
    have e2 := lift (ratchetref09_find.mono op) (show 700 ≤ k by omega) g2
    refine ⟨?_, ?_, ?_, ?_⟩
    · unfold instr_Name.f; rw [e1]; rfl
    · unfold ratchetref09_Name.f; rw [e2]; rfl
    · unfold instr_Form.f; rw [e1]; exact g4
    · unfold ratchetref09_Form.f; rw [e2]; rfl
  · refine ⟨⟨#[]⟩, ⟨#[]⟩, ⟨#[]⟩, ⟨#[]⟩, fun k hk => ?_, rfl, rfl⟩
    have e1 := far_p h (show 1100 ≤ k by omega)
    have e2 := far_r h (show 2100 ≤ k by omega)
    refine ⟨?_, ?_, ?_, ?_⟩
    · unfold instr_Name.f; rw [e1]; rfl
    · unfold ratchetref09_Name.f; rw [e2]; rfl
    · unfold instr_Form.f; rw [e1]; rfl
    · unfold ratchetref09_Form.f; rw [e2]; rfl
set_option maxRecDepth 1000000 in
theorem awake_is : ratchetlaw09_awake.f 800 = some true := by
  have h : (match instr_find.f 700 106 with | some p => p.2.1.data.toList == [105, 51, 50, 46, 97, 100, 100] | none => false) = true := by decide +kernel
  split at h
  · rename_i p hp
    unfold ratchetlaw09_awake.f instr_Name.f
    rw [find_lift hp (by omega)]
    simp only [Option.bind_some, ByteArray.toList_eq]
    rw [beq_iff_eq] at h
    rw [h]; rfl
  · cases h
theorem instrNames (a0 : Int) (a1 : ByteArray) : ratchetlaw09_InstrNames.f 5001 a0 a1 = some true := by
  obtain ⟨a, b, c, d, hf, e1, e2⟩ := names a0
  obtain ⟨f1, f2, f3, f4⟩ := hf 5001 (by omega)
  unfold ratchetlaw09_InstrNames.f
  rw [f1, f2, f3, f4]
  simp only [Option.bind_some]
  rw [if_pos e1, e2]
  have hb : (d.toList != d.toList) = false := by simp
  rw [hb, ratchetlaw09_InstrNames.j0, if_neg (by decide), Op_f (by omega), rOp_f (by omega)]
  have hlen := len_lt
  rcases lock a1 allP.length 0 5000 (by omega) (by omega) with ⟨h1, h2⟩ | ⟨o, ho, h1, h2, p, h3, h4⟩
  · rw [show ((0 : Nat) : Int) = 0 from rfl] at h1 h2
    rw [h1, h2]
    simp only [Option.bind_some]
    rw [lift (f := fun k => ratchetlaw09_awake.f k) ratchetlaw09_awake.mono (by omega) awake_is]
    rfl
  · rw [show ((0 : Nat) : Int) = 0 from rfl] at h1 h2
    rw [h1, h2]
    simp only [Option.bind_some]
    have hn : instr_Name.f 5000 o = some p.2.1 := by unfold instr_Name.f; rw [find_lift h3 (by omega)]; rfl
    have h0 : ¬ o < 0 := by unfold near at ho; omega
    rw [if_neg h0, hn]
    simp [h4]
end Go.Proofs.Ythidcpkcfoldmaa.IV
