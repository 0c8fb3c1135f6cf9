/- All opcodes and names, by computation; the search for a name in both lists. -/
import Derived.Test.YthidcpkcfoldmaaIns5
namespace Go.Proofs.Ythidcpkcfoldmaa.IU
set_option linter.unusedVariables false
set_option linter.unusedSimpArgs false
open Go.RowKit Go.Proofs.YthidcpkcfoldmaaW.PrintWords Go.Proofs.YthidcpkcfoldmaaW.PrintLast Go.Proofs.YthidcpkcfoldmaaW.PrintMore Go.Proofs.Ythidcpkcfoldmaa.Ins

/-- All instructions, as the program lists them. -/
def allP : List S53 := (instr_all.f 3000).getD []
/-- All opcodes, as the reference lists them. -/
def opsR : List Int := (ratchetref09_Ops.f 3000).getD []
set_option maxRecDepth 1000000 in
theorem all_some : (instr_all.f 3000).isSome = true := by decide +kernel
set_option maxRecDepth 1000000 in
theorem ops_some : (ratchetref09_Ops.f 3000).isSome = true := by decide +kernel
theorem all_is : instr_all.f 3000 = some allP := by
  unfold allP
  cases h : instr_all.f 3000 with
  | none => have := all_some; rw [h] at this; simp at this
  | some l => rfl
theorem ops_is : ratchetref09_Ops.f 3000 = some opsR := by
  unfold opsR
  cases h : ratchetref09_Ops.f 3000 with
  | none => have := ops_some; rw [h] at this; simp at this
  | some l => rfl
/-- Each instruction of the one list against the opcode of the other, and its name as it is found by its opcode. -/
def chk2 : List S53 → List Int → Bool
  | [], [] => true
  | x :: r, o :: s => x.f0 == o && (match instr_find.f 700 o with | some p => p.2.1.data.toList == x.f1.data.toList | none => false) && (decide (0 ≤ o ∧ o < 256) || decide (64256 ≤ o ∧ o < 64320) || decide (64512 ≤ o ∧ o < 64560)) && chk2 r s
  | _, _ => false
theorem chk2_append : ∀ (l1 l2 : List S53) (m1 m2 : List Int), chk2 l1 m1 = true → chk2 l2 m2 = true → chk2 (l1 ++ l2) (m1 ++ m2) = true
  | [], _, [], _, _, h => h
  | x :: l1, l2, o :: m1, m2, h1, h2 => by
    simp only [chk2, Bool.and_eq_true, List.cons_append] at h1 ⊢
    exact ⟨h1.1, chk2_append l1 l2 m1 m2 h1.2 h2⟩
  | [], _, _ :: _, _, h, _ => by simp [chk2] at h
  | _ :: _, _, [], _, h, _ => by simp [chk2] at h
end Go.Proofs.Ythidcpkcfoldmaa.IU
