/- Opcodes, their names and forms: what the two tables tell, by computation. -/
import Derived.Test.YthidcpkcfoldmaaIns5
namespace Go.Proofs.Ythidcpkcfoldmaa.IT
set_option linter.unusedVariables false
set_option linter.unusedSimpArgs false
open Go.RowKit Go.Proofs.YthidcpkcfoldmaaW.PrintWords Go.Proofs.YthidcpkcfoldmaaW.PrintLast Go.Proofs.YthidcpkcfoldmaaW.PrintMore Go.Proofs.Ythidcpkcfoldmaa.Ins

/-- The same name and form of an opcode? -/
def chk1 (op : Int) : Bool := match instr_find.f 700 op, ratchetref09_find.f 700 op with
  | some p, some r => p.2.1.data.toList == r.2.2.2.2.1.data.toList && (match instr_words.at_ p.2.2 with | some w => w.data.toList == r.2.2.2.1.data.toList | none => false)
  | _, _ => false
set_option maxRecDepth 1000000 in
theorem chk_a : ((List.range 40).all fun i => chk1 (i : Int)) = true := by decide +kernel
set_option maxRecDepth 1000000 in
theorem chk_b : ((List.range 12).all fun i => chk1 ((i : Int) + 40)) = true := by decide +kernel
set_option maxRecDepth 1000000 in
theorem chk_c : ((List.range 11).all fun i => chk1 ((i : Int) + 52)) = true := by decide +kernel
set_option maxRecDepth 1000000 in
theorem chk_d : ((List.range 97).all fun i => chk1 ((i : Int) + 63)) = true := by decide +kernel
set_option maxRecDepth 1000000 in
theorem chk_e : ((List.range 96).all fun i => chk1 ((i : Int) + 160)) = true := by decide +kernel
set_option maxRecDepth 1000000 in
theorem chk_f : ((List.range 64).all fun i => chk1 ((i : Int) + 64256)) = true := by decide +kernel
set_option maxRecDepth 1000000 in
theorem chk_g : ((List.range 48).all fun i => chk1 ((i : Int) + 64512)) = true := by decide +kernel
theorem all_at {n : Nat} {b : Int} {p : Int → Bool} (h : ((List.range n).all fun i => p ((i : Int) + b)) = true) {x : Int} (h0 : b ≤ x) (h1 : x < b + n) : p x = true := by
  have := List.all_eq_true.1 h (x - b).toNat (List.mem_range.2 (by omega))
  have e : (((x - b).toNat : Nat) : Int) + b = x := by omega
  rw [e] at this
  exact this
/-- The opcodes that are looked at one by one. -/
def near (op : Int) : Prop := (0 ≤ op ∧ op < 256) ∨ (64256 ≤ op ∧ op < 64320) ∨ (64512 ≤ op ∧ op < 64560)
theorem chk_near {op : Int} (h : near op) : chk1 op = true := by
  have ha : ((List.range 40).all fun i => chk1 ((i : Int) + 0)) = true := by simpa using chk_a
  rcases h with h | h | h
  · by_cases h1 : op < 40
    · exact all_at ha (by omega) (by omega)
    by_cases h2 : op < 52
    · exact all_at chk_b (by omega) (by omega)
    by_cases h3 : op < 63
    · exact all_at chk_c (by omega) (by omega)
    by_cases h4 : op < 160
    · exact all_at chk_d (by omega) (by omega)
    · exact all_at chk_e (by omega) (by omega)
  · exact all_at chk_f (by omega) (by omega)
  · exact all_at chk_g (by omega) (by omega)
theorem w64 {x : Int} (h0 : -9223372036854775808 ≤ x) (h1 : x < 9223372036854775808) : wrap64 x = x := by unfold wrap64; omega
theorem rd91_mem {rows : List S91} {i : Int} (h0 : 0 ≤ i) (h1 : i < rows.length) : rd_T91 rows i ∈ rows := by
  unfold rd_T91
  rw [List.getD_eq_getElem?_getD, List.getElem?_eq_getElem (by omega)]
  exact List.getElem_mem _
theorem rd56_mem {rows : List S56} {i : Int} (h0 : 0 ≤ i) (h1 : i < rows.length) : rd_T56 rows i ∈ rows := by
  unfold rd_T56
  rw [List.getD_eq_getElem?_getD, List.getElem?_eq_getElem (by omega)]
  exact List.getElem_mem _
/-- An opcode of no row. -/
theorem within_none {rows : List S91} {op : Int} (hlen : rows.length < 1000) (hr : ∀ r ∈ rows, 0 ≤ r.f0 ∧ 0 ≤ r.f1 ∧ r.f0 + r.f1 < 1000000) (h : ∀ r ∈ rows, op < r.f0 ∨ r.f0 + r.f1 ≤ op) :
    ∀ (j : Nat) (i : Int) (k : Nat), i + j = rows.length → 0 ≤ i → j + 1 ≤ k → instr_within.l0 k op rows rows.length i = some (0, ⟨#[]⟩, 0) := by
  intro j
  induction j with
  | zero =>
    intro i k hi h0 hk
    obtain ⟨k, rfl⟩ : ∃ m, k = m + 1 := ⟨k - 1, by omega⟩
    rw [instr_within.l0, if_neg (by omega)]
  | succ j ih =>
    intro i k hi h0 hk
    obtain ⟨k, rfl⟩ : ∃ m, k = m + 1 := ⟨k - 1, by omega⟩
    have hm := rd91_mem (rows := rows) h0 (by omega)
    have e := ih (i + 1) k (by omega) (by omega) (by omega)
    have h1 := h _ hm
    have h2 := hr _ hm
    rw [instr_within.l0, if_pos (by omega), if_pos h0, if_pos (by omega), w64 (x := i + 1) (by omega) (by omega), w64 (x := (rd_T91 rows i).f0 + (rd_T91 rows i).f1) (by omega) (by omega)]
    by_cases hc : op ≥ (rd_T91 rows i).f0
    · rw [if_pos hc, if_neg (by omega), e]
    · rw [if_neg hc, e]
theorem find_none {rows : List S56} {op : Int} (hlen : rows.length < 1000) (hr : ∀ r ∈ rows, 0 ≤ r.f0 ∧ r.f0 < 1000000) (h : ∀ r ∈ rows, op < r.f0 ∨ r.f0 + 32 ≤ op) :
    ∀ (j : Nat) (i : Int) (k : Nat), i + j = rows.length → 0 ≤ i → 2 * j + 1 ≤ k → ratchetref09_find.l0 k op rows i = some (0, ⟨#[]⟩, ⟨#[]⟩, ⟨#[]⟩, ⟨#[]⟩, false) := by
  intro j
  induction j with
  | zero =>
    intro i k hi h0 hk
    obtain ⟨k, rfl⟩ : ∃ m, k = m + 1 := ⟨k - 1, by omega⟩
    rw [ratchetref09_find.l0, if_neg (by omega)]
  | succ j ih =>
    intro i k hi h0 hk
    obtain ⟨k, rfl⟩ : ∃ m, k = m + 2 := ⟨k - 2, by omega⟩
    have hm := rd56_mem (rows := rows) h0 (by omega)
    have e := ih (i + 1) k (by omega) (by omega) (by omega)
    have h1 := h _ hm
    have h2 := hr _ hm
    have hj : ratchetref09_find.j2 (k + 1) op rows i true = some (0, ⟨#[]⟩, ⟨#[]⟩, ⟨#[]⟩, ⟨#[]⟩, false) := by
      rw [ratchetref09_find.j2, if_pos rfl, w64 (x := i + 1) (by omega) (by omega), e]
    rw [ratchetref09_find.l0, if_pos (by omega), if_pos h0, w64 (x := (rd_T56 rows i).f0 + 32) (by omega) (by omega)]
    by_cases hc : op < (rd_T56 rows i).f0
    · rw [if_pos hc, hj]
    · rw [if_neg hc, show decide (op ≥ (rd_T56 rows i).f0 + 32) = true from decide_eq_true (by omega), hj]
def rowsO : List S91 := (instr_others.f).getD []
def rowsR : List S56 := (ratchetref09_refs.f).getD []
def rowsT : List S56 := (ratchetref09_table.f).getD []
theorem others_is : instr_others.f = some rowsO := rfl
theorem refs_is : ratchetref09_refs.f = some rowsR := rfl
theorem table_is : ratchetref09_table.f = some rowsT := rfl
def okO (r : S91) : Bool := decide (0 ≤ r.f1) && (decide (208 ≤ r.f0 ∧ r.f0 + r.f1 ≤ 256) || decide (64256 ≤ r.f0 ∧ r.f0 + r.f1 ≤ 64320) || decide (64512 ≤ r.f0 ∧ r.f0 + r.f1 ≤ 64560))
def okR (r : S56) : Bool := decide (208 ≤ r.f0 ∧ r.f0 + 32 ≤ 256) || decide (64256 ≤ r.f0 ∧ r.f0 + 32 ≤ 64320) || decide (64512 ≤ r.f0 ∧ r.f0 + 32 ≤ 64560)
set_option maxRecDepth 1000000 in
theorem okO_all : (rowsO.all okO && decide (rowsO.length < 1000)) = true := by decide +kernel
set_option maxRecDepth 1000000 in
theorem okR_all : (rowsR.all okR && decide (rowsR.length < 1000)) = true := by decide +kernel
set_option maxRecDepth 1000000 in
theorem okT_all : (rowsT.all (fun r => decide (0 ≤ r.f0 ∧ r.f0 < 256)) && decide (rowsT.length < 1000)) = true := by decide +kernel
theorem okO_mem {r : S91} (h : r ∈ rowsO) : okO r = true := List.all_eq_true.1 ((Bool.and_eq_true _ _).mp okO_all).1 r h
theorem okR_mem {r : S56} (h : r ∈ rowsR) : okR r = true := List.all_eq_true.1 ((Bool.and_eq_true _ _).mp okR_all).1 r h
theorem okT_mem {r : S56} (h : r ∈ rowsT) : 0 ≤ r.f0 ∧ r.f0 < 256 := of_decide_eq_true (List.all_eq_true.1 ((Bool.and_eq_true _ _).mp okT_all).1 r h)
theorem lenO : rowsO.length < 1000 := of_decide_eq_true ((Bool.and_eq_true _ _).mp okO_all).2
theorem lenR : rowsR.length < 1000 := of_decide_eq_true ((Bool.and_eq_true _ _).mp okR_all).2
theorem lenT : rowsT.length < 1000 := of_decide_eq_true ((Bool.and_eq_true _ _).mp okT_all).2
/-- Far from all opcodes there is nothing, in both. -/
theorem far_p {op : Int} (h : ¬ near op) {k : Nat} (hk : 1100 ≤ k) : instr_find.f k op = some (0, ⟨#[]⟩, 0) := by
  unfold near at h
  have hj : instr_find.j0 k op false = some (0, ⟨#[]⟩, 0) := by
    obtain ⟨k, rfl⟩ : ∃ m, k = m + 1 := ⟨k - 1, by omega⟩
    rw [instr_find.j0, if_neg (by decide), others_is]
    simp only [Option.bind_some]
    unfold instr_within.f
    have hl := lenO
    rw [within_none lenO (fun r hr => by have := okO_mem hr; unfold okO at this; simp at this; omega) (fun r hr => by have := okO_mem hr; unfold okO at this; simp at this; omega) rowsO.length 0 k (by omega) (by omega) (by omega)]
    rfl
  unfold instr_find.f
  by_cases h0 : op ≥ 0
  · rw [if_pos h0, decide_eq_false (by omega), hj]
  · rw [if_neg h0, hj]
theorem far_r {op : Int} (h : ¬ near op) {k : Nat} (hk : 2100 ≤ k) : ratchetref09_find.f k op = some (0, ⟨#[]⟩, ⟨#[]⟩, ⟨#[]⟩, ⟨#[]⟩, false) := by
  unfold near at h
  unfold ratchetref09_find.f
  rw [table_is]
  simp only [Option.bind_some]
  obtain ⟨k, rfl⟩ : ∃ m, k = m + 1 := ⟨k - 1, by omega⟩
  by_cases h0 : op ≥ 208
  · rw [if_pos h0, refs_is]
    simp only [Option.bind_some]
    have hl := lenR
    rw [ratchetref09_find.j0, find_none lenR (fun r hr => by have := okR_mem hr; unfold okR at this; simp at this; omega) (fun r hr => by have := okR_mem hr; unfold okR at this; simp at this; omega) rowsR.length 0 k (by omega) (by omega) (by omega)]
  · rw [if_neg h0]
    have hl := lenT
    rw [ratchetref09_find.j0, find_none lenT (fun r hr => by have := okT_mem hr; omega) (fun r hr => by have := okT_mem hr; omega) rowsT.length 0 k (by omega) (by omega) (by omega)]
end Go.Proofs.Ythidcpkcfoldmaa.IT
