/- The program's readings at a place: what they come to. -/
import Derived.Test.YtofbbijagbpicaaPiF
namespace Go.Proofs.Ytofbbijagbpicaa.Pi.Q
open Go Go.Proofs.Ytofbbijagbpicaa.Pi
set_option linter.unusedVariables false
set_option linter.unusedSimpArgs false
set_option maxRecDepth 100000
attribute [local congr] ite_congr
theorem run_ta {H : Heap} {t : TypeId} {zv v : PV} : run (ta t zv false (.iface t v)) H = some (.ok v H) := by
  unfold run ta
  simp [M.pure]
theorem run_mf {H : Heap} {f : FuncId} {a b : List PV} : run (mf f a b) H = if (a.all isVal && b.all isVal) = true then some (.ok (.fn f (a.map stripC) (b.map stripC)) H) else none := by
  unfold run mf
  cases (a.all isVal && b.all isVal) <;> rfl
theorem bi_if {a : PV} {t : TypeId} {H : Heap} : run (bi .neq .iface (.iface t a) .niliface) H = some (.ok (.bool true) H) := nrfl rfl
theorem bi_ifn {H : Heap} : run (bi .neq .iface .niliface .niliface) H = some (.ok (.bool false) H) := nrfl rfl
theorem cutL {H : Heap} {L : List Box} (k : Nat) : hcut (hadd H L) (H.length + k) = hadd H (L.take k) := by unfold hcut hadd; rw [List.take_append, List.take_of_length_le (by omega), Nat.add_sub_cancel_left]
theorem ne_len0 {n k : Nat} : (n + (k + 1) == n) = false := by simp
/-- What a reading at a place answers. -/
def outR {α : Type} (enc : α → PV) (zero : PV) : Rs α → PV
  | .ok v p => .tup [enc v, .int .i64 p, .int .i64 0]
  | .err p e => .tup [zero, .int .i64 p, .int .i64 e]
def atPl (at_ : Int) (b : List UInt8) (zero r : PV) : PV := if at_ < 0 ∨ b.length < at_ then .tup [zero, .int .i64 0, .int .i64 1] else r
theorem isTup_L {l : List VT} : isTup (encL l) = false := isTup_acc
theorem cells_L {l : List VT} : (encL l).cells = [encL l] := cells_acc
theorem isCell_L {l : List VT} : isCell (encL l) = true := isCell_acc
theorem low_L {l : List VT} {n : Nat} : (encL l).low n = true := low_acc
/-- The list, without the right to grow. -/
def shutL (l : List VT) : PV := match l with | [] => .slice false true 0 [] | l => .slice false false 3 (l.map encV)
theorem isTup_S {l : List VT} : isTup (shutL l) = false := by cases l <;> rfl
theorem low_S {l : List VT} {n : Nat} : (shutL l).low n = true := by cases l <;> simp [shutL, low_slice]
theorem strip_L {l : List VT} : strip (encL l) = shutL l := by cases l <;> rfl
theorem stripC_L {l : List VT} : stripC (encL l) = shutL l := by cases l <;> rfl
theorem read_int_is {b : List UInt8} {z : Bool} (hb : b.length < 2 ^ 61) {one : PV} {r : Nat → Rs Int}
    (hone : ∀ H c p, hget H c = some (curB z b p) → p ≤ b.length → ∃ q, run (callV P C (strip one) [.ptr c 0]) H = outC z b c H q (fun x : Int => .int .i64 x) (r p)) {H : Heap} {at_ : Int} :
    run (C k_entry_read_int [BS z b, .int .i64 at_, one]) H = some (.ok (atPl at_ b (.int .i64 0) (outR (fun x : Int => .int .i64 x) (.int .i64 0) (r at_.toNat))) H) := by
  rw [entry_read_int_eq]
  unfold atPl
  by_cases h1 : at_ < 0
  · rw [if_pos (.inl h1)]
    simp (contextual := true) (dsimp := false) (disch := omega) only [↓goDown, goUp, List.length_cons, List.length_nil, List.map_cons, List.map_nil, List.take_succ_cons, List.take_zero, List.drop_succ_cons, List.drop_zero, List.drop_nil, List.take_nil, List.cons_append, List.nil_append, List.append_nil, List.set_cons_zero, List.set_cons_succ, List.all_cons, List.all_nil, ↓reduceIte, reduceCtorEq, ge_iff_le, gt_iff_lt, eq_self_iff_true, beq_self_eq_true, beq_iff_eq, bne_iff_ne, ne_eq, ite_not, Int.reduceEq, Option.getD_some, Option.getD_none, ite_self, Nat.reduceAdd, Nat.reduceSub, Nat.reduceMul, Nat.reduceLeDiff, Nat.reduceEqDiff, Nat.reduceBEq, Nat.reduceBNe, Int.reduceLT, Int.reduceLE, Int.reduceAdd, Int.reduceSub, Int.reduceMul, Int.reduceNeg, Int.reduceNe, Int.reduceBEq, Int.reduceBNe, Int.reduceToNat, eq_true h1]
  · by_cases h2 : (b.length : Int) < at_
    · rw [if_pos (.inr h2)]
      simp (contextual := true) (dsimp := false) (disch := omega) only [↓goDown, goUp, List.length_cons, List.length_nil, List.map_cons, List.map_nil, List.take_succ_cons, List.take_zero, List.drop_succ_cons, List.drop_zero, List.drop_nil, List.take_nil, List.cons_append, List.nil_append, List.append_nil, List.set_cons_zero, List.set_cons_succ, List.all_cons, List.all_nil, ↓reduceIte, reduceCtorEq, ge_iff_le, gt_iff_lt, eq_self_iff_true, beq_self_eq_true, beq_iff_eq, bne_iff_ne, ne_eq, ite_not, Int.reduceEq, Option.getD_some, Option.getD_none, ite_self, Nat.reduceAdd, Nat.reduceSub, Nat.reduceMul, Nat.reduceLeDiff, Nat.reduceEqDiff, Nat.reduceBEq, Nat.reduceBNe, Int.reduceLT, Int.reduceLE, Int.reduceAdd, Int.reduceSub, Int.reduceMul, Int.reduceNeg, Int.reduceNe, Int.reduceBEq, Int.reduceBNe, Int.reduceToNat, h1, h2, List.length_map]
    · rw [if_neg (by omega)]
      obtain ⟨p, rfl⟩ := Int.eq_ofNat_of_zero_le (show 0 ≤ at_ by omega)
      rw [Int.toNat_natCast]
      obtain ⟨q, hk⟩ := hone (hadd H [.cells [.int .i64 0], .cells [.int .i64 0], .cells [.int .i64 0], .cells [.int .i64 0], curB z b p]) (H.length + 4) p (by rw [get_loc]; rfl) (by omega)
      cases hr : r p <;> rw [hr] at hk <;> simp only [outC, outR, set_loc] at hk ⊢ <;> unfold curB at hk <;>
        simp (contextual := true) (dsimp := false) (disch := omega) only [↓goDown, goUp, List.length_cons, List.length_nil, List.map_cons, List.map_nil, List.take_succ_cons, List.take_zero, List.drop_succ_cons, List.drop_zero, List.drop_nil, List.take_nil, List.cons_append, List.nil_append, List.append_nil, List.set_cons_zero, List.set_cons_succ, List.all_cons, List.all_nil, ↓reduceIte, reduceCtorEq, ge_iff_le, gt_iff_lt, eq_self_iff_true, beq_self_eq_true, beq_iff_eq, bne_iff_ne, ne_eq, ite_not, Int.reduceEq, Option.getD_some, Option.getD_none, ite_self, Nat.reduceAdd, Nat.reduceSub, Nat.reduceMul, Nat.reduceLeDiff, Nat.reduceEqDiff, Nat.reduceBEq, Nat.reduceBNe, Int.reduceLT, Int.reduceLE, Int.reduceAdd, Int.reduceSub, Int.reduceMul, Int.reduceNeg, Int.reduceNe, Int.reduceBEq, Int.reduceBNe, Int.reduceToNat, h1, h2, List.length_map, run_mf, hk, flt, entry_read_int_1_req, entry_read_int_1_deq, run_ta, bi_if, bi_ifn, cutL, ne_len0, Nat.reduceBeqDiff]
-- generated
theorem read_V_is {b : List UInt8} {z : Bool} (hb : b.length < 2 ^ 61) {one : PV} {r : Nat → Rs VT}
    (hone : ∀ H c p, hget H c = some (curB z b p) → p ≤ b.length → ∃ q, run (callV P C (strip one) [.ptr c 0]) H = outC z b c H q encV (r p)) {H : Heap} {at_ : Int} :
    run (C k_entry_read_api_ValType [BS z b, .int .i64 at_, one]) H = some (.ok (atPl at_ b (encV ⟨0, false, 0⟩) (outR encV (encV ⟨0, false, 0⟩) (r at_.toNat))) H) := by
  rw [entry_read_api_ValType_eq]
  unfold atPl
  by_cases h1 : at_ < 0
  · rw [if_pos (.inl h1)]
    simp (contextual := true) (dsimp := false) (disch := omega) only [↓goDown, goUp, List.length_cons, List.length_nil, List.map_cons, List.map_nil, List.take_succ_cons, List.take_zero, List.drop_succ_cons, List.drop_zero, List.drop_nil, List.take_nil, List.cons_append, List.nil_append, List.append_nil, List.set_cons_zero, List.set_cons_succ, List.all_cons, List.all_nil, ↓reduceIte, reduceCtorEq, ge_iff_le, gt_iff_lt, eq_self_iff_true, beq_self_eq_true, beq_iff_eq, bne_iff_ne, ne_eq, ite_not, Int.reduceEq, Option.getD_some, Option.getD_none, ite_self, Nat.reduceAdd, Nat.reduceSub, Nat.reduceMul, Nat.reduceLeDiff, Nat.reduceEqDiff, Nat.reduceBEq, Nat.reduceBNe, Int.reduceLT, Int.reduceLE, Int.reduceAdd, Int.reduceSub, Int.reduceMul, Int.reduceNeg, Int.reduceNe, Int.reduceBEq, Int.reduceBNe, Int.reduceToNat, eq_true h1, encV]
  · by_cases h2 : (b.length : Int) < at_
    · rw [if_pos (.inr h2)]
      simp (contextual := true) (dsimp := false) (disch := omega) only [↓goDown, goUp, List.length_cons, List.length_nil, List.map_cons, List.map_nil, List.take_succ_cons, List.take_zero, List.drop_succ_cons, List.drop_zero, List.drop_nil, List.take_nil, List.cons_append, List.nil_append, List.append_nil, List.set_cons_zero, List.set_cons_succ, List.all_cons, List.all_nil, ↓reduceIte, reduceCtorEq, ge_iff_le, gt_iff_lt, eq_self_iff_true, beq_self_eq_true, beq_iff_eq, bne_iff_ne, ne_eq, ite_not, Int.reduceEq, Option.getD_some, Option.getD_none, ite_self, Nat.reduceAdd, Nat.reduceSub, Nat.reduceMul, Nat.reduceLeDiff, Nat.reduceEqDiff, Nat.reduceBEq, Nat.reduceBNe, Int.reduceLT, Int.reduceLE, Int.reduceAdd, Int.reduceSub, Int.reduceMul, Int.reduceNeg, Int.reduceNe, Int.reduceBEq, Int.reduceBNe, Int.reduceToNat, h1, h2, List.length_map, encV]
    · rw [if_neg (by omega)]
      obtain ⟨p, rfl⟩ := Int.eq_ofNat_of_zero_le (show 0 ≤ at_ by omega)
      rw [Int.toNat_natCast]
      obtain ⟨q, hk⟩ := hone (hadd H [.cells [.int .i64 0, .bool false, .int .i64 0], .cells [.int .i64 0], .cells [.int .i64 0], .cells [.int .i64 0, .bool false, .int .i64 0], curB z b p]) (H.length + 4) p (by rw [get_loc]; rfl) (by omega)
      cases hr : r p <;> rw [hr] at hk <;> simp only [outC, outR, set_loc] at hk ⊢ <;> unfold curB at hk <;>
        simp (contextual := true) (dsimp := false) (disch := omega) only [↓goDown, goUp, List.length_cons, List.length_nil, List.map_cons, List.map_nil, List.take_succ_cons, List.take_zero, List.drop_succ_cons, List.drop_zero, List.drop_nil, List.take_nil, List.cons_append, List.nil_append, List.append_nil, List.set_cons_zero, List.set_cons_succ, List.all_cons, List.all_nil, ↓reduceIte, reduceCtorEq, ge_iff_le, gt_iff_lt, eq_self_iff_true, beq_self_eq_true, beq_iff_eq, bne_iff_ne, ne_eq, ite_not, Int.reduceEq, Option.getD_some, Option.getD_none, ite_self, Nat.reduceAdd, Nat.reduceSub, Nat.reduceMul, Nat.reduceLeDiff, Nat.reduceEqDiff, Nat.reduceBEq, Nat.reduceBNe, Int.reduceLT, Int.reduceLE, Int.reduceAdd, Int.reduceSub, Int.reduceMul, Int.reduceNeg, Int.reduceNe, Int.reduceBEq, Int.reduceBNe, Int.reduceToNat, h1, h2, List.length_map, run_mf, hk, flt, entry_read_api_ValType_1_req, entry_read_api_ValType_1_deq, run_ta, bi_if, bi_ifn, cutL, ne_len0, Nat.reduceBeqDiff, encV]
theorem read_B_is {b : List UInt8} {z : Bool} (hb : b.length < 2 ^ 61) {one : PV} {r : Nat → Rs BK}
    (hone : ∀ H c p, hget H c = some (curB z b p) → p ≤ b.length → ∃ q, run (callV P C (strip one) [.ptr c 0]) H = outC z b c H q encB (r p)) {H : Heap} {at_ : Int} :
    run (C k_entry_read_api_Block [BS z b, .int .i64 at_, one]) H = some (.ok (atPl at_ b (encB ⟨0, ⟨0, false, 0⟩⟩) (outR encB (encB ⟨0, ⟨0, false, 0⟩⟩) (r at_.toNat))) H) := by
  rw [entry_read_api_Block_eq]
  unfold atPl
  by_cases h1 : at_ < 0
  · rw [if_pos (.inl h1)]
    simp (contextual := true) (dsimp := false) (disch := omega) only [↓goDown, goUp, List.length_cons, List.length_nil, List.map_cons, List.map_nil, List.take_succ_cons, List.take_zero, List.drop_succ_cons, List.drop_zero, List.drop_nil, List.take_nil, List.cons_append, List.nil_append, List.append_nil, List.set_cons_zero, List.set_cons_succ, List.all_cons, List.all_nil, ↓reduceIte, reduceCtorEq, ge_iff_le, gt_iff_lt, eq_self_iff_true, beq_self_eq_true, beq_iff_eq, bne_iff_ne, ne_eq, ite_not, Int.reduceEq, Option.getD_some, Option.getD_none, ite_self, Nat.reduceAdd, Nat.reduceSub, Nat.reduceMul, Nat.reduceLeDiff, Nat.reduceEqDiff, Nat.reduceBEq, Nat.reduceBNe, Int.reduceLT, Int.reduceLE, Int.reduceAdd, Int.reduceSub, Int.reduceMul, Int.reduceNeg, Int.reduceNe, Int.reduceBEq, Int.reduceBNe, Int.reduceToNat, eq_true h1, encB]
  · by_cases h2 : (b.length : Int) < at_
    · rw [if_pos (.inr h2)]
      simp (contextual := true) (dsimp := false) (disch := omega) only [↓goDown, goUp, List.length_cons, List.length_nil, List.map_cons, List.map_nil, List.take_succ_cons, List.take_zero, List.drop_succ_cons, List.drop_zero, List.drop_nil, List.take_nil, List.cons_append, List.nil_append, List.append_nil, List.set_cons_zero, List.set_cons_succ, List.all_cons, List.all_nil, ↓reduceIte, reduceCtorEq, ge_iff_le, gt_iff_lt, eq_self_iff_true, beq_self_eq_true, beq_iff_eq, bne_iff_ne, ne_eq, ite_not, Int.reduceEq, Option.getD_some, Option.getD_none, ite_self, Nat.reduceAdd, Nat.reduceSub, Nat.reduceMul, Nat.reduceLeDiff, Nat.reduceEqDiff, Nat.reduceBEq, Nat.reduceBNe, Int.reduceLT, Int.reduceLE, Int.reduceAdd, Int.reduceSub, Int.reduceMul, Int.reduceNeg, Int.reduceNe, Int.reduceBEq, Int.reduceBNe, Int.reduceToNat, h1, h2, List.length_map, encB]
    · rw [if_neg (by omega)]
      obtain ⟨p, rfl⟩ := Int.eq_ofNat_of_zero_le (show 0 ≤ at_ by omega)
      rw [Int.toNat_natCast]
      obtain ⟨q, hk⟩ := hone (hadd H [.cells [.int .i64 0, .int .i64 0, .bool false, .int .i64 0], .cells [.int .i64 0], .cells [.int .i64 0], .cells [.int .i64 0, .int .i64 0, .bool false, .int .i64 0], curB z b p]) (H.length + 4) p (by rw [get_loc]; rfl) (by omega)
      cases hr : r p <;> rw [hr] at hk <;> simp only [outC, outR, set_loc] at hk ⊢ <;> unfold curB at hk <;>
        simp (contextual := true) (dsimp := false) (disch := omega) only [↓goDown, goUp, List.length_cons, List.length_nil, List.map_cons, List.map_nil, List.take_succ_cons, List.take_zero, List.drop_succ_cons, List.drop_zero, List.drop_nil, List.take_nil, List.cons_append, List.nil_append, List.append_nil, List.set_cons_zero, List.set_cons_succ, List.all_cons, List.all_nil, ↓reduceIte, reduceCtorEq, ge_iff_le, gt_iff_lt, eq_self_iff_true, beq_self_eq_true, beq_iff_eq, bne_iff_ne, ne_eq, ite_not, Int.reduceEq, Option.getD_some, Option.getD_none, ite_self, Nat.reduceAdd, Nat.reduceSub, Nat.reduceMul, Nat.reduceLeDiff, Nat.reduceEqDiff, Nat.reduceBEq, Nat.reduceBNe, Int.reduceLT, Int.reduceLE, Int.reduceAdd, Int.reduceSub, Int.reduceMul, Int.reduceNeg, Int.reduceNe, Int.reduceBEq, Int.reduceBNe, Int.reduceToNat, h1, h2, List.length_map, run_mf, hk, flt, entry_read_api_Block_1_req, entry_read_api_Block_1_deq, run_ta, bi_if, bi_ifn, cutL, ne_len0, Nat.reduceBeqDiff, encB]
theorem read_L_is {b : List UInt8} {z : Bool} (hb : b.length < 2 ^ 61) {one : PV} {r : Nat → Rs (List VT)}
    (hone : ∀ H c p, hget H c = some (curB z b p) → p ≤ b.length → ∃ q, run (callV P C (strip one) [.ptr c 0]) H = outC z b c H q encL (r p)) {H : Heap} {at_ : Int} :
    run (C k_entry_read_L_api_ValType [BS z b, .int .i64 at_, one]) H = some (.ok (atPl at_ b (.slice false true 0 []) (outR shutL (.slice false true 0 []) (r at_.toNat))) H) := by
  rw [entry_read_L_api_ValType_eq]
  unfold atPl
  by_cases h1 : at_ < 0
  · rw [if_pos (.inl h1)]
    simp (contextual := true) (dsimp := false) (disch := omega) only [↓goDown, goUp, List.length_cons, List.length_nil, List.map_cons, List.map_nil, List.take_succ_cons, List.take_zero, List.drop_succ_cons, List.drop_zero, List.drop_nil, List.take_nil, List.cons_append, List.nil_append, List.append_nil, List.set_cons_zero, List.set_cons_succ, List.all_cons, List.all_nil, ↓reduceIte, reduceCtorEq, ge_iff_le, gt_iff_lt, eq_self_iff_true, beq_self_eq_true, beq_iff_eq, bne_iff_ne, ne_eq, ite_not, Int.reduceEq, Option.getD_some, Option.getD_none, ite_self, Nat.reduceAdd, Nat.reduceSub, Nat.reduceMul, Nat.reduceLeDiff, Nat.reduceEqDiff, Nat.reduceBEq, Nat.reduceBNe, Int.reduceLT, Int.reduceLE, Int.reduceAdd, Int.reduceSub, Int.reduceMul, Int.reduceNeg, Int.reduceNe, Int.reduceBEq, Int.reduceBNe, Int.reduceToNat, eq_true h1, strip_L, stripC_L, isTup_L, cells_L, low_L, isCell_L, isTup_S, low_S]
  · by_cases h2 : (b.length : Int) < at_
    · rw [if_pos (.inr h2)]
      simp (contextual := true) (dsimp := false) (disch := omega) only [↓goDown, goUp, List.length_cons, List.length_nil, List.map_cons, List.map_nil, List.take_succ_cons, List.take_zero, List.drop_succ_cons, List.drop_zero, List.drop_nil, List.take_nil, List.cons_append, List.nil_append, List.append_nil, List.set_cons_zero, List.set_cons_succ, List.all_cons, List.all_nil, ↓reduceIte, reduceCtorEq, ge_iff_le, gt_iff_lt, eq_self_iff_true, beq_self_eq_true, beq_iff_eq, bne_iff_ne, ne_eq, ite_not, Int.reduceEq, Option.getD_some, Option.getD_none, ite_self, Nat.reduceAdd, Nat.reduceSub, Nat.reduceMul, Nat.reduceLeDiff, Nat.reduceEqDiff, Nat.reduceBEq, Nat.reduceBNe, Int.reduceLT, Int.reduceLE, Int.reduceAdd, Int.reduceSub, Int.reduceMul, Int.reduceNeg, Int.reduceNe, Int.reduceBEq, Int.reduceBNe, Int.reduceToNat, h1, h2, List.length_map, strip_L, stripC_L, isTup_L, cells_L, low_L, isCell_L, isTup_S, low_S]
    · rw [if_neg (by omega)]
      obtain ⟨p, rfl⟩ := Int.eq_ofNat_of_zero_le (show 0 ≤ at_ by omega)
      rw [Int.toNat_natCast]
      obtain ⟨q, hk⟩ := hone (hadd H [.cells [.slice false true 0 []], .cells [.int .i64 0], .cells [.int .i64 0], .cells [.slice false true 0 []], curB z b p]) (H.length + 4) p (by rw [get_loc]; rfl) (by omega)
      cases hr : r p <;> rw [hr] at hk <;> simp only [outC, outR, set_loc] at hk ⊢ <;> unfold curB at hk <;>
        simp (contextual := true) (dsimp := false) (disch := omega) only [↓goDown, goUp, List.length_cons, List.length_nil, List.map_cons, List.map_nil, List.take_succ_cons, List.take_zero, List.drop_succ_cons, List.drop_zero, List.drop_nil, List.take_nil, List.cons_append, List.nil_append, List.append_nil, List.set_cons_zero, List.set_cons_succ, List.all_cons, List.all_nil, ↓reduceIte, reduceCtorEq, ge_iff_le, gt_iff_lt, eq_self_iff_true, beq_self_eq_true, beq_iff_eq, bne_iff_ne, ne_eq, ite_not, Int.reduceEq, Option.getD_some, Option.getD_none, ite_self, Nat.reduceAdd, Nat.reduceSub, Nat.reduceMul, Nat.reduceLeDiff, Nat.reduceEqDiff, Nat.reduceBEq, Nat.reduceBNe, Int.reduceLT, Int.reduceLE, Int.reduceAdd, Int.reduceSub, Int.reduceMul, Int.reduceNeg, Int.reduceNe, Int.reduceBEq, Int.reduceBNe, Int.reduceToNat, h1, h2, List.length_map, run_mf, hk, flt, entry_read_L_api_ValType_1_req, entry_read_L_api_ValType_1_deq, run_ta, bi_if, bi_ifn, cutL, ne_len0, Nat.reduceBeqDiff, strip_L, stripC_L, isTup_L, cells_L, low_L, isCell_L, isTup_S, low_S]
end Go.Proofs.Ytofbbijagbpicaa.Pi.Q
/- The reference's readers of types: what they come to. -/
namespace Go.Proofs.Ytofbbijagbpicaa.Pi.Q
open Go Go.Proofs.Ytofbbijagbpicaa.Pi
set_option linter.unusedVariables false
set_option linter.unusedSimpArgs false
set_option maxRecDepth 100000
attribute [local congr] ite_congr
/-- The reference's reading: where it stands, and its first fault. -/
def rst (z : Bool) (b : List UInt8) (p pl e : Nat) : Box := .cells [BS z b, .int .i64 p, .int .i64 pl, .int .i64 e]
theorem rfail_is {H : Heap} {b : List UInt8} {z : Bool} {c p a w : Nat} (hH : hget H c = some (rst z b p 0 0)) :
    run (C k_ratchetref08_reading_fail [.ptr c 0, .int .i64 a, .int .i64 w]) H = some (.ok (.tup []) (hset H c (rst z b p a w))) := by
  have hid := get_lt hH
  unfold rst at hH ⊢
  have hH : hget H c = some (.cells [BS z b, .int .i64 p, .int .i64 0, .int .i64 0]) := hH
  rw [ratchetref08_reading_fail_eq]
  simp (contextual := true) (dsimp := false) (disch := omega) only [↓goDown, goUp, List.length_cons, List.length_nil, List.map_cons, List.map_nil, List.take_succ_cons, List.take_zero, List.drop_succ_cons, List.drop_zero, List.drop_nil, List.take_nil, List.cons_append, List.nil_append, List.append_nil, List.set_cons_zero, List.set_cons_succ, List.all_cons, List.all_nil, ↓reduceIte, reduceCtorEq, ge_iff_le, gt_iff_lt, eq_self_iff_true, beq_self_eq_true, beq_iff_eq, bne_iff_ne, ne_eq, ite_not, Int.reduceEq, Option.getD_some, Option.getD_none, ite_self, Nat.reduceAdd, Nat.reduceSub, Nat.reduceMul, Nat.reduceLeDiff, Nat.reduceEqDiff, Nat.reduceBEq, Nat.reduceBNe, Int.reduceLT, Int.reduceLE, Int.reduceAdd, Int.reduceSub, Int.reduceMul, Int.reduceNeg, Int.reduceNe, Int.reduceBEq, Int.reduceBNe, Int.reduceToNat, hH]
theorem peek_ok {H : Heap} {b : List UInt8} {z : Bool} {c p : Nat} (hH : hget H c = some (rst z b p 0 0)) (hb : b.length < 2 ^ 61) (hp : p < b.length) :
    run (C k_ratchetref08_reading_peek [.ptr c 0]) H = some (.ok (.tup [.int .u8 (b.getD p 0).toNat, .bool true]) H) := by
  have hid := get_lt hH
  have hset := set_self hH
  unfold rst at hH hset
  have hH : hget H c = some (.cells [BS z b, .int .i64 p, .int .i64 0, .int .i64 0]) := hH
  have hset : Pi.hset H c (.cells [BS z b, .int .i64 p, .int .i64 0, .int .i64 0]) = H := hset
  have hg := byt_get hp
  have hgd : b.getD p 0 = b[p] := by simp [hp]
  have c0 : ¬ (b.length : Int) ≤ p := by omega
  rw [ratchetref08_reading_peek_eq, hgd]
  simp (contextual := true) (dsimp := false) (disch := omega) only [↓goDown, goUp, List.length_cons, List.length_nil, List.map_cons, List.map_nil, List.take_succ_cons, List.take_zero, List.drop_succ_cons, List.drop_zero, List.drop_nil, List.take_nil, List.cons_append, List.nil_append, List.append_nil, List.set_cons_zero, List.set_cons_succ, List.all_cons, List.all_nil, ↓reduceIte, reduceCtorEq, ge_iff_le, gt_iff_lt, eq_self_iff_true, beq_self_eq_true, beq_iff_eq, bne_iff_ne, ne_eq, ite_not, Int.reduceEq, Option.getD_some, Option.getD_none, ite_self, Nat.reduceAdd, Nat.reduceSub, Nat.reduceMul, Nat.reduceLeDiff, Nat.reduceEqDiff, Nat.reduceBEq, Nat.reduceBNe, Int.reduceLT, Int.reduceLE, Int.reduceAdd, Int.reduceSub, Int.reduceMul, Int.reduceNeg, Int.reduceNe, Int.reduceBEq, Int.reduceBNe, Int.reduceToNat, hH, hset, hg, byt, c0, List.length_map, Int.toNat_natCast]
theorem peek_no {H : Heap} {b : List UInt8} {z : Bool} {c p : Nat} (hH : hget H c = some (rst z b p 0 0)) (hp : ¬ p < b.length) :
    run (C k_ratchetref08_reading_peek [.ptr c 0]) H = some (.ok (.tup [.int .u8 0, .bool false]) H) := by
  have hid := get_lt hH
  have hset := set_self hH
  unfold rst at hH hset
  have hH : hget H c = some (.cells [BS z b, .int .i64 p, .int .i64 0, .int .i64 0]) := hH
  have hset : Pi.hset H c (.cells [BS z b, .int .i64 p, .int .i64 0, .int .i64 0]) = H := hset
  have c0 : (b.length : Int) ≤ p := by omega
  rw [ratchetref08_reading_peek_eq]
  simp (contextual := true) (dsimp := false) (disch := omega) only [↓goDown, goUp, List.length_cons, List.length_nil, List.map_cons, List.map_nil, List.take_succ_cons, List.take_zero, List.drop_succ_cons, List.drop_zero, List.drop_nil, List.take_nil, List.cons_append, List.nil_append, List.append_nil, List.set_cons_zero, List.set_cons_succ, List.all_cons, List.all_nil, ↓reduceIte, reduceCtorEq, ge_iff_le, gt_iff_lt, eq_self_iff_true, beq_self_eq_true, beq_iff_eq, bne_iff_ne, ne_eq, ite_not, Int.reduceEq, Option.getD_some, Option.getD_none, ite_self, Nat.reduceAdd, Nat.reduceSub, Nat.reduceMul, Nat.reduceLeDiff, Nat.reduceEqDiff, Nat.reduceBEq, Nat.reduceBNe, Int.reduceLT, Int.reduceLE, Int.reduceAdd, Int.reduceSub, Int.reduceMul, Int.reduceNeg, Int.reduceNe, Int.reduceBEq, Int.reduceBNe, Int.reduceToNat, hH, hset, c0, List.length_map, Int.toNat_natCast]
theorem numberU_ok {H : Heap} {b : List UInt8} {z : Bool} {c p n q : Nat} (hH : hget H c = some (rst z b p 0 0)) (hb : b.length < 2 ^ 61) (hp : p ≤ b.length) (hr : rU32 b p = .ok n q) :
    run (C k_ratchetref08_reading_number [.ptr c 0, .int .i64 32, .bool false]) H = some (.ok (.int .u64 n) (hset H c (rst z b q 0 0))) := by
  have hid := get_lt hH
  have h1 := number_U (H := H) (b := b) (z := z) (a := p) (B := 32) (Nat.le_refl _) hb (.inl rfl) hp
  have hr : rdU b 32 b.length p = .ok n q := hr
  rw [hr] at h1
  have h1 : run (C k_ratchetref01_Number [BS z b, .int .i64 p, .int .i64 b.length, .int .i64 32, .bool false]) H = some (.ok (.tup [.int .u64 n, .int .i64 q, .int .i64 0]) H) := h1
  unfold rst at hH ⊢
  have hH : hget H c = some (.cells [BS z b, .int .i64 p, .int .i64 0, .int .i64 0]) := hH
  rw [ratchetref08_reading_number_eq]
  simp (contextual := true) (dsimp := false) (disch := omega) only [↓goDown, goUp, List.length_cons, List.length_nil, List.map_cons, List.map_nil, List.take_succ_cons, List.take_zero, List.drop_succ_cons, List.drop_zero, List.drop_nil, List.take_nil, List.cons_append, List.nil_append, List.append_nil, List.set_cons_zero, List.set_cons_succ, List.all_cons, List.all_nil, ↓reduceIte, reduceCtorEq, ge_iff_le, gt_iff_lt, eq_self_iff_true, beq_self_eq_true, beq_iff_eq, bne_iff_ne, ne_eq, ite_not, Int.reduceEq, Option.getD_some, Option.getD_none, ite_self, Nat.reduceAdd, Nat.reduceSub, Nat.reduceMul, Nat.reduceLeDiff, Nat.reduceEqDiff, Nat.reduceBEq, Nat.reduceBNe, Int.reduceLT, Int.reduceLE, Int.reduceAdd, Int.reduceSub, Int.reduceMul, Int.reduceNeg, Int.reduceNe, Int.reduceBEq, Int.reduceBNe, Int.reduceToNat, hH, h1, List.length_map]
  rfl
theorem numberU_err {H : Heap} {b : List UInt8} {z : Bool} {c p a w : Nat} (hH : hget H c = some (rst z b p 0 0)) (hb : b.length < 2 ^ 61) (hp : p ≤ b.length) (hr : rU32 b p = .err a w) :
    run (C k_ratchetref08_reading_number [.ptr c 0, .int .i64 32, .bool false]) H = some (.ok (.int .u64 0) (hset H c (rst z b p a w))) := by
  have hid := get_lt hH
  have h1 := number_U (H := H) (b := b) (z := z) (a := p) (B := 32) (Nat.le_refl _) hb (.inl rfl) hp
  have h2 := rfail_is (a := a) (w := w) hH
  have hr : rdU b 32 b.length p = .err a w := hr
  have hw := rdU_err hr
  have c1 : ¬ (w : Int) = 0 := by omega
  rw [hr] at h1
  have h1 : run (C k_ratchetref01_Number [BS z b, .int .i64 p, .int .i64 b.length, .int .i64 32, .bool false]) H = some (.ok (.tup [.int .u64 0, .int .i64 a, .int .i64 w]) H) := h1
  unfold rst at hH
  have hH : hget H c = some (.cells [BS z b, .int .i64 p, .int .i64 0, .int .i64 0]) := hH
  rw [ratchetref08_reading_number_eq]
  simp (contextual := true) (dsimp := false) (disch := omega) only [↓goDown, goUp, List.length_cons, List.length_nil, List.map_cons, List.map_nil, List.take_succ_cons, List.take_zero, List.drop_succ_cons, List.drop_zero, List.drop_nil, List.take_nil, List.cons_append, List.nil_append, List.append_nil, List.set_cons_zero, List.set_cons_succ, List.all_cons, List.all_nil, ↓reduceIte, reduceCtorEq, ge_iff_le, gt_iff_lt, eq_self_iff_true, beq_self_eq_true, beq_iff_eq, bne_iff_ne, ne_eq, ite_not, Int.reduceEq, Option.getD_some, Option.getD_none, ite_self, Nat.reduceAdd, Nat.reduceSub, Nat.reduceMul, Nat.reduceLeDiff, Nat.reduceEqDiff, Nat.reduceBEq, Nat.reduceBNe, Int.reduceLT, Int.reduceLE, Int.reduceAdd, Int.reduceSub, Int.reduceMul, Int.reduceNeg, Int.reduceNe, Int.reduceBEq, Int.reduceBNe, Int.reduceToNat, hH, h1, h2, c1, List.length_map]
theorem numberS_ok {H : Heap} {b : List UInt8} {z : Bool} {c p q : Nat} {n : Int} (hH : hget H c = some (rst z b p 0 0)) (hb : b.length < 2 ^ 61) (hp : p ≤ b.length) (hr : rdS b 33 b.length p = .ok n q) :
    run (C k_ratchetref08_reading_number [.ptr c 0, .int .i64 33, .bool true]) H = some (.ok (.int .u64 (IntKind.u64.wrap n)) (hset H c (rst z b q 0 0))) := by
  have hid := get_lt hH
  have h1 := number_S (H := H) (b := b) (z := z) (a := p) (B := 33) (Nat.le_refl _) hb (.inr (.inl rfl)) hp
  rw [hr] at h1
  have h1 : run (C k_ratchetref01_Number [BS z b, .int .i64 p, .int .i64 b.length, .int .i64 33, .bool true]) H = some (.ok (.tup [.int .u64 (IntKind.u64.wrap n), .int .i64 q, .int .i64 0]) H) := h1
  generalize IntKind.u64.wrap n = m at h1 ⊢
  unfold rst at hH ⊢
  have hH : hget H c = some (.cells [BS z b, .int .i64 p, .int .i64 0, .int .i64 0]) := hH
  rw [ratchetref08_reading_number_eq]
  simp (contextual := true) (dsimp := false) (disch := omega) only [↓goDown, goUp, List.length_cons, List.length_nil, List.map_cons, List.map_nil, List.take_succ_cons, List.take_zero, List.drop_succ_cons, List.drop_zero, List.drop_nil, List.take_nil, List.cons_append, List.nil_append, List.append_nil, List.set_cons_zero, List.set_cons_succ, List.all_cons, List.all_nil, ↓reduceIte, reduceCtorEq, ge_iff_le, gt_iff_lt, eq_self_iff_true, beq_self_eq_true, beq_iff_eq, bne_iff_ne, ne_eq, ite_not, Int.reduceEq, Option.getD_some, Option.getD_none, ite_self, Nat.reduceAdd, Nat.reduceSub, Nat.reduceMul, Nat.reduceLeDiff, Nat.reduceEqDiff, Nat.reduceBEq, Nat.reduceBNe, Int.reduceLT, Int.reduceLE, Int.reduceAdd, Int.reduceSub, Int.reduceMul, Int.reduceNeg, Int.reduceNe, Int.reduceBEq, Int.reduceBNe, Int.reduceToNat, hH, h1, List.length_map]
  rfl
theorem numberS_err {H : Heap} {b : List UInt8} {z : Bool} {c p a w : Nat} (hH : hget H c = some (rst z b p 0 0)) (hb : b.length < 2 ^ 61) (hp : p ≤ b.length) (hr : rdS b 33 b.length p = .err a w) :
    run (C k_ratchetref08_reading_number [.ptr c 0, .int .i64 33, .bool true]) H = some (.ok (.int .u64 0) (hset H c (rst z b p a w))) := by
  have hid := get_lt hH
  have h1 := number_S (H := H) (b := b) (z := z) (a := p) (B := 33) (Nat.le_refl _) hb (.inr (.inl rfl)) hp
  have h2 := rfail_is (a := a) (w := w) hH
  have hw := rdS_err hr
  have c1 : ¬ (w : Int) = 0 := by omega
  rw [hr] at h1
  have h1 : run (C k_ratchetref01_Number [BS z b, .int .i64 p, .int .i64 b.length, .int .i64 33, .bool true]) H = some (.ok (.tup [.int .u64 0, .int .i64 a, .int .i64 w]) H) := h1
  unfold rst at hH
  have hH : hget H c = some (.cells [BS z b, .int .i64 p, .int .i64 0, .int .i64 0]) := hH
  rw [ratchetref08_reading_number_eq]
  simp (contextual := true) (dsimp := false) (disch := omega) only [↓goDown, goUp, List.length_cons, List.length_nil, List.map_cons, List.map_nil, List.take_succ_cons, List.take_zero, List.drop_succ_cons, List.drop_zero, List.drop_nil, List.take_nil, List.cons_append, List.nil_append, List.append_nil, List.set_cons_zero, List.set_cons_succ, List.all_cons, List.all_nil, ↓reduceIte, reduceCtorEq, ge_iff_le, gt_iff_lt, eq_self_iff_true, beq_self_eq_true, beq_iff_eq, bne_iff_ne, ne_eq, ite_not, Int.reduceEq, Option.getD_some, Option.getD_none, ite_self, Nat.reduceAdd, Nat.reduceSub, Nat.reduceMul, Nat.reduceLeDiff, Nat.reduceEqDiff, Nat.reduceBEq, Nat.reduceBNe, Int.reduceLT, Int.reduceLE, Int.reduceAdd, Int.reduceSub, Int.reduceMul, Int.reduceNeg, Int.reduceNe, Int.reduceBEq, Int.reduceBNe, Int.reduceToNat, hH, h1, h2, c1, List.length_map]
theorem rabs_is {H : Heap} {c : Nat} : run (C k_ratchetref08_abstract [.int .u8 c]) H = some (.ok (.int .i64 (hname c)) H) := by
  rw [ratchetref08_abstract_eq]
  by_cases h : c < 105 ∨ 116 < c
  · rw [hname_out h]
    have e115 : ((c : Int) = 115) = False := eq_false (by omega)
    have e114 : ((c : Int) = 114) = False := eq_false (by omega)
    have e113 : ((c : Int) = 113) = False := eq_false (by omega)
    have e112 : ((c : Int) = 112) = False := eq_false (by omega)
    have e111 : ((c : Int) = 111) = False := eq_false (by omega)
    have e110 : ((c : Int) = 110) = False := eq_false (by omega)
    have e109 : ((c : Int) = 109) = False := eq_false (by omega)
    have e108 : ((c : Int) = 108) = False := eq_false (by omega)
    have e107 : ((c : Int) = 107) = False := eq_false (by omega)
    have e106 : ((c : Int) = 106) = False := eq_false (by omega)
    have e105 : ((c : Int) = 105) = False := eq_false (by omega)
    have e116 : ((c : Int) = 116) = False := eq_false (by omega)
    simp (dsimp := false) (disch := omega) only [↓goDown, goUp, List.length_cons, List.length_nil, List.map_cons, List.map_nil, List.take_succ_cons, List.take_zero, List.drop_succ_cons, List.drop_zero, List.drop_nil, List.take_nil, List.cons_append, List.nil_append, List.append_nil, List.set_cons_zero, List.set_cons_succ, List.all_cons, List.all_nil, ↓reduceIte, reduceCtorEq, ge_iff_le, gt_iff_lt, eq_self_iff_true, beq_self_eq_true, beq_iff_eq, bne_iff_ne, ne_eq, ite_not, Int.reduceEq, Option.getD_some, Option.getD_none, ite_self, Nat.reduceAdd, Nat.reduceSub, Nat.reduceMul, Nat.reduceLeDiff, Nat.reduceEqDiff, Nat.reduceBEq, Nat.reduceBNe, Int.reduceLT, Int.reduceLE, Int.reduceAdd, Int.reduceSub, Int.reduceMul, Int.reduceNeg, Int.reduceNe, Int.reduceBEq, Int.reduceBNe, Int.reduceToNat, e115, e114, e113, e112, e111, e110, e109, e108, e107, e106, e105, e116]
  · have h : c = 105 ∨ c = 106 ∨ c = 107 ∨ c = 108 ∨ c = 109 ∨ c = 110 ∨ c = 111 ∨ c = 112 ∨ c = 113 ∨ c = 114 ∨ c = 115 ∨ c = 116 := by omega
    rcases h with rfl | rfl | rfl | rfl | rfl | rfl | rfl | rfl | rfl | rfl | rfl | rfl <;>
      simp (dsimp := false) (disch := omega) only [↓goDown, goUp, List.length_cons, List.length_nil, List.map_cons, List.map_nil, List.take_succ_cons, List.take_zero, List.drop_succ_cons, List.drop_zero, List.drop_nil, List.take_nil, List.cons_append, List.nil_append, List.append_nil, List.set_cons_zero, List.set_cons_succ, List.all_cons, List.all_nil, ↓reduceIte, reduceCtorEq, ge_iff_le, gt_iff_lt, eq_self_iff_true, beq_self_eq_true, beq_iff_eq, bne_iff_ne, ne_eq, ite_not, Int.reduceEq, Option.getD_some, Option.getD_none, ite_self, Nat.reduceAdd, Nat.reduceSub, Nat.reduceMul, Nat.reduceLeDiff, Nat.reduceEqDiff, Nat.reduceBEq, Nat.reduceBNe, Int.reduceLT, Int.reduceLE, Int.reduceAdd, Int.reduceSub, Int.reduceMul, Int.reduceNeg, Int.reduceNe, Int.reduceBEq, Int.reduceBNe, Int.reduceToNat, Int.cast_ofNat_Int] <;> rfl
/-- What the reference's method comes to: the value, or anything with the fault noted. -/
def outF (z : Bool) (b : List UInt8) (c : Nat) (H : Heap) {α : Type} (enc : α → PV) (r : Option (Out PV)) : Rs α → Prop
  | .ok v p => r = some (.ok (enc v) (hset H c (rst z b p 0 0)))
  | .err a w => ∃ v q, r = some (.ok (enc v) (hset H c (rst z b q a w))) ∧ w ≠ 0
theorem rheap_is {H : Heap} {b : List UInt8} {z : Bool} {c p : Nat} (hH : hget H c = some (rst z b p 0 0)) (hb : b.length < 2 ^ 61) (hp : p ≤ b.length) :
    outF z b c H (fun x : Int => .int .i64 x) (run (C k_ratchetref08_reading_heap [.ptr c 0]) H) (rHeap b p) := by
  have hid := get_lt hH
  have hset := set_self hH
  have hH' : hget H c = some (.cells [BS z b, .int .i64 p, .int .i64 0, .int .i64 0]) := hH
  have hs' : Pi.hset H c (.cells [BS z b, .int .i64 p, .int .i64 0, .int .i64 0]) = H := hset
  rw [ratchetref08_reading_heap_eq]
  unfold rHeap
  -- behind the look
  have tail : ∀ (r : Option (Out PV)), r = truncR H (run (M.bind (C k_ratchetref08_reading_number [.ptr c 0, .int .i64 33, .bool true]) fun t32_18 =>
      M.bind (cv (.int .i64) true t32_18) fun t33_19 =>
      M.bind (nc P (.ptr c 0)) fun t35_20 =>
      M.bind (fa 3 t35_20) fun t36_21 =>
      M.bind (ld none false t36_21) fun t37_22 =>
      M.bind (bi .eql .none t37_22 (.int .i64 0)) fun t38_23 =>
      M.bind (gd (strip t38_23) true (M.pure (strip t33_19))) fun t40_24 =>
      M.bind (gd (strip t38_23) true (bi .lss .none t40_24 (.int .i64 0))) fun t41_25 =>
      M.bind (pick (strip t38_23) t41_25 (.bool false)) fun t42_26 =>
      condM t42_26
      (M.bind (C k_ratchetref08_reading_fail [.ptr c 0, .int .i64 p, .int .i64 4]) fun t45_27 =>
      p_ratchetref08_reading_heap_111111 (.ptr c 0) (.int .i64 0) (.int .i64 p) t33_19)
      (p_ratchetref08_reading_heap_111111 (.ptr c 0) (.int .i64 0) (.int .i64 p) t33_19)) H) → outF z b c H (fun x : Int => .int .i64 x) r (rS33 b p) := by
    intro r hr0
    subst hr0
    unfold rS33
    cases hr : rdS b 33 b.length p with
    | ok n q =>
      have hn := rdS_lt hr
      have h1 := numberS_ok hH hb hp hr
      have hw : IntKind.i64.wrap (IntKind.u64.wrap n) = n := by rw [wi, wu]; omega
      have hH2 : hget (Pi.hset H c (rst z b q 0 0)) c = some (rst z b q 0 0) := get_set hid
      have hH3 : hget (Pi.hset H c (rst z b q 0 0)) c = some (.cells [BS z b, .int .i64 q, .int .i64 0, .int .i64 0]) := hH2
      have f4 := fun a w => rfail_is (a := a) (w := w) hH2
      simp only [set_set] at f4
      dsimp only
      by_cases n1 : n < 0
      · rw [if_pos n1]
        refine ⟨0, q, ?_, by omega⟩
        have hH5 : hget (Pi.hset H c (rst z b q p 4)) c = some (.cells [BS z b, .int .i64 q, .int .i64 p, .int .i64 4]) := get_set hid
        have f4 := f4 p 4
        have f4 : run (C k_ratchetref08_reading_fail [.ptr c 0, .int .i64 p, .int .i64 4]) (Pi.hset H c (rst z b q 0 0)) = some (.ok (.tup []) (Pi.hset H c (rst z b q p 4))) := f4
        simp (contextual := true) (dsimp := false) (disch := omega) only [↓goDown, goUp, List.length_cons, List.length_nil, List.map_cons, List.map_nil, List.take_succ_cons, List.take_zero, List.drop_succ_cons, List.drop_zero, List.drop_nil, List.take_nil, List.cons_append, List.nil_append, List.append_nil, List.set_cons_zero, List.set_cons_succ, List.all_cons, List.all_nil, ↓reduceIte, reduceCtorEq, ge_iff_le, gt_iff_lt, eq_self_iff_true, beq_self_eq_true, beq_iff_eq, bne_iff_ne, ne_eq, ite_not, Int.reduceEq, Option.getD_some, Option.getD_none, ite_self, Nat.reduceAdd, Nat.reduceSub, Nat.reduceMul, Nat.reduceLeDiff, Nat.reduceEqDiff, Nat.reduceBEq, Nat.reduceBNe, Int.reduceLT, Int.reduceLE, Int.reduceAdd, Int.reduceSub, Int.reduceMul, Int.reduceNeg, Int.reduceNe, Int.reduceBEq, Int.reduceBNe, Int.reduceToNat, h1, hw, hH3, n1, f4, p_ratchetref08_reading_heap_111111_eq, p_ratchetref08_reading_heap_1111111_eq, hH5]
      · rw [if_neg n1]
        by_cases n2 : 2147483647 < n
        · rw [if_pos n2]
          refine ⟨0, q, ?_, by omega⟩
          have n3 : (2147483648 : Int) ≤ n := by omega
          have hH5 : hget (Pi.hset H c (rst z b q p 2)) c = some (.cells [BS z b, .int .i64 q, .int .i64 p, .int .i64 2]) := get_set hid
          have f4 : run (C k_ratchetref08_reading_fail [.ptr c 0, .int .i64 p, .int .i64 2]) (Pi.hset H c (rst z b q 0 0)) = some (.ok (.tup []) (Pi.hset H c (rst z b q p 2))) := f4 p 2
          simp (contextual := true) (dsimp := false) (disch := omega) only [↓goDown, goUp, List.length_cons, List.length_nil, List.map_cons, List.map_nil, List.take_succ_cons, List.take_zero, List.drop_succ_cons, List.drop_zero, List.drop_nil, List.take_nil, List.cons_append, List.nil_append, List.append_nil, List.set_cons_zero, List.set_cons_succ, List.all_cons, List.all_nil, ↓reduceIte, reduceCtorEq, ge_iff_le, gt_iff_lt, eq_self_iff_true, beq_self_eq_true, beq_iff_eq, bne_iff_ne, ne_eq, ite_not, Int.reduceEq, Option.getD_some, Option.getD_none, ite_self, Nat.reduceAdd, Nat.reduceSub, Nat.reduceMul, Nat.reduceLeDiff, Nat.reduceEqDiff, Nat.reduceBEq, Nat.reduceBNe, Int.reduceLT, Int.reduceLE, Int.reduceAdd, Int.reduceSub, Int.reduceMul, Int.reduceNeg, Int.reduceNe, Int.reduceBEq, Int.reduceBNe, Int.reduceToNat, h1, hw, hH3, n1, n3, f4, p_ratchetref08_reading_heap_111111_eq, p_ratchetref08_reading_heap_1111111_eq, hH5]
        · rw [if_neg n2]
          have n3 : ¬ (2147483648 : Int) ≤ n := by omega
          show _ = some _
          simp (contextual := true) (dsimp := false) (disch := omega) only [↓goDown, goUp, List.length_cons, List.length_nil, List.map_cons, List.map_nil, List.take_succ_cons, List.take_zero, List.drop_succ_cons, List.drop_zero, List.drop_nil, List.take_nil, List.cons_append, List.nil_append, List.append_nil, List.set_cons_zero, List.set_cons_succ, List.all_cons, List.all_nil, ↓reduceIte, reduceCtorEq, ge_iff_le, gt_iff_lt, eq_self_iff_true, beq_self_eq_true, beq_iff_eq, bne_iff_ne, ne_eq, ite_not, Int.reduceEq, Option.getD_some, Option.getD_none, ite_self, Nat.reduceAdd, Nat.reduceSub, Nat.reduceMul, Nat.reduceLeDiff, Nat.reduceEqDiff, Nat.reduceBEq, Nat.reduceBNe, Int.reduceLT, Int.reduceLE, Int.reduceAdd, Int.reduceSub, Int.reduceMul, Int.reduceNeg, Int.reduceNe, Int.reduceBEq, Int.reduceBNe, Int.reduceToNat, h1, hw, hH3, n1, n3, p_ratchetref08_reading_heap_111111_eq, p_ratchetref08_reading_heap_1111111_eq]
    | err a w =>
      have h1 := numberS_err hH hb hp hr
      have hw := rdS_err hr
      have c1 : ¬ (w : Int) = 0 := by omega
      have hH5 : hget (Pi.hset H c (rst z b p a w)) c = some (.cells [BS z b, .int .i64 p, .int .i64 a, .int .i64 w]) := get_set hid
      have e0 : IntKind.i64.wrap 0 = 0 := rfl
      refine ⟨0, p, ?_, hw⟩
      simp (contextual := true) (dsimp := false) (disch := omega) only [↓goDown, goUp, List.length_cons, List.length_nil, List.map_cons, List.map_nil, List.take_succ_cons, List.take_zero, List.drop_succ_cons, List.drop_zero, List.drop_nil, List.take_nil, List.cons_append, List.nil_append, List.append_nil, List.set_cons_zero, List.set_cons_succ, List.all_cons, List.all_nil, ↓reduceIte, reduceCtorEq, ge_iff_le, gt_iff_lt, eq_self_iff_true, beq_self_eq_true, beq_iff_eq, bne_iff_ne, ne_eq, ite_not, Int.reduceEq, Option.getD_some, Option.getD_none, ite_self, Nat.reduceAdd, Nat.reduceSub, Nat.reduceMul, Nat.reduceLeDiff, Nat.reduceEqDiff, Nat.reduceBEq, Nat.reduceBNe, Int.reduceLT, Int.reduceLE, Int.reduceAdd, Int.reduceSub, Int.reduceMul, Int.reduceNeg, Int.reduceNe, Int.reduceBEq, Int.reduceBNe, Int.reduceToNat, h1, hH5, c1, e0, p_ratchetref08_reading_heap_111111_eq, p_ratchetref08_reading_heap_1111111_eq]
  by_cases h1 : p < b.length
  · have hl := peek_ok hH hb h1
    have hc := byt_lt (b.getD p 0)
    rw [if_pos h1]
    generalize (b.getD p 0).toNat = x at hl hc ⊢
    have hn := rabs_is (H := H) (c := x)
    by_cases h2 : hname x = 0
    · rw [if_neg (by simpa using h2)]
      refine tail _ ?_
      simp (contextual := true) (dsimp := false) (disch := omega) only [↓goDown, goUp, List.length_cons, List.length_nil, List.map_cons, List.map_nil, List.take_succ_cons, List.take_zero, List.drop_succ_cons, List.drop_zero, List.drop_nil, List.take_nil, List.cons_append, List.nil_append, List.append_nil, List.set_cons_zero, List.set_cons_succ, List.all_cons, List.all_nil, ↓reduceIte, reduceCtorEq, ge_iff_le, gt_iff_lt, eq_self_iff_true, beq_self_eq_true, beq_iff_eq, bne_iff_ne, ne_eq, ite_not, Int.reduceEq, Option.getD_some, Option.getD_none, ite_self, Nat.reduceAdd, Nat.reduceSub, Nat.reduceMul, Nat.reduceLeDiff, Nat.reduceEqDiff, Nat.reduceBEq, Nat.reduceBNe, Int.reduceLT, Int.reduceLE, Int.reduceAdd, Int.reduceSub, Int.reduceMul, Int.reduceNeg, Int.reduceNe, Int.reduceBEq, Int.reduceBNe, Int.reduceToNat, hl, hn, h2, hH', hs']
    · rw [if_pos (by simpa using h2)]
      show _ = some _
      simp (contextual := true) (dsimp := false) (disch := omega) only [↓goDown, goUp, List.length_cons, List.length_nil, List.map_cons, List.map_nil, List.take_succ_cons, List.take_zero, List.drop_succ_cons, List.drop_zero, List.drop_nil, List.take_nil, List.cons_append, List.nil_append, List.append_nil, List.set_cons_zero, List.set_cons_succ, List.all_cons, List.all_nil, ↓reduceIte, reduceCtorEq, ge_iff_le, gt_iff_lt, eq_self_iff_true, beq_self_eq_true, beq_iff_eq, bne_iff_ne, ne_eq, ite_not, Int.reduceEq, Option.getD_some, Option.getD_none, ite_self, Nat.reduceAdd, Nat.reduceSub, Nat.reduceMul, Nat.reduceLeDiff, Nat.reduceEqDiff, Nat.reduceBEq, Nat.reduceBNe, Int.reduceLT, Int.reduceLE, Int.reduceAdd, Int.reduceSub, Int.reduceMul, Int.reduceNeg, Int.reduceNe, Int.reduceBEq, Int.reduceBNe, Int.reduceToNat, hl, rabs_is, h2, hH']
      rfl
  · have hl := peek_no hH h1
    have e3 : rS33 b p = .err b.length 3 := by
      have hpe : p = b.length := by omega
      subst hpe
      unfold rS33 rdS lebS
      rw [if_neg (by omega)]
    rw [if_neg h1, ← e3]
    refine tail _ ?_
    simp (contextual := true) (dsimp := false) (disch := omega) only [↓goDown, goUp, List.length_cons, List.length_nil, List.map_cons, List.map_nil, List.take_succ_cons, List.take_zero, List.drop_succ_cons, List.drop_zero, List.drop_nil, List.take_nil, List.cons_append, List.nil_append, List.append_nil, List.set_cons_zero, List.set_cons_succ, List.all_cons, List.all_nil, ↓reduceIte, reduceCtorEq, ge_iff_le, gt_iff_lt, eq_self_iff_true, beq_self_eq_true, beq_iff_eq, bne_iff_ne, ne_eq, ite_not, Int.reduceEq, Option.getD_some, Option.getD_none, ite_self, Nat.reduceAdd, Nat.reduceSub, Nat.reduceMul, Nat.reduceLeDiff, Nat.reduceEqDiff, Nat.reduceBEq, Nat.reduceBNe, Int.reduceLT, Int.reduceLE, Int.reduceAdd, Int.reduceSub, Int.reduceMul, Int.reduceNeg, Int.reduceNe, Int.reduceBEq, Int.reduceBNe, Int.reduceToNat, hl, hH', hs']
def rsRef (t : Bool) : Rs Int → Rs VT
  | .ok h q => .ok ⟨5, t, h⟩ q
  | .err a w => .err a w
theorem hname_in {c : Nat} (h : 105 ≤ c ∧ c ≤ 116) : hname c ≠ 0 := by
  have h : c = 105 ∨ c = 106 ∨ c = 107 ∨ c = 108 ∨ c = 109 ∨ c = 110 ∨ c = 111 ∨ c = 112 ∨ c = 113 ∨ c = 114 ∨ c = 115 ∨ c = 116 := by omega
  rcases h with rfl | rfl | rfl | rfl | rfl | rfl | rfl | rfl | rfl | rfl | rfl | rfl <;> decide
/-- A value type that begins with this byte. -/
def rOf (any : Bool) (b : List UInt8) (p x : Nat) : Rs VT :=
  if x = 99 ∨ x = 100 then rsRef (x == 99) (rHeap b (p + 1))
  else if 105 ≤ x ∧ x ≤ 116 then .ok ⟨5, true, hname x⟩ (p + 1)
  else if any = true ∧ x = 123 then .err p 8
  else if any = true ∧ (124 ≤ x ∧ x ≤ 127) then .ok ⟨128 - x, false, 0⟩ (p + 1)
  else .err p 4
theorem rRef_of {b : List UInt8} {p : Nat} (h : p < b.length) : rRef b p = rOf false b p (b.getD p 0).toNat := by
  unfold rRef rOf
  rw [if_pos h]
  generalize (b.getD p 0).toNat = x
  dsimp only
  by_cases h1 : x = 99 ∨ x = 100
  · have hz : hname x = 0 := hname_out (by omega)
    have q3 : ¬ (x ≠ 99 ∧ x ≠ 100) := by omega
    rw [if_neg (fun h => h hz), if_neg q3, if_pos h1]
    cases rHeap b (p + 1) <;> rfl
  · rw [if_neg h1]
    by_cases h2 : 105 ≤ x ∧ x ≤ 116
    · rw [if_pos (hname_in h2), if_pos h2]
    · have hz : hname x = 0 := hname_out (by omega)
      have q3 : (x ≠ 99 ∧ x ≠ 100) := by omega
      rw [if_neg (fun h => h hz), if_pos q3, if_neg h2, if_neg (by simp), if_neg (by simp)]
theorem rVal_of {b : List UInt8} {p : Nat} (h : p < b.length) : rVal b p = rOf true b p (b.getD p 0).toNat := by
  have hr := rRef_of h
  unfold rVal
  rw [if_pos h]
  unfold rOf at hr ⊢
  generalize (b.getD p 0).toNat = x at *
  by_cases h1 : x = 123
  · have q1 : ¬ (x = 99 ∨ x = 100) := by omega
    have q2 : ¬ (105 ≤ x ∧ x ≤ 116) := by omega
    rw [if_pos h1, if_neg q1, if_neg q2, if_pos ⟨rfl, h1⟩]
  · rw [if_neg h1]
    by_cases h2 : 124 ≤ x ∧ x ≤ 127
    · have q1 : ¬ (x = 99 ∨ x = 100) := by omega
      have q2 : ¬ (105 ≤ x ∧ x ≤ 116) := by omega
      rw [if_pos h2, if_neg q1, if_neg q2, if_neg (fun h => h1 h.2), if_pos ⟨rfl, h2⟩]
    · rw [if_neg h2, hr]
      simp only [h1, h2, and_false, if_false]
theorem rval_is {H : Heap} {b : List UInt8} {z : Bool} {c p : Nat} {any : Bool} (hH : hget H c = some (rst z b p 0 0)) (hb : b.length < 2 ^ 61) (hp : p ≤ b.length) :
    outF z b c H encV (run (C k_ratchetref08_reading_val [.ptr c 0, .bool any, .bool false]) H) (if p < b.length then rOf any b p (b.getD p 0).toNat else .err b.length 3) := by
  have hid := get_lt hH
  have hset := set_self hH
  have hH1 : ∀ L, hget (hadd H L) c = some (rst z b p 0 0) := fun L => by rw [get_old hid]; exact hH
  have hH' : hget H c = some (.cells [BS z b, .int .i64 p, .int .i64 0, .int .i64 0]) := hH
  have hs' : Pi.hset H c (.cells [BS z b, .int .i64 p, .int .i64 0, .int .i64 0]) = H := hset
  have so : ∀ u a w L, Pi.hset (hadd H L) c (rst z b u a w) = hadd (Pi.hset H c (rst z b u a w)) L := fun u a w L => by rw [set_old hid]
  have so1 : ∀ u a w u' a' w' L, Pi.hset (hadd (Pi.hset H c (rst z b u' a' w')) L) c (rst z b u a w) = hadd (Pi.hset H c (rst z b u a w)) L := fun u a w u' a' w' L => by rw [set_old1 hid, set_set]
  rw [ratchetref08_reading_val_eq]
  by_cases h1 : p < b.length
  · have hl := fun L => peek_ok (hH1 L) hb h1
    have hc := byt_lt (b.getD p 0)
    rw [if_pos h1]
    generalize (b.getD p 0).toNat = x at hl hc ⊢
    have hfail := fun L (w : Nat) => rfail_is (a := p) (w := w) (hH1 L)
    simp only [so] at hfail
    have hf4 : ∀ L, run (C k_ratchetref08_reading_fail [.ptr c 0, .int .i64 p, .int .i64 4]) (hadd H L) = some (.ok (.tup []) (hadd (Pi.hset H c (rst z b p p 4)) L)) := fun L => hfail L 4
    have hf8 : ∀ L, run (C k_ratchetref08_reading_fail [.ptr c 0, .int .i64 p, .int .i64 8]) (hadd H L) = some (.ok (.tup []) (hadd (Pi.hset H c (rst z b p p 8)) L)) := fun L => hfail L 8
    unfold rOf
    by_cases h99 : x = 99 ∨ x = 100
    · rw [if_pos h99]
      have hH2 : ∀ L, hget (hadd (Pi.hset H c (rst z b (p + 1) 0 0)) L) c = some (rst z b (p + 1) 0 0) := fun L => by
        rw [get_old1 hid, get_set hid]
      have hk := rheap_is (hH2 [.cells [.int .i64 0, .bool false, .int .i64 0]]) hb (show p + 1 ≤ b.length by omega)
      have fin : ∀ (t : Bool), ((x : Int) == 99) = t → (x == 99) = t → outF z b c H encV (truncR H (run (M.bind (C k_ratchetref08_reading_heap [.ptr c 0]) fun t41_25 =>
          M.bind (bd [(.int .i64 0), (.bool false), (.int .i64 0)] [(0, 1, (.int .i64 5)), (1, 1, (.bool t)), (2, 1, t41_25)]) fun t42_26 =>
          M.bind (st 3 true (.ptr H.length 0) t42_26) fun _ =>
          M.bind (ld (some 3) true (.ptr H.length 0)) fun t0_28 => guardM (!isTup t0_28) (M.pure t0_28)) (hadd (Pi.hset H c (rst z b (p + 1) 0 0)) [.cells [.int .i64 0, .bool false, .int .i64 0]]))) (rsRef t (rHeap b (p + 1))) := by
        intro t ht ht'
        cases hr : rHeap b (p + 1) with
        | ok v q =>
          rw [hr] at hk
          simp only [outF, so1] at hk
          simp only [rsRef]
          show _ = some _
          simp (contextual := true) (dsimp := false) (disch := omega) only [↓goDown, goUp, List.length_cons, List.length_nil, List.map_cons, List.map_nil, List.take_succ_cons, List.take_zero, List.drop_succ_cons, List.drop_zero, List.drop_nil, List.take_nil, List.cons_append, List.nil_append, List.append_nil, List.set_cons_zero, List.set_cons_succ, List.all_cons, List.all_nil, ↓reduceIte, reduceCtorEq, ge_iff_le, gt_iff_lt, eq_self_iff_true, beq_self_eq_true, beq_iff_eq, bne_iff_ne, ne_eq, ite_not, Int.reduceEq, Option.getD_some, Option.getD_none, ite_self, Nat.reduceAdd, Nat.reduceSub, Nat.reduceMul, Nat.reduceLeDiff, Nat.reduceEqDiff, Nat.reduceBEq, Nat.reduceBNe, Int.reduceLT, Int.reduceLE, Int.reduceAdd, Int.reduceSub, Int.reduceMul, Int.reduceNeg, Int.reduceNe, Int.reduceBEq, Int.reduceBNe, Int.reduceToNat, hk]
          rfl
        | err a w =>
          rw [hr] at hk
          obtain ⟨v, q, hk, hw⟩ := hk
          simp only [so1] at hk
          simp only [rsRef]
          refine ⟨⟨5, t, v⟩, q, ?_, hw⟩
          simp (contextual := true) (dsimp := false) (disch := omega) only [↓goDown, goUp, List.length_cons, List.length_nil, List.map_cons, List.map_nil, List.take_succ_cons, List.take_zero, List.drop_succ_cons, List.drop_zero, List.drop_nil, List.take_nil, List.cons_append, List.nil_append, List.append_nil, List.set_cons_zero, List.set_cons_succ, List.all_cons, List.all_nil, ↓reduceIte, reduceCtorEq, ge_iff_le, gt_iff_lt, eq_self_iff_true, beq_self_eq_true, beq_iff_eq, bne_iff_ne, ne_eq, ite_not, Int.reduceEq, Option.getD_some, Option.getD_none, ite_self, Nat.reduceAdd, Nat.reduceSub, Nat.reduceMul, Nat.reduceLeDiff, Nat.reduceEqDiff, Nat.reduceBEq, Nat.reduceBNe, Int.reduceLT, Int.reduceLE, Int.reduceAdd, Int.reduceSub, Int.reduceMul, Int.reduceNeg, Int.reduceNe, Int.reduceBEq, Int.reduceBNe, Int.reduceToNat, hk]
          rfl
      have hst : Pi.hset H c (.cells [BS z b, .int .i64 ((p : Int) + 1), .int .i64 0, .int .i64 0]) = Pi.hset H c (rst z b (p + 1) 0 0) := rfl
      by_cases c1 : x = 99
      · have e1 : ((x : Int) = 99) = True := eq_true (by omega)
        have e2 : ((x : Int) == 99) = true := by simpa using e1
        have e3 : (x == 99) = true := by simpa using c1
        rw [e3]
        refine Eq.mp (congrArg (fun r => outF z b c H encV r _) ?_) (fin true e2 e3)
        symm
        simp (contextual := true) (dsimp := false) (disch := omega) only [↓goDown, goUp, List.length_cons, List.length_nil, List.map_cons, List.map_nil, List.take_succ_cons, List.take_zero, List.drop_succ_cons, List.drop_zero, List.drop_nil, List.take_nil, List.cons_append, List.nil_append, List.append_nil, List.set_cons_zero, List.set_cons_succ, List.all_cons, List.all_nil, ↓reduceIte, reduceCtorEq, ge_iff_le, gt_iff_lt, eq_self_iff_true, beq_self_eq_true, beq_iff_eq, bne_iff_ne, ne_eq, ite_not, Int.reduceEq, Option.getD_some, Option.getD_none, ite_self, Nat.reduceAdd, Nat.reduceSub, Nat.reduceMul, Nat.reduceLeDiff, Nat.reduceEqDiff, Nat.reduceBEq, Nat.reduceBNe, Int.reduceLT, Int.reduceLE, Int.reduceAdd, Int.reduceSub, Int.reduceMul, Int.reduceNeg, Int.reduceNe, Int.reduceBEq, Int.reduceBNe, Int.reduceToNat, hl, e1, e2, hH', hst]
      · have e1 : ((x : Int) = 99) = False := eq_false (by omega)
        have e2 : ((x : Int) == 99) = false := by simpa using e1
        have e3 : (x == 99) = false := by simpa using c1
        have e4 : ((x : Int) = 100) = True := eq_true (by omega)
        rw [e3]
        refine Eq.mp (congrArg (fun r => outF z b c H encV r _) ?_) (fin false e2 e3)
        symm
        simp (contextual := true) (dsimp := false) (disch := omega) only [↓goDown, goUp, List.length_cons, List.length_nil, List.map_cons, List.map_nil, List.take_succ_cons, List.take_zero, List.drop_succ_cons, List.drop_zero, List.drop_nil, List.take_nil, List.cons_append, List.nil_append, List.append_nil, List.set_cons_zero, List.set_cons_succ, List.all_cons, List.all_nil, ↓reduceIte, reduceCtorEq, ge_iff_le, gt_iff_lt, eq_self_iff_true, beq_self_eq_true, beq_iff_eq, bne_iff_ne, ne_eq, ite_not, Int.reduceEq, Option.getD_some, Option.getD_none, ite_self, Nat.reduceAdd, Nat.reduceSub, Nat.reduceMul, Nat.reduceLeDiff, Nat.reduceEqDiff, Nat.reduceBEq, Nat.reduceBNe, Int.reduceLT, Int.reduceLE, Int.reduceAdd, Int.reduceSub, Int.reduceMul, Int.reduceNeg, Int.reduceNe, Int.reduceBEq, Int.reduceBNe, Int.reduceToNat, hl, e1, e2, e4, hH', hst]
    · rw [if_neg h99]
      have e1 : ((x : Int) = 99) = False := eq_false (by omega)
      have e2 : ((x : Int) = 100) = False := eq_false (by omega)
      by_cases h2 : 105 ≤ x ∧ x ≤ 116
      · rw [if_pos h2]
        have hz : (hname x = 0) = False := eq_false (hname_in h2)
        show _ = some _
        simp (contextual := true) (dsimp := false) (disch := omega) only [↓goDown, goUp, List.length_cons, List.length_nil, List.map_cons, List.map_nil, List.take_succ_cons, List.take_zero, List.drop_succ_cons, List.drop_zero, List.drop_nil, List.take_nil, List.cons_append, List.nil_append, List.append_nil, List.set_cons_zero, List.set_cons_succ, List.all_cons, List.all_nil, ↓reduceIte, reduceCtorEq, ge_iff_le, gt_iff_lt, eq_self_iff_true, beq_self_eq_true, beq_iff_eq, bne_iff_ne, ne_eq, ite_not, Int.reduceEq, Option.getD_some, Option.getD_none, ite_self, Nat.reduceAdd, Nat.reduceSub, Nat.reduceMul, Nat.reduceLeDiff, Nat.reduceEqDiff, Nat.reduceBEq, Nat.reduceBNe, Int.reduceLT, Int.reduceLE, Int.reduceAdd, Int.reduceSub, Int.reduceMul, Int.reduceNeg, Int.reduceNe, Int.reduceBEq, Int.reduceBNe, Int.reduceToNat, hl, e1, e2, rabs_is, hz, hH']
        rfl
      · rw [if_neg h2]
        have hz : (hname x = 0) = True := eq_true (hname_out (by omega))
        have g1 : ((x : Int) = 120) = (x = 120) := by rw [eq_iff_iff]; omega
        cases any with
        | true =>
          by_cases h3 : x = 123
          · have e3 : ((x : Int) = 123) = True := eq_true (by omega)
            rw [if_pos ⟨rfl, h3⟩]
            refine ⟨⟨0, false, 0⟩, p, ?_, by omega⟩
            simp (contextual := true) (dsimp := false) (disch := omega) only [↓goDown, goUp, List.length_cons, List.length_nil, List.map_cons, List.map_nil, List.take_succ_cons, List.take_zero, List.drop_succ_cons, List.drop_zero, List.drop_nil, List.take_nil, List.cons_append, List.nil_append, List.append_nil, List.set_cons_zero, List.set_cons_succ, List.all_cons, List.all_nil, ↓reduceIte, reduceCtorEq, ge_iff_le, gt_iff_lt, eq_self_iff_true, beq_self_eq_true, beq_iff_eq, bne_iff_ne, ne_eq, ite_not, Int.reduceEq, Option.getD_some, Option.getD_none, ite_self, Nat.reduceAdd, Nat.reduceSub, Nat.reduceMul, Nat.reduceLeDiff, Nat.reduceEqDiff, Nat.reduceBEq, Nat.reduceBNe, Int.reduceLT, Int.reduceLE, Int.reduceAdd, Int.reduceSub, Int.reduceMul, Int.reduceNeg, Int.reduceNe, Int.reduceBEq, Int.reduceBNe, Int.reduceToNat, hl, e1, e2, rabs_is, hz, hH', e3, hf8]
            rfl
          · have e3 : ((x : Int) = 123) = False := eq_false (by omega)
            rw [if_neg (fun h => h3 h.2)]
            by_cases h4 : 124 ≤ x ∧ x ≤ 127
            · have e4 : (124 : Int) ≤ x := by omega
              have e5 : (x : Int) ≤ 127 := by omega
              rw [if_pos ⟨rfl, h4⟩]
              show _ = some _
              simp (contextual := true) (dsimp := false) (disch := omega) only [↓goDown, goUp, List.length_cons, List.length_nil, List.map_cons, List.map_nil, List.take_succ_cons, List.take_zero, List.drop_succ_cons, List.drop_zero, List.drop_nil, List.take_nil, List.cons_append, List.nil_append, List.append_nil, List.set_cons_zero, List.set_cons_succ, List.all_cons, List.all_nil, ↓reduceIte, reduceCtorEq, ge_iff_le, gt_iff_lt, eq_self_iff_true, beq_self_eq_true, beq_iff_eq, bne_iff_ne, ne_eq, ite_not, Int.reduceEq, Option.getD_some, Option.getD_none, ite_self, Nat.reduceAdd, Nat.reduceSub, Nat.reduceMul, Nat.reduceLeDiff, Nat.reduceEqDiff, Nat.reduceBEq, Nat.reduceBNe, Int.reduceLT, Int.reduceLE, Int.reduceAdd, Int.reduceSub, Int.reduceMul, Int.reduceNeg, Int.reduceNe, Int.reduceBEq, Int.reduceBNe, Int.reduceToNat, hl, e1, e2, rabs_is, hz, hH', e3, e4, e5, p_ratchetref08_reading_val_11111111_eq]
              rfl
            · rw [if_neg (fun h => h4 h.2)]
              have e4 : (124 : Int) ≤ x → ¬ (x : Int) ≤ 127 := by omega
              refine ⟨⟨0, false, 0⟩, p + 1, ?_, by omega⟩
              by_cases h5 : (124 : Int) ≤ x
              · have h6 := e4 h5
                simp (contextual := true) (dsimp := false) (disch := omega) only [↓goDown, goUp, List.length_cons, List.length_nil, List.map_cons, List.map_nil, List.take_succ_cons, List.take_zero, List.drop_succ_cons, List.drop_zero, List.drop_nil, List.take_nil, List.cons_append, List.nil_append, List.append_nil, List.set_cons_zero, List.set_cons_succ, List.all_cons, List.all_nil, ↓reduceIte, reduceCtorEq, ge_iff_le, gt_iff_lt, eq_self_iff_true, beq_self_eq_true, beq_iff_eq, bne_iff_ne, ne_eq, ite_not, Int.reduceEq, Option.getD_some, Option.getD_none, ite_self, Nat.reduceAdd, Nat.reduceSub, Nat.reduceMul, Nat.reduceLeDiff, Nat.reduceEqDiff, Nat.reduceBEq, Nat.reduceBNe, Int.reduceLT, Int.reduceLE, Int.reduceAdd, Int.reduceSub, Int.reduceMul, Int.reduceNeg, Int.reduceNe, Int.reduceBEq, Int.reduceBNe, Int.reduceToNat, hl, e1, e2, rabs_is, hz, hH', e3, h5, h6, hf4, p_ratchetref08_reading_val_11111111_eq, rst]
                rfl
              · simp (contextual := true) (dsimp := false) (disch := omega) only [↓goDown, goUp, List.length_cons, List.length_nil, List.map_cons, List.map_nil, List.take_succ_cons, List.take_zero, List.drop_succ_cons, List.drop_zero, List.drop_nil, List.take_nil, List.cons_append, List.nil_append, List.append_nil, List.set_cons_zero, List.set_cons_succ, List.all_cons, List.all_nil, ↓reduceIte, reduceCtorEq, ge_iff_le, gt_iff_lt, eq_self_iff_true, beq_self_eq_true, beq_iff_eq, bne_iff_ne, ne_eq, ite_not, Int.reduceEq, Option.getD_some, Option.getD_none, ite_self, Nat.reduceAdd, Nat.reduceSub, Nat.reduceMul, Nat.reduceLeDiff, Nat.reduceEqDiff, Nat.reduceBEq, Nat.reduceBNe, Int.reduceLT, Int.reduceLE, Int.reduceAdd, Int.reduceSub, Int.reduceMul, Int.reduceNeg, Int.reduceNe, Int.reduceBEq, Int.reduceBNe, Int.reduceToNat, hl, e1, e2, rabs_is, hz, hH', e3, h5, hf4, p_ratchetref08_reading_val_11111111_eq, rst]
                rfl
        | false =>
          rw [if_neg (by simp), if_neg (by simp)]
          refine ⟨⟨0, false, 0⟩, p + 1, ?_, by omega⟩
          simp (contextual := true) (dsimp := false) (disch := omega) only [↓goDown, goUp, List.length_cons, List.length_nil, List.map_cons, List.map_nil, List.take_succ_cons, List.take_zero, List.drop_succ_cons, List.drop_zero, List.drop_nil, List.take_nil, List.cons_append, List.nil_append, List.append_nil, List.set_cons_zero, List.set_cons_succ, List.all_cons, List.all_nil, ↓reduceIte, reduceCtorEq, ge_iff_le, gt_iff_lt, eq_self_iff_true, beq_self_eq_true, beq_iff_eq, bne_iff_ne, ne_eq, ite_not, Int.reduceEq, Option.getD_some, Option.getD_none, ite_self, Nat.reduceAdd, Nat.reduceSub, Nat.reduceMul, Nat.reduceLeDiff, Nat.reduceEqDiff, Nat.reduceBEq, Nat.reduceBNe, Int.reduceLT, Int.reduceLE, Int.reduceAdd, Int.reduceSub, Int.reduceMul, Int.reduceNeg, Int.reduceNe, Int.reduceBEq, Int.reduceBNe, Int.reduceToNat, hl, e1, e2, rabs_is, hz, hH', hf4, p_ratchetref08_reading_val_11111111_eq, rst]
          rfl
  · rw [if_neg h1]
    have hl := fun L => peek_no (hH1 L) h1
    have hfail := fun L => rfail_is (a := b.length) (w := 3) (hH1 L)
    simp only [so] at hfail
    have hfail : ∀ L, run (C k_ratchetref08_reading_fail [.ptr c 0, .int .i64 b.length, .int .i64 3]) (hadd H L) = some (.ok (.tup []) (hadd (Pi.hset H c (rst z b p b.length 3)) L)) := hfail
    refine ⟨⟨0, false, 0⟩, p, ?_, by omega⟩
    simp (contextual := true) (dsimp := false) (disch := omega) only [↓goDown, goUp, List.length_cons, List.length_nil, List.map_cons, List.map_nil, List.take_succ_cons, List.take_zero, List.drop_succ_cons, List.drop_zero, List.drop_nil, List.take_nil, List.cons_append, List.nil_append, List.append_nil, List.set_cons_zero, List.set_cons_succ, List.all_cons, List.all_nil, ↓reduceIte, reduceCtorEq, ge_iff_le, gt_iff_lt, eq_self_iff_true, beq_self_eq_true, beq_iff_eq, bne_iff_ne, ne_eq, ite_not, Int.reduceEq, Option.getD_some, Option.getD_none, ite_self, Nat.reduceAdd, Nat.reduceSub, Nat.reduceMul, Nat.reduceLeDiff, Nat.reduceEqDiff, Nat.reduceBEq, Nat.reduceBNe, Int.reduceLT, Int.reduceLE, Int.reduceAdd, Int.reduceSub, Int.reduceMul, Int.reduceNeg, Int.reduceNe, Int.reduceBEq, Int.reduceBNe, Int.reduceToNat, hl, hH', hfail, List.length_map, un_not]
    rfl
end Go.Proofs.Ytofbbijagbpicaa.Pi.Q
/- The reference's readers of types, on: lists, blocks, readings at a place. -/
namespace Go.Proofs.Ytofbbijagbpicaa.Pi.Q
open Go Go.Proofs.Ytofbbijagbpicaa.Pi
set_option linter.unusedVariables false
set_option linter.unusedSimpArgs false
set_option maxRecDepth 100000
attribute [local congr] ite_congr
theorem rval_any {H : Heap} {b : List UInt8} {z : Bool} {c p : Nat} (hH : hget H c = some (rst z b p 0 0)) (hb : b.length < 2 ^ 61) (hp : p ≤ b.length) :
    outF z b c H encV (run (C k_ratchetref08_reading_val [.ptr c 0, .bool true, .bool false]) H) (rVal b p) := by
  have h := rval_is (any := true) hH hb hp
  by_cases h1 : p < b.length
  · rw [if_pos h1, ← rVal_of h1] at h; exact h
  · rw [if_neg h1] at h
    have e : rVal b p = .err b.length 3 := by unfold rVal; rw [if_neg h1]
    rw [e]; exact h
theorem rval_ref {H : Heap} {b : List UInt8} {z : Bool} {c p : Nat} (hH : hget H c = some (rst z b p 0 0)) (hb : b.length < 2 ^ 61) (hp : p ≤ b.length) :
    outF z b c H encV (run (C k_ratchetref08_reading_val [.ptr c 0, .bool false, .bool false]) H) (rRef b p) := by
  have h := rval_is (any := false) hH hb hp
  by_cases h1 : p < b.length
  · rw [if_pos h1, ← rRef_of h1] at h; exact h
  · rw [if_neg h1] at h
    have e : rRef b p = .err b.length 3 := by unfold rRef; rw [if_neg h1]
    rw [e]; exact h
def rMany (b : List UInt8) (most p : Nat) : Rs Nat :=
  match rU32 b p with
  | .ok n q => if most < n then .err p 2 else .ok n q
  | .err a w => .err a w
theorem rmany_is {H : Heap} {b : List UInt8} {z : Bool} {c p most : Nat} (hm : most < 2 ^ 32) (hH : hget H c = some (rst z b p 0 0)) (hb : b.length < 2 ^ 61) (hp : p ≤ b.length) :
    outF z b c H (fun n : Nat => .int .i64 n) (run (C k_ratchetref08_reading_many [.ptr c 0, .int .i64 most]) H) (rMany b most p) := by
  have hid := get_lt hH
  have hset := set_self hH
  have hH' : hget H c = some (.cells [BS z b, .int .i64 p, .int .i64 0, .int .i64 0]) := hH
  have hs' : Pi.hset H c (.cells [BS z b, .int .i64 p, .int .i64 0, .int .i64 0]) = H := hset
  rw [ratchetref08_reading_many_eq]
  unfold rMany
  cases hr : rU32 b p with
  | ok n q =>
    have hn := rU32_le hr
    have h1 := numberU_ok hH hb hp hr
    have hH2 : hget (Pi.hset H c (rst z b q 0 0)) c = some (rst z b q 0 0) := get_set hid
    have hH3 : hget (Pi.hset H c (rst z b q 0 0)) c = some (.cells [BS z b, .int .i64 q, .int .i64 0, .int .i64 0]) := hH2
    have f2 : run (C k_ratchetref08_reading_fail [.ptr c 0, .int .i64 p, .int .i64 2]) (Pi.hset H c (rst z b q 0 0)) = some (.ok (.tup []) (Pi.hset H c (rst z b q p 2))) := by
      have := rfail_is (a := p) (w := 2) hH2
      rwa [set_set] at this
    dsimp only
    by_cases h2 : most < n
    · have c1 : (most : Int) < n := by omega
      rw [if_pos h2]
      refine ⟨0, q, ?_, by omega⟩
      simp (contextual := true) (dsimp := false) (disch := omega) only [↓goDown, goUp, List.length_cons, List.length_nil, List.map_cons, List.map_nil, List.take_succ_cons, List.take_zero, List.drop_succ_cons, List.drop_zero, List.drop_nil, List.take_nil, List.cons_append, List.nil_append, List.append_nil, List.set_cons_zero, List.set_cons_succ, List.all_cons, List.all_nil, ↓reduceIte, reduceCtorEq, ge_iff_le, gt_iff_lt, eq_self_iff_true, beq_self_eq_true, beq_iff_eq, bne_iff_ne, ne_eq, ite_not, Int.reduceEq, Option.getD_some, Option.getD_none, ite_self, Nat.reduceAdd, Nat.reduceSub, Nat.reduceMul, Nat.reduceLeDiff, Nat.reduceEqDiff, Nat.reduceBEq, Nat.reduceBNe, Int.reduceLT, Int.reduceLE, Int.reduceAdd, Int.reduceSub, Int.reduceMul, Int.reduceNeg, Int.reduceNe, Int.reduceBEq, Int.reduceBNe, Int.reduceToNat, hH', hs', h1, hH3, c1, f2]
      rfl
    · have c1 : ¬ (most : Int) < n := by omega
      rw [if_neg h2]
      show _ = some _
      simp (contextual := true) (dsimp := false) (disch := omega) only [↓goDown, goUp, List.length_cons, List.length_nil, List.map_cons, List.map_nil, List.take_succ_cons, List.take_zero, List.drop_succ_cons, List.drop_zero, List.drop_nil, List.take_nil, List.cons_append, List.nil_append, List.append_nil, List.set_cons_zero, List.set_cons_succ, List.all_cons, List.all_nil, ↓reduceIte, reduceCtorEq, ge_iff_le, gt_iff_lt, eq_self_iff_true, beq_self_eq_true, beq_iff_eq, bne_iff_ne, ne_eq, ite_not, Int.reduceEq, Option.getD_some, Option.getD_none, ite_self, Nat.reduceAdd, Nat.reduceSub, Nat.reduceMul, Nat.reduceLeDiff, Nat.reduceEqDiff, Nat.reduceBEq, Nat.reduceBNe, Int.reduceLT, Int.reduceLE, Int.reduceAdd, Int.reduceSub, Int.reduceMul, Int.reduceNeg, Int.reduceNe, Int.reduceBEq, Int.reduceBNe, Int.reduceToNat, hH', hs', h1, hH3, c1]
  | err a w =>
    have h1 := numberU_err hH hb hp hr
    have hw : w ≠ 0 := rdU_err hr
    have c1 : ¬ (w : Int) = 0 := by omega
    have hH5 : hget (Pi.hset H c (rst z b p a w)) c = some (.cells [BS z b, .int .i64 p, .int .i64 a, .int .i64 w]) := get_set hid
    have e0 : IntKind.i64.wrap 0 = 0 := rfl
    refine ⟨0, p, ?_, hw⟩
    simp (contextual := true) (dsimp := false) (disch := omega) only [↓goDown, goUp, List.length_cons, List.length_nil, List.map_cons, List.map_nil, List.take_succ_cons, List.take_zero, List.drop_succ_cons, List.drop_zero, List.drop_nil, List.take_nil, List.cons_append, List.nil_append, List.append_nil, List.set_cons_zero, List.set_cons_succ, List.all_cons, List.all_nil, ↓reduceIte, reduceCtorEq, ge_iff_le, gt_iff_lt, eq_self_iff_true, beq_self_eq_true, beq_iff_eq, bne_iff_ne, ne_eq, ite_not, Int.reduceEq, Option.getD_some, Option.getD_none, ite_self, Nat.reduceAdd, Nat.reduceSub, Nat.reduceMul, Nat.reduceLeDiff, Nat.reduceEqDiff, Nat.reduceBEq, Nat.reduceBNe, Int.reduceLT, Int.reduceLE, Int.reduceAdd, Int.reduceSub, Int.reduceMul, Int.reduceNeg, Int.reduceNe, Int.reduceBEq, Int.reduceBNe, Int.reduceToNat, hH', hs', h1, hH5, c1, e0]
    rfl
theorem rvals_stop {H : Heap} {b : List UInt8} {z : Bool} {c q a w : Nat} {v2 : PV} {n i : Nat} {l : List VT} (hH : hget H c = some (rst z b q a w)) (hw : w ≠ 0) :
    run (p_ratchetref08_reading_vals_111010 (.ptr c 0) v2 (.int .i64 n) (encL l) (.int .i64 i)) H = some (.ok (encL l) H) := by
  have hH' : hget H c = some (.cells [BS z b, .int .i64 q, .int .i64 a, .int .i64 w]) := hH
  have c1 : ¬ (w : Int) = 0 := by omega
  rw [p_ratchetref08_reading_vals_111010_eq]
  simp (contextual := true) (dsimp := false) (disch := omega) only [↓goDown, goUp, List.length_cons, List.length_nil, List.map_cons, List.map_nil, List.take_succ_cons, List.take_zero, List.drop_succ_cons, List.drop_zero, List.drop_nil, List.take_nil, List.cons_append, List.nil_append, List.append_nil, List.set_cons_zero, List.set_cons_succ, List.all_cons, List.all_nil, ↓reduceIte, reduceCtorEq, ge_iff_le, gt_iff_lt, eq_self_iff_true, beq_self_eq_true, beq_iff_eq, bne_iff_ne, ne_eq, ite_not, Int.reduceEq, Option.getD_some, Option.getD_none, ite_self, Nat.reduceAdd, Nat.reduceSub, Nat.reduceMul, Nat.reduceLeDiff, Nat.reduceEqDiff, Nat.reduceBEq, Nat.reduceBNe, Int.reduceLT, Int.reduceLE, Int.reduceAdd, Int.reduceSub, Int.reduceMul, Int.reduceNeg, Int.reduceNe, Int.reduceBEq, Int.reduceBNe, Int.reduceToNat, hH', c1, isTup_L]
theorem rvals_loop {b : List UInt8} {z : Bool} (hb : b.length < 2 ^ 61) {c : Nat} {v2 : PV} : ∀ (m i n p : Nat) (acc : List VT) (H : Heap), hget H c = some (rst z b p 0 0) → p ≤ b.length → n = i + m → acc.length = i → n ≤ 1000000 →
    outF z b c H (fun l => encL (acc ++ l)) (run (p_ratchetref08_reading_vals_111010 (.ptr c 0) v2 (.int .i64 n) (encL acc) (.int .i64 i)) H) (rRep (rVal b) m p)
  | 0, i, n, p, acc, H, hH, hp, hn, ha, hm => by
    have hset := set_self hH
    have c1 : ¬ (i : Int) < n := by omega
    unfold rRep
    show _ = some (Out.ok (encL (acc ++ [])) (Pi.hset H c (rst z b p 0 0)))
    rw [hset, List.append_nil, p_ratchetref08_reading_vals_111010_eq]
    simp (contextual := true) (dsimp := false) (disch := omega) only [↓goDown, goUp, List.length_cons, List.length_nil, List.map_cons, List.map_nil, List.take_succ_cons, List.take_zero, List.drop_succ_cons, List.drop_zero, List.drop_nil, List.take_nil, List.cons_append, List.nil_append, List.append_nil, List.set_cons_zero, List.set_cons_succ, List.all_cons, List.all_nil, ↓reduceIte, reduceCtorEq, ge_iff_le, gt_iff_lt, eq_self_iff_true, beq_self_eq_true, beq_iff_eq, bne_iff_ne, ne_eq, ite_not, Int.reduceEq, Option.getD_some, Option.getD_none, ite_self, Nat.reduceAdd, Nat.reduceSub, Nat.reduceMul, Nat.reduceLeDiff, Nat.reduceEqDiff, Nat.reduceBEq, Nat.reduceBNe, Int.reduceLT, Int.reduceLE, Int.reduceAdd, Int.reduceSub, Int.reduceMul, Int.reduceNeg, Int.reduceNe, Int.reduceBEq, Int.reduceBNe, Int.reduceToNat, c1, isTup_L]
  | m + 1, i, n, p, acc, H, hH, hp, hn, ha, hm => by
    have hid := get_lt hH
    have hH' : hget H c = some (.cells [BS z b, .int .i64 p, .int .i64 0, .int .i64 0]) := hH
    have c1 : (i : Int) < n := by omega
    have h1 := rval_any hH hb hp
    unfold rRep
    rw [p_ratchetref08_reading_vals_111010_eq]
    have hbs : ∀ v K, run (bs true (some 3) [encV v]) K = some (.ok (.slice true false 3 [encV v]) K) := fun v K => bs_agg (H := K) (n := 3) (cs := [.int .i64 v.num, .bool v.nul, .int .i64 v.heap]) (by simp [flatL, PV.flat]) rfl
    have hap : ∀ v K, run (ap true 3 24 (encL acc) (.slice true false 3 [encV v])) K = some (.ok (encL (acc ++ [v])) K) := fun v K => by
      have := ap_acc (H := K) (sz := 3) (b := 24) (l := acc.map encV) (v := encV v) (o := true) (by simp [ha]; omega)
      have e1 : accP 3 (acc.map encV ++ [encV v]) = encL (acc ++ [v]) := by unfold encL; simp
      rw [e1] at this
      exact this
    have e2 : (i : Int) + 1 = ((i + 1 : Nat) : Int) := rfl
    cases hr : rVal b p with
    | ok v q =>
      rw [hr] at h1
      have h1 : run (C k_ratchetref08_reading_val [.ptr c 0, .bool true, .bool false]) H = some (.ok (encV v) (Pi.hset H c (rst z b q 0 0))) := h1
      have h2 := rvals_loop hb (v2 := v2) m (i + 1) n q (acc ++ [v]) (Pi.hset H c (rst z b q 0 0)) (get_set hid) (rVal_le hr) (by omega) (by simp [ha]) hm
      have hrun : ∀ r, r = run (p_ratchetref08_reading_vals_111010 (.ptr c 0) v2 (.int .i64 n) (encL (acc ++ [v])) (.int .i64 (i + 1 : Nat))) (Pi.hset H c (rst z b q 0 0)) → outF z b c H (fun l => encL (acc ++ l)) r (rsCons v (rRep (rVal b) m q)) := by
        intro r hr0
        rw [← hr0] at h2
        cases hrr : rRep (rVal b) m q with
        | ok l q2 =>
          rw [hrr] at h2
          simp only [outF, set_set] at h2
          simp only [rsCons, outF]
          rw [h2]
          simp
        | err a w =>
          rw [hrr] at h2
          obtain ⟨l, q2, h3, hw⟩ := h2
          rw [set_set] at h3
          refine ⟨v :: l, q2, ?_, hw⟩
          rw [h3]
          simp
      refine hrun _ ?_
      simp (contextual := true) (dsimp := false) (disch := omega) only [↓goDown, goUp, List.length_cons, List.length_nil, List.map_cons, List.map_nil, List.take_succ_cons, List.take_zero, List.drop_succ_cons, List.drop_zero, List.drop_nil, List.take_nil, List.cons_append, List.nil_append, List.append_nil, List.set_cons_zero, List.set_cons_succ, List.all_cons, List.all_nil, ↓reduceIte, reduceCtorEq, ge_iff_le, gt_iff_lt, eq_self_iff_true, beq_self_eq_true, beq_iff_eq, bne_iff_ne, ne_eq, ite_not, Int.reduceEq, Option.getD_some, Option.getD_none, ite_self, Nat.reduceAdd, Nat.reduceSub, Nat.reduceMul, Nat.reduceLeDiff, Nat.reduceEqDiff, Nat.reduceBEq, Nat.reduceBNe, Int.reduceLT, Int.reduceLE, Int.reduceAdd, Int.reduceSub, Int.reduceMul, Int.reduceNeg, Int.reduceNe, Int.reduceBEq, Int.reduceBNe, Int.reduceToNat, hH', c1, h1, hbs, hap, e2, strip_V, stripC_V, isTup_V]
    | err a w =>
      rw [hr] at h1
      obtain ⟨v, q, h1, hw⟩ := h1
      refine ⟨[v], q, ?_, hw⟩
      have hst := rvals_stop (H := Pi.hset H c (rst z b q a w)) (v2 := v2) (n := n) (i := i + 1) (l := acc ++ [v]) (get_set hid) hw
      simp (contextual := true) (dsimp := false) (disch := omega) only [↓goDown, goUp, List.length_cons, List.length_nil, List.map_cons, List.map_nil, List.take_succ_cons, List.take_zero, List.drop_succ_cons, List.drop_zero, List.drop_nil, List.take_nil, List.cons_append, List.nil_append, List.append_nil, List.set_cons_zero, List.set_cons_succ, List.all_cons, List.all_nil, ↓reduceIte, reduceCtorEq, ge_iff_le, gt_iff_lt, eq_self_iff_true, beq_self_eq_true, beq_iff_eq, bne_iff_ne, ne_eq, ite_not, Int.reduceEq, Option.getD_some, Option.getD_none, ite_self, Nat.reduceAdd, Nat.reduceSub, Nat.reduceMul, Nat.reduceLeDiff, Nat.reduceEqDiff, Nat.reduceBEq, Nat.reduceBNe, Int.reduceLT, Int.reduceLE, Int.reduceAdd, Int.reduceSub, Int.reduceMul, Int.reduceNeg, Int.reduceNe, Int.reduceBEq, Int.reduceBNe, Int.reduceToNat, hH', c1, h1, hbs, hap, e2, hst, strip_V, stripC_V, isTup_V]
theorem rvals_is {H : Heap} {b : List UInt8} {z : Bool} {c p : Nat} (hH : hget H c = some (rst z b p 0 0)) (hb : b.length < 2 ^ 61) (hp : p ≤ b.length) :
    outF z b c H encL (run (C k_ratchetref08_reading_vals [.ptr c 0]) H) (rVals b p) := by
  have hid := get_lt hH
  have h1 := rmany_is (most := 1000) (by omega) hH hb hp
  rw [ratchetref08_reading_vals_eq]
  unfold rVals rList
  unfold rMany at h1
  have nil : encL [] = .slice false true 0 [] := rfl
  cases hr : rU32 b p with
  | ok n q =>
    have hn := rU32_le hr
    rw [hr] at h1
    dsimp only at h1 ⊢
    by_cases h2 : 1000 < n
    · rw [if_pos h2] at h1 ⊢
      obtain ⟨v, q2, h1, hw⟩ := h1
      have h1 : run (C k_ratchetref08_reading_many [.ptr c 0, .int .i64 1000]) H = some (.ok (.int .i64 v) (Pi.hset H c (rst z b q2 p 2))) := h1
      have hst := fun v2 => rvals_stop (H := Pi.hset H c (rst z b q2 p 2)) (v2 := v2) (n := v) (i := 0) (l := []) (get_set hid) hw
      rw [nil] at hst
      refine ⟨[], q2, ?_, hw⟩
      have hst : ∀ v2, run (p_ratchetref08_reading_vals_111010 (.ptr c 0) v2 (.int .i64 v) (.slice false true 0 []) (.int .i64 0)) (Pi.hset H c (rst z b q2 p 2)) = some (.ok (.slice false true 0 []) (Pi.hset H c (rst z b q2 p 2))) := hst
      simp (contextual := true) (dsimp := false) (disch := omega) only [↓goDown, goUp, List.length_cons, List.length_nil, List.map_cons, List.map_nil, List.take_succ_cons, List.take_zero, List.drop_succ_cons, List.drop_zero, List.drop_nil, List.take_nil, List.cons_append, List.nil_append, List.append_nil, List.set_cons_zero, List.set_cons_succ, List.all_cons, List.all_nil, ↓reduceIte, reduceCtorEq, ge_iff_le, gt_iff_lt, eq_self_iff_true, beq_self_eq_true, beq_iff_eq, bne_iff_ne, ne_eq, ite_not, Int.reduceEq, Option.getD_some, Option.getD_none, ite_self, Nat.reduceAdd, Nat.reduceSub, Nat.reduceMul, Nat.reduceLeDiff, Nat.reduceEqDiff, Nat.reduceBEq, Nat.reduceBNe, Int.reduceLT, Int.reduceLE, Int.reduceAdd, Int.reduceSub, Int.reduceMul, Int.reduceNeg, Int.reduceNe, Int.reduceBEq, Int.reduceBNe, Int.reduceToNat, h1, hst, nil]
    · rw [if_neg h2] at h1 ⊢
      have h1 : run (C k_ratchetref08_reading_many [.ptr c 0, .int .i64 1000]) H = some (.ok (.int .i64 n) (Pi.hset H c (rst z b q 0 0))) := h1
      have h3 := rvals_loop hb (v2 := .slice false true 0 []) n 0 n q [] (Pi.hset H c (rst z b q 0 0)) (get_set hid) hn.1 (by omega) rfl (by omega)
      rw [nil] at h3
      have hrun : ∀ r, r = truncR H (run (p_ratchetref08_reading_vals_111010 (.ptr c 0) (.slice false true 0 []) (.int .i64 n) (.slice false true 0 []) (.int .i64 0)) (Pi.hset H c (rst z b q 0 0))) → outF z b c H encL r (rRep (rVal b) n q) := by
        intro r hr0
        subst hr0
        have h3 : outF z b c (Pi.hset H c (rst z b q 0 0)) encL (run (p_ratchetref08_reading_vals_111010 (.ptr c 0) (.slice false true 0 []) (.int .i64 n) (.slice false true 0 []) (.int .i64 0)) (Pi.hset H c (rst z b q 0 0))) (rRep (rVal b) n q) := h3
        cases hrr : rRep (rVal b) n q with
        | ok l q2 =>
          rw [hrr] at h3
          simp only [outF, set_set] at h3 ⊢
          rw [h3, truncR_ok, low_L, if_pos rfl, cut1]
        | err a w =>
          rw [hrr] at h3
          obtain ⟨l, q2, h3, hw⟩ := h3
          rw [set_set] at h3
          refine ⟨l, q2, ?_, hw⟩
          rw [h3, truncR_ok, low_L, if_pos rfl, cut1]
      refine hrun _ ?_
      simp (contextual := true) (dsimp := false) (disch := omega) only [↓goDown, goUp, List.length_cons, List.length_nil, List.map_cons, List.map_nil, List.take_succ_cons, List.take_zero, List.drop_succ_cons, List.drop_zero, List.drop_nil, List.take_nil, List.cons_append, List.nil_append, List.append_nil, List.set_cons_zero, List.set_cons_succ, List.all_cons, List.all_nil, ↓reduceIte, reduceCtorEq, ge_iff_le, gt_iff_lt, eq_self_iff_true, beq_self_eq_true, beq_iff_eq, bne_iff_ne, ne_eq, ite_not, Int.reduceEq, Option.getD_some, Option.getD_none, ite_self, Nat.reduceAdd, Nat.reduceSub, Nat.reduceMul, Nat.reduceLeDiff, Nat.reduceEqDiff, Nat.reduceBEq, Nat.reduceBNe, Int.reduceLT, Int.reduceLE, Int.reduceAdd, Int.reduceSub, Int.reduceMul, Int.reduceNeg, Int.reduceNe, Int.reduceBEq, Int.reduceBNe, Int.reduceToNat, h1]
  | err a w =>
    rw [hr] at h1
    obtain ⟨v, q2, h1, hw⟩ := h1
    have h1 : run (C k_ratchetref08_reading_many [.ptr c 0, .int .i64 1000]) H = some (.ok (.int .i64 v) (Pi.hset H c (rst z b q2 a w))) := h1
    have hst : ∀ v2, run (p_ratchetref08_reading_vals_111010 (.ptr c 0) v2 (.int .i64 v) (.slice false true 0 []) (.int .i64 0)) (Pi.hset H c (rst z b q2 a w)) = some (.ok (.slice false true 0 []) (Pi.hset H c (rst z b q2 a w))) := fun v2 => rvals_stop (H := Pi.hset H c (rst z b q2 a w)) (v2 := v2) (n := v) (i := 0) (l := []) (get_set hid) hw
    refine ⟨[], q2, ?_, hw⟩
    simp (contextual := true) (dsimp := false) (disch := omega) only [↓goDown, goUp, List.length_cons, List.length_nil, List.map_cons, List.map_nil, List.take_succ_cons, List.take_zero, List.drop_succ_cons, List.drop_zero, List.drop_nil, List.take_nil, List.cons_append, List.nil_append, List.append_nil, List.set_cons_zero, List.set_cons_succ, List.all_cons, List.all_nil, ↓reduceIte, reduceCtorEq, ge_iff_le, gt_iff_lt, eq_self_iff_true, beq_self_eq_true, beq_iff_eq, bne_iff_ne, ne_eq, ite_not, Int.reduceEq, Option.getD_some, Option.getD_none, ite_self, Nat.reduceAdd, Nat.reduceSub, Nat.reduceMul, Nat.reduceLeDiff, Nat.reduceEqDiff, Nat.reduceBEq, Nat.reduceBNe, Int.reduceLT, Int.reduceLE, Int.reduceAdd, Int.reduceSub, Int.reduceMul, Int.reduceNeg, Int.reduceNe, Int.reduceBEq, Int.reduceBNe, Int.reduceToNat, h1, hst, nil]
theorem rblock_is {H : Heap} {b : List UInt8} {z : Bool} {c p : Nat} (hH : hget H c = some (rst z b p 0 0)) (hb : b.length < 2 ^ 61) (hp : p ≤ b.length) :
    outF z b c H encB (run (C k_ratchetref08_reading_block [.ptr c 0]) H) (rBlock b p) := by
  have hid := get_lt hH
  have hset := set_self hH
  have hH1 : ∀ L, hget (hadd H L) c = some (rst z b p 0 0) := fun L => by rw [get_old hid]; exact hH
  have hH' : hget H c = some (.cells [BS z b, .int .i64 p, .int .i64 0, .int .i64 0]) := hH
  have hs' : Pi.hset H c (.cells [BS z b, .int .i64 p, .int .i64 0, .int .i64 0]) = H := hset
  have so : ∀ u a w L, Pi.hset (hadd H L) c (rst z b u a w) = hadd (Pi.hset H c (rst z b u a w)) L := fun u a w L => by rw [set_old hid]
  have so1 : ∀ u a w u' a' w' L, Pi.hset (hadd (Pi.hset H c (rst z b u' a' w')) L) c (rst z b u a w) = hadd (Pi.hset H c (rst z b u a w)) L := fun u a w u' a' w' L => by rw [set_old1 hid, set_set]
  rw [ratchetref08_reading_block_eq]
  unfold rBlock
  -- a number
  have tail : outF z b c H encB (truncR H (run (M.bind (C k_ratchetref08_reading_number [.ptr c 0, .int .i64 33, .bool true]) fun t42_30 =>
      M.bind (cv (.int .i64) true t42_30) fun t43_31 =>
      M.bind (nc P (.ptr c 0)) fun t45_32 =>
      M.bind (fa 3 t45_32) fun t46_33 =>
      M.bind (ld none false t46_33) fun t47_34 =>
      M.bind (bi .eql .none t47_34 (.int .i64 0)) fun t48_35 =>
      M.bind (gd (strip t48_35) true (M.pure (strip t43_31))) fun t50_36 =>
      M.bind (gd (strip t48_35) true (bi .lss .none t50_36 (.int .i64 0))) fun t51_37 =>
      M.bind (pick (strip t48_35) t51_37 (.bool false)) fun t52_38 =>
      condM t52_38
      (M.bind (C k_ratchetref08_reading_fail [.ptr c 0, .int .i64 p, .int .i64 4]) fun t55_39 =>
      p_ratchetref08_reading_block_1111111 (.ptr c 0) (.ptr H.length 0) (.int .i64 p) t43_31)
      (p_ratchetref08_reading_block_1111111 (.ptr c 0) (.ptr H.length 0) (.int .i64 p) t43_31)) (hadd H [.cells [.int .i64 0, .int .i64 0, .bool false, .int .i64 0]])))
      (match rS33 b p with | .ok v q => .ok ⟨v, ⟨0, false, 0⟩⟩ q | .err a w => .err a w) := by
    unfold rS33
    cases hr : rdS b 33 b.length p with
    | ok n q =>
      have hn := rdS_lt hr
      have h1 := fun L => numberS_ok (hH1 L) hb hp hr
      simp only [so] at h1
      have hw : IntKind.i64.wrap (IntKind.u64.wrap n) = n := by rw [wi, wu]; omega
      have hH2 : ∀ L, hget (hadd (Pi.hset H c (rst z b q 0 0)) L) c = some (rst z b q 0 0) := fun L => by rw [get_old1 hid, get_set hid]
      have hH3 : hget (Pi.hset H c (rst z b q 0 0)) c = some (.cells [BS z b, .int .i64 q, .int .i64 0, .int .i64 0]) := get_set hid
      have f : ∀ L w, run (C k_ratchetref08_reading_fail [.ptr c 0, .int .i64 p, .int .i64 (w : Nat)]) (hadd (Pi.hset H c (rst z b q 0 0)) L) = some (.ok (.tup []) (hadd (Pi.hset H c (rst z b q p w)) L)) := fun L w => by
        have := rfail_is (a := p) (w := w) (hH2 L)
        rwa [so1] at this
      have f4 : ∀ L, run (C k_ratchetref08_reading_fail [.ptr c 0, .int .i64 p, .int .i64 4]) (hadd (Pi.hset H c (rst z b q 0 0)) L) = some (.ok (.tup []) (hadd (Pi.hset H c (rst z b q p 4)) L)) := fun L => f L 4
      have f2 : ∀ L, run (C k_ratchetref08_reading_fail [.ptr c 0, .int .i64 p, .int .i64 2]) (hadd (Pi.hset H c (rst z b q 0 0)) L) = some (.ok (.tup []) (hadd (Pi.hset H c (rst z b q p 2)) L)) := fun L => f L 2
      have g4 : hget (Pi.hset H c (rst z b q p 4)) c = some (.cells [BS z b, .int .i64 q, .int .i64 p, .int .i64 4]) := get_set hid
      have g2 : hget (Pi.hset H c (rst z b q p 2)) c = some (.cells [BS z b, .int .i64 q, .int .i64 p, .int .i64 2]) := get_set hid
      dsimp only
      by_cases n1 : n < 0
      · rw [if_pos n1]
        refine ⟨⟨n, ⟨0, false, 0⟩⟩, q, ?_, by omega⟩
        simp (contextual := true) (dsimp := false) (disch := omega) only [↓goDown, goUp, List.length_cons, List.length_nil, List.map_cons, List.map_nil, List.take_succ_cons, List.take_zero, List.drop_succ_cons, List.drop_zero, List.drop_nil, List.take_nil, List.cons_append, List.nil_append, List.append_nil, List.set_cons_zero, List.set_cons_succ, List.all_cons, List.all_nil, ↓reduceIte, reduceCtorEq, ge_iff_le, gt_iff_lt, eq_self_iff_true, beq_self_eq_true, beq_iff_eq, bne_iff_ne, ne_eq, ite_not, Int.reduceEq, Option.getD_some, Option.getD_none, ite_self, Nat.reduceAdd, Nat.reduceSub, Nat.reduceMul, Nat.reduceLeDiff, Nat.reduceEqDiff, Nat.reduceBEq, Nat.reduceBNe, Int.reduceLT, Int.reduceLE, Int.reduceAdd, Int.reduceSub, Int.reduceMul, Int.reduceNeg, Int.reduceNe, Int.reduceBEq, Int.reduceBNe, Int.reduceToNat, h1, hw, hH3, n1, f4, g4, p_ratchetref08_reading_block_1111111_eq, p_ratchetref08_reading_block_11111111_eq]
        rfl
      · rw [if_neg n1]
        by_cases n2 : 2147483647 < n
        · rw [if_pos n2]
          have n3 : (2147483648 : Int) ≤ n := by omega
          refine ⟨⟨n, ⟨0, false, 0⟩⟩, q, ?_, by omega⟩
          simp (contextual := true) (dsimp := false) (disch := omega) only [↓goDown, goUp, List.length_cons, List.length_nil, List.map_cons, List.map_nil, List.take_succ_cons, List.take_zero, List.drop_succ_cons, List.drop_zero, List.drop_nil, List.take_nil, List.cons_append, List.nil_append, List.append_nil, List.set_cons_zero, List.set_cons_succ, List.all_cons, List.all_nil, ↓reduceIte, reduceCtorEq, ge_iff_le, gt_iff_lt, eq_self_iff_true, beq_self_eq_true, beq_iff_eq, bne_iff_ne, ne_eq, ite_not, Int.reduceEq, Option.getD_some, Option.getD_none, ite_self, Nat.reduceAdd, Nat.reduceSub, Nat.reduceMul, Nat.reduceLeDiff, Nat.reduceEqDiff, Nat.reduceBEq, Nat.reduceBNe, Int.reduceLT, Int.reduceLE, Int.reduceAdd, Int.reduceSub, Int.reduceMul, Int.reduceNeg, Int.reduceNe, Int.reduceBEq, Int.reduceBNe, Int.reduceToNat, h1, hw, hH3, n1, n3, f2, g2, p_ratchetref08_reading_block_1111111_eq, p_ratchetref08_reading_block_11111111_eq]
          rfl
        · rw [if_neg n2]
          have n3 : ¬ (2147483648 : Int) ≤ n := by omega
          show _ = some _
          simp (contextual := true) (dsimp := false) (disch := omega) only [↓goDown, goUp, List.length_cons, List.length_nil, List.map_cons, List.map_nil, List.take_succ_cons, List.take_zero, List.drop_succ_cons, List.drop_zero, List.drop_nil, List.take_nil, List.cons_append, List.nil_append, List.append_nil, List.set_cons_zero, List.set_cons_succ, List.all_cons, List.all_nil, ↓reduceIte, reduceCtorEq, ge_iff_le, gt_iff_lt, eq_self_iff_true, beq_self_eq_true, beq_iff_eq, bne_iff_ne, ne_eq, ite_not, Int.reduceEq, Option.getD_some, Option.getD_none, ite_self, Nat.reduceAdd, Nat.reduceSub, Nat.reduceMul, Nat.reduceLeDiff, Nat.reduceEqDiff, Nat.reduceBEq, Nat.reduceBNe, Int.reduceLT, Int.reduceLE, Int.reduceAdd, Int.reduceSub, Int.reduceMul, Int.reduceNeg, Int.reduceNe, Int.reduceBEq, Int.reduceBNe, Int.reduceToNat, h1, hw, hH3, n1, n3, p_ratchetref08_reading_block_1111111_eq, p_ratchetref08_reading_block_11111111_eq]
          rfl
    | err a w =>
      have h1 := fun L => numberS_err (hH1 L) hb hp hr
      simp only [so] at h1
      have hw := rdS_err hr
      have c1 : ¬ (w : Int) = 0 := by omega
      have hH5 : hget (Pi.hset H c (rst z b p a w)) c = some (.cells [BS z b, .int .i64 p, .int .i64 a, .int .i64 w]) := get_set hid
      have e0 : IntKind.i64.wrap 0 = 0 := rfl
      refine ⟨⟨0, ⟨0, false, 0⟩⟩, p, ?_, hw⟩
      simp (contextual := true) (dsimp := false) (disch := omega) only [↓goDown, goUp, List.length_cons, List.length_nil, List.map_cons, List.map_nil, List.take_succ_cons, List.take_zero, List.drop_succ_cons, List.drop_zero, List.drop_nil, List.take_nil, List.cons_append, List.nil_append, List.append_nil, List.set_cons_zero, List.set_cons_succ, List.all_cons, List.all_nil, ↓reduceIte, reduceCtorEq, ge_iff_le, gt_iff_lt, eq_self_iff_true, beq_self_eq_true, beq_iff_eq, bne_iff_ne, ne_eq, ite_not, Int.reduceEq, Option.getD_some, Option.getD_none, ite_self, Nat.reduceAdd, Nat.reduceSub, Nat.reduceMul, Nat.reduceLeDiff, Nat.reduceEqDiff, Nat.reduceBEq, Nat.reduceBNe, Int.reduceLT, Int.reduceLE, Int.reduceAdd, Int.reduceSub, Int.reduceMul, Int.reduceNeg, Int.reduceNe, Int.reduceBEq, Int.reduceBNe, Int.reduceToNat, h1, hH5, c1, e0, p_ratchetref08_reading_block_1111111_eq, p_ratchetref08_reading_block_11111111_eq]
      rfl
  by_cases h1 : p < b.length
  · have hl := fun L => peek_ok (hH1 L) hb h1
    have hc := byt_lt (b.getD p 0)
    rw [if_pos h1]
    generalize (b.getD p 0).toNat = x at hl hc ⊢
    by_cases h2 : x = 64
    · rw [if_pos h2]
      have c1 : ((x : Int) = 64) = True := eq_true (by omega)
      show _ = some _
      simp (contextual := true) (dsimp := false) (disch := omega) only [↓goDown, goUp, List.length_cons, List.length_nil, List.map_cons, List.map_nil, List.take_succ_cons, List.take_zero, List.drop_succ_cons, List.drop_zero, List.drop_nil, List.take_nil, List.cons_append, List.nil_append, List.append_nil, List.set_cons_zero, List.set_cons_succ, List.all_cons, List.all_nil, ↓reduceIte, reduceCtorEq, ge_iff_le, gt_iff_lt, eq_self_iff_true, beq_self_eq_true, beq_iff_eq, bne_iff_ne, ne_eq, ite_not, Int.reduceEq, Option.getD_some, Option.getD_none, ite_self, Nat.reduceAdd, Nat.reduceSub, Nat.reduceMul, Nat.reduceLeDiff, Nat.reduceEqDiff, Nat.reduceBEq, Nat.reduceBNe, Int.reduceLT, Int.reduceLE, Int.reduceAdd, Int.reduceSub, Int.reduceMul, Int.reduceNeg, Int.reduceNe, Int.reduceBEq, Int.reduceBNe, Int.reduceToNat, hl, c1, hH']
      rfl
    · rw [if_neg h2]
      have c1 : ((x : Int) = 64) = False := eq_false (by omega)
      by_cases h3 : 64 < x ∧ x < 128
      · rw [if_pos h3]
        have c2 : (64 : Int) < x := by omega
        have c3 : (x : Int) < 128 := by omega
        have hk := rval_any (hH1 [.cells [.int .i64 0, .int .i64 0, .bool false, .int .i64 0]]) hb hp
        cases hr : rVal b p with
        | ok v q =>
          rw [hr] at hk
          simp only [outF, so] at hk
          show _ = some _
          simp (contextual := true) (dsimp := false) (disch := omega) only [↓goDown, goUp, List.length_cons, List.length_nil, List.map_cons, List.map_nil, List.take_succ_cons, List.take_zero, List.drop_succ_cons, List.drop_zero, List.drop_nil, List.take_nil, List.cons_append, List.nil_append, List.append_nil, List.set_cons_zero, List.set_cons_succ, List.all_cons, List.all_nil, ↓reduceIte, reduceCtorEq, ge_iff_le, gt_iff_lt, eq_self_iff_true, beq_self_eq_true, beq_iff_eq, bne_iff_ne, ne_eq, ite_not, Int.reduceEq, Option.getD_some, Option.getD_none, ite_self, Nat.reduceAdd, Nat.reduceSub, Nat.reduceMul, Nat.reduceLeDiff, Nat.reduceEqDiff, Nat.reduceBEq, Nat.reduceBNe, Int.reduceLT, Int.reduceLE, Int.reduceAdd, Int.reduceSub, Int.reduceMul, Int.reduceNeg, Int.reduceNe, Int.reduceBEq, Int.reduceBNe, Int.reduceToNat, hl, c1, c2, c3, hk, strip_V, stripC_V, isTup_V, cells_V, low_V]
          rfl
        | err a w =>
          rw [hr] at hk
          obtain ⟨v, q, hk, hw⟩ := hk
          simp only [so] at hk
          refine ⟨⟨-1, v⟩, q, ?_, hw⟩
          simp (contextual := true) (dsimp := false) (disch := omega) only [↓goDown, goUp, List.length_cons, List.length_nil, List.map_cons, List.map_nil, List.take_succ_cons, List.take_zero, List.drop_succ_cons, List.drop_zero, List.drop_nil, List.take_nil, List.cons_append, List.nil_append, List.append_nil, List.set_cons_zero, List.set_cons_succ, List.all_cons, List.all_nil, ↓reduceIte, reduceCtorEq, ge_iff_le, gt_iff_lt, eq_self_iff_true, beq_self_eq_true, beq_iff_eq, bne_iff_ne, ne_eq, ite_not, Int.reduceEq, Option.getD_some, Option.getD_none, ite_self, Nat.reduceAdd, Nat.reduceSub, Nat.reduceMul, Nat.reduceLeDiff, Nat.reduceEqDiff, Nat.reduceBEq, Nat.reduceBNe, Int.reduceLT, Int.reduceLE, Int.reduceAdd, Int.reduceSub, Int.reduceMul, Int.reduceNeg, Int.reduceNe, Int.reduceBEq, Int.reduceBNe, Int.reduceToNat, hl, c1, c2, c3, hk, strip_V, stripC_V, isTup_V, cells_V, low_V]
          rfl
      · rw [if_neg h3]
        refine Eq.mp (congrArg (fun r => outF z b c H encB r _) ?_) tail
        symm
        by_cases h4 : (64 : Int) < x
        · have h5 : ¬ (x : Int) < 128 := by omega
          simp (contextual := true) (dsimp := false) (disch := omega) only [↓goDown, goUp, List.length_cons, List.length_nil, List.map_cons, List.map_nil, List.take_succ_cons, List.take_zero, List.drop_succ_cons, List.drop_zero, List.drop_nil, List.take_nil, List.cons_append, List.nil_append, List.append_nil, List.set_cons_zero, List.set_cons_succ, List.all_cons, List.all_nil, ↓reduceIte, reduceCtorEq, ge_iff_le, gt_iff_lt, eq_self_iff_true, beq_self_eq_true, beq_iff_eq, bne_iff_ne, ne_eq, ite_not, Int.reduceEq, Option.getD_some, Option.getD_none, ite_self, Nat.reduceAdd, Nat.reduceSub, Nat.reduceMul, Nat.reduceLeDiff, Nat.reduceEqDiff, Nat.reduceBEq, Nat.reduceBNe, Int.reduceLT, Int.reduceLE, Int.reduceAdd, Int.reduceSub, Int.reduceMul, Int.reduceNeg, Int.reduceNe, Int.reduceBEq, Int.reduceBNe, Int.reduceToNat, hl, c1, h4, h5, hH', hs']
        · simp (contextual := true) (dsimp := false) (disch := omega) only [↓goDown, goUp, List.length_cons, List.length_nil, List.map_cons, List.map_nil, List.take_succ_cons, List.take_zero, List.drop_succ_cons, List.drop_zero, List.drop_nil, List.take_nil, List.cons_append, List.nil_append, List.append_nil, List.set_cons_zero, List.set_cons_succ, List.all_cons, List.all_nil, ↓reduceIte, reduceCtorEq, ge_iff_le, gt_iff_lt, eq_self_iff_true, beq_self_eq_true, beq_iff_eq, bne_iff_ne, ne_eq, ite_not, Int.reduceEq, Option.getD_some, Option.getD_none, ite_self, Nat.reduceAdd, Nat.reduceSub, Nat.reduceMul, Nat.reduceLeDiff, Nat.reduceEqDiff, Nat.reduceBEq, Nat.reduceBNe, Int.reduceLT, Int.reduceLE, Int.reduceAdd, Int.reduceSub, Int.reduceMul, Int.reduceNeg, Int.reduceNe, Int.reduceBEq, Int.reduceBNe, Int.reduceToNat, hl, c1, h4, hH', hs']
  · have hl := fun L => peek_no (hH1 L) h1
    have e3 : rS33 b p = .err b.length 3 := by
      have hpe : p = b.length := by omega
      subst hpe
      unfold rS33 rdS lebS
      rw [if_neg (by omega)]
    rw [if_neg h1]
    rw [e3] at tail
    refine Eq.mp (congrArg (fun r => outF z b c H encB r _) ?_) tail
    symm
    simp (contextual := true) (dsimp := false) (disch := omega) only [↓goDown, goUp, List.length_cons, List.length_nil, List.map_cons, List.map_nil, List.take_succ_cons, List.take_zero, List.drop_succ_cons, List.drop_zero, List.drop_nil, List.take_nil, List.cons_append, List.nil_append, List.append_nil, List.set_cons_zero, List.set_cons_succ, List.all_cons, List.all_nil, ↓reduceIte, reduceCtorEq, ge_iff_le, gt_iff_lt, eq_self_iff_true, beq_self_eq_true, beq_iff_eq, bne_iff_ne, ne_eq, ite_not, Int.reduceEq, Option.getD_some, Option.getD_none, ite_self, Nat.reduceAdd, Nat.reduceSub, Nat.reduceMul, Nat.reduceLeDiff, Nat.reduceEqDiff, Nat.reduceBEq, Nat.reduceBNe, Int.reduceLT, Int.reduceLE, Int.reduceAdd, Int.reduceSub, Int.reduceMul, Int.reduceNeg, Int.reduceNe, Int.reduceBEq, Int.reduceBNe, Int.reduceToNat, hl, hH', hs']
/-! ### At a place -/
def rstI (z : Bool) (b : List UInt8) (at_ : Int) : Box := .cells [BS z b, .int .i64 at_, .int .i64 0, .int .i64 0]
theorem begin_is {H : Heap} {b : List UInt8} {z : Bool} {at_ : Int} :
    run (C k_ratchetref08_begin [BS z b, .int .i64 at_]) H = some (.ok (.tup [.ptr H.length 0, .bool (decide (¬ (at_ < 0 ∨ b.length < at_)))]) (hadd H [rstI z b at_])) := by
  rw [ratchetref08_begin_eq]
  by_cases h1 : 0 ≤ at_
  · by_cases h2 : at_ ≤ b.length
    · have e : decide (¬ (at_ < 0 ∨ (b.length : Int) < at_)) = true := by simp; omega
      rw [e]
      simp (contextual := true) (dsimp := false) (disch := omega) only [↓goDown, goUp, List.length_cons, List.length_nil, List.map_cons, List.map_nil, List.take_succ_cons, List.take_zero, List.drop_succ_cons, List.drop_zero, List.drop_nil, List.take_nil, List.cons_append, List.nil_append, List.append_nil, List.set_cons_zero, List.set_cons_succ, List.all_cons, List.all_nil, ↓reduceIte, reduceCtorEq, ge_iff_le, gt_iff_lt, eq_self_iff_true, beq_self_eq_true, beq_iff_eq, bne_iff_ne, ne_eq, ite_not, Int.reduceEq, Option.getD_some, Option.getD_none, ite_self, Nat.reduceAdd, Nat.reduceSub, Nat.reduceMul, Nat.reduceLeDiff, Nat.reduceEqDiff, Nat.reduceBEq, Nat.reduceBNe, Int.reduceLT, Int.reduceLE, Int.reduceAdd, Int.reduceSub, Int.reduceMul, Int.reduceNeg, Int.reduceNe, Int.reduceBEq, Int.reduceBNe, Int.reduceToNat, h1, h2, List.length_map]
      rfl
    · have e : decide (¬ (at_ < 0 ∨ (b.length : Int) < at_)) = false := by simp; omega
      rw [e]
      simp (contextual := true) (dsimp := false) (disch := omega) only [↓goDown, goUp, List.length_cons, List.length_nil, List.map_cons, List.map_nil, List.take_succ_cons, List.take_zero, List.drop_succ_cons, List.drop_zero, List.drop_nil, List.take_nil, List.cons_append, List.nil_append, List.append_nil, List.set_cons_zero, List.set_cons_succ, List.all_cons, List.all_nil, ↓reduceIte, reduceCtorEq, ge_iff_le, gt_iff_lt, eq_self_iff_true, beq_self_eq_true, beq_iff_eq, bne_iff_ne, ne_eq, ite_not, Int.reduceEq, Option.getD_some, Option.getD_none, ite_self, Nat.reduceAdd, Nat.reduceSub, Nat.reduceMul, Nat.reduceLeDiff, Nat.reduceEqDiff, Nat.reduceBEq, Nat.reduceBNe, Int.reduceLT, Int.reduceLE, Int.reduceAdd, Int.reduceSub, Int.reduceMul, Int.reduceNeg, Int.reduceNe, Int.reduceBEq, Int.reduceBNe, Int.reduceToNat, h1, h2, List.length_map]
      rfl
  · have e : decide (¬ (at_ < 0 ∨ (b.length : Int) < at_)) = false := by simp; omega
    rw [e]
    simp (contextual := true) (dsimp := false) (disch := omega) only [↓goDown, goUp, List.length_cons, List.length_nil, List.map_cons, List.map_nil, List.take_succ_cons, List.take_zero, List.drop_succ_cons, List.drop_zero, List.drop_nil, List.take_nil, List.cons_append, List.nil_append, List.append_nil, List.set_cons_zero, List.set_cons_succ, List.all_cons, List.all_nil, ↓reduceIte, reduceCtorEq, ge_iff_le, gt_iff_lt, eq_self_iff_true, beq_self_eq_true, beq_iff_eq, bne_iff_ne, ne_eq, ite_not, Int.reduceEq, Option.getD_some, Option.getD_none, ite_self, Nat.reduceAdd, Nat.reduceSub, Nat.reduceMul, Nat.reduceLeDiff, Nat.reduceEqDiff, Nat.reduceBEq, Nat.reduceBNe, Int.reduceLT, Int.reduceLE, Int.reduceAdd, Int.reduceSub, Int.reduceMul, Int.reduceNeg, Int.reduceNe, Int.reduceBEq, Int.reduceBNe, Int.reduceToNat, h1, List.length_map]
    rfl
theorem end_ok {H : Heap} {b : List UInt8} {z : Bool} {c p : Nat} (hH : hget H c = some (rst z b p 0 0)) : run (C k_ratchetref08_reading_end [.ptr c 0]) H = some (.ok (.tup [.int .i64 p, .int .i64 0]) H) := by
  have hset := set_self hH
  have hH' : hget H c = some (.cells [BS z b, .int .i64 p, .int .i64 0, .int .i64 0]) := hH
  have hs' : Pi.hset H c (.cells [BS z b, .int .i64 p, .int .i64 0, .int .i64 0]) = H := hset
  rw [ratchetref08_reading_end_eq]
  simp (contextual := true) (dsimp := false) (disch := omega) only [↓goDown, goUp, List.length_cons, List.length_nil, List.map_cons, List.map_nil, List.take_succ_cons, List.take_zero, List.drop_succ_cons, List.drop_zero, List.drop_nil, List.take_nil, List.cons_append, List.nil_append, List.append_nil, List.set_cons_zero, List.set_cons_succ, List.all_cons, List.all_nil, ↓reduceIte, reduceCtorEq, ge_iff_le, gt_iff_lt, eq_self_iff_true, beq_self_eq_true, beq_iff_eq, bne_iff_ne, ne_eq, ite_not, Int.reduceEq, Option.getD_some, Option.getD_none, ite_self, Nat.reduceAdd, Nat.reduceSub, Nat.reduceMul, Nat.reduceLeDiff, Nat.reduceEqDiff, Nat.reduceBEq, Nat.reduceBNe, Int.reduceLT, Int.reduceLE, Int.reduceAdd, Int.reduceSub, Int.reduceMul, Int.reduceNeg, Int.reduceNe, Int.reduceBEq, Int.reduceBNe, Int.reduceToNat, hH', hs']
theorem end_err {H : Heap} {b : List UInt8} {z : Bool} {c p a w : Nat} (hH : hget H c = some (rst z b p a w)) (hw : w ≠ 0) : run (C k_ratchetref08_reading_end [.ptr c 0]) H = some (.ok (.tup [.int .i64 a, .int .i64 w]) H) := by
  have hset := set_self hH
  have hH' : hget H c = some (.cells [BS z b, .int .i64 p, .int .i64 a, .int .i64 w]) := hH
  have hs' : Pi.hset H c (.cells [BS z b, .int .i64 p, .int .i64 a, .int .i64 w]) = H := hset
  have c1 : ¬ (w : Int) = 0 := by omega
  rw [ratchetref08_reading_end_eq]
  simp (contextual := true) (dsimp := false) (disch := omega) only [↓goDown, goUp, List.length_cons, List.length_nil, List.map_cons, List.map_nil, List.take_succ_cons, List.take_zero, List.drop_succ_cons, List.drop_zero, List.drop_nil, List.take_nil, List.cons_append, List.nil_append, List.append_nil, List.set_cons_zero, List.set_cons_succ, List.all_cons, List.all_nil, ↓reduceIte, reduceCtorEq, ge_iff_le, gt_iff_lt, eq_self_iff_true, beq_self_eq_true, beq_iff_eq, bne_iff_ne, ne_eq, ite_not, Int.reduceEq, Option.getD_some, Option.getD_none, ite_self, Nat.reduceAdd, Nat.reduceSub, Nat.reduceMul, Nat.reduceLeDiff, Nat.reduceEqDiff, Nat.reduceBEq, Nat.reduceBNe, Int.reduceLT, Int.reduceLE, Int.reduceAdd, Int.reduceSub, Int.reduceMul, Int.reduceNeg, Int.reduceNe, Int.reduceBEq, Int.reduceBNe, Int.reduceToNat, hH', hs', c1]
theorem ref_HeapType {H : Heap} {b : List UInt8} {z : Bool} (hb : b.length < 2 ^ 61) {at_ : Int} :
    run (C k_ratchetref08_HeapType [BS z b, .int .i64 at_]) H = some (.ok (atPl at_ b (.int .i64 0) (outR (fun x : Int => .int .i64 x) (.int .i64 0) (rHeap b at_.toNat))) H) := by
  rw [ratchetref08_HeapType_eq]
  unfold atPl
  by_cases h1 : at_ < 0 ∨ (b.length : Int) < at_
  · have e : decide (¬ (at_ < 0 ∨ (b.length : Int) < at_)) = false := decide_eq_false (fun h => h h1)
    have hbg := begin_is (H := H) (z := z) (b := b) (at_ := at_)
    rw [e] at hbg
    rw [if_pos h1]
    simp (contextual := true) (dsimp := false) (disch := omega) only [↓goDown, goUp, List.length_cons, List.length_nil, List.map_cons, List.map_nil, List.take_succ_cons, List.take_zero, List.drop_succ_cons, List.drop_zero, List.drop_nil, List.take_nil, List.cons_append, List.nil_append, List.append_nil, List.set_cons_zero, List.set_cons_succ, List.all_cons, List.all_nil, ↓reduceIte, reduceCtorEq, ge_iff_le, gt_iff_lt, eq_self_iff_true, beq_self_eq_true, beq_iff_eq, bne_iff_ne, ne_eq, ite_not, Int.reduceEq, Option.getD_some, Option.getD_none, ite_self, Nat.reduceAdd, Nat.reduceSub, Nat.reduceMul, Nat.reduceLeDiff, Nat.reduceEqDiff, Nat.reduceBEq, Nat.reduceBNe, Int.reduceLT, Int.reduceLE, Int.reduceAdd, Int.reduceSub, Int.reduceMul, Int.reduceNeg, Int.reduceNe, Int.reduceBEq, Int.reduceBNe, Int.reduceToNat, hbg, un_not]
  · have e : decide (¬ (at_ < 0 ∨ (b.length : Int) < at_)) = true := decide_eq_true h1
    have hbg := begin_is (H := H) (z := z) (b := b) (at_ := at_)
    rw [e] at hbg
    rw [if_neg h1]
    obtain ⟨p, rfl⟩ := Int.eq_ofNat_of_zero_le (show 0 ≤ at_ by omega)
    rw [Int.toNat_natCast]
    have hbg : run (C k_ratchetref08_begin [BS z b, .int .i64 p]) H = some (.ok (.tup [.ptr H.length 0, .bool true]) (hadd H [rst z b p 0 0])) := hbg
    have hk := rheap_is (H := hadd H [rst z b p 0 0]) (c := H.length) (z := z) (b := b) (p := p) (by rw [get_loc0]; rfl) hb (by omega)
    cases hr : rHeap b p with
    | ok v q =>
      rw [hr] at hk
      have hk : run (C k_ratchetref08_reading_heap [.ptr H.length 0]) (hadd H [rst z b p 0 0]) = some (.ok (.int .i64 v) (hadd H [rst z b q 0 0])) := by
        refine hk.trans ?_
        rw [set_loc0]; rfl
      have he := end_ok (H := hadd H [rst z b q 0 0]) (c := H.length) (z := z) (b := b) (p := q) (by rw [get_loc0]; rfl)
      simp (contextual := true) (dsimp := false) (disch := omega) only [↓goDown, goUp, List.length_cons, List.length_nil, List.map_cons, List.map_nil, List.take_succ_cons, List.take_zero, List.drop_succ_cons, List.drop_zero, List.drop_nil, List.take_nil, List.cons_append, List.nil_append, List.append_nil, List.set_cons_zero, List.set_cons_succ, List.all_cons, List.all_nil, ↓reduceIte, reduceCtorEq, ge_iff_le, gt_iff_lt, eq_self_iff_true, beq_self_eq_true, beq_iff_eq, bne_iff_ne, ne_eq, ite_not, Int.reduceEq, Option.getD_some, Option.getD_none, ite_self, Nat.reduceAdd, Nat.reduceSub, Nat.reduceMul, Nat.reduceLeDiff, Nat.reduceEqDiff, Nat.reduceBEq, Nat.reduceBNe, Int.reduceLT, Int.reduceLE, Int.reduceAdd, Int.reduceSub, Int.reduceMul, Int.reduceNeg, Int.reduceNe, Int.reduceBEq, Int.reduceBNe, Int.reduceToNat, hbg, un_not, hk, he, outR]
    | err a w =>
      rw [hr] at hk
      obtain ⟨v, q, hk, hw⟩ := hk
      have hk : run (C k_ratchetref08_reading_heap [.ptr H.length 0]) (hadd H [rst z b p 0 0]) = some (.ok (.int .i64 v) (hadd H [rst z b q a w])) := by
        refine hk.trans ?_
        rw [set_loc0]; rfl
      have he := end_err (H := hadd H [rst z b q a w]) (c := H.length) (z := z) (b := b) (p := q) (by rw [get_loc0]; rfl) hw
      have c1 : ¬ (w : Int) = 0 := by omega
      simp (contextual := true) (dsimp := false) (disch := omega) only [↓goDown, goUp, List.length_cons, List.length_nil, List.map_cons, List.map_nil, List.take_succ_cons, List.take_zero, List.drop_succ_cons, List.drop_zero, List.drop_nil, List.take_nil, List.cons_append, List.nil_append, List.append_nil, List.set_cons_zero, List.set_cons_succ, List.all_cons, List.all_nil, ↓reduceIte, reduceCtorEq, ge_iff_le, gt_iff_lt, eq_self_iff_true, beq_self_eq_true, beq_iff_eq, bne_iff_ne, ne_eq, ite_not, Int.reduceEq, Option.getD_some, Option.getD_none, ite_self, Nat.reduceAdd, Nat.reduceSub, Nat.reduceMul, Nat.reduceLeDiff, Nat.reduceEqDiff, Nat.reduceBEq, Nat.reduceBNe, Int.reduceLT, Int.reduceLE, Int.reduceAdd, Int.reduceSub, Int.reduceMul, Int.reduceNeg, Int.reduceNe, Int.reduceBEq, Int.reduceBNe, Int.reduceToNat, hbg, un_not, hk, he, outR, c1]
end Go.Proofs.Ytofbbijagbpicaa.Pi.Q
/- Readings at a place, of the program and of the reference: they come to the same. -/
namespace Go.Proofs.Ytofbbijagbpicaa.Pi.Q
open Go Go.Proofs.Ytofbbijagbpicaa.Pi
set_option linter.unusedVariables false
set_option linter.unusedSimpArgs false
set_option maxRecDepth 100000
attribute [local congr] ite_congr
theorem ref_ValTypes {H : Heap} {b : List UInt8} {z : Bool} (hb : b.length < 2 ^ 61) {at_ : Int} :
    run (C k_ratchetref08_ValTypes [BS z b, .int .i64 at_]) H = some (.ok (atPl at_ b (.slice false true 0 []) (outR encL (.slice false true 0 []) (rVals b at_.toNat))) H) := by
  rw [ratchetref08_ValTypes_eq]
  unfold atPl
  by_cases h1 : at_ < 0 ∨ (b.length : Int) < at_
  · have e : decide (¬ (at_ < 0 ∨ (b.length : Int) < at_)) = false := decide_eq_false (fun h => h h1)
    have hbg := begin_is (H := H) (z := z) (b := b) (at_ := at_)
    rw [e] at hbg
    rw [if_pos h1]
    simp (contextual := true) (dsimp := false) (disch := omega) only [↓goDown, goUp, List.length_cons, List.length_nil, List.map_cons, List.map_nil, List.take_succ_cons, List.take_zero, List.drop_succ_cons, List.drop_zero, List.drop_nil, List.take_nil, List.cons_append, List.nil_append, List.append_nil, List.set_cons_zero, List.set_cons_succ, List.all_cons, List.all_nil, ↓reduceIte, reduceCtorEq, ge_iff_le, gt_iff_lt, eq_self_iff_true, beq_self_eq_true, beq_iff_eq, bne_iff_ne, ne_eq, ite_not, Int.reduceEq, Option.getD_some, Option.getD_none, ite_self, Nat.reduceAdd, Nat.reduceSub, Nat.reduceMul, Nat.reduceLeDiff, Nat.reduceEqDiff, Nat.reduceBEq, Nat.reduceBNe, Int.reduceLT, Int.reduceLE, Int.reduceAdd, Int.reduceSub, Int.reduceMul, Int.reduceNeg, Int.reduceNe, Int.reduceBEq, Int.reduceBNe, Int.reduceToNat, hbg, un_not]
  · have e : decide (¬ (at_ < 0 ∨ (b.length : Int) < at_)) = true := decide_eq_true h1
    have hbg := begin_is (H := H) (z := z) (b := b) (at_ := at_)
    rw [e] at hbg
    rw [if_neg h1]
    obtain ⟨p, rfl⟩ := Int.eq_ofNat_of_zero_le (show 0 ≤ at_ by omega)
    rw [Int.toNat_natCast]
    have hbg : run (C k_ratchetref08_begin [BS z b, .int .i64 p]) H = some (.ok (.tup [.ptr H.length 0, .bool true]) (hadd H [rst z b p 0 0])) := hbg
    have hk := rvals_is (H := hadd H [rst z b p 0 0]) (c := H.length) (z := z) (b := b) (p := p) (by rw [get_loc0]; rfl) hb (by omega)
    cases hr : rVals b p with
    | ok v q =>
      rw [hr] at hk
      have hk : run (C k_ratchetref08_reading_vals [.ptr H.length 0]) (hadd H [rst z b p 0 0]) = some (.ok (encL v) (hadd H [rst z b q 0 0])) := by
        refine hk.trans ?_
        rw [set_loc0]; rfl
      have he := end_ok (H := hadd H [rst z b q 0 0]) (c := H.length) (z := z) (b := b) (p := q) (by rw [get_loc0]; rfl)
      simp (contextual := true) (dsimp := false) (disch := omega) only [↓goDown, goUp, List.length_cons, List.length_nil, List.map_cons, List.map_nil, List.take_succ_cons, List.take_zero, List.drop_succ_cons, List.drop_zero, List.drop_nil, List.take_nil, List.cons_append, List.nil_append, List.append_nil, List.set_cons_zero, List.set_cons_succ, List.all_cons, List.all_nil, ↓reduceIte, reduceCtorEq, ge_iff_le, gt_iff_lt, eq_self_iff_true, beq_self_eq_true, beq_iff_eq, bne_iff_ne, ne_eq, ite_not, Int.reduceEq, Option.getD_some, Option.getD_none, ite_self, Nat.reduceAdd, Nat.reduceSub, Nat.reduceMul, Nat.reduceLeDiff, Nat.reduceEqDiff, Nat.reduceBEq, Nat.reduceBNe, Int.reduceLT, Int.reduceLE, Int.reduceAdd, Int.reduceSub, Int.reduceMul, Int.reduceNeg, Int.reduceNe, Int.reduceBEq, Int.reduceBNe, Int.reduceToNat, hbg, un_not, hk, he, outR, isTup_L, low_L]
    | err a w =>
      rw [hr] at hk
      obtain ⟨v, q, hk, hw⟩ := hk
      have hk : run (C k_ratchetref08_reading_vals [.ptr H.length 0]) (hadd H [rst z b p 0 0]) = some (.ok (encL v) (hadd H [rst z b q a w])) := by
        refine hk.trans ?_
        rw [set_loc0]; rfl
      have he := end_err (H := hadd H [rst z b q a w]) (c := H.length) (z := z) (b := b) (p := q) (by rw [get_loc0]; rfl) hw
      have c1 : ¬ (w : Int) = 0 := by omega
      simp (contextual := true) (dsimp := false) (disch := omega) only [↓goDown, goUp, List.length_cons, List.length_nil, List.map_cons, List.map_nil, List.take_succ_cons, List.take_zero, List.drop_succ_cons, List.drop_zero, List.drop_nil, List.take_nil, List.cons_append, List.nil_append, List.append_nil, List.set_cons_zero, List.set_cons_succ, List.all_cons, List.all_nil, ↓reduceIte, reduceCtorEq, ge_iff_le, gt_iff_lt, eq_self_iff_true, beq_self_eq_true, beq_iff_eq, bne_iff_ne, ne_eq, ite_not, Int.reduceEq, Option.getD_some, Option.getD_none, ite_self, Nat.reduceAdd, Nat.reduceSub, Nat.reduceMul, Nat.reduceLeDiff, Nat.reduceEqDiff, Nat.reduceBEq, Nat.reduceBNe, Int.reduceLT, Int.reduceLE, Int.reduceAdd, Int.reduceSub, Int.reduceMul, Int.reduceNeg, Int.reduceNe, Int.reduceBEq, Int.reduceBNe, Int.reduceToNat, hbg, un_not, hk, he, outR, c1]
/-- Behind the beginning, with a box ahead. -/
theorem ref_BlockType {H : Heap} {b : List UInt8} {z : Bool} (hb : b.length < 2 ^ 61) {at_ : Int} :
    run (C k_ratchetref08_BlockType [BS z b, .int .i64 at_]) H = some (.ok (atPl at_ b (encB ⟨0, ⟨0, false, 0⟩⟩) (outR encB (encB ⟨0, ⟨0, false, 0⟩⟩) (rBlock b at_.toNat))) H) := by
  rw [ratchetref08_BlockType_eq]
  unfold atPl
  have hbg := begin_is (H := hadd H [.cells [.int .i64 0, .int .i64 0, .bool false, .int .i64 0]]) (z := z) (b := b) (at_ := at_)
  simp only [len_add, add_add, List.length_cons, List.length_nil, List.cons_append, List.nil_append, Nat.zero_add] at hbg
  by_cases h1 : at_ < 0 ∨ (b.length : Int) < at_
  · have e : decide (¬ (at_ < 0 ∨ (b.length : Int) < at_)) = false := decide_eq_false (fun h => h h1)
    rw [e] at hbg
    rw [if_pos h1]
    simp (contextual := true) (dsimp := false) (disch := omega) only [↓goDown, goUp, List.length_cons, List.length_nil, List.map_cons, List.map_nil, List.take_succ_cons, List.take_zero, List.drop_succ_cons, List.drop_zero, List.drop_nil, List.take_nil, List.cons_append, List.nil_append, List.append_nil, List.set_cons_zero, List.set_cons_succ, List.all_cons, List.all_nil, ↓reduceIte, reduceCtorEq, ge_iff_le, gt_iff_lt, eq_self_iff_true, beq_self_eq_true, beq_iff_eq, bne_iff_ne, ne_eq, ite_not, Int.reduceEq, Option.getD_some, Option.getD_none, ite_self, Nat.reduceAdd, Nat.reduceSub, Nat.reduceMul, Nat.reduceLeDiff, Nat.reduceEqDiff, Nat.reduceBEq, Nat.reduceBNe, Int.reduceLT, Int.reduceLE, Int.reduceAdd, Int.reduceSub, Int.reduceMul, Int.reduceNeg, Int.reduceNe, Int.reduceBEq, Int.reduceBNe, Int.reduceToNat, hbg, un_not]
    rfl
  · have e : decide (¬ (at_ < 0 ∨ (b.length : Int) < at_)) = true := decide_eq_true h1
    rw [e] at hbg
    rw [if_neg h1]
    obtain ⟨p, rfl⟩ := Int.eq_ofNat_of_zero_le (show 0 ≤ at_ by omega)
    rw [Int.toNat_natCast]
    have hk := rblock_is (H := hadd H [.cells [.int .i64 0, .int .i64 0, .bool false, .int .i64 0], rst z b p 0 0]) (c := H.length + 1) (z := z) (b := b) (p := p) (by rw [get_loc]; rfl) hb (by omega)
    have hst : ∀ q a w, Pi.hset (hadd H [.cells [.int .i64 0, .int .i64 0, .bool false, .int .i64 0], rst z b p 0 0]) (H.length + 1) (rst z b q a w) = hadd H [.cells [.int .i64 0, .int .i64 0, .bool false, .int .i64 0], rst z b q a w] := fun q a w => by rw [set_loc]; rfl
    have hrI : rstI z b (p : Int) = rst z b p 0 0 := rfl
    rw [hrI] at hbg
    cases hr : rBlock b p with
    | ok v q =>
      rw [hr] at hk
      simp only [outF, hst] at hk
      have he := fun x => end_ok (H := hadd H [.cells [.int .i64 0, .int .i64 0, .bool false, .int .i64 0], rst z b q 0 0, x]) (c := H.length + 1) (z := z) (b := b) (p := q) (by rw [get_loc]; rfl)
      simp (contextual := true) (dsimp := false) (disch := omega) only [↓goDown, goUp, List.length_cons, List.length_nil, List.map_cons, List.map_nil, List.take_succ_cons, List.take_zero, List.drop_succ_cons, List.drop_zero, List.drop_nil, List.take_nil, List.cons_append, List.nil_append, List.append_nil, List.set_cons_zero, List.set_cons_succ, List.all_cons, List.all_nil, ↓reduceIte, reduceCtorEq, ge_iff_le, gt_iff_lt, eq_self_iff_true, beq_self_eq_true, beq_iff_eq, bne_iff_ne, ne_eq, ite_not, Int.reduceEq, Option.getD_some, Option.getD_none, ite_self, Nat.reduceAdd, Nat.reduceSub, Nat.reduceMul, Nat.reduceLeDiff, Nat.reduceEqDiff, Nat.reduceBEq, Nat.reduceBNe, Int.reduceLT, Int.reduceLE, Int.reduceAdd, Int.reduceSub, Int.reduceMul, Int.reduceNeg, Int.reduceNe, Int.reduceBEq, Int.reduceBNe, Int.reduceToNat, hbg, un_not, hk, he, outR, encB]
    | err a w =>
      rw [hr] at hk
      obtain ⟨v, q, hk, hw⟩ := hk
      rw [hst] at hk
      have he := fun x => end_err (H := hadd H [.cells [.int .i64 0, .int .i64 0, .bool false, .int .i64 0], rst z b q a w, x]) (c := H.length + 1) (z := z) (b := b) (p := q) (by rw [get_loc]; rfl) hw
      have c1 : ¬ (w : Int) = 0 := by omega
      simp (contextual := true) (dsimp := false) (disch := omega) only [↓goDown, goUp, List.length_cons, List.length_nil, List.map_cons, List.map_nil, List.take_succ_cons, List.take_zero, List.drop_succ_cons, List.drop_zero, List.drop_nil, List.take_nil, List.cons_append, List.nil_append, List.append_nil, List.set_cons_zero, List.set_cons_succ, List.all_cons, List.all_nil, ↓reduceIte, reduceCtorEq, ge_iff_le, gt_iff_lt, eq_self_iff_true, beq_self_eq_true, beq_iff_eq, bne_iff_ne, ne_eq, ite_not, Int.reduceEq, Option.getD_some, Option.getD_none, ite_self, Nat.reduceAdd, Nat.reduceSub, Nat.reduceMul, Nat.reduceLeDiff, Nat.reduceEqDiff, Nat.reduceBEq, Nat.reduceBNe, Int.reduceLT, Int.reduceLE, Int.reduceAdd, Int.reduceSub, Int.reduceMul, Int.reduceNeg, Int.reduceNe, Int.reduceBEq, Int.reduceBNe, Int.reduceToNat, hbg, un_not, hk, he, outR, encB, c1]
theorem ref_valAt {H : Heap} {b : List UInt8} {z any : Bool} (hb : b.length < 2 ^ 61) {at_ : Int} :
    run (C k_ratchetref08_valAt [BS z b, .int .i64 at_, .bool any]) H = some (.ok (atPl at_ b (encV ⟨0, false, 0⟩) (outR encV (encV ⟨0, false, 0⟩) (if any then rVal b at_.toNat else rRef b at_.toNat))) H) := by
  rw [ratchetref08_valAt_eq]
  unfold atPl
  have hbg := begin_is (H := hadd H [.cells [.int .i64 0, .bool false, .int .i64 0]]) (z := z) (b := b) (at_ := at_)
  simp only [len_add, add_add, List.length_cons, List.length_nil, List.cons_append, List.nil_append, Nat.zero_add] at hbg
  by_cases h1 : at_ < 0 ∨ (b.length : Int) < at_
  · have e : decide (¬ (at_ < 0 ∨ (b.length : Int) < at_)) = false := decide_eq_false (fun h => h h1)
    rw [e] at hbg
    rw [if_pos h1]
    simp (contextual := true) (dsimp := false) (disch := omega) only [↓goDown, goUp, List.length_cons, List.length_nil, List.map_cons, List.map_nil, List.take_succ_cons, List.take_zero, List.drop_succ_cons, List.drop_zero, List.drop_nil, List.take_nil, List.cons_append, List.nil_append, List.append_nil, List.set_cons_zero, List.set_cons_succ, List.all_cons, List.all_nil, ↓reduceIte, reduceCtorEq, ge_iff_le, gt_iff_lt, eq_self_iff_true, beq_self_eq_true, beq_iff_eq, bne_iff_ne, ne_eq, ite_not, Int.reduceEq, Option.getD_some, Option.getD_none, ite_self, Nat.reduceAdd, Nat.reduceSub, Nat.reduceMul, Nat.reduceLeDiff, Nat.reduceEqDiff, Nat.reduceBEq, Nat.reduceBNe, Int.reduceLT, Int.reduceLE, Int.reduceAdd, Int.reduceSub, Int.reduceMul, Int.reduceNeg, Int.reduceNe, Int.reduceBEq, Int.reduceBNe, Int.reduceToNat, hbg, un_not]
    rfl
  · have e : decide (¬ (at_ < 0 ∨ (b.length : Int) < at_)) = true := decide_eq_true h1
    rw [e] at hbg
    rw [if_neg h1]
    obtain ⟨p, rfl⟩ := Int.eq_ofNat_of_zero_le (show 0 ≤ at_ by omega)
    rw [Int.toNat_natCast]
    have hk : outF z b (H.length + 1) (hadd H [.cells [.int .i64 0, .bool false, .int .i64 0], rst z b p 0 0]) encV (run (C k_ratchetref08_reading_val [.ptr (H.length + 1) 0, .bool any, .bool false]) (hadd H [.cells [.int .i64 0, .bool false, .int .i64 0], rst z b p 0 0])) (if any then rVal b p else rRef b p) := by
      cases any
      · exact rval_ref (by rw [get_loc]; rfl) hb (by omega)
      · exact rval_any (by rw [get_loc]; rfl) hb (by omega)
    have hst : ∀ q a w, Pi.hset (hadd H [.cells [.int .i64 0, .bool false, .int .i64 0], rst z b p 0 0]) (H.length + 1) (rst z b q a w) = hadd H [.cells [.int .i64 0, .bool false, .int .i64 0], rst z b q a w] := fun q a w => by rw [set_loc]; rfl
    have hrI : rstI z b (p : Int) = rst z b p 0 0 := rfl
    rw [hrI] at hbg
    cases hr : (if any then rVal b p else rRef b p) with
    | ok v q =>
      rw [hr] at hk
      simp only [outF, hst] at hk
      have he := fun x => end_ok (H := hadd H [.cells [.int .i64 0, .bool false, .int .i64 0], rst z b q 0 0, x]) (c := H.length + 1) (z := z) (b := b) (p := q) (by rw [get_loc]; rfl)
      simp (contextual := true) (dsimp := false) (disch := omega) only [↓goDown, goUp, List.length_cons, List.length_nil, List.map_cons, List.map_nil, List.take_succ_cons, List.take_zero, List.drop_succ_cons, List.drop_zero, List.drop_nil, List.take_nil, List.cons_append, List.nil_append, List.append_nil, List.set_cons_zero, List.set_cons_succ, List.all_cons, List.all_nil, ↓reduceIte, reduceCtorEq, ge_iff_le, gt_iff_lt, eq_self_iff_true, beq_self_eq_true, beq_iff_eq, bne_iff_ne, ne_eq, ite_not, Int.reduceEq, Option.getD_some, Option.getD_none, ite_self, Nat.reduceAdd, Nat.reduceSub, Nat.reduceMul, Nat.reduceLeDiff, Nat.reduceEqDiff, Nat.reduceBEq, Nat.reduceBNe, Int.reduceLT, Int.reduceLE, Int.reduceAdd, Int.reduceSub, Int.reduceMul, Int.reduceNeg, Int.reduceNe, Int.reduceBEq, Int.reduceBNe, Int.reduceToNat, hbg, un_not, hk, he, outR, encV]
    | err a w =>
      rw [hr] at hk
      obtain ⟨v, q, hk, hw⟩ := hk
      rw [hst] at hk
      have he := fun x => end_err (H := hadd H [.cells [.int .i64 0, .bool false, .int .i64 0], rst z b q a w, x]) (c := H.length + 1) (z := z) (b := b) (p := q) (by rw [get_loc]; rfl) hw
      have c1 : ¬ (w : Int) = 0 := by omega
      simp (contextual := true) (dsimp := false) (disch := omega) only [↓goDown, goUp, List.length_cons, List.length_nil, List.map_cons, List.map_nil, List.take_succ_cons, List.take_zero, List.drop_succ_cons, List.drop_zero, List.drop_nil, List.take_nil, List.cons_append, List.nil_append, List.append_nil, List.set_cons_zero, List.set_cons_succ, List.all_cons, List.all_nil, ↓reduceIte, reduceCtorEq, ge_iff_le, gt_iff_lt, eq_self_iff_true, beq_self_eq_true, beq_iff_eq, bne_iff_ne, ne_eq, ite_not, Int.reduceEq, Option.getD_some, Option.getD_none, ite_self, Nat.reduceAdd, Nat.reduceSub, Nat.reduceMul, Nat.reduceLeDiff, Nat.reduceEqDiff, Nat.reduceBEq, Nat.reduceBNe, Int.reduceLT, Int.reduceLE, Int.reduceAdd, Int.reduceSub, Int.reduceMul, Int.reduceNeg, Int.reduceNe, Int.reduceBEq, Int.reduceBNe, Int.reduceToNat, hbg, un_not, hk, he, outR, encV, c1]
/-- A tuple handed on, its struct through a box. -/
theorem atPl_cases {at_ : Int} {b : List UInt8} {α : Type} {enc : α → PV} {zero : PV} {r : Rs α} (P : PV → Prop) (h1 : P (.tup [zero, .int .i64 0, .int .i64 1])) (h2 : ∀ v p, r = .ok v p → P (.tup [enc v, .int .i64 (p : Nat), .int .i64 0])) (h3 : ∀ a w, r = .err a w → P (.tup [zero, .int .i64 (a : Nat), .int .i64 (w : Nat)])) : P (atPl at_ b zero (outR enc zero r)) := by
  unfold atPl
  split
  · exact h1
  · cases hr : r with
    | ok v p => exact h2 v p hr
    | err a w => exact h3 a w hr
theorem ref_ValType {H : Heap} {b : List UInt8} {z : Bool} (hb : b.length < 2 ^ 61) {at_ : Int} :
    run (C k_ratchetref08_ValType [BS z b, .int .i64 at_]) H = some (.ok (atPl at_ b (encV ⟨0, false, 0⟩) (outR encV (encV ⟨0, false, 0⟩) (rVal b at_.toNat))) H) := by
  have h := fun L => ref_valAt (H := hadd H L) (z := z) (any := true) hb (at_ := at_)
  simp only [if_true] at h
  rw [ratchetref08_ValType_eq]
  revert h
  refine atPl_cases (fun t => (∀ L, run (C k_ratchetref08_valAt [BS z b, .int .i64 at_, .bool true]) (hadd H L) = some (.ok t (hadd H L))) → _ = some (Out.ok t H)) ?_ ?_ ?_ <;> intros <;> rename_i h <;> unfold encV at h ⊢ <;>
    simp (contextual := true) (dsimp := false) (disch := omega) only [↓goDown, goUp, List.length_cons, List.length_nil, List.map_cons, List.map_nil, List.take_succ_cons, List.take_zero, List.drop_succ_cons, List.drop_zero, List.drop_nil, List.take_nil, List.cons_append, List.nil_append, List.append_nil, List.set_cons_zero, List.set_cons_succ, List.all_cons, List.all_nil, ↓reduceIte, reduceCtorEq, ge_iff_le, gt_iff_lt, eq_self_iff_true, beq_self_eq_true, beq_iff_eq, bne_iff_ne, ne_eq, ite_not, Int.reduceEq, Option.getD_some, Option.getD_none, ite_self, Nat.reduceAdd, Nat.reduceSub, Nat.reduceMul, Nat.reduceLeDiff, Nat.reduceEqDiff, Nat.reduceBEq, Nat.reduceBNe, Int.reduceLT, Int.reduceLE, Int.reduceAdd, Int.reduceSub, Int.reduceMul, Int.reduceNeg, Int.reduceNe, Int.reduceBEq, Int.reduceBNe, Int.reduceToNat, h]
theorem ref_RefType {H : Heap} {b : List UInt8} {z : Bool} (hb : b.length < 2 ^ 61) {at_ : Int} :
    run (C k_ratchetref08_RefType [BS z b, .int .i64 at_]) H = some (.ok (atPl at_ b (encV ⟨0, false, 0⟩) (outR encV (encV ⟨0, false, 0⟩) (rRef b at_.toNat))) H) := by
  have h := fun L => ref_valAt (H := hadd H L) (z := z) (any := false) hb (at_ := at_)
  simp only [Bool.false_eq_true, if_false] at h
  rw [ratchetref08_RefType_eq]
  revert h
  refine atPl_cases (fun t => (∀ L, run (C k_ratchetref08_valAt [BS z b, .int .i64 at_, .bool false]) (hadd H L) = some (.ok t (hadd H L))) → _ = some (Out.ok t H)) ?_ ?_ ?_ <;> intros <;> rename_i h <;> unfold encV at h ⊢ <;>
    simp (contextual := true) (dsimp := false) (disch := omega) only [↓goDown, goUp, List.length_cons, List.length_nil, List.map_cons, List.map_nil, List.take_succ_cons, List.take_zero, List.drop_succ_cons, List.drop_zero, List.drop_nil, List.take_nil, List.cons_append, List.nil_append, List.append_nil, List.set_cons_zero, List.set_cons_succ, List.all_cons, List.all_nil, ↓reduceIte, reduceCtorEq, ge_iff_le, gt_iff_lt, eq_self_iff_true, beq_self_eq_true, beq_iff_eq, bne_iff_ne, ne_eq, ite_not, Int.reduceEq, Option.getD_some, Option.getD_none, ite_self, Nat.reduceAdd, Nat.reduceSub, Nat.reduceMul, Nat.reduceLeDiff, Nat.reduceEqDiff, Nat.reduceBEq, Nat.reduceBNe, Int.reduceLT, Int.reduceLE, Int.reduceAdd, Int.reduceSub, Int.reduceMul, Int.reduceNeg, Int.reduceNe, Int.reduceBEq, Int.reduceBNe, Int.reduceToNat, h]
theorem own_ValType {H : Heap} {b : List UInt8} {z : Bool} (hb : b.length < 2 ^ 61) {at_ : Int} :
    run (C k_entry_ValType [BS z b, .int .i64 at_]) H = some (.ok (atPl at_ b (encV ⟨0, false, 0⟩) (outR encV (encV ⟨0, false, 0⟩) (rVal b at_.toNat))) H) := by
  have h := fun L => read_V_is (z := z) hb (one := .fn k_entry_cursor_val [] []) (r := rVal b) (fun H c p hH hp => val_is hH hb hp) (H := hadd H L) (at_ := at_)
  rw [entry_ValType_eq]
  revert h
  refine atPl_cases (fun t => (∀ L, run (C k_entry_read_api_ValType [BS z b, .int .i64 at_, .fn k_entry_cursor_val [] []]) (hadd H L) = some (.ok t (hadd H L))) → _ = some (Out.ok t H)) ?_ ?_ ?_ <;> intros <;> rename_i h <;> unfold encV at h ⊢ <;>
    simp (contextual := true) (dsimp := false) (disch := omega) only [↓goDown, goUp, List.length_cons, List.length_nil, List.map_cons, List.map_nil, List.take_succ_cons, List.take_zero, List.drop_succ_cons, List.drop_zero, List.drop_nil, List.take_nil, List.cons_append, List.nil_append, List.append_nil, List.set_cons_zero, List.set_cons_succ, List.all_cons, List.all_nil, ↓reduceIte, reduceCtorEq, ge_iff_le, gt_iff_lt, eq_self_iff_true, beq_self_eq_true, beq_iff_eq, bne_iff_ne, ne_eq, ite_not, Int.reduceEq, Option.getD_some, Option.getD_none, ite_self, Nat.reduceAdd, Nat.reduceSub, Nat.reduceMul, Nat.reduceLeDiff, Nat.reduceEqDiff, Nat.reduceBEq, Nat.reduceBNe, Int.reduceLT, Int.reduceLE, Int.reduceAdd, Int.reduceSub, Int.reduceMul, Int.reduceNeg, Int.reduceNe, Int.reduceBEq, Int.reduceBNe, Int.reduceToNat, h]
theorem own_RefType {H : Heap} {b : List UInt8} {z : Bool} (hb : b.length < 2 ^ 61) {at_ : Int} :
    run (C k_entry_RefType [BS z b, .int .i64 at_]) H = some (.ok (atPl at_ b (encV ⟨0, false, 0⟩) (outR encV (encV ⟨0, false, 0⟩) (rRef b at_.toNat))) H) := by
  have h := fun L => read_V_is (z := z) hb (one := .fn k_entry_cursor_ref [] []) (r := rRef b) (fun H c p hH hp => ref_is hH hb hp) (H := hadd H L) (at_ := at_)
  rw [entry_RefType_eq]
  revert h
  refine atPl_cases (fun t => (∀ L, run (C k_entry_read_api_ValType [BS z b, .int .i64 at_, .fn k_entry_cursor_ref [] []]) (hadd H L) = some (.ok t (hadd H L))) → _ = some (Out.ok t H)) ?_ ?_ ?_ <;> intros <;> rename_i h <;> unfold encV at h ⊢ <;>
    simp (contextual := true) (dsimp := false) (disch := omega) only [↓goDown, goUp, List.length_cons, List.length_nil, List.map_cons, List.map_nil, List.take_succ_cons, List.take_zero, List.drop_succ_cons, List.drop_zero, List.drop_nil, List.take_nil, List.cons_append, List.nil_append, List.append_nil, List.set_cons_zero, List.set_cons_succ, List.all_cons, List.all_nil, ↓reduceIte, reduceCtorEq, ge_iff_le, gt_iff_lt, eq_self_iff_true, beq_self_eq_true, beq_iff_eq, bne_iff_ne, ne_eq, ite_not, Int.reduceEq, Option.getD_some, Option.getD_none, ite_self, Nat.reduceAdd, Nat.reduceSub, Nat.reduceMul, Nat.reduceLeDiff, Nat.reduceEqDiff, Nat.reduceBEq, Nat.reduceBNe, Int.reduceLT, Int.reduceLE, Int.reduceAdd, Int.reduceSub, Int.reduceMul, Int.reduceNeg, Int.reduceNe, Int.reduceBEq, Int.reduceBNe, Int.reduceToNat, h]
theorem own_BlockType {H : Heap} {b : List UInt8} {z : Bool} (hb : b.length < 2 ^ 61) {at_ : Int} :
    run (C k_entry_BlockType [BS z b, .int .i64 at_]) H = some (.ok (atPl at_ b (encB ⟨0, ⟨0, false, 0⟩⟩) (outR encB (encB ⟨0, ⟨0, false, 0⟩⟩) (rBlock b at_.toNat))) H) := by
  have h := fun L => read_B_is (z := z) hb (one := .fn k_entry_cursor_block [] []) (r := rBlock b) (fun H c p hH hp => block_is hH hb hp) (H := hadd H L) (at_ := at_)
  rw [entry_BlockType_eq]
  revert h
  refine atPl_cases (fun t => (∀ L, run (C k_entry_read_api_Block [BS z b, .int .i64 at_, .fn k_entry_cursor_block [] []]) (hadd H L) = some (.ok t (hadd H L))) → _ = some (Out.ok t H)) ?_ ?_ ?_ <;> intros <;> rename_i h <;> unfold encB at h ⊢ <;>
    simp (contextual := true) (dsimp := false) (disch := omega) only [↓goDown, goUp, List.length_cons, List.length_nil, List.map_cons, List.map_nil, List.take_succ_cons, List.take_zero, List.drop_succ_cons, List.drop_zero, List.drop_nil, List.take_nil, List.cons_append, List.nil_append, List.append_nil, List.set_cons_zero, List.set_cons_succ, List.all_cons, List.all_nil, ↓reduceIte, reduceCtorEq, ge_iff_le, gt_iff_lt, eq_self_iff_true, beq_self_eq_true, beq_iff_eq, bne_iff_ne, ne_eq, ite_not, Int.reduceEq, Option.getD_some, Option.getD_none, ite_self, Nat.reduceAdd, Nat.reduceSub, Nat.reduceMul, Nat.reduceLeDiff, Nat.reduceEqDiff, Nat.reduceBEq, Nat.reduceBNe, Int.reduceLT, Int.reduceLE, Int.reduceAdd, Int.reduceSub, Int.reduceMul, Int.reduceNeg, Int.reduceNe, Int.reduceBEq, Int.reduceBNe, Int.reduceToNat, h]
theorem own_HeapType {H : Heap} {b : List UInt8} {z : Bool} (hb : b.length < 2 ^ 61) {at_ : Int} :
    run (C k_entry_HeapType [BS z b, .int .i64 at_]) H = some (.ok (atPl at_ b (.int .i64 0) (outR (fun x : Int => .int .i64 x) (.int .i64 0) (rHeap b at_.toNat))) H) := by
  have h := read_int_is (z := z) hb (one := .fn k_entry_cursor_heap [] []) (r := rHeap b) (fun H c p hH hp => heap_is hH hb hp) (H := H) (at_ := at_)
  rw [entry_HeapType_eq]
  revert h
  refine atPl_cases (fun t => (run (C k_entry_read_int [BS z b, .int .i64 at_, .fn k_entry_cursor_heap [] []]) H = some (.ok t H)) → _ = some (Out.ok t H)) ?_ ?_ ?_ <;> intros <;> rename_i h <;>
    simp (contextual := true) (dsimp := false) (disch := omega) only [↓goDown, goUp, List.length_cons, List.length_nil, List.map_cons, List.map_nil, List.take_succ_cons, List.take_zero, List.drop_succ_cons, List.drop_zero, List.drop_nil, List.take_nil, List.cons_append, List.nil_append, List.append_nil, List.set_cons_zero, List.set_cons_succ, List.all_cons, List.all_nil, ↓reduceIte, reduceCtorEq, ge_iff_le, gt_iff_lt, eq_self_iff_true, beq_self_eq_true, beq_iff_eq, bne_iff_ne, ne_eq, ite_not, Int.reduceEq, Option.getD_some, Option.getD_none, ite_self, Nat.reduceAdd, Nat.reduceSub, Nat.reduceMul, Nat.reduceLeDiff, Nat.reduceEqDiff, Nat.reduceBEq, Nat.reduceBNe, Int.reduceLT, Int.reduceLE, Int.reduceAdd, Int.reduceSub, Int.reduceMul, Int.reduceNeg, Int.reduceNe, Int.reduceBEq, Int.reduceBNe, Int.reduceToNat, h]
theorem own_ValTypes {H : Heap} {b : List UInt8} {z : Bool} (hb : b.length < 2 ^ 61) {at_ : Int} :
    run (C k_entry_ValTypes [BS z b, .int .i64 at_]) H = some (.ok (atPl at_ b (.slice false true 0 []) (outR shutL (.slice false true 0 []) (rVals b at_.toNat))) H) := by
  have h := read_L_is (z := z) hb (one := .fn k_entry_cursor_vals [] []) (r := rVals b) (fun H c p hH hp => vals_is hb hH hp) (H := H) (at_ := at_)
  rw [entry_ValTypes_eq]
  revert h
  refine atPl_cases (fun t => (run (C k_entry_read_L_api_ValType [BS z b, .int .i64 at_, .fn k_entry_cursor_vals [] []]) H = some (.ok t H)) → _ = some (Out.ok t H)) ?_ ?_ ?_ <;> intros <;> rename_i h <;>
    simp (contextual := true) (dsimp := false) (disch := omega) only [↓goDown, goUp, List.length_cons, List.length_nil, List.map_cons, List.map_nil, List.take_succ_cons, List.take_zero, List.drop_succ_cons, List.drop_zero, List.drop_nil, List.take_nil, List.cons_append, List.nil_append, List.append_nil, List.set_cons_zero, List.set_cons_succ, List.all_cons, List.all_nil, ↓reduceIte, reduceCtorEq, ge_iff_le, gt_iff_lt, eq_self_iff_true, beq_self_eq_true, beq_iff_eq, bne_iff_ne, ne_eq, ite_not, Int.reduceEq, Option.getD_some, Option.getD_none, ite_self, Nat.reduceAdd, Nat.reduceSub, Nat.reduceMul, Nat.reduceLeDiff, Nat.reduceEqDiff, Nat.reduceBEq, Nat.reduceBNe, Int.reduceLT, Int.reduceLE, Int.reduceAdd, Int.reduceSub, Int.reduceMul, Int.reduceNeg, Int.reduceNe, Int.reduceBEq, Int.reduceBNe, Int.reduceToNat, h, isTup_S, low_S]
end Go.Proofs.Ytofbbijagbpicaa.Pi.Q
