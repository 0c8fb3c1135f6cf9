/- The program's readers of types, on: small bytes, numbers of types, fields. -/
import Derived.Test.YtofbbijagbpicaaPiF
import Derived.Test.YtofbbijagbpicaaPiG
namespace Go.Proofs.Ytofbbijagbpicaa.Pi.Q
open Go Go.Proofs.Ytofbbijagbpicaa.Pi
set_option linter.unusedVariables false
set_option linter.unusedSimpArgs false
set_option maxRecDepth 100000
attribute [local congr] ite_congr
def rSmall (b : List UInt8) (most p : Nat) : Rs Nat :=
  if p < b.length then if most < (b.getD p 0).toNat then .err p 4 else .ok (b.getD p 0).toNat (p + 1) else .err b.length 3
theorem rSmall_le {b : List UInt8} {most p q v : Nat} (h : rSmall b most p = .ok v q) : q ≤ b.length ∧ v ≤ most := by
  unfold rSmall at h
  split at h
  · split at h
    · cases h
    · simp only [Rs.ok.injEq] at h; omega
  · cases h
theorem small_is {H : Heap} {b : List UInt8} {z : Bool} {c p most : Nat} (hH : hget H c = some (curB z b p)) (hb : b.length < 2 ^ 61) (hp : p ≤ b.length) :
    run (C k_entry_cursor_small [.ptr c 0, .int .u8 most]) H = outC z b c H p (fun n : Nat => .int .u8 n) (rSmall b most p) := by
  have hid := get_lt hH
  have hset := set_self hH
  rw [entry_cursor_small_eq]
  unfold rSmall
  by_cases h1 : p < b.length
  · have hl := look_ok hH hb h1
    have hc := byt_lt (b.getD p 0)
    rw [if_pos h1]
    generalize (b.getD p 0).toNat = x at hl hc ⊢
    by_cases h2 : most < x
    · rw [if_pos h2]
      have c1 : (most : Int) < x := by omega
      simp only [outC, hset]
      unfold curB at hH
      simp (contextual := true) (dsimp := false) (disch := omega) only [↓goDown, goUp, List.length_cons, List.length_nil, List.map_cons, List.map_nil, List.take_succ_cons, List.take_zero, List.drop_succ_cons, List.drop_zero, List.drop_nil, List.take_nil, List.cons_append, List.nil_append, List.append_nil, List.set_cons_zero, List.set_cons_succ, List.all_cons, List.all_nil, ↓reduceIte, reduceCtorEq, ge_iff_le, gt_iff_lt, eq_self_iff_true, beq_self_eq_true, beq_iff_eq, bne_iff_ne, ne_eq, ite_not, Int.reduceEq, Option.getD_some, Option.getD_none, ite_self, Nat.reduceAdd, Nat.reduceSub, Nat.reduceMul, Nat.reduceLeDiff, Nat.reduceEqDiff, Nat.reduceBEq, Nat.reduceBNe, Int.reduceLT, Int.reduceLE, Int.reduceAdd, Int.reduceSub, Int.reduceMul, Int.reduceNeg, Int.reduceNe, Int.reduceBEq, Int.reduceBNe, Int.reduceToNat, hl, eq_true c1, hH, fail_is]
      rfl
    · rw [if_neg h2]
      have c1 : ¬ (most : Int) < x := by omega
      simp only [outC]
      unfold curB at hH ⊢
      simp (contextual := true) (dsimp := false) (disch := omega) only [↓goDown, goUp, List.length_cons, List.length_nil, List.map_cons, List.map_nil, List.take_succ_cons, List.take_zero, List.drop_succ_cons, List.drop_zero, List.drop_nil, List.take_nil, List.cons_append, List.nil_append, List.append_nil, List.set_cons_zero, List.set_cons_succ, List.all_cons, List.all_nil, ↓reduceIte, reduceCtorEq, ge_iff_le, gt_iff_lt, eq_self_iff_true, beq_self_eq_true, beq_iff_eq, bne_iff_ne, ne_eq, ite_not, Int.reduceEq, Option.getD_some, Option.getD_none, ite_self, Nat.reduceAdd, Nat.reduceSub, Nat.reduceMul, Nat.reduceLeDiff, Nat.reduceEqDiff, Nat.reduceBEq, Nat.reduceBNe, Int.reduceLT, Int.reduceLE, Int.reduceAdd, Int.reduceSub, Int.reduceMul, Int.reduceNeg, Int.reduceNe, Int.reduceBEq, Int.reduceBNe, Int.reduceToNat, hl, c1, hH, ns, p_entry_cursor_small_111_eq]
  · have hl := look_err hH hb h1
    rw [if_neg h1]
    simp only [outC, hset]
    simp (contextual := true) (dsimp := false) (disch := omega) only [↓goDown, goUp, List.length_cons, List.length_nil, List.map_cons, List.map_nil, List.take_succ_cons, List.take_zero, List.drop_succ_cons, List.drop_zero, List.drop_nil, List.take_nil, List.cons_append, List.nil_append, List.append_nil, List.set_cons_zero, List.set_cons_succ, List.all_cons, List.all_nil, ↓reduceIte, reduceCtorEq, ge_iff_le, gt_iff_lt, eq_self_iff_true, beq_self_eq_true, beq_iff_eq, bne_iff_ne, ne_eq, ite_not, Int.reduceEq, Option.getD_some, Option.getD_none, ite_self, Nat.reduceAdd, Nat.reduceSub, Nat.reduceMul, Nat.reduceLeDiff, Nat.reduceEqDiff, Nat.reduceBEq, Nat.reduceBNe, Int.reduceLT, Int.reduceLE, Int.reduceAdd, Int.reduceSub, Int.reduceMul, Int.reduceNeg, Int.reduceNe, Int.reduceBEq, Int.reduceBNe, Int.reduceToNat, hl, low_flt]
/-- A defined type's number. -/
def rIndex (b : List UInt8) (p : Nat) : Rs Int :=
  match rU32 b p with
  | .ok n q => if 2147483647 < n then .err p 2 else .ok (n : Int) q
  | .err a w => .err a w
theorem rIndex_le {b : List UInt8} {p q : Nat} {v : Int} (h : rIndex b p = .ok v q) : q ≤ b.length := by
  unfold rIndex at h
  cases hr : rU32 b p with
  | ok n q1 =>
    rw [hr] at h
    dsimp only at h
    have := rU32_le hr
    split at h
    · cases h
    · simp only [Rs.ok.injEq] at h; omega
  | err a w => rw [hr] at h; cases h
theorem index_is {H : Heap} {b : List UInt8} {z : Bool} {c p : Nat} (hH : hget H c = some (curB z b p)) (hb : b.length < 2 ^ 61) (hp : p ≤ b.length) :
    ∃ q, run (C k_entry_cursor_index [.ptr c 0]) H = outC z b c H q (fun n : Int => .int .i64 n) (rIndex b p) := by
  have hid := get_lt hH
  have hset := set_self hH
  have hs' : Pi.hset H c (.cells [BS z b, .int .i64 p]) = H := hset
  have h1 := u32_is hH hb hp
  rw [entry_cursor_index_eq]
  unfold rIndex
  cases hr : rU32 b p with
  | err a w =>
    rw [hr] at h1
    simp only [outC, hset] at h1
    refine ⟨p, ?_⟩
    simp only [outC, hset]
    unfold curB at hH
    simp (contextual := true) (dsimp := false) (disch := omega) only [↓goDown, goUp, List.length_cons, List.length_nil, List.map_cons, List.map_nil, List.take_succ_cons, List.take_zero, List.drop_succ_cons, List.drop_zero, List.drop_nil, List.take_nil, List.cons_append, List.nil_append, List.append_nil, List.set_cons_zero, List.set_cons_succ, List.all_cons, List.all_nil, ↓reduceIte, reduceCtorEq, ge_iff_le, gt_iff_lt, eq_self_iff_true, beq_self_eq_true, beq_iff_eq, bne_iff_ne, ne_eq, ite_not, Int.reduceEq, Option.getD_some, Option.getD_none, ite_self, Nat.reduceAdd, Nat.reduceSub, Nat.reduceMul, Nat.reduceLeDiff, Nat.reduceEqDiff, Nat.reduceBEq, Nat.reduceBNe, Int.reduceLT, Int.reduceLE, Int.reduceAdd, Int.reduceSub, Int.reduceMul, Int.reduceNeg, Int.reduceNe, Int.reduceBEq, Int.reduceBNe, Int.reduceToNat, hH, hs', h1, low_flt]
  | ok n q =>
    have hn := rU32_le hr
    rw [hr] at h1
    simp only [outC] at h1
    refine ⟨q, ?_⟩
    by_cases h2 : 2147483647 < n
    · have c1 : (2147483647 : Int) < n := by omega
      simp only [h2, if_true, outC]
      unfold curB at hH h1 ⊢
      simp (contextual := true) (dsimp := false) (disch := omega) only [↓goDown, goUp, List.length_cons, List.length_nil, List.map_cons, List.map_nil, List.take_succ_cons, List.take_zero, List.drop_succ_cons, List.drop_zero, List.drop_nil, List.take_nil, List.cons_append, List.nil_append, List.append_nil, List.set_cons_zero, List.set_cons_succ, List.all_cons, List.all_nil, ↓reduceIte, reduceCtorEq, ge_iff_le, gt_iff_lt, eq_self_iff_true, beq_self_eq_true, beq_iff_eq, bne_iff_ne, ne_eq, ite_not, Int.reduceEq, Option.getD_some, Option.getD_none, ite_self, Nat.reduceAdd, Nat.reduceSub, Nat.reduceMul, Nat.reduceLeDiff, Nat.reduceEqDiff, Nat.reduceBEq, Nat.reduceBNe, Int.reduceLT, Int.reduceLE, Int.reduceAdd, Int.reduceSub, Int.reduceMul, Int.reduceNeg, Int.reduceNe, Int.reduceBEq, Int.reduceBNe, Int.reduceToNat, hH, hs', h1, eq_true c1, fail_is]
      rfl
    · have c1 : ¬ (2147483647 : Int) < n := by omega
      simp only [h2, if_false, outC]
      unfold curB at hH h1 ⊢
      simp (contextual := true) (dsimp := false) (disch := omega) only [↓goDown, goUp, List.length_cons, List.length_nil, List.map_cons, List.map_nil, List.take_succ_cons, List.take_zero, List.drop_succ_cons, List.drop_zero, List.drop_nil, List.take_nil, List.cons_append, List.nil_append, List.append_nil, List.set_cons_zero, List.set_cons_succ, List.all_cons, List.all_nil, ↓reduceIte, reduceCtorEq, ge_iff_le, gt_iff_lt, eq_self_iff_true, beq_self_eq_true, beq_iff_eq, bne_iff_ne, ne_eq, ite_not, Int.reduceEq, Option.getD_some, Option.getD_none, ite_self, Nat.reduceAdd, Nat.reduceSub, Nat.reduceMul, Nat.reduceLeDiff, Nat.reduceEqDiff, Nat.reduceBEq, Nat.reduceBNe, Int.reduceLT, Int.reduceLE, Int.reduceAdd, Int.reduceSub, Int.reduceMul, Int.reduceNeg, Int.reduceNe, Int.reduceBEq, Int.reduceBNe, Int.reduceToNat, hH, hs', h1, c1, p_entry_cursor_index_1111_eq]
/-! ### Fields -/
structure FT where
  ty : VT
  mu : Bool
  deriving DecidableEq
def encF (v : FT) : PV := .agg [.int .i64 v.ty.num, .bool v.ty.nul, .int .i64 v.ty.heap, .bool v.mu]
def rFieldV (b : List UInt8) (p : Nat) : Rs VT :=
  if p < b.length then
    if (b.getD p 0).toNat = 120 then .ok ⟨6, false, 0⟩ (p + 1)
    else if (b.getD p 0).toNat = 119 then .ok ⟨7, false, 0⟩ (p + 1)
    else rVal b p
  else .err b.length 3
theorem rFieldV_le {b : List UInt8} {p q : Nat} {v : VT} (h : rFieldV b p = .ok v q) : q ≤ b.length := by
  unfold rFieldV at h
  split at h
  · split at h
    · simp only [Rs.ok.injEq] at h; omega
    · split at h
      · simp only [Rs.ok.injEq] at h; omega
      · exact rVal_le h
  · cases h
def rsMut (v : VT) : Rs Nat → Rs FT
  | .ok n q => .ok ⟨v, n == 1⟩ q
  | .err a w => .err a w
def rField (b : List UInt8) (p : Nat) : Rs FT :=
  match rFieldV b p with
  | .ok v q => rsMut v (rSmall b 1 q)
  | .err a w => .err a w
theorem rField_le {b : List UInt8} {p q : Nat} {v : FT} (h : rField b p = .ok v q) : q ≤ b.length := by
  unfold rField at h
  cases hr : rFieldV b p with
  | ok v q1 =>
    rw [hr] at h
    dsimp only at h
    cases hs : rSmall b 1 q1 with
    | ok n q2 => rw [hs] at h; simp only [rsMut, Rs.ok.injEq] at h; have := rSmall_le hs; omega
    | err a w => rw [hs] at h; cases h
  | err a w => rw [hr] at h; cases h
theorem field_end {H : Heap} {b : List UInt8} {z : Bool} {c q : Nat} {v : VT} (hid : c < H.length) (hb : b.length < 2 ^ 61) (hq : q ≤ b.length) :
    run (p_entry_cursor_field_111 (.ptr c 0) (.ptr H.length 0) (.ptr (H.length + 1) 0)) (hadd (Pi.hset H c (curB z b q)) [.cells [.int .i64 0, .bool false, .int .i64 0, .bool false], .cells [.int .i64 v.num, .bool v.nul, .int .i64 v.heap, .bool false]]) =
      match rsMut v (rSmall b 1 q) with
      | .ok f q2 => some (.ok (encF f) (hadd (Pi.hset H c (curB z b q2)) [.cells [.int .i64 f.ty.num, .bool f.ty.nul, .int .i64 f.ty.heap, .bool f.mu], .cells [.int .i64 f.ty.num, .bool f.ty.nul, .int .i64 f.ty.heap, .bool f.mu]]))
      | .err a w => some (.pan (flt a w) (hadd (Pi.hset H c (curB z b q)) [.cells [.int .i64 0, .bool false, .int .i64 0, .bool false], .cells [.int .i64 v.num, .bool v.nul, .int .i64 v.heap, .bool false]])) := by
  have hs : ∀ L, run (C k_entry_cursor_small [.ptr c 0, .int .u8 1]) (hadd (Pi.hset H c (curB z b q)) L) = outC z b c (hadd (Pi.hset H c (curB z b q)) L) q (fun n : Nat => .int .u8 n) (rSmall b 1 q) :=
    fun L => small_is (by rw [get_old (by rw [len_set]; exact hid)]; exact get_set hid) hb hq
  have so : ∀ u L, Pi.hset (hadd (Pi.hset H c (curB z b q)) L) c (curB z b u) = hadd (Pi.hset H c (curB z b u)) L := fun u L => by rw [set_old1 hid, set_set]
  rw [p_entry_cursor_field_111_eq]
  cases hr : rSmall b 1 q with
  | err a w =>
    simp only [hr, outC, so] at hs
    simp only [rsMut]
    simp (contextual := true) (dsimp := false) (disch := omega) only [↓goDown, goUp, List.length_cons, List.length_nil, List.map_cons, List.map_nil, List.take_succ_cons, List.take_zero, List.drop_succ_cons, List.drop_zero, List.drop_nil, List.take_nil, List.cons_append, List.nil_append, List.append_nil, List.set_cons_zero, List.set_cons_succ, List.all_cons, List.all_nil, ↓reduceIte, reduceCtorEq, ge_iff_le, gt_iff_lt, eq_self_iff_true, beq_self_eq_true, beq_iff_eq, bne_iff_ne, ne_eq, ite_not, Int.reduceEq, Option.getD_some, Option.getD_none, ite_self, Nat.reduceAdd, Nat.reduceSub, Nat.reduceMul, Nat.reduceLeDiff, Nat.reduceEqDiff, Nat.reduceBEq, Nat.reduceBNe, Int.reduceLT, Int.reduceLE, Int.reduceAdd, Int.reduceSub, Int.reduceMul, Int.reduceNeg, Int.reduceNe, Int.reduceBEq, Int.reduceBNe, Int.reduceToNat, hs]
  | ok n q2 =>
    simp only [hr, outC, so] at hs
    simp only [rsMut]
    have c1 : ((n : Int) == 1) = (n == 1) := by rw [Bool.eq_iff_iff]; simp; omega
    simp (contextual := true) (dsimp := false) (disch := omega) only [↓goDown, goUp, List.length_cons, List.length_nil, List.map_cons, List.map_nil, List.take_succ_cons, List.take_zero, List.drop_succ_cons, List.drop_zero, List.drop_nil, List.take_nil, List.cons_append, List.nil_append, List.append_nil, List.set_cons_zero, List.set_cons_succ, List.all_cons, List.all_nil, ↓reduceIte, reduceCtorEq, ge_iff_le, gt_iff_lt, eq_self_iff_true, beq_self_eq_true, beq_iff_eq, bne_iff_ne, ne_eq, ite_not, Int.reduceEq, Option.getD_some, Option.getD_none, ite_self, Nat.reduceAdd, Nat.reduceSub, Nat.reduceMul, Nat.reduceLeDiff, Nat.reduceEqDiff, Nat.reduceBEq, Nat.reduceBNe, Int.reduceLT, Int.reduceLE, Int.reduceAdd, Int.reduceSub, Int.reduceMul, Int.reduceNeg, Int.reduceNe, Int.reduceBEq, Int.reduceBNe, Int.reduceToNat, hs, c1]
    rfl
theorem field_is {H : Heap} {b : List UInt8} {z : Bool} {c p : Nat} (hH : hget H c = some (curB z b p)) (hb : b.length < 2 ^ 61) (hp : p ≤ b.length) :
    ∃ q, run (C k_entry_cursor_field [.ptr c 0]) H = outC z b c H q encF (rField b p) := by
  have hid := get_lt hH
  have hset := set_self hH
  rw [entry_cursor_field_eq]
  unfold rField rFieldV
  have hH1 : ∀ L, hget (hadd H L) c = some (curB z b p) := fun L => by rw [get_old hid]; exact hH
  have so : ∀ u L, Pi.hset (hadd H L) c (curB z b u) = hadd (Pi.hset H c (curB z b u)) L := fun u L => by rw [set_old hid]
  by_cases h1 : p < b.length
  · have hl := fun L => look_ok (hH1 L) hb h1
    have hc := byt_lt (b.getD p 0)
    rw [if_pos h1]
    generalize (b.getD p 0).toNat = x at hl hc ⊢
    by_cases h2 : x = 120
    · rw [if_pos h2]
      have c1 : (x : Int) = 120 := by omega
      have hf := field_end (z := z) (v := ⟨6, false, 0⟩) hid hb (show p + 1 ≤ b.length by omega)
      unfold curB at hf
      simp only [ns] at hf
      refine ⟨p + 1, ?_⟩
      cases hr : rSmall b 1 (p + 1) <;> simp only [hr, rsMut] at hf ⊢ <;> simp only [outC] <;> unfold curB at hH ⊢ <;>
        simp (contextual := true) (dsimp := false) (disch := omega) only [↓goDown, goUp, List.length_cons, List.length_nil, List.map_cons, List.map_nil, List.take_succ_cons, List.take_zero, List.drop_succ_cons, List.drop_zero, List.drop_nil, List.take_nil, List.cons_append, List.nil_append, List.append_nil, List.set_cons_zero, List.set_cons_succ, List.all_cons, List.all_nil, ↓reduceIte, reduceCtorEq, ge_iff_le, gt_iff_lt, eq_self_iff_true, beq_self_eq_true, beq_iff_eq, bne_iff_ne, ne_eq, ite_not, Int.reduceEq, Option.getD_some, Option.getD_none, ite_self, Nat.reduceAdd, Nat.reduceSub, Nat.reduceMul, Nat.reduceLeDiff, Nat.reduceEqDiff, Nat.reduceBEq, Nat.reduceBNe, Int.reduceLT, Int.reduceLE, Int.reduceAdd, Int.reduceSub, Int.reduceMul, Int.reduceNeg, Int.reduceNe, Int.reduceBEq, Int.reduceBNe, Int.reduceToNat, hl, eq_true c1, hH, ns, hf, low_flt, encF]
    · rw [if_neg h2]
      have c1 : ¬ (x : Int) = 120 := by omega
      by_cases h3 : x = 119
      · rw [if_pos h3]
        have c2 : (x : Int) = 119 := by omega
        have hf := field_end (z := z) (v := ⟨7, false, 0⟩) hid hb (show p + 1 ≤ b.length by omega)
        unfold curB at hf
        simp only [ns] at hf
        refine ⟨p + 1, ?_⟩
        cases hr : rSmall b 1 (p + 1) <;> simp only [hr, rsMut] at hf ⊢ <;> simp only [outC] <;> unfold curB at hH ⊢ <;>
          simp (contextual := true) (dsimp := false) (disch := omega) only [↓goDown, goUp, List.length_cons, List.length_nil, List.map_cons, List.map_nil, List.take_succ_cons, List.take_zero, List.drop_succ_cons, List.drop_zero, List.drop_nil, List.take_nil, List.cons_append, List.nil_append, List.append_nil, List.set_cons_zero, List.set_cons_succ, List.all_cons, List.all_nil, ↓reduceIte, reduceCtorEq, ge_iff_le, gt_iff_lt, eq_self_iff_true, beq_self_eq_true, beq_iff_eq, bne_iff_ne, ne_eq, ite_not, Int.reduceEq, Option.getD_some, Option.getD_none, ite_self, Nat.reduceAdd, Nat.reduceSub, Nat.reduceMul, Nat.reduceLeDiff, Nat.reduceEqDiff, Nat.reduceBEq, Nat.reduceBNe, Int.reduceLT, Int.reduceLE, Int.reduceAdd, Int.reduceSub, Int.reduceMul, Int.reduceNeg, Int.reduceNe, Int.reduceBEq, Int.reduceBNe, Int.reduceToNat, hl, c1, eq_true c2, hH, ns, hf, low_flt, encF]
      · rw [if_neg h3]
        have c2 : ¬ (x : Int) = 119 := by omega
        obtain ⟨q, hk⟩ := val_is (hH1 [.cells [.int .i64 0, .bool false, .int .i64 0, .bool false], .cells [.int .i64 0, .bool false, .int .i64 0, .bool false]]) hb hp
        cases hr : rVal b p with
        | err a w =>
          refine ⟨q, ?_⟩
          simp only [hr, outC, so] at hk ⊢
          simp (contextual := true) (dsimp := false) (disch := omega) only [↓goDown, goUp, List.length_cons, List.length_nil, List.map_cons, List.map_nil, List.take_succ_cons, List.take_zero, List.drop_succ_cons, List.drop_zero, List.drop_nil, List.take_nil, List.cons_append, List.nil_append, List.append_nil, List.set_cons_zero, List.set_cons_succ, List.all_cons, List.all_nil, ↓reduceIte, reduceCtorEq, ge_iff_le, gt_iff_lt, eq_self_iff_true, beq_self_eq_true, beq_iff_eq, bne_iff_ne, ne_eq, ite_not, Int.reduceEq, Option.getD_some, Option.getD_none, ite_self, Nat.reduceAdd, Nat.reduceSub, Nat.reduceMul, Nat.reduceLeDiff, Nat.reduceEqDiff, Nat.reduceBEq, Nat.reduceBNe, Int.reduceLT, Int.reduceLE, Int.reduceAdd, Int.reduceSub, Int.reduceMul, Int.reduceNeg, Int.reduceNe, Int.reduceBEq, Int.reduceBNe, Int.reduceToNat, hl, c1, c2, hk, low_flt]
        | ok v q1 =>
          have hf := field_end (z := z) (v := v) hid hb (rVal_le hr)
          refine ⟨q1, ?_⟩
          simp only [hr, outC, so] at hk ⊢
          cases hs : rSmall b 1 q1 <;> simp only [hs, rsMut] at hf ⊢ <;>
            simp (contextual := true) (dsimp := false) (disch := omega) only [↓goDown, goUp, List.length_cons, List.length_nil, List.map_cons, List.map_nil, List.take_succ_cons, List.take_zero, List.drop_succ_cons, List.drop_zero, List.drop_nil, List.take_nil, List.cons_append, List.nil_append, List.append_nil, List.set_cons_zero, List.set_cons_succ, List.all_cons, List.all_nil, ↓reduceIte, reduceCtorEq, ge_iff_le, gt_iff_lt, eq_self_iff_true, beq_self_eq_true, beq_iff_eq, bne_iff_ne, ne_eq, ite_not, Int.reduceEq, Option.getD_some, Option.getD_none, ite_self, Nat.reduceAdd, Nat.reduceSub, Nat.reduceMul, Nat.reduceLeDiff, Nat.reduceEqDiff, Nat.reduceBEq, Nat.reduceBNe, Int.reduceLT, Int.reduceLE, Int.reduceAdd, Int.reduceSub, Int.reduceMul, Int.reduceNeg, Int.reduceNe, Int.reduceBEq, Int.reduceBNe, Int.reduceToNat, hl, c1, c2, hk, cells_V, hf, low_flt, encF]
  · refine ⟨p, ?_⟩
    have hl := fun L => look_err (hH1 L) hb h1
    rw [if_neg h1]
    simp only [outC, hset]
    simp (contextual := true) (dsimp := false) (disch := omega) only [↓goDown, goUp, List.length_cons, List.length_nil, List.map_cons, List.map_nil, List.take_succ_cons, List.take_zero, List.drop_succ_cons, List.drop_zero, List.drop_nil, List.take_nil, List.cons_append, List.nil_append, List.append_nil, List.set_cons_zero, List.set_cons_succ, List.all_cons, List.all_nil, ↓reduceIte, reduceCtorEq, ge_iff_le, gt_iff_lt, eq_self_iff_true, beq_self_eq_true, beq_iff_eq, bne_iff_ne, ne_eq, ite_not, Int.reduceEq, Option.getD_some, Option.getD_none, ite_self, Nat.reduceAdd, Nat.reduceSub, Nat.reduceMul, Nat.reduceLeDiff, Nat.reduceEqDiff, Nat.reduceBEq, Nat.reduceBNe, Int.reduceLT, Int.reduceLE, Int.reduceAdd, Int.reduceSub, Int.reduceMul, Int.reduceNeg, Int.reduceNe, Int.reduceBEq, Int.reduceBNe, Int.reduceToNat, hl, low_flt]
end Go.Proofs.Ytofbbijagbpicaa.Pi.Q
/- The program's lists of fields, of numbers, of types. (Written by tool/genlist.py.) -/
namespace Go.Proofs.Ytofbbijagbpicaa.Pi.Q
open Go Go.Proofs.Ytofbbijagbpicaa.Pi
set_option linter.unusedVariables false
set_option linter.unusedSimpArgs false
set_option maxRecDepth 100000
attribute [local congr] ite_congr
theorem strip_F {v : FT} : strip (encF v) = encF v := nrfl rfl
theorem stripC_F {v : FT} : stripC (encF v) = encF v := nrfl rfl
theorem isTup_F {v : FT} : isTup (encF v) = false := nrfl rfl
theorem isVal_F {v : FT} : isVal (encF v) = true := nrfl rfl
theorem low_F {v : FT} {n : Nat} : (encF v).low n = true := by simp [encF, low_agg, lowL_cons, lowL_nil, low_int, low_bool]
theorem bs_F {v : FT} {K : Heap} : run (bs true (some 4) [encF v]) K = some (.ok (.slice true false 4 [encF v]) K) := bs_agg (by simp [flatL, PV.flat]) rfl
theorem bs_I {v : Int} {K : Heap} : run (bs true none [.int .i64 v]) K = some (.ok (.slice true false 1 [.int .i64 v]) K) := nrfl rfl
abbrev encI (v : Int) : PV := .int .i64 v
/-- A list, without the right to grow. -/
def shutP (sz : Nat) (l : List PV) : PV := match l with | [] => .slice false true 0 [] | l => .slice false false sz l
theorem shutP_nil {sz : Nat} : shutP sz [] = .slice false true 0 [] := nrfl rfl
theorem isTup_P {sz : Nat} {l : List PV} : isTup (shutP sz l) = false := by cases l <;> rfl
theorem isVal_P {sz : Nat} {l : List PV} : isVal (shutP sz l) = true := by cases l <;> rfl
theorem isCell_P {sz : Nat} {l : List PV} : isCell (shutP sz l) = true := by cases l <;> rfl
theorem cells_P {sz : Nat} {l : List PV} : (shutP sz l).cells = [shutP sz l] := by cases l <;> rfl
theorem low_P {sz : Nat} {l : List PV} {n : Nat} : (shutP sz l).low n = true := by cases l <;> simp [shutP, low_slice]
theorem strip_P {sz : Nat} {l : List PV} : strip (shutP sz l) = shutP sz l := by cases l <;> rfl
theorem stripC_P {sz : Nat} {l : List PV} : stripC (shutP sz l) = shutP sz l := by cases l <;> rfl
theorem strip_acc {sz : Nat} {l : List PV} : strip (accP sz l) = shutP sz l := by cases l <;> rfl
theorem stripC_acc {sz : Nat} {l : List PV} : stripC (accP sz l) = shutP sz l := by cases l <;> rfl
/-! ### Composite types, types, groups -/
structure CT where
  kind : Int
  ps : List VT
  rs : List VT
  fs : List FT
  deriving DecidableEq
structure ST where
  fin : Bool
  sup : List Int
  comp : CT
  deriving DecidableEq
def csC (v : CT) : List PV := [.int .i64 v.kind, shutP 3 (v.ps.map encV), shutP 3 (v.rs.map encV), shutP 4 (v.fs.map encF)]
def encC (v : CT) : PV := .agg (csC v)
def csS (v : ST) : List PV := [.bool v.fin, shutP 1 (v.sup.map encI), .int .i64 v.comp.kind, shutP 3 (v.comp.ps.map encV), shutP 3 (v.comp.rs.map encV), shutP 4 (v.comp.fs.map encF)]
def encS (v : ST) : PV := .agg (csS v)
theorem isTup_C {v : CT} : isTup (encC v) = false := nrfl rfl
theorem isTup_Su {v : ST} : isTup (encS v) = false := nrfl rfl
theorem strip_C {v : CT} : strip (encC v) = encC v := nrfl rfl
theorem stripC_C {v : CT} : stripC (encC v) = encC v := nrfl rfl
theorem strip_Su {v : ST} : strip (encS v) = encS v := nrfl rfl
theorem stripC_Su {v : ST} : stripC (encS v) = encS v := nrfl rfl
theorem low_C {v : CT} {n : Nat} : (encC v).low n = true := by simp [encC, csC, low_agg, lowL_cons, lowL_nil, low_int, low_P]
theorem low_Su {v : ST} {n : Nat} : (encS v).low n = true := by simp [encS, csS, low_agg, lowL_cons, lowL_nil, low_int, low_bool, low_P]
theorem flatL_V {l : List VT} : flatL (l.map encV) = true := by induction l with | nil => rfl | cons v r ih => simp [flatL, encV, PV.flat, ih]
theorem flatL_F {l : List FT} : flatL (l.map encF) = true := by induction l with | nil => rfl | cons v r ih => simp [flatL, encF, PV.flat, ih]
theorem flatL_I {l : List Int} : flatL (l.map encI) = true := by induction l with | nil => rfl | cons v r ih => simp [flatL, encI, PV.flat, ih]
theorem bs_S {v : ST} {K : Heap} : run (bs true (some 6) [encS v]) K = some (.ok (.slice true false 6 [encS v]) K) := by
  refine bs_agg ?_ rfl
  have hp : ∀ {sz : Nat} {l : List PV}, flatL l = true → (shutP sz l).flat = true := by
    intro sz l h
    cases l with
    | nil => simp [shutP, PV.flat, flatL]
    | cons x r => simp [shutP, PV.flat, h]
  simp [flatL, PV.flat, csS, hp flatL_V, hp flatL_F, hp flatL_I]
theorem fieldList_loop {b : List UInt8} {z : Bool} (hb : b.length < 2 ^ 61) {rd : Nat → Rs FT} (hle : ∀ p v q, rd p = .ok v q → q ≤ b.length) {one : PV} {c : Nat} {v6 : PV} (hone : ∀ H p, hget H c = some (curB z b p) → p ≤ b.length → ∃ q, run (callV P C (strip one) []) H = outC z b c H q encF (rd p)) :
    ∀ (m i n p : Nat) (acc : List FT) (H : Heap), hget H c = some (curB z b p) → p ≤ b.length → n = i + m → acc.length = i → n ≤ 1000000 →
      ∃ q, run (p_entry_list_api_Field_11111010 one v6 (accP 4 (acc.map encF)) (.int .u32 n) (.int .u32 i)) H = outC z b c H q (fun l => accP 4 ((acc ++ l).map encF)) (rRep rd m p)
  | 0, i, n, p, acc, H, hH, hp, hn, ha, hm => by
    refine ⟨p, ?_⟩
    rw [p_entry_list_api_Field_11111010_eq]
    have c1 : ¬ (i : Int) < n := by omega
    have hset := set_self hH
    unfold rRep
    simp only [outC, hset, List.append_nil]
    simp (contextual := true) (dsimp := false) (disch := omega) only [↓goDown, goUp, List.length_cons, List.length_nil, List.map_cons, List.map_nil, List.take_succ_cons, List.take_zero, List.drop_succ_cons, List.drop_zero, List.drop_nil, List.take_nil, List.cons_append, List.nil_append, List.append_nil, List.set_cons_zero, List.set_cons_succ, List.all_cons, List.all_nil, ↓reduceIte, reduceCtorEq, ge_iff_le, gt_iff_lt, eq_self_iff_true, beq_self_eq_true, beq_iff_eq, bne_iff_ne, ne_eq, ite_not, Int.reduceEq, Option.getD_some, Option.getD_none, ite_self, Nat.reduceAdd, Nat.reduceSub, Nat.reduceMul, Nat.reduceLeDiff, Nat.reduceEqDiff, Nat.reduceBEq, Nat.reduceBNe, Int.reduceLT, Int.reduceLE, Int.reduceAdd, Int.reduceSub, Int.reduceMul, Int.reduceNeg, Int.reduceNe, Int.reduceBEq, Int.reduceBNe, Int.reduceToNat, c1, isTup_acc]
  | m + 1, i, n, p, acc, H, hH, hp, hn, ha, hm => by
    rw [p_entry_list_api_Field_11111010_eq]
    have c1 : (i : Int) < n := by omega
    have hid := get_lt hH
    obtain ⟨q, h1⟩ := hone H p hH hp
    unfold rRep
    cases hr : rd p with
    | err a w =>
      rw [hr] at h1
      simp only [outC] at h1
      refine ⟨q, ?_⟩
      simp only [outC]
      simp (contextual := true) (dsimp := false) (disch := omega) only [↓goDown, goUp, List.length_cons, List.length_nil, List.map_cons, List.map_nil, List.take_succ_cons, List.take_zero, List.drop_succ_cons, List.drop_zero, List.drop_nil, List.take_nil, List.cons_append, List.nil_append, List.append_nil, List.set_cons_zero, List.set_cons_succ, List.all_cons, List.all_nil, ↓reduceIte, reduceCtorEq, ge_iff_le, gt_iff_lt, eq_self_iff_true, beq_self_eq_true, beq_iff_eq, bne_iff_ne, ne_eq, ite_not, Int.reduceEq, Option.getD_some, Option.getD_none, ite_self, Nat.reduceAdd, Nat.reduceSub, Nat.reduceMul, Nat.reduceLeDiff, Nat.reduceEqDiff, Nat.reduceBEq, Nat.reduceBNe, Int.reduceLT, Int.reduceLE, Int.reduceAdd, Int.reduceSub, Int.reduceMul, Int.reduceNeg, Int.reduceNe, Int.reduceBEq, Int.reduceBNe, Int.reduceToNat, c1, h1]
    | ok v q' =>
      rw [hr] at h1
      simp only [outC] at h1
      have hl := hle _ _ _ hr
      obtain ⟨q2, h2⟩ := fieldList_loop hb hle hone m (i + 1) n q' (acc ++ [v]) (Pi.hset H c (curB z b q')) (get_set hid) hl (by omega) (by simp [ha]) hm
      refine ⟨q2, ?_⟩
      have hbs := fun K => bs_F (v := v) (K := K)
      have hap := fun K => ap_acc (H := K) (sz := 4) (b := 32) (l := acc.map encF) (v := encF v) (o := true) (by simp [ha]; omega)
      have e1 : accP 4 (acc.map encF ++ [encF v]) = accP 4 ((acc ++ [v]).map encF) := by simp
      have e2 : (i : Int) + 1 = ((i + 1 : Nat) : Int) := rfl
      rw [e1] at hap
      have hrr : outC z b c (Pi.hset H c (curB z b q')) q2 (fun l => accP 4 ((acc ++ [v] ++ l).map encF)) (rRep rd m q') = outC z b c H q2 (fun l => accP 4 ((acc ++ l).map encF)) (rsCons v (rRep rd m q')) := by
        cases rRep rd m q' <;> simp only [outC, set_set, rsCons] <;> simp
      simp (contextual := true) (dsimp := false) (disch := omega) only [↓goDown, goUp, List.length_cons, List.length_nil, List.map_cons, List.map_nil, List.take_succ_cons, List.take_zero, List.drop_succ_cons, List.drop_zero, List.drop_nil, List.take_nil, List.cons_append, List.nil_append, List.append_nil, List.set_cons_zero, List.set_cons_succ, List.all_cons, List.all_nil, ↓reduceIte, reduceCtorEq, ge_iff_le, gt_iff_lt, eq_self_iff_true, beq_self_eq_true, beq_iff_eq, bne_iff_ne, ne_eq, ite_not, Int.reduceEq, Option.getD_some, Option.getD_none, ite_self, Nat.reduceAdd, Nat.reduceSub, Nat.reduceMul, Nat.reduceLeDiff, Nat.reduceEqDiff, Nat.reduceBEq, Nat.reduceBNe, Int.reduceLT, Int.reduceLE, Int.reduceAdd, Int.reduceSub, Int.reduceMul, Int.reduceNeg, Int.reduceNe, Int.reduceBEq, Int.reduceBNe, Int.reduceToNat, c1, h1, hbs, hap, e2, strip_F, stripC_F, isTup_F, low_F]
      rw [h2]
      exact hrr
theorem fieldList_is {b : List UInt8} {z : Bool} (hb : b.length < 2 ^ 61) {rd : Nat → Rs FT} (hle : ∀ p v q, rd p = .ok v q → q ≤ b.length) {one : PV} {c most : Nat} (hmost : most ≤ 1000000) (hone : ∀ H p, hget H c = some (curB z b p) → p ≤ b.length → ∃ q, run (callV P C (strip one) []) H = outC z b c H q encF (rd p))
    {H : Heap} {p : Nat} (hH : hget H c = some (curB z b p)) (hp : p ≤ b.length) :
    ∃ q, run (C k_entry_list_api_Field [.ptr c 0, .int .u32 most, one]) H = outC z b c H q (fun l => accP 4 (l.map encF)) (rList b most rd p) := by
  have hid := get_lt hH
  have hset := set_self hH
  have hs' : Pi.hset H c (.cells [BS z b, .int .i64 p]) = H := hset
  have h1 := u32_is hH hb hp
  rw [entry_list_api_Field_eq]
  unfold rList
  cases hr : rU32 b p with
  | err a w =>
    rw [hr] at h1
    simp only [outC, hset] at h1
    refine ⟨p, ?_⟩
    simp only [outC, hset]
    unfold curB at hH
    simp (contextual := true) (dsimp := false) (disch := omega) only [↓goDown, goUp, List.length_cons, List.length_nil, List.map_cons, List.map_nil, List.take_succ_cons, List.take_zero, List.drop_succ_cons, List.drop_zero, List.drop_nil, List.take_nil, List.cons_append, List.nil_append, List.append_nil, List.set_cons_zero, List.set_cons_succ, List.all_cons, List.all_nil, ↓reduceIte, reduceCtorEq, ge_iff_le, gt_iff_lt, eq_self_iff_true, beq_self_eq_true, beq_iff_eq, bne_iff_ne, ne_eq, ite_not, Int.reduceEq, Option.getD_some, Option.getD_none, ite_self, Nat.reduceAdd, Nat.reduceSub, Nat.reduceMul, Nat.reduceLeDiff, Nat.reduceEqDiff, Nat.reduceBEq, Nat.reduceBNe, Int.reduceLT, Int.reduceLE, Int.reduceAdd, Int.reduceSub, Int.reduceMul, Int.reduceNeg, Int.reduceNe, Int.reduceBEq, Int.reduceBNe, Int.reduceToNat, hH, hs', h1, low_flt]
  | ok n q =>
    have hn := rU32_le hr
    rw [hr] at h1
    simp only [outC] at h1
    have hH2 : hget (Pi.hset H c (curB z b q)) c = some (curB z b q) := get_set hid
    by_cases h2 : most < n
    · refine ⟨q, ?_⟩
      have c1 : (most : Int) < n := by omega
      simp only [h2, if_true, outC]
      unfold curB at hH h1 ⊢
      simp (contextual := true) (dsimp := false) (disch := omega) only [↓goDown, goUp, List.length_cons, List.length_nil, List.map_cons, List.map_nil, List.take_succ_cons, List.take_zero, List.drop_succ_cons, List.drop_zero, List.drop_nil, List.take_nil, List.cons_append, List.nil_append, List.append_nil, List.set_cons_zero, List.set_cons_succ, List.all_cons, List.all_nil, ↓reduceIte, reduceCtorEq, ge_iff_le, gt_iff_lt, eq_self_iff_true, beq_self_eq_true, beq_iff_eq, bne_iff_ne, ne_eq, ite_not, Int.reduceEq, Option.getD_some, Option.getD_none, ite_self, Nat.reduceAdd, Nat.reduceSub, Nat.reduceMul, Nat.reduceLeDiff, Nat.reduceEqDiff, Nat.reduceBEq, Nat.reduceBNe, Int.reduceLT, Int.reduceLE, Int.reduceAdd, Int.reduceSub, Int.reduceMul, Int.reduceNeg, Int.reduceNe, Int.reduceBEq, Int.reduceBNe, Int.reduceToNat, hH, hs', h1, c1, fail_is]
      rfl
    · have c1 : ¬ (most : Int) < n := by omega
      obtain ⟨q2, h3⟩ := fieldList_loop hb hle (v6 := .slice false true 0 []) hone n 0 n q [] (Pi.hset H c (curB z b q)) hH2 hn.1 (by omega) rfl (by omega)
      have h3 : run (p_entry_list_api_Field_11111010 one (.slice false true 0 []) (.slice false true 0 []) (.int .u32 n) (.int .u32 0)) (Pi.hset H c (curB z b q)) = outC z b c (Pi.hset H c (curB z b q)) q2 (fun l => accP 4 (l.map encF)) (rRep rd n q) := h3
      refine ⟨q2, ?_⟩
      simp only [h2, if_false]
      cases hr2 : rRep rd n q <;> rw [hr2] at h3 <;> simp only [outC, set_set] at h3 ⊢ <;> unfold curB at hH h1 h3 ⊢ <;>
        simp (contextual := true) (dsimp := false) (disch := omega) only [↓goDown, goUp, List.length_cons, List.length_nil, List.map_cons, List.map_nil, List.take_succ_cons, List.take_zero, List.drop_succ_cons, List.drop_zero, List.drop_nil, List.take_nil, List.cons_append, List.nil_append, List.append_nil, List.set_cons_zero, List.set_cons_succ, List.all_cons, List.all_nil, ↓reduceIte, reduceCtorEq, ge_iff_le, gt_iff_lt, eq_self_iff_true, beq_self_eq_true, beq_iff_eq, bne_iff_ne, ne_eq, ite_not, Int.reduceEq, Option.getD_some, Option.getD_none, ite_self, Nat.reduceAdd, Nat.reduceSub, Nat.reduceMul, Nat.reduceLeDiff, Nat.reduceEqDiff, Nat.reduceBEq, Nat.reduceBNe, Int.reduceLT, Int.reduceLE, Int.reduceAdd, Int.reduceSub, Int.reduceMul, Int.reduceNeg, Int.reduceNe, Int.reduceBEq, Int.reduceBNe, Int.reduceToNat, hH, hs', h1, c1, p_entry_list_api_Field_1111_eq, h3, low_acc, low_flt, isTup_acc]
theorem intList_loop {b : List UInt8} {z : Bool} (hb : b.length < 2 ^ 61) {rd : Nat → Rs Int} (hle : ∀ p v q, rd p = .ok v q → q ≤ b.length) {one : PV} {c : Nat} {v6 : PV} (hone : ∀ H p, hget H c = some (curB z b p) → p ≤ b.length → ∃ q, run (callV P C (strip one) []) H = outC z b c H q encI (rd p)) :
    ∀ (m i n p : Nat) (acc : List Int) (H : Heap), hget H c = some (curB z b p) → p ≤ b.length → n = i + m → acc.length = i → n ≤ 1000000 →
      ∃ q, run (p_entry_list_int_11111010 one v6 (accP 1 (acc.map encI)) (.int .u32 n) (.int .u32 i)) H = outC z b c H q (fun l => accP 1 ((acc ++ l).map encI)) (rRep rd m p)
  | 0, i, n, p, acc, H, hH, hp, hn, ha, hm => by
    refine ⟨p, ?_⟩
    rw [p_entry_list_int_11111010_eq]
    have c1 : ¬ (i : Int) < n := by omega
    have hset := set_self hH
    unfold rRep
    simp only [outC, hset, List.append_nil]
    simp (contextual := true) (dsimp := false) (disch := omega) only [↓goDown, goUp, List.length_cons, List.length_nil, List.map_cons, List.map_nil, List.take_succ_cons, List.take_zero, List.drop_succ_cons, List.drop_zero, List.drop_nil, List.take_nil, List.cons_append, List.nil_append, List.append_nil, List.set_cons_zero, List.set_cons_succ, List.all_cons, List.all_nil, ↓reduceIte, reduceCtorEq, ge_iff_le, gt_iff_lt, eq_self_iff_true, beq_self_eq_true, beq_iff_eq, bne_iff_ne, ne_eq, ite_not, Int.reduceEq, Option.getD_some, Option.getD_none, ite_self, Nat.reduceAdd, Nat.reduceSub, Nat.reduceMul, Nat.reduceLeDiff, Nat.reduceEqDiff, Nat.reduceBEq, Nat.reduceBNe, Int.reduceLT, Int.reduceLE, Int.reduceAdd, Int.reduceSub, Int.reduceMul, Int.reduceNeg, Int.reduceNe, Int.reduceBEq, Int.reduceBNe, Int.reduceToNat, c1, isTup_acc]
  | m + 1, i, n, p, acc, H, hH, hp, hn, ha, hm => by
    rw [p_entry_list_int_11111010_eq]
    have c1 : (i : Int) < n := by omega
    have hid := get_lt hH
    obtain ⟨q, h1⟩ := hone H p hH hp
    unfold rRep
    cases hr : rd p with
    | err a w =>
      rw [hr] at h1
      simp only [outC] at h1
      refine ⟨q, ?_⟩
      simp only [outC]
      simp (contextual := true) (dsimp := false) (disch := omega) only [↓goDown, goUp, List.length_cons, List.length_nil, List.map_cons, List.map_nil, List.take_succ_cons, List.take_zero, List.drop_succ_cons, List.drop_zero, List.drop_nil, List.take_nil, List.cons_append, List.nil_append, List.append_nil, List.set_cons_zero, List.set_cons_succ, List.all_cons, List.all_nil, ↓reduceIte, reduceCtorEq, ge_iff_le, gt_iff_lt, eq_self_iff_true, beq_self_eq_true, beq_iff_eq, bne_iff_ne, ne_eq, ite_not, Int.reduceEq, Option.getD_some, Option.getD_none, ite_self, Nat.reduceAdd, Nat.reduceSub, Nat.reduceMul, Nat.reduceLeDiff, Nat.reduceEqDiff, Nat.reduceBEq, Nat.reduceBNe, Int.reduceLT, Int.reduceLE, Int.reduceAdd, Int.reduceSub, Int.reduceMul, Int.reduceNeg, Int.reduceNe, Int.reduceBEq, Int.reduceBNe, Int.reduceToNat, c1, h1]
    | ok v q' =>
      rw [hr] at h1
      simp only [outC] at h1
      have hl := hle _ _ _ hr
      obtain ⟨q2, h2⟩ := intList_loop hb hle hone m (i + 1) n q' (acc ++ [v]) (Pi.hset H c (curB z b q')) (get_set hid) hl (by omega) (by simp [ha]) hm
      refine ⟨q2, ?_⟩
      have hbs := fun K => bs_I (v := v) (K := K)
      have hap := fun K => ap_acc (H := K) (sz := 1) (b := 8) (l := acc.map encI) (v := encI v) (o := true) (by simp [ha]; omega)
      have e1 : accP 1 (acc.map encI ++ [encI v]) = accP 1 ((acc ++ [v]).map encI) := by simp
      have e2 : (i : Int) + 1 = ((i + 1 : Nat) : Int) := rfl
      rw [e1] at hap
      have hrr : outC z b c (Pi.hset H c (curB z b q')) q2 (fun l => accP 1 ((acc ++ [v] ++ l).map encI)) (rRep rd m q') = outC z b c H q2 (fun l => accP 1 ((acc ++ l).map encI)) (rsCons v (rRep rd m q')) := by
        cases rRep rd m q' <;> simp only [outC, set_set, rsCons] <;> simp
      simp (contextual := true) (dsimp := false) (disch := omega) only [↓goDown, goUp, List.length_cons, List.length_nil, List.map_cons, List.map_nil, List.take_succ_cons, List.take_zero, List.drop_succ_cons, List.drop_zero, List.drop_nil, List.take_nil, List.cons_append, List.nil_append, List.append_nil, List.set_cons_zero, List.set_cons_succ, List.all_cons, List.all_nil, ↓reduceIte, reduceCtorEq, ge_iff_le, gt_iff_lt, eq_self_iff_true, beq_self_eq_true, beq_iff_eq, bne_iff_ne, ne_eq, ite_not, Int.reduceEq, Option.getD_some, Option.getD_none, ite_self, Nat.reduceAdd, Nat.reduceSub, Nat.reduceMul, Nat.reduceLeDiff, Nat.reduceEqDiff, Nat.reduceBEq, Nat.reduceBNe, Int.reduceLT, Int.reduceLE, Int.reduceAdd, Int.reduceSub, Int.reduceMul, Int.reduceNeg, Int.reduceNe, Int.reduceBEq, Int.reduceBNe, Int.reduceToNat, c1, h1, hbs, hap, e2, strip_int, stripC_int, isTup_int, low_int]
      rw [h2]
      exact hrr
theorem intList_is {b : List UInt8} {z : Bool} (hb : b.length < 2 ^ 61) {rd : Nat → Rs Int} (hle : ∀ p v q, rd p = .ok v q → q ≤ b.length) {one : PV} {c most : Nat} (hmost : most ≤ 1000000) (hone : ∀ H p, hget H c = some (curB z b p) → p ≤ b.length → ∃ q, run (callV P C (strip one) []) H = outC z b c H q encI (rd p))
    {H : Heap} {p : Nat} (hH : hget H c = some (curB z b p)) (hp : p ≤ b.length) :
    ∃ q, run (C k_entry_list_int [.ptr c 0, .int .u32 most, one]) H = outC z b c H q (fun l => accP 1 (l.map encI)) (rList b most rd p) := by
  have hid := get_lt hH
  have hset := set_self hH
  have hs' : Pi.hset H c (.cells [BS z b, .int .i64 p]) = H := hset
  have h1 := u32_is hH hb hp
  rw [entry_list_int_eq]
  unfold rList
  cases hr : rU32 b p with
  | err a w =>
    rw [hr] at h1
    simp only [outC, hset] at h1
    refine ⟨p, ?_⟩
    simp only [outC, hset]
    unfold curB at hH
    simp (contextual := true) (dsimp := false) (disch := omega) only [↓goDown, goUp, List.length_cons, List.length_nil, List.map_cons, List.map_nil, List.take_succ_cons, List.take_zero, List.drop_succ_cons, List.drop_zero, List.drop_nil, List.take_nil, List.cons_append, List.nil_append, List.append_nil, List.set_cons_zero, List.set_cons_succ, List.all_cons, List.all_nil, ↓reduceIte, reduceCtorEq, ge_iff_le, gt_iff_lt, eq_self_iff_true, beq_self_eq_true, beq_iff_eq, bne_iff_ne, ne_eq, ite_not, Int.reduceEq, Option.getD_some, Option.getD_none, ite_self, Nat.reduceAdd, Nat.reduceSub, Nat.reduceMul, Nat.reduceLeDiff, Nat.reduceEqDiff, Nat.reduceBEq, Nat.reduceBNe, Int.reduceLT, Int.reduceLE, Int.reduceAdd, Int.reduceSub, Int.reduceMul, Int.reduceNeg, Int.reduceNe, Int.reduceBEq, Int.reduceBNe, Int.reduceToNat, hH, hs', h1, low_flt]
  | ok n q =>
    have hn := rU32_le hr
    rw [hr] at h1
    simp only [outC] at h1
    have hH2 : hget (Pi.hset H c (curB z b q)) c = some (curB z b q) := get_set hid
    by_cases h2 : most < n
    · refine ⟨q, ?_⟩
      have c1 : (most : Int) < n := by omega
      simp only [h2, if_true, outC]
      unfold curB at hH h1 ⊢
      simp (contextual := true) (dsimp := false) (disch := omega) only [↓goDown, goUp, List.length_cons, List.length_nil, List.map_cons, List.map_nil, List.take_succ_cons, List.take_zero, List.drop_succ_cons, List.drop_zero, List.drop_nil, List.take_nil, List.cons_append, List.nil_append, List.append_nil, List.set_cons_zero, List.set_cons_succ, List.all_cons, List.all_nil, ↓reduceIte, reduceCtorEq, ge_iff_le, gt_iff_lt, eq_self_iff_true, beq_self_eq_true, beq_iff_eq, bne_iff_ne, ne_eq, ite_not, Int.reduceEq, Option.getD_some, Option.getD_none, ite_self, Nat.reduceAdd, Nat.reduceSub, Nat.reduceMul, Nat.reduceLeDiff, Nat.reduceEqDiff, Nat.reduceBEq, Nat.reduceBNe, Int.reduceLT, Int.reduceLE, Int.reduceAdd, Int.reduceSub, Int.reduceMul, Int.reduceNeg, Int.reduceNe, Int.reduceBEq, Int.reduceBNe, Int.reduceToNat, hH, hs', h1, c1, fail_is]
      rfl
    · have c1 : ¬ (most : Int) < n := by omega
      obtain ⟨q2, h3⟩ := intList_loop hb hle (v6 := .slice false true 0 []) hone n 0 n q [] (Pi.hset H c (curB z b q)) hH2 hn.1 (by omega) rfl (by omega)
      have h3 : run (p_entry_list_int_11111010 one (.slice false true 0 []) (.slice false true 0 []) (.int .u32 n) (.int .u32 0)) (Pi.hset H c (curB z b q)) = outC z b c (Pi.hset H c (curB z b q)) q2 (fun l => accP 1 (l.map encI)) (rRep rd n q) := h3
      refine ⟨q2, ?_⟩
      simp only [h2, if_false]
      cases hr2 : rRep rd n q <;> rw [hr2] at h3 <;> simp only [outC, set_set] at h3 ⊢ <;> unfold curB at hH h1 h3 ⊢ <;>
        simp (contextual := true) (dsimp := false) (disch := omega) only [↓goDown, goUp, List.length_cons, List.length_nil, List.map_cons, List.map_nil, List.take_succ_cons, List.take_zero, List.drop_succ_cons, List.drop_zero, List.drop_nil, List.take_nil, List.cons_append, List.nil_append, List.append_nil, List.set_cons_zero, List.set_cons_succ, List.all_cons, List.all_nil, ↓reduceIte, reduceCtorEq, ge_iff_le, gt_iff_lt, eq_self_iff_true, beq_self_eq_true, beq_iff_eq, bne_iff_ne, ne_eq, ite_not, Int.reduceEq, Option.getD_some, Option.getD_none, ite_self, Nat.reduceAdd, Nat.reduceSub, Nat.reduceMul, Nat.reduceLeDiff, Nat.reduceEqDiff, Nat.reduceBEq, Nat.reduceBNe, Int.reduceLT, Int.reduceLE, Int.reduceAdd, Int.reduceSub, Int.reduceMul, Int.reduceNeg, Int.reduceNe, Int.reduceBEq, Int.reduceBNe, Int.reduceToNat, hH, hs', h1, c1, p_entry_list_int_1111_eq, h3, low_acc, low_flt, isTup_acc]
theorem subList_loop {b : List UInt8} {z : Bool} (hb : b.length < 2 ^ 61) {rd : Nat → Rs ST} (hle : ∀ p v q, rd p = .ok v q → q ≤ b.length) {one : PV} {c : Nat} {v6 : PV} (hone : ∀ H p, hget H c = some (curB z b p) → p ≤ b.length → ∃ q, run (callV P C (strip one) []) H = outC z b c H q encS (rd p)) :
    ∀ (m i n p : Nat) (acc : List ST) (H : Heap), hget H c = some (curB z b p) → p ≤ b.length → n = i + m → acc.length = i → n ≤ 1000000 →
      ∃ q, run (p_entry_list_api_SubType_11111010 one v6 (accP 6 (acc.map encS)) (.int .u32 n) (.int .u32 i)) H = outC z b c H q (fun l => accP 6 ((acc ++ l).map encS)) (rRep rd m p)
  | 0, i, n, p, acc, H, hH, hp, hn, ha, hm => by
    refine ⟨p, ?_⟩
    rw [p_entry_list_api_SubType_11111010_eq]
    have c1 : ¬ (i : Int) < n := by omega
    have hset := set_self hH
    unfold rRep
    simp only [outC, hset, List.append_nil]
    simp (contextual := true) (dsimp := false) (disch := omega) only [↓goDown, goUp, List.length_cons, List.length_nil, List.map_cons, List.map_nil, List.take_succ_cons, List.take_zero, List.drop_succ_cons, List.drop_zero, List.drop_nil, List.take_nil, List.cons_append, List.nil_append, List.append_nil, List.set_cons_zero, List.set_cons_succ, List.all_cons, List.all_nil, ↓reduceIte, reduceCtorEq, ge_iff_le, gt_iff_lt, eq_self_iff_true, beq_self_eq_true, beq_iff_eq, bne_iff_ne, ne_eq, ite_not, Int.reduceEq, Option.getD_some, Option.getD_none, ite_self, Nat.reduceAdd, Nat.reduceSub, Nat.reduceMul, Nat.reduceLeDiff, Nat.reduceEqDiff, Nat.reduceBEq, Nat.reduceBNe, Int.reduceLT, Int.reduceLE, Int.reduceAdd, Int.reduceSub, Int.reduceMul, Int.reduceNeg, Int.reduceNe, Int.reduceBEq, Int.reduceBNe, Int.reduceToNat, c1, isTup_acc]
  | m + 1, i, n, p, acc, H, hH, hp, hn, ha, hm => by
    rw [p_entry_list_api_SubType_11111010_eq]
    have c1 : (i : Int) < n := by omega
    have hid := get_lt hH
    obtain ⟨q, h1⟩ := hone H p hH hp
    unfold rRep
    cases hr : rd p with
    | err a w =>
      rw [hr] at h1
      simp only [outC] at h1
      refine ⟨q, ?_⟩
      simp only [outC]
      simp (contextual := true) (dsimp := false) (disch := omega) only [↓goDown, goUp, List.length_cons, List.length_nil, List.map_cons, List.map_nil, List.take_succ_cons, List.take_zero, List.drop_succ_cons, List.drop_zero, List.drop_nil, List.take_nil, List.cons_append, List.nil_append, List.append_nil, List.set_cons_zero, List.set_cons_succ, List.all_cons, List.all_nil, ↓reduceIte, reduceCtorEq, ge_iff_le, gt_iff_lt, eq_self_iff_true, beq_self_eq_true, beq_iff_eq, bne_iff_ne, ne_eq, ite_not, Int.reduceEq, Option.getD_some, Option.getD_none, ite_self, Nat.reduceAdd, Nat.reduceSub, Nat.reduceMul, Nat.reduceLeDiff, Nat.reduceEqDiff, Nat.reduceBEq, Nat.reduceBNe, Int.reduceLT, Int.reduceLE, Int.reduceAdd, Int.reduceSub, Int.reduceMul, Int.reduceNeg, Int.reduceNe, Int.reduceBEq, Int.reduceBNe, Int.reduceToNat, c1, h1]
    | ok v q' =>
      rw [hr] at h1
      simp only [outC] at h1
      have hl := hle _ _ _ hr
      obtain ⟨q2, h2⟩ := subList_loop hb hle hone m (i + 1) n q' (acc ++ [v]) (Pi.hset H c (curB z b q')) (get_set hid) hl (by omega) (by simp [ha]) hm
      refine ⟨q2, ?_⟩
      have hbs := fun K => bs_S (v := v) (K := K)
      have hap := fun K => ap_acc (H := K) (sz := 6) (b := 112) (l := acc.map encS) (v := encS v) (o := true) (by simp [ha]; omega)
      have e1 : accP 6 (acc.map encS ++ [encS v]) = accP 6 ((acc ++ [v]).map encS) := by simp
      have e2 : (i : Int) + 1 = ((i + 1 : Nat) : Int) := rfl
      rw [e1] at hap
      have hrr : outC z b c (Pi.hset H c (curB z b q')) q2 (fun l => accP 6 ((acc ++ [v] ++ l).map encS)) (rRep rd m q') = outC z b c H q2 (fun l => accP 6 ((acc ++ l).map encS)) (rsCons v (rRep rd m q')) := by
        cases rRep rd m q' <;> simp only [outC, set_set, rsCons] <;> simp
      simp (contextual := true) (dsimp := false) (disch := omega) only [↓goDown, goUp, List.length_cons, List.length_nil, List.map_cons, List.map_nil, List.take_succ_cons, List.take_zero, List.drop_succ_cons, List.drop_zero, List.drop_nil, List.take_nil, List.cons_append, List.nil_append, List.append_nil, List.set_cons_zero, List.set_cons_succ, List.all_cons, List.all_nil, ↓reduceIte, reduceCtorEq, ge_iff_le, gt_iff_lt, eq_self_iff_true, beq_self_eq_true, beq_iff_eq, bne_iff_ne, ne_eq, ite_not, Int.reduceEq, Option.getD_some, Option.getD_none, ite_self, Nat.reduceAdd, Nat.reduceSub, Nat.reduceMul, Nat.reduceLeDiff, Nat.reduceEqDiff, Nat.reduceBEq, Nat.reduceBNe, Int.reduceLT, Int.reduceLE, Int.reduceAdd, Int.reduceSub, Int.reduceMul, Int.reduceNeg, Int.reduceNe, Int.reduceBEq, Int.reduceBNe, Int.reduceToNat, c1, h1, hbs, hap, e2, strip_Su, stripC_Su, isTup_Su, low_Su]
      rw [h2]
      exact hrr
theorem subList_is {b : List UInt8} {z : Bool} (hb : b.length < 2 ^ 61) {rd : Nat → Rs ST} (hle : ∀ p v q, rd p = .ok v q → q ≤ b.length) {one : PV} {c most : Nat} (hmost : most ≤ 1000000) (hone : ∀ H p, hget H c = some (curB z b p) → p ≤ b.length → ∃ q, run (callV P C (strip one) []) H = outC z b c H q encS (rd p))
    {H : Heap} {p : Nat} (hH : hget H c = some (curB z b p)) (hp : p ≤ b.length) :
    ∃ q, run (C k_entry_list_api_SubType [.ptr c 0, .int .u32 most, one]) H = outC z b c H q (fun l => accP 6 (l.map encS)) (rList b most rd p) := by
  have hid := get_lt hH
  have hset := set_self hH
  have hs' : Pi.hset H c (.cells [BS z b, .int .i64 p]) = H := hset
  have h1 := u32_is hH hb hp
  rw [entry_list_api_SubType_eq]
  unfold rList
  cases hr : rU32 b p with
  | err a w =>
    rw [hr] at h1
    simp only [outC, hset] at h1
    refine ⟨p, ?_⟩
    simp only [outC, hset]
    unfold curB at hH
    simp (contextual := true) (dsimp := false) (disch := omega) only [↓goDown, goUp, List.length_cons, List.length_nil, List.map_cons, List.map_nil, List.take_succ_cons, List.take_zero, List.drop_succ_cons, List.drop_zero, List.drop_nil, List.take_nil, List.cons_append, List.nil_append, List.append_nil, List.set_cons_zero, List.set_cons_succ, List.all_cons, List.all_nil, ↓reduceIte, reduceCtorEq, ge_iff_le, gt_iff_lt, eq_self_iff_true, beq_self_eq_true, beq_iff_eq, bne_iff_ne, ne_eq, ite_not, Int.reduceEq, Option.getD_some, Option.getD_none, ite_self, Nat.reduceAdd, Nat.reduceSub, Nat.reduceMul, Nat.reduceLeDiff, Nat.reduceEqDiff, Nat.reduceBEq, Nat.reduceBNe, Int.reduceLT, Int.reduceLE, Int.reduceAdd, Int.reduceSub, Int.reduceMul, Int.reduceNeg, Int.reduceNe, Int.reduceBEq, Int.reduceBNe, Int.reduceToNat, hH, hs', h1, low_flt]
  | ok n q =>
    have hn := rU32_le hr
    rw [hr] at h1
    simp only [outC] at h1
    have hH2 : hget (Pi.hset H c (curB z b q)) c = some (curB z b q) := get_set hid
    by_cases h2 : most < n
    · refine ⟨q, ?_⟩
      have c1 : (most : Int) < n := by omega
      simp only [h2, if_true, outC]
      unfold curB at hH h1 ⊢
      simp (contextual := true) (dsimp := false) (disch := omega) only [↓goDown, goUp, List.length_cons, List.length_nil, List.map_cons, List.map_nil, List.take_succ_cons, List.take_zero, List.drop_succ_cons, List.drop_zero, List.drop_nil, List.take_nil, List.cons_append, List.nil_append, List.append_nil, List.set_cons_zero, List.set_cons_succ, List.all_cons, List.all_nil, ↓reduceIte, reduceCtorEq, ge_iff_le, gt_iff_lt, eq_self_iff_true, beq_self_eq_true, beq_iff_eq, bne_iff_ne, ne_eq, ite_not, Int.reduceEq, Option.getD_some, Option.getD_none, ite_self, Nat.reduceAdd, Nat.reduceSub, Nat.reduceMul, Nat.reduceLeDiff, Nat.reduceEqDiff, Nat.reduceBEq, Nat.reduceBNe, Int.reduceLT, Int.reduceLE, Int.reduceAdd, Int.reduceSub, Int.reduceMul, Int.reduceNeg, Int.reduceNe, Int.reduceBEq, Int.reduceBNe, Int.reduceToNat, hH, hs', h1, c1, fail_is]
      rfl
    · have c1 : ¬ (most : Int) < n := by omega
      obtain ⟨q2, h3⟩ := subList_loop hb hle (v6 := .slice false true 0 []) hone n 0 n q [] (Pi.hset H c (curB z b q)) hH2 hn.1 (by omega) rfl (by omega)
      have h3 : run (p_entry_list_api_SubType_11111010 one (.slice false true 0 []) (.slice false true 0 []) (.int .u32 n) (.int .u32 0)) (Pi.hset H c (curB z b q)) = outC z b c (Pi.hset H c (curB z b q)) q2 (fun l => accP 6 (l.map encS)) (rRep rd n q) := h3
      refine ⟨q2, ?_⟩
      simp only [h2, if_false]
      cases hr2 : rRep rd n q <;> rw [hr2] at h3 <;> simp only [outC, set_set] at h3 ⊢ <;> unfold curB at hH h1 h3 ⊢ <;>
        simp (contextual := true) (dsimp := false) (disch := omega) only [↓goDown, goUp, List.length_cons, List.length_nil, List.map_cons, List.map_nil, List.take_succ_cons, List.take_zero, List.drop_succ_cons, List.drop_zero, List.drop_nil, List.take_nil, List.cons_append, List.nil_append, List.append_nil, List.set_cons_zero, List.set_cons_succ, List.all_cons, List.all_nil, ↓reduceIte, reduceCtorEq, ge_iff_le, gt_iff_lt, eq_self_iff_true, beq_self_eq_true, beq_iff_eq, bne_iff_ne, ne_eq, ite_not, Int.reduceEq, Option.getD_some, Option.getD_none, ite_self, Nat.reduceAdd, Nat.reduceSub, Nat.reduceMul, Nat.reduceLeDiff, Nat.reduceEqDiff, Nat.reduceBEq, Nat.reduceBNe, Int.reduceLT, Int.reduceLE, Int.reduceAdd, Int.reduceSub, Int.reduceMul, Int.reduceNeg, Int.reduceNe, Int.reduceBEq, Int.reduceBNe, Int.reduceToNat, hH, hs', h1, c1, p_entry_list_api_SubType_1111_eq, h3, low_acc, low_flt, isTup_acc]
end Go.Proofs.Ytofbbijagbpicaa.Pi.Q
/- The program's readers of composite types, types and groups. -/
namespace Go.Proofs.Ytofbbijagbpicaa.Pi.Q
open Go Go.Proofs.Ytofbbijagbpicaa.Pi
set_option linter.unusedVariables false
set_option linter.unusedSimpArgs false
set_option maxRecDepth 100000
attribute [local congr] ite_congr
theorem bsR_F {v : FT} {K : Heap} : bsR true (some 4) [encF v] K = some (.ok (.slice true false 4 [encF v]) K) := by
  have := bs_F (v := v) (K := K)
  rw [run_bs] at this
  simpa [stripC_F] using this
theorem cells_F1 {v : FT} : (PV.slice true false 4 [encF v]).cells = [.slice true false 4 [encF v]] := nrfl rfl
theorem rVals_le {b : List UInt8} {p q : Nat} {l : List VT} (h : rVals b p = .ok l q) : q ≤ b.length := (rList_le (fun p v q h => rVal_le h) h).1
def rFields (b : List UInt8) (p : Nat) : Rs (List FT) := rList b 10000 (rField b) p
theorem rFields_le {b : List UInt8} {p q : Nat} {l : List FT} (h : rFields b p = .ok l q) : q ≤ b.length := (rList_le (fun p v q h => rField_le h) h).1
def rsFunc (ps : List VT) : Rs (List VT) → Rs CT
  | .ok rs q => .ok ⟨1, ps, rs, []⟩ q
  | .err a w => .err a w
def rsStruct : Rs (List FT) → Rs CT
  | .ok fs q => .ok ⟨2, [], [], fs⟩ q
  | .err a w => .err a w
def rsArray : Rs FT → Rs CT
  | .ok f q => .ok ⟨3, [], [], [f]⟩ q
  | .err a w => .err a w
def rFunc (b : List UInt8) (p : Nat) : Rs CT :=
  match rVals b p with
  | .ok ps q => rsFunc ps (rVals b q)
  | .err a w => .err a w
def rComp (b : List UInt8) (p : Nat) : Rs CT :=
  if p < b.length then
    if (b.getD p 0).toNat = 96 then rFunc b (p + 1)
    else if (b.getD p 0).toNat = 95 then rsStruct (rFields b (p + 1))
    else if (b.getD p 0).toNat = 94 then rsArray (rField b (p + 1))
    else .err p 4
  else .err b.length 3
theorem rComp_le {b : List UInt8} {p q : Nat} {v : CT} (h : rComp b p = .ok v q) : q ≤ b.length := by
  unfold rComp at h
  split at h
  · split at h
    · unfold rFunc at h
      cases h1 : rVals b (p + 1) with
      | ok ps q1 =>
        rw [h1] at h
        dsimp only at h
        cases h2 : rVals b q1 with
        | ok rs q2 => rw [h2] at h; simp only [rsFunc, Rs.ok.injEq] at h; have := rVals_le h2; omega
        | err a w => rw [h2] at h; cases h
      | err a w => rw [h1] at h; cases h
    · split at h
      · cases h1 : rFields b (p + 1) with
        | ok fs q1 => rw [h1] at h; simp only [rsStruct, Rs.ok.injEq] at h; have := rFields_le h1; omega
        | err a w => rw [h1] at h; cases h
      · split at h
        · cases h1 : rField b (p + 1) with
          | ok fs q1 => rw [h1] at h; simp only [rsArray, Rs.ok.injEq] at h; have := rField_le h1; omega
          | err a w => rw [h1] at h; cases h
        · cases h
  · cases h
theorem fields_is {b : List UInt8} {z : Bool} (hb : b.length < 2 ^ 61) {c : Nat} {H : Heap} {p : Nat} (hH : hget H c = some (curB z b p)) (hp : p ≤ b.length) :
    ∃ q, run (C k_entry_list_api_Field [.ptr c 0, .int .u32 10000, .fn k_entry_cursor_field [.ptr c 0] []]) H = outC z b c H q (fun l => accP 4 (l.map encF)) (rFields b p) :=
  fieldList_is hb (fun p v q h => rField_le h) (one := .fn k_entry_cursor_field [.ptr c 0] []) (most := 10000) (by omega) (fun H p hH hp => by
    obtain ⟨q, h⟩ := field_is hH hb hp
    exact ⟨q, h⟩) hH hp
theorem comp_is {H : Heap} {b : List UInt8} {z : Bool} {c p : Nat} (hH : hget H c = some (curB z b p)) (hb : b.length < 2 ^ 61) (hp : p ≤ b.length) :
    ∃ q, run (C k_entry_cursor_comp [.ptr c 0]) H = outC z b c H q encC (rComp b p) := by
  have hid := get_lt hH
  have hset := set_self hH
  rw [entry_cursor_comp_eq]
  unfold rComp
  have hH1 : ∀ L, hget (hadd H L) c = some (curB z b p) := fun L => by rw [get_old hid]; exact hH
  have so : ∀ u L, Pi.hset (hadd H L) c (curB z b u) = hadd (Pi.hset H c (curB z b u)) L := fun u L => by rw [set_old hid]
  have so1 : ∀ u y L, Pi.hset (hadd (Pi.hset H c (curB z b y)) L) c (curB z b u) = hadd (Pi.hset H c (curB z b u)) L := fun u y L => by rw [set_old1 hid, set_set]
  have hH2 : ∀ u L, hget (hadd (Pi.hset H c (curB z b u)) L) c = some (curB z b u) := fun u L => by rw [get_old (by rw [len_set]; exact hid)]; exact get_set hid
  have hc3 : ∀ u, Pi.hset H c (.cells [BS z b, .int .i64 (u : Nat)]) = Pi.hset H c (curB z b u) := fun u => rfl
  by_cases h1 : p < b.length
  · have hl := fun L => look_ok (hH1 L) hb h1
    have hc := byt_lt (b.getD p 0)
    rw [if_pos h1]
    generalize (b.getD p 0).toNat = x at hl hc ⊢
    have st0 : hget H c = some (.cells [BS z b, .int .i64 p]) := hH
    by_cases h2 : x = 96
    · rw [if_pos h2]
      have c1 : (x : Int) = 96 := by omega
      obtain ⟨q, hk⟩ := vals_is hb (hH2 (p + 1) [.cells [.int .i64 0, .slice false true 0 [], .slice false true 0 [], .slice false true 0 []]]) (show p + 1 ≤ b.length by omega)
      unfold rFunc
      cases hr : rVals b (p + 1) with
      | err a w =>
        refine ⟨q, ?_⟩
        simp only [hr, outC, so1] at hk ⊢
        unfold curB at hk
        simp only [ns] at hk
        simp (contextual := true) (dsimp := false) (disch := omega) only [↓goDown, goUp, List.length_cons, List.length_nil, List.map_cons, List.map_nil, List.take_succ_cons, List.take_zero, List.drop_succ_cons, List.drop_zero, List.drop_nil, List.take_nil, List.cons_append, List.nil_append, List.append_nil, List.set_cons_zero, List.set_cons_succ, List.all_cons, List.all_nil, ↓reduceIte, reduceCtorEq, ge_iff_le, gt_iff_lt, eq_self_iff_true, beq_self_eq_true, beq_iff_eq, bne_iff_ne, ne_eq, ite_not, Int.reduceEq, Option.getD_some, Option.getD_none, ite_self, Nat.reduceAdd, Nat.reduceSub, Nat.reduceMul, Nat.reduceLeDiff, Nat.reduceEqDiff, Nat.reduceBEq, Nat.reduceBNe, Int.reduceLT, Int.reduceLE, Int.reduceAdd, Int.reduceSub, Int.reduceMul, Int.reduceNeg, Int.reduceNe, Int.reduceBEq, Int.reduceBNe, Int.reduceToNat, hl, eq_true c1, st0, hk, low_flt]
        rfl
      | ok ps q1 =>
        obtain ⟨q2, hk2⟩ := vals_is hb (hH2 q1 [.cells [.int .i64 0, .slice false true 0 [], .slice false true 0 [], .slice false true 0 []], .cells [.int .i64 1, shutP 3 (ps.map encV), .slice false true 0 [], .slice false true 0 []]]) (rVals_le hr)
        refine ⟨q2, ?_⟩
        simp only [hr, outC, so1, encL] at hk ⊢
        unfold curB at hk
        simp only [ns] at hk
        cases hs : rVals b q1 <;> simp only [hs, outC, so1, encL, rsFunc] at hk2 ⊢ <;> unfold curB at hk2 <;>
          simp (contextual := true) (dsimp := false) (disch := omega) only [↓goDown, goUp, List.length_cons, List.length_nil, List.map_cons, List.map_nil, List.take_succ_cons, List.take_zero, List.drop_succ_cons, List.drop_zero, List.drop_nil, List.take_nil, List.cons_append, List.nil_append, List.append_nil, List.set_cons_zero, List.set_cons_succ, List.all_cons, List.all_nil, ↓reduceIte, reduceCtorEq, ge_iff_le, gt_iff_lt, eq_self_iff_true, beq_self_eq_true, beq_iff_eq, bne_iff_ne, ne_eq, ite_not, Int.reduceEq, Option.getD_some, Option.getD_none, ite_self, Nat.reduceAdd, Nat.reduceSub, Nat.reduceMul, Nat.reduceLeDiff, Nat.reduceEqDiff, Nat.reduceBEq, Nat.reduceBNe, Int.reduceLT, Int.reduceLE, Int.reduceAdd, Int.reduceSub, Int.reduceMul, Int.reduceNeg, Int.reduceNe, Int.reduceBEq, Int.reduceBNe, Int.reduceToNat, hl, eq_true c1, st0, hk, hk2, low_flt, cells_acc, stripC_acc, isCell_acc, low_acc, isTup_acc, cells_P, isCell_P, low_P, stripC_P, isTup_P]
        · rfl
        · rfl
    · rw [if_neg h2]
      have c1 : ¬ (x : Int) = 96 := by omega
      by_cases h3 : x = 95
      · rw [if_pos h3]
        have c2 : (x : Int) = 95 := by omega
        obtain ⟨q, hk⟩ := fields_is hb (hH2 (p + 1) [.cells [.int .i64 0, .slice false true 0 [], .slice false true 0 [], .slice false true 0 []]]) (show p + 1 ≤ b.length by omega)
        refine ⟨q, ?_⟩
        cases hr : rFields b (p + 1) <;> simp only [hr, outC, so1, rsStruct] at hk ⊢ <;> unfold curB at hk <;> simp only [ns] at hk <;>
          simp (contextual := true) (dsimp := false) (disch := omega) only [↓goDown, goUp, List.length_cons, List.length_nil, List.map_cons, List.map_nil, List.take_succ_cons, List.take_zero, List.drop_succ_cons, List.drop_zero, List.drop_nil, List.take_nil, List.cons_append, List.nil_append, List.append_nil, List.set_cons_zero, List.set_cons_succ, List.all_cons, List.all_nil, ↓reduceIte, reduceCtorEq, ge_iff_le, gt_iff_lt, eq_self_iff_true, beq_self_eq_true, beq_iff_eq, bne_iff_ne, ne_eq, ite_not, Int.reduceEq, Option.getD_some, Option.getD_none, ite_self, Nat.reduceAdd, Nat.reduceSub, Nat.reduceMul, Nat.reduceLeDiff, Nat.reduceEqDiff, Nat.reduceBEq, Nat.reduceBNe, Int.reduceLT, Int.reduceLE, Int.reduceAdd, Int.reduceSub, Int.reduceMul, Int.reduceNeg, Int.reduceNe, Int.reduceBEq, Int.reduceBNe, Int.reduceToNat, hl, c1, eq_true c2, st0, run_mf, hk, low_flt, cells_acc, stripC_acc, isCell_acc, low_acc, isTup_acc, cells_P, isCell_P, low_P, stripC_P, isTup_P]
        · rfl
        · rfl
      · rw [if_neg h3]
        have c2 : ¬ (x : Int) = 95 := by omega
        by_cases h4 : x = 94
        · rw [if_pos h4]
          have c3 : (x : Int) = 94 := by omega
          obtain ⟨q, hk⟩ := field_is (hH2 (p + 1) [.cells [.int .i64 0, .slice false true 0 [], .slice false true 0 [], .slice false true 0 []]]) hb (show p + 1 ≤ b.length by omega)
          refine ⟨q, ?_⟩
          cases hr : rField b (p + 1) <;> simp only [hr, outC, so1, rsArray] at hk ⊢ <;> unfold curB at hk <;> simp only [ns] at hk <;>
            simp (contextual := true) (dsimp := false) (disch := omega) only [↓goDown, goUp, List.length_cons, List.length_nil, List.map_cons, List.map_nil, List.take_succ_cons, List.take_zero, List.drop_succ_cons, List.drop_zero, List.drop_nil, List.take_nil, List.cons_append, List.nil_append, List.append_nil, List.set_cons_zero, List.set_cons_succ, List.all_cons, List.all_nil, ↓reduceIte, reduceCtorEq, ge_iff_le, gt_iff_lt, eq_self_iff_true, beq_self_eq_true, beq_iff_eq, bne_iff_ne, ne_eq, ite_not, Int.reduceEq, Option.getD_some, Option.getD_none, ite_self, Nat.reduceAdd, Nat.reduceSub, Nat.reduceMul, Nat.reduceLeDiff, Nat.reduceEqDiff, Nat.reduceBEq, Nat.reduceBNe, Int.reduceLT, Int.reduceLE, Int.reduceAdd, Int.reduceSub, Int.reduceMul, Int.reduceNeg, Int.reduceNe, Int.reduceBEq, Int.reduceBNe, Int.reduceToNat, hl, c1, c2, eq_true c3, st0, hk, low_flt, bs_F, bsR_F, stripC_F, cells_F1, cells_acc, stripC_acc, isCell_acc, low_acc, isTup_acc, cells_P, isCell_P, low_P, stripC_P, isTup_P, low_F]
          · rfl
          · rfl
        · rw [if_neg h4]
          have c3 : ¬ (x : Int) = 94 := by omega
          refine ⟨p + 1, ?_⟩
          simp only [outC]
          have e1 : (p : Int) + 1 - 1 = p := by omega
          simp (contextual := true) (dsimp := false) (disch := omega) only [↓goDown, goUp, List.length_cons, List.length_nil, List.map_cons, List.map_nil, List.take_succ_cons, List.take_zero, List.drop_succ_cons, List.drop_zero, List.drop_nil, List.take_nil, List.cons_append, List.nil_append, List.append_nil, List.set_cons_zero, List.set_cons_succ, List.all_cons, List.all_nil, ↓reduceIte, reduceCtorEq, ge_iff_le, gt_iff_lt, eq_self_iff_true, beq_self_eq_true, beq_iff_eq, bne_iff_ne, ne_eq, ite_not, Int.reduceEq, Option.getD_some, Option.getD_none, ite_self, Nat.reduceAdd, Nat.reduceSub, Nat.reduceMul, Nat.reduceLeDiff, Nat.reduceEqDiff, Nat.reduceBEq, Nat.reduceBNe, Int.reduceLT, Int.reduceLE, Int.reduceAdd, Int.reduceSub, Int.reduceMul, Int.reduceNeg, Int.reduceNe, Int.reduceBEq, Int.reduceBNe, Int.reduceToNat, hl, c1, c2, c3, st0, fail_is, e1]
          rfl
  · refine ⟨p, ?_⟩
    have hl := fun L => look_err (hH1 L) hb h1
    rw [if_neg h1]
    simp only [outC, hset]
    simp (contextual := true) (dsimp := false) (disch := omega) only [↓goDown, goUp, List.length_cons, List.length_nil, List.map_cons, List.map_nil, List.take_succ_cons, List.take_zero, List.drop_succ_cons, List.drop_zero, List.drop_nil, List.take_nil, List.cons_append, List.nil_append, List.append_nil, List.set_cons_zero, List.set_cons_succ, List.all_cons, List.all_nil, ↓reduceIte, reduceCtorEq, ge_iff_le, gt_iff_lt, eq_self_iff_true, beq_self_eq_true, beq_iff_eq, bne_iff_ne, ne_eq, ite_not, Int.reduceEq, Option.getD_some, Option.getD_none, ite_self, Nat.reduceAdd, Nat.reduceSub, Nat.reduceMul, Nat.reduceLeDiff, Nat.reduceEqDiff, Nat.reduceBEq, Nat.reduceBNe, Int.reduceLT, Int.reduceLE, Int.reduceAdd, Int.reduceSub, Int.reduceMul, Int.reduceNeg, Int.reduceNe, Int.reduceBEq, Int.reduceBNe, Int.reduceToNat, hl, low_flt]
end Go.Proofs.Ytofbbijagbpicaa.Pi.Q
/- The program's readers of types and groups. -/
namespace Go.Proofs.Ytofbbijagbpicaa.Pi.Q
open Go Go.Proofs.Ytofbbijagbpicaa.Pi
set_option linter.unusedVariables false
set_option linter.unusedSimpArgs false
set_option maxRecDepth 100000
attribute [local congr] ite_congr
def rSupers (b : List UInt8) (p : Nat) : Rs (List Int) := rList b 1000 (rIndex b) p
theorem rSupers_le {b : List UInt8} {p q : Nat} {l : List Int} (h : rSupers b p = .ok l q) : q ≤ b.length := (rList_le (fun p v q h => rIndex_le h) h).1
def rsSub (f : Bool) (s : List Int) : Rs CT → Rs ST
  | .ok c q => .ok ⟨f, s, c⟩ q
  | .err a w => .err a w
def rSubs (b : List UInt8) (f : Bool) (p : Nat) : Rs ST :=
  match rSupers b p with
  | .ok s q => rsSub f s (rComp b q)
  | .err a w => .err a w
def rSub (b : List UInt8) (p : Nat) : Rs ST :=
  if p < b.length then
    if (b.getD p 0).toNat = 80 then rSubs b false (p + 1)
    else if (b.getD p 0).toNat = 79 then rSubs b true (p + 1)
    else rsSub true [] (rComp b p)
  else .err b.length 3
theorem rsSub_le {b : List UInt8} {f : Bool} {s : List Int} {p q : Nat} {v : ST} (h : rsSub f s (rComp b p) = .ok v q) : q ≤ b.length := by
  cases h1 : rComp b p with
  | ok c q1 => rw [h1] at h; simp only [rsSub, Rs.ok.injEq] at h; have := rComp_le h1; omega
  | err a w => rw [h1] at h; cases h
theorem rSubs_le {b : List UInt8} {f : Bool} {p q : Nat} {v : ST} (h : rSubs b f p = .ok v q) : q ≤ b.length := by
  unfold rSubs at h
  cases h1 : rSupers b p with
  | ok s q1 => rw [h1] at h; exact rsSub_le h
  | err a w => rw [h1] at h; cases h
theorem rSub_le {b : List UInt8} {p q : Nat} {v : ST} (h : rSub b p = .ok v q) : q ≤ b.length := by
  unfold rSub at h
  split at h
  · split at h
    · exact rSubs_le h
    · split at h
      · exact rSubs_le h
      · exact rsSub_le h
  · cases h
theorem supers_is {b : List UInt8} {z : Bool} (hb : b.length < 2 ^ 61) {c : Nat} {H : Heap} {p : Nat} (hH : hget H c = some (curB z b p)) (hp : p ≤ b.length) :
    ∃ q, run (C k_entry_list_int [.ptr c 0, .int .u32 1000, .fn k_entry_cursor_index [.ptr c 0] []]) H = outC z b c H q (fun l => accP 1 (l.map encI)) (rSupers b p) :=
  intList_is hb (fun p v q h => rIndex_le h) (one := .fn k_entry_cursor_index [.ptr c 0] []) (most := 1000) (by omega) (fun H p hH hp => by
    obtain ⟨q, h⟩ := index_is hH hb hp
    exact ⟨q, h⟩) hH hp
theorem cells_C {v : CT} : (encC v).cells = csC v := nrfl rfl
theorem sub_is {H : Heap} {b : List UInt8} {z : Bool} {c p : Nat} (hH : hget H c = some (curB z b p)) (hb : b.length < 2 ^ 61) (hp : p ≤ b.length) :
    ∃ q, run (C k_entry_cursor_sub [.ptr c 0]) H = outC z b c H q encS (rSub b p) := by
  have hid := get_lt hH
  have hset := set_self hH
  rw [entry_cursor_sub_eq]
  unfold rSub
  have hH1 : ∀ L, hget (hadd H L) c = some (curB z b p) := fun L => by rw [get_old hid]; exact hH
  have so : ∀ u L, Pi.hset (hadd H L) c (curB z b u) = hadd (Pi.hset H c (curB z b u)) L := fun u L => by rw [set_old hid]
  have so1 : ∀ u y L, Pi.hset (hadd (Pi.hset H c (curB z b y)) L) c (curB z b u) = hadd (Pi.hset H c (curB z b u)) L := fun u y L => by rw [set_old1 hid, set_set]
  have hH2 : ∀ u L, hget (hadd (Pi.hset H c (curB z b u)) L) c = some (curB z b u) := fun u L => by rw [get_old (by rw [len_set]; exact hid)]; exact get_set hid
  have st0 : hget H c = some (.cells [BS z b, .int .i64 p]) := hH
  by_cases h1 : p < b.length
  · have hl := fun L => look_ok (hH1 L) hb h1
    have hc := byt_lt (b.getD p 0)
    rw [if_pos h1]
    generalize (b.getD p 0).toNat = x at hl hc ⊢
    by_cases h2 : x = 80
    · rw [if_pos h2]
      have c1 : (x : Int) = 80 := by omega
      have c2 : ¬ (x : Int) = 79 := by omega
      have c3 : ((x : Int) == 79) = false := beq_false_of_ne c2
      obtain ⟨q, hk⟩ := supers_is hb (hH2 (p + 1) [.cells [.bool false, .slice false true 0 [], .int .i64 0, .slice false true 0 [], .slice false true 0 [], .slice false true 0 []]]) (show p + 1 ≤ b.length by omega)
      unfold rSubs
      cases hr : rSupers b (p + 1) with
      | err a w =>
        refine ⟨q, ?_⟩
        simp only [hr, outC, so1] at hk ⊢
        unfold curB at hk
        simp only [ns] at hk
        simp (contextual := true) (dsimp := false) (disch := omega) only [↓goDown, goUp, List.length_cons, List.length_nil, List.map_cons, List.map_nil, List.take_succ_cons, List.take_zero, List.drop_succ_cons, List.drop_zero, List.drop_nil, List.take_nil, List.cons_append, List.nil_append, List.append_nil, List.set_cons_zero, List.set_cons_succ, List.all_cons, List.all_nil, ↓reduceIte, reduceCtorEq, ge_iff_le, gt_iff_lt, eq_self_iff_true, beq_self_eq_true, beq_iff_eq, bne_iff_ne, ne_eq, ite_not, Int.reduceEq, Option.getD_some, Option.getD_none, ite_self, Nat.reduceAdd, Nat.reduceSub, Nat.reduceMul, Nat.reduceLeDiff, Nat.reduceEqDiff, Nat.reduceBEq, Nat.reduceBNe, Int.reduceLT, Int.reduceLE, Int.reduceAdd, Int.reduceSub, Int.reduceMul, Int.reduceNeg, Int.reduceNe, Int.reduceBEq, Int.reduceBNe, Int.reduceToNat, hl, eq_true c1, c2, c3, st0, run_mf, hk, low_flt]
        rfl
      | ok ps q1 =>
        obtain ⟨q2, hk2⟩ := comp_is (hH2 q1 [.cells [.bool false, .slice false true 0 [], .int .i64 0, .slice false true 0 [], .slice false true 0 [], .slice false true 0 []], .cells [.bool false, shutP 1 (ps.map encI), .int .i64 0, .slice false true 0 [], .slice false true 0 [], .slice false true 0 []]]) hb (rSupers_le hr)
        refine ⟨q2, ?_⟩
        simp only [hr, outC, so1] at hk ⊢
        unfold curB at hk
        simp only [ns] at hk
        cases hs : rComp b q1 <;> simp only [hs, outC, so1, rsSub] at hk2 ⊢ <;> unfold curB at hk2 <;>
          simp (contextual := true) (dsimp := false) (disch := omega) only [↓goDown, goUp, List.length_cons, List.length_nil, List.map_cons, List.map_nil, List.take_succ_cons, List.take_zero, List.drop_succ_cons, List.drop_zero, List.drop_nil, List.take_nil, List.cons_append, List.nil_append, List.append_nil, List.set_cons_zero, List.set_cons_succ, List.all_cons, List.all_nil, ↓reduceIte, reduceCtorEq, ge_iff_le, gt_iff_lt, eq_self_iff_true, beq_self_eq_true, beq_iff_eq, bne_iff_ne, ne_eq, ite_not, Int.reduceEq, Option.getD_some, Option.getD_none, ite_self, Nat.reduceAdd, Nat.reduceSub, Nat.reduceMul, Nat.reduceLeDiff, Nat.reduceEqDiff, Nat.reduceBEq, Nat.reduceBNe, Int.reduceLT, Int.reduceLE, Int.reduceAdd, Int.reduceSub, Int.reduceMul, Int.reduceNeg, Int.reduceNe, Int.reduceBEq, Int.reduceBNe, Int.reduceToNat, hl, eq_true c1, c2, c3, st0, run_mf, hk, hk2, low_flt, cells_acc, stripC_acc, isCell_acc, low_acc, isTup_acc, cells_P, isCell_P, low_P, stripC_P, isTup_P, cells_C, csC, strip_C, stripC_C, isTup_C, low_C]
        · rfl
        · rfl
    · rw [if_neg h2]
      by_cases h3 : x = 79
      · rw [if_pos h3]
        have c1 : (x : Int) = 79 := by omega
        have c2 : ¬ (x : Int) = 80 := by omega
        have c3 : ((x : Int) == 79) = true := by rw [c1]; rfl
        obtain ⟨q, hk⟩ := supers_is hb (hH2 (p + 1) [.cells [.bool false, .slice false true 0 [], .int .i64 0, .slice false true 0 [], .slice false true 0 [], .slice false true 0 []]]) (show p + 1 ≤ b.length by omega)
        unfold rSubs
        cases hr : rSupers b (p + 1) with
        | err a w =>
          refine ⟨q, ?_⟩
          simp only [hr, outC, so1] at hk ⊢
          unfold curB at hk
          simp only [ns] at hk
          simp (contextual := true) (dsimp := false) (disch := omega) only [↓goDown, goUp, List.length_cons, List.length_nil, List.map_cons, List.map_nil, List.take_succ_cons, List.take_zero, List.drop_succ_cons, List.drop_zero, List.drop_nil, List.take_nil, List.cons_append, List.nil_append, List.append_nil, List.set_cons_zero, List.set_cons_succ, List.all_cons, List.all_nil, ↓reduceIte, reduceCtorEq, ge_iff_le, gt_iff_lt, eq_self_iff_true, beq_self_eq_true, beq_iff_eq, bne_iff_ne, ne_eq, ite_not, Int.reduceEq, Option.getD_some, Option.getD_none, ite_self, Nat.reduceAdd, Nat.reduceSub, Nat.reduceMul, Nat.reduceLeDiff, Nat.reduceEqDiff, Nat.reduceBEq, Nat.reduceBNe, Int.reduceLT, Int.reduceLE, Int.reduceAdd, Int.reduceSub, Int.reduceMul, Int.reduceNeg, Int.reduceNe, Int.reduceBEq, Int.reduceBNe, Int.reduceToNat, hl, eq_true c1, c2, c3, st0, run_mf, hk, low_flt]
          rfl
        | ok ps q1 =>
          obtain ⟨q2, hk2⟩ := comp_is (hH2 q1 [.cells [.bool false, .slice false true 0 [], .int .i64 0, .slice false true 0 [], .slice false true 0 [], .slice false true 0 []], .cells [.bool true, shutP 1 (ps.map encI), .int .i64 0, .slice false true 0 [], .slice false true 0 [], .slice false true 0 []]]) hb (rSupers_le hr)
          refine ⟨q2, ?_⟩
          simp only [hr, outC, so1] at hk ⊢
          unfold curB at hk
          simp only [ns] at hk
          cases hs : rComp b q1 <;> simp only [hs, outC, so1, rsSub] at hk2 ⊢ <;> unfold curB at hk2 <;>
            simp (contextual := true) (dsimp := false) (disch := omega) only [↓goDown, goUp, List.length_cons, List.length_nil, List.map_cons, List.map_nil, List.take_succ_cons, List.take_zero, List.drop_succ_cons, List.drop_zero, List.drop_nil, List.take_nil, List.cons_append, List.nil_append, List.append_nil, List.set_cons_zero, List.set_cons_succ, List.all_cons, List.all_nil, ↓reduceIte, reduceCtorEq, ge_iff_le, gt_iff_lt, eq_self_iff_true, beq_self_eq_true, beq_iff_eq, bne_iff_ne, ne_eq, ite_not, Int.reduceEq, Option.getD_some, Option.getD_none, ite_self, Nat.reduceAdd, Nat.reduceSub, Nat.reduceMul, Nat.reduceLeDiff, Nat.reduceEqDiff, Nat.reduceBEq, Nat.reduceBNe, Int.reduceLT, Int.reduceLE, Int.reduceAdd, Int.reduceSub, Int.reduceMul, Int.reduceNeg, Int.reduceNe, Int.reduceBEq, Int.reduceBNe, Int.reduceToNat, hl, eq_true c1, c2, c3, st0, run_mf, hk, hk2, low_flt, cells_acc, stripC_acc, isCell_acc, low_acc, isTup_acc, cells_P, isCell_P, low_P, stripC_P, isTup_P, cells_C, csC, strip_C, stripC_C, isTup_C, low_C]
          · rfl
          · rfl
      · rw [if_neg h3]
        have c1 : ¬ (x : Int) = 80 := by omega
        have c2 : ¬ (x : Int) = 79 := by omega
        obtain ⟨q, hk⟩ := comp_is (hH1 [.cells [.bool false, .slice false true 0 [], .int .i64 0, .slice false true 0 [], .slice false true 0 [], .slice false true 0 []]]) hb hp
        refine ⟨q, ?_⟩
        cases hs : rComp b p <;> simp only [hs, outC, so, rsSub] at hk ⊢ <;>
          simp (contextual := true) (dsimp := false) (disch := omega) only [↓goDown, goUp, List.length_cons, List.length_nil, List.map_cons, List.map_nil, List.take_succ_cons, List.take_zero, List.drop_succ_cons, List.drop_zero, List.drop_nil, List.take_nil, List.cons_append, List.nil_append, List.append_nil, List.set_cons_zero, List.set_cons_succ, List.all_cons, List.all_nil, ↓reduceIte, reduceCtorEq, ge_iff_le, gt_iff_lt, eq_self_iff_true, beq_self_eq_true, beq_iff_eq, bne_iff_ne, ne_eq, ite_not, Int.reduceEq, Option.getD_some, Option.getD_none, ite_self, Nat.reduceAdd, Nat.reduceSub, Nat.reduceMul, Nat.reduceLeDiff, Nat.reduceEqDiff, Nat.reduceBEq, Nat.reduceBNe, Int.reduceLT, Int.reduceLE, Int.reduceAdd, Int.reduceSub, Int.reduceMul, Int.reduceNeg, Int.reduceNe, Int.reduceBEq, Int.reduceBNe, Int.reduceToNat, hl, c1, c2, hk, low_flt, cells_P, isCell_P, low_P, stripC_P, isTup_P, cells_C, csC, strip_C, stripC_C, isTup_C, low_C]
        · rfl
  · refine ⟨p, ?_⟩
    have hl := fun L => look_err (hH1 L) hb h1
    rw [if_neg h1]
    simp only [outC, hset]
    simp (contextual := true) (dsimp := false) (disch := omega) only [↓goDown, goUp, List.length_cons, List.length_nil, List.map_cons, List.map_nil, List.take_succ_cons, List.take_zero, List.drop_succ_cons, List.drop_zero, List.drop_nil, List.take_nil, List.cons_append, List.nil_append, List.append_nil, List.set_cons_zero, List.set_cons_succ, List.all_cons, List.all_nil, ↓reduceIte, reduceCtorEq, ge_iff_le, gt_iff_lt, eq_self_iff_true, beq_self_eq_true, beq_iff_eq, bne_iff_ne, ne_eq, ite_not, Int.reduceEq, Option.getD_some, Option.getD_none, ite_self, Nat.reduceAdd, Nat.reduceSub, Nat.reduceMul, Nat.reduceLeDiff, Nat.reduceEqDiff, Nat.reduceBEq, Nat.reduceBNe, Int.reduceLT, Int.reduceLE, Int.reduceAdd, Int.reduceSub, Int.reduceMul, Int.reduceNeg, Int.reduceNe, Int.reduceBEq, Int.reduceBNe, Int.reduceToNat, hl, low_flt]
/-! ### Groups -/
structure RT where
  types : List ST
  exp : Bool
  deriving DecidableEq
def encR (v : RT) : PV := .agg [shutP 6 (v.types.map encS), .bool v.exp]
def rTypes (b : List UInt8) (p : Nat) : Rs (List ST) := rList b 10000 (rSub b) p
theorem rTypes_le {b : List UInt8} {p q : Nat} {l : List ST} (h : rTypes b p = .ok l q) : q ≤ b.length := (rList_le (fun p v q h => rSub_le h) h).1
def rsExp : Rs (List ST) → Rs RT
  | .ok l q => .ok ⟨l, true⟩ q
  | .err a w => .err a w
def rsOne : Rs ST → Rs RT
  | .ok v q => .ok ⟨[v], false⟩ q
  | .err a w => .err a w
def rRec (b : List UInt8) (p : Nat) : Rs RT :=
  if p < b.length then
    if (b.getD p 0).toNat = 78 then rsExp (rTypes b (p + 1)) else rsOne (rSub b p)
  else .err b.length 3
theorem types_is {b : List UInt8} {z : Bool} (hb : b.length < 2 ^ 61) {c : Nat} {H : Heap} {p : Nat} (hH : hget H c = some (curB z b p)) (hp : p ≤ b.length) :
    ∃ q, run (C k_entry_list_api_SubType [.ptr c 0, .int .u32 10000, .fn k_entry_cursor_sub [.ptr c 0] []]) H = outC z b c H q (fun l => accP 6 (l.map encS)) (rTypes b p) :=
  subList_is hb (fun p v q h => rSub_le h) (one := .fn k_entry_cursor_sub [.ptr c 0] []) (most := 10000) (by omega) (fun H p hH hp => by
    obtain ⟨q, h⟩ := sub_is hH hb hp
    exact ⟨q, h⟩) hH hp
theorem bsR_S {v : ST} {K : Heap} : bsR true (some 6) [encS v] K = some (.ok (.slice true false 6 [encS v]) K) := by
  have := bs_S (v := v) (K := K)
  rw [run_bs] at this
  simpa [stripC_Su] using this
theorem rec_is {H : Heap} {b : List UInt8} {z : Bool} {c p : Nat} (hH : hget H c = some (curB z b p)) (hb : b.length < 2 ^ 61) (hp : p ≤ b.length) :
    ∃ q, run (C k_entry_cursor_rec [.ptr c 0]) H = outC z b c H q encR (rRec b p) := by
  have hid := get_lt hH
  have hset := set_self hH
  rw [entry_cursor_rec_eq]
  unfold rRec
  have hH1 : ∀ L, hget (hadd H L) c = some (curB z b p) := fun L => by rw [get_old hid]; exact hH
  have so : ∀ u L, Pi.hset (hadd H L) c (curB z b u) = hadd (Pi.hset H c (curB z b u)) L := fun u L => by rw [set_old hid]
  have so1 : ∀ u y L, Pi.hset (hadd (Pi.hset H c (curB z b y)) L) c (curB z b u) = hadd (Pi.hset H c (curB z b u)) L := fun u y L => by rw [set_old1 hid, set_set]
  have hH2 : ∀ u L, hget (hadd (Pi.hset H c (curB z b u)) L) c = some (curB z b u) := fun u L => by rw [get_old (by rw [len_set]; exact hid)]; exact get_set hid
  have st0 : hget H c = some (.cells [BS z b, .int .i64 p]) := hH
  by_cases h1 : p < b.length
  · have hl := fun L => look_ok (hH1 L) hb h1
    have hc := byt_lt (b.getD p 0)
    rw [if_pos h1]
    generalize (b.getD p 0).toNat = x at hl hc ⊢
    by_cases h2 : x = 78
    · rw [if_pos h2]
      have c1 : (x : Int) = 78 := by omega
      obtain ⟨q, hk⟩ := types_is hb (hH2 (p + 1) [.cells [.slice false true 0 [], .bool false]]) (show p + 1 ≤ b.length by omega)
      refine ⟨q, ?_⟩
      cases hr : rTypes b (p + 1) <;> simp only [hr, outC, so1, rsExp] at hk ⊢ <;> unfold curB at hk <;> simp only [ns] at hk <;>
        simp (contextual := true) (dsimp := false) (disch := omega) only [↓goDown, goUp, List.length_cons, List.length_nil, List.map_cons, List.map_nil, List.take_succ_cons, List.take_zero, List.drop_succ_cons, List.drop_zero, List.drop_nil, List.take_nil, List.cons_append, List.nil_append, List.append_nil, List.set_cons_zero, List.set_cons_succ, List.all_cons, List.all_nil, ↓reduceIte, reduceCtorEq, ge_iff_le, gt_iff_lt, eq_self_iff_true, beq_self_eq_true, beq_iff_eq, bne_iff_ne, ne_eq, ite_not, Int.reduceEq, Option.getD_some, Option.getD_none, ite_self, Nat.reduceAdd, Nat.reduceSub, Nat.reduceMul, Nat.reduceLeDiff, Nat.reduceEqDiff, Nat.reduceBEq, Nat.reduceBNe, Int.reduceLT, Int.reduceLE, Int.reduceAdd, Int.reduceSub, Int.reduceMul, Int.reduceNeg, Int.reduceNe, Int.reduceBEq, Int.reduceBNe, Int.reduceToNat, hl, eq_true c1, st0, run_mf, hk, low_flt, cells_acc, stripC_acc, isCell_acc, low_acc, isTup_acc, cells_P, isCell_P, low_P, stripC_P, isTup_P]
      · rfl
      · rfl
    · rw [if_neg h2]
      have c1 : ¬ (x : Int) = 78 := by omega
      obtain ⟨q, hk⟩ := sub_is (hH1 [.cells [.slice false true 0 [], .bool false]]) hb hp
      refine ⟨q, ?_⟩
      cases hs : rSub b p <;> simp only [hs, outC, so, rsOne] at hk ⊢ <;>
        simp (contextual := true) (dsimp := false) (disch := omega) only [↓goDown, goUp, List.length_cons, List.length_nil, List.map_cons, List.map_nil, List.take_succ_cons, List.take_zero, List.drop_succ_cons, List.drop_zero, List.drop_nil, List.take_nil, List.cons_append, List.nil_append, List.append_nil, List.set_cons_zero, List.set_cons_succ, List.all_cons, List.all_nil, ↓reduceIte, reduceCtorEq, ge_iff_le, gt_iff_lt, eq_self_iff_true, beq_self_eq_true, beq_iff_eq, bne_iff_ne, ne_eq, ite_not, Int.reduceEq, Option.getD_some, Option.getD_none, ite_self, Nat.reduceAdd, Nat.reduceSub, Nat.reduceMul, Nat.reduceLeDiff, Nat.reduceEqDiff, Nat.reduceBEq, Nat.reduceBNe, Int.reduceLT, Int.reduceLE, Int.reduceAdd, Int.reduceSub, Int.reduceMul, Int.reduceNeg, Int.reduceNe, Int.reduceBEq, Int.reduceBNe, Int.reduceToNat, hl, c1, hk, low_flt, bs_S, bsR_S, stripC_Su, cells_P, isCell_P, low_P, stripC_P, isTup_P, low_Su]
      · rfl
  · refine ⟨p, ?_⟩
    have hl := fun L => look_err (hH1 L) hb h1
    rw [if_neg h1]
    simp only [outC, hset]
    simp (contextual := true) (dsimp := false) (disch := omega) only [↓goDown, goUp, List.length_cons, List.length_nil, List.map_cons, List.map_nil, List.take_succ_cons, List.take_zero, List.drop_succ_cons, List.drop_zero, List.drop_nil, List.take_nil, List.cons_append, List.nil_append, List.append_nil, List.set_cons_zero, List.set_cons_succ, List.all_cons, List.all_nil, ↓reduceIte, reduceCtorEq, ge_iff_le, gt_iff_lt, eq_self_iff_true, beq_self_eq_true, beq_iff_eq, bne_iff_ne, ne_eq, ite_not, Int.reduceEq, Option.getD_some, Option.getD_none, ite_self, Nat.reduceAdd, Nat.reduceSub, Nat.reduceMul, Nat.reduceLeDiff, Nat.reduceEqDiff, Nat.reduceBEq, Nat.reduceBNe, Int.reduceLT, Int.reduceLE, Int.reduceAdd, Int.reduceSub, Int.reduceMul, Int.reduceNeg, Int.reduceNe, Int.reduceBEq, Int.reduceBNe, Int.reduceToNat, hl, low_flt]
end Go.Proofs.Ytofbbijagbpicaa.Pi.Q
/- The program's readings of fields, composite types, types and groups. (Written by tool/genread2.py.) -/
namespace Go.Proofs.Ytofbbijagbpicaa.Pi.Q
open Go Go.Proofs.Ytofbbijagbpicaa.Pi
set_option linter.unusedVariables false
set_option linter.unusedSimpArgs false
set_option maxRecDepth 100000
attribute [local congr] ite_congr
abbrev zF : FT := ⟨⟨0, false, 0⟩, false⟩
abbrev zC : CT := ⟨0, [], [], []⟩
abbrev zSu : ST := ⟨false, [], zC⟩
abbrev zR : RT := ⟨[], false⟩
theorem read_F_is {b : List UInt8} {z : Bool} (hb : b.length < 2 ^ 61) {one : PV} {r : Nat → Rs FT}
    (hone : ∀ H c p, hget H c = some (curB z b p) → p ≤ b.length → ∃ q, run (callV P C (strip one) [.ptr c 0]) H = outC z b c H q encF (r p)) {H : Heap} {at_ : Int} :
    run (C k_entry_read_api_Field [BS z b, .int .i64 at_, one]) H = some (.ok (atPl at_ b (encF zF) (outR encF (encF zF) (r at_.toNat))) H) := by
  rw [entry_read_api_Field_eq]
  unfold atPl
  by_cases h1 : at_ < 0
  · rw [if_pos (.inl h1)]
    simp (contextual := true) (dsimp := false) (disch := omega) only [↓goDown, goUp, List.length_cons, List.length_nil, List.map_cons, List.map_nil, List.take_succ_cons, List.take_zero, List.drop_succ_cons, List.drop_zero, List.drop_nil, List.take_nil, List.cons_append, List.nil_append, List.append_nil, List.set_cons_zero, List.set_cons_succ, List.all_cons, List.all_nil, ↓reduceIte, reduceCtorEq, ge_iff_le, gt_iff_lt, eq_self_iff_true, beq_self_eq_true, beq_iff_eq, bne_iff_ne, ne_eq, ite_not, Int.reduceEq, Option.getD_some, Option.getD_none, ite_self, Nat.reduceAdd, Nat.reduceSub, Nat.reduceMul, Nat.reduceLeDiff, Nat.reduceEqDiff, Nat.reduceBEq, Nat.reduceBNe, Int.reduceLT, Int.reduceLE, Int.reduceAdd, Int.reduceSub, Int.reduceMul, Int.reduceNeg, Int.reduceNe, Int.reduceBEq, Int.reduceBNe, Int.reduceToNat, eq_true h1, encF]
  · by_cases h2 : (b.length : Int) < at_
    · rw [if_pos (.inr h2)]
      simp (contextual := true) (dsimp := false) (disch := omega) only [↓goDown, goUp, List.length_cons, List.length_nil, List.map_cons, List.map_nil, List.take_succ_cons, List.take_zero, List.drop_succ_cons, List.drop_zero, List.drop_nil, List.take_nil, List.cons_append, List.nil_append, List.append_nil, List.set_cons_zero, List.set_cons_succ, List.all_cons, List.all_nil, ↓reduceIte, reduceCtorEq, ge_iff_le, gt_iff_lt, eq_self_iff_true, beq_self_eq_true, beq_iff_eq, bne_iff_ne, ne_eq, ite_not, Int.reduceEq, Option.getD_some, Option.getD_none, ite_self, Nat.reduceAdd, Nat.reduceSub, Nat.reduceMul, Nat.reduceLeDiff, Nat.reduceEqDiff, Nat.reduceBEq, Nat.reduceBNe, Int.reduceLT, Int.reduceLE, Int.reduceAdd, Int.reduceSub, Int.reduceMul, Int.reduceNeg, Int.reduceNe, Int.reduceBEq, Int.reduceBNe, Int.reduceToNat, h1, h2, List.length_map, encF]
    · rw [if_neg (by omega)]
      obtain ⟨p, rfl⟩ := Int.eq_ofNat_of_zero_le (show 0 ≤ at_ by omega)
      rw [Int.toNat_natCast]
      obtain ⟨q, hk⟩ := hone (hadd H [.cells [.int .i64 0, .bool false, .int .i64 0, .bool false], .cells [.int .i64 0], .cells [.int .i64 0], .cells [.int .i64 0, .bool false, .int .i64 0, .bool false], curB z b p]) (H.length + 4) p (by rw [get_loc]; rfl) (by omega)
      cases hr : r p <;> rw [hr] at hk <;> simp only [outC, outR, set_loc] at hk ⊢ <;> unfold curB at hk <;>
        simp (contextual := true) (dsimp := false) (disch := omega) only [↓goDown, goUp, List.length_cons, List.length_nil, List.map_cons, List.map_nil, List.take_succ_cons, List.take_zero, List.drop_succ_cons, List.drop_zero, List.drop_nil, List.take_nil, List.cons_append, List.nil_append, List.append_nil, List.set_cons_zero, List.set_cons_succ, List.all_cons, List.all_nil, ↓reduceIte, reduceCtorEq, ge_iff_le, gt_iff_lt, eq_self_iff_true, beq_self_eq_true, beq_iff_eq, bne_iff_ne, ne_eq, ite_not, Int.reduceEq, Option.getD_some, Option.getD_none, ite_self, Nat.reduceAdd, Nat.reduceSub, Nat.reduceMul, Nat.reduceLeDiff, Nat.reduceEqDiff, Nat.reduceBEq, Nat.reduceBNe, Int.reduceLT, Int.reduceLE, Int.reduceAdd, Int.reduceSub, Int.reduceMul, Int.reduceNeg, Int.reduceNe, Int.reduceBEq, Int.reduceBNe, Int.reduceToNat, h1, h2, List.length_map, run_mf, hk, flt, entry_read_api_Field_1_req, entry_read_api_Field_1_deq, run_ta, bi_if, bi_ifn, cutL, ne_len0, Nat.reduceBeqDiff, encF]
theorem read_C_is {b : List UInt8} {z : Bool} (hb : b.length < 2 ^ 61) {one : PV} {r : Nat → Rs CT}
    (hone : ∀ H c p, hget H c = some (curB z b p) → p ≤ b.length → ∃ q, run (callV P C (strip one) [.ptr c 0]) H = outC z b c H q encC (r p)) {H : Heap} {at_ : Int} :
    run (C k_entry_read_api_CompType [BS z b, .int .i64 at_, one]) H = some (.ok (atPl at_ b (encC zC) (outR encC (encC zC) (r at_.toNat))) H) := by
  rw [entry_read_api_CompType_eq]
  unfold atPl
  by_cases h1 : at_ < 0
  · rw [if_pos (.inl h1)]
    simp (contextual := true) (dsimp := false) (disch := omega) only [↓goDown, goUp, List.length_cons, List.length_nil, List.map_cons, List.map_nil, List.take_succ_cons, List.take_zero, List.drop_succ_cons, List.drop_zero, List.drop_nil, List.take_nil, List.cons_append, List.nil_append, List.append_nil, List.set_cons_zero, List.set_cons_succ, List.all_cons, List.all_nil, ↓reduceIte, reduceCtorEq, ge_iff_le, gt_iff_lt, eq_self_iff_true, beq_self_eq_true, beq_iff_eq, bne_iff_ne, ne_eq, ite_not, Int.reduceEq, Option.getD_some, Option.getD_none, ite_self, Nat.reduceAdd, Nat.reduceSub, Nat.reduceMul, Nat.reduceLeDiff, Nat.reduceEqDiff, Nat.reduceBEq, Nat.reduceBNe, Int.reduceLT, Int.reduceLE, Int.reduceAdd, Int.reduceSub, Int.reduceMul, Int.reduceNeg, Int.reduceNe, Int.reduceBEq, Int.reduceBNe, Int.reduceToNat, eq_true h1, encC, csC, shutP_nil, cells_P, isCell_P, low_P, stripC_P, strip_P, isTup_P]
  · by_cases h2 : (b.length : Int) < at_
    · rw [if_pos (.inr h2)]
      simp (contextual := true) (dsimp := false) (disch := omega) only [↓goDown, goUp, List.length_cons, List.length_nil, List.map_cons, List.map_nil, List.take_succ_cons, List.take_zero, List.drop_succ_cons, List.drop_zero, List.drop_nil, List.take_nil, List.cons_append, List.nil_append, List.append_nil, List.set_cons_zero, List.set_cons_succ, List.all_cons, List.all_nil, ↓reduceIte, reduceCtorEq, ge_iff_le, gt_iff_lt, eq_self_iff_true, beq_self_eq_true, beq_iff_eq, bne_iff_ne, ne_eq, ite_not, Int.reduceEq, Option.getD_some, Option.getD_none, ite_self, Nat.reduceAdd, Nat.reduceSub, Nat.reduceMul, Nat.reduceLeDiff, Nat.reduceEqDiff, Nat.reduceBEq, Nat.reduceBNe, Int.reduceLT, Int.reduceLE, Int.reduceAdd, Int.reduceSub, Int.reduceMul, Int.reduceNeg, Int.reduceNe, Int.reduceBEq, Int.reduceBNe, Int.reduceToNat, h1, h2, List.length_map, encC, csC, shutP_nil, cells_P, isCell_P, low_P, stripC_P, strip_P, isTup_P]
    · rw [if_neg (by omega)]
      obtain ⟨p, rfl⟩ := Int.eq_ofNat_of_zero_le (show 0 ≤ at_ by omega)
      rw [Int.toNat_natCast]
      obtain ⟨q, hk⟩ := hone (hadd H [.cells [.int .i64 0, .slice false true 0 [], .slice false true 0 [], .slice false true 0 []], .cells [.int .i64 0], .cells [.int .i64 0], .cells [.int .i64 0, .slice false true 0 [], .slice false true 0 [], .slice false true 0 []], curB z b p]) (H.length + 4) p (by rw [get_loc]; rfl) (by omega)
      cases hr : r p <;> rw [hr] at hk <;> simp only [outC, outR, set_loc] at hk ⊢ <;> unfold curB at hk <;>
        simp (contextual := true) (dsimp := false) (disch := omega) only [↓goDown, goUp, List.length_cons, List.length_nil, List.map_cons, List.map_nil, List.take_succ_cons, List.take_zero, List.drop_succ_cons, List.drop_zero, List.drop_nil, List.take_nil, List.cons_append, List.nil_append, List.append_nil, List.set_cons_zero, List.set_cons_succ, List.all_cons, List.all_nil, ↓reduceIte, reduceCtorEq, ge_iff_le, gt_iff_lt, eq_self_iff_true, beq_self_eq_true, beq_iff_eq, bne_iff_ne, ne_eq, ite_not, Int.reduceEq, Option.getD_some, Option.getD_none, ite_self, Nat.reduceAdd, Nat.reduceSub, Nat.reduceMul, Nat.reduceLeDiff, Nat.reduceEqDiff, Nat.reduceBEq, Nat.reduceBNe, Int.reduceLT, Int.reduceLE, Int.reduceAdd, Int.reduceSub, Int.reduceMul, Int.reduceNeg, Int.reduceNe, Int.reduceBEq, Int.reduceBNe, Int.reduceToNat, h1, h2, List.length_map, run_mf, hk, flt, entry_read_api_CompType_1_req, entry_read_api_CompType_1_deq, run_ta, bi_if, bi_ifn, cutL, ne_len0, Nat.reduceBeqDiff, encC, csC, shutP_nil, cells_P, isCell_P, low_P, stripC_P, strip_P, isTup_P]
theorem read_S_is {b : List UInt8} {z : Bool} (hb : b.length < 2 ^ 61) {one : PV} {r : Nat → Rs ST}
    (hone : ∀ H c p, hget H c = some (curB z b p) → p ≤ b.length → ∃ q, run (callV P C (strip one) [.ptr c 0]) H = outC z b c H q encS (r p)) {H : Heap} {at_ : Int} :
    run (C k_entry_read_api_SubType [BS z b, .int .i64 at_, one]) H = some (.ok (atPl at_ b (encS zSu) (outR encS (encS zSu) (r at_.toNat))) H) := by
  rw [entry_read_api_SubType_eq]
  unfold atPl
  by_cases h1 : at_ < 0
  · rw [if_pos (.inl h1)]
    simp (contextual := true) (dsimp := false) (disch := omega) only [↓goDown, goUp, List.length_cons, List.length_nil, List.map_cons, List.map_nil, List.take_succ_cons, List.take_zero, List.drop_succ_cons, List.drop_zero, List.drop_nil, List.take_nil, List.cons_append, List.nil_append, List.append_nil, List.set_cons_zero, List.set_cons_succ, List.all_cons, List.all_nil, ↓reduceIte, reduceCtorEq, ge_iff_le, gt_iff_lt, eq_self_iff_true, beq_self_eq_true, beq_iff_eq, bne_iff_ne, ne_eq, ite_not, Int.reduceEq, Option.getD_some, Option.getD_none, ite_self, Nat.reduceAdd, Nat.reduceSub, Nat.reduceMul, Nat.reduceLeDiff, Nat.reduceEqDiff, Nat.reduceBEq, Nat.reduceBNe, Int.reduceLT, Int.reduceLE, Int.reduceAdd, Int.reduceSub, Int.reduceMul, Int.reduceNeg, Int.reduceNe, Int.reduceBEq, Int.reduceBNe, Int.reduceToNat, eq_true h1, encS, csS, shutP_nil, cells_P, isCell_P, low_P, stripC_P, strip_P, isTup_P]
  · by_cases h2 : (b.length : Int) < at_
    · rw [if_pos (.inr h2)]
      simp (contextual := true) (dsimp := false) (disch := omega) only [↓goDown, goUp, List.length_cons, List.length_nil, List.map_cons, List.map_nil, List.take_succ_cons, List.take_zero, List.drop_succ_cons, List.drop_zero, List.drop_nil, List.take_nil, List.cons_append, List.nil_append, List.append_nil, List.set_cons_zero, List.set_cons_succ, List.all_cons, List.all_nil, ↓reduceIte, reduceCtorEq, ge_iff_le, gt_iff_lt, eq_self_iff_true, beq_self_eq_true, beq_iff_eq, bne_iff_ne, ne_eq, ite_not, Int.reduceEq, Option.getD_some, Option.getD_none, ite_self, Nat.reduceAdd, Nat.reduceSub, Nat.reduceMul, Nat.reduceLeDiff, Nat.reduceEqDiff, Nat.reduceBEq, Nat.reduceBNe, Int.reduceLT, Int.reduceLE, Int.reduceAdd, Int.reduceSub, Int.reduceMul, Int.reduceNeg, Int.reduceNe, Int.reduceBEq, Int.reduceBNe, Int.reduceToNat, h1, h2, List.length_map, encS, csS, shutP_nil, cells_P, isCell_P, low_P, stripC_P, strip_P, isTup_P]
    · rw [if_neg (by omega)]
      obtain ⟨p, rfl⟩ := Int.eq_ofNat_of_zero_le (show 0 ≤ at_ by omega)
      rw [Int.toNat_natCast]
      obtain ⟨q, hk⟩ := hone (hadd H [.cells [.bool false, .slice false true 0 [], .int .i64 0, .slice false true 0 [], .slice false true 0 [], .slice false true 0 []], .cells [.int .i64 0], .cells [.int .i64 0], .cells [.bool false, .slice false true 0 [], .int .i64 0, .slice false true 0 [], .slice false true 0 [], .slice false true 0 []], curB z b p]) (H.length + 4) p (by rw [get_loc]; rfl) (by omega)
      cases hr : r p <;> rw [hr] at hk <;> simp only [outC, outR, set_loc] at hk ⊢ <;> unfold curB at hk <;>
        simp (contextual := true) (dsimp := false) (disch := omega) only [↓goDown, goUp, List.length_cons, List.length_nil, List.map_cons, List.map_nil, List.take_succ_cons, List.take_zero, List.drop_succ_cons, List.drop_zero, List.drop_nil, List.take_nil, List.cons_append, List.nil_append, List.append_nil, List.set_cons_zero, List.set_cons_succ, List.all_cons, List.all_nil, ↓reduceIte, reduceCtorEq, ge_iff_le, gt_iff_lt, eq_self_iff_true, beq_self_eq_true, beq_iff_eq, bne_iff_ne, ne_eq, ite_not, Int.reduceEq, Option.getD_some, Option.getD_none, ite_self, Nat.reduceAdd, Nat.reduceSub, Nat.reduceMul, Nat.reduceLeDiff, Nat.reduceEqDiff, Nat.reduceBEq, Nat.reduceBNe, Int.reduceLT, Int.reduceLE, Int.reduceAdd, Int.reduceSub, Int.reduceMul, Int.reduceNeg, Int.reduceNe, Int.reduceBEq, Int.reduceBNe, Int.reduceToNat, h1, h2, List.length_map, run_mf, hk, flt, entry_read_api_SubType_1_req, entry_read_api_SubType_1_deq, run_ta, bi_if, bi_ifn, cutL, ne_len0, Nat.reduceBeqDiff, encS, csS, shutP_nil, cells_P, isCell_P, low_P, stripC_P, strip_P, isTup_P]
theorem read_R_is {b : List UInt8} {z : Bool} (hb : b.length < 2 ^ 61) {one : PV} {r : Nat → Rs RT}
    (hone : ∀ H c p, hget H c = some (curB z b p) → p ≤ b.length → ∃ q, run (callV P C (strip one) [.ptr c 0]) H = outC z b c H q encR (r p)) {H : Heap} {at_ : Int} :
    run (C k_entry_read_api_RecType [BS z b, .int .i64 at_, one]) H = some (.ok (atPl at_ b (encR zR) (outR encR (encR zR) (r at_.toNat))) H) := by
  rw [entry_read_api_RecType_eq]
  unfold atPl
  by_cases h1 : at_ < 0
  · rw [if_pos (.inl h1)]
    simp (contextual := true) (dsimp := false) (disch := omega) only [↓goDown, goUp, List.length_cons, List.length_nil, List.map_cons, List.map_nil, List.take_succ_cons, List.take_zero, List.drop_succ_cons, List.drop_zero, List.drop_nil, List.take_nil, List.cons_append, List.nil_append, List.append_nil, List.set_cons_zero, List.set_cons_succ, List.all_cons, List.all_nil, ↓reduceIte, reduceCtorEq, ge_iff_le, gt_iff_lt, eq_self_iff_true, beq_self_eq_true, beq_iff_eq, bne_iff_ne, ne_eq, ite_not, Int.reduceEq, Option.getD_some, Option.getD_none, ite_self, Nat.reduceAdd, Nat.reduceSub, Nat.reduceMul, Nat.reduceLeDiff, Nat.reduceEqDiff, Nat.reduceBEq, Nat.reduceBNe, Int.reduceLT, Int.reduceLE, Int.reduceAdd, Int.reduceSub, Int.reduceMul, Int.reduceNeg, Int.reduceNe, Int.reduceBEq, Int.reduceBNe, Int.reduceToNat, eq_true h1, encR, shutP_nil, cells_P, isCell_P, low_P, stripC_P, strip_P, isTup_P]
  · by_cases h2 : (b.length : Int) < at_
    · rw [if_pos (.inr h2)]
      simp (contextual := true) (dsimp := false) (disch := omega) only [↓goDown, goUp, List.length_cons, List.length_nil, List.map_cons, List.map_nil, List.take_succ_cons, List.take_zero, List.drop_succ_cons, List.drop_zero, List.drop_nil, List.take_nil, List.cons_append, List.nil_append, List.append_nil, List.set_cons_zero, List.set_cons_succ, List.all_cons, List.all_nil, ↓reduceIte, reduceCtorEq, ge_iff_le, gt_iff_lt, eq_self_iff_true, beq_self_eq_true, beq_iff_eq, bne_iff_ne, ne_eq, ite_not, Int.reduceEq, Option.getD_some, Option.getD_none, ite_self, Nat.reduceAdd, Nat.reduceSub, Nat.reduceMul, Nat.reduceLeDiff, Nat.reduceEqDiff, Nat.reduceBEq, Nat.reduceBNe, Int.reduceLT, Int.reduceLE, Int.reduceAdd, Int.reduceSub, Int.reduceMul, Int.reduceNeg, Int.reduceNe, Int.reduceBEq, Int.reduceBNe, Int.reduceToNat, h1, h2, List.length_map, encR, shutP_nil, cells_P, isCell_P, low_P, stripC_P, strip_P, isTup_P]
    · rw [if_neg (by omega)]
      obtain ⟨p, rfl⟩ := Int.eq_ofNat_of_zero_le (show 0 ≤ at_ by omega)
      rw [Int.toNat_natCast]
      obtain ⟨q, hk⟩ := hone (hadd H [.cells [.slice false true 0 [], .bool false], .cells [.int .i64 0], .cells [.int .i64 0], .cells [.slice false true 0 [], .bool false], curB z b p]) (H.length + 4) p (by rw [get_loc]; rfl) (by omega)
      cases hr : r p <;> rw [hr] at hk <;> simp only [outC, outR, set_loc] at hk ⊢ <;> unfold curB at hk <;>
        simp (contextual := true) (dsimp := false) (disch := omega) only [↓goDown, goUp, List.length_cons, List.length_nil, List.map_cons, List.map_nil, List.take_succ_cons, List.take_zero, List.drop_succ_cons, List.drop_zero, List.drop_nil, List.take_nil, List.cons_append, List.nil_append, List.append_nil, List.set_cons_zero, List.set_cons_succ, List.all_cons, List.all_nil, ↓reduceIte, reduceCtorEq, ge_iff_le, gt_iff_lt, eq_self_iff_true, beq_self_eq_true, beq_iff_eq, bne_iff_ne, ne_eq, ite_not, Int.reduceEq, Option.getD_some, Option.getD_none, ite_self, Nat.reduceAdd, Nat.reduceSub, Nat.reduceMul, Nat.reduceLeDiff, Nat.reduceEqDiff, Nat.reduceBEq, Nat.reduceBNe, Int.reduceLT, Int.reduceLE, Int.reduceAdd, Int.reduceSub, Int.reduceMul, Int.reduceNeg, Int.reduceNe, Int.reduceBEq, Int.reduceBNe, Int.reduceToNat, h1, h2, List.length_map, run_mf, hk, flt, entry_read_api_RecType_1_req, entry_read_api_RecType_1_deq, run_ta, bi_if, bi_ifn, cutL, ne_len0, Nat.reduceBeqDiff, encR, shutP_nil, cells_P, isCell_P, low_P, stripC_P, strip_P, isTup_P]
end Go.Proofs.Ytofbbijagbpicaa.Pi.Q
