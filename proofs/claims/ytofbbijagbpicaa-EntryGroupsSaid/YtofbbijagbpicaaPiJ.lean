/- The reference's readers of fields, numbers of types, and what it does once it has met a fault. -/
import Derived.Test.YtofbbijagbpicaaPiI
import Derived.Test.YtofbbijagbpicaaPiG
namespace Go.Proofs.Ytofbbijagbpicaa.Pi.Q
open Go Go.Proofs.Ytofbbijagbpicaa.Pi
set_option linter.unusedVariables false
set_option linter.unusedSimpArgs false
set_option maxRecDepth 100000
attribute [local congr] ite_congr
theorem rvalF_is {H : Heap} {b : List UInt8} {z : Bool} {c p : Nat} {any : Bool} (hx : p < b.length → (b.getD p 0).toNat ≠ 120 ∧ (b.getD p 0).toNat ≠ 119) (hH : hget H c = some (rst z b p 0 0)) (hb : b.length < 2 ^ 61) (hp : p ≤ b.length) :
    outF z b c H encV (run (C k_ratchetref08_reading_val [.ptr c 0, .bool any, .bool true]) H) (if p < b.length then rOf any b p (b.getD p 0).toNat else .err b.length 3) := by
  have hid := get_lt hH
  have hset := set_self hH
  have hH1 : ∀ L, hget (hadd H L) c = some (rst z b p 0 0) := fun L => by rw [get_old hid]; exact hH
  have hH' : hget H c = some (.cells [BS z b, .int .i64 p, .int .i64 0, .int .i64 0]) := hH
  have hs' : Pi.hset H c (.cells [BS z b, .int .i64 p, .int .i64 0, .int .i64 0]) = H := hset
  have so : ∀ u a w L, Pi.hset (hadd H L) c (rst z b u a w) = hadd (Pi.hset H c (rst z b u a w)) L := fun u a w L => by rw [set_old hid]
  have so1 : ∀ u a w u' a' w' L, Pi.hset (hadd (Pi.hset H c (rst z b u' a' w')) L) c (rst z b u a w) = hadd (Pi.hset H c (rst z b u a w)) L := fun u a w u' a' w' L => by rw [set_old1 hid, set_set]
  rw [ratchetref08_reading_val_eq]
  by_cases h1 : p < b.length
  · have hl := fun L => peek_ok (hH1 L) hb h1
    have hc := byt_lt (b.getD p 0)
    rw [if_pos h1]
    have hx := hx h1
    generalize (b.getD p 0).toNat = x at hl hc hx ⊢
    have n1 : ((x : Int) = 120) = False := eq_false (by omega)
    have n2 : ((x : Int) = 119) = False := eq_false (by omega)
    have hfail := fun L (w : Nat) => rfail_is (a := p) (w := w) (hH1 L)
    simp only [so] at hfail
    have hf4 : ∀ L, run (C k_ratchetref08_reading_fail [.ptr c 0, .int .i64 p, .int .i64 4]) (hadd H L) = some (.ok (.tup []) (hadd (Pi.hset H c (rst z b p p 4)) L)) := fun L => hfail L 4
    have hf8 : ∀ L, run (C k_ratchetref08_reading_fail [.ptr c 0, .int .i64 p, .int .i64 8]) (hadd H L) = some (.ok (.tup []) (hadd (Pi.hset H c (rst z b p p 8)) L)) := fun L => hfail L 8
    unfold rOf
    by_cases h99 : x = 99 ∨ x = 100
    · rw [if_pos h99]
      have hH2 : ∀ L, hget (hadd (Pi.hset H c (rst z b (p + 1) 0 0)) L) c = some (rst z b (p + 1) 0 0) := fun L => by
        rw [get_old1 hid, get_set hid]
      have hk := rheap_is (hH2 [.cells [.int .i64 0, .bool false, .int .i64 0]]) hb (show p + 1 ≤ b.length by omega)
      have fin : ∀ (t : Bool), ((x : Int) == 99) = t → (x == 99) = t → outF z b c H encV (truncR H (run (M.bind (C k_ratchetref08_reading_heap [.ptr c 0]) fun t41_25 =>
          M.bind (bd [(.int .i64 0), (.bool false), (.int .i64 0)] [(0, 1, (.int .i64 5)), (1, 1, (.bool t)), (2, 1, t41_25)]) fun t42_26 =>
          M.bind (st 3 true (.ptr H.length 0) t42_26) fun _ =>
          M.bind (ld (some 3) true (.ptr H.length 0)) fun t0_28 => guardM (!isTup t0_28) (M.pure t0_28)) (hadd (Pi.hset H c (rst z b (p + 1) 0 0)) [.cells [.int .i64 0, .bool false, .int .i64 0]]))) (rsRef t (rHeap b (p + 1))) := by
        intro t ht ht'
        cases hr : rHeap b (p + 1) with
        | ok v q =>
          rw [hr] at hk
          simp only [outF, so1] at hk
          simp only [rsRef]
          show _ = some _
          simp (contextual := true) (dsimp := false) (disch := omega) only [↓goDown, goUp, List.length_cons, List.length_nil, List.map_cons, List.map_nil, List.take_succ_cons, List.take_zero, List.drop_succ_cons, List.drop_zero, List.drop_nil, List.take_nil, List.cons_append, List.nil_append, List.append_nil, List.set_cons_zero, List.set_cons_succ, List.all_cons, List.all_nil, ↓reduceIte, reduceCtorEq, ge_iff_le, gt_iff_lt, eq_self_iff_true, beq_self_eq_true, beq_iff_eq, bne_iff_ne, ne_eq, ite_not, Int.reduceEq, Option.getD_some, Option.getD_none, ite_self, Nat.reduceAdd, Nat.reduceSub, Nat.reduceMul, Nat.reduceLeDiff, Nat.reduceEqDiff, Nat.reduceBEq, Nat.reduceBNe, Int.reduceLT, Int.reduceLE, Int.reduceAdd, Int.reduceSub, Int.reduceMul, Int.reduceNeg, Int.reduceNe, Int.reduceBEq, Int.reduceBNe, Int.reduceToNat, hk]
          rfl
        | err a w =>
          rw [hr] at hk
          obtain ⟨v, q, hk, hw⟩ := hk
          simp only [so1] at hk
          simp only [rsRef]
          refine ⟨⟨5, t, v⟩, q, ?_, hw⟩
          simp (contextual := true) (dsimp := false) (disch := omega) only [↓goDown, goUp, List.length_cons, List.length_nil, List.map_cons, List.map_nil, List.take_succ_cons, List.take_zero, List.drop_succ_cons, List.drop_zero, List.drop_nil, List.take_nil, List.cons_append, List.nil_append, List.append_nil, List.set_cons_zero, List.set_cons_succ, List.all_cons, List.all_nil, ↓reduceIte, reduceCtorEq, ge_iff_le, gt_iff_lt, eq_self_iff_true, beq_self_eq_true, beq_iff_eq, bne_iff_ne, ne_eq, ite_not, Int.reduceEq, Option.getD_some, Option.getD_none, ite_self, Nat.reduceAdd, Nat.reduceSub, Nat.reduceMul, Nat.reduceLeDiff, Nat.reduceEqDiff, Nat.reduceBEq, Nat.reduceBNe, Int.reduceLT, Int.reduceLE, Int.reduceAdd, Int.reduceSub, Int.reduceMul, Int.reduceNeg, Int.reduceNe, Int.reduceBEq, Int.reduceBNe, Int.reduceToNat, hk]
          rfl
      have hst : Pi.hset H c (.cells [BS z b, .int .i64 ((p : Int) + 1), .int .i64 0, .int .i64 0]) = Pi.hset H c (rst z b (p + 1) 0 0) := rfl
      by_cases c1 : x = 99
      · have e1 : ((x : Int) = 99) = True := eq_true (by omega)
        have e2 : ((x : Int) == 99) = true := by simpa using e1
        have e3 : (x == 99) = true := by simpa using c1
        rw [e3]
        refine Eq.mp (congrArg (fun r => outF z b c H encV r _) ?_) (fin true e2 e3)
        symm
        simp (contextual := true) (dsimp := false) (disch := omega) only [↓goDown, goUp, List.length_cons, List.length_nil, List.map_cons, List.map_nil, List.take_succ_cons, List.take_zero, List.drop_succ_cons, List.drop_zero, List.drop_nil, List.take_nil, List.cons_append, List.nil_append, List.append_nil, List.set_cons_zero, List.set_cons_succ, List.all_cons, List.all_nil, ↓reduceIte, reduceCtorEq, ge_iff_le, gt_iff_lt, eq_self_iff_true, beq_self_eq_true, beq_iff_eq, bne_iff_ne, ne_eq, ite_not, Int.reduceEq, Option.getD_some, Option.getD_none, ite_self, Nat.reduceAdd, Nat.reduceSub, Nat.reduceMul, Nat.reduceLeDiff, Nat.reduceEqDiff, Nat.reduceBEq, Nat.reduceBNe, Int.reduceLT, Int.reduceLE, Int.reduceAdd, Int.reduceSub, Int.reduceMul, Int.reduceNeg, Int.reduceNe, Int.reduceBEq, Int.reduceBNe, Int.reduceToNat, hl, e1, e2, hH', hst]
      · have e1 : ((x : Int) = 99) = False := eq_false (by omega)
        have e2 : ((x : Int) == 99) = false := by simpa using e1
        have e3 : (x == 99) = false := by simpa using c1
        have e4 : ((x : Int) = 100) = True := eq_true (by omega)
        rw [e3]
        refine Eq.mp (congrArg (fun r => outF z b c H encV r _) ?_) (fin false e2 e3)
        symm
        simp (contextual := true) (dsimp := false) (disch := omega) only [↓goDown, goUp, List.length_cons, List.length_nil, List.map_cons, List.map_nil, List.take_succ_cons, List.take_zero, List.drop_succ_cons, List.drop_zero, List.drop_nil, List.take_nil, List.cons_append, List.nil_append, List.append_nil, List.set_cons_zero, List.set_cons_succ, List.all_cons, List.all_nil, ↓reduceIte, reduceCtorEq, ge_iff_le, gt_iff_lt, eq_self_iff_true, beq_self_eq_true, beq_iff_eq, bne_iff_ne, ne_eq, ite_not, Int.reduceEq, Option.getD_some, Option.getD_none, ite_self, Nat.reduceAdd, Nat.reduceSub, Nat.reduceMul, Nat.reduceLeDiff, Nat.reduceEqDiff, Nat.reduceBEq, Nat.reduceBNe, Int.reduceLT, Int.reduceLE, Int.reduceAdd, Int.reduceSub, Int.reduceMul, Int.reduceNeg, Int.reduceNe, Int.reduceBEq, Int.reduceBNe, Int.reduceToNat, hl, e1, e2, e4, hH', hst]
    · rw [if_neg h99]
      have e1 : ((x : Int) = 99) = False := eq_false (by omega)
      have e2 : ((x : Int) = 100) = False := eq_false (by omega)
      by_cases h2 : 105 ≤ x ∧ x ≤ 116
      · rw [if_pos h2]
        have hz : (hname x = 0) = False := eq_false (hname_in h2)
        show _ = some _
        simp (contextual := true) (dsimp := false) (disch := omega) only [↓goDown, goUp, List.length_cons, List.length_nil, List.map_cons, List.map_nil, List.take_succ_cons, List.take_zero, List.drop_succ_cons, List.drop_zero, List.drop_nil, List.take_nil, List.cons_append, List.nil_append, List.append_nil, List.set_cons_zero, List.set_cons_succ, List.all_cons, List.all_nil, ↓reduceIte, reduceCtorEq, ge_iff_le, gt_iff_lt, eq_self_iff_true, beq_self_eq_true, beq_iff_eq, bne_iff_ne, ne_eq, ite_not, Int.reduceEq, Option.getD_some, Option.getD_none, ite_self, Nat.reduceAdd, Nat.reduceSub, Nat.reduceMul, Nat.reduceLeDiff, Nat.reduceEqDiff, Nat.reduceBEq, Nat.reduceBNe, Int.reduceLT, Int.reduceLE, Int.reduceAdd, Int.reduceSub, Int.reduceMul, Int.reduceNeg, Int.reduceNe, Int.reduceBEq, Int.reduceBNe, Int.reduceToNat, hl, e1, e2, rabs_is, hz, hH']
        rfl
      · rw [if_neg h2]
        have hz : (hname x = 0) = True := eq_true (hname_out (by omega))
        cases any with
        | true =>
          by_cases h3 : x = 123
          · have e3 : ((x : Int) = 123) = True := eq_true (by omega)
            rw [if_pos ⟨rfl, h3⟩]
            refine ⟨⟨0, false, 0⟩, p, ?_, by omega⟩
            simp (contextual := true) (dsimp := false) (disch := omega) only [↓goDown, goUp, List.length_cons, List.length_nil, List.map_cons, List.map_nil, List.take_succ_cons, List.take_zero, List.drop_succ_cons, List.drop_zero, List.drop_nil, List.take_nil, List.cons_append, List.nil_append, List.append_nil, List.set_cons_zero, List.set_cons_succ, List.all_cons, List.all_nil, ↓reduceIte, reduceCtorEq, ge_iff_le, gt_iff_lt, eq_self_iff_true, beq_self_eq_true, beq_iff_eq, bne_iff_ne, ne_eq, ite_not, Int.reduceEq, Option.getD_some, Option.getD_none, ite_self, Nat.reduceAdd, Nat.reduceSub, Nat.reduceMul, Nat.reduceLeDiff, Nat.reduceEqDiff, Nat.reduceBEq, Nat.reduceBNe, Int.reduceLT, Int.reduceLE, Int.reduceAdd, Int.reduceSub, Int.reduceMul, Int.reduceNeg, Int.reduceNe, Int.reduceBEq, Int.reduceBNe, Int.reduceToNat, hl, e1, e2, rabs_is, hz, hH', e3, hf8]
            rfl
          · have e3 : ((x : Int) = 123) = False := eq_false (by omega)
            rw [if_neg (fun h => h3 h.2)]
            by_cases h4 : 124 ≤ x ∧ x ≤ 127
            · have e4 : (124 : Int) ≤ x := by omega
              have e5 : (x : Int) ≤ 127 := by omega
              rw [if_pos ⟨rfl, h4⟩]
              show _ = some _
              simp (contextual := true) (dsimp := false) (disch := omega) only [↓goDown, goUp, List.length_cons, List.length_nil, List.map_cons, List.map_nil, List.take_succ_cons, List.take_zero, List.drop_succ_cons, List.drop_zero, List.drop_nil, List.take_nil, List.cons_append, List.nil_append, List.append_nil, List.set_cons_zero, List.set_cons_succ, List.all_cons, List.all_nil, ↓reduceIte, reduceCtorEq, ge_iff_le, gt_iff_lt, eq_self_iff_true, beq_self_eq_true, beq_iff_eq, bne_iff_ne, ne_eq, ite_not, Int.reduceEq, Option.getD_some, Option.getD_none, ite_self, Nat.reduceAdd, Nat.reduceSub, Nat.reduceMul, Nat.reduceLeDiff, Nat.reduceEqDiff, Nat.reduceBEq, Nat.reduceBNe, Int.reduceLT, Int.reduceLE, Int.reduceAdd, Int.reduceSub, Int.reduceMul, Int.reduceNeg, Int.reduceNe, Int.reduceBEq, Int.reduceBNe, Int.reduceToNat, hl, e1, e2, rabs_is, hz, hH', e3, e4, e5, p_ratchetref08_reading_val_11111111_eq]
              rfl
            · rw [if_neg (fun h => h4 h.2)]
              have e4 : (124 : Int) ≤ x → ¬ (x : Int) ≤ 127 := by omega
              refine ⟨⟨0, false, 0⟩, p + 1, ?_, by omega⟩
              by_cases h5 : (124 : Int) ≤ x
              · have h6 := e4 h5
                simp (contextual := true) (dsimp := false) (disch := omega) only [↓goDown, goUp, List.length_cons, List.length_nil, List.map_cons, List.map_nil, List.take_succ_cons, List.take_zero, List.drop_succ_cons, List.drop_zero, List.drop_nil, List.take_nil, List.cons_append, List.nil_append, List.append_nil, List.set_cons_zero, List.set_cons_succ, List.all_cons, List.all_nil, ↓reduceIte, reduceCtorEq, ge_iff_le, gt_iff_lt, eq_self_iff_true, beq_self_eq_true, beq_iff_eq, bne_iff_ne, ne_eq, ite_not, Int.reduceEq, Option.getD_some, Option.getD_none, ite_self, Nat.reduceAdd, Nat.reduceSub, Nat.reduceMul, Nat.reduceLeDiff, Nat.reduceEqDiff, Nat.reduceBEq, Nat.reduceBNe, Int.reduceLT, Int.reduceLE, Int.reduceAdd, Int.reduceSub, Int.reduceMul, Int.reduceNeg, Int.reduceNe, Int.reduceBEq, Int.reduceBNe, Int.reduceToNat, hl, e1, e2, rabs_is, hz, hH', e3, h5, h6, hf4, n1, n2, p_ratchetref08_reading_val_11111111_eq, rst]
                rfl
              · simp (contextual := true) (dsimp := false) (disch := omega) only [↓goDown, goUp, List.length_cons, List.length_nil, List.map_cons, List.map_nil, List.take_succ_cons, List.take_zero, List.drop_succ_cons, List.drop_zero, List.drop_nil, List.take_nil, List.cons_append, List.nil_append, List.append_nil, List.set_cons_zero, List.set_cons_succ, List.all_cons, List.all_nil, ↓reduceIte, reduceCtorEq, ge_iff_le, gt_iff_lt, eq_self_iff_true, beq_self_eq_true, beq_iff_eq, bne_iff_ne, ne_eq, ite_not, Int.reduceEq, Option.getD_some, Option.getD_none, ite_self, Nat.reduceAdd, Nat.reduceSub, Nat.reduceMul, Nat.reduceLeDiff, Nat.reduceEqDiff, Nat.reduceBEq, Nat.reduceBNe, Int.reduceLT, Int.reduceLE, Int.reduceAdd, Int.reduceSub, Int.reduceMul, Int.reduceNeg, Int.reduceNe, Int.reduceBEq, Int.reduceBNe, Int.reduceToNat, hl, e1, e2, rabs_is, hz, hH', e3, h5, hf4, n1, n2, p_ratchetref08_reading_val_11111111_eq, rst]
                rfl
        | false =>
          rw [if_neg (by simp), if_neg (by simp)]
          refine ⟨⟨0, false, 0⟩, p + 1, ?_, by omega⟩
          simp (contextual := true) (dsimp := false) (disch := omega) only [↓goDown, goUp, List.length_cons, List.length_nil, List.map_cons, List.map_nil, List.take_succ_cons, List.take_zero, List.drop_succ_cons, List.drop_zero, List.drop_nil, List.take_nil, List.cons_append, List.nil_append, List.append_nil, List.set_cons_zero, List.set_cons_succ, List.all_cons, List.all_nil, ↓reduceIte, reduceCtorEq, ge_iff_le, gt_iff_lt, eq_self_iff_true, beq_self_eq_true, beq_iff_eq, bne_iff_ne, ne_eq, ite_not, Int.reduceEq, Option.getD_some, Option.getD_none, ite_self, Nat.reduceAdd, Nat.reduceSub, Nat.reduceMul, Nat.reduceLeDiff, Nat.reduceEqDiff, Nat.reduceBEq, Nat.reduceBNe, Int.reduceLT, Int.reduceLE, Int.reduceAdd, Int.reduceSub, Int.reduceMul, Int.reduceNeg, Int.reduceNe, Int.reduceBEq, Int.reduceBNe, Int.reduceToNat, hl, e1, e2, rabs_is, hz, hH', hf4, n1, n2, p_ratchetref08_reading_val_11111111_eq, rst]
          rfl
  · rw [if_neg h1]
    have hl := fun L => peek_no (hH1 L) h1
    have hfail := fun L => rfail_is (a := b.length) (w := 3) (hH1 L)
    simp only [so] at hfail
    have hfail : ∀ L, run (C k_ratchetref08_reading_fail [.ptr c 0, .int .i64 b.length, .int .i64 3]) (hadd H L) = some (.ok (.tup []) (hadd (Pi.hset H c (rst z b p b.length 3)) L)) := hfail
    refine ⟨⟨0, false, 0⟩, p, ?_, by omega⟩
    simp (contextual := true) (dsimp := false) (disch := omega) only [↓goDown, goUp, List.length_cons, List.length_nil, List.map_cons, List.map_nil, List.take_succ_cons, List.take_zero, List.drop_succ_cons, List.drop_zero, List.drop_nil, List.take_nil, List.cons_append, List.nil_append, List.append_nil, List.set_cons_zero, List.set_cons_succ, List.all_cons, List.all_nil, ↓reduceIte, reduceCtorEq, ge_iff_le, gt_iff_lt, eq_self_iff_true, beq_self_eq_true, beq_iff_eq, bne_iff_ne, ne_eq, ite_not, Int.reduceEq, Option.getD_some, Option.getD_none, ite_self, Nat.reduceAdd, Nat.reduceSub, Nat.reduceMul, Nat.reduceLeDiff, Nat.reduceEqDiff, Nat.reduceBEq, Nat.reduceBNe, Int.reduceLT, Int.reduceLE, Int.reduceAdd, Int.reduceSub, Int.reduceMul, Int.reduceNeg, Int.reduceNe, Int.reduceBEq, Int.reduceBNe, Int.reduceToNat, hl, hH', hfail, List.length_map, un_not]
    rfl
theorem rval_pack {H : Heap} {b : List UInt8} {z : Bool} {c p : Nat} {n : Int} (hH : hget H c = some (rst z b p 0 0)) (hb : b.length < 2 ^ 61) (hp : p < b.length) (hx : (b.getD p 0).toNat = 120 ∧ n = 6 ∨ (b.getD p 0).toNat = 119 ∧ n = 7) :
    run (C k_ratchetref08_reading_val [.ptr c 0, .bool true, .bool true]) H = some (.ok (encV ⟨n, false, 0⟩) (Pi.hset H c (rst z b (p + 1) 0 0))) := by
  have hid := get_lt hH
  have hset := set_self hH
  have hH1 : ∀ L, hget (hadd H L) c = some (rst z b p 0 0) := fun L => by rw [get_old hid]; exact hH
  have hH' : hget H c = some (.cells [BS z b, .int .i64 p, .int .i64 0, .int .i64 0]) := hH
  have hl := fun L => peek_ok (hH1 L) hb hp
  have hc := byt_lt (b.getD p 0)
  rw [ratchetref08_reading_val_eq]
  generalize (b.getD p 0).toNat = x at hl hc hx ⊢
  have e1 : ((x : Int) = 99) = False := eq_false (by omega)
  have e2 : ((x : Int) = 100) = False := eq_false (by omega)
  have e3 : ((x : Int) = 123) = False := eq_false (by omega)
  have e4 : ((124 : Int) ≤ x) = False := eq_false (by omega)
  have hz : (hname x = 0) = True := eq_true (hname_out (by omega))
  rcases hx with ⟨h, rfl⟩ | ⟨h, rfl⟩
  · have e5 : ((x : Int) = 120) = True := eq_true (by omega)
    simp (contextual := true) (dsimp := false) (disch := omega) only [↓goDown, goUp, List.length_cons, List.length_nil, List.map_cons, List.map_nil, List.take_succ_cons, List.take_zero, List.drop_succ_cons, List.drop_zero, List.drop_nil, List.take_nil, List.cons_append, List.nil_append, List.append_nil, List.set_cons_zero, List.set_cons_succ, List.all_cons, List.all_nil, ↓reduceIte, reduceCtorEq, ge_iff_le, gt_iff_lt, eq_self_iff_true, beq_self_eq_true, beq_iff_eq, bne_iff_ne, ne_eq, ite_not, Int.reduceEq, Option.getD_some, Option.getD_none, ite_self, Nat.reduceAdd, Nat.reduceSub, Nat.reduceMul, Nat.reduceLeDiff, Nat.reduceEqDiff, Nat.reduceBEq, Nat.reduceBNe, Int.reduceLT, Int.reduceLE, Int.reduceAdd, Int.reduceSub, Int.reduceMul, Int.reduceNeg, Int.reduceNe, Int.reduceBEq, Int.reduceBNe, Int.reduceToNat, hl, e1, e2, rabs_is, hz, hH', e3, e4, e5, p_ratchetref08_reading_val_11111111_eq]
    rfl
  · have e5 : ((x : Int) = 120) = False := eq_false (by omega)
    have e6 : ((x : Int) = 119) = True := eq_true (by omega)
    simp (contextual := true) (dsimp := false) (disch := omega) only [↓goDown, goUp, List.length_cons, List.length_nil, List.map_cons, List.map_nil, List.take_succ_cons, List.take_zero, List.drop_succ_cons, List.drop_zero, List.drop_nil, List.take_nil, List.cons_append, List.nil_append, List.append_nil, List.set_cons_zero, List.set_cons_succ, List.all_cons, List.all_nil, ↓reduceIte, reduceCtorEq, ge_iff_le, gt_iff_lt, eq_self_iff_true, beq_self_eq_true, beq_iff_eq, bne_iff_ne, ne_eq, ite_not, Int.reduceEq, Option.getD_some, Option.getD_none, ite_self, Nat.reduceAdd, Nat.reduceSub, Nat.reduceMul, Nat.reduceLeDiff, Nat.reduceEqDiff, Nat.reduceBEq, Nat.reduceBNe, Int.reduceLT, Int.reduceLE, Int.reduceAdd, Int.reduceSub, Int.reduceMul, Int.reduceNeg, Int.reduceNe, Int.reduceBEq, Int.reduceBNe, Int.reduceToNat, hl, e1, e2, rabs_is, hz, hH', e3, e4, e5, e6, p_ratchetref08_reading_val_11111111_eq]
    rfl
theorem rfieldV_is {H : Heap} {b : List UInt8} {z : Bool} {c p : Nat} (hH : hget H c = some (rst z b p 0 0)) (hb : b.length < 2 ^ 61) (hp : p ≤ b.length) :
    outF z b c H encV (run (C k_ratchetref08_reading_val [.ptr c 0, .bool true, .bool true]) H) (rFieldV b p) := by
  unfold rFieldV
  by_cases h1 : p < b.length
  · rw [if_pos h1]
    by_cases h2 : (b.getD p 0).toNat = 120
    · rw [if_pos h2]
      exact rval_pack hH hb h1 (.inl ⟨h2, rfl⟩)
    · rw [if_neg h2]
      by_cases h3 : (b.getD p 0).toNat = 119
      · rw [if_pos h3]
        exact rval_pack hH hb h1 (.inr ⟨h3, rfl⟩)
      · rw [if_neg h3, rVal_of h1]
        have h := rvalF_is (any := true) (fun _ => ⟨h2, h3⟩) hH hb hp
        rw [if_pos h1] at h
        exact h
  · have h := rvalF_is (any := true) (fun h => absurd h h1) hH hb hp
    rw [if_neg h1] at h ⊢
    exact h
theorem rsmall_is {H : Heap} {b : List UInt8} {z : Bool} {c p most : Nat} (hH : hget H c = some (rst z b p 0 0)) (hb : b.length < 2 ^ 61) (hp : p ≤ b.length) :
    outF z b c H (fun n : Nat => .int .u8 n) (run (C k_ratchetref08_reading_small [.ptr c 0, .int .u8 most]) H) (rSmall b most p) := by
  have hid := get_lt hH
  have hset := set_self hH
  have hH' : hget H c = some (.cells [BS z b, .int .i64 p, .int .i64 0, .int .i64 0]) := hH
  have hs' : Pi.hset H c (.cells [BS z b, .int .i64 p, .int .i64 0, .int .i64 0]) = H := hset
  rw [ratchetref08_reading_small_eq]
  unfold rSmall
  by_cases h1 : p < b.length
  · have hl := peek_ok hH hb h1
    have hc := byt_lt (b.getD p 0)
    have f4 : run (C k_ratchetref08_reading_fail [.ptr c 0, .int .i64 p, .int .i64 4]) H = some (.ok (.tup []) (Pi.hset H c (rst z b p p 4))) := rfail_is (a := p) (w := 4) hH
    have g4 : hget (Pi.hset H c (rst z b p p 4)) c = some (.cells [BS z b, .int .i64 p, .int .i64 p, .int .i64 4]) := get_set hid
    rw [if_pos h1]
    generalize (b.getD p 0).toNat = x at hl hc ⊢
    by_cases h2 : most < x
    · have c1 : (most : Int) < x := by omega
      rw [if_pos h2]
      refine ⟨x, p + 1, ?_, by omega⟩
      simp (contextual := true) (dsimp := false) (disch := omega) only [↓goDown, goUp, List.length_cons, List.length_nil, List.map_cons, List.map_nil, List.take_succ_cons, List.take_zero, List.drop_succ_cons, List.drop_zero, List.drop_nil, List.take_nil, List.cons_append, List.nil_append, List.append_nil, List.set_cons_zero, List.set_cons_succ, List.all_cons, List.all_nil, ↓reduceIte, reduceCtorEq, ge_iff_le, gt_iff_lt, eq_self_iff_true, beq_self_eq_true, beq_iff_eq, bne_iff_ne, ne_eq, ite_not, Int.reduceEq, Option.getD_some, Option.getD_none, ite_self, Nat.reduceAdd, Nat.reduceSub, Nat.reduceMul, Nat.reduceLeDiff, Nat.reduceEqDiff, Nat.reduceBEq, Nat.reduceBNe, Int.reduceLT, Int.reduceLE, Int.reduceAdd, Int.reduceSub, Int.reduceMul, Int.reduceNeg, Int.reduceNe, Int.reduceBEq, Int.reduceBNe, Int.reduceToNat, hl, eq_true c1, hH', f4, g4, p_ratchetref08_reading_small_1111_eq]
      rfl
    · have c1 : ¬ (most : Int) < x := by omega
      rw [if_neg h2]
      show _ = some _
      simp (contextual := true) (dsimp := false) (disch := omega) only [↓goDown, goUp, List.length_cons, List.length_nil, List.map_cons, List.map_nil, List.take_succ_cons, List.take_zero, List.drop_succ_cons, List.drop_zero, List.drop_nil, List.take_nil, List.cons_append, List.nil_append, List.append_nil, List.set_cons_zero, List.set_cons_succ, List.all_cons, List.all_nil, ↓reduceIte, reduceCtorEq, ge_iff_le, gt_iff_lt, eq_self_iff_true, beq_self_eq_true, beq_iff_eq, bne_iff_ne, ne_eq, ite_not, Int.reduceEq, Option.getD_some, Option.getD_none, ite_self, Nat.reduceAdd, Nat.reduceSub, Nat.reduceMul, Nat.reduceLeDiff, Nat.reduceEqDiff, Nat.reduceBEq, Nat.reduceBNe, Int.reduceLT, Int.reduceLE, Int.reduceAdd, Int.reduceSub, Int.reduceMul, Int.reduceNeg, Int.reduceNe, Int.reduceBEq, Int.reduceBNe, Int.reduceToNat, hl, c1, hH', p_ratchetref08_reading_small_1111_eq]
      rfl
  · have hl := peek_no hH h1
    have f3 : run (C k_ratchetref08_reading_fail [.ptr c 0, .int .i64 b.length, .int .i64 3]) H = some (.ok (.tup []) (Pi.hset H c (rst z b p b.length 3))) := rfail_is (a := b.length) (w := 3) hH
    rw [if_neg h1]
    refine ⟨0, p, ?_, by omega⟩
    simp (contextual := true) (dsimp := false) (disch := omega) only [↓goDown, goUp, List.length_cons, List.length_nil, List.map_cons, List.map_nil, List.take_succ_cons, List.take_zero, List.drop_succ_cons, List.drop_zero, List.drop_nil, List.take_nil, List.cons_append, List.nil_append, List.append_nil, List.set_cons_zero, List.set_cons_succ, List.all_cons, List.all_nil, ↓reduceIte, reduceCtorEq, ge_iff_le, gt_iff_lt, eq_self_iff_true, beq_self_eq_true, beq_iff_eq, bne_iff_ne, ne_eq, ite_not, Int.reduceEq, Option.getD_some, Option.getD_none, ite_self, Nat.reduceAdd, Nat.reduceSub, Nat.reduceMul, Nat.reduceLeDiff, Nat.reduceEqDiff, Nat.reduceBEq, Nat.reduceBNe, Int.reduceLT, Int.reduceLE, Int.reduceAdd, Int.reduceSub, Int.reduceMul, Int.reduceNeg, Int.reduceNe, Int.reduceBEq, Int.reduceBNe, Int.reduceToNat, hl, hH', f3, List.length_map, un_not]
    rfl
theorem rfield_is {H : Heap} {b : List UInt8} {z : Bool} {c p : Nat} (hH : hget H c = some (rst z b p 0 0)) (hb : b.length < 2 ^ 61) (hp : p ≤ b.length) :
    outF z b c H encF (run (C k_ratchetref08_reading_field [.ptr c 0]) H) (rField b p) := by
  have hid := get_lt hH
  have hH1 : ∀ L, hget (hadd H L) c = some (rst z b p 0 0) := fun L => by rw [get_old hid]; exact hH
  have so : ∀ u a w L, Pi.hset (hadd H L) c (rst z b u a w) = hadd (Pi.hset H c (rst z b u a w)) L := fun u a w L => by rw [set_old hid]
  have so1 : ∀ u a w u' a' w' L, Pi.hset (hadd (Pi.hset H c (rst z b u' a' w')) L) c (rst z b u a w) = hadd (Pi.hset H c (rst z b u a w)) L := fun u a w u' a' w' L => by rw [set_old1 hid, set_set]
  have hH2 : ∀ u a w L, hget (hadd (Pi.hset H c (rst z b u a w)) L) c = some (rst z b u a w) := fun u a w L => by rw [get_old1 hid, get_set hid]
  have hH3 : ∀ u a w, hget (Pi.hset H c (rst z b u a w)) c = some (.cells [BS z b, .int .i64 u, .int .i64 a, .int .i64 w]) := fun u a w => get_set hid
  have h1 := rfieldV_is (hH1 [.cells [.int .i64 0, .bool false, .int .i64 0, .bool false]]) hb hp
  rw [ratchetref08_reading_field_eq]
  unfold rField
  cases hr : rFieldV b p with
  | err a w =>
    rw [hr] at h1
    obtain ⟨v, q, h1, hw⟩ := h1
    simp only [so] at h1
    have c1 : ((w : Int) = 0) = False := eq_false (by omega)
    have h3 := hH3 q a w
    refine ⟨⟨⟨0, false, 0⟩, false⟩, q, ?_, hw⟩
    simp (contextual := true) (dsimp := false) (disch := omega) only [↓goDown, goUp, List.length_cons, List.length_nil, List.map_cons, List.map_nil, List.take_succ_cons, List.take_zero, List.drop_succ_cons, List.drop_zero, List.drop_nil, List.take_nil, List.cons_append, List.nil_append, List.append_nil, List.set_cons_zero, List.set_cons_succ, List.all_cons, List.all_nil, ↓reduceIte, reduceCtorEq, ge_iff_le, gt_iff_lt, eq_self_iff_true, beq_self_eq_true, beq_iff_eq, bne_iff_ne, ne_eq, ite_not, Int.reduceEq, Option.getD_some, Option.getD_none, ite_self, Nat.reduceAdd, Nat.reduceSub, Nat.reduceMul, Nat.reduceLeDiff, Nat.reduceEqDiff, Nat.reduceBEq, Nat.reduceBNe, Int.reduceLT, Int.reduceLE, Int.reduceAdd, Int.reduceSub, Int.reduceMul, Int.reduceNeg, Int.reduceNe, Int.reduceBEq, Int.reduceBNe, Int.reduceToNat, h1, cells_V, h3, c1]
    rfl
  | ok v q1 =>
    rw [hr] at h1
    simp only [outF, so] at h1
    have h3 : hget (Pi.hset H c (rst z b q1 0 0)) c = some (.cells [BS z b, .int .i64 q1, .int .i64 0, .int .i64 0]) := hH3 q1 0 0
    have hs := rsmall_is (most := 1) (hH2 q1 0 0 [.cells [.int .i64 0, .bool false, .int .i64 0, .bool false], .cells [.int .i64 v.num, .bool v.nul, .int .i64 v.heap]]) hb (rFieldV_le hr)
    have hs : outF z b c (hadd (Pi.hset H c (rst z b q1 0 0)) [.cells [.int .i64 0, .bool false, .int .i64 0, .bool false], .cells [.int .i64 v.num, .bool v.nul, .int .i64 v.heap]]) (fun n : Nat => .int .u8 n) (run (C k_ratchetref08_reading_small [.ptr c 0, .int .u8 1]) (hadd (Pi.hset H c (rst z b q1 0 0)) [.cells [.int .i64 0, .bool false, .int .i64 0, .bool false], .cells [.int .i64 v.num, .bool v.nul, .int .i64 v.heap]])) (rSmall b 1 q1) := hs
    have c2 : ∀ n : Nat, ((n : Int) == 1) = (n == 1) := fun n => by rw [Bool.eq_iff_iff]; simp; omega
    dsimp only
    cases hr2 : rSmall b 1 q1 with
    | ok n q2 =>
      rw [hr2] at hs
      simp only [outF, so1] at hs
      simp only [rsMut]
      show _ = some _
      simp (contextual := true) (dsimp := false) (disch := omega) only [↓goDown, goUp, List.length_cons, List.length_nil, List.map_cons, List.map_nil, List.take_succ_cons, List.take_zero, List.drop_succ_cons, List.drop_zero, List.drop_nil, List.take_nil, List.cons_append, List.nil_append, List.append_nil, List.set_cons_zero, List.set_cons_succ, List.all_cons, List.all_nil, ↓reduceIte, reduceCtorEq, ge_iff_le, gt_iff_lt, eq_self_iff_true, beq_self_eq_true, beq_iff_eq, bne_iff_ne, ne_eq, ite_not, Int.reduceEq, Option.getD_some, Option.getD_none, ite_self, Nat.reduceAdd, Nat.reduceSub, Nat.reduceMul, Nat.reduceLeDiff, Nat.reduceEqDiff, Nat.reduceBEq, Nat.reduceBNe, Int.reduceLT, Int.reduceLE, Int.reduceAdd, Int.reduceSub, Int.reduceMul, Int.reduceNeg, Int.reduceNe, Int.reduceBEq, Int.reduceBNe, Int.reduceToNat, h1, cells_V, h3, hs, c2]
      rfl
    | err a w =>
      rw [hr2] at hs
      obtain ⟨n, q, hs, hw⟩ := hs
      simp only [so1] at hs
      simp only [rsMut]
      refine ⟨⟨v, n == 1⟩, q, ?_, hw⟩
      simp (contextual := true) (dsimp := false) (disch := omega) only [↓goDown, goUp, List.length_cons, List.length_nil, List.map_cons, List.map_nil, List.take_succ_cons, List.take_zero, List.drop_succ_cons, List.drop_zero, List.drop_nil, List.take_nil, List.cons_append, List.nil_append, List.append_nil, List.set_cons_zero, List.set_cons_succ, List.all_cons, List.all_nil, ↓reduceIte, reduceCtorEq, ge_iff_le, gt_iff_lt, eq_self_iff_true, beq_self_eq_true, beq_iff_eq, bne_iff_ne, ne_eq, ite_not, Int.reduceEq, Option.getD_some, Option.getD_none, ite_self, Nat.reduceAdd, Nat.reduceSub, Nat.reduceMul, Nat.reduceLeDiff, Nat.reduceEqDiff, Nat.reduceBEq, Nat.reduceBNe, Int.reduceLT, Int.reduceLE, Int.reduceAdd, Int.reduceSub, Int.reduceMul, Int.reduceNeg, Int.reduceNe, Int.reduceBEq, Int.reduceBNe, Int.reduceToNat, h1, cells_V, h3, hs, c2]
      rfl
end Go.Proofs.Ytofbbijagbpicaa.Pi.Q
/- The reference's readers, with what they leave behind a fault told outright. (Begun by tool/genx.py.) -/
namespace Go.Proofs.Ytofbbijagbpicaa.Pi.Q
open Go Go.Proofs.Ytofbbijagbpicaa.Pi
set_option linter.unusedVariables false
set_option linter.unusedSimpArgs false
set_option maxRecDepth 100000
attribute [local congr] ite_congr
/-- As outF, the value and the place behind a fault told: x. -/
def outX (z : Bool) (b : List UInt8) (c : Nat) (H : Heap) {α : Type} (enc : α → PV) (r : Option (Out PV)) (x : α × Nat) : Rs α → Prop
  | .ok v p => r = some (.ok (enc v) (hset H c (rst z b p 0 0)))
  | .err a w => r = some (.ok (enc x.1) (hset H c (rst z b x.2 a w))) ∧ w ≠ 0
def eHeap (b : List UInt8) (p : Nat) : Int × Nat := match rdS b 33 b.length p with | .ok n q => (0, q) | .err a w => (0, p)
theorem rheapX {H : Heap} {b : List UInt8} {z : Bool} {c p : Nat} (hH : hget H c = some (rst z b p 0 0)) (hb : b.length < 2 ^ 61) (hp : p ≤ b.length) :
    outX z b c H (fun x : Int => .int .i64 x) (run (C k_ratchetref08_reading_heap [.ptr c 0]) H) (eHeap b p) (rHeap b p) := by
  have hid := get_lt hH
  have hset := set_self hH
  have hH' : hget H c = some (.cells [BS z b, .int .i64 p, .int .i64 0, .int .i64 0]) := hH
  have hs' : Pi.hset H c (.cells [BS z b, .int .i64 p, .int .i64 0, .int .i64 0]) = H := hset
  rw [ratchetref08_reading_heap_eq]
  unfold rHeap
  -- behind the look
  have tail : ∀ (r : Option (Out PV)), r = truncR H (run (M.bind (C k_ratchetref08_reading_number [.ptr c 0, .int .i64 33, .bool true]) fun t32_18 =>
      M.bind (cv (.int .i64) true t32_18) fun t33_19 =>
      M.bind (nc P (.ptr c 0)) fun t35_20 =>
      M.bind (fa 3 t35_20) fun t36_21 =>
      M.bind (ld none false t36_21) fun t37_22 =>
      M.bind (bi .eql .none t37_22 (.int .i64 0)) fun t38_23 =>
      M.bind (gd (strip t38_23) true (M.pure (strip t33_19))) fun t40_24 =>
      M.bind (gd (strip t38_23) true (bi .lss .none t40_24 (.int .i64 0))) fun t41_25 =>
      M.bind (pick (strip t38_23) t41_25 (.bool false)) fun t42_26 =>
      condM t42_26
      (M.bind (C k_ratchetref08_reading_fail [.ptr c 0, .int .i64 p, .int .i64 4]) fun t45_27 =>
      p_ratchetref08_reading_heap_111111 (.ptr c 0) (.int .i64 0) (.int .i64 p) t33_19)
      (p_ratchetref08_reading_heap_111111 (.ptr c 0) (.int .i64 0) (.int .i64 p) t33_19)) H) → outX z b c H (fun x : Int => .int .i64 x) r (eHeap b p) (rS33 b p) := by
    intro r hr0
    subst hr0
    unfold rS33 eHeap
    cases hr : rdS b 33 b.length p with
    | ok n q =>
      have hn := rdS_lt hr
      have h1 := numberS_ok hH hb hp hr
      have hw : IntKind.i64.wrap (IntKind.u64.wrap n) = n := by rw [wi, wu]; omega
      have hH2 : hget (Pi.hset H c (rst z b q 0 0)) c = some (rst z b q 0 0) := get_set hid
      have hH3 : hget (Pi.hset H c (rst z b q 0 0)) c = some (.cells [BS z b, .int .i64 q, .int .i64 0, .int .i64 0]) := hH2
      have f4 := fun a w => rfail_is (a := a) (w := w) hH2
      simp only [set_set] at f4
      dsimp only
      by_cases n1 : n < 0
      · rw [if_pos n1]
        refine ⟨?_, by omega⟩
        have hH5 : hget (Pi.hset H c (rst z b q p 4)) c = some (.cells [BS z b, .int .i64 q, .int .i64 p, .int .i64 4]) := get_set hid
        have f4 := f4 p 4
        have f4 : run (C k_ratchetref08_reading_fail [.ptr c 0, .int .i64 p, .int .i64 4]) (Pi.hset H c (rst z b q 0 0)) = some (.ok (.tup []) (Pi.hset H c (rst z b q p 4))) := f4
        simp (contextual := true) (dsimp := false) (disch := omega) only [↓goDown, goUp, List.length_cons, List.length_nil, List.map_cons, List.map_nil, List.take_succ_cons, List.take_zero, List.drop_succ_cons, List.drop_zero, List.drop_nil, List.take_nil, List.cons_append, List.nil_append, List.append_nil, List.set_cons_zero, List.set_cons_succ, List.all_cons, List.all_nil, ↓reduceIte, reduceCtorEq, ge_iff_le, gt_iff_lt, eq_self_iff_true, beq_self_eq_true, beq_iff_eq, bne_iff_ne, ne_eq, ite_not, Int.reduceEq, Option.getD_some, Option.getD_none, ite_self, Nat.reduceAdd, Nat.reduceSub, Nat.reduceMul, Nat.reduceLeDiff, Nat.reduceEqDiff, Nat.reduceBEq, Nat.reduceBNe, Int.reduceLT, Int.reduceLE, Int.reduceAdd, Int.reduceSub, Int.reduceMul, Int.reduceNeg, Int.reduceNe, Int.reduceBEq, Int.reduceBNe, Int.reduceToNat, h1, hw, hH3, n1, f4, p_ratchetref08_reading_heap_111111_eq, p_ratchetref08_reading_heap_1111111_eq, hH5]
      · rw [if_neg n1]
        by_cases n2 : 2147483647 < n
        · rw [if_pos n2]
          refine ⟨?_, by omega⟩
          have n3 : (2147483648 : Int) ≤ n := by omega
          have hH5 : hget (Pi.hset H c (rst z b q p 2)) c = some (.cells [BS z b, .int .i64 q, .int .i64 p, .int .i64 2]) := get_set hid
          have f4 : run (C k_ratchetref08_reading_fail [.ptr c 0, .int .i64 p, .int .i64 2]) (Pi.hset H c (rst z b q 0 0)) = some (.ok (.tup []) (Pi.hset H c (rst z b q p 2))) := f4 p 2
          simp (contextual := true) (dsimp := false) (disch := omega) only [↓goDown, goUp, List.length_cons, List.length_nil, List.map_cons, List.map_nil, List.take_succ_cons, List.take_zero, List.drop_succ_cons, List.drop_zero, List.drop_nil, List.take_nil, List.cons_append, List.nil_append, List.append_nil, List.set_cons_zero, List.set_cons_succ, List.all_cons, List.all_nil, ↓reduceIte, reduceCtorEq, ge_iff_le, gt_iff_lt, eq_self_iff_true, beq_self_eq_true, beq_iff_eq, bne_iff_ne, ne_eq, ite_not, Int.reduceEq, Option.getD_some, Option.getD_none, ite_self, Nat.reduceAdd, Nat.reduceSub, Nat.reduceMul, Nat.reduceLeDiff, Nat.reduceEqDiff, Nat.reduceBEq, Nat.reduceBNe, Int.reduceLT, Int.reduceLE, Int.reduceAdd, Int.reduceSub, Int.reduceMul, Int.reduceNeg, Int.reduceNe, Int.reduceBEq, Int.reduceBNe, Int.reduceToNat, h1, hw, hH3, n1, n3, f4, p_ratchetref08_reading_heap_111111_eq, p_ratchetref08_reading_heap_1111111_eq, hH5]
        · rw [if_neg n2]
          have n3 : ¬ (2147483648 : Int) ≤ n := by omega
          show _ = some _
          simp (contextual := true) (dsimp := false) (disch := omega) only [↓goDown, goUp, List.length_cons, List.length_nil, List.map_cons, List.map_nil, List.take_succ_cons, List.take_zero, List.drop_succ_cons, List.drop_zero, List.drop_nil, List.take_nil, List.cons_append, List.nil_append, List.append_nil, List.set_cons_zero, List.set_cons_succ, List.all_cons, List.all_nil, ↓reduceIte, reduceCtorEq, ge_iff_le, gt_iff_lt, eq_self_iff_true, beq_self_eq_true, beq_iff_eq, bne_iff_ne, ne_eq, ite_not, Int.reduceEq, Option.getD_some, Option.getD_none, ite_self, Nat.reduceAdd, Nat.reduceSub, Nat.reduceMul, Nat.reduceLeDiff, Nat.reduceEqDiff, Nat.reduceBEq, Nat.reduceBNe, Int.reduceLT, Int.reduceLE, Int.reduceAdd, Int.reduceSub, Int.reduceMul, Int.reduceNeg, Int.reduceNe, Int.reduceBEq, Int.reduceBNe, Int.reduceToNat, h1, hw, hH3, n1, n3, p_ratchetref08_reading_heap_111111_eq, p_ratchetref08_reading_heap_1111111_eq]
    | err a w =>
      have h1 := numberS_err hH hb hp hr
      have hw := rdS_err hr
      have c1 : ¬ (w : Int) = 0 := by omega
      have hH5 : hget (Pi.hset H c (rst z b p a w)) c = some (.cells [BS z b, .int .i64 p, .int .i64 a, .int .i64 w]) := get_set hid
      have e0 : IntKind.i64.wrap 0 = 0 := rfl
      refine ⟨?_, hw⟩
      simp (contextual := true) (dsimp := false) (disch := omega) only [↓goDown, goUp, List.length_cons, List.length_nil, List.map_cons, List.map_nil, List.take_succ_cons, List.take_zero, List.drop_succ_cons, List.drop_zero, List.drop_nil, List.take_nil, List.cons_append, List.nil_append, List.append_nil, List.set_cons_zero, List.set_cons_succ, List.all_cons, List.all_nil, ↓reduceIte, reduceCtorEq, ge_iff_le, gt_iff_lt, eq_self_iff_true, beq_self_eq_true, beq_iff_eq, bne_iff_ne, ne_eq, ite_not, Int.reduceEq, Option.getD_some, Option.getD_none, ite_self, Nat.reduceAdd, Nat.reduceSub, Nat.reduceMul, Nat.reduceLeDiff, Nat.reduceEqDiff, Nat.reduceBEq, Nat.reduceBNe, Int.reduceLT, Int.reduceLE, Int.reduceAdd, Int.reduceSub, Int.reduceMul, Int.reduceNeg, Int.reduceNe, Int.reduceBEq, Int.reduceBNe, Int.reduceToNat, h1, hH5, c1, e0, p_ratchetref08_reading_heap_111111_eq, p_ratchetref08_reading_heap_1111111_eq]
  by_cases h1 : p < b.length
  · have hl := peek_ok hH hb h1
    have hc := byt_lt (b.getD p 0)
    rw [if_pos h1]
    generalize (b.getD p 0).toNat = x at hl hc ⊢
    have hn := rabs_is (H := H) (c := x)
    by_cases h2 : hname x = 0
    · rw [if_neg (by simpa using h2)]
      refine tail _ ?_
      simp (contextual := true) (dsimp := false) (disch := omega) only [↓goDown, goUp, List.length_cons, List.length_nil, List.map_cons, List.map_nil, List.take_succ_cons, List.take_zero, List.drop_succ_cons, List.drop_zero, List.drop_nil, List.take_nil, List.cons_append, List.nil_append, List.append_nil, List.set_cons_zero, List.set_cons_succ, List.all_cons, List.all_nil, ↓reduceIte, reduceCtorEq, ge_iff_le, gt_iff_lt, eq_self_iff_true, beq_self_eq_true, beq_iff_eq, bne_iff_ne, ne_eq, ite_not, Int.reduceEq, Option.getD_some, Option.getD_none, ite_self, Nat.reduceAdd, Nat.reduceSub, Nat.reduceMul, Nat.reduceLeDiff, Nat.reduceEqDiff, Nat.reduceBEq, Nat.reduceBNe, Int.reduceLT, Int.reduceLE, Int.reduceAdd, Int.reduceSub, Int.reduceMul, Int.reduceNeg, Int.reduceNe, Int.reduceBEq, Int.reduceBNe, Int.reduceToNat, hl, hn, h2, hH', hs']
    · rw [if_pos (by simpa using h2)]
      show _ = some _
      simp (contextual := true) (dsimp := false) (disch := omega) only [↓goDown, goUp, List.length_cons, List.length_nil, List.map_cons, List.map_nil, List.take_succ_cons, List.take_zero, List.drop_succ_cons, List.drop_zero, List.drop_nil, List.take_nil, List.cons_append, List.nil_append, List.append_nil, List.set_cons_zero, List.set_cons_succ, List.all_cons, List.all_nil, ↓reduceIte, reduceCtorEq, ge_iff_le, gt_iff_lt, eq_self_iff_true, beq_self_eq_true, beq_iff_eq, bne_iff_ne, ne_eq, ite_not, Int.reduceEq, Option.getD_some, Option.getD_none, ite_self, Nat.reduceAdd, Nat.reduceSub, Nat.reduceMul, Nat.reduceLeDiff, Nat.reduceEqDiff, Nat.reduceBEq, Nat.reduceBNe, Int.reduceLT, Int.reduceLE, Int.reduceAdd, Int.reduceSub, Int.reduceMul, Int.reduceNeg, Int.reduceNe, Int.reduceBEq, Int.reduceBNe, Int.reduceToNat, hl, rabs_is, h2, hH']
      rfl
  · have hl := peek_no hH h1
    have e3 : rS33 b p = .err b.length 3 := by
      have hpe : p = b.length := by omega
      subst hpe
      unfold rS33 rdS lebS
      rw [if_neg (by omega)]
    rw [if_neg h1, ← e3]
    refine tail _ ?_
    simp (contextual := true) (dsimp := false) (disch := omega) only [↓goDown, goUp, List.length_cons, List.length_nil, List.map_cons, List.map_nil, List.take_succ_cons, List.take_zero, List.drop_succ_cons, List.drop_zero, List.drop_nil, List.take_nil, List.cons_append, List.nil_append, List.append_nil, List.set_cons_zero, List.set_cons_succ, List.all_cons, List.all_nil, ↓reduceIte, reduceCtorEq, ge_iff_le, gt_iff_lt, eq_self_iff_true, beq_self_eq_true, beq_iff_eq, bne_iff_ne, ne_eq, ite_not, Int.reduceEq, Option.getD_some, Option.getD_none, ite_self, Nat.reduceAdd, Nat.reduceSub, Nat.reduceMul, Nat.reduceLeDiff, Nat.reduceEqDiff, Nat.reduceBEq, Nat.reduceBNe, Int.reduceLT, Int.reduceLE, Int.reduceAdd, Int.reduceSub, Int.reduceMul, Int.reduceNeg, Int.reduceNe, Int.reduceBEq, Int.reduceBNe, Int.reduceToNat, hl, hH', hs']
def eOf (any : Bool) (b : List UInt8) (p x : Nat) : VT × Nat :=
  if x = 99 ∨ x = 100 then (⟨5, x == 99, (eHeap b (p + 1)).1⟩, (eHeap b (p + 1)).2)
  else if any = true ∧ x = 123 then (⟨0, false, 0⟩, p) else (⟨0, false, 0⟩, p + 1)
def eVal (any : Bool) (b : List UInt8) (p : Nat) : VT × Nat := if p < b.length then eOf any b p (b.getD p 0).toNat else (⟨0, false, 0⟩, p)
theorem rvalX {H : Heap} {b : List UInt8} {z : Bool} {c p : Nat} {any : Bool} (hH : hget H c = some (rst z b p 0 0)) (hb : b.length < 2 ^ 61) (hp : p ≤ b.length) :
    outX z b c H encV (run (C k_ratchetref08_reading_val [.ptr c 0, .bool any, .bool false]) H) (eVal any b p) (if p < b.length then rOf any b p (b.getD p 0).toNat else .err b.length 3) := by
  have hid := get_lt hH
  have hset := set_self hH
  have hH1 : ∀ L, hget (hadd H L) c = some (rst z b p 0 0) := fun L => by rw [get_old hid]; exact hH
  have hH' : hget H c = some (.cells [BS z b, .int .i64 p, .int .i64 0, .int .i64 0]) := hH
  have hs' : Pi.hset H c (.cells [BS z b, .int .i64 p, .int .i64 0, .int .i64 0]) = H := hset
  have so : ∀ u a w L, Pi.hset (hadd H L) c (rst z b u a w) = hadd (Pi.hset H c (rst z b u a w)) L := fun u a w L => by rw [set_old hid]
  have so1 : ∀ u a w u' a' w' L, Pi.hset (hadd (Pi.hset H c (rst z b u' a' w')) L) c (rst z b u a w) = hadd (Pi.hset H c (rst z b u a w)) L := fun u a w u' a' w' L => by rw [set_old1 hid, set_set]
  rw [ratchetref08_reading_val_eq]
  unfold eVal
  by_cases h1 : p < b.length
  · have hl := fun L => peek_ok (hH1 L) hb h1
    have hc := byt_lt (b.getD p 0)
    rw [if_pos h1, if_pos h1]
    generalize (b.getD p 0).toNat = x at hl hc ⊢
    have hfail := fun L (w : Nat) => rfail_is (a := p) (w := w) (hH1 L)
    simp only [so] at hfail
    have hf4 : ∀ L, run (C k_ratchetref08_reading_fail [.ptr c 0, .int .i64 p, .int .i64 4]) (hadd H L) = some (.ok (.tup []) (hadd (Pi.hset H c (rst z b p p 4)) L)) := fun L => hfail L 4
    have hf8 : ∀ L, run (C k_ratchetref08_reading_fail [.ptr c 0, .int .i64 p, .int .i64 8]) (hadd H L) = some (.ok (.tup []) (hadd (Pi.hset H c (rst z b p p 8)) L)) := fun L => hfail L 8
    unfold rOf eOf
    by_cases h99 : x = 99 ∨ x = 100
    · rw [if_pos h99, if_pos h99]
      have hH2 : ∀ L, hget (hadd (Pi.hset H c (rst z b (p + 1) 0 0)) L) c = some (rst z b (p + 1) 0 0) := fun L => by
        rw [get_old1 hid, get_set hid]
      have hk := rheapX (hH2 [.cells [.int .i64 0, .bool false, .int .i64 0]]) hb (show p + 1 ≤ b.length by omega)
      have fin : ∀ (t : Bool), ((x : Int) == 99) = t → (x == 99) = t → outX z b c H encV (truncR H (run (M.bind (C k_ratchetref08_reading_heap [.ptr c 0]) fun t41_25 =>
          M.bind (bd [(.int .i64 0), (.bool false), (.int .i64 0)] [(0, 1, (.int .i64 5)), (1, 1, (.bool t)), (2, 1, t41_25)]) fun t42_26 =>
          M.bind (st 3 true (.ptr H.length 0) t42_26) fun _ =>
          M.bind (ld (some 3) true (.ptr H.length 0)) fun t0_28 => guardM (!isTup t0_28) (M.pure t0_28)) (hadd (Pi.hset H c (rst z b (p + 1) 0 0)) [.cells [.int .i64 0, .bool false, .int .i64 0]]))) (⟨5, t, (eHeap b (p + 1)).1⟩, (eHeap b (p + 1)).2) (rsRef t (rHeap b (p + 1))) := by
        intro t ht ht'
        cases hr : rHeap b (p + 1) with
        | ok v q =>
          rw [hr] at hk
          simp only [outX, so1] at hk
          simp only [rsRef]
          show _ = some _
          simp (contextual := true) (dsimp := false) (disch := omega) only [↓goDown, goUp, List.length_cons, List.length_nil, List.map_cons, List.map_nil, List.take_succ_cons, List.take_zero, List.drop_succ_cons, List.drop_zero, List.drop_nil, List.take_nil, List.cons_append, List.nil_append, List.append_nil, List.set_cons_zero, List.set_cons_succ, List.all_cons, List.all_nil, ↓reduceIte, reduceCtorEq, ge_iff_le, gt_iff_lt, eq_self_iff_true, beq_self_eq_true, beq_iff_eq, bne_iff_ne, ne_eq, ite_not, Int.reduceEq, Option.getD_some, Option.getD_none, ite_self, Nat.reduceAdd, Nat.reduceSub, Nat.reduceMul, Nat.reduceLeDiff, Nat.reduceEqDiff, Nat.reduceBEq, Nat.reduceBNe, Int.reduceLT, Int.reduceLE, Int.reduceAdd, Int.reduceSub, Int.reduceMul, Int.reduceNeg, Int.reduceNe, Int.reduceBEq, Int.reduceBNe, Int.reduceToNat, hk]
          rfl
        | err a w =>
          rw [hr] at hk
          obtain ⟨hk, hw⟩ := hk
          simp only [so1] at hk
          simp only [rsRef]
          refine ⟨?_, hw⟩
          simp (contextual := true) (dsimp := false) (disch := omega) only [↓goDown, goUp, List.length_cons, List.length_nil, List.map_cons, List.map_nil, List.take_succ_cons, List.take_zero, List.drop_succ_cons, List.drop_zero, List.drop_nil, List.take_nil, List.cons_append, List.nil_append, List.append_nil, List.set_cons_zero, List.set_cons_succ, List.all_cons, List.all_nil, ↓reduceIte, reduceCtorEq, ge_iff_le, gt_iff_lt, eq_self_iff_true, beq_self_eq_true, beq_iff_eq, bne_iff_ne, ne_eq, ite_not, Int.reduceEq, Option.getD_some, Option.getD_none, ite_self, Nat.reduceAdd, Nat.reduceSub, Nat.reduceMul, Nat.reduceLeDiff, Nat.reduceEqDiff, Nat.reduceBEq, Nat.reduceBNe, Int.reduceLT, Int.reduceLE, Int.reduceAdd, Int.reduceSub, Int.reduceMul, Int.reduceNeg, Int.reduceNe, Int.reduceBEq, Int.reduceBNe, Int.reduceToNat, hk]
          rfl
      have hst : Pi.hset H c (.cells [BS z b, .int .i64 ((p : Int) + 1), .int .i64 0, .int .i64 0]) = Pi.hset H c (rst z b (p + 1) 0 0) := rfl
      by_cases c1 : x = 99
      · have e1 : ((x : Int) = 99) = True := eq_true (by omega)
        have e2 : ((x : Int) == 99) = true := by simpa using e1
        have e3 : (x == 99) = true := by simpa using c1
        rw [e3]
        refine Eq.mp (congrArg (fun r => outX z b c H encV r _ _) ?_) (fin true e2 e3)
        symm
        simp (contextual := true) (dsimp := false) (disch := omega) only [↓goDown, goUp, List.length_cons, List.length_nil, List.map_cons, List.map_nil, List.take_succ_cons, List.take_zero, List.drop_succ_cons, List.drop_zero, List.drop_nil, List.take_nil, List.cons_append, List.nil_append, List.append_nil, List.set_cons_zero, List.set_cons_succ, List.all_cons, List.all_nil, ↓reduceIte, reduceCtorEq, ge_iff_le, gt_iff_lt, eq_self_iff_true, beq_self_eq_true, beq_iff_eq, bne_iff_ne, ne_eq, ite_not, Int.reduceEq, Option.getD_some, Option.getD_none, ite_self, Nat.reduceAdd, Nat.reduceSub, Nat.reduceMul, Nat.reduceLeDiff, Nat.reduceEqDiff, Nat.reduceBEq, Nat.reduceBNe, Int.reduceLT, Int.reduceLE, Int.reduceAdd, Int.reduceSub, Int.reduceMul, Int.reduceNeg, Int.reduceNe, Int.reduceBEq, Int.reduceBNe, Int.reduceToNat, hl, e1, e2, hH', hst]
      · have e1 : ((x : Int) = 99) = False := eq_false (by omega)
        have e2 : ((x : Int) == 99) = false := by simpa using e1
        have e3 : (x == 99) = false := by simpa using c1
        have e4 : ((x : Int) = 100) = True := eq_true (by omega)
        rw [e3]
        refine Eq.mp (congrArg (fun r => outX z b c H encV r _ _) ?_) (fin false e2 e3)
        symm
        simp (contextual := true) (dsimp := false) (disch := omega) only [↓goDown, goUp, List.length_cons, List.length_nil, List.map_cons, List.map_nil, List.take_succ_cons, List.take_zero, List.drop_succ_cons, List.drop_zero, List.drop_nil, List.take_nil, List.cons_append, List.nil_append, List.append_nil, List.set_cons_zero, List.set_cons_succ, List.all_cons, List.all_nil, ↓reduceIte, reduceCtorEq, ge_iff_le, gt_iff_lt, eq_self_iff_true, beq_self_eq_true, beq_iff_eq, bne_iff_ne, ne_eq, ite_not, Int.reduceEq, Option.getD_some, Option.getD_none, ite_self, Nat.reduceAdd, Nat.reduceSub, Nat.reduceMul, Nat.reduceLeDiff, Nat.reduceEqDiff, Nat.reduceBEq, Nat.reduceBNe, Int.reduceLT, Int.reduceLE, Int.reduceAdd, Int.reduceSub, Int.reduceMul, Int.reduceNeg, Int.reduceNe, Int.reduceBEq, Int.reduceBNe, Int.reduceToNat, hl, e1, e2, e4, hH', hst]
    · rw [if_neg h99, if_neg h99]
      have e1 : ((x : Int) = 99) = False := eq_false (by omega)
      have e2 : ((x : Int) = 100) = False := eq_false (by omega)
      by_cases h2 : 105 ≤ x ∧ x ≤ 116
      · rw [if_pos h2]
        have hz : (hname x = 0) = False := eq_false (hname_in h2)
        show _ = some _
        simp (contextual := true) (dsimp := false) (disch := omega) only [↓goDown, goUp, List.length_cons, List.length_nil, List.map_cons, List.map_nil, List.take_succ_cons, List.take_zero, List.drop_succ_cons, List.drop_zero, List.drop_nil, List.take_nil, List.cons_append, List.nil_append, List.append_nil, List.set_cons_zero, List.set_cons_succ, List.all_cons, List.all_nil, ↓reduceIte, reduceCtorEq, ge_iff_le, gt_iff_lt, eq_self_iff_true, beq_self_eq_true, beq_iff_eq, bne_iff_ne, ne_eq, ite_not, Int.reduceEq, Option.getD_some, Option.getD_none, ite_self, Nat.reduceAdd, Nat.reduceSub, Nat.reduceMul, Nat.reduceLeDiff, Nat.reduceEqDiff, Nat.reduceBEq, Nat.reduceBNe, Int.reduceLT, Int.reduceLE, Int.reduceAdd, Int.reduceSub, Int.reduceMul, Int.reduceNeg, Int.reduceNe, Int.reduceBEq, Int.reduceBNe, Int.reduceToNat, hl, e1, e2, rabs_is, hz, hH']
        rfl
      · rw [if_neg h2]
        have hz : (hname x = 0) = True := eq_true (hname_out (by omega))
        have g1 : ((x : Int) = 120) = (x = 120) := by rw [eq_iff_iff]; omega
        cases any with
        | true =>
          by_cases h3 : x = 123
          · have e3 : ((x : Int) = 123) = True := eq_true (by omega)
            rw [if_pos ⟨rfl, h3⟩, if_pos ⟨rfl, h3⟩]
            refine ⟨?_, by omega⟩
            simp (contextual := true) (dsimp := false) (disch := omega) only [↓goDown, goUp, List.length_cons, List.length_nil, List.map_cons, List.map_nil, List.take_succ_cons, List.take_zero, List.drop_succ_cons, List.drop_zero, List.drop_nil, List.take_nil, List.cons_append, List.nil_append, List.append_nil, List.set_cons_zero, List.set_cons_succ, List.all_cons, List.all_nil, ↓reduceIte, reduceCtorEq, ge_iff_le, gt_iff_lt, eq_self_iff_true, beq_self_eq_true, beq_iff_eq, bne_iff_ne, ne_eq, ite_not, Int.reduceEq, Option.getD_some, Option.getD_none, ite_self, Nat.reduceAdd, Nat.reduceSub, Nat.reduceMul, Nat.reduceLeDiff, Nat.reduceEqDiff, Nat.reduceBEq, Nat.reduceBNe, Int.reduceLT, Int.reduceLE, Int.reduceAdd, Int.reduceSub, Int.reduceMul, Int.reduceNeg, Int.reduceNe, Int.reduceBEq, Int.reduceBNe, Int.reduceToNat, hl, e1, e2, rabs_is, hz, hH', e3, hf8]
            rfl
          · have e3 : ((x : Int) = 123) = False := eq_false (by omega)
            rw [if_neg (fun h => h3 h.2), if_neg (fun h => h3 h.2)]
            by_cases h4 : 124 ≤ x ∧ x ≤ 127
            · have e4 : (124 : Int) ≤ x := by omega
              have e5 : (x : Int) ≤ 127 := by omega
              rw [if_pos ⟨rfl, h4⟩]
              show _ = some _
              simp (contextual := true) (dsimp := false) (disch := omega) only [↓goDown, goUp, List.length_cons, List.length_nil, List.map_cons, List.map_nil, List.take_succ_cons, List.take_zero, List.drop_succ_cons, List.drop_zero, List.drop_nil, List.take_nil, List.cons_append, List.nil_append, List.append_nil, List.set_cons_zero, List.set_cons_succ, List.all_cons, List.all_nil, ↓reduceIte, reduceCtorEq, ge_iff_le, gt_iff_lt, eq_self_iff_true, beq_self_eq_true, beq_iff_eq, bne_iff_ne, ne_eq, ite_not, Int.reduceEq, Option.getD_some, Option.getD_none, ite_self, Nat.reduceAdd, Nat.reduceSub, Nat.reduceMul, Nat.reduceLeDiff, Nat.reduceEqDiff, Nat.reduceBEq, Nat.reduceBNe, Int.reduceLT, Int.reduceLE, Int.reduceAdd, Int.reduceSub, Int.reduceMul, Int.reduceNeg, Int.reduceNe, Int.reduceBEq, Int.reduceBNe, Int.reduceToNat, hl, e1, e2, rabs_is, hz, hH', e3, e4, e5, p_ratchetref08_reading_val_11111111_eq]
              rfl
            · rw [if_neg (fun h => h4 h.2)]
              have e4 : (124 : Int) ≤ x → ¬ (x : Int) ≤ 127 := by omega
              refine ⟨?_, by omega⟩
              by_cases h5 : (124 : Int) ≤ x
              · have h6 := e4 h5
                simp (contextual := true) (dsimp := false) (disch := omega) only [↓goDown, goUp, List.length_cons, List.length_nil, List.map_cons, List.map_nil, List.take_succ_cons, List.take_zero, List.drop_succ_cons, List.drop_zero, List.drop_nil, List.take_nil, List.cons_append, List.nil_append, List.append_nil, List.set_cons_zero, List.set_cons_succ, List.all_cons, List.all_nil, ↓reduceIte, reduceCtorEq, ge_iff_le, gt_iff_lt, eq_self_iff_true, beq_self_eq_true, beq_iff_eq, bne_iff_ne, ne_eq, ite_not, Int.reduceEq, Option.getD_some, Option.getD_none, ite_self, Nat.reduceAdd, Nat.reduceSub, Nat.reduceMul, Nat.reduceLeDiff, Nat.reduceEqDiff, Nat.reduceBEq, Nat.reduceBNe, Int.reduceLT, Int.reduceLE, Int.reduceAdd, Int.reduceSub, Int.reduceMul, Int.reduceNeg, Int.reduceNe, Int.reduceBEq, Int.reduceBNe, Int.reduceToNat, hl, e1, e2, rabs_is, hz, hH', e3, h5, h6, hf4, p_ratchetref08_reading_val_11111111_eq, rst]
                rfl
              · simp (contextual := true) (dsimp := false) (disch := omega) only [↓goDown, goUp, List.length_cons, List.length_nil, List.map_cons, List.map_nil, List.take_succ_cons, List.take_zero, List.drop_succ_cons, List.drop_zero, List.drop_nil, List.take_nil, List.cons_append, List.nil_append, List.append_nil, List.set_cons_zero, List.set_cons_succ, List.all_cons, List.all_nil, ↓reduceIte, reduceCtorEq, ge_iff_le, gt_iff_lt, eq_self_iff_true, beq_self_eq_true, beq_iff_eq, bne_iff_ne, ne_eq, ite_not, Int.reduceEq, Option.getD_some, Option.getD_none, ite_self, Nat.reduceAdd, Nat.reduceSub, Nat.reduceMul, Nat.reduceLeDiff, Nat.reduceEqDiff, Nat.reduceBEq, Nat.reduceBNe, Int.reduceLT, Int.reduceLE, Int.reduceAdd, Int.reduceSub, Int.reduceMul, Int.reduceNeg, Int.reduceNe, Int.reduceBEq, Int.reduceBNe, Int.reduceToNat, hl, e1, e2, rabs_is, hz, hH', e3, h5, hf4, p_ratchetref08_reading_val_11111111_eq, rst]
                rfl
        | false =>
          rw [if_neg (by simp), if_neg (by simp), if_neg (by simp)]
          refine ⟨?_, by omega⟩
          simp (contextual := true) (dsimp := false) (disch := omega) only [↓goDown, goUp, List.length_cons, List.length_nil, List.map_cons, List.map_nil, List.take_succ_cons, List.take_zero, List.drop_succ_cons, List.drop_zero, List.drop_nil, List.take_nil, List.cons_append, List.nil_append, List.append_nil, List.set_cons_zero, List.set_cons_succ, List.all_cons, List.all_nil, ↓reduceIte, reduceCtorEq, ge_iff_le, gt_iff_lt, eq_self_iff_true, beq_self_eq_true, beq_iff_eq, bne_iff_ne, ne_eq, ite_not, Int.reduceEq, Option.getD_some, Option.getD_none, ite_self, Nat.reduceAdd, Nat.reduceSub, Nat.reduceMul, Nat.reduceLeDiff, Nat.reduceEqDiff, Nat.reduceBEq, Nat.reduceBNe, Int.reduceLT, Int.reduceLE, Int.reduceAdd, Int.reduceSub, Int.reduceMul, Int.reduceNeg, Int.reduceNe, Int.reduceBEq, Int.reduceBNe, Int.reduceToNat, hl, e1, e2, rabs_is, hz, hH', hf4, p_ratchetref08_reading_val_11111111_eq, rst]
          rfl
  · rw [if_neg h1, if_neg h1]
    have hl := fun L => peek_no (hH1 L) h1
    have hfail := fun L => rfail_is (a := b.length) (w := 3) (hH1 L)
    simp only [so] at hfail
    have hfail : ∀ L, run (C k_ratchetref08_reading_fail [.ptr c 0, .int .i64 b.length, .int .i64 3]) (hadd H L) = some (.ok (.tup []) (hadd (Pi.hset H c (rst z b p b.length 3)) L)) := hfail
    refine ⟨?_, by omega⟩
    simp (contextual := true) (dsimp := false) (disch := omega) only [↓goDown, goUp, List.length_cons, List.length_nil, List.map_cons, List.map_nil, List.take_succ_cons, List.take_zero, List.drop_succ_cons, List.drop_zero, List.drop_nil, List.take_nil, List.cons_append, List.nil_append, List.append_nil, List.set_cons_zero, List.set_cons_succ, List.all_cons, List.all_nil, ↓reduceIte, reduceCtorEq, ge_iff_le, gt_iff_lt, eq_self_iff_true, beq_self_eq_true, beq_iff_eq, bne_iff_ne, ne_eq, ite_not, Int.reduceEq, Option.getD_some, Option.getD_none, ite_self, Nat.reduceAdd, Nat.reduceSub, Nat.reduceMul, Nat.reduceLeDiff, Nat.reduceEqDiff, Nat.reduceBEq, Nat.reduceBNe, Int.reduceLT, Int.reduceLE, Int.reduceAdd, Int.reduceSub, Int.reduceMul, Int.reduceNeg, Int.reduceNe, Int.reduceBEq, Int.reduceBNe, Int.reduceToNat, hl, hH', hfail, List.length_map, un_not]
    rfl
theorem rvalFX {H : Heap} {b : List UInt8} {z : Bool} {c p : Nat} {any : Bool} (hx : p < b.length → (b.getD p 0).toNat ≠ 120 ∧ (b.getD p 0).toNat ≠ 119) (hH : hget H c = some (rst z b p 0 0)) (hb : b.length < 2 ^ 61) (hp : p ≤ b.length) :
    outX z b c H encV (run (C k_ratchetref08_reading_val [.ptr c 0, .bool any, .bool true]) H) (eVal any b p) (if p < b.length then rOf any b p (b.getD p 0).toNat else .err b.length 3) := by
  have hid := get_lt hH
  have hset := set_self hH
  have hH1 : ∀ L, hget (hadd H L) c = some (rst z b p 0 0) := fun L => by rw [get_old hid]; exact hH
  have hH' : hget H c = some (.cells [BS z b, .int .i64 p, .int .i64 0, .int .i64 0]) := hH
  have hs' : Pi.hset H c (.cells [BS z b, .int .i64 p, .int .i64 0, .int .i64 0]) = H := hset
  have so : ∀ u a w L, Pi.hset (hadd H L) c (rst z b u a w) = hadd (Pi.hset H c (rst z b u a w)) L := fun u a w L => by rw [set_old hid]
  have so1 : ∀ u a w u' a' w' L, Pi.hset (hadd (Pi.hset H c (rst z b u' a' w')) L) c (rst z b u a w) = hadd (Pi.hset H c (rst z b u a w)) L := fun u a w u' a' w' L => by rw [set_old1 hid, set_set]
  rw [ratchetref08_reading_val_eq]
  unfold eVal
  by_cases h1 : p < b.length
  · have hl := fun L => peek_ok (hH1 L) hb h1
    have hc := byt_lt (b.getD p 0)
    rw [if_pos h1, if_pos h1]
    have hx := hx h1
    generalize (b.getD p 0).toNat = x at hl hc hx ⊢
    have n1 : ((x : Int) = 120) = False := eq_false (by omega)
    have n2 : ((x : Int) = 119) = False := eq_false (by omega)
    have hfail := fun L (w : Nat) => rfail_is (a := p) (w := w) (hH1 L)
    simp only [so] at hfail
    have hf4 : ∀ L, run (C k_ratchetref08_reading_fail [.ptr c 0, .int .i64 p, .int .i64 4]) (hadd H L) = some (.ok (.tup []) (hadd (Pi.hset H c (rst z b p p 4)) L)) := fun L => hfail L 4
    have hf8 : ∀ L, run (C k_ratchetref08_reading_fail [.ptr c 0, .int .i64 p, .int .i64 8]) (hadd H L) = some (.ok (.tup []) (hadd (Pi.hset H c (rst z b p p 8)) L)) := fun L => hfail L 8
    unfold rOf eOf
    by_cases h99 : x = 99 ∨ x = 100
    · rw [if_pos h99, if_pos h99]
      have hH2 : ∀ L, hget (hadd (Pi.hset H c (rst z b (p + 1) 0 0)) L) c = some (rst z b (p + 1) 0 0) := fun L => by
        rw [get_old1 hid, get_set hid]
      have hk := rheapX (hH2 [.cells [.int .i64 0, .bool false, .int .i64 0]]) hb (show p + 1 ≤ b.length by omega)
      have fin : ∀ (t : Bool), ((x : Int) == 99) = t → (x == 99) = t → outX z b c H encV (truncR H (run (M.bind (C k_ratchetref08_reading_heap [.ptr c 0]) fun t41_25 =>
          M.bind (bd [(.int .i64 0), (.bool false), (.int .i64 0)] [(0, 1, (.int .i64 5)), (1, 1, (.bool t)), (2, 1, t41_25)]) fun t42_26 =>
          M.bind (st 3 true (.ptr H.length 0) t42_26) fun _ =>
          M.bind (ld (some 3) true (.ptr H.length 0)) fun t0_28 => guardM (!isTup t0_28) (M.pure t0_28)) (hadd (Pi.hset H c (rst z b (p + 1) 0 0)) [.cells [.int .i64 0, .bool false, .int .i64 0]]))) (⟨5, t, (eHeap b (p + 1)).1⟩, (eHeap b (p + 1)).2) (rsRef t (rHeap b (p + 1))) := by
        intro t ht ht'
        cases hr : rHeap b (p + 1) with
        | ok v q =>
          rw [hr] at hk
          simp only [outX, so1] at hk
          simp only [rsRef]
          show _ = some _
          simp (contextual := true) (dsimp := false) (disch := omega) only [↓goDown, goUp, List.length_cons, List.length_nil, List.map_cons, List.map_nil, List.take_succ_cons, List.take_zero, List.drop_succ_cons, List.drop_zero, List.drop_nil, List.take_nil, List.cons_append, List.nil_append, List.append_nil, List.set_cons_zero, List.set_cons_succ, List.all_cons, List.all_nil, ↓reduceIte, reduceCtorEq, ge_iff_le, gt_iff_lt, eq_self_iff_true, beq_self_eq_true, beq_iff_eq, bne_iff_ne, ne_eq, ite_not, Int.reduceEq, Option.getD_some, Option.getD_none, ite_self, Nat.reduceAdd, Nat.reduceSub, Nat.reduceMul, Nat.reduceLeDiff, Nat.reduceEqDiff, Nat.reduceBEq, Nat.reduceBNe, Int.reduceLT, Int.reduceLE, Int.reduceAdd, Int.reduceSub, Int.reduceMul, Int.reduceNeg, Int.reduceNe, Int.reduceBEq, Int.reduceBNe, Int.reduceToNat, hk]
          rfl
        | err a w =>
          rw [hr] at hk
          obtain ⟨hk, hw⟩ := hk
          simp only [so1] at hk
          simp only [rsRef]
          refine ⟨?_, hw⟩
          simp (contextual := true) (dsimp := false) (disch := omega) only [↓goDown, goUp, List.length_cons, List.length_nil, List.map_cons, List.map_nil, List.take_succ_cons, List.take_zero, List.drop_succ_cons, List.drop_zero, List.drop_nil, List.take_nil, List.cons_append, List.nil_append, List.append_nil, List.set_cons_zero, List.set_cons_succ, List.all_cons, List.all_nil, ↓reduceIte, reduceCtorEq, ge_iff_le, gt_iff_lt, eq_self_iff_true, beq_self_eq_true, beq_iff_eq, bne_iff_ne, ne_eq, ite_not, Int.reduceEq, Option.getD_some, Option.getD_none, ite_self, Nat.reduceAdd, Nat.reduceSub, Nat.reduceMul, Nat.reduceLeDiff, Nat.reduceEqDiff, Nat.reduceBEq, Nat.reduceBNe, Int.reduceLT, Int.reduceLE, Int.reduceAdd, Int.reduceSub, Int.reduceMul, Int.reduceNeg, Int.reduceNe, Int.reduceBEq, Int.reduceBNe, Int.reduceToNat, hk]
          rfl
      have hst : Pi.hset H c (.cells [BS z b, .int .i64 ((p : Int) + 1), .int .i64 0, .int .i64 0]) = Pi.hset H c (rst z b (p + 1) 0 0) := rfl
      by_cases c1 : x = 99
      · have e1 : ((x : Int) = 99) = True := eq_true (by omega)
        have e2 : ((x : Int) == 99) = true := by simpa using e1
        have e3 : (x == 99) = true := by simpa using c1
        rw [e3]
        refine Eq.mp (congrArg (fun r => outX z b c H encV r _ _) ?_) (fin true e2 e3)
        symm
        simp (contextual := true) (dsimp := false) (disch := omega) only [↓goDown, goUp, List.length_cons, List.length_nil, List.map_cons, List.map_nil, List.take_succ_cons, List.take_zero, List.drop_succ_cons, List.drop_zero, List.drop_nil, List.take_nil, List.cons_append, List.nil_append, List.append_nil, List.set_cons_zero, List.set_cons_succ, List.all_cons, List.all_nil, ↓reduceIte, reduceCtorEq, ge_iff_le, gt_iff_lt, eq_self_iff_true, beq_self_eq_true, beq_iff_eq, bne_iff_ne, ne_eq, ite_not, Int.reduceEq, Option.getD_some, Option.getD_none, ite_self, Nat.reduceAdd, Nat.reduceSub, Nat.reduceMul, Nat.reduceLeDiff, Nat.reduceEqDiff, Nat.reduceBEq, Nat.reduceBNe, Int.reduceLT, Int.reduceLE, Int.reduceAdd, Int.reduceSub, Int.reduceMul, Int.reduceNeg, Int.reduceNe, Int.reduceBEq, Int.reduceBNe, Int.reduceToNat, hl, e1, e2, hH', hst]
      · have e1 : ((x : Int) = 99) = False := eq_false (by omega)
        have e2 : ((x : Int) == 99) = false := by simpa using e1
        have e3 : (x == 99) = false := by simpa using c1
        have e4 : ((x : Int) = 100) = True := eq_true (by omega)
        rw [e3]
        refine Eq.mp (congrArg (fun r => outX z b c H encV r _ _) ?_) (fin false e2 e3)
        symm
        simp (contextual := true) (dsimp := false) (disch := omega) only [↓goDown, goUp, List.length_cons, List.length_nil, List.map_cons, List.map_nil, List.take_succ_cons, List.take_zero, List.drop_succ_cons, List.drop_zero, List.drop_nil, List.take_nil, List.cons_append, List.nil_append, List.append_nil, List.set_cons_zero, List.set_cons_succ, List.all_cons, List.all_nil, ↓reduceIte, reduceCtorEq, ge_iff_le, gt_iff_lt, eq_self_iff_true, beq_self_eq_true, beq_iff_eq, bne_iff_ne, ne_eq, ite_not, Int.reduceEq, Option.getD_some, Option.getD_none, ite_self, Nat.reduceAdd, Nat.reduceSub, Nat.reduceMul, Nat.reduceLeDiff, Nat.reduceEqDiff, Nat.reduceBEq, Nat.reduceBNe, Int.reduceLT, Int.reduceLE, Int.reduceAdd, Int.reduceSub, Int.reduceMul, Int.reduceNeg, Int.reduceNe, Int.reduceBEq, Int.reduceBNe, Int.reduceToNat, hl, e1, e2, e4, hH', hst]
    · rw [if_neg h99, if_neg h99]
      have e1 : ((x : Int) = 99) = False := eq_false (by omega)
      have e2 : ((x : Int) = 100) = False := eq_false (by omega)
      by_cases h2 : 105 ≤ x ∧ x ≤ 116
      · rw [if_pos h2]
        have hz : (hname x = 0) = False := eq_false (hname_in h2)
        show _ = some _
        simp (contextual := true) (dsimp := false) (disch := omega) only [↓goDown, goUp, List.length_cons, List.length_nil, List.map_cons, List.map_nil, List.take_succ_cons, List.take_zero, List.drop_succ_cons, List.drop_zero, List.drop_nil, List.take_nil, List.cons_append, List.nil_append, List.append_nil, List.set_cons_zero, List.set_cons_succ, List.all_cons, List.all_nil, ↓reduceIte, reduceCtorEq, ge_iff_le, gt_iff_lt, eq_self_iff_true, beq_self_eq_true, beq_iff_eq, bne_iff_ne, ne_eq, ite_not, Int.reduceEq, Option.getD_some, Option.getD_none, ite_self, Nat.reduceAdd, Nat.reduceSub, Nat.reduceMul, Nat.reduceLeDiff, Nat.reduceEqDiff, Nat.reduceBEq, Nat.reduceBNe, Int.reduceLT, Int.reduceLE, Int.reduceAdd, Int.reduceSub, Int.reduceMul, Int.reduceNeg, Int.reduceNe, Int.reduceBEq, Int.reduceBNe, Int.reduceToNat, hl, e1, e2, rabs_is, hz, hH']
        rfl
      · rw [if_neg h2]
        have hz : (hname x = 0) = True := eq_true (hname_out (by omega))
        cases any with
        | true =>
          by_cases h3 : x = 123
          · have e3 : ((x : Int) = 123) = True := eq_true (by omega)
            rw [if_pos ⟨rfl, h3⟩, if_pos ⟨rfl, h3⟩]
            refine ⟨?_, by omega⟩
            simp (contextual := true) (dsimp := false) (disch := omega) only [↓goDown, goUp, List.length_cons, List.length_nil, List.map_cons, List.map_nil, List.take_succ_cons, List.take_zero, List.drop_succ_cons, List.drop_zero, List.drop_nil, List.take_nil, List.cons_append, List.nil_append, List.append_nil, List.set_cons_zero, List.set_cons_succ, List.all_cons, List.all_nil, ↓reduceIte, reduceCtorEq, ge_iff_le, gt_iff_lt, eq_self_iff_true, beq_self_eq_true, beq_iff_eq, bne_iff_ne, ne_eq, ite_not, Int.reduceEq, Option.getD_some, Option.getD_none, ite_self, Nat.reduceAdd, Nat.reduceSub, Nat.reduceMul, Nat.reduceLeDiff, Nat.reduceEqDiff, Nat.reduceBEq, Nat.reduceBNe, Int.reduceLT, Int.reduceLE, Int.reduceAdd, Int.reduceSub, Int.reduceMul, Int.reduceNeg, Int.reduceNe, Int.reduceBEq, Int.reduceBNe, Int.reduceToNat, hl, e1, e2, rabs_is, hz, hH', e3, hf8]
            rfl
          · have e3 : ((x : Int) = 123) = False := eq_false (by omega)
            rw [if_neg (fun h => h3 h.2), if_neg (fun h => h3 h.2)]
            by_cases h4 : 124 ≤ x ∧ x ≤ 127
            · have e4 : (124 : Int) ≤ x := by omega
              have e5 : (x : Int) ≤ 127 := by omega
              rw [if_pos ⟨rfl, h4⟩]
              show _ = some _
              simp (contextual := true) (dsimp := false) (disch := omega) only [↓goDown, goUp, List.length_cons, List.length_nil, List.map_cons, List.map_nil, List.take_succ_cons, List.take_zero, List.drop_succ_cons, List.drop_zero, List.drop_nil, List.take_nil, List.cons_append, List.nil_append, List.append_nil, List.set_cons_zero, List.set_cons_succ, List.all_cons, List.all_nil, ↓reduceIte, reduceCtorEq, ge_iff_le, gt_iff_lt, eq_self_iff_true, beq_self_eq_true, beq_iff_eq, bne_iff_ne, ne_eq, ite_not, Int.reduceEq, Option.getD_some, Option.getD_none, ite_self, Nat.reduceAdd, Nat.reduceSub, Nat.reduceMul, Nat.reduceLeDiff, Nat.reduceEqDiff, Nat.reduceBEq, Nat.reduceBNe, Int.reduceLT, Int.reduceLE, Int.reduceAdd, Int.reduceSub, Int.reduceMul, Int.reduceNeg, Int.reduceNe, Int.reduceBEq, Int.reduceBNe, Int.reduceToNat, hl, e1, e2, rabs_is, hz, hH', e3, e4, e5, p_ratchetref08_reading_val_11111111_eq]
              rfl
            · rw [if_neg (fun h => h4 h.2)]
              have e4 : (124 : Int) ≤ x → ¬ (x : Int) ≤ 127 := by omega
              refine ⟨?_, by omega⟩
              by_cases h5 : (124 : Int) ≤ x
              · have h6 := e4 h5
                simp (contextual := true) (dsimp := false) (disch := omega) only [↓goDown, goUp, List.length_cons, List.length_nil, List.map_cons, List.map_nil, List.take_succ_cons, List.take_zero, List.drop_succ_cons, List.drop_zero, List.drop_nil, List.take_nil, List.cons_append, List.nil_append, List.append_nil, List.set_cons_zero, List.set_cons_succ, List.all_cons, List.all_nil, ↓reduceIte, reduceCtorEq, ge_iff_le, gt_iff_lt, eq_self_iff_true, beq_self_eq_true, beq_iff_eq, bne_iff_ne, ne_eq, ite_not, Int.reduceEq, Option.getD_some, Option.getD_none, ite_self, Nat.reduceAdd, Nat.reduceSub, Nat.reduceMul, Nat.reduceLeDiff, Nat.reduceEqDiff, Nat.reduceBEq, Nat.reduceBNe, Int.reduceLT, Int.reduceLE, Int.reduceAdd, Int.reduceSub, Int.reduceMul, Int.reduceNeg, Int.reduceNe, Int.reduceBEq, Int.reduceBNe, Int.reduceToNat, hl, e1, e2, rabs_is, hz, hH', e3, h5, h6, hf4, n1, n2, p_ratchetref08_reading_val_11111111_eq, rst]
                rfl
              · simp (contextual := true) (dsimp := false) (disch := omega) only [↓goDown, goUp, List.length_cons, List.length_nil, List.map_cons, List.map_nil, List.take_succ_cons, List.take_zero, List.drop_succ_cons, List.drop_zero, List.drop_nil, List.take_nil, List.cons_append, List.nil_append, List.append_nil, List.set_cons_zero, List.set_cons_succ, List.all_cons, List.all_nil, ↓reduceIte, reduceCtorEq, ge_iff_le, gt_iff_lt, eq_self_iff_true, beq_self_eq_true, beq_iff_eq, bne_iff_ne, ne_eq, ite_not, Int.reduceEq, Option.getD_some, Option.getD_none, ite_self, Nat.reduceAdd, Nat.reduceSub, Nat.reduceMul, Nat.reduceLeDiff, Nat.reduceEqDiff, Nat.reduceBEq, Nat.reduceBNe, Int.reduceLT, Int.reduceLE, Int.reduceAdd, Int.reduceSub, Int.reduceMul, Int.reduceNeg, Int.reduceNe, Int.reduceBEq, Int.reduceBNe, Int.reduceToNat, hl, e1, e2, rabs_is, hz, hH', e3, h5, hf4, n1, n2, p_ratchetref08_reading_val_11111111_eq, rst]
                rfl
        | false =>
          rw [if_neg (by simp), if_neg (by simp), if_neg (by simp)]
          refine ⟨?_, by omega⟩
          simp (contextual := true) (dsimp := false) (disch := omega) only [↓goDown, goUp, List.length_cons, List.length_nil, List.map_cons, List.map_nil, List.take_succ_cons, List.take_zero, List.drop_succ_cons, List.drop_zero, List.drop_nil, List.take_nil, List.cons_append, List.nil_append, List.append_nil, List.set_cons_zero, List.set_cons_succ, List.all_cons, List.all_nil, ↓reduceIte, reduceCtorEq, ge_iff_le, gt_iff_lt, eq_self_iff_true, beq_self_eq_true, beq_iff_eq, bne_iff_ne, ne_eq, ite_not, Int.reduceEq, Option.getD_some, Option.getD_none, ite_self, Nat.reduceAdd, Nat.reduceSub, Nat.reduceMul, Nat.reduceLeDiff, Nat.reduceEqDiff, Nat.reduceBEq, Nat.reduceBNe, Int.reduceLT, Int.reduceLE, Int.reduceAdd, Int.reduceSub, Int.reduceMul, Int.reduceNeg, Int.reduceNe, Int.reduceBEq, Int.reduceBNe, Int.reduceToNat, hl, e1, e2, rabs_is, hz, hH', hf4, n1, n2, p_ratchetref08_reading_val_11111111_eq, rst]
          rfl
  · rw [if_neg h1, if_neg h1]
    have hl := fun L => peek_no (hH1 L) h1
    have hfail := fun L => rfail_is (a := b.length) (w := 3) (hH1 L)
    simp only [so] at hfail
    have hfail : ∀ L, run (C k_ratchetref08_reading_fail [.ptr c 0, .int .i64 b.length, .int .i64 3]) (hadd H L) = some (.ok (.tup []) (hadd (Pi.hset H c (rst z b p b.length 3)) L)) := hfail
    refine ⟨?_, by omega⟩
    simp (contextual := true) (dsimp := false) (disch := omega) only [↓goDown, goUp, List.length_cons, List.length_nil, List.map_cons, List.map_nil, List.take_succ_cons, List.take_zero, List.drop_succ_cons, List.drop_zero, List.drop_nil, List.take_nil, List.cons_append, List.nil_append, List.append_nil, List.set_cons_zero, List.set_cons_succ, List.all_cons, List.all_nil, ↓reduceIte, reduceCtorEq, ge_iff_le, gt_iff_lt, eq_self_iff_true, beq_self_eq_true, beq_iff_eq, bne_iff_ne, ne_eq, ite_not, Int.reduceEq, Option.getD_some, Option.getD_none, ite_self, Nat.reduceAdd, Nat.reduceSub, Nat.reduceMul, Nat.reduceLeDiff, Nat.reduceEqDiff, Nat.reduceBEq, Nat.reduceBNe, Int.reduceLT, Int.reduceLE, Int.reduceAdd, Int.reduceSub, Int.reduceMul, Int.reduceNeg, Int.reduceNe, Int.reduceBEq, Int.reduceBNe, Int.reduceToNat, hl, hH', hfail, List.length_map, un_not]
    rfl
end Go.Proofs.Ytofbbijagbpicaa.Pi.Q
/- The reference's readers, faults told outright: small bytes, fields, lists of values. (Begun by tool/genx2.py.) -/
namespace Go.Proofs.Ytofbbijagbpicaa.Pi.Q
open Go Go.Proofs.Ytofbbijagbpicaa.Pi
set_option linter.unusedVariables false
set_option linter.unusedSimpArgs false
set_option maxRecDepth 100000
attribute [local congr] ite_congr
def eSmall (b : List UInt8) (p : Nat) : Nat × Nat := if p < b.length then ((b.getD p 0).toNat, p + 1) else (0, p)
theorem rsmallX {H : Heap} {b : List UInt8} {z : Bool} {c p most : Nat} (hH : hget H c = some (rst z b p 0 0)) (hb : b.length < 2 ^ 61) (hp : p ≤ b.length) :
    outX z b c H (fun n : Nat => .int .u8 n) (run (C k_ratchetref08_reading_small [.ptr c 0, .int .u8 most]) H) (eSmall b p) (rSmall b most p) := by
  have hid := get_lt hH
  have hset := set_self hH
  have hH' : hget H c = some (.cells [BS z b, .int .i64 p, .int .i64 0, .int .i64 0]) := hH
  have hs' : Pi.hset H c (.cells [BS z b, .int .i64 p, .int .i64 0, .int .i64 0]) = H := hset
  rw [ratchetref08_reading_small_eq]
  unfold rSmall eSmall
  by_cases h1 : p < b.length
  · have hl := peek_ok hH hb h1
    have hc := byt_lt (b.getD p 0)
    have f4 : run (C k_ratchetref08_reading_fail [.ptr c 0, .int .i64 p, .int .i64 4]) H = some (.ok (.tup []) (Pi.hset H c (rst z b p p 4))) := rfail_is (a := p) (w := 4) hH
    have g4 : hget (Pi.hset H c (rst z b p p 4)) c = some (.cells [BS z b, .int .i64 p, .int .i64 p, .int .i64 4]) := get_set hid
    rw [if_pos h1, if_pos h1]
    generalize (b.getD p 0).toNat = x at hl hc ⊢
    by_cases h2 : most < x
    · have c1 : (most : Int) < x := by omega
      rw [if_pos h2]
      refine ⟨?_, by omega⟩
      simp (contextual := true) (dsimp := false) (disch := omega) only [↓goDown, goUp, List.length_cons, List.length_nil, List.map_cons, List.map_nil, List.take_succ_cons, List.take_zero, List.drop_succ_cons, List.drop_zero, List.drop_nil, List.take_nil, List.cons_append, List.nil_append, List.append_nil, List.set_cons_zero, List.set_cons_succ, List.all_cons, List.all_nil, ↓reduceIte, reduceCtorEq, ge_iff_le, gt_iff_lt, eq_self_iff_true, beq_self_eq_true, beq_iff_eq, bne_iff_ne, ne_eq, ite_not, Int.reduceEq, Option.getD_some, Option.getD_none, ite_self, Nat.reduceAdd, Nat.reduceSub, Nat.reduceMul, Nat.reduceLeDiff, Nat.reduceEqDiff, Nat.reduceBEq, Nat.reduceBNe, Int.reduceLT, Int.reduceLE, Int.reduceAdd, Int.reduceSub, Int.reduceMul, Int.reduceNeg, Int.reduceNe, Int.reduceBEq, Int.reduceBNe, Int.reduceToNat, hl, eq_true c1, hH', f4, g4, p_ratchetref08_reading_small_1111_eq]
      rfl
    · have c1 : ¬ (most : Int) < x := by omega
      rw [if_neg h2]
      show _ = some _
      simp (contextual := true) (dsimp := false) (disch := omega) only [↓goDown, goUp, List.length_cons, List.length_nil, List.map_cons, List.map_nil, List.take_succ_cons, List.take_zero, List.drop_succ_cons, List.drop_zero, List.drop_nil, List.take_nil, List.cons_append, List.nil_append, List.append_nil, List.set_cons_zero, List.set_cons_succ, List.all_cons, List.all_nil, ↓reduceIte, reduceCtorEq, ge_iff_le, gt_iff_lt, eq_self_iff_true, beq_self_eq_true, beq_iff_eq, bne_iff_ne, ne_eq, ite_not, Int.reduceEq, Option.getD_some, Option.getD_none, ite_self, Nat.reduceAdd, Nat.reduceSub, Nat.reduceMul, Nat.reduceLeDiff, Nat.reduceEqDiff, Nat.reduceBEq, Nat.reduceBNe, Int.reduceLT, Int.reduceLE, Int.reduceAdd, Int.reduceSub, Int.reduceMul, Int.reduceNeg, Int.reduceNe, Int.reduceBEq, Int.reduceBNe, Int.reduceToNat, hl, c1, hH', p_ratchetref08_reading_small_1111_eq]
      rfl
  · have hl := peek_no hH h1
    have f3 : run (C k_ratchetref08_reading_fail [.ptr c 0, .int .i64 b.length, .int .i64 3]) H = some (.ok (.tup []) (Pi.hset H c (rst z b p b.length 3))) := rfail_is (a := b.length) (w := 3) hH
    rw [if_neg h1, if_neg h1]
    refine ⟨?_, by omega⟩
    simp (contextual := true) (dsimp := false) (disch := omega) only [↓goDown, goUp, List.length_cons, List.length_nil, List.map_cons, List.map_nil, List.take_succ_cons, List.take_zero, List.drop_succ_cons, List.drop_zero, List.drop_nil, List.take_nil, List.cons_append, List.nil_append, List.append_nil, List.set_cons_zero, List.set_cons_succ, List.all_cons, List.all_nil, ↓reduceIte, reduceCtorEq, ge_iff_le, gt_iff_lt, eq_self_iff_true, beq_self_eq_true, beq_iff_eq, bne_iff_ne, ne_eq, ite_not, Int.reduceEq, Option.getD_some, Option.getD_none, ite_self, Nat.reduceAdd, Nat.reduceSub, Nat.reduceMul, Nat.reduceLeDiff, Nat.reduceEqDiff, Nat.reduceBEq, Nat.reduceBNe, Int.reduceLT, Int.reduceLE, Int.reduceAdd, Int.reduceSub, Int.reduceMul, Int.reduceNeg, Int.reduceNe, Int.reduceBEq, Int.reduceBNe, Int.reduceToNat, hl, hH', f3, List.length_map, un_not]
    rfl
theorem rfieldVX {H : Heap} {b : List UInt8} {z : Bool} {c p : Nat} (hH : hget H c = some (rst z b p 0 0)) (hb : b.length < 2 ^ 61) (hp : p ≤ b.length) :
    outX z b c H encV (run (C k_ratchetref08_reading_val [.ptr c 0, .bool true, .bool true]) H) (eVal true b p) (rFieldV b p) := by
  unfold rFieldV
  by_cases h1 : p < b.length
  · rw [if_pos h1]
    by_cases h2 : (b.getD p 0).toNat = 120
    · rw [if_pos h2]
      exact rval_pack hH hb h1 (.inl ⟨h2, rfl⟩)
    · rw [if_neg h2]
      by_cases h3 : (b.getD p 0).toNat = 119
      · rw [if_pos h3]
        exact rval_pack hH hb h1 (.inr ⟨h3, rfl⟩)
      · rw [if_neg h3, rVal_of h1]
        have h := rvalFX (any := true) (fun _ => ⟨h2, h3⟩) hH hb hp
        rw [if_pos h1] at h
        exact h
  · have h := rvalFX (any := true) (fun h => absurd h h1) hH hb hp
    rw [if_neg h1] at h ⊢
    exact h
def eField (b : List UInt8) (p : Nat) : FT × Nat :=
  match rFieldV b p with
  | .ok v q => (⟨v, (eSmall b q).1 == 1⟩, (eSmall b q).2)
  | .err a w => (⟨⟨0, false, 0⟩, false⟩, (eVal true b p).2)
theorem rfieldX {H : Heap} {b : List UInt8} {z : Bool} {c p : Nat} (hH : hget H c = some (rst z b p 0 0)) (hb : b.length < 2 ^ 61) (hp : p ≤ b.length) :
    outX z b c H encF (run (C k_ratchetref08_reading_field [.ptr c 0]) H) (eField b p) (rField b p) := by
  have hid := get_lt hH
  have hH1 : ∀ L, hget (hadd H L) c = some (rst z b p 0 0) := fun L => by rw [get_old hid]; exact hH
  have so : ∀ u a w L, Pi.hset (hadd H L) c (rst z b u a w) = hadd (Pi.hset H c (rst z b u a w)) L := fun u a w L => by rw [set_old hid]
  have so1 : ∀ u a w u' a' w' L, Pi.hset (hadd (Pi.hset H c (rst z b u' a' w')) L) c (rst z b u a w) = hadd (Pi.hset H c (rst z b u a w)) L := fun u a w u' a' w' L => by rw [set_old1 hid, set_set]
  have hH2 : ∀ u a w L, hget (hadd (Pi.hset H c (rst z b u a w)) L) c = some (rst z b u a w) := fun u a w L => by rw [get_old1 hid, get_set hid]
  have hH3 : ∀ u a w, hget (Pi.hset H c (rst z b u a w)) c = some (.cells [BS z b, .int .i64 u, .int .i64 a, .int .i64 w]) := fun u a w => get_set hid
  have h1 := rfieldVX (hH1 [.cells [.int .i64 0, .bool false, .int .i64 0, .bool false]]) hb hp
  rw [ratchetref08_reading_field_eq]
  unfold rField eField
  cases hr : rFieldV b p with
  | err a w =>
    rw [hr] at h1
    obtain ⟨h1, hw⟩ := h1
    generalize eVal true b p = ev at h1 ⊢
    obtain ⟨v, q⟩ := ev
    dsimp only at h1 ⊢
    simp only [so] at h1
    have c1 : ((w : Int) = 0) = False := eq_false (by omega)
    have h3 := hH3 q a w
    refine ⟨?_, hw⟩
    simp (contextual := true) (dsimp := false) (disch := omega) only [↓goDown, goUp, List.length_cons, List.length_nil, List.map_cons, List.map_nil, List.take_succ_cons, List.take_zero, List.drop_succ_cons, List.drop_zero, List.drop_nil, List.take_nil, List.cons_append, List.nil_append, List.append_nil, List.set_cons_zero, List.set_cons_succ, List.all_cons, List.all_nil, ↓reduceIte, reduceCtorEq, ge_iff_le, gt_iff_lt, eq_self_iff_true, beq_self_eq_true, beq_iff_eq, bne_iff_ne, ne_eq, ite_not, Int.reduceEq, Option.getD_some, Option.getD_none, ite_self, Nat.reduceAdd, Nat.reduceSub, Nat.reduceMul, Nat.reduceLeDiff, Nat.reduceEqDiff, Nat.reduceBEq, Nat.reduceBNe, Int.reduceLT, Int.reduceLE, Int.reduceAdd, Int.reduceSub, Int.reduceMul, Int.reduceNeg, Int.reduceNe, Int.reduceBEq, Int.reduceBNe, Int.reduceToNat, h1, cells_V, h3, c1]
    rfl
  | ok v q1 =>
    rw [hr] at h1
    simp only [outX, so] at h1
    have h3 : hget (Pi.hset H c (rst z b q1 0 0)) c = some (.cells [BS z b, .int .i64 q1, .int .i64 0, .int .i64 0]) := hH3 q1 0 0
    have hs := rsmallX (most := 1) (hH2 q1 0 0 [.cells [.int .i64 0, .bool false, .int .i64 0, .bool false], .cells [.int .i64 v.num, .bool v.nul, .int .i64 v.heap]]) hb (rFieldV_le hr)
    have hs : outX z b c (hadd (Pi.hset H c (rst z b q1 0 0)) [.cells [.int .i64 0, .bool false, .int .i64 0, .bool false], .cells [.int .i64 v.num, .bool v.nul, .int .i64 v.heap]]) (fun n : Nat => .int .u8 n) (run (C k_ratchetref08_reading_small [.ptr c 0, .int .u8 1]) (hadd (Pi.hset H c (rst z b q1 0 0)) [.cells [.int .i64 0, .bool false, .int .i64 0, .bool false], .cells [.int .i64 v.num, .bool v.nul, .int .i64 v.heap]])) (eSmall b q1) (rSmall b 1 q1) := hs
    have c2 : ∀ n : Nat, ((n : Int) == 1) = (n == 1) := fun n => by rw [Bool.eq_iff_iff]; simp; omega
    dsimp only
    cases hr2 : rSmall b 1 q1 with
    | ok n q2 =>
      rw [hr2] at hs
      simp only [outX, so1] at hs
      simp only [rsMut]
      show _ = some _
      simp (contextual := true) (dsimp := false) (disch := omega) only [↓goDown, goUp, List.length_cons, List.length_nil, List.map_cons, List.map_nil, List.take_succ_cons, List.take_zero, List.drop_succ_cons, List.drop_zero, List.drop_nil, List.take_nil, List.cons_append, List.nil_append, List.append_nil, List.set_cons_zero, List.set_cons_succ, List.all_cons, List.all_nil, ↓reduceIte, reduceCtorEq, ge_iff_le, gt_iff_lt, eq_self_iff_true, beq_self_eq_true, beq_iff_eq, bne_iff_ne, ne_eq, ite_not, Int.reduceEq, Option.getD_some, Option.getD_none, ite_self, Nat.reduceAdd, Nat.reduceSub, Nat.reduceMul, Nat.reduceLeDiff, Nat.reduceEqDiff, Nat.reduceBEq, Nat.reduceBNe, Int.reduceLT, Int.reduceLE, Int.reduceAdd, Int.reduceSub, Int.reduceMul, Int.reduceNeg, Int.reduceNe, Int.reduceBEq, Int.reduceBNe, Int.reduceToNat, h1, cells_V, h3, hs, c2]
      rfl
    | err a w =>
      rw [hr2] at hs
      obtain ⟨hs, hw⟩ := hs
      generalize eSmall b q1 = es at hs ⊢
      obtain ⟨n, q⟩ := es
      dsimp only at hs ⊢
      simp only [so1] at hs
      simp only [rsMut]
      refine ⟨?_, hw⟩
      simp (contextual := true) (dsimp := false) (disch := omega) only [↓goDown, goUp, List.length_cons, List.length_nil, List.map_cons, List.map_nil, List.take_succ_cons, List.take_zero, List.drop_succ_cons, List.drop_zero, List.drop_nil, List.take_nil, List.cons_append, List.nil_append, List.append_nil, List.set_cons_zero, List.set_cons_succ, List.all_cons, List.all_nil, ↓reduceIte, reduceCtorEq, ge_iff_le, gt_iff_lt, eq_self_iff_true, beq_self_eq_true, beq_iff_eq, bne_iff_ne, ne_eq, ite_not, Int.reduceEq, Option.getD_some, Option.getD_none, ite_self, Nat.reduceAdd, Nat.reduceSub, Nat.reduceMul, Nat.reduceLeDiff, Nat.reduceEqDiff, Nat.reduceBEq, Nat.reduceBNe, Int.reduceLT, Int.reduceLE, Int.reduceAdd, Int.reduceSub, Int.reduceMul, Int.reduceNeg, Int.reduceNe, Int.reduceBEq, Int.reduceBNe, Int.reduceToNat, h1, cells_V, h3, hs, c2]
      rfl
def eMany (b : List UInt8) (p : Nat) : Nat × Nat := match rU32 b p with | .ok n q => (0, q) | .err a w => (0, p)
theorem rmanyX {H : Heap} {b : List UInt8} {z : Bool} {c p most : Nat} (hm : most < 2 ^ 32) (hH : hget H c = some (rst z b p 0 0)) (hb : b.length < 2 ^ 61) (hp : p ≤ b.length) :
    outX z b c H (fun n : Nat => .int .i64 n) (run (C k_ratchetref08_reading_many [.ptr c 0, .int .i64 most]) H) (eMany b p) (rMany b most p) := by
  have hid := get_lt hH
  have hset := set_self hH
  have hH' : hget H c = some (.cells [BS z b, .int .i64 p, .int .i64 0, .int .i64 0]) := hH
  have hs' : Pi.hset H c (.cells [BS z b, .int .i64 p, .int .i64 0, .int .i64 0]) = H := hset
  rw [ratchetref08_reading_many_eq]
  unfold rMany eMany
  cases hr : rU32 b p with
  | ok n q =>
    have hn := rU32_le hr
    have h1 := numberU_ok hH hb hp hr
    have hH2 : hget (Pi.hset H c (rst z b q 0 0)) c = some (rst z b q 0 0) := get_set hid
    have hH3 : hget (Pi.hset H c (rst z b q 0 0)) c = some (.cells [BS z b, .int .i64 q, .int .i64 0, .int .i64 0]) := hH2
    have f2 : run (C k_ratchetref08_reading_fail [.ptr c 0, .int .i64 p, .int .i64 2]) (Pi.hset H c (rst z b q 0 0)) = some (.ok (.tup []) (Pi.hset H c (rst z b q p 2))) := by
      have := rfail_is (a := p) (w := 2) hH2
      rwa [set_set] at this
    dsimp only
    by_cases h2 : most < n
    · have c1 : (most : Int) < n := by omega
      rw [if_pos h2]
      refine ⟨?_, by omega⟩
      simp (contextual := true) (dsimp := false) (disch := omega) only [↓goDown, goUp, List.length_cons, List.length_nil, List.map_cons, List.map_nil, List.take_succ_cons, List.take_zero, List.drop_succ_cons, List.drop_zero, List.drop_nil, List.take_nil, List.cons_append, List.nil_append, List.append_nil, List.set_cons_zero, List.set_cons_succ, List.all_cons, List.all_nil, ↓reduceIte, reduceCtorEq, ge_iff_le, gt_iff_lt, eq_self_iff_true, beq_self_eq_true, beq_iff_eq, bne_iff_ne, ne_eq, ite_not, Int.reduceEq, Option.getD_some, Option.getD_none, ite_self, Nat.reduceAdd, Nat.reduceSub, Nat.reduceMul, Nat.reduceLeDiff, Nat.reduceEqDiff, Nat.reduceBEq, Nat.reduceBNe, Int.reduceLT, Int.reduceLE, Int.reduceAdd, Int.reduceSub, Int.reduceMul, Int.reduceNeg, Int.reduceNe, Int.reduceBEq, Int.reduceBNe, Int.reduceToNat, hH', hs', h1, hH3, c1, f2]
      rfl
    · have c1 : ¬ (most : Int) < n := by omega
      rw [if_neg h2]
      show _ = some _
      simp (contextual := true) (dsimp := false) (disch := omega) only [↓goDown, goUp, List.length_cons, List.length_nil, List.map_cons, List.map_nil, List.take_succ_cons, List.take_zero, List.drop_succ_cons, List.drop_zero, List.drop_nil, List.take_nil, List.cons_append, List.nil_append, List.append_nil, List.set_cons_zero, List.set_cons_succ, List.all_cons, List.all_nil, ↓reduceIte, reduceCtorEq, ge_iff_le, gt_iff_lt, eq_self_iff_true, beq_self_eq_true, beq_iff_eq, bne_iff_ne, ne_eq, ite_not, Int.reduceEq, Option.getD_some, Option.getD_none, ite_self, Nat.reduceAdd, Nat.reduceSub, Nat.reduceMul, Nat.reduceLeDiff, Nat.reduceEqDiff, Nat.reduceBEq, Nat.reduceBNe, Int.reduceLT, Int.reduceLE, Int.reduceAdd, Int.reduceSub, Int.reduceMul, Int.reduceNeg, Int.reduceNe, Int.reduceBEq, Int.reduceBNe, Int.reduceToNat, hH', hs', h1, hH3, c1]
  | err a w =>
    have h1 := numberU_err hH hb hp hr
    have hw : w ≠ 0 := rdU_err hr
    have c1 : ¬ (w : Int) = 0 := by omega
    have hH5 : hget (Pi.hset H c (rst z b p a w)) c = some (.cells [BS z b, .int .i64 p, .int .i64 a, .int .i64 w]) := get_set hid
    have e0 : IntKind.i64.wrap 0 = 0 := rfl
    refine ⟨?_, hw⟩
    simp (contextual := true) (dsimp := false) (disch := omega) only [↓goDown, goUp, List.length_cons, List.length_nil, List.map_cons, List.map_nil, List.take_succ_cons, List.take_zero, List.drop_succ_cons, List.drop_zero, List.drop_nil, List.take_nil, List.cons_append, List.nil_append, List.append_nil, List.set_cons_zero, List.set_cons_succ, List.all_cons, List.all_nil, ↓reduceIte, reduceCtorEq, ge_iff_le, gt_iff_lt, eq_self_iff_true, beq_self_eq_true, beq_iff_eq, bne_iff_ne, ne_eq, ite_not, Int.reduceEq, Option.getD_some, Option.getD_none, ite_self, Nat.reduceAdd, Nat.reduceSub, Nat.reduceMul, Nat.reduceLeDiff, Nat.reduceEqDiff, Nat.reduceBEq, Nat.reduceBNe, Int.reduceLT, Int.reduceLE, Int.reduceAdd, Int.reduceSub, Int.reduceMul, Int.reduceNeg, Int.reduceNe, Int.reduceBEq, Int.reduceBNe, Int.reduceToNat, hH', hs', h1, hH5, c1, e0]
    rfl
def eRep {α : Type} (one : Nat → Rs α) (e : Nat → α × Nat) : Nat → Nat → List α × Nat
  | 0, p => ([], p)
  | n + 1, p => match one p with
    | .ok v q => (v :: (eRep one e n q).1, (eRep one e n q).2)
    | .err a w => ([(e p).1], (e p).2)
def eList {α : Type} (b : List UInt8) (most : Nat) (one : Nat → Rs α) (e : Nat → α × Nat) (p : Nat) : List α × Nat :=
  match rMany b most p with
  | .ok n q => eRep one e n q
  | .err a w => ([], (eMany b p).2)
theorem rList_many {α : Type} {b : List UInt8} {most p : Nat} {one : Nat → Rs α} : rList b most one p = match rMany b most p with | .ok n q => rRep one n q | .err a w => .err a w := by
  unfold rList rMany
  cases rU32 b p with
  | ok n q =>
    dsimp only
    by_cases h : most < n
    · rw [if_pos h, if_pos h]
    · rw [if_neg h, if_neg h]
  | err a w => rfl
theorem rMany_le {b : List UInt8} {most p n q : Nat} (h : rMany b most p = .ok n q) : n ≤ most ∧ q ≤ b.length := by
  unfold rMany at h
  cases hr : rU32 b p with
  | ok n q1 =>
    rw [hr] at h
    dsimp only at h
    have := rU32_le hr
    split at h
    · cases h
    · simp only [Rs.ok.injEq] at h; omega
  | err a w => rw [hr] at h; cases h
theorem rvalAX {H : Heap} {b : List UInt8} {z : Bool} {c p : Nat} (hH : hget H c = some (rst z b p 0 0)) (hb : b.length < 2 ^ 61) (hp : p ≤ b.length) :
    outX z b c H encV (run (C k_ratchetref08_reading_val [.ptr c 0, .bool true, .bool false]) H) (eVal true b p) (rVal b p) := by
  have h := rvalX (any := true) hH hb hp
  by_cases h1 : p < b.length
  · rw [if_pos h1, ← rVal_of h1] at h; exact h
  · rw [if_neg h1] at h
    have e : rVal b p = .err b.length 3 := by unfold rVal; rw [if_neg h1]
    rw [e]; exact h
theorem rvalsLoopX {b : List UInt8} {z : Bool} (hb : b.length < 2 ^ 61) {c : Nat} {v2 : PV} : ∀ (m i n p : Nat) (acc : List VT) (H : Heap), hget H c = some (rst z b p 0 0) → p ≤ b.length → n = i + m → acc.length = i → n ≤ 1000000 →
    outX z b c H (fun l => encL (acc ++ l)) (run (p_ratchetref08_reading_vals_111010 (.ptr c 0) v2 (.int .i64 n) (encL acc) (.int .i64 i)) H) (eRep (rVal b) (eVal true b) m p) (rRep (rVal b) m p)
  | 0, i, n, p, acc, H, hH, hp, hn, ha, hm => by
    have hset := set_self hH
    have c1 : ¬ (i : Int) < n := by omega
    unfold rRep eRep
    show _ = some (Out.ok (encL (acc ++ [])) (Pi.hset H c (rst z b p 0 0)))
    rw [hset, List.append_nil, p_ratchetref08_reading_vals_111010_eq]
    simp (contextual := true) (dsimp := false) (disch := omega) only [↓goDown, goUp, List.length_cons, List.length_nil, List.map_cons, List.map_nil, List.take_succ_cons, List.take_zero, List.drop_succ_cons, List.drop_zero, List.drop_nil, List.take_nil, List.cons_append, List.nil_append, List.append_nil, List.set_cons_zero, List.set_cons_succ, List.all_cons, List.all_nil, ↓reduceIte, reduceCtorEq, ge_iff_le, gt_iff_lt, eq_self_iff_true, beq_self_eq_true, beq_iff_eq, bne_iff_ne, ne_eq, ite_not, Int.reduceEq, Option.getD_some, Option.getD_none, ite_self, Nat.reduceAdd, Nat.reduceSub, Nat.reduceMul, Nat.reduceLeDiff, Nat.reduceEqDiff, Nat.reduceBEq, Nat.reduceBNe, Int.reduceLT, Int.reduceLE, Int.reduceAdd, Int.reduceSub, Int.reduceMul, Int.reduceNeg, Int.reduceNe, Int.reduceBEq, Int.reduceBNe, Int.reduceToNat, c1, isTup_L]
  | m + 1, i, n, p, acc, H, hH, hp, hn, ha, hm => by
    have hid := get_lt hH
    have hH' : hget H c = some (.cells [BS z b, .int .i64 p, .int .i64 0, .int .i64 0]) := hH
    have c1 : (i : Int) < n := by omega
    have h1 := rvalAX hH hb hp
    unfold rRep eRep
    rw [p_ratchetref08_reading_vals_111010_eq]
    have hbs : ∀ v K, run (bs true (some 3) [encV v]) K = some (.ok (.slice true false 3 [encV v]) K) := fun v K => bs_agg (H := K) (n := 3) (cs := [.int .i64 v.num, .bool v.nul, .int .i64 v.heap]) (by simp [flatL, PV.flat]) rfl
    have hap : ∀ v K, run (ap true 3 24 (encL acc) (.slice true false 3 [encV v])) K = some (.ok (encL (acc ++ [v])) K) := fun v K => by
      have := ap_acc (H := K) (sz := 3) (b := 24) (l := acc.map encV) (v := encV v) (o := true) (by simp [ha]; omega)
      have e1 : accP 3 (acc.map encV ++ [encV v]) = encL (acc ++ [v]) := by unfold encL; simp
      rw [e1] at this
      exact this
    have e2 : (i : Int) + 1 = ((i + 1 : Nat) : Int) := rfl
    cases hr : rVal b p with
    | ok v q =>
      rw [hr] at h1
      have h1 : run (C k_ratchetref08_reading_val [.ptr c 0, .bool true, .bool false]) H = some (.ok (encV v) (Pi.hset H c (rst z b q 0 0))) := h1
      have h2 := rvalsLoopX hb (v2 := v2) m (i + 1) n q (acc ++ [v]) (Pi.hset H c (rst z b q 0 0)) (get_set hid) (rVal_le hr) (by omega) (by simp [ha]) hm
      have hrun : ∀ r, r = run (p_ratchetref08_reading_vals_111010 (.ptr c 0) v2 (.int .i64 n) (encL (acc ++ [v])) (.int .i64 (i + 1 : Nat))) (Pi.hset H c (rst z b q 0 0)) → outX z b c H (fun l => encL (acc ++ l)) r (v :: (eRep (rVal b) (eVal true b) m q).1, (eRep (rVal b) (eVal true b) m q).2) (rsCons v (rRep (rVal b) m q)) := by
        intro r hr0
        rw [← hr0] at h2
        cases hrr : rRep (rVal b) m q with
        | ok l q2 =>
          rw [hrr] at h2
          simp only [outX, set_set] at h2
          simp only [rsCons, outX]
          rw [h2]
          simp
        | err a w =>
          rw [hrr] at h2
          obtain ⟨h3, hw⟩ := h2
          rw [set_set] at h3
          refine ⟨?_, hw⟩
          rw [h3]
          simp
      refine hrun _ ?_
      simp (contextual := true) (dsimp := false) (disch := omega) only [↓goDown, goUp, List.length_cons, List.length_nil, List.map_cons, List.map_nil, List.take_succ_cons, List.take_zero, List.drop_succ_cons, List.drop_zero, List.drop_nil, List.take_nil, List.cons_append, List.nil_append, List.append_nil, List.set_cons_zero, List.set_cons_succ, List.all_cons, List.all_nil, ↓reduceIte, reduceCtorEq, ge_iff_le, gt_iff_lt, eq_self_iff_true, beq_self_eq_true, beq_iff_eq, bne_iff_ne, ne_eq, ite_not, Int.reduceEq, Option.getD_some, Option.getD_none, ite_self, Nat.reduceAdd, Nat.reduceSub, Nat.reduceMul, Nat.reduceLeDiff, Nat.reduceEqDiff, Nat.reduceBEq, Nat.reduceBNe, Int.reduceLT, Int.reduceLE, Int.reduceAdd, Int.reduceSub, Int.reduceMul, Int.reduceNeg, Int.reduceNe, Int.reduceBEq, Int.reduceBNe, Int.reduceToNat, hH', c1, h1, hbs, hap, e2, strip_V, stripC_V, isTup_V]
    | err a w =>
      rw [hr] at h1
      obtain ⟨h1, hw⟩ := h1
      generalize eVal true b p = ev at h1 ⊢
      obtain ⟨v, q⟩ := ev
      dsimp only at h1 ⊢
      refine ⟨?_, hw⟩
      have hst := rvals_stop (H := Pi.hset H c (rst z b q a w)) (v2 := v2) (n := n) (i := i + 1) (l := acc ++ [v]) (get_set hid) hw
      simp (contextual := true) (dsimp := false) (disch := omega) only [↓goDown, goUp, List.length_cons, List.length_nil, List.map_cons, List.map_nil, List.take_succ_cons, List.take_zero, List.drop_succ_cons, List.drop_zero, List.drop_nil, List.take_nil, List.cons_append, List.nil_append, List.append_nil, List.set_cons_zero, List.set_cons_succ, List.all_cons, List.all_nil, ↓reduceIte, reduceCtorEq, ge_iff_le, gt_iff_lt, eq_self_iff_true, beq_self_eq_true, beq_iff_eq, bne_iff_ne, ne_eq, ite_not, Int.reduceEq, Option.getD_some, Option.getD_none, ite_self, Nat.reduceAdd, Nat.reduceSub, Nat.reduceMul, Nat.reduceLeDiff, Nat.reduceEqDiff, Nat.reduceBEq, Nat.reduceBNe, Int.reduceLT, Int.reduceLE, Int.reduceAdd, Int.reduceSub, Int.reduceMul, Int.reduceNeg, Int.reduceNe, Int.reduceBEq, Int.reduceBNe, Int.reduceToNat, hH', c1, h1, hbs, hap, e2, hst, strip_V, stripC_V, isTup_V]
end Go.Proofs.Ytofbbijagbpicaa.Pi.Q
/- The reference's reader of composite types. -/
namespace Go.Proofs.Ytofbbijagbpicaa.Pi.Q
open Go Go.Proofs.Ytofbbijagbpicaa.Pi
set_option linter.unusedVariables false
set_option linter.unusedSimpArgs false
set_option maxRecDepth 100000
attribute [local congr] ite_congr
def eVals (b : List UInt8) (p : Nat) : List VT × Nat := eList b 1000 (rVal b) (eVal true b) p
theorem rvalsX {H : Heap} {b : List UInt8} {z : Bool} {c p : Nat} (hH : hget H c = some (rst z b p 0 0)) (hb : b.length < 2 ^ 61) (hp : p ≤ b.length) :
    outX z b c H encL (run (C k_ratchetref08_reading_vals [.ptr c 0]) H) (eVals b p) (rVals b p) := by
  have hid := get_lt hH
  have h1 := rmanyX (most := 1000) (by omega) hH hb hp
  have h1 : outX z b c H (fun n : Nat => .int .i64 n) (run (C k_ratchetref08_reading_many [.ptr c 0, .int .i64 1000]) H) (eMany b p) (rMany b 1000 p) := h1
  rw [ratchetref08_reading_vals_eq]
  unfold rVals eVals eList
  rw [rList_many]
  have nil : encL [] = .slice false true 0 [] := rfl
  cases hr : rMany b 1000 p with
  | ok n q =>
    have hn := rMany_le hr
    rw [hr] at h1
    simp only [outX] at h1
    dsimp only
    have h3 := rvalsLoopX hb (v2 := .slice false true 0 []) n 0 n q [] (Pi.hset H c (rst z b q 0 0)) (get_set hid) hn.2 (by omega) rfl (by omega)
    rw [nil] at h3
    have h3 : outX z b c (Pi.hset H c (rst z b q 0 0)) encL (run (p_ratchetref08_reading_vals_111010 (.ptr c 0) (.slice false true 0 []) (.int .i64 n) (.slice false true 0 []) (.int .i64 0)) (Pi.hset H c (rst z b q 0 0))) (eRep (rVal b) (eVal true b) n q) (rRep (rVal b) n q) := h3
    cases hrr : rRep (rVal b) n q with
    | ok l q2 =>
      rw [hrr] at h3
      simp only [outX, set_set] at h3 ⊢
      simp (contextual := true) (dsimp := false) (disch := omega) only [↓goDown, goUp, List.length_cons, List.length_nil, List.map_cons, List.map_nil, List.take_succ_cons, List.take_zero, List.drop_succ_cons, List.drop_zero, List.drop_nil, List.take_nil, List.cons_append, List.nil_append, List.append_nil, List.set_cons_zero, List.set_cons_succ, List.all_cons, List.all_nil, ↓reduceIte, reduceCtorEq, ge_iff_le, gt_iff_lt, eq_self_iff_true, beq_self_eq_true, beq_iff_eq, bne_iff_ne, ne_eq, ite_not, Int.reduceEq, Option.getD_some, Option.getD_none, ite_self, Nat.reduceAdd, Nat.reduceSub, Nat.reduceMul, Nat.reduceLeDiff, Nat.reduceEqDiff, Nat.reduceBEq, Nat.reduceBNe, Int.reduceLT, Int.reduceLE, Int.reduceAdd, Int.reduceSub, Int.reduceMul, Int.reduceNeg, Int.reduceNe, Int.reduceBEq, Int.reduceBNe, Int.reduceToNat, h1, h3, low_L]
    | err a w =>
      rw [hrr] at h3
      obtain ⟨h3, hw⟩ := h3
      generalize eRep (rVal b) (eVal true b) n q = er at h3 ⊢
      obtain ⟨l, q2⟩ := er
      rw [set_set] at h3
      refine ⟨?_, hw⟩
      dsimp only at h3 ⊢
      simp (contextual := true) (dsimp := false) (disch := omega) only [↓goDown, goUp, List.length_cons, List.length_nil, List.map_cons, List.map_nil, List.take_succ_cons, List.take_zero, List.drop_succ_cons, List.drop_zero, List.drop_nil, List.take_nil, List.cons_append, List.nil_append, List.append_nil, List.set_cons_zero, List.set_cons_succ, List.all_cons, List.all_nil, ↓reduceIte, reduceCtorEq, ge_iff_le, gt_iff_lt, eq_self_iff_true, beq_self_eq_true, beq_iff_eq, bne_iff_ne, ne_eq, ite_not, Int.reduceEq, Option.getD_some, Option.getD_none, ite_self, Nat.reduceAdd, Nat.reduceSub, Nat.reduceMul, Nat.reduceLeDiff, Nat.reduceEqDiff, Nat.reduceBEq, Nat.reduceBNe, Int.reduceLT, Int.reduceLE, Int.reduceAdd, Int.reduceSub, Int.reduceMul, Int.reduceNeg, Int.reduceNe, Int.reduceBEq, Int.reduceBNe, Int.reduceToNat, h1, h3, low_L]
  | err a w =>
    rw [hr] at h1
    obtain ⟨h1, hw⟩ := h1
    dsimp only
    generalize eMany b p = em at h1 ⊢
    obtain ⟨v, q2⟩ := em
    have hst : ∀ v2, run (p_ratchetref08_reading_vals_111010 (.ptr c 0) v2 (.int .i64 v) (.slice false true 0 []) (.int .i64 0)) (Pi.hset H c (rst z b q2 a w)) = some (.ok (.slice false true 0 []) (Pi.hset H c (rst z b q2 a w))) := fun v2 => rvals_stop (H := Pi.hset H c (rst z b q2 a w)) (v2 := v2) (n := v) (i := 0) (l := []) (get_set hid) hw
    refine ⟨?_, hw⟩
    dsimp only at h1 ⊢
    simp (contextual := true) (dsimp := false) (disch := omega) only [↓goDown, goUp, List.length_cons, List.length_nil, List.map_cons, List.map_nil, List.take_succ_cons, List.take_zero, List.drop_succ_cons, List.drop_zero, List.drop_nil, List.take_nil, List.cons_append, List.nil_append, List.append_nil, List.set_cons_zero, List.set_cons_succ, List.all_cons, List.all_nil, ↓reduceIte, reduceCtorEq, ge_iff_le, gt_iff_lt, eq_self_iff_true, beq_self_eq_true, beq_iff_eq, bne_iff_ne, ne_eq, ite_not, Int.reduceEq, Option.getD_some, Option.getD_none, ite_self, Nat.reduceAdd, Nat.reduceSub, Nat.reduceMul, Nat.reduceLeDiff, Nat.reduceEqDiff, Nat.reduceBEq, Nat.reduceBNe, Int.reduceLT, Int.reduceLE, Int.reduceAdd, Int.reduceSub, Int.reduceMul, Int.reduceNeg, Int.reduceNe, Int.reduceBEq, Int.reduceBNe, Int.reduceToNat, h1, hst, nil]
/-! ### Behind a fault -/
variable {H : Heap} {b : List UInt8} {z : Bool} {c q a w : Nat}
theorem peek_st (hH : hget H c = some (rst z b q a w)) (hw : w ≠ 0) : run (C k_ratchetref08_reading_peek [.ptr c 0]) H = some (.ok (.tup [.int .u8 0, .bool false]) H) := by
  have hH' : hget H c = some (.cells [BS z b, .int .i64 q, .int .i64 a, .int .i64 w]) := hH
  have c1 : ((w : Int) = 0) = False := eq_false (by omega)
  rw [ratchetref08_reading_peek_eq]
  simp (contextual := true) (dsimp := false) (disch := omega) only [↓goDown, goUp, List.length_cons, List.length_nil, List.map_cons, List.map_nil, List.take_succ_cons, List.take_zero, List.drop_succ_cons, List.drop_zero, List.drop_nil, List.take_nil, List.cons_append, List.nil_append, List.append_nil, List.set_cons_zero, List.set_cons_succ, List.all_cons, List.all_nil, ↓reduceIte, reduceCtorEq, ge_iff_le, gt_iff_lt, eq_self_iff_true, beq_self_eq_true, beq_iff_eq, bne_iff_ne, ne_eq, ite_not, Int.reduceEq, Option.getD_some, Option.getD_none, ite_self, Nat.reduceAdd, Nat.reduceSub, Nat.reduceMul, Nat.reduceLeDiff, Nat.reduceEqDiff, Nat.reduceBEq, Nat.reduceBNe, Int.reduceLT, Int.reduceLE, Int.reduceAdd, Int.reduceSub, Int.reduceMul, Int.reduceNeg, Int.reduceNe, Int.reduceBEq, Int.reduceBNe, Int.reduceToNat, hH', c1]
theorem fail_st (hH : hget H c = some (rst z b q a w)) (hw : w ≠ 0) {x y : Int} : run (C k_ratchetref08_reading_fail [.ptr c 0, .int .i64 x, .int .i64 y]) H = some (.ok (.tup []) H) := by
  have hH' : hget H c = some (.cells [BS z b, .int .i64 q, .int .i64 a, .int .i64 w]) := hH
  have c1 : ((w : Int) = 0) = False := eq_false (by omega)
  rw [ratchetref08_reading_fail_eq]
  simp (contextual := true) (dsimp := false) (disch := omega) only [↓goDown, goUp, List.length_cons, List.length_nil, List.map_cons, List.map_nil, List.take_succ_cons, List.take_zero, List.drop_succ_cons, List.drop_zero, List.drop_nil, List.take_nil, List.cons_append, List.nil_append, List.append_nil, List.set_cons_zero, List.set_cons_succ, List.all_cons, List.all_nil, ↓reduceIte, reduceCtorEq, ge_iff_le, gt_iff_lt, eq_self_iff_true, beq_self_eq_true, beq_iff_eq, bne_iff_ne, ne_eq, ite_not, Int.reduceEq, Option.getD_some, Option.getD_none, ite_self, Nat.reduceAdd, Nat.reduceSub, Nat.reduceMul, Nat.reduceLeDiff, Nat.reduceEqDiff, Nat.reduceBEq, Nat.reduceBNe, Int.reduceLT, Int.reduceLE, Int.reduceAdd, Int.reduceSub, Int.reduceMul, Int.reduceNeg, Int.reduceNe, Int.reduceBEq, Int.reduceBNe, Int.reduceToNat, hH', c1]
theorem number_st (hH : hget H c = some (rst z b q a w)) (hw : w ≠ 0) {x : Int} {t : Bool} : run (C k_ratchetref08_reading_number [.ptr c 0, .int .i64 x, .bool t]) H = some (.ok (.int .u64 0) H) := by
  have hH' : hget H c = some (.cells [BS z b, .int .i64 q, .int .i64 a, .int .i64 w]) := hH
  have c1 : ((w : Int) = 0) = False := eq_false (by omega)
  rw [ratchetref08_reading_number_eq]
  simp (contextual := true) (dsimp := false) (disch := omega) only [↓goDown, goUp, List.length_cons, List.length_nil, List.map_cons, List.map_nil, List.take_succ_cons, List.take_zero, List.drop_succ_cons, List.drop_zero, List.drop_nil, List.take_nil, List.cons_append, List.nil_append, List.append_nil, List.set_cons_zero, List.set_cons_succ, List.all_cons, List.all_nil, ↓reduceIte, reduceCtorEq, ge_iff_le, gt_iff_lt, eq_self_iff_true, beq_self_eq_true, beq_iff_eq, bne_iff_ne, ne_eq, ite_not, Int.reduceEq, Option.getD_some, Option.getD_none, ite_self, Nat.reduceAdd, Nat.reduceSub, Nat.reduceMul, Nat.reduceLeDiff, Nat.reduceEqDiff, Nat.reduceBEq, Nat.reduceBNe, Int.reduceLT, Int.reduceLE, Int.reduceAdd, Int.reduceSub, Int.reduceMul, Int.reduceNeg, Int.reduceNe, Int.reduceBEq, Int.reduceBNe, Int.reduceToNat, hH', c1]
theorem many_st (hH : hget H c = some (rst z b q a w)) (hw : w ≠ 0) {x : Int} : run (C k_ratchetref08_reading_many [.ptr c 0, .int .i64 x]) H = some (.ok (.int .i64 0) H) := by
  have hH' : hget H c = some (.cells [BS z b, .int .i64 q, .int .i64 a, .int .i64 w]) := hH
  have c1 : ((w : Int) = 0) = False := eq_false (by omega)
  have n1 := fun x t => number_st hH hw (x := x) (t := t)
  have e0 : IntKind.i64.wrap 0 = 0 := rfl
  have hs' : Pi.hset H c (.cells [BS z b, .int .i64 q, .int .i64 a, .int .i64 w]) = H := set_self hH
  rw [ratchetref08_reading_many_eq]
  simp (contextual := true) (dsimp := false) (disch := omega) only [↓goDown, goUp, List.length_cons, List.length_nil, List.map_cons, List.map_nil, List.take_succ_cons, List.take_zero, List.drop_succ_cons, List.drop_zero, List.drop_nil, List.take_nil, List.cons_append, List.nil_append, List.append_nil, List.set_cons_zero, List.set_cons_succ, List.all_cons, List.all_nil, ↓reduceIte, reduceCtorEq, ge_iff_le, gt_iff_lt, eq_self_iff_true, beq_self_eq_true, beq_iff_eq, bne_iff_ne, ne_eq, ite_not, Int.reduceEq, Option.getD_some, Option.getD_none, ite_self, Nat.reduceAdd, Nat.reduceSub, Nat.reduceMul, Nat.reduceLeDiff, Nat.reduceEqDiff, Nat.reduceBEq, Nat.reduceBNe, Int.reduceLT, Int.reduceLE, Int.reduceAdd, Int.reduceSub, Int.reduceMul, Int.reduceNeg, Int.reduceNe, Int.reduceBEq, Int.reduceBNe, Int.reduceToNat, hH', hs', c1, n1, e0]
theorem vals_st (hH : hget H c = some (rst z b q a w)) (hw : w ≠ 0) : run (C k_ratchetref08_reading_vals [.ptr c 0]) H = some (.ok (.slice false true 0 []) H) := by
  have n1 := fun x => many_st hH hw (x := x)
  have hst : ∀ v2, run (p_ratchetref08_reading_vals_111010 (.ptr c 0) v2 (.int .i64 0) (.slice false true 0 []) (.int .i64 0)) H = some (.ok (.slice false true 0 []) H) := fun v2 => rvals_stop (v2 := v2) (n := 0) (i := 0) (l := []) hH hw
  rw [ratchetref08_reading_vals_eq]
  simp (contextual := true) (dsimp := false) (disch := omega) only [↓goDown, goUp, List.length_cons, List.length_nil, List.map_cons, List.map_nil, List.take_succ_cons, List.take_zero, List.drop_succ_cons, List.drop_zero, List.drop_nil, List.take_nil, List.cons_append, List.nil_append, List.append_nil, List.set_cons_zero, List.set_cons_succ, List.all_cons, List.all_nil, ↓reduceIte, reduceCtorEq, ge_iff_le, gt_iff_lt, eq_self_iff_true, beq_self_eq_true, beq_iff_eq, bne_iff_ne, ne_eq, ite_not, Int.reduceEq, Option.getD_some, Option.getD_none, ite_self, Nat.reduceAdd, Nat.reduceSub, Nat.reduceMul, Nat.reduceLeDiff, Nat.reduceEqDiff, Nat.reduceBEq, Nat.reduceBNe, Int.reduceLT, Int.reduceLE, Int.reduceAdd, Int.reduceSub, Int.reduceMul, Int.reduceNeg, Int.reduceNe, Int.reduceBEq, Int.reduceBNe, Int.reduceToNat, n1, hst]
theorem comp_st (hH : hget H c = some (rst z b q a w)) (hw : w ≠ 0) : run (C k_ratchetref08_reading_comp [.ptr c 0]) H = some (.ok (.agg [.int .i64 0, .slice false true 0 [], .slice false true 0 [], .slice false true 0 []]) H) := by
  have hid := get_lt hH
  have hH1 : ∀ L, hget (hadd H L) c = some (rst z b q a w) := fun L => by rw [get_old hid]; exact hH
  have hH' : hget H c = some (.cells [BS z b, .int .i64 q, .int .i64 a, .int .i64 w]) := hH
  have n1 := fun L => peek_st (hH1 L) hw
  have n2 := fun L x y => fail_st (hH1 L) hw (x := x) (y := y)
  rw [ratchetref08_reading_comp_eq]
  simp (contextual := true) (dsimp := false) (disch := omega) only [↓goDown, goUp, List.length_cons, List.length_nil, List.map_cons, List.map_nil, List.take_succ_cons, List.take_zero, List.drop_succ_cons, List.drop_zero, List.drop_nil, List.take_nil, List.cons_append, List.nil_append, List.append_nil, List.set_cons_zero, List.set_cons_succ, List.all_cons, List.all_nil, ↓reduceIte, reduceCtorEq, ge_iff_le, gt_iff_lt, eq_self_iff_true, beq_self_eq_true, beq_iff_eq, bne_iff_ne, ne_eq, ite_not, Int.reduceEq, Option.getD_some, Option.getD_none, ite_self, Nat.reduceAdd, Nat.reduceSub, Nat.reduceMul, Nat.reduceLeDiff, Nat.reduceEqDiff, Nat.reduceBEq, Nat.reduceBNe, Int.reduceLT, Int.reduceLE, Int.reduceAdd, Int.reduceSub, Int.reduceMul, Int.reduceNeg, Int.reduceNe, Int.reduceBEq, Int.reduceBNe, Int.reduceToNat, n1, n2, hH', un_not]
end Go.Proofs.Ytofbbijagbpicaa.Pi.Q
