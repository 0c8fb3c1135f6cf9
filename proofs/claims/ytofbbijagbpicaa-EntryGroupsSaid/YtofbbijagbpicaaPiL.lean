/- The reference's reader of composite types, on. -/
import Derived.Test.YtofbbijagbpicaaPiJ
import Derived.Test.YtofbbijagbpicaaPiI
import Derived.Test.YtofbbijagbpicaaPiG
namespace Go.Proofs.Ytofbbijagbpicaa.Pi.Q
open Go Go.Proofs.Ytofbbijagbpicaa.Pi
set_option linter.unusedVariables false
set_option linter.unusedSimpArgs false
set_option maxRecDepth 100000
attribute [local congr] ite_congr
abbrev nilS : PV := .slice false true 0 []
theorem ap_F {acc : List FT} {v : FT} {K : Heap} (h : acc.length < 1000000) : run (ap true 4 32 (accP 4 (acc.map encF)) (.slice true false 4 [encF v])) K = some (.ok (accP 4 ((acc ++ [v]).map encF)) K) := by
  have := ap_acc (H := K) (sz := 4) (b := 32) (l := acc.map encF) (v := encF v) (o := true) (by simp; omega)
  rw [this]
  simp
theorem fields_stop {H : Heap} {b : List UInt8} {z : Bool} {c q a w : Nat} (hid : c < H.length) (hw : w ≠ 0) {v5 : PV} {n i : Nat} {acc : List FT} {cs0 : List PV} (h0 : cs0.length = 4) :
    truncR H (run (p_ratchetref08_reading_comp_11111010111011010 (.ptr c 0) (.ptr H.length 0) v5 (.int .i64 n) (.ptr (H.length + 1) 0) (.int .i64 i)) (hadd (Pi.hset H c (rst z b q a w)) [.cells [.int .i64 0, .slice false true 0 [], .slice false true 0 [], .slice false true 0 []], .cells [.int .i64 2, .slice false true 0 [], .slice false true 0 [], accP 4 (acc.map encF)]])) =
      some (.ok (encC ⟨2, [], [], acc⟩) (Pi.hset H c (rst z b q a w))) := by
  have h3 : hget (Pi.hset H c (rst z b q a w)) c = some (.cells [BS z b, .int .i64 q, .int .i64 a, .int .i64 w]) := get_set hid
  have c1 : ((w : Int) = 0) = False := eq_false (by omega)
  rw [p_ratchetref08_reading_comp_11111010111011010_eq]
  by_cases h : (i : Int) < n
  · simp (contextual := true) (dsimp := false) (disch := omega) only [↓goDown, goUp, List.length_cons, List.length_nil, List.map_cons, List.map_nil, List.take_succ_cons, List.take_zero, List.drop_succ_cons, List.drop_zero, List.drop_nil, List.take_nil, List.cons_append, List.nil_append, List.append_nil, List.set_cons_zero, List.set_cons_succ, List.all_cons, List.all_nil, ↓reduceIte, reduceCtorEq, ge_iff_le, gt_iff_lt, eq_self_iff_true, beq_self_eq_true, beq_iff_eq, bne_iff_ne, ne_eq, ite_not, Int.reduceEq, Option.getD_some, Option.getD_none, ite_self, Nat.reduceAdd, Nat.reduceSub, Nat.reduceMul, Nat.reduceLeDiff, Nat.reduceEqDiff, Nat.reduceBEq, Nat.reduceBNe, Int.reduceLT, Int.reduceLE, Int.reduceAdd, Int.reduceSub, Int.reduceMul, Int.reduceNeg, Int.reduceNe, Int.reduceBEq, Int.reduceBNe, Int.reduceToNat, h, h3, c1, cells_acc, stripC_acc, isCell_acc, low_acc, isTup_acc, cells_P, isCell_P, low_P, stripC_P, isTup_P]
    rfl
  · simp (contextual := true) (dsimp := false) (disch := omega) only [↓goDown, goUp, List.length_cons, List.length_nil, List.map_cons, List.map_nil, List.take_succ_cons, List.take_zero, List.drop_succ_cons, List.drop_zero, List.drop_nil, List.take_nil, List.cons_append, List.nil_append, List.append_nil, List.set_cons_zero, List.set_cons_succ, List.all_cons, List.all_nil, ↓reduceIte, reduceCtorEq, ge_iff_le, gt_iff_lt, eq_self_iff_true, beq_self_eq_true, beq_iff_eq, bne_iff_ne, ne_eq, ite_not, Int.reduceEq, Option.getD_some, Option.getD_none, ite_self, Nat.reduceAdd, Nat.reduceSub, Nat.reduceMul, Nat.reduceLeDiff, Nat.reduceEqDiff, Nat.reduceBEq, Nat.reduceBNe, Int.reduceLT, Int.reduceLE, Int.reduceAdd, Int.reduceSub, Int.reduceMul, Int.reduceNeg, Int.reduceNe, Int.reduceBEq, Int.reduceBNe, Int.reduceToNat, h, h3, c1, cells_acc, stripC_acc, isCell_acc, low_acc, isTup_acc, cells_P, isCell_P, low_P, stripC_P, isTup_P]
    rfl
theorem fields_loop {b : List UInt8} {z : Bool} (hb : b.length < 2 ^ 61) {c : Nat} {v5 : PV} {H : Heap} (hid : c < H.length) : ∀ (m i n p : Nat) (acc : List FT), p ≤ b.length → n = i + m → acc.length = i → n ≤ 100000 →
    outX z b c H (fun fs => encC ⟨2, [], [], acc ++ fs⟩) (truncR H (run (p_ratchetref08_reading_comp_11111010111011010 (.ptr c 0) (.ptr H.length 0) v5 (.int .i64 n) (.ptr (H.length + 1) 0) (.int .i64 i)) (hadd (Pi.hset H c (rst z b p 0 0)) [.cells [.int .i64 0, .slice false true 0 [], .slice false true 0 [], .slice false true 0 []], .cells [.int .i64 2, .slice false true 0 [], .slice false true 0 [], accP 4 (acc.map encF)]])))
      (eRep (rField b) (eField b) m p) (rRep (rField b) m p)
  | 0, i, n, p, acc, hp, hn, ha, hm => by
    have c1 : ¬ (i : Int) < n := by omega
    unfold rRep eRep
    simp only [outX, List.append_nil]
    rw [p_ratchetref08_reading_comp_11111010111011010_eq]
    simp (contextual := true) (dsimp := false) (disch := omega) only [↓goDown, goUp, List.length_cons, List.length_nil, List.map_cons, List.map_nil, List.take_succ_cons, List.take_zero, List.drop_succ_cons, List.drop_zero, List.drop_nil, List.take_nil, List.cons_append, List.nil_append, List.append_nil, List.set_cons_zero, List.set_cons_succ, List.all_cons, List.all_nil, ↓reduceIte, reduceCtorEq, ge_iff_le, gt_iff_lt, eq_self_iff_true, beq_self_eq_true, beq_iff_eq, bne_iff_ne, ne_eq, ite_not, Int.reduceEq, Option.getD_some, Option.getD_none, ite_self, Nat.reduceAdd, Nat.reduceSub, Nat.reduceMul, Nat.reduceLeDiff, Nat.reduceEqDiff, Nat.reduceBEq, Nat.reduceBNe, Int.reduceLT, Int.reduceLE, Int.reduceAdd, Int.reduceSub, Int.reduceMul, Int.reduceNeg, Int.reduceNe, Int.reduceBEq, Int.reduceBNe, Int.reduceToNat, c1, cells_acc, stripC_acc, isCell_acc, low_acc, isTup_acc, cells_P, isCell_P, low_P, stripC_P, isTup_P]
    rfl
  | m + 1, i, n, p, acc, hp, hn, ha, hm => by
    have c1 : (i : Int) < n := by omega
    have h3 : hget (Pi.hset H c (rst z b p 0 0)) c = some (.cells [BS z b, .int .i64 p, .int .i64 0, .int .i64 0]) := get_set hid
    have hH2 : ∀ L, hget (hadd (Pi.hset H c (rst z b p 0 0)) L) c = some (rst z b p 0 0) := fun L => by rw [get_old1 hid, get_set hid]
    have so1 : ∀ u a w u' a' w' L, Pi.hset (hadd (Pi.hset H c (rst z b u' a' w')) L) c (rst z b u a w) = hadd (Pi.hset H c (rst z b u a w)) L := fun u a w u' a' w' L => by rw [set_old1 hid, set_set]
    have hk := fun L => rfieldX (hH2 L) hb hp
    have hap := fun v K => ap_F (acc := acc) (v := v) (K := K) (by omega)
    have e2 : (i : Int) + 1 = ((i + 1 : Nat) : Int) := rfl
    unfold rRep eRep
    rw [p_ratchetref08_reading_comp_11111010111011010_eq]
    cases hr : rField b p with
    | ok v q =>
      rw [hr] at hk
      simp only [outX, so1] at hk
      dsimp only
      have ih := fields_loop (z := z) hb (v5 := v5) hid m (i + 1) n q (acc ++ [v]) (rField_le hr) (by omega) (by simp [ha]) hm
      have hrun : ∀ r, r = truncR H (run (p_ratchetref08_reading_comp_11111010111011010 (.ptr c 0) (.ptr H.length 0) v5 (.int .i64 n) (.ptr (H.length + 1) 0) (.int .i64 (i + 1 : Nat))) (hadd (Pi.hset H c (rst z b q 0 0)) [.cells [.int .i64 0, .slice false true 0 [], .slice false true 0 [], .slice false true 0 []], .cells [.int .i64 2, .slice false true 0 [], .slice false true 0 [], accP 4 ((acc ++ [v]).map encF)]])) →
          outX z b c H (fun fs => encC ⟨2, [], [], acc ++ fs⟩) r (v :: (eRep (rField b) (eField b) m q).1, (eRep (rField b) (eField b) m q).2) (rsCons v (rRep (rField b) m q)) := by
        intro r hr0
        rw [← hr0] at ih
        cases hrr : rRep (rField b) m q with
        | ok l q2 =>
          rw [hrr] at ih
          simp only [outX] at ih
          simp only [rsCons, outX]
          rw [ih]
          simp
        | err a w =>
          rw [hrr] at ih
          obtain ⟨ih, hw⟩ := ih
          refine ⟨?_, hw⟩
          rw [ih]
          simp
      refine hrun _ ?_
      simp (contextual := true) (dsimp := false) (disch := omega) only [↓goDown, goUp, List.length_cons, List.length_nil, List.map_cons, List.map_nil, List.take_succ_cons, List.take_zero, List.drop_succ_cons, List.drop_zero, List.drop_nil, List.take_nil, List.cons_append, List.nil_append, List.append_nil, List.set_cons_zero, List.set_cons_succ, List.all_cons, List.all_nil, ↓reduceIte, reduceCtorEq, ge_iff_le, gt_iff_lt, eq_self_iff_true, beq_self_eq_true, beq_iff_eq, bne_iff_ne, ne_eq, ite_not, Int.reduceEq, Option.getD_some, Option.getD_none, ite_self, Nat.reduceAdd, Nat.reduceSub, Nat.reduceMul, Nat.reduceLeDiff, Nat.reduceEqDiff, Nat.reduceBEq, Nat.reduceBNe, Int.reduceLT, Int.reduceLE, Int.reduceAdd, Int.reduceSub, Int.reduceMul, Int.reduceNeg, Int.reduceNe, Int.reduceBEq, Int.reduceBNe, Int.reduceToNat, c1, h3, hk, bs_F, bsR_F, stripC_F, hap, e2, cells_acc, stripC_acc, isCell_acc, low_acc, isTup_acc, cells_P, isCell_P, low_P, stripC_P, isTup_P]
    | err a w =>
      rw [hr] at hk
      have hw := (hk []).2
      have hk := fun L => (hk L).1
      simp only [so1] at hk
      dsimp only
      generalize eField b p = ev at hk ⊢
      obtain ⟨v, q⟩ := ev
      dsimp only at hk ⊢
      have hst := fields_stop (v5 := v5) (n := n) (i := i + 1) (acc := acc ++ [v]) (z := z) (b := b) (q := q) (a := a) hid hw (cs0 := [.nil, .nil, .nil, .nil]) rfl
      refine ⟨?_, hw⟩
      simp (contextual := true) (dsimp := false) (disch := omega) only [↓goDown, goUp, List.length_cons, List.length_nil, List.map_cons, List.map_nil, List.take_succ_cons, List.take_zero, List.drop_succ_cons, List.drop_zero, List.drop_nil, List.take_nil, List.cons_append, List.nil_append, List.append_nil, List.set_cons_zero, List.set_cons_succ, List.all_cons, List.all_nil, ↓reduceIte, reduceCtorEq, ge_iff_le, gt_iff_lt, eq_self_iff_true, beq_self_eq_true, beq_iff_eq, bne_iff_ne, ne_eq, ite_not, Int.reduceEq, Option.getD_some, Option.getD_none, ite_self, Nat.reduceAdd, Nat.reduceSub, Nat.reduceMul, Nat.reduceLeDiff, Nat.reduceEqDiff, Nat.reduceBEq, Nat.reduceBNe, Int.reduceLT, Int.reduceLE, Int.reduceAdd, Int.reduceSub, Int.reduceMul, Int.reduceNeg, Int.reduceNe, Int.reduceBEq, Int.reduceBNe, Int.reduceToNat, c1, h3, hk, bs_F, bsR_F, stripC_F, hap, e2, hst, cells_acc, stripC_acc, isCell_acc, low_acc, isTup_acc, cells_P, isCell_P, low_P, stripC_P, isTup_P]
def eFields (b : List UInt8) (p : Nat) : List FT × Nat := eList b 10000 (rField b) (eField b) p
def eFunc (b : List UInt8) (p : Nat) : CT × Nat :=
  match rVals b p with
  | .ok ps q => (⟨1, ps, (eVals b q).1, []⟩, (eVals b q).2)
  | .err _ _ => (⟨1, (eVals b p).1, [], []⟩, (eVals b p).2)
def eComp (b : List UInt8) (p : Nat) : CT × Nat :=
  if p < b.length then
    if (b.getD p 0).toNat = 96 then eFunc b (p + 1)
    else if (b.getD p 0).toNat = 95 then (⟨2, [], [], (eFields b (p + 1)).1⟩, (eFields b (p + 1)).2)
    else if (b.getD p 0).toNat = 94 then (⟨3, [], [], [(eField b (p + 1)).1]⟩, (eField b (p + 1)).2)
    else (⟨0, [], [], []⟩, p + 1)
  else (⟨0, [], [], []⟩, p)
theorem rcompX {H : Heap} {b : List UInt8} {z : Bool} {c p : Nat} (hH : hget H c = some (rst z b p 0 0)) (hb : b.length < 2 ^ 61) (hp : p ≤ b.length) :
    outX z b c H encC (run (C k_ratchetref08_reading_comp [.ptr c 0]) H) (eComp b p) (rComp b p) := by
  have hid := get_lt hH
  have hset := set_self hH
  have hH1 : ∀ L, hget (hadd H L) c = some (rst z b p 0 0) := fun L => by rw [get_old hid]; exact hH
  have hH' : hget H c = some (.cells [BS z b, .int .i64 p, .int .i64 0, .int .i64 0]) := hH
  have hs' : Pi.hset H c (.cells [BS z b, .int .i64 p, .int .i64 0, .int .i64 0]) = H := hset
  have so : ∀ u a w L, Pi.hset (hadd H L) c (rst z b u a w) = hadd (Pi.hset H c (rst z b u a w)) L := fun u a w L => by rw [set_old hid]
  have so1 : ∀ u a w u' a' w' L, Pi.hset (hadd (Pi.hset H c (rst z b u' a' w')) L) c (rst z b u a w) = hadd (Pi.hset H c (rst z b u a w)) L := fun u a w u' a' w' L => by rw [set_old1 hid, set_set]
  have hH2 : ∀ u a w L, hget (hadd (Pi.hset H c (rst z b u a w)) L) c = some (rst z b u a w) := fun u a w L => by rw [get_old1 hid, get_set hid]
  have hst : Pi.hset H c (.cells [BS z b, .int .i64 ((p : Int) + 1), .int .i64 0, .int .i64 0]) = Pi.hset H c (rst z b (p + 1) 0 0) := rfl
  rw [ratchetref08_reading_comp_eq]
  unfold rComp eComp
  by_cases h1 : p < b.length
  · have hl := fun L => peek_ok (hH1 L) hb h1
    have hc := byt_lt (b.getD p 0)
    rw [if_pos h1, if_pos h1]
    generalize (b.getD p 0).toNat = x at hl hc ⊢
    by_cases h2 : x = 96
    · have e1 : ((x : Int) = 96) = True := eq_true (by omega)
      rw [if_pos h2, if_pos h2]
      have hk := rvalsX (hH2 (p + 1) 0 0 [.cells [.int .i64 0, .slice false true 0 [], .slice false true 0 [], .slice false true 0 []]]) hb (show p + 1 ≤ b.length by omega)
      unfold rFunc eFunc
      cases hr : rVals b (p + 1) with
      | err a w =>
        rw [hr] at hk
        obtain ⟨hk, hw⟩ := hk
        simp only [so1] at hk
        dsimp only
        generalize eVals b (p + 1) = ev at hk ⊢
        obtain ⟨v, q⟩ := ev
        simp only [encL] at hk
        have hk2 := fun L => vals_st (hH2 q a w L) hw
        refine ⟨?_, hw⟩
        simp (contextual := true) (dsimp := false) (disch := omega) only [↓goDown, goUp, List.length_cons, List.length_nil, List.map_cons, List.map_nil, List.take_succ_cons, List.take_zero, List.drop_succ_cons, List.drop_zero, List.drop_nil, List.take_nil, List.cons_append, List.nil_append, List.append_nil, List.set_cons_zero, List.set_cons_succ, List.all_cons, List.all_nil, ↓reduceIte, reduceCtorEq, ge_iff_le, gt_iff_lt, eq_self_iff_true, beq_self_eq_true, beq_iff_eq, bne_iff_ne, ne_eq, ite_not, Int.reduceEq, Option.getD_some, Option.getD_none, ite_self, Nat.reduceAdd, Nat.reduceSub, Nat.reduceMul, Nat.reduceLeDiff, Nat.reduceEqDiff, Nat.reduceBEq, Nat.reduceBNe, Int.reduceLT, Int.reduceLE, Int.reduceAdd, Int.reduceSub, Int.reduceMul, Int.reduceNeg, Int.reduceNe, Int.reduceBEq, Int.reduceBNe, Int.reduceToNat, hl, e1, hH', hs', hst, hk, hk2, cells_acc, stripC_acc, strip_acc, isCell_acc, low_acc, isTup_acc, cells_P, isCell_P, low_P, stripC_P, isTup_P]
        rfl
      | ok ps q =>
        rw [hr] at hk
        simp only [outX, so1, encL] at hk
        dsimp only
        have hk2 := rvalsX (hH2 q 0 0 [.cells [.int .i64 0, .slice false true 0 [], .slice false true 0 [], .slice false true 0 []]]) hb (rVals_le hr)
        cases hr2 : rVals b q with
        | ok rs q2 =>
          rw [hr2] at hk2
          simp only [outX, so1, encL, rsFunc] at hk2 ⊢
          simp (contextual := true) (dsimp := false) (disch := omega) only [↓goDown, goUp, List.length_cons, List.length_nil, List.map_cons, List.map_nil, List.take_succ_cons, List.take_zero, List.drop_succ_cons, List.drop_zero, List.drop_nil, List.take_nil, List.cons_append, List.nil_append, List.append_nil, List.set_cons_zero, List.set_cons_succ, List.all_cons, List.all_nil, ↓reduceIte, reduceCtorEq, ge_iff_le, gt_iff_lt, eq_self_iff_true, beq_self_eq_true, beq_iff_eq, bne_iff_ne, ne_eq, ite_not, Int.reduceEq, Option.getD_some, Option.getD_none, ite_self, Nat.reduceAdd, Nat.reduceSub, Nat.reduceMul, Nat.reduceLeDiff, Nat.reduceEqDiff, Nat.reduceBEq, Nat.reduceBNe, Int.reduceLT, Int.reduceLE, Int.reduceAdd, Int.reduceSub, Int.reduceMul, Int.reduceNeg, Int.reduceNe, Int.reduceBEq, Int.reduceBNe, Int.reduceToNat, hl, e1, hH', hs', hst, hk, hk2, cells_acc, stripC_acc, strip_acc, isCell_acc, low_acc, isTup_acc, cells_P, isCell_P, low_P, stripC_P, isTup_P]
          rfl
        | err a w =>
          rw [hr2] at hk2
          obtain ⟨hk2, hw⟩ := hk2
          simp only [so1] at hk2
          generalize eVals b q = ev at hk2 ⊢
          obtain ⟨v, q2⟩ := ev
          simp only [encL] at hk2
          refine ⟨?_, hw⟩
          simp (contextual := true) (dsimp := false) (disch := omega) only [↓goDown, goUp, List.length_cons, List.length_nil, List.map_cons, List.map_nil, List.take_succ_cons, List.take_zero, List.drop_succ_cons, List.drop_zero, List.drop_nil, List.take_nil, List.cons_append, List.nil_append, List.append_nil, List.set_cons_zero, List.set_cons_succ, List.all_cons, List.all_nil, ↓reduceIte, reduceCtorEq, ge_iff_le, gt_iff_lt, eq_self_iff_true, beq_self_eq_true, beq_iff_eq, bne_iff_ne, ne_eq, ite_not, Int.reduceEq, Option.getD_some, Option.getD_none, ite_self, Nat.reduceAdd, Nat.reduceSub, Nat.reduceMul, Nat.reduceLeDiff, Nat.reduceEqDiff, Nat.reduceBEq, Nat.reduceBNe, Int.reduceLT, Int.reduceLE, Int.reduceAdd, Int.reduceSub, Int.reduceMul, Int.reduceNeg, Int.reduceNe, Int.reduceBEq, Int.reduceBNe, Int.reduceToNat, hl, e1, hH', hs', hst, hk, hk2, cells_acc, stripC_acc, strip_acc, isCell_acc, low_acc, isTup_acc, cells_P, isCell_P, low_P, stripC_P, isTup_P]
          rfl
    · have e1 : ((x : Int) = 96) = False := eq_false (by omega)
      rw [if_neg h2, if_neg h2]
      by_cases h3 : x = 95
      · have e2 : ((x : Int) = 95) = True := eq_true (by omega)
        rw [if_pos h3, if_pos h3]
        have hm := rmanyX (most := 10000) (by omega) (hH2 (p + 1) 0 0 [.cells [.int .i64 0, .slice false true 0 [], .slice false true 0 [], .slice false true 0 []]]) hb (show p + 1 ≤ b.length by omega)
        have hm : outX z b c (hadd (Pi.hset H c (rst z b (p + 1) 0 0)) [.cells [.int .i64 0, .slice false true 0 [], .slice false true 0 [], .slice false true 0 []]]) (fun n : Nat => .int .i64 n) (run (C k_ratchetref08_reading_many [.ptr c 0, .int .i64 10000]) (hadd (Pi.hset H c (rst z b (p + 1) 0 0)) [.cells [.int .i64 0, .slice false true 0 [], .slice false true 0 [], .slice false true 0 []]])) (eMany b (p + 1)) (rMany b 10000 (p + 1)) := hm
        unfold rFields eFields eList
        rw [rList_many]
        cases hr : rMany b 10000 (p + 1) with
        | ok n q =>
          have hn := rMany_le hr
          rw [hr] at hm
          simp only [outX, so1] at hm
          dsimp only
          have h3 := fun v5 => fields_loop (z := z) hb (v5 := v5) hid n 0 n q [] hn.2 (by omega) rfl (by omega)
          have h3 : ∀ v5, outX z b c H (fun fs => encC ⟨2, [], [], fs⟩) (truncR H (run (p_ratchetref08_reading_comp_11111010111011010 (.ptr c 0) (.ptr H.length 0) v5 (.int .i64 n) (.ptr (H.length + 1) 0) (.int .i64 0)) (hadd (Pi.hset H c (rst z b q 0 0)) [.cells [.int .i64 0, .slice false true 0 [], .slice false true 0 [], .slice false true 0 []], .cells [.int .i64 2, .slice false true 0 [], .slice false true 0 [], .slice false true 0 []]]))) (eRep (rField b) (eField b) n q) (rRep (rField b) n q) := h3
          cases hrr : rRep (rField b) n q with
          | ok fs q2 =>
            simp only [hrr, outX, rsStruct] at h3 ⊢
            simp (contextual := true) (dsimp := false) (disch := omega) only [↓goDown, goUp, List.length_cons, List.length_nil, List.map_cons, List.map_nil, List.take_succ_cons, List.take_zero, List.drop_succ_cons, List.drop_zero, List.drop_nil, List.take_nil, List.cons_append, List.nil_append, List.append_nil, List.set_cons_zero, List.set_cons_succ, List.all_cons, List.all_nil, ↓reduceIte, reduceCtorEq, ge_iff_le, gt_iff_lt, eq_self_iff_true, beq_self_eq_true, beq_iff_eq, bne_iff_ne, ne_eq, ite_not, Int.reduceEq, Option.getD_some, Option.getD_none, ite_self, Nat.reduceAdd, Nat.reduceSub, Nat.reduceMul, Nat.reduceLeDiff, Nat.reduceEqDiff, Nat.reduceBEq, Nat.reduceBNe, Int.reduceLT, Int.reduceLE, Int.reduceAdd, Int.reduceSub, Int.reduceMul, Int.reduceNeg, Int.reduceNe, Int.reduceBEq, Int.reduceBNe, Int.reduceToNat, hl, e1, e2, hH', hs', hst, hm, h3]
          | err a w =>
            rw [hrr] at h3
            have hw := (h3 .undef).2
            have h3 := fun v5 => (h3 v5).1
            refine ⟨?_, hw⟩
            simp (contextual := true) (dsimp := false) (disch := omega) only [↓goDown, goUp, List.length_cons, List.length_nil, List.map_cons, List.map_nil, List.take_succ_cons, List.take_zero, List.drop_succ_cons, List.drop_zero, List.drop_nil, List.take_nil, List.cons_append, List.nil_append, List.append_nil, List.set_cons_zero, List.set_cons_succ, List.all_cons, List.all_nil, ↓reduceIte, reduceCtorEq, ge_iff_le, gt_iff_lt, eq_self_iff_true, beq_self_eq_true, beq_iff_eq, bne_iff_ne, ne_eq, ite_not, Int.reduceEq, Option.getD_some, Option.getD_none, ite_self, Nat.reduceAdd, Nat.reduceSub, Nat.reduceMul, Nat.reduceLeDiff, Nat.reduceEqDiff, Nat.reduceBEq, Nat.reduceBNe, Int.reduceLT, Int.reduceLE, Int.reduceAdd, Int.reduceSub, Int.reduceMul, Int.reduceNeg, Int.reduceNe, Int.reduceBEq, Int.reduceBNe, Int.reduceToNat, hl, e1, e2, hH', hs', hst, hm, h3]
        | err a w =>
          rw [hr] at hm
          obtain ⟨hm, hw⟩ := hm
          simp only [so1] at hm
          dsimp only
          generalize eMany b (p + 1) = em at hm ⊢
          obtain ⟨v, q⟩ := em
          have h3 := fun v5 => fields_stop (v5 := v5) (n := v) (i := 0) (acc := []) (z := z) (b := b) (q := q) (a := a) hid hw (cs0 := [.nil, .nil, .nil, .nil]) rfl
          have h3 : ∀ v5, truncR H (run (p_ratchetref08_reading_comp_11111010111011010 (.ptr c 0) (.ptr H.length 0) v5 (.int .i64 v) (.ptr (H.length + 1) 0) (.int .i64 0)) (hadd (Pi.hset H c (rst z b q a w)) [.cells [.int .i64 0, .slice false true 0 [], .slice false true 0 [], .slice false true 0 []], .cells [.int .i64 2, .slice false true 0 [], .slice false true 0 [], .slice false true 0 []]])) = some (.ok (encC ⟨2, [], [], []⟩) (Pi.hset H c (rst z b q a w))) := h3
          dsimp only at hm
          refine ⟨?_, hw⟩
          simp (contextual := true) (dsimp := false) (disch := omega) only [↓goDown, goUp, List.length_cons, List.length_nil, List.map_cons, List.map_nil, List.take_succ_cons, List.take_zero, List.drop_succ_cons, List.drop_zero, List.drop_nil, List.take_nil, List.cons_append, List.nil_append, List.append_nil, List.set_cons_zero, List.set_cons_succ, List.all_cons, List.all_nil, ↓reduceIte, reduceCtorEq, ge_iff_le, gt_iff_lt, eq_self_iff_true, beq_self_eq_true, beq_iff_eq, bne_iff_ne, ne_eq, ite_not, Int.reduceEq, Option.getD_some, Option.getD_none, ite_self, Nat.reduceAdd, Nat.reduceSub, Nat.reduceMul, Nat.reduceLeDiff, Nat.reduceEqDiff, Nat.reduceBEq, Nat.reduceBNe, Int.reduceLT, Int.reduceLE, Int.reduceAdd, Int.reduceSub, Int.reduceMul, Int.reduceNeg, Int.reduceNe, Int.reduceBEq, Int.reduceBNe, Int.reduceToNat, hl, e1, e2, hH', hs', hst, hm, h3]
      · have e2 : ((x : Int) = 95) = False := eq_false (by omega)
        rw [if_neg h3, if_neg h3]
        by_cases h4 : x = 94
        · have e3 : ((x : Int) = 94) = True := eq_true (by omega)
          rw [if_pos h4, if_pos h4]
          have hk := rfieldX (hH2 (p + 1) 0 0 [.cells [.int .i64 0, .slice false true 0 [], .slice false true 0 [], .slice false true 0 []]]) hb (show p + 1 ≤ b.length by omega)
          cases hr : rField b (p + 1) with
          | ok v q =>
            rw [hr] at hk
            simp only [outX, so1, rsArray] at hk ⊢
            simp (contextual := true) (dsimp := false) (disch := omega) only [↓goDown, goUp, List.length_cons, List.length_nil, List.map_cons, List.map_nil, List.take_succ_cons, List.take_zero, List.drop_succ_cons, List.drop_zero, List.drop_nil, List.take_nil, List.cons_append, List.nil_append, List.append_nil, List.set_cons_zero, List.set_cons_succ, List.all_cons, List.all_nil, ↓reduceIte, reduceCtorEq, ge_iff_le, gt_iff_lt, eq_self_iff_true, beq_self_eq_true, beq_iff_eq, bne_iff_ne, ne_eq, ite_not, Int.reduceEq, Option.getD_some, Option.getD_none, ite_self, Nat.reduceAdd, Nat.reduceSub, Nat.reduceMul, Nat.reduceLeDiff, Nat.reduceEqDiff, Nat.reduceBEq, Nat.reduceBNe, Int.reduceLT, Int.reduceLE, Int.reduceAdd, Int.reduceSub, Int.reduceMul, Int.reduceNeg, Int.reduceNe, Int.reduceBEq, Int.reduceBNe, Int.reduceToNat, hl, e1, e2, e3, hH', hs', hst, hk, bs_F, bsR_F, stripC_F, cells_F1]
            rfl
          | err a w =>
            rw [hr] at hk
            obtain ⟨hk, hw⟩ := hk
            simp only [so1] at hk
            generalize eField b (p + 1) = ev at hk ⊢
            obtain ⟨v, q⟩ := ev
            refine ⟨?_, hw⟩
            dsimp only at hk
            simp (contextual := true) (dsimp := false) (disch := omega) only [↓goDown, goUp, List.length_cons, List.length_nil, List.map_cons, List.map_nil, List.take_succ_cons, List.take_zero, List.drop_succ_cons, List.drop_zero, List.drop_nil, List.take_nil, List.cons_append, List.nil_append, List.append_nil, List.set_cons_zero, List.set_cons_succ, List.all_cons, List.all_nil, ↓reduceIte, reduceCtorEq, ge_iff_le, gt_iff_lt, eq_self_iff_true, beq_self_eq_true, beq_iff_eq, bne_iff_ne, ne_eq, ite_not, Int.reduceEq, Option.getD_some, Option.getD_none, ite_self, Nat.reduceAdd, Nat.reduceSub, Nat.reduceMul, Nat.reduceLeDiff, Nat.reduceEqDiff, Nat.reduceBEq, Nat.reduceBNe, Int.reduceLT, Int.reduceLE, Int.reduceAdd, Int.reduceSub, Int.reduceMul, Int.reduceNeg, Int.reduceNe, Int.reduceBEq, Int.reduceBNe, Int.reduceToNat, hl, e1, e2, e3, hH', hs', hst, hk, bs_F, bsR_F, stripC_F, cells_F1]
            rfl
        · have e3 : ((x : Int) = 94) = False := eq_false (by omega)
          rw [if_neg h4, if_neg h4]
          have f4 : ∀ L, run (C k_ratchetref08_reading_fail [.ptr c 0, .int .i64 p, .int .i64 4]) (hadd (Pi.hset H c (rst z b (p + 1) 0 0)) L) = some (.ok (.tup []) (hadd (Pi.hset H c (rst z b (p + 1) p 4)) L)) := fun L => by
            have := rfail_is (a := p) (w := 4) (hH2 (p + 1) 0 0 L)
            rwa [so1] at this
          refine ⟨?_, by omega⟩
          simp (contextual := true) (dsimp := false) (disch := omega) only [↓goDown, goUp, List.length_cons, List.length_nil, List.map_cons, List.map_nil, List.take_succ_cons, List.take_zero, List.drop_succ_cons, List.drop_zero, List.drop_nil, List.take_nil, List.cons_append, List.nil_append, List.append_nil, List.set_cons_zero, List.set_cons_succ, List.all_cons, List.all_nil, ↓reduceIte, reduceCtorEq, ge_iff_le, gt_iff_lt, eq_self_iff_true, beq_self_eq_true, beq_iff_eq, bne_iff_ne, ne_eq, ite_not, Int.reduceEq, Option.getD_some, Option.getD_none, ite_self, Nat.reduceAdd, Nat.reduceSub, Nat.reduceMul, Nat.reduceLeDiff, Nat.reduceEqDiff, Nat.reduceBEq, Nat.reduceBNe, Int.reduceLT, Int.reduceLE, Int.reduceAdd, Int.reduceSub, Int.reduceMul, Int.reduceNeg, Int.reduceNe, Int.reduceBEq, Int.reduceBNe, Int.reduceToNat, hl, e1, e2, e3, hH', hs', hst, f4]
          rfl
  · rw [if_neg h1, if_neg h1]
    have hl := fun L => peek_no (hH1 L) h1
    have f3 : ∀ L, run (C k_ratchetref08_reading_fail [.ptr c 0, .int .i64 b.length, .int .i64 3]) (hadd H L) = some (.ok (.tup []) (hadd (Pi.hset H c (rst z b p b.length 3)) L)) := fun L => by
      have := rfail_is (a := b.length) (w := 3) (hH1 L)
      rwa [so] at this
    refine ⟨?_, by omega⟩
    simp (contextual := true) (dsimp := false) (disch := omega) only [↓goDown, goUp, List.length_cons, List.length_nil, List.map_cons, List.map_nil, List.take_succ_cons, List.take_zero, List.drop_succ_cons, List.drop_zero, List.drop_nil, List.take_nil, List.cons_append, List.nil_append, List.append_nil, List.set_cons_zero, List.set_cons_succ, List.all_cons, List.all_nil, ↓reduceIte, reduceCtorEq, ge_iff_le, gt_iff_lt, eq_self_iff_true, beq_self_eq_true, beq_iff_eq, bne_iff_ne, ne_eq, ite_not, Int.reduceEq, Option.getD_some, Option.getD_none, ite_self, Nat.reduceAdd, Nat.reduceSub, Nat.reduceMul, Nat.reduceLeDiff, Nat.reduceEqDiff, Nat.reduceBEq, Nat.reduceBNe, Int.reduceLT, Int.reduceLE, Int.reduceAdd, Int.reduceSub, Int.reduceMul, Int.reduceNeg, Int.reduceNe, Int.reduceBEq, Int.reduceBNe, Int.reduceToNat, hl, hH', f3, List.length_map, un_not]
    rfl
end Go.Proofs.Ytofbbijagbpicaa.Pi.Q
/- The reference's reader of types. -/
namespace Go.Proofs.Ytofbbijagbpicaa.Pi.Q
open Go Go.Proofs.Ytofbbijagbpicaa.Pi
set_option linter.unusedVariables false
set_option linter.unusedSimpArgs false
set_option maxRecDepth 100000
attribute [local congr] ite_congr
def eIndex (b : List UInt8) (p : Nat) : Int × Nat := match rU32 b p with | .ok n q => (0, q) | .err a w => (0, p)
theorem rindexX {H : Heap} {b : List UInt8} {z : Bool} {c p : Nat} (hH : hget H c = some (rst z b p 0 0)) (hb : b.length < 2 ^ 61) (hp : p ≤ b.length) :
    outX z b c H encI (run (C k_ratchetref08_reading_typeAt [.ptr c 0]) H) (eIndex b p) (rIndex b p) := by
  have hid := get_lt hH
  have hset := set_self hH
  have hH' : hget H c = some (.cells [BS z b, .int .i64 p, .int .i64 0, .int .i64 0]) := hH
  have hs' : Pi.hset H c (.cells [BS z b, .int .i64 p, .int .i64 0, .int .i64 0]) = H := hset
  rw [ratchetref08_reading_typeAt_eq]
  unfold rIndex eIndex
  cases hr : rU32 b p with
  | ok n q =>
    have hn := rU32_le hr
    have h1 := numberU_ok hH hb hp hr
    have hH2 : hget (Pi.hset H c (rst z b q 0 0)) c = some (rst z b q 0 0) := get_set hid
    have hH3 : hget (Pi.hset H c (rst z b q 0 0)) c = some (.cells [BS z b, .int .i64 q, .int .i64 0, .int .i64 0]) := hH2
    have f2 : run (C k_ratchetref08_reading_fail [.ptr c 0, .int .i64 p, .int .i64 2]) (Pi.hset H c (rst z b q 0 0)) = some (.ok (.tup []) (Pi.hset H c (rst z b q p 2))) := by
      have := rfail_is (a := p) (w := 2) hH2
      rwa [set_set] at this
    dsimp only
    by_cases h2 : 2147483647 < n
    · have c1 : (2147483648 : Int) ≤ n := by omega
      rw [if_pos h2]
      refine ⟨?_, by omega⟩
      simp (contextual := true) (dsimp := false) (disch := omega) only [↓goDown, goUp, List.length_cons, List.length_nil, List.map_cons, List.map_nil, List.take_succ_cons, List.take_zero, List.drop_succ_cons, List.drop_zero, List.drop_nil, List.take_nil, List.cons_append, List.nil_append, List.append_nil, List.set_cons_zero, List.set_cons_succ, List.all_cons, List.all_nil, ↓reduceIte, reduceCtorEq, ge_iff_le, gt_iff_lt, eq_self_iff_true, beq_self_eq_true, beq_iff_eq, bne_iff_ne, ne_eq, ite_not, Int.reduceEq, Option.getD_some, Option.getD_none, ite_self, Nat.reduceAdd, Nat.reduceSub, Nat.reduceMul, Nat.reduceLeDiff, Nat.reduceEqDiff, Nat.reduceBEq, Nat.reduceBNe, Int.reduceLT, Int.reduceLE, Int.reduceAdd, Int.reduceSub, Int.reduceMul, Int.reduceNeg, Int.reduceNe, Int.reduceBEq, Int.reduceBNe, Int.reduceToNat, hH', hs', h1, hH3, c1, f2]
    · have c1 : ¬ (2147483648 : Int) ≤ n := by omega
      rw [if_neg h2]
      show _ = some _
      simp (contextual := true) (dsimp := false) (disch := omega) only [↓goDown, goUp, List.length_cons, List.length_nil, List.map_cons, List.map_nil, List.take_succ_cons, List.take_zero, List.drop_succ_cons, List.drop_zero, List.drop_nil, List.take_nil, List.cons_append, List.nil_append, List.append_nil, List.set_cons_zero, List.set_cons_succ, List.all_cons, List.all_nil, ↓reduceIte, reduceCtorEq, ge_iff_le, gt_iff_lt, eq_self_iff_true, beq_self_eq_true, beq_iff_eq, bne_iff_ne, ne_eq, ite_not, Int.reduceEq, Option.getD_some, Option.getD_none, ite_self, Nat.reduceAdd, Nat.reduceSub, Nat.reduceMul, Nat.reduceLeDiff, Nat.reduceEqDiff, Nat.reduceBEq, Nat.reduceBNe, Int.reduceLT, Int.reduceLE, Int.reduceAdd, Int.reduceSub, Int.reduceMul, Int.reduceNeg, Int.reduceNe, Int.reduceBEq, Int.reduceBNe, Int.reduceToNat, hH', hs', h1, hH3, c1]
  | err a w =>
    have h1 := numberU_err hH hb hp hr
    have hw : w ≠ 0 := rdU_err hr
    have c1 : ((w : Int) = 0) = False := eq_false (by omega)
    have hH5 : hget (Pi.hset H c (rst z b p a w)) c = some (.cells [BS z b, .int .i64 p, .int .i64 a, .int .i64 w]) := get_set hid
    have e0 : IntKind.i64.wrap 0 = 0 := rfl
    refine ⟨?_, hw⟩
    simp (contextual := true) (dsimp := false) (disch := omega) only [↓goDown, goUp, List.length_cons, List.length_nil, List.map_cons, List.map_nil, List.take_succ_cons, List.take_zero, List.drop_succ_cons, List.drop_zero, List.drop_nil, List.take_nil, List.cons_append, List.nil_append, List.append_nil, List.set_cons_zero, List.set_cons_succ, List.all_cons, List.all_nil, ↓reduceIte, reduceCtorEq, ge_iff_le, gt_iff_lt, eq_self_iff_true, beq_self_eq_true, beq_iff_eq, bne_iff_ne, ne_eq, ite_not, Int.reduceEq, Option.getD_some, Option.getD_none, ite_self, Nat.reduceAdd, Nat.reduceSub, Nat.reduceMul, Nat.reduceLeDiff, Nat.reduceEqDiff, Nat.reduceBEq, Nat.reduceBNe, Int.reduceLT, Int.reduceLE, Int.reduceAdd, Int.reduceSub, Int.reduceMul, Int.reduceNeg, Int.reduceNe, Int.reduceBEq, Int.reduceBNe, Int.reduceToNat, hH', hs', h1, hH5, c1, e0]
theorem bsR_I {v : Int} {K : Heap} : bsR true none [.int .i64 v] K = some (.ok (.slice true false 1 [.int .i64 v]) K) := nrfl rfl
theorem ap_I {acc : List Int} {v : Int} {K : Heap} (h : acc.length < 1000000) : run (ap true 1 8 (accP 1 (acc.map encI)) (.slice true false 1 [.int .i64 v])) K = some (.ok (accP 1 ((acc ++ [v]).map encI)) K) := by
  have := ap_acc (H := K) (sz := 1) (b := 8) (l := acc.map encI) (v := encI v) (o := true) (by simp; omega)
  rw [this]
  simp
def rSubR (b : List UInt8) (f : Bool) (acc : List Int) : Rs (List Int) → Rs ST
  | .ok s q => rsSub f (acc ++ s) (rComp b q)
  | .err a w => .err a w
def eSubR (b : List UInt8) (f : Bool) (acc : List Int) (x : List Int × Nat) : Rs (List Int) → ST × Nat
  | .ok s q => (⟨f, acc ++ s, (eComp b q).1⟩, (eComp b q).2)
  | .err a w => (⟨f, acc ++ x.1, ⟨0, [], [], []⟩⟩, x.2)
theorem supers_stop {H : Heap} {b : List UInt8} {z : Bool} {c q a w : Nat} (hid : c < H.length) (hw : w ≠ 0) {n i : Nat} {acc : List Int} {f : Bool} :
    truncR H (run (p_ratchetref08_reading_sub_111111010 (.ptr c 0) (.ptr H.length 0) (.ptr (H.length + 1) 0) (.int .i64 n) (.int .i64 i)) (hadd (Pi.hset H c (rst z b q a w)) [.cells [.bool false, .slice false true 0 [], .int .i64 0, .slice false true 0 [], .slice false true 0 [], .slice false true 0 []], .cells [.bool f, accP 1 (acc.map encI), .int .i64 0, .slice false true 0 [], .slice false true 0 [], .slice false true 0 []]])) =
      some (.ok (encS ⟨f, acc, ⟨0, [], [], []⟩⟩) (Pi.hset H c (rst z b q a w))) := by
  have h3 : hget (Pi.hset H c (rst z b q a w)) c = some (.cells [BS z b, .int .i64 q, .int .i64 a, .int .i64 w]) := get_set hid
  have hH2 : ∀ L, hget (hadd (Pi.hset H c (rst z b q a w)) L) c = some (rst z b q a w) := fun L => by rw [get_old1 hid, get_set hid]
  have hk := fun L => comp_st (hH2 L) hw
  have c1 : ((w : Int) = 0) = False := eq_false (by omega)
  rw [p_ratchetref08_reading_sub_111111010_eq]
  by_cases h : (i : Int) < n
  · simp (contextual := true) (dsimp := false) (disch := omega) only [↓goDown, goUp, List.length_cons, List.length_nil, List.map_cons, List.map_nil, List.take_succ_cons, List.take_zero, List.drop_succ_cons, List.drop_zero, List.drop_nil, List.take_nil, List.cons_append, List.nil_append, List.append_nil, List.set_cons_zero, List.set_cons_succ, List.all_cons, List.all_nil, ↓reduceIte, reduceCtorEq, ge_iff_le, gt_iff_lt, eq_self_iff_true, beq_self_eq_true, beq_iff_eq, bne_iff_ne, ne_eq, ite_not, Int.reduceEq, Option.getD_some, Option.getD_none, ite_self, Nat.reduceAdd, Nat.reduceSub, Nat.reduceMul, Nat.reduceLeDiff, Nat.reduceEqDiff, Nat.reduceBEq, Nat.reduceBNe, Int.reduceLT, Int.reduceLE, Int.reduceAdd, Int.reduceSub, Int.reduceMul, Int.reduceNeg, Int.reduceNe, Int.reduceBEq, Int.reduceBNe, Int.reduceToNat, h, h3, c1, hk, cells_acc, stripC_acc, isCell_acc, low_acc, isTup_acc, cells_P, isCell_P, low_P, stripC_P, isTup_P]
    rfl
  · simp (contextual := true) (dsimp := false) (disch := omega) only [↓goDown, goUp, List.length_cons, List.length_nil, List.map_cons, List.map_nil, List.take_succ_cons, List.take_zero, List.drop_succ_cons, List.drop_zero, List.drop_nil, List.take_nil, List.cons_append, List.nil_append, List.append_nil, List.set_cons_zero, List.set_cons_succ, List.all_cons, List.all_nil, ↓reduceIte, reduceCtorEq, ge_iff_le, gt_iff_lt, eq_self_iff_true, beq_self_eq_true, beq_iff_eq, bne_iff_ne, ne_eq, ite_not, Int.reduceEq, Option.getD_some, Option.getD_none, ite_self, Nat.reduceAdd, Nat.reduceSub, Nat.reduceMul, Nat.reduceLeDiff, Nat.reduceEqDiff, Nat.reduceBEq, Nat.reduceBNe, Int.reduceLT, Int.reduceLE, Int.reduceAdd, Int.reduceSub, Int.reduceMul, Int.reduceNeg, Int.reduceNe, Int.reduceBEq, Int.reduceBNe, Int.reduceToNat, h, h3, c1, hk, cells_acc, stripC_acc, isCell_acc, low_acc, isTup_acc, cells_P, isCell_P, low_P, stripC_P, isTup_P]
    rfl
theorem supers_loop {b : List UInt8} {z : Bool} (hb : b.length < 2 ^ 61) {c : Nat} {f : Bool} {H : Heap} (hid : c < H.length) : ∀ (m i n p : Nat) (acc : List Int), p ≤ b.length → n = i + m → acc.length = i → n ≤ 100000 →
    outX z b c H encS (truncR H (run (p_ratchetref08_reading_sub_111111010 (.ptr c 0) (.ptr H.length 0) (.ptr (H.length + 1) 0) (.int .i64 n) (.int .i64 i)) (hadd (Pi.hset H c (rst z b p 0 0)) [.cells [.bool false, .slice false true 0 [], .int .i64 0, .slice false true 0 [], .slice false true 0 [], .slice false true 0 []], .cells [.bool f, accP 1 (acc.map encI), .int .i64 0, .slice false true 0 [], .slice false true 0 [], .slice false true 0 []]])))
      (eSubR b f acc (eRep (rIndex b) (eIndex b) m p) (rRep (rIndex b) m p)) (rSubR b f acc (rRep (rIndex b) m p))
  | 0, i, n, p, acc, hp, hn, ha, hm => by
    have c1 : ¬ (i : Int) < n := by omega
    have hH2 : ∀ L, hget (hadd (Pi.hset H c (rst z b p 0 0)) L) c = some (rst z b p 0 0) := fun L => by rw [get_old1 hid, get_set hid]
    have so1 : ∀ u a w u' a' w' L, Pi.hset (hadd (Pi.hset H c (rst z b u' a' w')) L) c (rst z b u a w) = hadd (Pi.hset H c (rst z b u a w)) L := fun u a w u' a' w' L => by rw [set_old1 hid, set_set]
    have hk := fun L => rcompX (hH2 L) hb hp
    unfold rRep
    simp only [rSubR, eSubR, List.append_nil]
    rw [p_ratchetref08_reading_sub_111111010_eq]
    cases hr : rComp b p with
    | ok v q =>
      rw [hr] at hk
      simp only [outX, so1, rsSub] at hk ⊢
      simp (contextual := true) (dsimp := false) (disch := omega) only [↓goDown, goUp, List.length_cons, List.length_nil, List.map_cons, List.map_nil, List.take_succ_cons, List.take_zero, List.drop_succ_cons, List.drop_zero, List.drop_nil, List.take_nil, List.cons_append, List.nil_append, List.append_nil, List.set_cons_zero, List.set_cons_succ, List.all_cons, List.all_nil, ↓reduceIte, reduceCtorEq, ge_iff_le, gt_iff_lt, eq_self_iff_true, beq_self_eq_true, beq_iff_eq, bne_iff_ne, ne_eq, ite_not, Int.reduceEq, Option.getD_some, Option.getD_none, ite_self, Nat.reduceAdd, Nat.reduceSub, Nat.reduceMul, Nat.reduceLeDiff, Nat.reduceEqDiff, Nat.reduceBEq, Nat.reduceBNe, Int.reduceLT, Int.reduceLE, Int.reduceAdd, Int.reduceSub, Int.reduceMul, Int.reduceNeg, Int.reduceNe, Int.reduceBEq, Int.reduceBNe, Int.reduceToNat, c1, hk, cells_acc, stripC_acc, isCell_acc, low_acc, isTup_acc, cells_P, isCell_P, low_P, stripC_P, isTup_P, cells_C, csC]
      rfl
    | err a w =>
      rw [hr] at hk
      have hw := (hk []).2
      have hk := fun L => (hk L).1
      simp only [so1] at hk
      generalize eComp b p = ev at hk ⊢
      obtain ⟨v, q⟩ := ev
      dsimp only at hk
      refine ⟨?_, hw⟩
      simp (contextual := true) (dsimp := false) (disch := omega) only [↓goDown, goUp, List.length_cons, List.length_nil, List.map_cons, List.map_nil, List.take_succ_cons, List.take_zero, List.drop_succ_cons, List.drop_zero, List.drop_nil, List.take_nil, List.cons_append, List.nil_append, List.append_nil, List.set_cons_zero, List.set_cons_succ, List.all_cons, List.all_nil, ↓reduceIte, reduceCtorEq, ge_iff_le, gt_iff_lt, eq_self_iff_true, beq_self_eq_true, beq_iff_eq, bne_iff_ne, ne_eq, ite_not, Int.reduceEq, Option.getD_some, Option.getD_none, ite_self, Nat.reduceAdd, Nat.reduceSub, Nat.reduceMul, Nat.reduceLeDiff, Nat.reduceEqDiff, Nat.reduceBEq, Nat.reduceBNe, Int.reduceLT, Int.reduceLE, Int.reduceAdd, Int.reduceSub, Int.reduceMul, Int.reduceNeg, Int.reduceNe, Int.reduceBEq, Int.reduceBNe, Int.reduceToNat, c1, hk, cells_acc, stripC_acc, isCell_acc, low_acc, isTup_acc, cells_P, isCell_P, low_P, stripC_P, isTup_P, cells_C, csC]
      rfl
  | m + 1, i, n, p, acc, hp, hn, ha, hm => by
    have c1 : (i : Int) < n := by omega
    have h3 : hget (Pi.hset H c (rst z b p 0 0)) c = some (.cells [BS z b, .int .i64 p, .int .i64 0, .int .i64 0]) := get_set hid
    have hH2 : ∀ L, hget (hadd (Pi.hset H c (rst z b p 0 0)) L) c = some (rst z b p 0 0) := fun L => by rw [get_old1 hid, get_set hid]
    have so1 : ∀ u a w u' a' w' L, Pi.hset (hadd (Pi.hset H c (rst z b u' a' w')) L) c (rst z b u a w) = hadd (Pi.hset H c (rst z b u a w)) L := fun u a w u' a' w' L => by rw [set_old1 hid, set_set]
    have hk := fun L => rindexX (hH2 L) hb hp
    have hap := fun v K => ap_I (acc := acc) (v := v) (K := K) (by omega)
    have e2 : (i : Int) + 1 = ((i + 1 : Nat) : Int) := rfl
    unfold rRep eRep
    rw [p_ratchetref08_reading_sub_111111010_eq]
    cases hr : rIndex b p with
    | ok v q =>
      rw [hr] at hk
      simp only [outX, so1] at hk
      dsimp only
      have ih := supers_loop (z := z) hb (f := f) hid m (i + 1) n q (acc ++ [v]) (rIndex_le hr) (by omega) (by simp [ha]) hm
      have e3 : rSubR b f (acc ++ [v]) (rRep (rIndex b) m q) = rSubR b f acc (rsCons v (rRep (rIndex b) m q)) := by
        cases rRep (rIndex b) m q <;> simp [rSubR, rsCons]
      have e4 : eSubR b f (acc ++ [v]) (eRep (rIndex b) (eIndex b) m q) (rRep (rIndex b) m q) = eSubR b f acc (v :: (eRep (rIndex b) (eIndex b) m q).1, (eRep (rIndex b) (eIndex b) m q).2) (rsCons v (rRep (rIndex b) m q)) := by
        cases rRep (rIndex b) m q <;> simp [eSubR, rsCons]
      rw [e3, e4] at ih
      refine Eq.mp (congrArg (fun r => outX z b c H encS r _ _) ?_) ih
      symm
      simp (contextual := true) (dsimp := false) (disch := omega) only [↓goDown, goUp, List.length_cons, List.length_nil, List.map_cons, List.map_nil, List.take_succ_cons, List.take_zero, List.drop_succ_cons, List.drop_zero, List.drop_nil, List.take_nil, List.cons_append, List.nil_append, List.append_nil, List.set_cons_zero, List.set_cons_succ, List.all_cons, List.all_nil, ↓reduceIte, reduceCtorEq, ge_iff_le, gt_iff_lt, eq_self_iff_true, beq_self_eq_true, beq_iff_eq, bne_iff_ne, ne_eq, ite_not, Int.reduceEq, Option.getD_some, Option.getD_none, ite_self, Nat.reduceAdd, Nat.reduceSub, Nat.reduceMul, Nat.reduceLeDiff, Nat.reduceEqDiff, Nat.reduceBEq, Nat.reduceBNe, Int.reduceLT, Int.reduceLE, Int.reduceAdd, Int.reduceSub, Int.reduceMul, Int.reduceNeg, Int.reduceNe, Int.reduceBEq, Int.reduceBNe, Int.reduceToNat, c1, h3, hk, bs_I, bsR_I, hap, e2, cells_acc, stripC_acc, isCell_acc, low_acc, isTup_acc, cells_P, isCell_P, low_P, stripC_P, isTup_P]
    | err a w =>
      rw [hr] at hk
      have hw := (hk []).2
      have hk := fun L => (hk L).1
      simp only [so1] at hk
      dsimp only
      generalize eIndex b p = ev at hk ⊢
      obtain ⟨v, q⟩ := ev
      dsimp only at hk ⊢
      have hst := supers_stop (n := n) (i := i + 1) (acc := acc ++ [v]) (z := z) (b := b) (q := q) (a := a) (f := f) hid hw
      refine ⟨?_, hw⟩
      simp (contextual := true) (dsimp := false) (disch := omega) only [↓goDown, goUp, List.length_cons, List.length_nil, List.map_cons, List.map_nil, List.take_succ_cons, List.take_zero, List.drop_succ_cons, List.drop_zero, List.drop_nil, List.take_nil, List.cons_append, List.nil_append, List.append_nil, List.set_cons_zero, List.set_cons_succ, List.all_cons, List.all_nil, ↓reduceIte, reduceCtorEq, ge_iff_le, gt_iff_lt, eq_self_iff_true, beq_self_eq_true, beq_iff_eq, bne_iff_ne, ne_eq, ite_not, Int.reduceEq, Option.getD_some, Option.getD_none, ite_self, Nat.reduceAdd, Nat.reduceSub, Nat.reduceMul, Nat.reduceLeDiff, Nat.reduceEqDiff, Nat.reduceBEq, Nat.reduceBNe, Int.reduceLT, Int.reduceLE, Int.reduceAdd, Int.reduceSub, Int.reduceMul, Int.reduceNeg, Int.reduceNe, Int.reduceBEq, Int.reduceBNe, Int.reduceToNat, c1, h3, hk, bs_I, bsR_I, hap, e2, hst, cells_acc, stripC_acc, isCell_acc, low_acc, isTup_acc, cells_P, isCell_P, low_P, stripC_P, isTup_P]
      try rfl
def eSubs (b : List UInt8) (f : Bool) (p : Nat) : ST × Nat :=
  match rMany b 1000 p with
  | .ok n q => eSubR b f [] (eRep (rIndex b) (eIndex b) n q) (rRep (rIndex b) n q)
  | .err _ _ => (⟨f, [], ⟨0, [], [], []⟩⟩, (eMany b p).2)
theorem rSubs_many {b : List UInt8} {f : Bool} {p : Nat} : rSubs b f p = match rMany b 1000 p with | .ok n q => rSubR b f [] (rRep (rIndex b) n q) | .err a w => .err a w := by
  unfold rSubs rSupers
  rw [rList_many]
  cases rMany b 1000 p with
  | ok n q => dsimp only; cases rRep (rIndex b) n q <;> rfl
  | err a w => rfl
def eSub (b : List UInt8) (p : Nat) : ST × Nat :=
  if p < b.length then
    if (b.getD p 0).toNat = 80 then eSubs b false (p + 1)
    else if (b.getD p 0).toNat = 79 then eSubs b true (p + 1)
    else (⟨true, [], (eComp b p).1⟩, (eComp b p).2)
  else (⟨true, [], ⟨0, [], [], []⟩⟩, p)
theorem rsubX {H : Heap} {b : List UInt8} {z : Bool} {c p : Nat} (hH : hget H c = some (rst z b p 0 0)) (hb : b.length < 2 ^ 61) (hp : p ≤ b.length) :
    outX z b c H encS (run (C k_ratchetref08_reading_sub [.ptr c 0]) H) (eSub b p) (rSub b p) := by
  have hid := get_lt hH
  have hset := set_self hH
  have hH1 : ∀ L, hget (hadd H L) c = some (rst z b p 0 0) := fun L => by rw [get_old hid]; exact hH
  have hH' : hget H c = some (.cells [BS z b, .int .i64 p, .int .i64 0, .int .i64 0]) := hH
  have so : ∀ u a w L, Pi.hset (hadd H L) c (rst z b u a w) = hadd (Pi.hset H c (rst z b u a w)) L := fun u a w L => by rw [set_old hid]
  have so1 : ∀ u a w u' a' w' L, Pi.hset (hadd (Pi.hset H c (rst z b u' a' w')) L) c (rst z b u a w) = hadd (Pi.hset H c (rst z b u a w)) L := fun u a w u' a' w' L => by rw [set_old1 hid, set_set]
  have hH2 : ∀ u a w L, hget (hadd (Pi.hset H c (rst z b u a w)) L) c = some (rst z b u a w) := fun u a w L => by rw [get_old1 hid, get_set hid]
  have hcx := rcompX (hH1 [.cells [.bool false, .slice false true 0 [], .int .i64 0, .slice false true 0 [], .slice false true 0 [], .slice false true 0 []]]) hb hp
  rw [ratchetref08_reading_sub_eq]
  unfold rSub eSub
  by_cases h1 : p < b.length
  · have hl := fun L => peek_ok (hH1 L) hb h1
    have hc := byt_lt (b.getD p 0)
    rw [if_pos h1, if_pos h1]
    generalize (b.getD p 0).toNat = x at hl hc ⊢
    by_cases h2 : x = 80
    · have e1 : ((x : Int) = 80) = True := eq_true (by omega)
      have e2 : ((x : Int) = 79) = False := eq_false (by omega)
      have e3 : ((x : Int) == 79) = false := beq_false_of_ne (by omega)
      rw [if_pos h2, if_pos h2]
      have hst : Pi.hset H c (.cells [BS z b, .int .i64 ((p : Int) + 1), .int .i64 0, .int .i64 0]) = Pi.hset H c (rst z b (p + 1) 0 0) := rfl
      have hm := rmanyX (most := 1000) (by omega) (hH2 (p + 1) 0 0 [.cells [.bool false, .slice false true 0 [], .int .i64 0, .slice false true 0 [], .slice false true 0 [], .slice false true 0 []], .cells [.bool false, .slice false true 0 [], .int .i64 0, .slice false true 0 [], .slice false true 0 [], .slice false true 0 []]]) hb (show p + 1 ≤ b.length by omega)
      have hm : outX z b c (hadd (Pi.hset H c (rst z b (p + 1) 0 0)) [.cells [.bool false, .slice false true 0 [], .int .i64 0, .slice false true 0 [], .slice false true 0 [], .slice false true 0 []], .cells [.bool false, .slice false true 0 [], .int .i64 0, .slice false true 0 [], .slice false true 0 [], .slice false true 0 []]]) (fun n : Nat => .int .i64 n) (run (C k_ratchetref08_reading_many [.ptr c 0, .int .i64 1000]) (hadd (Pi.hset H c (rst z b (p + 1) 0 0)) [.cells [.bool false, .slice false true 0 [], .int .i64 0, .slice false true 0 [], .slice false true 0 [], .slice false true 0 []], .cells [.bool false, .slice false true 0 [], .int .i64 0, .slice false true 0 [], .slice false true 0 [], .slice false true 0 []]])) (eMany b (p + 1)) (rMany b 1000 (p + 1)) := hm
      rw [rSubs_many]
      unfold eSubs
      cases hr : rMany b 1000 (p + 1) with
      | ok n q =>
        have hn := rMany_le hr
        rw [hr] at hm
        simp only [outX, so1] at hm
        dsimp only
        have h3 := supers_loop (z := z) hb (f := false) hid n 0 n q [] hn.2 (by omega) rfl (by omega)
        have h3 : outX z b c H encS (truncR H (run (p_ratchetref08_reading_sub_111111010 (.ptr c 0) (.ptr H.length 0) (.ptr (H.length + 1) 0) (.int .i64 n) (.int .i64 0)) (hadd (Pi.hset H c (rst z b q 0 0)) [.cells [.bool false, .slice false true 0 [], .int .i64 0, .slice false true 0 [], .slice false true 0 [], .slice false true 0 []], .cells [.bool false, .slice false true 0 [], .int .i64 0, .slice false true 0 [], .slice false true 0 [], .slice false true 0 []]])))
          (eSubR b false [] (eRep (rIndex b) (eIndex b) n q) (rRep (rIndex b) n q)) (rSubR b false [] (rRep (rIndex b) n q)) := h3
        refine Eq.mp (congrArg (fun r => outX z b c H encS r _ _) ?_) h3
        symm
        simp (contextual := true) (dsimp := false) (disch := omega) only [↓goDown, goUp, List.length_cons, List.length_nil, List.map_cons, List.map_nil, List.take_succ_cons, List.take_zero, List.drop_succ_cons, List.drop_zero, List.drop_nil, List.take_nil, List.cons_append, List.nil_append, List.append_nil, List.set_cons_zero, List.set_cons_succ, List.all_cons, List.all_nil, ↓reduceIte, reduceCtorEq, ge_iff_le, gt_iff_lt, eq_self_iff_true, beq_self_eq_true, beq_iff_eq, bne_iff_ne, ne_eq, ite_not, Int.reduceEq, Option.getD_some, Option.getD_none, ite_self, Nat.reduceAdd, Nat.reduceSub, Nat.reduceMul, Nat.reduceLeDiff, Nat.reduceEqDiff, Nat.reduceBEq, Nat.reduceBNe, Int.reduceLT, Int.reduceLE, Int.reduceAdd, Int.reduceSub, Int.reduceMul, Int.reduceNeg, Int.reduceNe, Int.reduceBEq, Int.reduceBNe, Int.reduceToNat, hl, e1, e2, e3, hH', hst, hm]
      | err a w =>
        rw [hr] at hm
        obtain ⟨hm, hw⟩ := hm
        simp only [so1] at hm
        dsimp only
        generalize eMany b (p + 1) = em at hm ⊢
        obtain ⟨v, q⟩ := em
        have h3 := supers_stop (n := v) (i := 0) (acc := []) (z := z) (b := b) (q := q) (a := a) (f := false) hid hw
        have h3 : truncR H (run (p_ratchetref08_reading_sub_111111010 (.ptr c 0) (.ptr H.length 0) (.ptr (H.length + 1) 0) (.int .i64 v) (.int .i64 0)) (hadd (Pi.hset H c (rst z b q a w)) [.cells [.bool false, .slice false true 0 [], .int .i64 0, .slice false true 0 [], .slice false true 0 [], .slice false true 0 []], .cells [.bool false, .slice false true 0 [], .int .i64 0, .slice false true 0 [], .slice false true 0 [], .slice false true 0 []]])) = some (.ok (encS ⟨false, [], ⟨0, [], [], []⟩⟩) (Pi.hset H c (rst z b q a w))) := h3
        dsimp only at hm
        refine ⟨?_, hw⟩
        simp (contextual := true) (dsimp := false) (disch := omega) only [↓goDown, goUp, List.length_cons, List.length_nil, List.map_cons, List.map_nil, List.take_succ_cons, List.take_zero, List.drop_succ_cons, List.drop_zero, List.drop_nil, List.take_nil, List.cons_append, List.nil_append, List.append_nil, List.set_cons_zero, List.set_cons_succ, List.all_cons, List.all_nil, ↓reduceIte, reduceCtorEq, ge_iff_le, gt_iff_lt, eq_self_iff_true, beq_self_eq_true, beq_iff_eq, bne_iff_ne, ne_eq, ite_not, Int.reduceEq, Option.getD_some, Option.getD_none, ite_self, Nat.reduceAdd, Nat.reduceSub, Nat.reduceMul, Nat.reduceLeDiff, Nat.reduceEqDiff, Nat.reduceBEq, Nat.reduceBNe, Int.reduceLT, Int.reduceLE, Int.reduceAdd, Int.reduceSub, Int.reduceMul, Int.reduceNeg, Int.reduceNe, Int.reduceBEq, Int.reduceBNe, Int.reduceToNat, hl, e1, e2, e3, hH', hst, hm, h3]
    · rw [if_neg h2, if_neg h2]
      have e1 : ((x : Int) = 80) = False := eq_false (by omega)
      by_cases h3 : x = 79
      · have e2 : ((x : Int) = 79) = True := eq_true (by omega)
        have e3 : ((x : Int) == 79) = true := by simpa using e2
        rw [if_pos h3, if_pos h3]
        have hst : Pi.hset H c (.cells [BS z b, .int .i64 ((p : Int) + 1), .int .i64 0, .int .i64 0]) = Pi.hset H c (rst z b (p + 1) 0 0) := rfl
        have hm := rmanyX (most := 1000) (by omega) (hH2 (p + 1) 0 0 [.cells [.bool false, .slice false true 0 [], .int .i64 0, .slice false true 0 [], .slice false true 0 [], .slice false true 0 []], .cells [.bool true, .slice false true 0 [], .int .i64 0, .slice false true 0 [], .slice false true 0 [], .slice false true 0 []]]) hb (show p + 1 ≤ b.length by omega)
        have hm : outX z b c (hadd (Pi.hset H c (rst z b (p + 1) 0 0)) [.cells [.bool false, .slice false true 0 [], .int .i64 0, .slice false true 0 [], .slice false true 0 [], .slice false true 0 []], .cells [.bool true, .slice false true 0 [], .int .i64 0, .slice false true 0 [], .slice false true 0 [], .slice false true 0 []]]) (fun n : Nat => .int .i64 n) (run (C k_ratchetref08_reading_many [.ptr c 0, .int .i64 1000]) (hadd (Pi.hset H c (rst z b (p + 1) 0 0)) [.cells [.bool false, .slice false true 0 [], .int .i64 0, .slice false true 0 [], .slice false true 0 [], .slice false true 0 []], .cells [.bool true, .slice false true 0 [], .int .i64 0, .slice false true 0 [], .slice false true 0 [], .slice false true 0 []]])) (eMany b (p + 1)) (rMany b 1000 (p + 1)) := hm
        rw [rSubs_many]
        unfold eSubs
        cases hr : rMany b 1000 (p + 1) with
        | ok n q =>
          have hn := rMany_le hr
          rw [hr] at hm
          simp only [outX, so1] at hm
          dsimp only
          have h5 := supers_loop (z := z) hb (f := true) hid n 0 n q [] hn.2 (by omega) rfl (by omega)
          have h5 : outX z b c H encS (truncR H (run (p_ratchetref08_reading_sub_111111010 (.ptr c 0) (.ptr H.length 0) (.ptr (H.length + 1) 0) (.int .i64 n) (.int .i64 0)) (hadd (Pi.hset H c (rst z b q 0 0)) [.cells [.bool false, .slice false true 0 [], .int .i64 0, .slice false true 0 [], .slice false true 0 [], .slice false true 0 []], .cells [.bool true, .slice false true 0 [], .int .i64 0, .slice false true 0 [], .slice false true 0 [], .slice false true 0 []]])))
            (eSubR b true [] (eRep (rIndex b) (eIndex b) n q) (rRep (rIndex b) n q)) (rSubR b true [] (rRep (rIndex b) n q)) := h5
          refine Eq.mp (congrArg (fun r => outX z b c H encS r _ _) ?_) h5
          symm
          simp (contextual := true) (dsimp := false) (disch := omega) only [↓goDown, goUp, List.length_cons, List.length_nil, List.map_cons, List.map_nil, List.take_succ_cons, List.take_zero, List.drop_succ_cons, List.drop_zero, List.drop_nil, List.take_nil, List.cons_append, List.nil_append, List.append_nil, List.set_cons_zero, List.set_cons_succ, List.all_cons, List.all_nil, ↓reduceIte, reduceCtorEq, ge_iff_le, gt_iff_lt, eq_self_iff_true, beq_self_eq_true, beq_iff_eq, bne_iff_ne, ne_eq, ite_not, Int.reduceEq, Option.getD_some, Option.getD_none, ite_self, Nat.reduceAdd, Nat.reduceSub, Nat.reduceMul, Nat.reduceLeDiff, Nat.reduceEqDiff, Nat.reduceBEq, Nat.reduceBNe, Int.reduceLT, Int.reduceLE, Int.reduceAdd, Int.reduceSub, Int.reduceMul, Int.reduceNeg, Int.reduceNe, Int.reduceBEq, Int.reduceBNe, Int.reduceToNat, hl, e1, e2, e3, hH', hst, hm]
        | err a w =>
          rw [hr] at hm
          obtain ⟨hm, hw⟩ := hm
          simp only [so1] at hm
          dsimp only
          generalize eMany b (p + 1) = em at hm ⊢
          obtain ⟨v, q⟩ := em
          have h5 := supers_stop (n := v) (i := 0) (acc := []) (z := z) (b := b) (q := q) (a := a) (f := true) hid hw
          have h5 : truncR H (run (p_ratchetref08_reading_sub_111111010 (.ptr c 0) (.ptr H.length 0) (.ptr (H.length + 1) 0) (.int .i64 v) (.int .i64 0)) (hadd (Pi.hset H c (rst z b q a w)) [.cells [.bool false, .slice false true 0 [], .int .i64 0, .slice false true 0 [], .slice false true 0 [], .slice false true 0 []], .cells [.bool true, .slice false true 0 [], .int .i64 0, .slice false true 0 [], .slice false true 0 [], .slice false true 0 []]])) = some (.ok (encS ⟨true, [], ⟨0, [], [], []⟩⟩) (Pi.hset H c (rst z b q a w))) := h5
          dsimp only at hm
          refine ⟨?_, hw⟩
          simp (contextual := true) (dsimp := false) (disch := omega) only [↓goDown, goUp, List.length_cons, List.length_nil, List.map_cons, List.map_nil, List.take_succ_cons, List.take_zero, List.drop_succ_cons, List.drop_zero, List.drop_nil, List.take_nil, List.cons_append, List.nil_append, List.append_nil, List.set_cons_zero, List.set_cons_succ, List.all_cons, List.all_nil, ↓reduceIte, reduceCtorEq, ge_iff_le, gt_iff_lt, eq_self_iff_true, beq_self_eq_true, beq_iff_eq, bne_iff_ne, ne_eq, ite_not, Int.reduceEq, Option.getD_some, Option.getD_none, ite_self, Nat.reduceAdd, Nat.reduceSub, Nat.reduceMul, Nat.reduceLeDiff, Nat.reduceEqDiff, Nat.reduceBEq, Nat.reduceBNe, Int.reduceLT, Int.reduceLE, Int.reduceAdd, Int.reduceSub, Int.reduceMul, Int.reduceNeg, Int.reduceNe, Int.reduceBEq, Int.reduceBNe, Int.reduceToNat, hl, e1, e2, e3, hH', hst, hm, h5]
      · have e2 : ((x : Int) = 79) = False := eq_false (by omega)
        rw [if_neg h3, if_neg h3]
        cases hr : rComp b p with
        | ok v q =>
          rw [hr] at hcx
          simp only [outX, so, rsSub] at hcx ⊢
          simp (contextual := true) (dsimp := false) (disch := omega) only [↓goDown, goUp, List.length_cons, List.length_nil, List.map_cons, List.map_nil, List.take_succ_cons, List.take_zero, List.drop_succ_cons, List.drop_zero, List.drop_nil, List.take_nil, List.cons_append, List.nil_append, List.append_nil, List.set_cons_zero, List.set_cons_succ, List.all_cons, List.all_nil, ↓reduceIte, reduceCtorEq, ge_iff_le, gt_iff_lt, eq_self_iff_true, beq_self_eq_true, beq_iff_eq, bne_iff_ne, ne_eq, ite_not, Int.reduceEq, Option.getD_some, Option.getD_none, ite_self, Nat.reduceAdd, Nat.reduceSub, Nat.reduceMul, Nat.reduceLeDiff, Nat.reduceEqDiff, Nat.reduceBEq, Nat.reduceBNe, Int.reduceLT, Int.reduceLE, Int.reduceAdd, Int.reduceSub, Int.reduceMul, Int.reduceNeg, Int.reduceNe, Int.reduceBEq, Int.reduceBNe, Int.reduceToNat, hl, e1, e2, hH', hcx, cells_C, csC, cells_P, isCell_P, low_P, stripC_P, isTup_P]
          rfl
        | err a w =>
          rw [hr] at hcx
          obtain ⟨hcx, hw⟩ := hcx
          simp only [so] at hcx
          generalize eComp b p = ev at hcx ⊢
          obtain ⟨v, q⟩ := ev
          dsimp only at hcx
          refine ⟨?_, hw⟩
          simp (contextual := true) (dsimp := false) (disch := omega) only [↓goDown, goUp, List.length_cons, List.length_nil, List.map_cons, List.map_nil, List.take_succ_cons, List.take_zero, List.drop_succ_cons, List.drop_zero, List.drop_nil, List.take_nil, List.cons_append, List.nil_append, List.append_nil, List.set_cons_zero, List.set_cons_succ, List.all_cons, List.all_nil, ↓reduceIte, reduceCtorEq, ge_iff_le, gt_iff_lt, eq_self_iff_true, beq_self_eq_true, beq_iff_eq, bne_iff_ne, ne_eq, ite_not, Int.reduceEq, Option.getD_some, Option.getD_none, ite_self, Nat.reduceAdd, Nat.reduceSub, Nat.reduceMul, Nat.reduceLeDiff, Nat.reduceEqDiff, Nat.reduceBEq, Nat.reduceBNe, Int.reduceLT, Int.reduceLE, Int.reduceAdd, Int.reduceSub, Int.reduceMul, Int.reduceNeg, Int.reduceNe, Int.reduceBEq, Int.reduceBNe, Int.reduceToNat, hl, e1, e2, hH', hcx, cells_C, csC, cells_P, isCell_P, low_P, stripC_P, isTup_P]
          rfl
  · rw [if_neg h1, if_neg h1]
    have hl := fun L => peek_no (hH1 L) h1
    unfold rComp eComp at hcx
    rw [if_neg h1, if_neg h1] at hcx
    obtain ⟨hcx, hw⟩ := hcx
    simp only [so] at hcx
    refine ⟨?_, hw⟩
    simp (contextual := true) (dsimp := false) (disch := omega) only [↓goDown, goUp, List.length_cons, List.length_nil, List.map_cons, List.map_nil, List.take_succ_cons, List.take_zero, List.drop_succ_cons, List.drop_zero, List.drop_nil, List.take_nil, List.cons_append, List.nil_append, List.append_nil, List.set_cons_zero, List.set_cons_succ, List.all_cons, List.all_nil, ↓reduceIte, reduceCtorEq, ge_iff_le, gt_iff_lt, eq_self_iff_true, beq_self_eq_true, beq_iff_eq, bne_iff_ne, ne_eq, ite_not, Int.reduceEq, Option.getD_some, Option.getD_none, ite_self, Nat.reduceAdd, Nat.reduceSub, Nat.reduceMul, Nat.reduceLeDiff, Nat.reduceEqDiff, Nat.reduceBEq, Nat.reduceBNe, Int.reduceLT, Int.reduceLE, Int.reduceAdd, Int.reduceSub, Int.reduceMul, Int.reduceNeg, Int.reduceNe, Int.reduceBEq, Int.reduceBNe, Int.reduceToNat, hl, hH', hcx, un_not, cells_C, csC, List.map_nil, shutP_nil]
    rfl
end Go.Proofs.Ytofbbijagbpicaa.Pi.Q
/- The reference's reader of groups. -/
namespace Go.Proofs.Ytofbbijagbpicaa.Pi.Q
open Go Go.Proofs.Ytofbbijagbpicaa.Pi
set_option linter.unusedVariables false
set_option linter.unusedSimpArgs false
set_option maxRecDepth 100000
attribute [local congr] ite_congr
theorem ap_S {acc : List ST} {v : ST} {K : Heap} (h : acc.length < 1000000) : run (ap true 6 112 (accP 6 (acc.map encS)) (.slice true false 6 [encS v])) K = some (.ok (accP 6 ((acc ++ [v]).map encS)) K) := by
  have := ap_acc (H := K) (sz := 6) (b := 112) (l := acc.map encS) (v := encS v) (o := true) (by simp; omega)
  rw [this]
  simp
theorem types_stop {H : Heap} {b : List UInt8} {z : Bool} {c q a w : Nat} (hid : c < H.length) (hw : w ≠ 0) {n i : Nat} {acc : List ST} :
    truncR H (run (p_ratchetref08_reading_rec_111111010 (.ptr c 0) (.ptr H.length 0) (.ptr (H.length + 1) 0) (.int .i64 n) (.int .i64 i)) (hadd (Pi.hset H c (rst z b q a w)) [.cells [.slice false true 0 [], .bool false], .cells [accP 6 (acc.map encS), .bool true]])) =
      some (.ok (encR ⟨acc, true⟩) (Pi.hset H c (rst z b q a w))) := by
  have h3 : hget (Pi.hset H c (rst z b q a w)) c = some (.cells [BS z b, .int .i64 q, .int .i64 a, .int .i64 w]) := get_set hid
  have c1 : ((w : Int) = 0) = False := eq_false (by omega)
  rw [p_ratchetref08_reading_rec_111111010_eq]
  by_cases h : (i : Int) < n
  · simp (contextual := true) (dsimp := false) (disch := omega) only [↓goDown, goUp, List.length_cons, List.length_nil, List.map_cons, List.map_nil, List.take_succ_cons, List.take_zero, List.drop_succ_cons, List.drop_zero, List.drop_nil, List.take_nil, List.cons_append, List.nil_append, List.append_nil, List.set_cons_zero, List.set_cons_succ, List.all_cons, List.all_nil, ↓reduceIte, reduceCtorEq, ge_iff_le, gt_iff_lt, eq_self_iff_true, beq_self_eq_true, beq_iff_eq, bne_iff_ne, ne_eq, ite_not, Int.reduceEq, Option.getD_some, Option.getD_none, ite_self, Nat.reduceAdd, Nat.reduceSub, Nat.reduceMul, Nat.reduceLeDiff, Nat.reduceEqDiff, Nat.reduceBEq, Nat.reduceBNe, Int.reduceLT, Int.reduceLE, Int.reduceAdd, Int.reduceSub, Int.reduceMul, Int.reduceNeg, Int.reduceNe, Int.reduceBEq, Int.reduceBNe, Int.reduceToNat, h, h3, c1, cells_acc, stripC_acc, isCell_acc, low_acc, isTup_acc, cells_P, isCell_P, low_P, stripC_P, isTup_P]
    rfl
  · simp (contextual := true) (dsimp := false) (disch := omega) only [↓goDown, goUp, List.length_cons, List.length_nil, List.map_cons, List.map_nil, List.take_succ_cons, List.take_zero, List.drop_succ_cons, List.drop_zero, List.drop_nil, List.take_nil, List.cons_append, List.nil_append, List.append_nil, List.set_cons_zero, List.set_cons_succ, List.all_cons, List.all_nil, ↓reduceIte, reduceCtorEq, ge_iff_le, gt_iff_lt, eq_self_iff_true, beq_self_eq_true, beq_iff_eq, bne_iff_ne, ne_eq, ite_not, Int.reduceEq, Option.getD_some, Option.getD_none, ite_self, Nat.reduceAdd, Nat.reduceSub, Nat.reduceMul, Nat.reduceLeDiff, Nat.reduceEqDiff, Nat.reduceBEq, Nat.reduceBNe, Int.reduceLT, Int.reduceLE, Int.reduceAdd, Int.reduceSub, Int.reduceMul, Int.reduceNeg, Int.reduceNe, Int.reduceBEq, Int.reduceBNe, Int.reduceToNat, h, h3, c1, cells_acc, stripC_acc, isCell_acc, low_acc, isTup_acc, cells_P, isCell_P, low_P, stripC_P, isTup_P]
    rfl
theorem types_loop' {b : List UInt8} {z : Bool} (hb : b.length < 2 ^ 61) {c : Nat} {H : Heap} (hid : c < H.length) : ∀ (m i n p : Nat) (acc : List ST), p ≤ b.length → n = i + m → acc.length = i → n ≤ 100000 →
    outX z b c H (fun fs => encR ⟨acc ++ fs, true⟩) (truncR H (run (p_ratchetref08_reading_rec_111111010 (.ptr c 0) (.ptr H.length 0) (.ptr (H.length + 1) 0) (.int .i64 n) (.int .i64 i)) (hadd (Pi.hset H c (rst z b p 0 0)) [.cells [.slice false true 0 [], .bool false], .cells [accP 6 (acc.map encS), .bool true]])))
      (eRep (rSub b) (eSub b) m p) (rRep (rSub b) m p)
  | 0, i, n, p, acc, hp, hn, ha, hm => by
    have c1 : ¬ (i : Int) < n := by omega
    unfold rRep eRep
    simp only [outX, List.append_nil]
    rw [p_ratchetref08_reading_rec_111111010_eq]
    simp (contextual := true) (dsimp := false) (disch := omega) only [↓goDown, goUp, List.length_cons, List.length_nil, List.map_cons, List.map_nil, List.take_succ_cons, List.take_zero, List.drop_succ_cons, List.drop_zero, List.drop_nil, List.take_nil, List.cons_append, List.nil_append, List.append_nil, List.set_cons_zero, List.set_cons_succ, List.all_cons, List.all_nil, ↓reduceIte, reduceCtorEq, ge_iff_le, gt_iff_lt, eq_self_iff_true, beq_self_eq_true, beq_iff_eq, bne_iff_ne, ne_eq, ite_not, Int.reduceEq, Option.getD_some, Option.getD_none, ite_self, Nat.reduceAdd, Nat.reduceSub, Nat.reduceMul, Nat.reduceLeDiff, Nat.reduceEqDiff, Nat.reduceBEq, Nat.reduceBNe, Int.reduceLT, Int.reduceLE, Int.reduceAdd, Int.reduceSub, Int.reduceMul, Int.reduceNeg, Int.reduceNe, Int.reduceBEq, Int.reduceBNe, Int.reduceToNat, c1, cells_acc, stripC_acc, isCell_acc, low_acc, isTup_acc, cells_P, isCell_P, low_P, stripC_P, isTup_P]
    rfl
  | m + 1, i, n, p, acc, hp, hn, ha, hm => by
    have c1 : (i : Int) < n := by omega
    have h3 : hget (Pi.hset H c (rst z b p 0 0)) c = some (.cells [BS z b, .int .i64 p, .int .i64 0, .int .i64 0]) := get_set hid
    have hH2 : ∀ L, hget (hadd (Pi.hset H c (rst z b p 0 0)) L) c = some (rst z b p 0 0) := fun L => by rw [get_old1 hid, get_set hid]
    have so1 : ∀ u a w u' a' w' L, Pi.hset (hadd (Pi.hset H c (rst z b u' a' w')) L) c (rst z b u a w) = hadd (Pi.hset H c (rst z b u a w)) L := fun u a w u' a' w' L => by rw [set_old1 hid, set_set]
    have hk := fun L => rsubX (hH2 L) hb hp
    have hap := fun v K => ap_S (acc := acc) (v := v) (K := K) (by omega)
    have e2 : (i : Int) + 1 = ((i + 1 : Nat) : Int) := rfl
    unfold rRep eRep
    rw [p_ratchetref08_reading_rec_111111010_eq]
    cases hr : rSub b p with
    | ok v q =>
      rw [hr] at hk
      simp only [outX, so1] at hk
      dsimp only
      have ih := types_loop' (z := z) hb hid m (i + 1) n q (acc ++ [v]) (rSub_le hr) (by omega) (by simp [ha]) hm
      have hrun : ∀ r, r = truncR H (run (p_ratchetref08_reading_rec_111111010 (.ptr c 0) (.ptr H.length 0) (.ptr (H.length + 1) 0) (.int .i64 n) (.int .i64 (i + 1 : Nat))) (hadd (Pi.hset H c (rst z b q 0 0)) [.cells [.slice false true 0 [], .bool false], .cells [accP 6 ((acc ++ [v]).map encS), .bool true]])) →
          outX z b c H (fun fs => encR ⟨acc ++ fs, true⟩) r (v :: (eRep (rSub b) (eSub b) m q).1, (eRep (rSub b) (eSub b) m q).2) (rsCons v (rRep (rSub b) m q)) := by
        intro r hr0
        rw [← hr0] at ih
        cases hrr : rRep (rSub b) m q with
        | ok l q2 =>
          rw [hrr] at ih
          simp only [outX] at ih
          simp only [rsCons, outX]
          rw [ih]
          simp
        | err a w =>
          rw [hrr] at ih
          obtain ⟨ih, hw⟩ := ih
          refine ⟨?_, hw⟩
          rw [ih]
          simp
      refine hrun _ ?_
      simp (contextual := true) (dsimp := false) (disch := omega) only [↓goDown, goUp, List.length_cons, List.length_nil, List.map_cons, List.map_nil, List.take_succ_cons, List.take_zero, List.drop_succ_cons, List.drop_zero, List.drop_nil, List.take_nil, List.cons_append, List.nil_append, List.append_nil, List.set_cons_zero, List.set_cons_succ, List.all_cons, List.all_nil, ↓reduceIte, reduceCtorEq, ge_iff_le, gt_iff_lt, eq_self_iff_true, beq_self_eq_true, beq_iff_eq, bne_iff_ne, ne_eq, ite_not, Int.reduceEq, Option.getD_some, Option.getD_none, ite_self, Nat.reduceAdd, Nat.reduceSub, Nat.reduceMul, Nat.reduceLeDiff, Nat.reduceEqDiff, Nat.reduceBEq, Nat.reduceBNe, Int.reduceLT, Int.reduceLE, Int.reduceAdd, Int.reduceSub, Int.reduceMul, Int.reduceNeg, Int.reduceNe, Int.reduceBEq, Int.reduceBNe, Int.reduceToNat, c1, h3, hk, bs_S, bsR_S, stripC_Su, hap, e2, cells_acc, stripC_acc, isCell_acc, low_acc, isTup_acc, cells_P, isCell_P, low_P, stripC_P, isTup_P]
    | err a w =>
      rw [hr] at hk
      have hw := (hk []).2
      have hk := fun L => (hk L).1
      simp only [so1] at hk
      dsimp only
      generalize eSub b p = ev at hk ⊢
      obtain ⟨v, q⟩ := ev
      dsimp only at hk ⊢
      have hst := types_stop (n := n) (i := i + 1) (acc := acc ++ [v]) (z := z) (b := b) (q := q) (a := a) hid hw
      refine ⟨?_, hw⟩
      simp (contextual := true) (dsimp := false) (disch := omega) only [↓goDown, goUp, List.length_cons, List.length_nil, List.map_cons, List.map_nil, List.take_succ_cons, List.take_zero, List.drop_succ_cons, List.drop_zero, List.drop_nil, List.take_nil, List.cons_append, List.nil_append, List.append_nil, List.set_cons_zero, List.set_cons_succ, List.all_cons, List.all_nil, ↓reduceIte, reduceCtorEq, ge_iff_le, gt_iff_lt, eq_self_iff_true, beq_self_eq_true, beq_iff_eq, bne_iff_ne, ne_eq, ite_not, Int.reduceEq, Option.getD_some, Option.getD_none, ite_self, Nat.reduceAdd, Nat.reduceSub, Nat.reduceMul, Nat.reduceLeDiff, Nat.reduceEqDiff, Nat.reduceBEq, Nat.reduceBNe, Int.reduceLT, Int.reduceLE, Int.reduceAdd, Int.reduceSub, Int.reduceMul, Int.reduceNeg, Int.reduceNe, Int.reduceBEq, Int.reduceBNe, Int.reduceToNat, c1, h3, hk, bs_S, bsR_S, stripC_Su, hap, e2, hst, cells_acc, stripC_acc, isCell_acc, low_acc, isTup_acc, cells_P, isCell_P, low_P, stripC_P, isTup_P]
      try rfl
theorem cells_S1 {v : ST} : (PV.slice true false 6 [encS v]).cells = [.slice true false 6 [encS v]] := nrfl rfl
theorem rrec_is {H : Heap} {b : List UInt8} {z : Bool} {c p : Nat} (hH : hget H c = some (rst z b p 0 0)) (hb : b.length < 2 ^ 61) (hp : p ≤ b.length) :
    outF z b c H encR (run (C k_ratchetref08_reading_rec [.ptr c 0]) H) (rRec b p) := by
  have hid := get_lt hH
  have hset := set_self hH
  have hH1 : ∀ L, hget (hadd H L) c = some (rst z b p 0 0) := fun L => by rw [get_old hid]; exact hH
  have hH' : hget H c = some (.cells [BS z b, .int .i64 p, .int .i64 0, .int .i64 0]) := hH
  have so : ∀ u a w L, Pi.hset (hadd H L) c (rst z b u a w) = hadd (Pi.hset H c (rst z b u a w)) L := fun u a w L => by rw [set_old hid]
  have so1 : ∀ u a w u' a' w' L, Pi.hset (hadd (Pi.hset H c (rst z b u' a' w')) L) c (rst z b u a w) = hadd (Pi.hset H c (rst z b u a w)) L := fun u a w u' a' w' L => by rw [set_old1 hid, set_set]
  have hH2 : ∀ u a w L, hget (hadd (Pi.hset H c (rst z b u a w)) L) c = some (rst z b u a w) := fun u a w L => by rw [get_old1 hid, get_set hid]
  have hst : Pi.hset H c (.cells [BS z b, .int .i64 ((p : Int) + 1), .int .i64 0, .int .i64 0]) = Pi.hset H c (rst z b (p + 1) 0 0) := rfl
  have hcx := rsubX (hH1 [.cells [.slice false true 0 [], .bool false]]) hb hp
  rw [ratchetref08_reading_rec_eq]
  unfold rRec
  by_cases h1 : p < b.length
  · have hl := fun L => peek_ok (hH1 L) hb h1
    have hc := byt_lt (b.getD p 0)
    rw [if_pos h1]
    generalize (b.getD p 0).toNat = x at hl hc ⊢
    by_cases h2 : x = 78
    · have e1 : ((x : Int) = 78) = True := eq_true (by omega)
      rw [if_pos h2]
      have hm := rmanyX (most := 10000) (by omega) (hH2 (p + 1) 0 0 [.cells [.slice false true 0 [], .bool false], .cells [.slice false true 0 [], .bool true]]) hb (show p + 1 ≤ b.length by omega)
      have hm : outX z b c (hadd (Pi.hset H c (rst z b (p + 1) 0 0)) [.cells [.slice false true 0 [], .bool false], .cells [.slice false true 0 [], .bool true]]) (fun n : Nat => .int .i64 n) (run (C k_ratchetref08_reading_many [.ptr c 0, .int .i64 10000]) (hadd (Pi.hset H c (rst z b (p + 1) 0 0)) [.cells [.slice false true 0 [], .bool false], .cells [.slice false true 0 [], .bool true]])) (eMany b (p + 1)) (rMany b 10000 (p + 1)) := hm
      unfold rTypes
      rw [rList_many]
      cases hr : rMany b 10000 (p + 1) with
      | ok n q =>
        have hn := rMany_le hr
        rw [hr] at hm
        simp only [outX, so1] at hm
        dsimp only
        have h3 := types_loop' (z := z) hb hid n 0 n q [] hn.2 (by omega) rfl (by omega)
        have h3 : outX z b c H (fun fs => encR ⟨fs, true⟩) (truncR H (run (p_ratchetref08_reading_rec_111111010 (.ptr c 0) (.ptr H.length 0) (.ptr (H.length + 1) 0) (.int .i64 n) (.int .i64 0)) (hadd (Pi.hset H c (rst z b q 0 0)) [.cells [.slice false true 0 [], .bool false], .cells [.slice false true 0 [], .bool true]]))) (eRep (rSub b) (eSub b) n q) (rRep (rSub b) n q) := h3
        cases hrr : rRep (rSub b) n q with
        | ok fs q2 =>
          simp only [hrr, outX, rsExp] at h3 ⊢
          show _ = some _
          simp (contextual := true) (dsimp := false) (disch := omega) only [↓goDown, goUp, List.length_cons, List.length_nil, List.map_cons, List.map_nil, List.take_succ_cons, List.take_zero, List.drop_succ_cons, List.drop_zero, List.drop_nil, List.take_nil, List.cons_append, List.nil_append, List.append_nil, List.set_cons_zero, List.set_cons_succ, List.all_cons, List.all_nil, ↓reduceIte, reduceCtorEq, ge_iff_le, gt_iff_lt, eq_self_iff_true, beq_self_eq_true, beq_iff_eq, bne_iff_ne, ne_eq, ite_not, Int.reduceEq, Option.getD_some, Option.getD_none, ite_self, Nat.reduceAdd, Nat.reduceSub, Nat.reduceMul, Nat.reduceLeDiff, Nat.reduceEqDiff, Nat.reduceBEq, Nat.reduceBNe, Int.reduceLT, Int.reduceLE, Int.reduceAdd, Int.reduceSub, Int.reduceMul, Int.reduceNeg, Int.reduceNe, Int.reduceBEq, Int.reduceBNe, Int.reduceToNat, hl, e1, hH', hst, hm, h3]
        | err a w =>
          rw [hrr] at h3
          obtain ⟨h3, hw⟩ := h3
          refine ⟨⟨(eRep (rSub b) (eSub b) n q).1, true⟩, (eRep (rSub b) (eSub b) n q).2, ?_, hw⟩
          simp (contextual := true) (dsimp := false) (disch := omega) only [↓goDown, goUp, List.length_cons, List.length_nil, List.map_cons, List.map_nil, List.take_succ_cons, List.take_zero, List.drop_succ_cons, List.drop_zero, List.drop_nil, List.take_nil, List.cons_append, List.nil_append, List.append_nil, List.set_cons_zero, List.set_cons_succ, List.all_cons, List.all_nil, ↓reduceIte, reduceCtorEq, ge_iff_le, gt_iff_lt, eq_self_iff_true, beq_self_eq_true, beq_iff_eq, bne_iff_ne, ne_eq, ite_not, Int.reduceEq, Option.getD_some, Option.getD_none, ite_self, Nat.reduceAdd, Nat.reduceSub, Nat.reduceMul, Nat.reduceLeDiff, Nat.reduceEqDiff, Nat.reduceBEq, Nat.reduceBNe, Int.reduceLT, Int.reduceLE, Int.reduceAdd, Int.reduceSub, Int.reduceMul, Int.reduceNeg, Int.reduceNe, Int.reduceBEq, Int.reduceBNe, Int.reduceToNat, hl, e1, hH', hst, hm, h3]
      | err a w =>
        rw [hr] at hm
        obtain ⟨hm, hw⟩ := hm
        simp only [so1] at hm
        dsimp only
        generalize eMany b (p + 1) = em at hm ⊢
        obtain ⟨v, q⟩ := em
        have h3 := types_stop (n := v) (i := 0) (acc := []) (z := z) (b := b) (q := q) (a := a) hid hw
        have h3 : truncR H (run (p_ratchetref08_reading_rec_111111010 (.ptr c 0) (.ptr H.length 0) (.ptr (H.length + 1) 0) (.int .i64 v) (.int .i64 0)) (hadd (Pi.hset H c (rst z b q a w)) [.cells [.slice false true 0 [], .bool false], .cells [.slice false true 0 [], .bool true]])) = some (.ok (encR ⟨[], true⟩) (Pi.hset H c (rst z b q a w))) := h3
        dsimp only at hm
        refine ⟨⟨[], true⟩, q, ?_, hw⟩
        simp (contextual := true) (dsimp := false) (disch := omega) only [↓goDown, goUp, List.length_cons, List.length_nil, List.map_cons, List.map_nil, List.take_succ_cons, List.take_zero, List.drop_succ_cons, List.drop_zero, List.drop_nil, List.take_nil, List.cons_append, List.nil_append, List.append_nil, List.set_cons_zero, List.set_cons_succ, List.all_cons, List.all_nil, ↓reduceIte, reduceCtorEq, ge_iff_le, gt_iff_lt, eq_self_iff_true, beq_self_eq_true, beq_iff_eq, bne_iff_ne, ne_eq, ite_not, Int.reduceEq, Option.getD_some, Option.getD_none, ite_self, Nat.reduceAdd, Nat.reduceSub, Nat.reduceMul, Nat.reduceLeDiff, Nat.reduceEqDiff, Nat.reduceBEq, Nat.reduceBNe, Int.reduceLT, Int.reduceLE, Int.reduceAdd, Int.reduceSub, Int.reduceMul, Int.reduceNeg, Int.reduceNe, Int.reduceBEq, Int.reduceBNe, Int.reduceToNat, hl, e1, hH', hst, hm, h3]
    · have e1 : ((x : Int) = 78) = False := eq_false (by omega)
      rw [if_neg h2]
      cases hr : rSub b p with
      | ok v q =>
        rw [hr] at hcx
        simp only [outX, so, rsOne] at hcx ⊢
        show _ = some _
        simp (contextual := true) (dsimp := false) (disch := omega) only [↓goDown, goUp, List.length_cons, List.length_nil, List.map_cons, List.map_nil, List.take_succ_cons, List.take_zero, List.drop_succ_cons, List.drop_zero, List.drop_nil, List.take_nil, List.cons_append, List.nil_append, List.append_nil, List.set_cons_zero, List.set_cons_succ, List.all_cons, List.all_nil, ↓reduceIte, reduceCtorEq, ge_iff_le, gt_iff_lt, eq_self_iff_true, beq_self_eq_true, beq_iff_eq, bne_iff_ne, ne_eq, ite_not, Int.reduceEq, Option.getD_some, Option.getD_none, ite_self, Nat.reduceAdd, Nat.reduceSub, Nat.reduceMul, Nat.reduceLeDiff, Nat.reduceEqDiff, Nat.reduceBEq, Nat.reduceBNe, Int.reduceLT, Int.reduceLE, Int.reduceAdd, Int.reduceSub, Int.reduceMul, Int.reduceNeg, Int.reduceNe, Int.reduceBEq, Int.reduceBNe, Int.reduceToNat, hl, e1, hH', hcx, bs_S, bsR_S, stripC_Su, cells_S1]
        rfl
      | err a w =>
        rw [hr] at hcx
        obtain ⟨hcx, hw⟩ := hcx
        simp only [so] at hcx
        generalize eSub b p = ev at hcx ⊢
        obtain ⟨v, q⟩ := ev
        dsimp only at hcx
        refine ⟨⟨[v], false⟩, q, ?_, hw⟩
        simp (contextual := true) (dsimp := false) (disch := omega) only [↓goDown, goUp, List.length_cons, List.length_nil, List.map_cons, List.map_nil, List.take_succ_cons, List.take_zero, List.drop_succ_cons, List.drop_zero, List.drop_nil, List.take_nil, List.cons_append, List.nil_append, List.append_nil, List.set_cons_zero, List.set_cons_succ, List.all_cons, List.all_nil, ↓reduceIte, reduceCtorEq, ge_iff_le, gt_iff_lt, eq_self_iff_true, beq_self_eq_true, beq_iff_eq, bne_iff_ne, ne_eq, ite_not, Int.reduceEq, Option.getD_some, Option.getD_none, ite_self, Nat.reduceAdd, Nat.reduceSub, Nat.reduceMul, Nat.reduceLeDiff, Nat.reduceEqDiff, Nat.reduceBEq, Nat.reduceBNe, Int.reduceLT, Int.reduceLE, Int.reduceAdd, Int.reduceSub, Int.reduceMul, Int.reduceNeg, Int.reduceNe, Int.reduceBEq, Int.reduceBNe, Int.reduceToNat, hl, e1, hH', hcx, bs_S, bsR_S, stripC_Su, cells_S1]
        rfl
  · rw [if_neg h1]
    have hl := fun L => peek_no (hH1 L) h1
    unfold rSub eSub at hcx
    rw [if_neg h1, if_neg h1] at hcx
    obtain ⟨hcx, hw⟩ := hcx
    simp only [so] at hcx
    refine ⟨⟨[⟨true, [], ⟨0, [], [], []⟩⟩], false⟩, p, ?_, hw⟩
    simp (contextual := true) (dsimp := false) (disch := omega) only [↓goDown, goUp, List.length_cons, List.length_nil, List.map_cons, List.map_nil, List.take_succ_cons, List.take_zero, List.drop_succ_cons, List.drop_zero, List.drop_nil, List.take_nil, List.cons_append, List.nil_append, List.append_nil, List.set_cons_zero, List.set_cons_succ, List.all_cons, List.all_nil, ↓reduceIte, reduceCtorEq, ge_iff_le, gt_iff_lt, eq_self_iff_true, beq_self_eq_true, beq_iff_eq, bne_iff_ne, ne_eq, ite_not, Int.reduceEq, Option.getD_some, Option.getD_none, ite_self, Nat.reduceAdd, Nat.reduceSub, Nat.reduceMul, Nat.reduceLeDiff, Nat.reduceEqDiff, Nat.reduceBEq, Nat.reduceBNe, Int.reduceLT, Int.reduceLE, Int.reduceAdd, Int.reduceSub, Int.reduceMul, Int.reduceNeg, Int.reduceNe, Int.reduceBEq, Int.reduceBNe, Int.reduceToNat, hl, hH', hcx, un_not, bs_S, bsR_S, stripC_Su, cells_S1]
    rfl
end Go.Proofs.Ytofbbijagbpicaa.Pi.Q
/- Program and reference at a place: fields, composite types, types, groups. (Written by tool/genat.py.) -/
namespace Go.Proofs.Ytofbbijagbpicaa.Pi.Q
open Go Go.Proofs.Ytofbbijagbpicaa.Pi
set_option linter.unusedVariables false
set_option linter.unusedSimpArgs false
set_option maxRecDepth 100000
attribute [local congr] ite_congr
theorem outX_F {z : Bool} {b : List UInt8} {c : Nat} {H : Heap} {α : Type} {enc : α → PV} {r : Option (Out PV)} {x : α × Nat} {R : Rs α} (h : outX z b c H enc r x R) : outF z b c H enc r R := by
  cases R with
  | ok v p => exact h
  | err a w => exact ⟨x.1, x.2, h.1, h.2⟩
theorem rcomp_is {H : Heap} {b : List UInt8} {z : Bool} {c p : Nat} (hH : hget H c = some (rst z b p 0 0)) (hb : b.length < 2 ^ 61) (hp : p ≤ b.length) :
    outF z b c H encC (run (C k_ratchetref08_reading_comp [.ptr c 0]) H) (rComp b p) := outX_F (rcompX hH hb hp)
theorem rsub_is {H : Heap} {b : List UInt8} {z : Bool} {c p : Nat} (hH : hget H c = some (rst z b p 0 0)) (hb : b.length < 2 ^ 61) (hp : p ≤ b.length) :
    outF z b c H encS (run (C k_ratchetref08_reading_sub [.ptr c 0]) H) (rSub b p) := outX_F (rsubX hH hb hp)
theorem ref_Field {H : Heap} {b : List UInt8} {z : Bool} (hb : b.length < 2 ^ 61) {at_ : Int} :
    run (C k_ratchetref08_Field [BS z b, .int .i64 at_]) H = some (.ok (atPl at_ b (encF zF) (outR encF (encF zF) (rField b at_.toNat))) H) := by
  rw [ratchetref08_Field_eq]
  unfold atPl
  have hbg := begin_is (H := hadd H [.cells [.int .i64 0, .bool false, .int .i64 0, .bool false]]) (z := z) (b := b) (at_ := at_)
  simp only [len_add, add_add, List.length_cons, List.length_nil, List.cons_append, List.nil_append, Nat.zero_add] at hbg
  by_cases h1 : at_ < 0 ∨ (b.length : Int) < at_
  · have e : decide (¬ (at_ < 0 ∨ (b.length : Int) < at_)) = false := decide_eq_false (fun h => h h1)
    rw [e] at hbg
    rw [if_pos h1]
    simp (contextual := true) (dsimp := false) (disch := omega) only [↓goDown, goUp, List.length_cons, List.length_nil, List.map_cons, List.map_nil, List.take_succ_cons, List.take_zero, List.drop_succ_cons, List.drop_zero, List.drop_nil, List.take_nil, List.cons_append, List.nil_append, List.append_nil, List.set_cons_zero, List.set_cons_succ, List.all_cons, List.all_nil, ↓reduceIte, reduceCtorEq, ge_iff_le, gt_iff_lt, eq_self_iff_true, beq_self_eq_true, beq_iff_eq, bne_iff_ne, ne_eq, ite_not, Int.reduceEq, Option.getD_some, Option.getD_none, ite_self, Nat.reduceAdd, Nat.reduceSub, Nat.reduceMul, Nat.reduceLeDiff, Nat.reduceEqDiff, Nat.reduceBEq, Nat.reduceBNe, Int.reduceLT, Int.reduceLE, Int.reduceAdd, Int.reduceSub, Int.reduceMul, Int.reduceNeg, Int.reduceNe, Int.reduceBEq, Int.reduceBNe, Int.reduceToNat, hbg, un_not]
    rfl
  · have e : decide (¬ (at_ < 0 ∨ (b.length : Int) < at_)) = true := decide_eq_true h1
    rw [e] at hbg
    rw [if_neg h1]
    obtain ⟨p, rfl⟩ := Int.eq_ofNat_of_zero_le (show 0 ≤ at_ by omega)
    rw [Int.toNat_natCast]
    have hk := rfield_is (H := hadd H [.cells [.int .i64 0, .bool false, .int .i64 0, .bool false], rst z b p 0 0]) (c := H.length + 1) (z := z) (b := b) (p := p) (by rw [get_loc]; rfl) hb (by omega)
    have hst : ∀ q a w, Pi.hset (hadd H [.cells [.int .i64 0, .bool false, .int .i64 0, .bool false], rst z b p 0 0]) (H.length + 1) (rst z b q a w) = hadd H [.cells [.int .i64 0, .bool false, .int .i64 0, .bool false], rst z b q a w] := fun q a w => by rw [set_loc]; rfl
    have hrI : rstI z b (p : Int) = rst z b p 0 0 := rfl
    rw [hrI] at hbg
    cases hr : rField b p with
    | ok v q =>
      rw [hr] at hk
      simp only [outF, hst] at hk
      have he := fun x => end_ok (H := hadd H [.cells [.int .i64 0, .bool false, .int .i64 0, .bool false], rst z b q 0 0, x]) (c := H.length + 1) (z := z) (b := b) (p := q) (by rw [get_loc]; rfl)
      simp (contextual := true) (dsimp := false) (disch := omega) only [↓goDown, goUp, List.length_cons, List.length_nil, List.map_cons, List.map_nil, List.take_succ_cons, List.take_zero, List.drop_succ_cons, List.drop_zero, List.drop_nil, List.take_nil, List.cons_append, List.nil_append, List.append_nil, List.set_cons_zero, List.set_cons_succ, List.all_cons, List.all_nil, ↓reduceIte, reduceCtorEq, ge_iff_le, gt_iff_lt, eq_self_iff_true, beq_self_eq_true, beq_iff_eq, bne_iff_ne, ne_eq, ite_not, Int.reduceEq, Option.getD_some, Option.getD_none, ite_self, Nat.reduceAdd, Nat.reduceSub, Nat.reduceMul, Nat.reduceLeDiff, Nat.reduceEqDiff, Nat.reduceBEq, Nat.reduceBNe, Int.reduceLT, Int.reduceLE, Int.reduceAdd, Int.reduceSub, Int.reduceMul, Int.reduceNeg, Int.reduceNe, Int.reduceBEq, Int.reduceBNe, Int.reduceToNat, hbg, un_not, hk, he, outR, encF]
    | err a w =>
      rw [hr] at hk
      obtain ⟨v, q, hk, hw⟩ := hk
      rw [hst] at hk
      have he := fun x => end_err (H := hadd H [.cells [.int .i64 0, .bool false, .int .i64 0, .bool false], rst z b q a w, x]) (c := H.length + 1) (z := z) (b := b) (p := q) (by rw [get_loc]; rfl) hw
      have c1 : ¬ (w : Int) = 0 := by omega
      simp (contextual := true) (dsimp := false) (disch := omega) only [↓goDown, goUp, List.length_cons, List.length_nil, List.map_cons, List.map_nil, List.take_succ_cons, List.take_zero, List.drop_succ_cons, List.drop_zero, List.drop_nil, List.take_nil, List.cons_append, List.nil_append, List.append_nil, List.set_cons_zero, List.set_cons_succ, List.all_cons, List.all_nil, ↓reduceIte, reduceCtorEq, ge_iff_le, gt_iff_lt, eq_self_iff_true, beq_self_eq_true, beq_iff_eq, bne_iff_ne, ne_eq, ite_not, Int.reduceEq, Option.getD_some, Option.getD_none, ite_self, Nat.reduceAdd, Nat.reduceSub, Nat.reduceMul, Nat.reduceLeDiff, Nat.reduceEqDiff, Nat.reduceBEq, Nat.reduceBNe, Int.reduceLT, Int.reduceLE, Int.reduceAdd, Int.reduceSub, Int.reduceMul, Int.reduceNeg, Int.reduceNe, Int.reduceBEq, Int.reduceBNe, Int.reduceToNat, hbg, un_not, hk, he, outR, encF, c1]
theorem own_Field {H : Heap} {b : List UInt8} {z : Bool} (hb : b.length < 2 ^ 61) {at_ : Int} :
    run (C k_entry_Field [BS z b, .int .i64 at_]) H = some (.ok (atPl at_ b (encF zF) (outR encF (encF zF) (rField b at_.toNat))) H) := by
  have h := fun L => read_F_is (z := z) hb (one := .fn k_entry_cursor_field [] []) (r := rField b) (fun H c p hH hp => field_is hH hb hp) (H := hadd H L) (at_ := at_)
  rw [entry_Field_eq]
  revert h
  refine atPl_cases (fun t => (∀ L, run (C k_entry_read_api_Field [BS z b, .int .i64 at_, .fn k_entry_cursor_field [] []]) (hadd H L) = some (.ok t (hadd H L))) → _ = some (Out.ok t H)) ?_ ?_ ?_ <;> intros <;> rename_i h <;> unfold encF at h ⊢ <;>
    simp (contextual := true) (dsimp := false) (disch := omega) only [↓goDown, goUp, List.length_cons, List.length_nil, List.map_cons, List.map_nil, List.take_succ_cons, List.take_zero, List.drop_succ_cons, List.drop_zero, List.drop_nil, List.take_nil, List.cons_append, List.nil_append, List.append_nil, List.set_cons_zero, List.set_cons_succ, List.all_cons, List.all_nil, ↓reduceIte, reduceCtorEq, ge_iff_le, gt_iff_lt, eq_self_iff_true, beq_self_eq_true, beq_iff_eq, bne_iff_ne, ne_eq, ite_not, Int.reduceEq, Option.getD_some, Option.getD_none, ite_self, Nat.reduceAdd, Nat.reduceSub, Nat.reduceMul, Nat.reduceLeDiff, Nat.reduceEqDiff, Nat.reduceBEq, Nat.reduceBNe, Int.reduceLT, Int.reduceLE, Int.reduceAdd, Int.reduceSub, Int.reduceMul, Int.reduceNeg, Int.reduceNe, Int.reduceBEq, Int.reduceBNe, Int.reduceToNat, h, encF]
theorem ref_CompType {H : Heap} {b : List UInt8} {z : Bool} (hb : b.length < 2 ^ 61) {at_ : Int} :
    run (C k_ratchetref08_CompType [BS z b, .int .i64 at_]) H = some (.ok (atPl at_ b (encC zC) (outR encC (encC zC) (rComp b at_.toNat))) H) := by
  rw [ratchetref08_CompType_eq]
  unfold atPl
  have hbg := begin_is (H := hadd H [.cells [.int .i64 0, .slice false true 0 [], .slice false true 0 [], .slice false true 0 []]]) (z := z) (b := b) (at_ := at_)
  simp only [len_add, add_add, List.length_cons, List.length_nil, List.cons_append, List.nil_append, Nat.zero_add] at hbg
  by_cases h1 : at_ < 0 ∨ (b.length : Int) < at_
  · have e : decide (¬ (at_ < 0 ∨ (b.length : Int) < at_)) = false := decide_eq_false (fun h => h h1)
    rw [e] at hbg
    rw [if_pos h1]
    simp (contextual := true) (dsimp := false) (disch := omega) only [↓goDown, goUp, List.length_cons, List.length_nil, List.map_cons, List.map_nil, List.take_succ_cons, List.take_zero, List.drop_succ_cons, List.drop_zero, List.drop_nil, List.take_nil, List.cons_append, List.nil_append, List.append_nil, List.set_cons_zero, List.set_cons_succ, List.all_cons, List.all_nil, ↓reduceIte, reduceCtorEq, ge_iff_le, gt_iff_lt, eq_self_iff_true, beq_self_eq_true, beq_iff_eq, bne_iff_ne, ne_eq, ite_not, Int.reduceEq, Option.getD_some, Option.getD_none, ite_self, Nat.reduceAdd, Nat.reduceSub, Nat.reduceMul, Nat.reduceLeDiff, Nat.reduceEqDiff, Nat.reduceBEq, Nat.reduceBNe, Int.reduceLT, Int.reduceLE, Int.reduceAdd, Int.reduceSub, Int.reduceMul, Int.reduceNeg, Int.reduceNe, Int.reduceBEq, Int.reduceBNe, Int.reduceToNat, hbg, un_not]
    rfl
  · have e : decide (¬ (at_ < 0 ∨ (b.length : Int) < at_)) = true := decide_eq_true h1
    rw [e] at hbg
    rw [if_neg h1]
    obtain ⟨p, rfl⟩ := Int.eq_ofNat_of_zero_le (show 0 ≤ at_ by omega)
    rw [Int.toNat_natCast]
    have hk := rcomp_is (H := hadd H [.cells [.int .i64 0, .slice false true 0 [], .slice false true 0 [], .slice false true 0 []], rst z b p 0 0]) (c := H.length + 1) (z := z) (b := b) (p := p) (by rw [get_loc]; rfl) hb (by omega)
    have hst : ∀ q a w, Pi.hset (hadd H [.cells [.int .i64 0, .slice false true 0 [], .slice false true 0 [], .slice false true 0 []], rst z b p 0 0]) (H.length + 1) (rst z b q a w) = hadd H [.cells [.int .i64 0, .slice false true 0 [], .slice false true 0 [], .slice false true 0 []], rst z b q a w] := fun q a w => by rw [set_loc]; rfl
    have hrI : rstI z b (p : Int) = rst z b p 0 0 := rfl
    rw [hrI] at hbg
    cases hr : rComp b p with
    | ok v q =>
      rw [hr] at hk
      simp only [outF, hst] at hk
      have he := fun x => end_ok (H := hadd H [.cells [.int .i64 0, .slice false true 0 [], .slice false true 0 [], .slice false true 0 []], rst z b q 0 0, x]) (c := H.length + 1) (z := z) (b := b) (p := q) (by rw [get_loc]; rfl)
      simp (contextual := true) (dsimp := false) (disch := omega) only [↓goDown, goUp, List.length_cons, List.length_nil, List.map_cons, List.map_nil, List.take_succ_cons, List.take_zero, List.drop_succ_cons, List.drop_zero, List.drop_nil, List.take_nil, List.cons_append, List.nil_append, List.append_nil, List.set_cons_zero, List.set_cons_succ, List.all_cons, List.all_nil, ↓reduceIte, reduceCtorEq, ge_iff_le, gt_iff_lt, eq_self_iff_true, beq_self_eq_true, beq_iff_eq, bne_iff_ne, ne_eq, ite_not, Int.reduceEq, Option.getD_some, Option.getD_none, ite_self, Nat.reduceAdd, Nat.reduceSub, Nat.reduceMul, Nat.reduceLeDiff, Nat.reduceEqDiff, Nat.reduceBEq, Nat.reduceBNe, Int.reduceLT, Int.reduceLE, Int.reduceAdd, Int.reduceSub, Int.reduceMul, Int.reduceNeg, Int.reduceNe, Int.reduceBEq, Int.reduceBNe, Int.reduceToNat, hbg, un_not, hk, he, outR, encC, csC, shutP_nil, List.map_nil, cells_P, isCell_P, low_P, stripC_P, strip_P, isTup_P]
    | err a w =>
      rw [hr] at hk
      obtain ⟨v, q, hk, hw⟩ := hk
      rw [hst] at hk
      have he := fun x => end_err (H := hadd H [.cells [.int .i64 0, .slice false true 0 [], .slice false true 0 [], .slice false true 0 []], rst z b q a w, x]) (c := H.length + 1) (z := z) (b := b) (p := q) (by rw [get_loc]; rfl) hw
      have c1 : ¬ (w : Int) = 0 := by omega
      simp (contextual := true) (dsimp := false) (disch := omega) only [↓goDown, goUp, List.length_cons, List.length_nil, List.map_cons, List.map_nil, List.take_succ_cons, List.take_zero, List.drop_succ_cons, List.drop_zero, List.drop_nil, List.take_nil, List.cons_append, List.nil_append, List.append_nil, List.set_cons_zero, List.set_cons_succ, List.all_cons, List.all_nil, ↓reduceIte, reduceCtorEq, ge_iff_le, gt_iff_lt, eq_self_iff_true, beq_self_eq_true, beq_iff_eq, bne_iff_ne, ne_eq, ite_not, Int.reduceEq, Option.getD_some, Option.getD_none, ite_self, Nat.reduceAdd, Nat.reduceSub, Nat.reduceMul, Nat.reduceLeDiff, Nat.reduceEqDiff, Nat.reduceBEq, Nat.reduceBNe, Int.reduceLT, Int.reduceLE, Int.reduceAdd, Int.reduceSub, Int.reduceMul, Int.reduceNeg, Int.reduceNe, Int.reduceBEq, Int.reduceBNe, Int.reduceToNat, hbg, un_not, hk, he, outR, encC, csC, shutP_nil, List.map_nil, cells_P, isCell_P, low_P, stripC_P, strip_P, isTup_P, c1]
theorem own_CompType {H : Heap} {b : List UInt8} {z : Bool} (hb : b.length < 2 ^ 61) {at_ : Int} :
    run (C k_entry_CompType [BS z b, .int .i64 at_]) H = some (.ok (atPl at_ b (encC zC) (outR encC (encC zC) (rComp b at_.toNat))) H) := by
  have h := fun L => read_C_is (z := z) hb (one := .fn k_entry_cursor_comp [] []) (r := rComp b) (fun H c p hH hp => comp_is hH hb hp) (H := hadd H L) (at_ := at_)
  rw [entry_CompType_eq]
  revert h
  refine atPl_cases (fun t => (∀ L, run (C k_entry_read_api_CompType [BS z b, .int .i64 at_, .fn k_entry_cursor_comp [] []]) (hadd H L) = some (.ok t (hadd H L))) → _ = some (Out.ok t H)) ?_ ?_ ?_ <;> intros <;> rename_i h <;> simp only [encC, csC, shutP_nil, List.map_nil] at h ⊢ <;>
    simp (contextual := true) (dsimp := false) (disch := omega) only [↓goDown, goUp, List.length_cons, List.length_nil, List.map_cons, List.map_nil, List.take_succ_cons, List.take_zero, List.drop_succ_cons, List.drop_zero, List.drop_nil, List.take_nil, List.cons_append, List.nil_append, List.append_nil, List.set_cons_zero, List.set_cons_succ, List.all_cons, List.all_nil, ↓reduceIte, reduceCtorEq, ge_iff_le, gt_iff_lt, eq_self_iff_true, beq_self_eq_true, beq_iff_eq, bne_iff_ne, ne_eq, ite_not, Int.reduceEq, Option.getD_some, Option.getD_none, ite_self, Nat.reduceAdd, Nat.reduceSub, Nat.reduceMul, Nat.reduceLeDiff, Nat.reduceEqDiff, Nat.reduceBEq, Nat.reduceBNe, Int.reduceLT, Int.reduceLE, Int.reduceAdd, Int.reduceSub, Int.reduceMul, Int.reduceNeg, Int.reduceNe, Int.reduceBEq, Int.reduceBNe, Int.reduceToNat, h, encC, csC, shutP_nil, List.map_nil, cells_P, isCell_P, low_P, stripC_P, strip_P, isTup_P]
theorem ref_SubType {H : Heap} {b : List UInt8} {z : Bool} (hb : b.length < 2 ^ 61) {at_ : Int} :
    run (C k_ratchetref08_SubType [BS z b, .int .i64 at_]) H = some (.ok (atPl at_ b (encS zSu) (outR encS (encS zSu) (rSub b at_.toNat))) H) := by
  rw [ratchetref08_SubType_eq]
  unfold atPl
  have hbg := begin_is (H := hadd H [.cells [.bool false, .slice false true 0 [], .int .i64 0, .slice false true 0 [], .slice false true 0 [], .slice false true 0 []]]) (z := z) (b := b) (at_ := at_)
  simp only [len_add, add_add, List.length_cons, List.length_nil, List.cons_append, List.nil_append, Nat.zero_add] at hbg
  by_cases h1 : at_ < 0 ∨ (b.length : Int) < at_
  · have e : decide (¬ (at_ < 0 ∨ (b.length : Int) < at_)) = false := decide_eq_false (fun h => h h1)
    rw [e] at hbg
    rw [if_pos h1]
    simp (contextual := true) (dsimp := false) (disch := omega) only [↓goDown, goUp, List.length_cons, List.length_nil, List.map_cons, List.map_nil, List.take_succ_cons, List.take_zero, List.drop_succ_cons, List.drop_zero, List.drop_nil, List.take_nil, List.cons_append, List.nil_append, List.append_nil, List.set_cons_zero, List.set_cons_succ, List.all_cons, List.all_nil, ↓reduceIte, reduceCtorEq, ge_iff_le, gt_iff_lt, eq_self_iff_true, beq_self_eq_true, beq_iff_eq, bne_iff_ne, ne_eq, ite_not, Int.reduceEq, Option.getD_some, Option.getD_none, ite_self, Nat.reduceAdd, Nat.reduceSub, Nat.reduceMul, Nat.reduceLeDiff, Nat.reduceEqDiff, Nat.reduceBEq, Nat.reduceBNe, Int.reduceLT, Int.reduceLE, Int.reduceAdd, Int.reduceSub, Int.reduceMul, Int.reduceNeg, Int.reduceNe, Int.reduceBEq, Int.reduceBNe, Int.reduceToNat, hbg, un_not]
    rfl
  · have e : decide (¬ (at_ < 0 ∨ (b.length : Int) < at_)) = true := decide_eq_true h1
    rw [e] at hbg
    rw [if_neg h1]
    obtain ⟨p, rfl⟩ := Int.eq_ofNat_of_zero_le (show 0 ≤ at_ by omega)
    rw [Int.toNat_natCast]
    have hk := rsub_is (H := hadd H [.cells [.bool false, .slice false true 0 [], .int .i64 0, .slice false true 0 [], .slice false true 0 [], .slice false true 0 []], rst z b p 0 0]) (c := H.length + 1) (z := z) (b := b) (p := p) (by rw [get_loc]; rfl) hb (by omega)
    have hst : ∀ q a w, Pi.hset (hadd H [.cells [.bool false, .slice false true 0 [], .int .i64 0, .slice false true 0 [], .slice false true 0 [], .slice false true 0 []], rst z b p 0 0]) (H.length + 1) (rst z b q a w) = hadd H [.cells [.bool false, .slice false true 0 [], .int .i64 0, .slice false true 0 [], .slice false true 0 [], .slice false true 0 []], rst z b q a w] := fun q a w => by rw [set_loc]; rfl
    have hrI : rstI z b (p : Int) = rst z b p 0 0 := rfl
    rw [hrI] at hbg
    cases hr : rSub b p with
    | ok v q =>
      rw [hr] at hk
      simp only [outF, hst] at hk
      have he := fun x => end_ok (H := hadd H [.cells [.bool false, .slice false true 0 [], .int .i64 0, .slice false true 0 [], .slice false true 0 [], .slice false true 0 []], rst z b q 0 0, x]) (c := H.length + 1) (z := z) (b := b) (p := q) (by rw [get_loc]; rfl)
      simp (contextual := true) (dsimp := false) (disch := omega) only [↓goDown, goUp, List.length_cons, List.length_nil, List.map_cons, List.map_nil, List.take_succ_cons, List.take_zero, List.drop_succ_cons, List.drop_zero, List.drop_nil, List.take_nil, List.cons_append, List.nil_append, List.append_nil, List.set_cons_zero, List.set_cons_succ, List.all_cons, List.all_nil, ↓reduceIte, reduceCtorEq, ge_iff_le, gt_iff_lt, eq_self_iff_true, beq_self_eq_true, beq_iff_eq, bne_iff_ne, ne_eq, ite_not, Int.reduceEq, Option.getD_some, Option.getD_none, ite_self, Nat.reduceAdd, Nat.reduceSub, Nat.reduceMul, Nat.reduceLeDiff, Nat.reduceEqDiff, Nat.reduceBEq, Nat.reduceBNe, Int.reduceLT, Int.reduceLE, Int.reduceAdd, Int.reduceSub, Int.reduceMul, Int.reduceNeg, Int.reduceNe, Int.reduceBEq, Int.reduceBNe, Int.reduceToNat, hbg, un_not, hk, he, outR, encS, csS, shutP_nil, List.map_nil, cells_P, isCell_P, low_P, stripC_P, strip_P, isTup_P]
    | err a w =>
      rw [hr] at hk
      obtain ⟨v, q, hk, hw⟩ := hk
      rw [hst] at hk
      have he := fun x => end_err (H := hadd H [.cells [.bool false, .slice false true 0 [], .int .i64 0, .slice false true 0 [], .slice false true 0 [], .slice false true 0 []], rst z b q a w, x]) (c := H.length + 1) (z := z) (b := b) (p := q) (by rw [get_loc]; rfl) hw
      have c1 : ¬ (w : Int) = 0 := by omega
      simp (contextual := true) (dsimp := false) (disch := omega) only [↓goDown, goUp, List.length_cons, List.length_nil, List.map_cons, List.map_nil, List.take_succ_cons, List.take_zero, List.drop_succ_cons, List.drop_zero, List.drop_nil, List.take_nil, List.cons_append, List.nil_append, List.append_nil, List.set_cons_zero, List.set_cons_succ, List.all_cons, List.all_nil, ↓reduceIte, reduceCtorEq, ge_iff_le, gt_iff_lt, eq_self_iff_true, beq_self_eq_true, beq_iff_eq, bne_iff_ne, ne_eq, ite_not, Int.reduceEq, Option.getD_some, Option.getD_none, ite_self, Nat.reduceAdd, Nat.reduceSub, Nat.reduceMul, Nat.reduceLeDiff, Nat.reduceEqDiff, Nat.reduceBEq, Nat.reduceBNe, Int.reduceLT, Int.reduceLE, Int.reduceAdd, Int.reduceSub, Int.reduceMul, Int.reduceNeg, Int.reduceNe, Int.reduceBEq, Int.reduceBNe, Int.reduceToNat, hbg, un_not, hk, he, outR, encS, csS, shutP_nil, List.map_nil, cells_P, isCell_P, low_P, stripC_P, strip_P, isTup_P, c1]
theorem own_SubType {H : Heap} {b : List UInt8} {z : Bool} (hb : b.length < 2 ^ 61) {at_ : Int} :
    run (C k_entry_SubType [BS z b, .int .i64 at_]) H = some (.ok (atPl at_ b (encS zSu) (outR encS (encS zSu) (rSub b at_.toNat))) H) := by
  have h := fun L => read_S_is (z := z) hb (one := .fn k_entry_cursor_sub [] []) (r := rSub b) (fun H c p hH hp => sub_is hH hb hp) (H := hadd H L) (at_ := at_)
  rw [entry_SubType_eq]
  revert h
  refine atPl_cases (fun t => (∀ L, run (C k_entry_read_api_SubType [BS z b, .int .i64 at_, .fn k_entry_cursor_sub [] []]) (hadd H L) = some (.ok t (hadd H L))) → _ = some (Out.ok t H)) ?_ ?_ ?_ <;> intros <;> rename_i h <;> simp only [encS, csS, shutP_nil, List.map_nil] at h ⊢ <;>
    simp (contextual := true) (dsimp := false) (disch := omega) only [↓goDown, goUp, List.length_cons, List.length_nil, List.map_cons, List.map_nil, List.take_succ_cons, List.take_zero, List.drop_succ_cons, List.drop_zero, List.drop_nil, List.take_nil, List.cons_append, List.nil_append, List.append_nil, List.set_cons_zero, List.set_cons_succ, List.all_cons, List.all_nil, ↓reduceIte, reduceCtorEq, ge_iff_le, gt_iff_lt, eq_self_iff_true, beq_self_eq_true, beq_iff_eq, bne_iff_ne, ne_eq, ite_not, Int.reduceEq, Option.getD_some, Option.getD_none, ite_self, Nat.reduceAdd, Nat.reduceSub, Nat.reduceMul, Nat.reduceLeDiff, Nat.reduceEqDiff, Nat.reduceBEq, Nat.reduceBNe, Int.reduceLT, Int.reduceLE, Int.reduceAdd, Int.reduceSub, Int.reduceMul, Int.reduceNeg, Int.reduceNe, Int.reduceBEq, Int.reduceBNe, Int.reduceToNat, h, encS, csS, shutP_nil, List.map_nil, cells_P, isCell_P, low_P, stripC_P, strip_P, isTup_P]
theorem ref_RecType {H : Heap} {b : List UInt8} {z : Bool} (hb : b.length < 2 ^ 61) {at_ : Int} :
    run (C k_ratchetref08_RecType [BS z b, .int .i64 at_]) H = some (.ok (atPl at_ b (encR zR) (outR encR (encR zR) (rRec b at_.toNat))) H) := by
  rw [ratchetref08_RecType_eq]
  unfold atPl
  have hbg := begin_is (H := hadd H [.cells [.slice false true 0 [], .bool false]]) (z := z) (b := b) (at_ := at_)
  simp only [len_add, add_add, List.length_cons, List.length_nil, List.cons_append, List.nil_append, Nat.zero_add] at hbg
  by_cases h1 : at_ < 0 ∨ (b.length : Int) < at_
  · have e : decide (¬ (at_ < 0 ∨ (b.length : Int) < at_)) = false := decide_eq_false (fun h => h h1)
    rw [e] at hbg
    rw [if_pos h1]
    simp (contextual := true) (dsimp := false) (disch := omega) only [↓goDown, goUp, List.length_cons, List.length_nil, List.map_cons, List.map_nil, List.take_succ_cons, List.take_zero, List.drop_succ_cons, List.drop_zero, List.drop_nil, List.take_nil, List.cons_append, List.nil_append, List.append_nil, List.set_cons_zero, List.set_cons_succ, List.all_cons, List.all_nil, ↓reduceIte, reduceCtorEq, ge_iff_le, gt_iff_lt, eq_self_iff_true, beq_self_eq_true, beq_iff_eq, bne_iff_ne, ne_eq, ite_not, Int.reduceEq, Option.getD_some, Option.getD_none, ite_self, Nat.reduceAdd, Nat.reduceSub, Nat.reduceMul, Nat.reduceLeDiff, Nat.reduceEqDiff, Nat.reduceBEq, Nat.reduceBNe, Int.reduceLT, Int.reduceLE, Int.reduceAdd, Int.reduceSub, Int.reduceMul, Int.reduceNeg, Int.reduceNe, Int.reduceBEq, Int.reduceBNe, Int.reduceToNat, hbg, un_not]
    rfl
  · have e : decide (¬ (at_ < 0 ∨ (b.length : Int) < at_)) = true := decide_eq_true h1
    rw [e] at hbg
    rw [if_neg h1]
    obtain ⟨p, rfl⟩ := Int.eq_ofNat_of_zero_le (show 0 ≤ at_ by omega)
    rw [Int.toNat_natCast]
    have hk := rrec_is (H := hadd H [.cells [.slice false true 0 [], .bool false], rst z b p 0 0]) (c := H.length + 1) (z := z) (b := b) (p := p) (by rw [get_loc]; rfl) hb (by omega)
    have hst : ∀ q a w, Pi.hset (hadd H [.cells [.slice false true 0 [], .bool false], rst z b p 0 0]) (H.length + 1) (rst z b q a w) = hadd H [.cells [.slice false true 0 [], .bool false], rst z b q a w] := fun q a w => by rw [set_loc]; rfl
    have hrI : rstI z b (p : Int) = rst z b p 0 0 := rfl
    rw [hrI] at hbg
    cases hr : rRec b p with
    | ok v q =>
      rw [hr] at hk
      simp only [outF, hst] at hk
      have he := fun x => end_ok (H := hadd H [.cells [.slice false true 0 [], .bool false], rst z b q 0 0, x]) (c := H.length + 1) (z := z) (b := b) (p := q) (by rw [get_loc]; rfl)
      simp (contextual := true) (dsimp := false) (disch := omega) only [↓goDown, goUp, List.length_cons, List.length_nil, List.map_cons, List.map_nil, List.take_succ_cons, List.take_zero, List.drop_succ_cons, List.drop_zero, List.drop_nil, List.take_nil, List.cons_append, List.nil_append, List.append_nil, List.set_cons_zero, List.set_cons_succ, List.all_cons, List.all_nil, ↓reduceIte, reduceCtorEq, ge_iff_le, gt_iff_lt, eq_self_iff_true, beq_self_eq_true, beq_iff_eq, bne_iff_ne, ne_eq, ite_not, Int.reduceEq, Option.getD_some, Option.getD_none, ite_self, Nat.reduceAdd, Nat.reduceSub, Nat.reduceMul, Nat.reduceLeDiff, Nat.reduceEqDiff, Nat.reduceBEq, Nat.reduceBNe, Int.reduceLT, Int.reduceLE, Int.reduceAdd, Int.reduceSub, Int.reduceMul, Int.reduceNeg, Int.reduceNe, Int.reduceBEq, Int.reduceBNe, Int.reduceToNat, hbg, un_not, hk, he, outR, encR, shutP_nil, List.map_nil, cells_P, isCell_P, low_P, stripC_P, strip_P, isTup_P]
    | err a w =>
      rw [hr] at hk
      obtain ⟨v, q, hk, hw⟩ := hk
      rw [hst] at hk
      have he := fun x => end_err (H := hadd H [.cells [.slice false true 0 [], .bool false], rst z b q a w, x]) (c := H.length + 1) (z := z) (b := b) (p := q) (by rw [get_loc]; rfl) hw
      have c1 : ¬ (w : Int) = 0 := by omega
      simp (contextual := true) (dsimp := false) (disch := omega) only [↓goDown, goUp, List.length_cons, List.length_nil, List.map_cons, List.map_nil, List.take_succ_cons, List.take_zero, List.drop_succ_cons, List.drop_zero, List.drop_nil, List.take_nil, List.cons_append, List.nil_append, List.append_nil, List.set_cons_zero, List.set_cons_succ, List.all_cons, List.all_nil, ↓reduceIte, reduceCtorEq, ge_iff_le, gt_iff_lt, eq_self_iff_true, beq_self_eq_true, beq_iff_eq, bne_iff_ne, ne_eq, ite_not, Int.reduceEq, Option.getD_some, Option.getD_none, ite_self, Nat.reduceAdd, Nat.reduceSub, Nat.reduceMul, Nat.reduceLeDiff, Nat.reduceEqDiff, Nat.reduceBEq, Nat.reduceBNe, Int.reduceLT, Int.reduceLE, Int.reduceAdd, Int.reduceSub, Int.reduceMul, Int.reduceNeg, Int.reduceNe, Int.reduceBEq, Int.reduceBNe, Int.reduceToNat, hbg, un_not, hk, he, outR, encR, shutP_nil, List.map_nil, cells_P, isCell_P, low_P, stripC_P, strip_P, isTup_P, c1]
theorem own_RecType {H : Heap} {b : List UInt8} {z : Bool} (hb : b.length < 2 ^ 61) {at_ : Int} :
    run (C k_entry_RecType [BS z b, .int .i64 at_]) H = some (.ok (atPl at_ b (encR zR) (outR encR (encR zR) (rRec b at_.toNat))) H) := by
  have h := fun L => read_R_is (z := z) hb (one := .fn k_entry_cursor_rec [] []) (r := rRec b) (fun H c p hH hp => rec_is hH hb hp) (H := hadd H L) (at_ := at_)
  rw [entry_RecType_eq]
  revert h
  refine atPl_cases (fun t => (∀ L, run (C k_entry_read_api_RecType [BS z b, .int .i64 at_, .fn k_entry_cursor_rec [] []]) (hadd H L) = some (.ok t (hadd H L))) → _ = some (Out.ok t H)) ?_ ?_ ?_ <;> intros <;> rename_i h <;> simp only [encR, shutP_nil, List.map_nil] at h ⊢ <;>
    simp (contextual := true) (dsimp := false) (disch := omega) only [↓goDown, goUp, List.length_cons, List.length_nil, List.map_cons, List.map_nil, List.take_succ_cons, List.take_zero, List.drop_succ_cons, List.drop_zero, List.drop_nil, List.take_nil, List.cons_append, List.nil_append, List.append_nil, List.set_cons_zero, List.set_cons_succ, List.all_cons, List.all_nil, ↓reduceIte, reduceCtorEq, ge_iff_le, gt_iff_lt, eq_self_iff_true, beq_self_eq_true, beq_iff_eq, bne_iff_ne, ne_eq, ite_not, Int.reduceEq, Option.getD_some, Option.getD_none, ite_self, Nat.reduceAdd, Nat.reduceSub, Nat.reduceMul, Nat.reduceLeDiff, Nat.reduceEqDiff, Nat.reduceBEq, Nat.reduceBNe, Int.reduceLT, Int.reduceLE, Int.reduceAdd, Int.reduceSub, Int.reduceMul, Int.reduceNeg, Int.reduceNe, Int.reduceBEq, Int.reduceBNe, Int.reduceToNat, h, encR, shutP_nil, List.map_nil, cells_P, isCell_P, low_P, stripC_P, strip_P, isTup_P]
end Go.Proofs.Ytofbbijagbpicaa.Pi.Q
