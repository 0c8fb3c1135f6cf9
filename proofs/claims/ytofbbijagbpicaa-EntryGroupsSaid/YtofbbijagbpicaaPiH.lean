/- The law EntryTypes, told: it answers true. -/
import Derived.Test.YtofbbijagbpicaaPiG
namespace Go.Proofs.Ytofbbijagbpicaa.Pi.Q
open Go Go.Proofs.Ytofbbijagbpicaa.Pi
set_option linter.unusedVariables false
set_option linter.unusedSimpArgs false
set_option maxRecDepth 100000
attribute [local congr] ite_congr
theorem ap_nil1 {H : Heap} {v : PV} : run (ap true 1 1 (.slice false true 0 []) (.slice true false 1 [v])) H = some (.ok (.slice true false 1 [v]) H) := nrfl rfl
theorem bs_byte {H : Heap} {k : IntKind} {n : Int} : run (bs true none [.int k n]) H = some (.ok (.slice true false 1 [.int k n]) H) := nrfl rfl
theorem bsR_byte {H : Heap} {k : IntKind} {n : Int} : bsR true none [.int k n] H = some (.ok (.slice true false 1 [.int k n]) H) := by simp [bsR, isFlatElem, PV.flat]
theorem cv_127 {H : Heap} {o z p : Bool} {s : Nat} : run (cv .bytesToStr p (.slice o z s [.int .u8 127])) H = some (.ok (.str ⟨#[127]⟩) H) := nrfl rfl
theorem str_eq {H : Heap} {s : ByteArray} : run (bi .eql .none (.str s) (.str s)) H = some (.ok (.bool true) H) := by
  show some (Out.ok (PV.bool (s.toList == s.toList)) H) = _
  rw [beq_self_eq_true]
theorem awake_is {H : Heap} : run (C k_ratchetlaw08_awake []) H = some (.ok (.bool true) H) := by
  rw [ratchetlaw08_awake_eq]
  simp (contextual := true) (dsimp := false) (disch := omega) only [↓goDown, goUp, List.length_cons, List.length_nil, List.map_cons, List.map_nil, List.take_succ_cons, List.take_zero, List.drop_succ_cons, List.drop_zero, List.drop_nil, List.take_nil, List.cons_append, List.nil_append, List.append_nil, List.set_cons_zero, List.set_cons_succ, List.all_cons, List.all_nil, ↓reduceIte, reduceCtorEq, ge_iff_le, gt_iff_lt, eq_self_iff_true, beq_self_eq_true, beq_iff_eq, bne_iff_ne, ne_eq, ite_not, Int.reduceEq, Option.getD_some, Option.getD_none, ite_self, Nat.reduceAdd, Nat.reduceSub, Nat.reduceMul, Nat.reduceLeDiff, Nat.reduceEqDiff, Nat.reduceBEq, Nat.reduceBNe, Int.reduceLT, Int.reduceLE, Int.reduceAdd, Int.reduceSub, Int.reduceMul, Int.reduceNeg, Int.reduceNe, Int.reduceBEq, Int.reduceBNe, Int.reduceToNat, entry_PutValType_eq, entry_PutValType_1_eq, entry_write_eq, entry_pen_val_eq, entry_pen_must_eq, entry_pen_byte_eq, entry_write_1_deq, un_not, run_mf, bi_ifn, ap_nil1, bs_byte, bsR_byte, cv_127, str_eq, cutL]
theorem atPl_int {at_ : Int} {b : List UInt8} {r : Rs Int} : ∃ v p e, atPl at_ b (.int .i64 0) (outR (fun x : Int => .int .i64 x) (.int .i64 0) r) = .tup [.int .i64 v, .int .i64 p, .int .i64 e] :=
  atPl_cases (fun t => ∃ v p e, t = .tup [.int .i64 v, .int .i64 p, .int .i64 e]) ⟨_, _, _, rfl⟩ (fun v p _ => ⟨_, _, _, rfl⟩) (fun a w _ => ⟨_, _, _, rfl⟩)
theorem atPl_V {at_ : Int} {b : List UInt8} {r : Rs VT} : ∃ v p e, atPl at_ b (encV ⟨0, false, 0⟩) (outR encV (encV ⟨0, false, 0⟩) r) = .tup [encV v, .int .i64 p, .int .i64 e] :=
  atPl_cases (fun t => ∃ v p e, t = .tup [encV v, .int .i64 p, .int .i64 e]) ⟨_, _, _, rfl⟩ (fun v p _ => ⟨_, _, _, rfl⟩) (fun a w _ => ⟨_, _, _, rfl⟩)
theorem atPl_B {at_ : Int} {b : List UInt8} {r : Rs BK} : ∃ v p e, atPl at_ b (encB ⟨0, ⟨0, false, 0⟩⟩) (outR encB (encB ⟨0, ⟨0, false, 0⟩⟩) r) = .tup [encB v, .int .i64 p, .int .i64 e] :=
  atPl_cases (fun t => ∃ v p e, t = .tup [encB v, .int .i64 p, .int .i64 e]) ⟨_, _, _, rfl⟩ (fun v p _ => ⟨_, _, _, rfl⟩) (fun a w _ => ⟨_, _, _, rfl⟩)
theorem atPl_L {at_ : Int} {b : List UInt8} {r : Rs (List VT)} : ∃ l p e, atPl at_ b (.slice false true 0 []) (outR shutL (.slice false true 0 []) r) = .tup [shutL l, .int .i64 p, .int .i64 e] ∧ atPl at_ b (.slice false true 0 []) (outR encL (.slice false true 0 []) r) = .tup [encL l, .int .i64 p, .int .i64 e] := by
  unfold atPl
  split
  · exact ⟨[], _, _, rfl, rfl⟩
  · cases r with
    | ok v p => exact ⟨v, _, _, rfl, rfl⟩
    | err a w => exact ⟨[], _, _, rfl, rfl⟩
theorem neq_V {H : Heap} {a c : Int} {t : Bool} : run (bi .neq (.struct [.int, .bool, .int]) (.agg [.int .i64 a, .bool t, .int .i64 c]) (.agg [.int .i64 a, .bool t, .int .i64 c])) H = some (.ok (.bool false) H) := by
  unfold run bi
  simp [eqPV, eqCells, eqScalar, M.pure]
theorem neq_B {H : Heap} {a c d : Int} {t : Bool} : run (bi .neq (.struct [.int, .int, .bool, .int]) (.agg [.int .i64 d, .int .i64 a, .bool t, .int .i64 c]) (.agg [.int .i64 d, .int .i64 a, .bool t, .int .i64 c])) H = some (.ok (.bool false) H) := by
  unfold run bi
  simp [eqPV, eqCells, eqScalar, M.pure]
theorem lnL_shut {H : Heap} {l : List VT} : run (lnL (shutL l)) H = some (.ok (.int .i64 l.length) H) := by
  cases l with
  | nil => rfl
  | cons v r =>
    show some (Out.ok (PV.int .i64 ((((v :: r).map encV).length : Nat) : Int)) H) = _
    rw [List.length_map]
theorem strip_S {l : List VT} : strip (shutL l) = shutL l := by cases l <;> rfl
theorem stripC_S {l : List VT} : stripC (shutL l) = shutL l := by cases l <;> rfl
theorem neq_int {H : Heap} {k : IntKind} {n : Int} : run (bi .neq .none (.int k n) (.int k n)) H = some (.ok (.bool false) H) := by
  unfold run
  rw [bi_neq, bne_self_eq_false]
  rfl
theorem types_loop {H : Heap} {v4 : PV} {l : List VT} (hl : l.length < 2 ^ 62) : ∀ (m i : Nat), i + m = l.length → run (p_ratchetlaw08_EntryTypes_1111111111111111010 v4 (shutL l) (shutL l) (.int .i64 i)) H = some (.ok (.bool true) H)
  | 0, i, h => by
    rw [p_ratchetlaw08_EntryTypes_1111111111111111010_eq]
    have c1 : ¬ (i : Int) < l.length := by omega
    simp (contextual := true) (dsimp := false) (disch := omega) only [↓goDown, goUp, List.length_cons, List.length_nil, List.map_cons, List.map_nil, List.take_succ_cons, List.take_zero, List.drop_succ_cons, List.drop_zero, List.drop_nil, List.take_nil, List.cons_append, List.nil_append, List.append_nil, List.set_cons_zero, List.set_cons_succ, List.all_cons, List.all_nil, ↓reduceIte, reduceCtorEq, ge_iff_le, gt_iff_lt, eq_self_iff_true, beq_self_eq_true, beq_iff_eq, bne_iff_ne, ne_eq, ite_not, Int.reduceEq, Option.getD_some, Option.getD_none, ite_self, Nat.reduceAdd, Nat.reduceSub, Nat.reduceMul, Nat.reduceLeDiff, Nat.reduceEqDiff, Nat.reduceBEq, Nat.reduceBNe, Int.reduceLT, Int.reduceLE, Int.reduceAdd, Int.reduceSub, Int.reduceMul, Int.reduceNeg, Int.reduceNe, Int.reduceBEq, Int.reduceBNe, Int.reduceToNat, strip_S, lnL_shut, c1, awake_is]
  | m + 1, i, h => by
    have ih := types_loop hl (v4 := v4) (H := H) m (i + 1) (by omega)
    rw [p_ratchetlaw08_EntryTypes_1111111111111111010_eq]
    have c1 : (i : Int) < l.length := by omega
    have hi : i < l.length := by omega
    have hg : (l.map encV)[i]? = some (encV l[i]) := by simp [hi]
    have hs : shutL l = .slice false false 3 (l.map encV) := by cases l with
      | nil => simp at hi
      | cons v r => rfl
    have hia : run (iaS 3 (shutL l) (.int .i64 i)) H = some (.ok (.elem [.int .i64 l[i].num, .bool l[i].nul, .int .i64 l[i].heap]) H) := by
      rw [hs, run_iaS (by omega), Int.toNat_natCast, hg]
      rfl
    simp (contextual := true) (dsimp := false) (disch := omega) only [↓goDown, goUp, List.length_cons, List.length_nil, List.map_cons, List.map_nil, List.take_succ_cons, List.take_zero, List.drop_succ_cons, List.drop_zero, List.drop_nil, List.take_nil, List.cons_append, List.nil_append, List.append_nil, List.set_cons_zero, List.set_cons_succ, List.all_cons, List.all_nil, ↓reduceIte, reduceCtorEq, ge_iff_le, gt_iff_lt, eq_self_iff_true, beq_self_eq_true, beq_iff_eq, bne_iff_ne, ne_eq, ite_not, Int.reduceEq, Option.getD_some, Option.getD_none, ite_self, Nat.reduceAdd, Nat.reduceSub, Nat.reduceMul, Nat.reduceLeDiff, Nat.reduceEqDiff, Nat.reduceBEq, Nat.reduceBNe, Int.reduceLT, Int.reduceLE, Int.reduceAdd, Int.reduceSub, Int.reduceMul, Int.reduceNeg, Int.reduceNe, Int.reduceBEq, Int.reduceBNe, Int.reduceToNat, strip_S, lnL_shut, c1, hia, neq_V, ns, ih]
    exact ih
theorem types_true {b : List UInt8} {z : Bool} (hb : b.length < 2 ^ 61) {at_ : Int} {H : Heap} : run (C k_ratchetlaw08_EntryTypes [BS z b, .int .i64 at_]) H = some (.ok (.bool true) H) := by
  obtain ⟨v1, p1, e1, q1⟩ := atPl_int (at_ := at_) (b := b) (r := rHeap b at_.toNat)
  obtain ⟨v2, p2, e2, q2⟩ := atPl_V (at_ := at_) (b := b) (r := rRef b at_.toNat)
  obtain ⟨v3, p3, e3, q3⟩ := atPl_V (at_ := at_) (b := b) (r := rVal b at_.toNat)
  obtain ⟨v4, p4, e4, q4⟩ := atPl_B (at_ := at_) (b := b) (r := rBlock b at_.toNat)
  obtain ⟨v5, p5, e5, q5, q6⟩ := atPl_L (at_ := at_) (b := b) (r := rVals b at_.toNat)
  have hlen : v5.length < 2 ^ 62 := by
    revert q5
    unfold atPl
    split
    · intro h
      simp only [PV.tup.injEq, List.cons.injEq] at h
      cases v5 with
      | nil => simp
      | cons x y => simp [shutL] at h
    · cases hr : rVals b at_.toNat with
      | ok l q =>
        intro h
        simp only [outR, PV.tup.injEq, List.cons.injEq] at h
        have hle := (rList_le (fun p v q h => rVal_le h) hr).2
        have : v5.length = l.length := by
          have h1 := h.1
          cases l with
          | nil => cases v5 with
            | nil => rfl
            | cons x y => simp [shutL] at h1
          | cons u w => cases v5 with
            | nil => simp [shutL] at h1
            | cons x y =>
              simp only [shutL, PV.slice.injEq] at h1
              have := congrArg List.length h1.2.2.2
              simpa using this.symm
        omega
      | err a w =>
        intro h
        simp only [outR, PV.tup.injEq, List.cons.injEq] at h
        cases v5 with
        | nil => simp
        | cons x y => simp [shutL] at h
  have a1 := fun K => own_HeapType (H := K) (z := z) hb (at_ := at_)
  have a2 := fun K => ref_HeapType (H := K) (z := z) hb (at_ := at_)
  have a3 := fun K => own_RefType (H := K) (z := z) hb (at_ := at_)
  have a4 := fun K => ref_RefType (H := K) (z := z) hb (at_ := at_)
  have a5 := fun K => own_ValType (H := K) (z := z) hb (at_ := at_)
  have a6 := fun K => ref_ValType (H := K) (z := z) hb (at_ := at_)
  have a7 := fun K => own_BlockType (H := K) (z := z) hb (at_ := at_)
  have a8 := fun K => ref_BlockType (H := K) (z := z) hb (at_ := at_)
  have a9 := fun K => own_ValTypes (H := K) (z := z) hb (at_ := at_)
  have a10 := fun K => ref_ValTypes (H := K) (z := z) hb (at_ := at_)
  simp only [q1, q2, q3, q4, q5, q6] at a1 a2 a3 a4 a5 a6 a7 a8 a9 a10
  have lp : ∀ (K : Heap) (v4 : PV), run (p_ratchetlaw08_EntryTypes_1111111111111111010 v4 (shutL v5) (shutL v5) (.int .i64 0)) K = some (.ok (.bool true) K) := fun K v4 => types_loop hlen v5.length 0 (by omega)
  unfold encV at a3 a4 a5 a6
  unfold encB at a7 a8
  rw [ratchetlaw08_EntryTypes_eq]
  simp (contextual := true) (dsimp := false) (disch := omega) only [↓goDown, goUp, List.length_cons, List.length_nil, List.map_cons, List.map_nil, List.take_succ_cons, List.take_zero, List.drop_succ_cons, List.drop_zero, List.drop_nil, List.take_nil, List.cons_append, List.nil_append, List.append_nil, List.set_cons_zero, List.set_cons_succ, List.all_cons, List.all_nil, ↓reduceIte, reduceCtorEq, ge_iff_le, gt_iff_lt, eq_self_iff_true, beq_self_eq_true, beq_iff_eq, bne_iff_ne, ne_eq, ite_not, Int.reduceEq, Option.getD_some, Option.getD_none, ite_self, Nat.reduceAdd, Nat.reduceSub, Nat.reduceMul, Nat.reduceLeDiff, Nat.reduceEqDiff, Nat.reduceBEq, Nat.reduceBNe, Int.reduceLT, Int.reduceLE, Int.reduceAdd, Int.reduceSub, Int.reduceMul, Int.reduceNeg, Int.reduceNe, Int.reduceBEq, Int.reduceBNe, Int.reduceToNat, a1, a2, a3, a4, a5, a6, a7, a8, a9, a10, neq_V, neq_B, lp, strip_S, stripC_S, stripC_L, lnL_shut, neq_int, bne_self_eq_false]
end Go.Proofs.Ytofbbijagbpicaa.Pi.Q
