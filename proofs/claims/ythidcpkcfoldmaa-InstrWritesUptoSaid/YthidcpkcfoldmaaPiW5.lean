/- What the law rests on, part 6 of 6: a reading of the program's code over told data, and what it comes to. -/
import Derived.Test.YthidcpkcfoldmaaPiW4
namespace Go.Proofs.Ythidcpkcfoldmaa.Pi.Q
open Go Go.Proofs.Ythidcpkcfoldmaa.Pi
set_option linter.unusedVariables false
set_option linter.unusedSimpArgs false
set_option maxRecDepth 100000
attribute [local congr] ite_congr
variable {c : Nat} {H : Heap} {L : List Box} {b : List UInt8} {f : Bool}
def allRef (l : List VT) : Bool := l.all fun a => a.num == 5
def okRefs (l : List VT) (n : Int) : Bool := ((l.length : Int) == n) && allRef l
theorem rrefs_loop {z : Bool} {l : List VT} {v6 : PV} (hl : l.length < 2 ^ 62) : ∀ (m i : Nat) (a : Bool) (b : List UInt8) (f : Bool) (L : List Box) (H : Heap), i + m = l.length → c < List.length H →
    runK c (p_ratchetref09_writing_refs_11010 (.ptr c 0) (LZ z 3 (l.map encV)) v6 (.bool a) (.int .i64 i)) (St H c (.cells [accB b, .bool f]) L) = some (.ok (.bool (a && allRef (l.drop i))) (St H c (.cells [accB b, .bool (f || !(a && allRef (l.drop i)))]) L))
  | 0, i, a, b, f, L, H, hi, hc => by
    have c1 : ¬ (i : Int) < l.length := by omega
    have e0 : l.drop i = [] := List.drop_eq_nil_of_le (by omega)
    have e2 : allRef [] = true := rfl
    rw [e0, e2, p_ratchetref09_writing_refs_11010_eq]
    cases a <;>
      simp (contextual := true) (dsimp := false) (disch := omega) only [↓kDown, kUp, ↓goDown, goUp, List.length_cons, List.length_nil, List.map_cons, List.map_nil, List.take_succ_cons, List.take_zero, List.drop_succ_cons, List.drop_zero, List.drop_nil, List.take_nil, List.cons_append, List.nil_append, List.append_nil, List.set_cons_zero, List.set_cons_succ, List.all_cons, List.all_nil, ↓reduceIte, reduceCtorEq, ge_iff_le, gt_iff_lt, eq_self_iff_true, beq_self_eq_true, beq_iff_eq, bne_iff_ne, ne_eq, ite_not, Int.reduceEq, Option.getD_some, Option.getD_none, ite_self, Nat.reduceAdd, Nat.reduceSub, Nat.reduceMul, Nat.reduceLeDiff, Nat.reduceEqDiff, Nat.reduceBEq, Nat.reduceBNe, Int.reduceLT, Int.reduceLE, Int.reduceAdd, Int.reduceSub, Int.reduceMul, Int.reduceNeg, Int.reduceNe, Int.reduceBEq, Int.reduceBNe, Int.reduceToNat, strip_Z, ln_Z, List.length_map, c1, un_not, p_ratchetref09_writing_refs_1111_eq, isCell_B, cells_B, low_B, Bool.and_true, Bool.not_false, Bool.not_true, Bool.or_false, Bool.or_true]
  | m + 1, i, a, b, f, L, H, hi, hc => by
    have c1 : (i : Int) < l.length := by omega
    have hil : i < l.length := by omega
    have hg : (l.map encV)[i]? = some (encV l[i]) := by simp [hil]
    have hia : ∀ K, run (iaS 3 (LZ z 3 (l.map encV)) (.int .i64 i)) K = some (.ok (.elem [.int .i64 l[i].num, .bool l[i].nul, .int .i64 l[i].heap]) K) := fun K => (ia_Z hg).trans rfl
    have hd : l.drop i = l[i] :: l.drop (i + 1) := List.drop_eq_getElem_cons hil
    have e1 : ((i : Int) + 1) = ((i + 1 : Nat) : Int) := rfl
    have e2 : allRef (l[i] :: l.drop (i + 1)) = ((l[i].num == 5) && allRef (l.drop (i + 1))) := rfl
    rw [hd, e2, p_ratchetref09_writing_refs_11010_eq]
    cases a
    · have ih := rrefs_loop (z := z) (v6 := v6) hl m (i + 1) false b f L H (by omega) hc
      simp only [Bool.false_and] at ih ⊢
      simp (contextual := true) (dsimp := false) (disch := omega) only [↓kDown, kUp, ↓goDown, goUp, List.length_cons, List.length_nil, List.map_cons, List.map_nil, List.take_succ_cons, List.take_zero, List.drop_succ_cons, List.drop_zero, List.drop_nil, List.take_nil, List.cons_append, List.nil_append, List.append_nil, List.set_cons_zero, List.set_cons_succ, List.all_cons, List.all_nil, ↓reduceIte, reduceCtorEq, ge_iff_le, gt_iff_lt, eq_self_iff_true, beq_self_eq_true, beq_iff_eq, bne_iff_ne, ne_eq, ite_not, Int.reduceEq, Option.getD_some, Option.getD_none, ite_self, Nat.reduceAdd, Nat.reduceSub, Nat.reduceMul, Nat.reduceLeDiff, Nat.reduceEqDiff, Nat.reduceBEq, Nat.reduceBNe, Int.reduceLT, Int.reduceLE, Int.reduceAdd, Int.reduceSub, Int.reduceMul, Int.reduceNeg, Int.reduceNe, Int.reduceBEq, Int.reduceBNe, Int.reduceToNat, strip_Z, ln_Z, List.length_map, c1, hia, e1, ih]
    · have ih := rrefs_loop (z := z) (v6 := v6) hl m (i + 1) (l[i].num == 5) b f L H (by omega) hc
      simp only [Bool.true_and] at ih ⊢
      simp (contextual := true) (dsimp := false) (disch := omega) only [↓kDown, kUp, ↓goDown, goUp, List.length_cons, List.length_nil, List.map_cons, List.map_nil, List.take_succ_cons, List.take_zero, List.drop_succ_cons, List.drop_zero, List.drop_nil, List.take_nil, List.cons_append, List.nil_append, List.append_nil, List.set_cons_zero, List.set_cons_succ, List.all_cons, List.all_nil, ↓reduceIte, reduceCtorEq, ge_iff_le, gt_iff_lt, eq_self_iff_true, beq_self_eq_true, beq_iff_eq, bne_iff_ne, ne_eq, ite_not, Int.reduceEq, Option.getD_some, Option.getD_none, ite_self, Nat.reduceAdd, Nat.reduceSub, Nat.reduceMul, Nat.reduceLeDiff, Nat.reduceEqDiff, Nat.reduceBEq, Nat.reduceBNe, Int.reduceLT, Int.reduceLE, Int.reduceAdd, Int.reduceSub, Int.reduceMul, Int.reduceNeg, Int.reduceNe, Int.reduceBEq, Int.reduceBNe, Int.reduceToNat, strip_Z, ln_Z, List.length_map, c1, hia, e1, ih]
theorem rrefsW {z : Bool} {l : List VT} {n : Int} (hl : l.length < 2 ^ 62) (hc : c < List.length H) : runK c (C k_ratchetref09_writing_refs [.ptr c 0, LZ z 3 (l.map encV), .int .i64 n]) (St H c (.cells [accB b, .bool f]) L) = some (.ok (.bool (okRefs l n)) (St H c (.cells [accB b, .bool (f || !okRefs l n)]) L)) := liftS (fun H hc => by
  have h := rrefs_loop (c := c) (z := z) (v6 := .bool false) hl l.length 0 ((l.length : Int) == n) b f [] H (by omega) hc
  have e0 : ((0 : Nat) : Int) = 0 := rfl
  rw [e0, List.drop_zero] at h
  have e1 : (((l.length : Int) == n) && allRef l) = okRefs l n := rfl
  rw [e1] at h
  have hln : ∀ K, run (lnL (LZ z 3 (l.map encV))) K = some (.ok (.int .i64 l.length) K) := fun K => by rw [ln_Z, List.length_map]
  rw [ratchetref09_writing_refs_eq]
  simp (contextual := true) (dsimp := false) (disch := omega) only [↓kDown, kUp, ↓goDown, goUp, List.length_cons, List.length_nil, List.map_cons, List.map_nil, List.take_succ_cons, List.take_zero, List.drop_succ_cons, List.drop_zero, List.drop_nil, List.take_nil, List.cons_append, List.nil_append, List.append_nil, List.set_cons_zero, List.set_cons_succ, List.all_cons, List.all_nil, ↓reduceIte, reduceCtorEq, ge_iff_le, gt_iff_lt, eq_self_iff_true, beq_self_eq_true, beq_iff_eq, bne_iff_ne, ne_eq, ite_not, Int.reduceEq, Option.getD_some, Option.getD_none, ite_self, Nat.reduceAdd, Nat.reduceSub, Nat.reduceMul, Nat.reduceLeDiff, Nat.reduceEqDiff, Nat.reduceBEq, Nat.reduceBNe, Int.reduceLT, Int.reduceLE, Int.reduceAdd, Int.reduceSub, Int.reduceMul, Int.reduceNeg, Int.reduceNe, Int.reduceBEq, Int.reduceBNe, Int.reduceToNat, strip_Z, hln, h]) hc
theorem rheapW {h : Int} (hw : I64 h) (hc : c < List.length H) (hs : b.length + (eH h).1.length ≤ 140737488355328) : runK c (C k_ratchetref09_writing_heap [.ptr c 0, .int .i64 h]) (St H c (.cells [accB b, .bool f]) L) = some (.ok (.tup []) (St H c (.cells [accB (b ++ (eH h).1), .bool (f || !((eH h).2 == 0))]) L)) := @rheapI c h hw H L b f hc hs
def rc13 (l : List VT) : IW := match l with | [a] => if a.num = 5 then ((eH a.heap).1, !a.nul || !((eH a.heap).2 == 0)) else ([], true) | _ => ([], true)
def rc14 (odd : Bool) (l : List VT) : IW := match l with | [a] => if a.num = 5 then ((eH a.heap).1, !(a.nul == odd) || !((eH a.heap).2 == 0)) else ([], true) | _ => ([], true)
def rc15 (x : Int) (l : List VT) : IW := match l with | [a, d] => if a.num = 5 ∧ d.num = 5 then (iByte ((if a.nul = true then 1 else 0) + (if d.nul = true then 2 else 0)) :: (putU x.toNat ++ ((eH a.heap).1 ++ (eH d.heap).1)), !((eH a.heap).2 == 0) || !((eH d.heap).2 == 0)) else ([], true) | _ => ([], true)
def rCast (fm : Nat) (v : IG) : IW :=
  match fm with
  | 13 => rc13 v.types.l
  | 14 => rc14 (v.op % 2 == 1) v.types.l
  | 15 => rc15 v.x v.types.l
  | _ => ([], false)
def rConst (fm : Nat) (n : Int) : IW :=
  match fm with
  | 9 => (putS (IntKind.i32.wrap n), !decide (n < 4294967296))
  | 10 => (putS (IntKind.i64.wrap n), false)
  | 11 => (fixL 4 n, !decide (n < 4294967296))
  | 12 => (fixL 8 n, false)
  | _ => ([], false)
theorem okRefs_one {l : List VT} : okRefs l 1 = true ↔ ∃ a, l = [a] ∧ a.num = 5 := by
  unfold okRefs allRef
  match l with
  | [] => simp
  | [a] => simp
  | a :: d :: r => simp; omega
theorem okRefs_two {l : List VT} : okRefs l 2 = true ↔ ∃ a d, l = [a, d] ∧ a.num = 5 ∧ d.num = 5 := by
  unfold okRefs allRef
  match l with
  | [] => simp
  | [a] => simp
  | [a, d] => exact ⟨fun h => ⟨a, d, rfl, by simpa using h⟩, fun ⟨x, y, h, h1, h2⟩ => by cases h; simp [h1, h2]⟩
  | a :: d :: e :: r => simp; omega
theorem ba1 : bi .add .none (.int .u8 0) (.int .u8 1) = M.pure (.int .u8 1) := nrfl rfl
theorem ba2 : bi .add .none (.int .u8 0) (.int .u8 2) = M.pure (.int .u8 2) := nrfl rfl
theorem ba3 : bi .add .none (.int .u8 1) (.int .u8 2) = M.pure (.int .u8 3) := nrfl rfl
theorem rcasts_0 {v : IG} (hv : v.w) (hk : formN v.op = 0) : IWr c (C k_ratchetref09_writing_casts [.ptr c 0, .agg (cs_IG v)]) (rCast 0 v) := IWr.mk fun H b f hc hs => by
  have hform : ∀ K, run (C k_ratchetref09_Form [.int .i64 v.op]) K = some (.ok (.str ⟨List.toArray []⟩) K) := fun K => by
    rw [rform_is hv.op.1 hv.op.2, formR_is, hk]
    rfl
  have q13 : (([] : List UInt8) = [104, 101, 97, 112]) = False := eq_false (by decide)
  have q14 : (([] : List UInt8) = [99, 97, 115, 116]) = False := eq_false (by decide)
  have q15 : (([] : List UInt8) = [98, 114, 95, 99, 97, 115, 116]) = False := eq_false (by decide)
  rw [ratchetref09_writing_casts_eq]
  unfold cs_IG
  simp (contextual := true) (dsimp := false) (disch := first | omega | (simp only [List.length_append, List.length_cons, List.length_nil, Int.toNat_natCast]; omega)) only [↓kDown, kUp, ↓goDown, goUp, List.length_cons, List.length_nil, List.map_cons, List.map_nil, List.take_succ_cons, List.take_zero, List.drop_succ_cons, List.drop_zero, List.drop_nil, List.take_nil, List.cons_append, List.nil_append, List.append_nil, List.set_cons_zero, List.set_cons_succ, List.all_cons, List.all_nil, ↓reduceIte, reduceCtorEq, ge_iff_le, gt_iff_lt, eq_self_iff_true, beq_self_eq_true, beq_iff_eq, bne_iff_ne, ne_eq, ite_not, Int.reduceEq, Option.getD_some, Option.getD_none, ite_self, Nat.reduceAdd, Nat.reduceSub, Nat.reduceMul, Nat.reduceLeDiff, Nat.reduceEqDiff, Nat.reduceBEq, Nat.reduceBNe, Int.reduceLT, Int.reduceLE, Int.reduceAdd, Int.reduceSub, Int.reduceMul, Int.reduceNeg, Int.reduceNe, Int.reduceBEq, Int.reduceBNe, Int.reduceToNat, toK (m := C k_ratchetref09_Form [.int .i64 v.op]), hform, bytes_toList, q13, q14, q15, decide_true, decide_false, rCast, encU_is, cells_Z, isCell_Z, low_Z, stripC_Z, isTup_Z, strip_Z, isCell_B, cells_B, low_B, List.append_assoc, List.append_nil, List.cons_append, List.nil_append, Bool.or_assoc, Bool.not_true, Bool.not_false, Bool.or_false, Bool.false_or, Bool.true_or, Bool.or_true]
theorem rconsts_0 {v : IG} (hv : v.w) (hk : formN v.op = 0) : IWr c (C k_ratchetref09_writing_consts [.ptr c 0, .agg (cs_IG v)]) (rConst 0 v.n) := IWr.mk fun H b f hc hs => by
  have hform : ∀ K, run (C k_ratchetref09_Form [.int .i64 v.op]) K = some (.ok (.str ⟨List.toArray []⟩) K) := fun K => by
    rw [rform_is hv.op.1 hv.op.2, formR_is, hk]
    rfl
  have q9 : (([] : List UInt8) = [105, 51, 50]) = False := eq_false (by decide)
  have q10 : (([] : List UInt8) = [105, 54, 52]) = False := eq_false (by decide)
  have q11 : (([] : List UInt8) = [102, 51, 50]) = False := eq_false (by decide)
  have q12 : (([] : List UInt8) = [102, 54, 52]) = False := eq_false (by decide)
  obtain ⟨n0, n1⟩ := hv.n
  rw [ratchetref09_writing_consts_eq]
  unfold cs_IG
  simp (contextual := true) (dsimp := false) (disch := first | omega | (simp only [List.length_append, List.length_cons, List.length_nil, Int.toNat_natCast]; omega)) only [↓kDown, kUp, ↓goDown, goUp, List.length_cons, List.length_nil, List.map_cons, List.map_nil, List.take_succ_cons, List.take_zero, List.drop_succ_cons, List.drop_zero, List.drop_nil, List.take_nil, List.cons_append, List.nil_append, List.append_nil, List.set_cons_zero, List.set_cons_succ, List.all_cons, List.all_nil, ↓reduceIte, reduceCtorEq, ge_iff_le, gt_iff_lt, eq_self_iff_true, beq_self_eq_true, beq_iff_eq, bne_iff_ne, ne_eq, ite_not, Int.reduceEq, Option.getD_some, Option.getD_none, ite_self, Nat.reduceAdd, Nat.reduceSub, Nat.reduceMul, Nat.reduceLeDiff, Nat.reduceEqDiff, Nat.reduceBEq, Nat.reduceBNe, Int.reduceLT, Int.reduceLE, Int.reduceAdd, Int.reduceSub, Int.reduceMul, Int.reduceNeg, Int.reduceNe, Int.reduceBEq, Int.reduceBNe, Int.reduceToNat, toK (m := C k_ratchetref09_Form [.int .i64 v.op]), hform, bytes_toList, q9, q10, q11, q12, decide_true, decide_false, rConst, encU_is, cells_Z, isCell_Z, low_Z, stripC_Z, isTup_Z, strip_Z, isCell_B, cells_B, low_B, List.append_assoc, List.append_nil, List.cons_append, List.nil_append, Bool.or_assoc, Bool.not_true, Bool.not_false, Bool.or_false, Bool.false_or, Bool.true_or, Bool.or_true]
theorem rcasts_1 {v : IG} (hv : v.w) (hk : formN v.op = 1) : IWr c (C k_ratchetref09_writing_casts [.ptr c 0, .agg (cs_IG v)]) (rCast 1 v) := IWr.mk fun H b f hc hs => by
  have hform : ∀ K, run (C k_ratchetref09_Form [.int .i64 v.op]) K = some (.ok (.str ⟨List.toArray [45]⟩) K) := fun K => by
    rw [rform_is hv.op.1 hv.op.2, formR_is, hk]
    rfl
  have q13 : (([45] : List UInt8) = [104, 101, 97, 112]) = False := eq_false (by decide)
  have q14 : (([45] : List UInt8) = [99, 97, 115, 116]) = False := eq_false (by decide)
  have q15 : (([45] : List UInt8) = [98, 114, 95, 99, 97, 115, 116]) = False := eq_false (by decide)
  rw [ratchetref09_writing_casts_eq]
  unfold cs_IG
  simp (contextual := true) (dsimp := false) (disch := first | omega | (simp only [List.length_append, List.length_cons, List.length_nil, Int.toNat_natCast]; omega)) only [↓kDown, kUp, ↓goDown, goUp, List.length_cons, List.length_nil, List.map_cons, List.map_nil, List.take_succ_cons, List.take_zero, List.drop_succ_cons, List.drop_zero, List.drop_nil, List.take_nil, List.cons_append, List.nil_append, List.append_nil, List.set_cons_zero, List.set_cons_succ, List.all_cons, List.all_nil, ↓reduceIte, reduceCtorEq, ge_iff_le, gt_iff_lt, eq_self_iff_true, beq_self_eq_true, beq_iff_eq, bne_iff_ne, ne_eq, ite_not, Int.reduceEq, Option.getD_some, Option.getD_none, ite_self, Nat.reduceAdd, Nat.reduceSub, Nat.reduceMul, Nat.reduceLeDiff, Nat.reduceEqDiff, Nat.reduceBEq, Nat.reduceBNe, Int.reduceLT, Int.reduceLE, Int.reduceAdd, Int.reduceSub, Int.reduceMul, Int.reduceNeg, Int.reduceNe, Int.reduceBEq, Int.reduceBNe, Int.reduceToNat, toK (m := C k_ratchetref09_Form [.int .i64 v.op]), hform, bytes_toList, q13, q14, q15, decide_true, decide_false, rCast, encU_is, cells_Z, isCell_Z, low_Z, stripC_Z, isTup_Z, strip_Z, isCell_B, cells_B, low_B, List.append_assoc, List.append_nil, List.cons_append, List.nil_append, Bool.or_assoc, Bool.not_true, Bool.not_false, Bool.or_false, Bool.false_or, Bool.true_or, Bool.or_true]
theorem rconsts_1 {v : IG} (hv : v.w) (hk : formN v.op = 1) : IWr c (C k_ratchetref09_writing_consts [.ptr c 0, .agg (cs_IG v)]) (rConst 1 v.n) := IWr.mk fun H b f hc hs => by
  have hform : ∀ K, run (C k_ratchetref09_Form [.int .i64 v.op]) K = some (.ok (.str ⟨List.toArray [45]⟩) K) := fun K => by
    rw [rform_is hv.op.1 hv.op.2, formR_is, hk]
    rfl
  have q9 : (([45] : List UInt8) = [105, 51, 50]) = False := eq_false (by decide)
  have q10 : (([45] : List UInt8) = [105, 54, 52]) = False := eq_false (by decide)
  have q11 : (([45] : List UInt8) = [102, 51, 50]) = False := eq_false (by decide)
  have q12 : (([45] : List UInt8) = [102, 54, 52]) = False := eq_false (by decide)
  obtain ⟨n0, n1⟩ := hv.n
  rw [ratchetref09_writing_consts_eq]
  unfold cs_IG
  simp (contextual := true) (dsimp := false) (disch := first | omega | (simp only [List.length_append, List.length_cons, List.length_nil, Int.toNat_natCast]; omega)) only [↓kDown, kUp, ↓goDown, goUp, List.length_cons, List.length_nil, List.map_cons, List.map_nil, List.take_succ_cons, List.take_zero, List.drop_succ_cons, List.drop_zero, List.drop_nil, List.take_nil, List.cons_append, List.nil_append, List.append_nil, List.set_cons_zero, List.set_cons_succ, List.all_cons, List.all_nil, ↓reduceIte, reduceCtorEq, ge_iff_le, gt_iff_lt, eq_self_iff_true, beq_self_eq_true, beq_iff_eq, bne_iff_ne, ne_eq, ite_not, Int.reduceEq, Option.getD_some, Option.getD_none, ite_self, Nat.reduceAdd, Nat.reduceSub, Nat.reduceMul, Nat.reduceLeDiff, Nat.reduceEqDiff, Nat.reduceBEq, Nat.reduceBNe, Int.reduceLT, Int.reduceLE, Int.reduceAdd, Int.reduceSub, Int.reduceMul, Int.reduceNeg, Int.reduceNe, Int.reduceBEq, Int.reduceBNe, Int.reduceToNat, toK (m := C k_ratchetref09_Form [.int .i64 v.op]), hform, bytes_toList, q9, q10, q11, q12, decide_true, decide_false, rConst, encU_is, cells_Z, isCell_Z, low_Z, stripC_Z, isTup_Z, strip_Z, isCell_B, cells_B, low_B, List.append_assoc, List.append_nil, List.cons_append, List.nil_append, Bool.or_assoc, Bool.not_true, Bool.not_false, Bool.or_false, Bool.false_or, Bool.true_or, Bool.or_true]
theorem rcasts_2 {v : IG} (hv : v.w) (hk : formN v.op = 2) : IWr c (C k_ratchetref09_writing_casts [.ptr c 0, .agg (cs_IG v)]) (rCast 2 v) := IWr.mk fun H b f hc hs => by
  have hform : ∀ K, run (C k_ratchetref09_Form [.int .i64 v.op]) K = some (.ok (.str ⟨List.toArray [98, 108, 111, 99, 107]⟩) K) := fun K => by
    rw [rform_is hv.op.1 hv.op.2, formR_is, hk]
    rfl
  have q13 : (([98, 108, 111, 99, 107] : List UInt8) = [104, 101, 97, 112]) = False := eq_false (by decide)
  have q14 : (([98, 108, 111, 99, 107] : List UInt8) = [99, 97, 115, 116]) = False := eq_false (by decide)
  have q15 : (([98, 108, 111, 99, 107] : List UInt8) = [98, 114, 95, 99, 97, 115, 116]) = False := eq_false (by decide)
  rw [ratchetref09_writing_casts_eq]
  unfold cs_IG
  simp (contextual := true) (dsimp := false) (disch := first | omega | (simp only [List.length_append, List.length_cons, List.length_nil, Int.toNat_natCast]; omega)) only [↓kDown, kUp, ↓goDown, goUp, List.length_cons, List.length_nil, List.map_cons, List.map_nil, List.take_succ_cons, List.take_zero, List.drop_succ_cons, List.drop_zero, List.drop_nil, List.take_nil, List.cons_append, List.nil_append, List.append_nil, List.set_cons_zero, List.set_cons_succ, List.all_cons, List.all_nil, ↓reduceIte, reduceCtorEq, ge_iff_le, gt_iff_lt, eq_self_iff_true, beq_self_eq_true, beq_iff_eq, bne_iff_ne, ne_eq, ite_not, Int.reduceEq, Option.getD_some, Option.getD_none, ite_self, Nat.reduceAdd, Nat.reduceSub, Nat.reduceMul, Nat.reduceLeDiff, Nat.reduceEqDiff, Nat.reduceBEq, Nat.reduceBNe, Int.reduceLT, Int.reduceLE, Int.reduceAdd, Int.reduceSub, Int.reduceMul, Int.reduceNeg, Int.reduceNe, Int.reduceBEq, Int.reduceBNe, Int.reduceToNat, toK (m := C k_ratchetref09_Form [.int .i64 v.op]), hform, bytes_toList, q13, q14, q15, decide_true, decide_false, rCast, encU_is, cells_Z, isCell_Z, low_Z, stripC_Z, isTup_Z, strip_Z, isCell_B, cells_B, low_B, List.append_assoc, List.append_nil, List.cons_append, List.nil_append, Bool.or_assoc, Bool.not_true, Bool.not_false, Bool.or_false, Bool.false_or, Bool.true_or, Bool.or_true]
theorem rconsts_2 {v : IG} (hv : v.w) (hk : formN v.op = 2) : IWr c (C k_ratchetref09_writing_consts [.ptr c 0, .agg (cs_IG v)]) (rConst 2 v.n) := IWr.mk fun H b f hc hs => by
  have hform : ∀ K, run (C k_ratchetref09_Form [.int .i64 v.op]) K = some (.ok (.str ⟨List.toArray [98, 108, 111, 99, 107]⟩) K) := fun K => by
    rw [rform_is hv.op.1 hv.op.2, formR_is, hk]
    rfl
  have q9 : (([98, 108, 111, 99, 107] : List UInt8) = [105, 51, 50]) = False := eq_false (by decide)
  have q10 : (([98, 108, 111, 99, 107] : List UInt8) = [105, 54, 52]) = False := eq_false (by decide)
  have q11 : (([98, 108, 111, 99, 107] : List UInt8) = [102, 51, 50]) = False := eq_false (by decide)
  have q12 : (([98, 108, 111, 99, 107] : List UInt8) = [102, 54, 52]) = False := eq_false (by decide)
  obtain ⟨n0, n1⟩ := hv.n
  rw [ratchetref09_writing_consts_eq]
  unfold cs_IG
  simp (contextual := true) (dsimp := false) (disch := first | omega | (simp only [List.length_append, List.length_cons, List.length_nil, Int.toNat_natCast]; omega)) only [↓kDown, kUp, ↓goDown, goUp, List.length_cons, List.length_nil, List.map_cons, List.map_nil, List.take_succ_cons, List.take_zero, List.drop_succ_cons, List.drop_zero, List.drop_nil, List.take_nil, List.cons_append, List.nil_append, List.append_nil, List.set_cons_zero, List.set_cons_succ, List.all_cons, List.all_nil, ↓reduceIte, reduceCtorEq, ge_iff_le, gt_iff_lt, eq_self_iff_true, beq_self_eq_true, beq_iff_eq, bne_iff_ne, ne_eq, ite_not, Int.reduceEq, Option.getD_some, Option.getD_none, ite_self, Nat.reduceAdd, Nat.reduceSub, Nat.reduceMul, Nat.reduceLeDiff, Nat.reduceEqDiff, Nat.reduceBEq, Nat.reduceBNe, Int.reduceLT, Int.reduceLE, Int.reduceAdd, Int.reduceSub, Int.reduceMul, Int.reduceNeg, Int.reduceNe, Int.reduceBEq, Int.reduceBNe, Int.reduceToNat, toK (m := C k_ratchetref09_Form [.int .i64 v.op]), hform, bytes_toList, q9, q10, q11, q12, decide_true, decide_false, rConst, encU_is, cells_Z, isCell_Z, low_Z, stripC_Z, isTup_Z, strip_Z, isCell_B, cells_B, low_B, List.append_assoc, List.append_nil, List.cons_append, List.nil_append, Bool.or_assoc, Bool.not_true, Bool.not_false, Bool.or_false, Bool.false_or, Bool.true_or, Bool.or_true]
theorem rcasts_3 {v : IG} (hv : v.w) (hk : formN v.op = 3) : IWr c (C k_ratchetref09_writing_casts [.ptr c 0, .agg (cs_IG v)]) (rCast 3 v) := IWr.mk fun H b f hc hs => by
  have hform : ∀ K, run (C k_ratchetref09_Form [.int .i64 v.op]) K = some (.ok (.str ⟨List.toArray [116, 114, 121]⟩) K) := fun K => by
    rw [rform_is hv.op.1 hv.op.2, formR_is, hk]
    rfl
  have q13 : (([116, 114, 121] : List UInt8) = [104, 101, 97, 112]) = False := eq_false (by decide)
  have q14 : (([116, 114, 121] : List UInt8) = [99, 97, 115, 116]) = False := eq_false (by decide)
  have q15 : (([116, 114, 121] : List UInt8) = [98, 114, 95, 99, 97, 115, 116]) = False := eq_false (by decide)
  rw [ratchetref09_writing_casts_eq]
  unfold cs_IG
  simp (contextual := true) (dsimp := false) (disch := first | omega | (simp only [List.length_append, List.length_cons, List.length_nil, Int.toNat_natCast]; omega)) only [↓kDown, kUp, ↓goDown, goUp, List.length_cons, List.length_nil, List.map_cons, List.map_nil, List.take_succ_cons, List.take_zero, List.drop_succ_cons, List.drop_zero, List.drop_nil, List.take_nil, List.cons_append, List.nil_append, List.append_nil, List.set_cons_zero, List.set_cons_succ, List.all_cons, List.all_nil, ↓reduceIte, reduceCtorEq, ge_iff_le, gt_iff_lt, eq_self_iff_true, beq_self_eq_true, beq_iff_eq, bne_iff_ne, ne_eq, ite_not, Int.reduceEq, Option.getD_some, Option.getD_none, ite_self, Nat.reduceAdd, Nat.reduceSub, Nat.reduceMul, Nat.reduceLeDiff, Nat.reduceEqDiff, Nat.reduceBEq, Nat.reduceBNe, Int.reduceLT, Int.reduceLE, Int.reduceAdd, Int.reduceSub, Int.reduceMul, Int.reduceNeg, Int.reduceNe, Int.reduceBEq, Int.reduceBNe, Int.reduceToNat, toK (m := C k_ratchetref09_Form [.int .i64 v.op]), hform, bytes_toList, q13, q14, q15, decide_true, decide_false, rCast, encU_is, cells_Z, isCell_Z, low_Z, stripC_Z, isTup_Z, strip_Z, isCell_B, cells_B, low_B, List.append_assoc, List.append_nil, List.cons_append, List.nil_append, Bool.or_assoc, Bool.not_true, Bool.not_false, Bool.or_false, Bool.false_or, Bool.true_or, Bool.or_true]
theorem rconsts_3 {v : IG} (hv : v.w) (hk : formN v.op = 3) : IWr c (C k_ratchetref09_writing_consts [.ptr c 0, .agg (cs_IG v)]) (rConst 3 v.n) := IWr.mk fun H b f hc hs => by
  have hform : ∀ K, run (C k_ratchetref09_Form [.int .i64 v.op]) K = some (.ok (.str ⟨List.toArray [116, 114, 121]⟩) K) := fun K => by
    rw [rform_is hv.op.1 hv.op.2, formR_is, hk]
    rfl
  have q9 : (([116, 114, 121] : List UInt8) = [105, 51, 50]) = False := eq_false (by decide)
  have q10 : (([116, 114, 121] : List UInt8) = [105, 54, 52]) = False := eq_false (by decide)
  have q11 : (([116, 114, 121] : List UInt8) = [102, 51, 50]) = False := eq_false (by decide)
  have q12 : (([116, 114, 121] : List UInt8) = [102, 54, 52]) = False := eq_false (by decide)
  obtain ⟨n0, n1⟩ := hv.n
  rw [ratchetref09_writing_consts_eq]
  unfold cs_IG
  simp (contextual := true) (dsimp := false) (disch := first | omega | (simp only [List.length_append, List.length_cons, List.length_nil, Int.toNat_natCast]; omega)) only [↓kDown, kUp, ↓goDown, goUp, List.length_cons, List.length_nil, List.map_cons, List.map_nil, List.take_succ_cons, List.take_zero, List.drop_succ_cons, List.drop_zero, List.drop_nil, List.take_nil, List.cons_append, List.nil_append, List.append_nil, List.set_cons_zero, List.set_cons_succ, List.all_cons, List.all_nil, ↓reduceIte, reduceCtorEq, ge_iff_le, gt_iff_lt, eq_self_iff_true, beq_self_eq_true, beq_iff_eq, bne_iff_ne, ne_eq, ite_not, Int.reduceEq, Option.getD_some, Option.getD_none, ite_self, Nat.reduceAdd, Nat.reduceSub, Nat.reduceMul, Nat.reduceLeDiff, Nat.reduceEqDiff, Nat.reduceBEq, Nat.reduceBNe, Int.reduceLT, Int.reduceLE, Int.reduceAdd, Int.reduceSub, Int.reduceMul, Int.reduceNeg, Int.reduceNe, Int.reduceBEq, Int.reduceBNe, Int.reduceToNat, toK (m := C k_ratchetref09_Form [.int .i64 v.op]), hform, bytes_toList, q9, q10, q11, q12, decide_true, decide_false, rConst, encU_is, cells_Z, isCell_Z, low_Z, stripC_Z, isTup_Z, strip_Z, isCell_B, cells_B, low_B, List.append_assoc, List.append_nil, List.cons_append, List.nil_append, Bool.or_assoc, Bool.not_true, Bool.not_false, Bool.or_false, Bool.false_or, Bool.true_or, Bool.or_true]
theorem rcasts_4 {v : IG} (hv : v.w) (hk : formN v.op = 4) : IWr c (C k_ratchetref09_writing_casts [.ptr c 0, .agg (cs_IG v)]) (rCast 4 v) := IWr.mk fun H b f hc hs => by
  have hform : ∀ K, run (C k_ratchetref09_Form [.int .i64 v.op]) K = some (.ok (.str ⟨List.toArray [120]⟩) K) := fun K => by
    rw [rform_is hv.op.1 hv.op.2, formR_is, hk]
    rfl
  have q13 : (([120] : List UInt8) = [104, 101, 97, 112]) = False := eq_false (by decide)
  have q14 : (([120] : List UInt8) = [99, 97, 115, 116]) = False := eq_false (by decide)
  have q15 : (([120] : List UInt8) = [98, 114, 95, 99, 97, 115, 116]) = False := eq_false (by decide)
  rw [ratchetref09_writing_casts_eq]
  unfold cs_IG
  simp (contextual := true) (dsimp := false) (disch := first | omega | (simp only [List.length_append, List.length_cons, List.length_nil, Int.toNat_natCast]; omega)) only [↓kDown, kUp, ↓goDown, goUp, List.length_cons, List.length_nil, List.map_cons, List.map_nil, List.take_succ_cons, List.take_zero, List.drop_succ_cons, List.drop_zero, List.drop_nil, List.take_nil, List.cons_append, List.nil_append, List.append_nil, List.set_cons_zero, List.set_cons_succ, List.all_cons, List.all_nil, ↓reduceIte, reduceCtorEq, ge_iff_le, gt_iff_lt, eq_self_iff_true, beq_self_eq_true, beq_iff_eq, bne_iff_ne, ne_eq, ite_not, Int.reduceEq, Option.getD_some, Option.getD_none, ite_self, Nat.reduceAdd, Nat.reduceSub, Nat.reduceMul, Nat.reduceLeDiff, Nat.reduceEqDiff, Nat.reduceBEq, Nat.reduceBNe, Int.reduceLT, Int.reduceLE, Int.reduceAdd, Int.reduceSub, Int.reduceMul, Int.reduceNeg, Int.reduceNe, Int.reduceBEq, Int.reduceBNe, Int.reduceToNat, toK (m := C k_ratchetref09_Form [.int .i64 v.op]), hform, bytes_toList, q13, q14, q15, decide_true, decide_false, rCast, encU_is, cells_Z, isCell_Z, low_Z, stripC_Z, isTup_Z, strip_Z, isCell_B, cells_B, low_B, List.append_assoc, List.append_nil, List.cons_append, List.nil_append, Bool.or_assoc, Bool.not_true, Bool.not_false, Bool.or_false, Bool.false_or, Bool.true_or, Bool.or_true]
theorem rconsts_4 {v : IG} (hv : v.w) (hk : formN v.op = 4) : IWr c (C k_ratchetref09_writing_consts [.ptr c 0, .agg (cs_IG v)]) (rConst 4 v.n) := IWr.mk fun H b f hc hs => by
  have hform : ∀ K, run (C k_ratchetref09_Form [.int .i64 v.op]) K = some (.ok (.str ⟨List.toArray [120]⟩) K) := fun K => by
    rw [rform_is hv.op.1 hv.op.2, formR_is, hk]
    rfl
  have q9 : (([120] : List UInt8) = [105, 51, 50]) = False := eq_false (by decide)
  have q10 : (([120] : List UInt8) = [105, 54, 52]) = False := eq_false (by decide)
  have q11 : (([120] : List UInt8) = [102, 51, 50]) = False := eq_false (by decide)
  have q12 : (([120] : List UInt8) = [102, 54, 52]) = False := eq_false (by decide)
  obtain ⟨n0, n1⟩ := hv.n
  rw [ratchetref09_writing_consts_eq]
  unfold cs_IG
  simp (contextual := true) (dsimp := false) (disch := first | omega | (simp only [List.length_append, List.length_cons, List.length_nil, Int.toNat_natCast]; omega)) only [↓kDown, kUp, ↓goDown, goUp, List.length_cons, List.length_nil, List.map_cons, List.map_nil, List.take_succ_cons, List.take_zero, List.drop_succ_cons, List.drop_zero, List.drop_nil, List.take_nil, List.cons_append, List.nil_append, List.append_nil, List.set_cons_zero, List.set_cons_succ, List.all_cons, List.all_nil, ↓reduceIte, reduceCtorEq, ge_iff_le, gt_iff_lt, eq_self_iff_true, beq_self_eq_true, beq_iff_eq, bne_iff_ne, ne_eq, ite_not, Int.reduceEq, Option.getD_some, Option.getD_none, ite_self, Nat.reduceAdd, Nat.reduceSub, Nat.reduceMul, Nat.reduceLeDiff, Nat.reduceEqDiff, Nat.reduceBEq, Nat.reduceBNe, Int.reduceLT, Int.reduceLE, Int.reduceAdd, Int.reduceSub, Int.reduceMul, Int.reduceNeg, Int.reduceNe, Int.reduceBEq, Int.reduceBNe, Int.reduceToNat, toK (m := C k_ratchetref09_Form [.int .i64 v.op]), hform, bytes_toList, q9, q10, q11, q12, decide_true, decide_false, rConst, encU_is, cells_Z, isCell_Z, low_Z, stripC_Z, isTup_Z, strip_Z, isCell_B, cells_B, low_B, List.append_assoc, List.append_nil, List.cons_append, List.nil_append, Bool.or_assoc, Bool.not_true, Bool.not_false, Bool.or_false, Bool.false_or, Bool.true_or, Bool.or_true]
theorem rcasts_5 {v : IG} (hv : v.w) (hk : formN v.op = 5) : IWr c (C k_ratchetref09_writing_casts [.ptr c 0, .agg (cs_IG v)]) (rCast 5 v) := IWr.mk fun H b f hc hs => by
  have hform : ∀ K, run (C k_ratchetref09_Form [.int .i64 v.op]) K = some (.ok (.str ⟨List.toArray [120, 121]⟩) K) := fun K => by
    rw [rform_is hv.op.1 hv.op.2, formR_is, hk]
    rfl
  have q13 : (([120, 121] : List UInt8) = [104, 101, 97, 112]) = False := eq_false (by decide)
  have q14 : (([120, 121] : List UInt8) = [99, 97, 115, 116]) = False := eq_false (by decide)
  have q15 : (([120, 121] : List UInt8) = [98, 114, 95, 99, 97, 115, 116]) = False := eq_false (by decide)
  rw [ratchetref09_writing_casts_eq]
  unfold cs_IG
  simp (contextual := true) (dsimp := false) (disch := first | omega | (simp only [List.length_append, List.length_cons, List.length_nil, Int.toNat_natCast]; omega)) only [↓kDown, kUp, ↓goDown, goUp, List.length_cons, List.length_nil, List.map_cons, List.map_nil, List.take_succ_cons, List.take_zero, List.drop_succ_cons, List.drop_zero, List.drop_nil, List.take_nil, List.cons_append, List.nil_append, List.append_nil, List.set_cons_zero, List.set_cons_succ, List.all_cons, List.all_nil, ↓reduceIte, reduceCtorEq, ge_iff_le, gt_iff_lt, eq_self_iff_true, beq_self_eq_true, beq_iff_eq, bne_iff_ne, ne_eq, ite_not, Int.reduceEq, Option.getD_some, Option.getD_none, ite_self, Nat.reduceAdd, Nat.reduceSub, Nat.reduceMul, Nat.reduceLeDiff, Nat.reduceEqDiff, Nat.reduceBEq, Nat.reduceBNe, Int.reduceLT, Int.reduceLE, Int.reduceAdd, Int.reduceSub, Int.reduceMul, Int.reduceNeg, Int.reduceNe, Int.reduceBEq, Int.reduceBNe, Int.reduceToNat, toK (m := C k_ratchetref09_Form [.int .i64 v.op]), hform, bytes_toList, q13, q14, q15, decide_true, decide_false, rCast, encU_is, cells_Z, isCell_Z, low_Z, stripC_Z, isTup_Z, strip_Z, isCell_B, cells_B, low_B, List.append_assoc, List.append_nil, List.cons_append, List.nil_append, Bool.or_assoc, Bool.not_true, Bool.not_false, Bool.or_false, Bool.false_or, Bool.true_or, Bool.or_true]
theorem rconsts_5 {v : IG} (hv : v.w) (hk : formN v.op = 5) : IWr c (C k_ratchetref09_writing_consts [.ptr c 0, .agg (cs_IG v)]) (rConst 5 v.n) := IWr.mk fun H b f hc hs => by
  have hform : ∀ K, run (C k_ratchetref09_Form [.int .i64 v.op]) K = some (.ok (.str ⟨List.toArray [120, 121]⟩) K) := fun K => by
    rw [rform_is hv.op.1 hv.op.2, formR_is, hk]
    rfl
  have q9 : (([120, 121] : List UInt8) = [105, 51, 50]) = False := eq_false (by decide)
  have q10 : (([120, 121] : List UInt8) = [105, 54, 52]) = False := eq_false (by decide)
  have q11 : (([120, 121] : List UInt8) = [102, 51, 50]) = False := eq_false (by decide)
  have q12 : (([120, 121] : List UInt8) = [102, 54, 52]) = False := eq_false (by decide)
  obtain ⟨n0, n1⟩ := hv.n
  rw [ratchetref09_writing_consts_eq]
  unfold cs_IG
  simp (contextual := true) (dsimp := false) (disch := first | omega | (simp only [List.length_append, List.length_cons, List.length_nil, Int.toNat_natCast]; omega)) only [↓kDown, kUp, ↓goDown, goUp, List.length_cons, List.length_nil, List.map_cons, List.map_nil, List.take_succ_cons, List.take_zero, List.drop_succ_cons, List.drop_zero, List.drop_nil, List.take_nil, List.cons_append, List.nil_append, List.append_nil, List.set_cons_zero, List.set_cons_succ, List.all_cons, List.all_nil, ↓reduceIte, reduceCtorEq, ge_iff_le, gt_iff_lt, eq_self_iff_true, beq_self_eq_true, beq_iff_eq, bne_iff_ne, ne_eq, ite_not, Int.reduceEq, Option.getD_some, Option.getD_none, ite_self, Nat.reduceAdd, Nat.reduceSub, Nat.reduceMul, Nat.reduceLeDiff, Nat.reduceEqDiff, Nat.reduceBEq, Nat.reduceBNe, Int.reduceLT, Int.reduceLE, Int.reduceAdd, Int.reduceSub, Int.reduceMul, Int.reduceNeg, Int.reduceNe, Int.reduceBEq, Int.reduceBNe, Int.reduceToNat, toK (m := C k_ratchetref09_Form [.int .i64 v.op]), hform, bytes_toList, q9, q10, q11, q12, decide_true, decide_false, rConst, encU_is, cells_Z, isCell_Z, low_Z, stripC_Z, isTup_Z, strip_Z, isCell_B, cells_B, low_B, List.append_assoc, List.append_nil, List.cons_append, List.nil_append, Bool.or_assoc, Bool.not_true, Bool.not_false, Bool.or_false, Bool.false_or, Bool.true_or, Bool.or_true]
theorem rcasts_6 {v : IG} (hv : v.w) (hk : formN v.op = 6) : IWr c (C k_ratchetref09_writing_casts [.ptr c 0, .agg (cs_IG v)]) (rCast 6 v) := IWr.mk fun H b f hc hs => by
  have hform : ∀ K, run (C k_ratchetref09_Form [.int .i64 v.op]) K = some (.ok (.str ⟨List.toArray [116, 97, 98, 108, 101]⟩) K) := fun K => by
    rw [rform_is hv.op.1 hv.op.2, formR_is, hk]
    rfl
  have q13 : (([116, 97, 98, 108, 101] : List UInt8) = [104, 101, 97, 112]) = False := eq_false (by decide)
  have q14 : (([116, 97, 98, 108, 101] : List UInt8) = [99, 97, 115, 116]) = False := eq_false (by decide)
  have q15 : (([116, 97, 98, 108, 101] : List UInt8) = [98, 114, 95, 99, 97, 115, 116]) = False := eq_false (by decide)
  rw [ratchetref09_writing_casts_eq]
  unfold cs_IG
  simp (contextual := true) (dsimp := false) (disch := first | omega | (simp only [List.length_append, List.length_cons, List.length_nil, Int.toNat_natCast]; omega)) only [↓kDown, kUp, ↓goDown, goUp, List.length_cons, List.length_nil, List.map_cons, List.map_nil, List.take_succ_cons, List.take_zero, List.drop_succ_cons, List.drop_zero, List.drop_nil, List.take_nil, List.cons_append, List.nil_append, List.append_nil, List.set_cons_zero, List.set_cons_succ, List.all_cons, List.all_nil, ↓reduceIte, reduceCtorEq, ge_iff_le, gt_iff_lt, eq_self_iff_true, beq_self_eq_true, beq_iff_eq, bne_iff_ne, ne_eq, ite_not, Int.reduceEq, Option.getD_some, Option.getD_none, ite_self, Nat.reduceAdd, Nat.reduceSub, Nat.reduceMul, Nat.reduceLeDiff, Nat.reduceEqDiff, Nat.reduceBEq, Nat.reduceBNe, Int.reduceLT, Int.reduceLE, Int.reduceAdd, Int.reduceSub, Int.reduceMul, Int.reduceNeg, Int.reduceNe, Int.reduceBEq, Int.reduceBNe, Int.reduceToNat, toK (m := C k_ratchetref09_Form [.int .i64 v.op]), hform, bytes_toList, q13, q14, q15, decide_true, decide_false, rCast, encU_is, cells_Z, isCell_Z, low_Z, stripC_Z, isTup_Z, strip_Z, isCell_B, cells_B, low_B, List.append_assoc, List.append_nil, List.cons_append, List.nil_append, Bool.or_assoc, Bool.not_true, Bool.not_false, Bool.or_false, Bool.false_or, Bool.true_or, Bool.or_true]
theorem rconsts_6 {v : IG} (hv : v.w) (hk : formN v.op = 6) : IWr c (C k_ratchetref09_writing_consts [.ptr c 0, .agg (cs_IG v)]) (rConst 6 v.n) := IWr.mk fun H b f hc hs => by
  have hform : ∀ K, run (C k_ratchetref09_Form [.int .i64 v.op]) K = some (.ok (.str ⟨List.toArray [116, 97, 98, 108, 101]⟩) K) := fun K => by
    rw [rform_is hv.op.1 hv.op.2, formR_is, hk]
    rfl
  have q9 : (([116, 97, 98, 108, 101] : List UInt8) = [105, 51, 50]) = False := eq_false (by decide)
  have q10 : (([116, 97, 98, 108, 101] : List UInt8) = [105, 54, 52]) = False := eq_false (by decide)
  have q11 : (([116, 97, 98, 108, 101] : List UInt8) = [102, 51, 50]) = False := eq_false (by decide)
  have q12 : (([116, 97, 98, 108, 101] : List UInt8) = [102, 54, 52]) = False := eq_false (by decide)
  obtain ⟨n0, n1⟩ := hv.n
  rw [ratchetref09_writing_consts_eq]
  unfold cs_IG
  simp (contextual := true) (dsimp := false) (disch := first | omega | (simp only [List.length_append, List.length_cons, List.length_nil, Int.toNat_natCast]; omega)) only [↓kDown, kUp, ↓goDown, goUp, List.length_cons, List.length_nil, List.map_cons, List.map_nil, List.take_succ_cons, List.take_zero, List.drop_succ_cons, List.drop_zero, List.drop_nil, List.take_nil, List.cons_append, List.nil_append, List.append_nil, List.set_cons_zero, List.set_cons_succ, List.all_cons, List.all_nil, ↓reduceIte, reduceCtorEq, ge_iff_le, gt_iff_lt, eq_self_iff_true, beq_self_eq_true, beq_iff_eq, bne_iff_ne, ne_eq, ite_not, Int.reduceEq, Option.getD_some, Option.getD_none, ite_self, Nat.reduceAdd, Nat.reduceSub, Nat.reduceMul, Nat.reduceLeDiff, Nat.reduceEqDiff, Nat.reduceBEq, Nat.reduceBNe, Int.reduceLT, Int.reduceLE, Int.reduceAdd, Int.reduceSub, Int.reduceMul, Int.reduceNeg, Int.reduceNe, Int.reduceBEq, Int.reduceBNe, Int.reduceToNat, toK (m := C k_ratchetref09_Form [.int .i64 v.op]), hform, bytes_toList, q9, q10, q11, q12, decide_true, decide_false, rConst, encU_is, cells_Z, isCell_Z, low_Z, stripC_Z, isTup_Z, strip_Z, isCell_B, cells_B, low_B, List.append_assoc, List.append_nil, List.cons_append, List.nil_append, Bool.or_assoc, Bool.not_true, Bool.not_false, Bool.or_false, Bool.false_or, Bool.true_or, Bool.or_true]
theorem rcasts_7 {v : IG} (hv : v.w) (hk : formN v.op = 7) : IWr c (C k_ratchetref09_writing_casts [.ptr c 0, .agg (cs_IG v)]) (rCast 7 v) := IWr.mk fun H b f hc hs => by
  have hform : ∀ K, run (C k_ratchetref09_Form [.int .i64 v.op]) K = some (.ok (.str ⟨List.toArray [115, 101, 108, 101, 99, 116]⟩) K) := fun K => by
    rw [rform_is hv.op.1 hv.op.2, formR_is, hk]
    rfl
  have q13 : (([115, 101, 108, 101, 99, 116] : List UInt8) = [104, 101, 97, 112]) = False := eq_false (by decide)
  have q14 : (([115, 101, 108, 101, 99, 116] : List UInt8) = [99, 97, 115, 116]) = False := eq_false (by decide)
  have q15 : (([115, 101, 108, 101, 99, 116] : List UInt8) = [98, 114, 95, 99, 97, 115, 116]) = False := eq_false (by decide)
  rw [ratchetref09_writing_casts_eq]
  unfold cs_IG
  simp (contextual := true) (dsimp := false) (disch := first | omega | (simp only [List.length_append, List.length_cons, List.length_nil, Int.toNat_natCast]; omega)) only [↓kDown, kUp, ↓goDown, goUp, List.length_cons, List.length_nil, List.map_cons, List.map_nil, List.take_succ_cons, List.take_zero, List.drop_succ_cons, List.drop_zero, List.drop_nil, List.take_nil, List.cons_append, List.nil_append, List.append_nil, List.set_cons_zero, List.set_cons_succ, List.all_cons, List.all_nil, ↓reduceIte, reduceCtorEq, ge_iff_le, gt_iff_lt, eq_self_iff_true, beq_self_eq_true, beq_iff_eq, bne_iff_ne, ne_eq, ite_not, Int.reduceEq, Option.getD_some, Option.getD_none, ite_self, Nat.reduceAdd, Nat.reduceSub, Nat.reduceMul, Nat.reduceLeDiff, Nat.reduceEqDiff, Nat.reduceBEq, Nat.reduceBNe, Int.reduceLT, Int.reduceLE, Int.reduceAdd, Int.reduceSub, Int.reduceMul, Int.reduceNeg, Int.reduceNe, Int.reduceBEq, Int.reduceBNe, Int.reduceToNat, toK (m := C k_ratchetref09_Form [.int .i64 v.op]), hform, bytes_toList, q13, q14, q15, decide_true, decide_false, rCast, encU_is, cells_Z, isCell_Z, low_Z, stripC_Z, isTup_Z, strip_Z, isCell_B, cells_B, low_B, List.append_assoc, List.append_nil, List.cons_append, List.nil_append, Bool.or_assoc, Bool.not_true, Bool.not_false, Bool.or_false, Bool.false_or, Bool.true_or, Bool.or_true]
theorem rconsts_7 {v : IG} (hv : v.w) (hk : formN v.op = 7) : IWr c (C k_ratchetref09_writing_consts [.ptr c 0, .agg (cs_IG v)]) (rConst 7 v.n) := IWr.mk fun H b f hc hs => by
  have hform : ∀ K, run (C k_ratchetref09_Form [.int .i64 v.op]) K = some (.ok (.str ⟨List.toArray [115, 101, 108, 101, 99, 116]⟩) K) := fun K => by
    rw [rform_is hv.op.1 hv.op.2, formR_is, hk]
    rfl
  have q9 : (([115, 101, 108, 101, 99, 116] : List UInt8) = [105, 51, 50]) = False := eq_false (by decide)
  have q10 : (([115, 101, 108, 101, 99, 116] : List UInt8) = [105, 54, 52]) = False := eq_false (by decide)
  have q11 : (([115, 101, 108, 101, 99, 116] : List UInt8) = [102, 51, 50]) = False := eq_false (by decide)
  have q12 : (([115, 101, 108, 101, 99, 116] : List UInt8) = [102, 54, 52]) = False := eq_false (by decide)
  obtain ⟨n0, n1⟩ := hv.n
  rw [ratchetref09_writing_consts_eq]
  unfold cs_IG
  simp (contextual := true) (dsimp := false) (disch := first | omega | (simp only [List.length_append, List.length_cons, List.length_nil, Int.toNat_natCast]; omega)) only [↓kDown, kUp, ↓goDown, goUp, List.length_cons, List.length_nil, List.map_cons, List.map_nil, List.take_succ_cons, List.take_zero, List.drop_succ_cons, List.drop_zero, List.drop_nil, List.take_nil, List.cons_append, List.nil_append, List.append_nil, List.set_cons_zero, List.set_cons_succ, List.all_cons, List.all_nil, ↓reduceIte, reduceCtorEq, ge_iff_le, gt_iff_lt, eq_self_iff_true, beq_self_eq_true, beq_iff_eq, bne_iff_ne, ne_eq, ite_not, Int.reduceEq, Option.getD_some, Option.getD_none, ite_self, Nat.reduceAdd, Nat.reduceSub, Nat.reduceMul, Nat.reduceLeDiff, Nat.reduceEqDiff, Nat.reduceBEq, Nat.reduceBNe, Int.reduceLT, Int.reduceLE, Int.reduceAdd, Int.reduceSub, Int.reduceMul, Int.reduceNeg, Int.reduceNe, Int.reduceBEq, Int.reduceBNe, Int.reduceToNat, toK (m := C k_ratchetref09_Form [.int .i64 v.op]), hform, bytes_toList, q9, q10, q11, q12, decide_true, decide_false, rConst, encU_is, cells_Z, isCell_Z, low_Z, stripC_Z, isTup_Z, strip_Z, isCell_B, cells_B, low_B, List.append_assoc, List.append_nil, List.cons_append, List.nil_append, Bool.or_assoc, Bool.not_true, Bool.not_false, Bool.or_false, Bool.false_or, Bool.true_or, Bool.or_true]
theorem rcasts_8 {v : IG} (hv : v.w) (hk : formN v.op = 8) : IWr c (C k_ratchetref09_writing_casts [.ptr c 0, .agg (cs_IG v)]) (rCast 8 v) := IWr.mk fun H b f hc hs => by
  have hform : ∀ K, run (C k_ratchetref09_Form [.int .i64 v.op]) K = some (.ok (.str ⟨List.toArray [109, 101, 109]⟩) K) := fun K => by
    rw [rform_is hv.op.1 hv.op.2, formR_is, hk]
    rfl
  have q13 : (([109, 101, 109] : List UInt8) = [104, 101, 97, 112]) = False := eq_false (by decide)
  have q14 : (([109, 101, 109] : List UInt8) = [99, 97, 115, 116]) = False := eq_false (by decide)
  have q15 : (([109, 101, 109] : List UInt8) = [98, 114, 95, 99, 97, 115, 116]) = False := eq_false (by decide)
  rw [ratchetref09_writing_casts_eq]
  unfold cs_IG
  simp (contextual := true) (dsimp := false) (disch := first | omega | (simp only [List.length_append, List.length_cons, List.length_nil, Int.toNat_natCast]; omega)) only [↓kDown, kUp, ↓goDown, goUp, List.length_cons, List.length_nil, List.map_cons, List.map_nil, List.take_succ_cons, List.take_zero, List.drop_succ_cons, List.drop_zero, List.drop_nil, List.take_nil, List.cons_append, List.nil_append, List.append_nil, List.set_cons_zero, List.set_cons_succ, List.all_cons, List.all_nil, ↓reduceIte, reduceCtorEq, ge_iff_le, gt_iff_lt, eq_self_iff_true, beq_self_eq_true, beq_iff_eq, bne_iff_ne, ne_eq, ite_not, Int.reduceEq, Option.getD_some, Option.getD_none, ite_self, Nat.reduceAdd, Nat.reduceSub, Nat.reduceMul, Nat.reduceLeDiff, Nat.reduceEqDiff, Nat.reduceBEq, Nat.reduceBNe, Int.reduceLT, Int.reduceLE, Int.reduceAdd, Int.reduceSub, Int.reduceMul, Int.reduceNeg, Int.reduceNe, Int.reduceBEq, Int.reduceBNe, Int.reduceToNat, toK (m := C k_ratchetref09_Form [.int .i64 v.op]), hform, bytes_toList, q13, q14, q15, decide_true, decide_false, rCast, encU_is, cells_Z, isCell_Z, low_Z, stripC_Z, isTup_Z, strip_Z, isCell_B, cells_B, low_B, List.append_assoc, List.append_nil, List.cons_append, List.nil_append, Bool.or_assoc, Bool.not_true, Bool.not_false, Bool.or_false, Bool.false_or, Bool.true_or, Bool.or_true]
theorem rconsts_8 {v : IG} (hv : v.w) (hk : formN v.op = 8) : IWr c (C k_ratchetref09_writing_consts [.ptr c 0, .agg (cs_IG v)]) (rConst 8 v.n) := IWr.mk fun H b f hc hs => by
  have hform : ∀ K, run (C k_ratchetref09_Form [.int .i64 v.op]) K = some (.ok (.str ⟨List.toArray [109, 101, 109]⟩) K) := fun K => by
    rw [rform_is hv.op.1 hv.op.2, formR_is, hk]
    rfl
  have q9 : (([109, 101, 109] : List UInt8) = [105, 51, 50]) = False := eq_false (by decide)
  have q10 : (([109, 101, 109] : List UInt8) = [105, 54, 52]) = False := eq_false (by decide)
  have q11 : (([109, 101, 109] : List UInt8) = [102, 51, 50]) = False := eq_false (by decide)
  have q12 : (([109, 101, 109] : List UInt8) = [102, 54, 52]) = False := eq_false (by decide)
  obtain ⟨n0, n1⟩ := hv.n
  rw [ratchetref09_writing_consts_eq]
  unfold cs_IG
  simp (contextual := true) (dsimp := false) (disch := first | omega | (simp only [List.length_append, List.length_cons, List.length_nil, Int.toNat_natCast]; omega)) only [↓kDown, kUp, ↓goDown, goUp, List.length_cons, List.length_nil, List.map_cons, List.map_nil, List.take_succ_cons, List.take_zero, List.drop_succ_cons, List.drop_zero, List.drop_nil, List.take_nil, List.cons_append, List.nil_append, List.append_nil, List.set_cons_zero, List.set_cons_succ, List.all_cons, List.all_nil, ↓reduceIte, reduceCtorEq, ge_iff_le, gt_iff_lt, eq_self_iff_true, beq_self_eq_true, beq_iff_eq, bne_iff_ne, ne_eq, ite_not, Int.reduceEq, Option.getD_some, Option.getD_none, ite_self, Nat.reduceAdd, Nat.reduceSub, Nat.reduceMul, Nat.reduceLeDiff, Nat.reduceEqDiff, Nat.reduceBEq, Nat.reduceBNe, Int.reduceLT, Int.reduceLE, Int.reduceAdd, Int.reduceSub, Int.reduceMul, Int.reduceNeg, Int.reduceNe, Int.reduceBEq, Int.reduceBNe, Int.reduceToNat, toK (m := C k_ratchetref09_Form [.int .i64 v.op]), hform, bytes_toList, q9, q10, q11, q12, decide_true, decide_false, rConst, encU_is, cells_Z, isCell_Z, low_Z, stripC_Z, isTup_Z, strip_Z, isCell_B, cells_B, low_B, List.append_assoc, List.append_nil, List.cons_append, List.nil_append, Bool.or_assoc, Bool.not_true, Bool.not_false, Bool.or_false, Bool.false_or, Bool.true_or, Bool.or_true]
theorem rcasts_9 {v : IG} (hv : v.w) (hk : formN v.op = 9) : IWr c (C k_ratchetref09_writing_casts [.ptr c 0, .agg (cs_IG v)]) (rCast 9 v) := IWr.mk fun H b f hc hs => by
  have hform : ∀ K, run (C k_ratchetref09_Form [.int .i64 v.op]) K = some (.ok (.str ⟨List.toArray [105, 51, 50]⟩) K) := fun K => by
    rw [rform_is hv.op.1 hv.op.2, formR_is, hk]
    rfl
  have q13 : (([105, 51, 50] : List UInt8) = [104, 101, 97, 112]) = False := eq_false (by decide)
  have q14 : (([105, 51, 50] : List UInt8) = [99, 97, 115, 116]) = False := eq_false (by decide)
  have q15 : (([105, 51, 50] : List UInt8) = [98, 114, 95, 99, 97, 115, 116]) = False := eq_false (by decide)
  rw [ratchetref09_writing_casts_eq]
  unfold cs_IG
  simp (contextual := true) (dsimp := false) (disch := first | omega | (simp only [List.length_append, List.length_cons, List.length_nil, Int.toNat_natCast]; omega)) only [↓kDown, kUp, ↓goDown, goUp, List.length_cons, List.length_nil, List.map_cons, List.map_nil, List.take_succ_cons, List.take_zero, List.drop_succ_cons, List.drop_zero, List.drop_nil, List.take_nil, List.cons_append, List.nil_append, List.append_nil, List.set_cons_zero, List.set_cons_succ, List.all_cons, List.all_nil, ↓reduceIte, reduceCtorEq, ge_iff_le, gt_iff_lt, eq_self_iff_true, beq_self_eq_true, beq_iff_eq, bne_iff_ne, ne_eq, ite_not, Int.reduceEq, Option.getD_some, Option.getD_none, ite_self, Nat.reduceAdd, Nat.reduceSub, Nat.reduceMul, Nat.reduceLeDiff, Nat.reduceEqDiff, Nat.reduceBEq, Nat.reduceBNe, Int.reduceLT, Int.reduceLE, Int.reduceAdd, Int.reduceSub, Int.reduceMul, Int.reduceNeg, Int.reduceNe, Int.reduceBEq, Int.reduceBNe, Int.reduceToNat, toK (m := C k_ratchetref09_Form [.int .i64 v.op]), hform, bytes_toList, q13, q14, q15, decide_true, decide_false, rCast, encU_is, cells_Z, isCell_Z, low_Z, stripC_Z, isTup_Z, strip_Z, isCell_B, cells_B, low_B, List.append_assoc, List.append_nil, List.cons_append, List.nil_append, Bool.or_assoc, Bool.not_true, Bool.not_false, Bool.or_false, Bool.false_or, Bool.true_or, Bool.or_true]
theorem rconsts_9 {v : IG} (hv : v.w) (hk : formN v.op = 9) : IWr c (C k_ratchetref09_writing_consts [.ptr c 0, .agg (cs_IG v)]) (rConst 9 v.n) := IWr.mk fun H b f hc hs => by
  have hform : ∀ K, run (C k_ratchetref09_Form [.int .i64 v.op]) K = some (.ok (.str ⟨List.toArray [105, 51, 50]⟩) K) := fun K => by
    rw [rform_is hv.op.1 hv.op.2, formR_is, hk]
    rfl
  have q9 : (([105, 51, 50] : List UInt8) = [105, 51, 50]) = True := eq_true rfl
  have q10 : (([105, 51, 50] : List UInt8) = [105, 54, 52]) = False := eq_false (by decide)
  have q11 : (([105, 51, 50] : List UInt8) = [102, 51, 50]) = False := eq_false (by decide)
  have q12 : (([105, 51, 50] : List UInt8) = [102, 54, 52]) = False := eq_false (by decide)
  obtain ⟨n0, n1⟩ := hv.n
  rw [ratchetref09_writing_consts_eq]
  unfold cs_IG
  have hp := fun K => rputS_is (H := K) (n := IntKind.i32.wrap v.n) (by have := i32_range v.n; omega) (by have := i32_range v.n; omega)
  have w1 : IntKind.i64.wrap (IntKind.i32.wrap v.n) = IntKind.i32.wrap v.n := w_i64 (by have := i32_range v.n; omega)
  have w2 : IntKind.i32.wrap (IntKind.u32.wrap v.n) = IntKind.i32.wrap v.n := by rw [IntKind.wrap_i32, IntKind.wrap_i32, show IntKind.u32.wrap v.n = v.n % 4294967296 by simp only [IntKind.wrap, IntKind.signed, IntKind.bits]; simp]; omega
  simp only [rConst] at hs ⊢
  by_cases hn : v.n < 4294967296
  · have hn' : ¬ 4294967296 ≤ v.n := by omega
    rw [decide_eq_true hn]
    cases f <;>
    simp (contextual := true) (dsimp := false) (disch := first | omega | (simp only [List.length_append, List.length_cons, List.length_nil, Int.toNat_natCast]; omega)) only [↓kDown, kUp, ↓goDown, goUp, List.length_cons, List.length_nil, List.map_cons, List.map_nil, List.take_succ_cons, List.take_zero, List.drop_succ_cons, List.drop_zero, List.drop_nil, List.take_nil, List.cons_append, List.nil_append, List.append_nil, List.set_cons_zero, List.set_cons_succ, List.all_cons, List.all_nil, ↓reduceIte, reduceCtorEq, ge_iff_le, gt_iff_lt, eq_self_iff_true, beq_self_eq_true, beq_iff_eq, bne_iff_ne, ne_eq, ite_not, Int.reduceEq, Option.getD_some, Option.getD_none, ite_self, Nat.reduceAdd, Nat.reduceSub, Nat.reduceMul, Nat.reduceLeDiff, Nat.reduceEqDiff, Nat.reduceBEq, Nat.reduceBNe, Int.reduceLT, Int.reduceLE, Int.reduceAdd, Int.reduceSub, Int.reduceMul, Int.reduceNeg, Int.reduceNe, Int.reduceBEq, Int.reduceBNe, Int.reduceToNat, toK (m := C k_ratchetref09_Form [.int .i64 v.op]), hform, bytes_toList, q9, q10, q11, q12, decide_true, decide_false, w1, w2, hn', decide_false, hp, ap_Su, encU_is, cells_Z, isCell_Z, low_Z, stripC_Z, isTup_Z, strip_Z, isCell_B, cells_B, low_B, List.append_assoc, List.append_nil, List.cons_append, List.nil_append, Bool.or_assoc, Bool.not_true, Bool.not_false, Bool.or_false, Bool.false_or, Bool.true_or, Bool.or_true]
  · have hn' : 4294967296 ≤ v.n := by omega
    rw [decide_eq_false hn]
    cases f <;>
    simp (contextual := true) (dsimp := false) (disch := first | omega | (simp only [List.length_append, List.length_cons, List.length_nil, Int.toNat_natCast]; omega)) only [↓kDown, kUp, ↓goDown, goUp, List.length_cons, List.length_nil, List.map_cons, List.map_nil, List.take_succ_cons, List.take_zero, List.drop_succ_cons, List.drop_zero, List.drop_nil, List.take_nil, List.cons_append, List.nil_append, List.append_nil, List.set_cons_zero, List.set_cons_succ, List.all_cons, List.all_nil, ↓reduceIte, reduceCtorEq, ge_iff_le, gt_iff_lt, eq_self_iff_true, beq_self_eq_true, beq_iff_eq, bne_iff_ne, ne_eq, ite_not, Int.reduceEq, Option.getD_some, Option.getD_none, ite_self, Nat.reduceAdd, Nat.reduceSub, Nat.reduceMul, Nat.reduceLeDiff, Nat.reduceEqDiff, Nat.reduceBEq, Nat.reduceBNe, Int.reduceLT, Int.reduceLE, Int.reduceAdd, Int.reduceSub, Int.reduceMul, Int.reduceNeg, Int.reduceNe, Int.reduceBEq, Int.reduceBNe, Int.reduceToNat, toK (m := C k_ratchetref09_Form [.int .i64 v.op]), hform, bytes_toList, q9, q10, q11, q12, decide_true, decide_false, w1, w2, eq_true hn', decide_true, hp, ap_Su, encU_is, cells_Z, isCell_Z, low_Z, stripC_Z, isTup_Z, strip_Z, isCell_B, cells_B, low_B, List.append_assoc, List.append_nil, List.cons_append, List.nil_append, Bool.or_assoc, Bool.not_true, Bool.not_false, Bool.or_false, Bool.false_or, Bool.true_or, Bool.or_true]
theorem rcasts_10 {v : IG} (hv : v.w) (hk : formN v.op = 10) : IWr c (C k_ratchetref09_writing_casts [.ptr c 0, .agg (cs_IG v)]) (rCast 10 v) := IWr.mk fun H b f hc hs => by
  have hform : ∀ K, run (C k_ratchetref09_Form [.int .i64 v.op]) K = some (.ok (.str ⟨List.toArray [105, 54, 52]⟩) K) := fun K => by
    rw [rform_is hv.op.1 hv.op.2, formR_is, hk]
    rfl
  have q13 : (([105, 54, 52] : List UInt8) = [104, 101, 97, 112]) = False := eq_false (by decide)
  have q14 : (([105, 54, 52] : List UInt8) = [99, 97, 115, 116]) = False := eq_false (by decide)
  have q15 : (([105, 54, 52] : List UInt8) = [98, 114, 95, 99, 97, 115, 116]) = False := eq_false (by decide)
  rw [ratchetref09_writing_casts_eq]
  unfold cs_IG
  simp (contextual := true) (dsimp := false) (disch := first | omega | (simp only [List.length_append, List.length_cons, List.length_nil, Int.toNat_natCast]; omega)) only [↓kDown, kUp, ↓goDown, goUp, List.length_cons, List.length_nil, List.map_cons, List.map_nil, List.take_succ_cons, List.take_zero, List.drop_succ_cons, List.drop_zero, List.drop_nil, List.take_nil, List.cons_append, List.nil_append, List.append_nil, List.set_cons_zero, List.set_cons_succ, List.all_cons, List.all_nil, ↓reduceIte, reduceCtorEq, ge_iff_le, gt_iff_lt, eq_self_iff_true, beq_self_eq_true, beq_iff_eq, bne_iff_ne, ne_eq, ite_not, Int.reduceEq, Option.getD_some, Option.getD_none, ite_self, Nat.reduceAdd, Nat.reduceSub, Nat.reduceMul, Nat.reduceLeDiff, Nat.reduceEqDiff, Nat.reduceBEq, Nat.reduceBNe, Int.reduceLT, Int.reduceLE, Int.reduceAdd, Int.reduceSub, Int.reduceMul, Int.reduceNeg, Int.reduceNe, Int.reduceBEq, Int.reduceBNe, Int.reduceToNat, toK (m := C k_ratchetref09_Form [.int .i64 v.op]), hform, bytes_toList, q13, q14, q15, decide_true, decide_false, rCast, encU_is, cells_Z, isCell_Z, low_Z, stripC_Z, isTup_Z, strip_Z, isCell_B, cells_B, low_B, List.append_assoc, List.append_nil, List.cons_append, List.nil_append, Bool.or_assoc, Bool.not_true, Bool.not_false, Bool.or_false, Bool.false_or, Bool.true_or, Bool.or_true]
theorem rconsts_10 {v : IG} (hv : v.w) (hk : formN v.op = 10) : IWr c (C k_ratchetref09_writing_consts [.ptr c 0, .agg (cs_IG v)]) (rConst 10 v.n) := IWr.mk fun H b f hc hs => by
  have hform : ∀ K, run (C k_ratchetref09_Form [.int .i64 v.op]) K = some (.ok (.str ⟨List.toArray [105, 54, 52]⟩) K) := fun K => by
    rw [rform_is hv.op.1 hv.op.2, formR_is, hk]
    rfl
  have q9 : (([105, 54, 52] : List UInt8) = [105, 51, 50]) = False := eq_false (by decide)
  have q10 : (([105, 54, 52] : List UInt8) = [105, 54, 52]) = True := eq_true rfl
  have q11 : (([105, 54, 52] : List UInt8) = [102, 51, 50]) = False := eq_false (by decide)
  have q12 : (([105, 54, 52] : List UInt8) = [102, 54, 52]) = False := eq_false (by decide)
  obtain ⟨n0, n1⟩ := hv.n
  rw [ratchetref09_writing_consts_eq]
  unfold cs_IG
  have hp := fun K => rputS_is (H := K) (n := IntKind.i64.wrap v.n) (i64_range v.n).1 (i64_range v.n).2
  simp only [rConst] at hs ⊢
  simp (contextual := true) (dsimp := false) (disch := first | omega | (simp only [List.length_append, List.length_cons, List.length_nil, Int.toNat_natCast]; omega)) only [↓kDown, kUp, ↓goDown, goUp, List.length_cons, List.length_nil, List.map_cons, List.map_nil, List.take_succ_cons, List.take_zero, List.drop_succ_cons, List.drop_zero, List.drop_nil, List.take_nil, List.cons_append, List.nil_append, List.append_nil, List.set_cons_zero, List.set_cons_succ, List.all_cons, List.all_nil, ↓reduceIte, reduceCtorEq, ge_iff_le, gt_iff_lt, eq_self_iff_true, beq_self_eq_true, beq_iff_eq, bne_iff_ne, ne_eq, ite_not, Int.reduceEq, Option.getD_some, Option.getD_none, ite_self, Nat.reduceAdd, Nat.reduceSub, Nat.reduceMul, Nat.reduceLeDiff, Nat.reduceEqDiff, Nat.reduceBEq, Nat.reduceBNe, Int.reduceLT, Int.reduceLE, Int.reduceAdd, Int.reduceSub, Int.reduceMul, Int.reduceNeg, Int.reduceNe, Int.reduceBEq, Int.reduceBNe, Int.reduceToNat, toK (m := C k_ratchetref09_Form [.int .i64 v.op]), hform, bytes_toList, q9, q10, q11, q12, decide_true, decide_false, hp, ap_Su, encU_is, cells_Z, isCell_Z, low_Z, stripC_Z, isTup_Z, strip_Z, isCell_B, cells_B, low_B, List.append_assoc, List.append_nil, List.cons_append, List.nil_append, Bool.or_assoc, Bool.not_true, Bool.not_false, Bool.or_false, Bool.false_or, Bool.true_or, Bool.or_true]
theorem rcasts_11 {v : IG} (hv : v.w) (hk : formN v.op = 11) : IWr c (C k_ratchetref09_writing_casts [.ptr c 0, .agg (cs_IG v)]) (rCast 11 v) := IWr.mk fun H b f hc hs => by
  have hform : ∀ K, run (C k_ratchetref09_Form [.int .i64 v.op]) K = some (.ok (.str ⟨List.toArray [102, 51, 50]⟩) K) := fun K => by
    rw [rform_is hv.op.1 hv.op.2, formR_is, hk]
    rfl
  have q13 : (([102, 51, 50] : List UInt8) = [104, 101, 97, 112]) = False := eq_false (by decide)
  have q14 : (([102, 51, 50] : List UInt8) = [99, 97, 115, 116]) = False := eq_false (by decide)
  have q15 : (([102, 51, 50] : List UInt8) = [98, 114, 95, 99, 97, 115, 116]) = False := eq_false (by decide)
  rw [ratchetref09_writing_casts_eq]
  unfold cs_IG
  simp (contextual := true) (dsimp := false) (disch := first | omega | (simp only [List.length_append, List.length_cons, List.length_nil, Int.toNat_natCast]; omega)) only [↓kDown, kUp, ↓goDown, goUp, List.length_cons, List.length_nil, List.map_cons, List.map_nil, List.take_succ_cons, List.take_zero, List.drop_succ_cons, List.drop_zero, List.drop_nil, List.take_nil, List.cons_append, List.nil_append, List.append_nil, List.set_cons_zero, List.set_cons_succ, List.all_cons, List.all_nil, ↓reduceIte, reduceCtorEq, ge_iff_le, gt_iff_lt, eq_self_iff_true, beq_self_eq_true, beq_iff_eq, bne_iff_ne, ne_eq, ite_not, Int.reduceEq, Option.getD_some, Option.getD_none, ite_self, Nat.reduceAdd, Nat.reduceSub, Nat.reduceMul, Nat.reduceLeDiff, Nat.reduceEqDiff, Nat.reduceBEq, Nat.reduceBNe, Int.reduceLT, Int.reduceLE, Int.reduceAdd, Int.reduceSub, Int.reduceMul, Int.reduceNeg, Int.reduceNe, Int.reduceBEq, Int.reduceBNe, Int.reduceToNat, toK (m := C k_ratchetref09_Form [.int .i64 v.op]), hform, bytes_toList, q13, q14, q15, decide_true, decide_false, rCast, encU_is, cells_Z, isCell_Z, low_Z, stripC_Z, isTup_Z, strip_Z, isCell_B, cells_B, low_B, List.append_assoc, List.append_nil, List.cons_append, List.nil_append, Bool.or_assoc, Bool.not_true, Bool.not_false, Bool.or_false, Bool.false_or, Bool.true_or, Bool.or_true]
theorem rconsts_11 {v : IG} (hv : v.w) (hk : formN v.op = 11) : IWr c (C k_ratchetref09_writing_consts [.ptr c 0, .agg (cs_IG v)]) (rConst 11 v.n) := IWr.mk fun H b f hc hs => by
  have hform : ∀ K, run (C k_ratchetref09_Form [.int .i64 v.op]) K = some (.ok (.str ⟨List.toArray [102, 51, 50]⟩) K) := fun K => by
    rw [rform_is hv.op.1 hv.op.2, formR_is, hk]
    rfl
  have q9 : (([102, 51, 50] : List UInt8) = [105, 51, 50]) = False := eq_false (by decide)
  have q10 : (([102, 51, 50] : List UInt8) = [105, 54, 52]) = False := eq_false (by decide)
  have q11 : (([102, 51, 50] : List UInt8) = [102, 51, 50]) = True := eq_true rfl
  have q12 : (([102, 51, 50] : List UInt8) = [102, 54, 52]) = False := eq_false (by decide)
  obtain ⟨n0, n1⟩ := hv.n
  rw [ratchetref09_writing_consts_eq]
  unfold cs_IG
  have hp := fun K => putFixed_is (k := 4) (n := v.n) (K := K) (by decide) n0 (by omega)
  rw [show ((4 : Nat) : Int) = 4 from rfl] at hp
  simp only [rConst] at hs ⊢
  by_cases hn : v.n < 4294967296
  · have hn' : ¬ 4294967296 ≤ v.n := by omega
    rw [decide_eq_true hn]
    cases f <;>
    simp (contextual := true) (dsimp := false) (disch := first | omega | (simp only [List.length_append, List.length_cons, List.length_nil, Int.toNat_natCast]; omega)) only [↓kDown, kUp, ↓goDown, goUp, List.length_cons, List.length_nil, List.map_cons, List.map_nil, List.take_succ_cons, List.take_zero, List.drop_succ_cons, List.drop_zero, List.drop_nil, List.take_nil, List.cons_append, List.nil_append, List.append_nil, List.set_cons_zero, List.set_cons_succ, List.all_cons, List.all_nil, ↓reduceIte, reduceCtorEq, ge_iff_le, gt_iff_lt, eq_self_iff_true, beq_self_eq_true, beq_iff_eq, bne_iff_ne, ne_eq, ite_not, Int.reduceEq, Option.getD_some, Option.getD_none, ite_self, Nat.reduceAdd, Nat.reduceSub, Nat.reduceMul, Nat.reduceLeDiff, Nat.reduceEqDiff, Nat.reduceBEq, Nat.reduceBNe, Int.reduceLT, Int.reduceLE, Int.reduceAdd, Int.reduceSub, Int.reduceMul, Int.reduceNeg, Int.reduceNe, Int.reduceBEq, Int.reduceBNe, Int.reduceToNat, toK (m := C k_ratchetref09_Form [.int .i64 v.op]), hform, bytes_toList, q9, q10, q11, q12, decide_true, decide_false, hn', decide_false, hp, ap_Su, encU_is, cells_Z, isCell_Z, low_Z, stripC_Z, isTup_Z, strip_Z, isCell_B, cells_B, low_B, List.append_assoc, List.append_nil, List.cons_append, List.nil_append, Bool.or_assoc, Bool.not_true, Bool.not_false, Bool.or_false, Bool.false_or, Bool.true_or, Bool.or_true]
  · have hn' : 4294967296 ≤ v.n := by omega
    rw [decide_eq_false hn]
    cases f <;>
    simp (contextual := true) (dsimp := false) (disch := first | omega | (simp only [List.length_append, List.length_cons, List.length_nil, Int.toNat_natCast]; omega)) only [↓kDown, kUp, ↓goDown, goUp, List.length_cons, List.length_nil, List.map_cons, List.map_nil, List.take_succ_cons, List.take_zero, List.drop_succ_cons, List.drop_zero, List.drop_nil, List.take_nil, List.cons_append, List.nil_append, List.append_nil, List.set_cons_zero, List.set_cons_succ, List.all_cons, List.all_nil, ↓reduceIte, reduceCtorEq, ge_iff_le, gt_iff_lt, eq_self_iff_true, beq_self_eq_true, beq_iff_eq, bne_iff_ne, ne_eq, ite_not, Int.reduceEq, Option.getD_some, Option.getD_none, ite_self, Nat.reduceAdd, Nat.reduceSub, Nat.reduceMul, Nat.reduceLeDiff, Nat.reduceEqDiff, Nat.reduceBEq, Nat.reduceBNe, Int.reduceLT, Int.reduceLE, Int.reduceAdd, Int.reduceSub, Int.reduceMul, Int.reduceNeg, Int.reduceNe, Int.reduceBEq, Int.reduceBNe, Int.reduceToNat, toK (m := C k_ratchetref09_Form [.int .i64 v.op]), hform, bytes_toList, q9, q10, q11, q12, decide_true, decide_false, eq_true hn', decide_true, hp, ap_Su, encU_is, cells_Z, isCell_Z, low_Z, stripC_Z, isTup_Z, strip_Z, isCell_B, cells_B, low_B, List.append_assoc, List.append_nil, List.cons_append, List.nil_append, Bool.or_assoc, Bool.not_true, Bool.not_false, Bool.or_false, Bool.false_or, Bool.true_or, Bool.or_true]
theorem rcasts_12 {v : IG} (hv : v.w) (hk : formN v.op = 12) : IWr c (C k_ratchetref09_writing_casts [.ptr c 0, .agg (cs_IG v)]) (rCast 12 v) := IWr.mk fun H b f hc hs => by
  have hform : ∀ K, run (C k_ratchetref09_Form [.int .i64 v.op]) K = some (.ok (.str ⟨List.toArray [102, 54, 52]⟩) K) := fun K => by
    rw [rform_is hv.op.1 hv.op.2, formR_is, hk]
    rfl
  have q13 : (([102, 54, 52] : List UInt8) = [104, 101, 97, 112]) = False := eq_false (by decide)
  have q14 : (([102, 54, 52] : List UInt8) = [99, 97, 115, 116]) = False := eq_false (by decide)
  have q15 : (([102, 54, 52] : List UInt8) = [98, 114, 95, 99, 97, 115, 116]) = False := eq_false (by decide)
  rw [ratchetref09_writing_casts_eq]
  unfold cs_IG
  simp (contextual := true) (dsimp := false) (disch := first | omega | (simp only [List.length_append, List.length_cons, List.length_nil, Int.toNat_natCast]; omega)) only [↓kDown, kUp, ↓goDown, goUp, List.length_cons, List.length_nil, List.map_cons, List.map_nil, List.take_succ_cons, List.take_zero, List.drop_succ_cons, List.drop_zero, List.drop_nil, List.take_nil, List.cons_append, List.nil_append, List.append_nil, List.set_cons_zero, List.set_cons_succ, List.all_cons, List.all_nil, ↓reduceIte, reduceCtorEq, ge_iff_le, gt_iff_lt, eq_self_iff_true, beq_self_eq_true, beq_iff_eq, bne_iff_ne, ne_eq, ite_not, Int.reduceEq, Option.getD_some, Option.getD_none, ite_self, Nat.reduceAdd, Nat.reduceSub, Nat.reduceMul, Nat.reduceLeDiff, Nat.reduceEqDiff, Nat.reduceBEq, Nat.reduceBNe, Int.reduceLT, Int.reduceLE, Int.reduceAdd, Int.reduceSub, Int.reduceMul, Int.reduceNeg, Int.reduceNe, Int.reduceBEq, Int.reduceBNe, Int.reduceToNat, toK (m := C k_ratchetref09_Form [.int .i64 v.op]), hform, bytes_toList, q13, q14, q15, decide_true, decide_false, rCast, encU_is, cells_Z, isCell_Z, low_Z, stripC_Z, isTup_Z, strip_Z, isCell_B, cells_B, low_B, List.append_assoc, List.append_nil, List.cons_append, List.nil_append, Bool.or_assoc, Bool.not_true, Bool.not_false, Bool.or_false, Bool.false_or, Bool.true_or, Bool.or_true]
theorem rconsts_12 {v : IG} (hv : v.w) (hk : formN v.op = 12) : IWr c (C k_ratchetref09_writing_consts [.ptr c 0, .agg (cs_IG v)]) (rConst 12 v.n) := IWr.mk fun H b f hc hs => by
  have hform : ∀ K, run (C k_ratchetref09_Form [.int .i64 v.op]) K = some (.ok (.str ⟨List.toArray [102, 54, 52]⟩) K) := fun K => by
    rw [rform_is hv.op.1 hv.op.2, formR_is, hk]
    rfl
  have q9 : (([102, 54, 52] : List UInt8) = [105, 51, 50]) = False := eq_false (by decide)
  have q10 : (([102, 54, 52] : List UInt8) = [105, 54, 52]) = False := eq_false (by decide)
  have q11 : (([102, 54, 52] : List UInt8) = [102, 51, 50]) = False := eq_false (by decide)
  have q12 : (([102, 54, 52] : List UInt8) = [102, 54, 52]) = True := eq_true rfl
  obtain ⟨n0, n1⟩ := hv.n
  rw [ratchetref09_writing_consts_eq]
  unfold cs_IG
  have hp := fun K => putFixed_is (k := 8) (n := v.n) (K := K) (by decide) n0 (by omega)
  rw [show ((8 : Nat) : Int) = 8 from rfl] at hp
  simp only [rConst] at hs ⊢
  simp (contextual := true) (dsimp := false) (disch := first | omega | (simp only [List.length_append, List.length_cons, List.length_nil, Int.toNat_natCast]; omega)) only [↓kDown, kUp, ↓goDown, goUp, List.length_cons, List.length_nil, List.map_cons, List.map_nil, List.take_succ_cons, List.take_zero, List.drop_succ_cons, List.drop_zero, List.drop_nil, List.take_nil, List.cons_append, List.nil_append, List.append_nil, List.set_cons_zero, List.set_cons_succ, List.all_cons, List.all_nil, ↓reduceIte, reduceCtorEq, ge_iff_le, gt_iff_lt, eq_self_iff_true, beq_self_eq_true, beq_iff_eq, bne_iff_ne, ne_eq, ite_not, Int.reduceEq, Option.getD_some, Option.getD_none, ite_self, Nat.reduceAdd, Nat.reduceSub, Nat.reduceMul, Nat.reduceLeDiff, Nat.reduceEqDiff, Nat.reduceBEq, Nat.reduceBNe, Int.reduceLT, Int.reduceLE, Int.reduceAdd, Int.reduceSub, Int.reduceMul, Int.reduceNeg, Int.reduceNe, Int.reduceBEq, Int.reduceBNe, Int.reduceToNat, toK (m := C k_ratchetref09_Form [.int .i64 v.op]), hform, bytes_toList, q9, q10, q11, q12, decide_true, decide_false, hp, ap_Su, encU_is, cells_Z, isCell_Z, low_Z, stripC_Z, isTup_Z, strip_Z, isCell_B, cells_B, low_B, List.append_assoc, List.append_nil, List.cons_append, List.nil_append, Bool.or_assoc, Bool.not_true, Bool.not_false, Bool.or_false, Bool.false_or, Bool.true_or, Bool.or_true]
theorem rcasts_13 {v : IG} (hv : v.w) (hk : formN v.op = 13) : IWr c (C k_ratchetref09_writing_casts [.ptr c 0, .agg (cs_IG v)]) (rCast 13 v) := IWr.mk fun H b f hc hs => by
  have hform : ∀ K, run (C k_ratchetref09_Form [.int .i64 v.op]) K = some (.ok (.str ⟨List.toArray [104, 101, 97, 112]⟩) K) := fun K => by
    rw [rform_is hv.op.1 hv.op.2, formR_is, hk]
    rfl
  have q13 : (([104, 101, 97, 112] : List UInt8) = [104, 101, 97, 112]) = True := eq_true rfl
  have q14 : (([104, 101, 97, 112] : List UInt8) = [99, 97, 115, 116]) = False := eq_false (by decide)
  have q15 : (([104, 101, 97, 112] : List UInt8) = [98, 114, 95, 99, 97, 115, 116]) = False := eq_false (by decide)
  have hrf := fun L b f => rrefsW (c := c) (H := H) (L := L) (b := b) (f := f) (z := v.types.z) (l := v.types.l) (n := 1) (by have := hv.lt; omega) hc
  rw [ratchetref09_writing_casts_eq]
  by_cases ho : okRefs v.types.l 1 = true
  · obtain ⟨a, ha, h5⟩ := okRefs_one.mp ho
    have er : rCast 13 v = ((eH a.heap).1, !a.nul || !((eH a.heap).2 == 0)) := by show rc13 v.types.l = _; unfold rc13; rw [ha]; exact if_pos h5
    rw [er] at hs ⊢
    have hia : ∀ K, run (iaS 3 (LZ v.types.z 3 (v.types.l.map encV)) (.int .i64 0)) K = some (.ok (.elem [.int .i64 a.num, .bool a.nul, .int .i64 a.heap]) K) := fun K => by rw [ha]; rfl
    have hh := fun L b f => rheapW (c := c) (H := H) (L := L) (b := b) (f := f) (h := a.heap) (hv.ty a (by rw [ha]; simp)) hc
    simp only at hs ⊢
    rw [ho] at hrf
    unfold cs_IG
    cases f <;>
    simp (contextual := true) (dsimp := false) (disch := first | omega | (simp only [List.length_append, List.length_cons, List.length_nil, Int.toNat_natCast]; omega)) only [↓kDown, kUp, ↓goDown, goUp, List.length_cons, List.length_nil, List.map_cons, List.map_nil, List.take_succ_cons, List.take_zero, List.drop_succ_cons, List.drop_zero, List.drop_nil, List.take_nil, List.cons_append, List.nil_append, List.append_nil, List.set_cons_zero, List.set_cons_succ, List.all_cons, List.all_nil, ↓reduceIte, reduceCtorEq, ge_iff_le, gt_iff_lt, eq_self_iff_true, beq_self_eq_true, beq_iff_eq, bne_iff_ne, ne_eq, ite_not, Int.reduceEq, Option.getD_some, Option.getD_none, ite_self, Nat.reduceAdd, Nat.reduceSub, Nat.reduceMul, Nat.reduceLeDiff, Nat.reduceEqDiff, Nat.reduceBEq, Nat.reduceBNe, Int.reduceLT, Int.reduceLE, Int.reduceAdd, Int.reduceSub, Int.reduceMul, Int.reduceNeg, Int.reduceNe, Int.reduceBEq, Int.reduceBNe, Int.reduceToNat, toK (m := C k_ratchetref09_Form [.int .i64 v.op]), hform, bytes_toList, q13, q14, q15, decide_true, decide_false, hrf, hia, un_not, bi_beql, hh, encU_is, cells_Z, isCell_Z, low_Z, stripC_Z, isTup_Z, strip_Z, isCell_B, cells_B, low_B, List.append_assoc, List.append_nil, List.cons_append, List.nil_append, Bool.or_assoc, Bool.not_true, Bool.not_false, Bool.or_false, Bool.false_or, Bool.true_or, Bool.or_true]
  · have ho' : okRefs v.types.l 1 = false := by simpa using ho
    have er : rCast 13 v = ([], true) := by
      show rc13 v.types.l = _
      unfold rc13
      split
      · rename_i a ha
        rw [if_neg (fun h5 => ho (okRefs_one.mpr ⟨a, ha, h5⟩))]
      · rfl
    rw [er] at hs ⊢
    rw [ho'] at hrf
    unfold cs_IG
    simp (contextual := true) (dsimp := false) (disch := first | omega | (simp only [List.length_append, List.length_cons, List.length_nil, Int.toNat_natCast]; omega)) only [↓kDown, kUp, ↓goDown, goUp, List.length_cons, List.length_nil, List.map_cons, List.map_nil, List.take_succ_cons, List.take_zero, List.drop_succ_cons, List.drop_zero, List.drop_nil, List.take_nil, List.cons_append, List.nil_append, List.append_nil, List.set_cons_zero, List.set_cons_succ, List.all_cons, List.all_nil, ↓reduceIte, reduceCtorEq, ge_iff_le, gt_iff_lt, eq_self_iff_true, beq_self_eq_true, beq_iff_eq, bne_iff_ne, ne_eq, ite_not, Int.reduceEq, Option.getD_some, Option.getD_none, ite_self, Nat.reduceAdd, Nat.reduceSub, Nat.reduceMul, Nat.reduceLeDiff, Nat.reduceEqDiff, Nat.reduceBEq, Nat.reduceBNe, Int.reduceLT, Int.reduceLE, Int.reduceAdd, Int.reduceSub, Int.reduceMul, Int.reduceNeg, Int.reduceNe, Int.reduceBEq, Int.reduceBNe, Int.reduceToNat, toK (m := C k_ratchetref09_Form [.int .i64 v.op]), hform, bytes_toList, q13, q14, q15, decide_true, decide_false, hrf, encU_is, cells_Z, isCell_Z, low_Z, stripC_Z, isTup_Z, strip_Z, isCell_B, cells_B, low_B, List.append_assoc, List.append_nil, List.cons_append, List.nil_append, Bool.or_assoc, Bool.not_true, Bool.not_false, Bool.or_false, Bool.false_or, Bool.true_or, Bool.or_true]
theorem rconsts_13 {v : IG} (hv : v.w) (hk : formN v.op = 13) : IWr c (C k_ratchetref09_writing_consts [.ptr c 0, .agg (cs_IG v)]) (rConst 13 v.n) := IWr.mk fun H b f hc hs => by
  have hform : ∀ K, run (C k_ratchetref09_Form [.int .i64 v.op]) K = some (.ok (.str ⟨List.toArray [104, 101, 97, 112]⟩) K) := fun K => by
    rw [rform_is hv.op.1 hv.op.2, formR_is, hk]
    rfl
  have q9 : (([104, 101, 97, 112] : List UInt8) = [105, 51, 50]) = False := eq_false (by decide)
  have q10 : (([104, 101, 97, 112] : List UInt8) = [105, 54, 52]) = False := eq_false (by decide)
  have q11 : (([104, 101, 97, 112] : List UInt8) = [102, 51, 50]) = False := eq_false (by decide)
  have q12 : (([104, 101, 97, 112] : List UInt8) = [102, 54, 52]) = False := eq_false (by decide)
  obtain ⟨n0, n1⟩ := hv.n
  rw [ratchetref09_writing_consts_eq]
  unfold cs_IG
  simp (contextual := true) (dsimp := false) (disch := first | omega | (simp only [List.length_append, List.length_cons, List.length_nil, Int.toNat_natCast]; omega)) only [↓kDown, kUp, ↓goDown, goUp, List.length_cons, List.length_nil, List.map_cons, List.map_nil, List.take_succ_cons, List.take_zero, List.drop_succ_cons, List.drop_zero, List.drop_nil, List.take_nil, List.cons_append, List.nil_append, List.append_nil, List.set_cons_zero, List.set_cons_succ, List.all_cons, List.all_nil, ↓reduceIte, reduceCtorEq, ge_iff_le, gt_iff_lt, eq_self_iff_true, beq_self_eq_true, beq_iff_eq, bne_iff_ne, ne_eq, ite_not, Int.reduceEq, Option.getD_some, Option.getD_none, ite_self, Nat.reduceAdd, Nat.reduceSub, Nat.reduceMul, Nat.reduceLeDiff, Nat.reduceEqDiff, Nat.reduceBEq, Nat.reduceBNe, Int.reduceLT, Int.reduceLE, Int.reduceAdd, Int.reduceSub, Int.reduceMul, Int.reduceNeg, Int.reduceNe, Int.reduceBEq, Int.reduceBNe, Int.reduceToNat, toK (m := C k_ratchetref09_Form [.int .i64 v.op]), hform, bytes_toList, q9, q10, q11, q12, decide_true, decide_false, rConst, encU_is, cells_Z, isCell_Z, low_Z, stripC_Z, isTup_Z, strip_Z, isCell_B, cells_B, low_B, List.append_assoc, List.append_nil, List.cons_append, List.nil_append, Bool.or_assoc, Bool.not_true, Bool.not_false, Bool.or_false, Bool.false_or, Bool.true_or, Bool.or_true]
theorem rcasts_14 {v : IG} (hv : v.w) (hk : formN v.op = 14) (hp : 0 ≤ v.op) : IWr c (C k_ratchetref09_writing_casts [.ptr c 0, .agg (cs_IG v)]) (rCast 14 v) := IWr.mk fun H b f hc hs => by
  have hform : ∀ K, run (C k_ratchetref09_Form [.int .i64 v.op]) K = some (.ok (.str ⟨List.toArray [99, 97, 115, 116]⟩) K) := fun K => by
    rw [rform_is hv.op.1 hv.op.2, formR_is, hk]
    rfl
  have q13 : (([99, 97, 115, 116] : List UInt8) = [104, 101, 97, 112]) = False := eq_false (by decide)
  have q14 : (([99, 97, 115, 116] : List UInt8) = [99, 97, 115, 116]) = True := eq_true rfl
  have q15 : (([99, 97, 115, 116] : List UInt8) = [98, 114, 95, 99, 97, 115, 116]) = False := eq_false (by decide)
  have hrf := fun L b f => rrefsW (c := c) (H := H) (L := L) (b := b) (f := f) (z := v.types.z) (l := v.types.l) (n := 1) (by have := hv.lt; omega) hc
  rw [ratchetref09_writing_casts_eq]
  by_cases ho : okRefs v.types.l 1 = true
  · obtain ⟨a, ha, h5⟩ := okRefs_one.mp ho
    have er : rCast 14 v = ((eH a.heap).1, !(a.nul == (v.op % 2 == 1)) || !((eH a.heap).2 == 0)) := by show rc14 (v.op % 2 == 1) v.types.l = _; unfold rc14; rw [ha]; exact if_pos h5
    rw [er] at hs ⊢
    have hia : ∀ K, run (iaS 3 (LZ v.types.z 3 (v.types.l.map encV)) (.int .i64 0)) K = some (.ok (.elem [.int .i64 a.num, .bool a.nul, .int .i64 a.heap]) K) := fun K => by rw [ha]; rfl
    have hh := fun L b f => rheapW (c := c) (H := H) (L := L) (b := b) (f := f) (h := a.heap) (hv.ty a (by rw [ha]; simp)) hc
    have e2 : v.op.tmod 2 = v.op % 2 := Int.tmod_eq_emod_of_nonneg hp
    simp only at hs ⊢
    rw [ho] at hrf
    unfold cs_IG
    cases f <;>
    simp (contextual := true) (dsimp := false) (disch := first | omega | (simp only [List.length_append, List.length_cons, List.length_nil, Int.toNat_natCast]; omega)) only [↓kDown, kUp, ↓goDown, goUp, List.length_cons, List.length_nil, List.map_cons, List.map_nil, List.take_succ_cons, List.take_zero, List.drop_succ_cons, List.drop_zero, List.drop_nil, List.take_nil, List.cons_append, List.nil_append, List.append_nil, List.set_cons_zero, List.set_cons_succ, List.all_cons, List.all_nil, ↓reduceIte, reduceCtorEq, ge_iff_le, gt_iff_lt, eq_self_iff_true, beq_self_eq_true, beq_iff_eq, bne_iff_ne, ne_eq, ite_not, Int.reduceEq, Option.getD_some, Option.getD_none, ite_self, Nat.reduceAdd, Nat.reduceSub, Nat.reduceMul, Nat.reduceLeDiff, Nat.reduceEqDiff, Nat.reduceBEq, Nat.reduceBNe, Int.reduceLT, Int.reduceLE, Int.reduceAdd, Int.reduceSub, Int.reduceMul, Int.reduceNeg, Int.reduceNe, Int.reduceBEq, Int.reduceBNe, Int.reduceToNat, toK (m := C k_ratchetref09_Form [.int .i64 v.op]), hform, bytes_toList, q13, q14, q15, decide_true, decide_false, hrf, hia, un_not, bi_beql, run_rem, e2, hh, encU_is, cells_Z, isCell_Z, low_Z, stripC_Z, isTup_Z, strip_Z, isCell_B, cells_B, low_B, List.append_assoc, List.append_nil, List.cons_append, List.nil_append, Bool.or_assoc, Bool.not_true, Bool.not_false, Bool.or_false, Bool.false_or, Bool.true_or, Bool.or_true]
  · have ho' : okRefs v.types.l 1 = false := by simpa using ho
    have er : rCast 14 v = ([], true) := by
      show rc14 (v.op % 2 == 1) v.types.l = _
      unfold rc14
      split
      · rename_i a ha
        rw [if_neg (fun h5 => ho (okRefs_one.mpr ⟨a, ha, h5⟩))]
      · rfl
    rw [er] at hs ⊢
    rw [ho'] at hrf
    unfold cs_IG
    simp (contextual := true) (dsimp := false) (disch := first | omega | (simp only [List.length_append, List.length_cons, List.length_nil, Int.toNat_natCast]; omega)) only [↓kDown, kUp, ↓goDown, goUp, List.length_cons, List.length_nil, List.map_cons, List.map_nil, List.take_succ_cons, List.take_zero, List.drop_succ_cons, List.drop_zero, List.drop_nil, List.take_nil, List.cons_append, List.nil_append, List.append_nil, List.set_cons_zero, List.set_cons_succ, List.all_cons, List.all_nil, ↓reduceIte, reduceCtorEq, ge_iff_le, gt_iff_lt, eq_self_iff_true, beq_self_eq_true, beq_iff_eq, bne_iff_ne, ne_eq, ite_not, Int.reduceEq, Option.getD_some, Option.getD_none, ite_self, Nat.reduceAdd, Nat.reduceSub, Nat.reduceMul, Nat.reduceLeDiff, Nat.reduceEqDiff, Nat.reduceBEq, Nat.reduceBNe, Int.reduceLT, Int.reduceLE, Int.reduceAdd, Int.reduceSub, Int.reduceMul, Int.reduceNeg, Int.reduceNe, Int.reduceBEq, Int.reduceBNe, Int.reduceToNat, toK (m := C k_ratchetref09_Form [.int .i64 v.op]), hform, bytes_toList, q13, q14, q15, decide_true, decide_false, hrf, encU_is, cells_Z, isCell_Z, low_Z, stripC_Z, isTup_Z, strip_Z, isCell_B, cells_B, low_B, List.append_assoc, List.append_nil, List.cons_append, List.nil_append, Bool.or_assoc, Bool.not_true, Bool.not_false, Bool.or_false, Bool.false_or, Bool.true_or, Bool.or_true]
theorem rconsts_14 {v : IG} (hv : v.w) (hk : formN v.op = 14) : IWr c (C k_ratchetref09_writing_consts [.ptr c 0, .agg (cs_IG v)]) (rConst 14 v.n) := IWr.mk fun H b f hc hs => by
  have hform : ∀ K, run (C k_ratchetref09_Form [.int .i64 v.op]) K = some (.ok (.str ⟨List.toArray [99, 97, 115, 116]⟩) K) := fun K => by
    rw [rform_is hv.op.1 hv.op.2, formR_is, hk]
    rfl
  have q9 : (([99, 97, 115, 116] : List UInt8) = [105, 51, 50]) = False := eq_false (by decide)
  have q10 : (([99, 97, 115, 116] : List UInt8) = [105, 54, 52]) = False := eq_false (by decide)
  have q11 : (([99, 97, 115, 116] : List UInt8) = [102, 51, 50]) = False := eq_false (by decide)
  have q12 : (([99, 97, 115, 116] : List UInt8) = [102, 54, 52]) = False := eq_false (by decide)
  obtain ⟨n0, n1⟩ := hv.n
  rw [ratchetref09_writing_consts_eq]
  unfold cs_IG
  simp (contextual := true) (dsimp := false) (disch := first | omega | (simp only [List.length_append, List.length_cons, List.length_nil, Int.toNat_natCast]; omega)) only [↓kDown, kUp, ↓goDown, goUp, List.length_cons, List.length_nil, List.map_cons, List.map_nil, List.take_succ_cons, List.take_zero, List.drop_succ_cons, List.drop_zero, List.drop_nil, List.take_nil, List.cons_append, List.nil_append, List.append_nil, List.set_cons_zero, List.set_cons_succ, List.all_cons, List.all_nil, ↓reduceIte, reduceCtorEq, ge_iff_le, gt_iff_lt, eq_self_iff_true, beq_self_eq_true, beq_iff_eq, bne_iff_ne, ne_eq, ite_not, Int.reduceEq, Option.getD_some, Option.getD_none, ite_self, Nat.reduceAdd, Nat.reduceSub, Nat.reduceMul, Nat.reduceLeDiff, Nat.reduceEqDiff, Nat.reduceBEq, Nat.reduceBNe, Int.reduceLT, Int.reduceLE, Int.reduceAdd, Int.reduceSub, Int.reduceMul, Int.reduceNeg, Int.reduceNe, Int.reduceBEq, Int.reduceBNe, Int.reduceToNat, toK (m := C k_ratchetref09_Form [.int .i64 v.op]), hform, bytes_toList, q9, q10, q11, q12, decide_true, decide_false, rConst, encU_is, cells_Z, isCell_Z, low_Z, stripC_Z, isTup_Z, strip_Z, isCell_B, cells_B, low_B, List.append_assoc, List.append_nil, List.cons_append, List.nil_append, Bool.or_assoc, Bool.not_true, Bool.not_false, Bool.or_false, Bool.false_or, Bool.true_or, Bool.or_true]
theorem rcasts_15 {v : IG} (hv : v.w) (hk : formN v.op = 15) : IWr c (C k_ratchetref09_writing_casts [.ptr c 0, .agg (cs_IG v)]) (rCast 15 v) := IWr.mk fun H b f hc hs => by
  have hform : ∀ K, run (C k_ratchetref09_Form [.int .i64 v.op]) K = some (.ok (.str ⟨List.toArray [98, 114, 95, 99, 97, 115, 116]⟩) K) := fun K => by
    rw [rform_is hv.op.1 hv.op.2, formR_is, hk]
    rfl
  have q13 : (([98, 114, 95, 99, 97, 115, 116] : List UInt8) = [104, 101, 97, 112]) = False := eq_false (by decide)
  have q14 : (([98, 114, 95, 99, 97, 115, 116] : List UInt8) = [99, 97, 115, 116]) = False := eq_false (by decide)
  have q15 : (([98, 114, 95, 99, 97, 115, 116] : List UInt8) = [98, 114, 95, 99, 97, 115, 116]) = True := eq_true rfl
  have hrf := fun L b f => rrefsW (c := c) (H := H) (L := L) (b := b) (f := f) (z := v.types.z) (l := v.types.l) (n := 2) (by have := hv.lt; omega) hc
  obtain ⟨x0, x1⟩ := hv.x
  rw [ratchetref09_writing_casts_eq]
  by_cases ho : okRefs v.types.l 2 = true
  · obtain ⟨a, d, ha, h5, h6⟩ := okRefs_two.mp ho
    have er : rCast 15 v = (iByte ((if a.nul = true then 1 else 0) + (if d.nul = true then 2 else 0)) :: (putU v.x.toNat ++ ((eH a.heap).1 ++ (eH d.heap).1)), !((eH a.heap).2 == 0) || !((eH d.heap).2 == 0)) := by show rc15 v.x v.types.l = _; unfold rc15; rw [ha]; exact if_pos ⟨h5, h6⟩
    rw [er] at hs ⊢
    have hia : ∀ K, run (iaS 3 (LZ v.types.z 3 (v.types.l.map encV)) (.int .i64 0)) K = some (.ok (.elem [.int .i64 a.num, .bool a.nul, .int .i64 a.heap]) K) := fun K => by rw [ha]; rfl
    have hib : ∀ K, run (iaS 3 (LZ v.types.z 3 (v.types.l.map encV)) (.int .i64 1)) K = some (.ok (.elem [.int .i64 d.num, .bool d.nul, .int .i64 d.heap]) K) := fun K => by rw [ha]; rfl
    have hh := fun L b f => rheapW (c := c) (H := H) (L := L) (b := b) (f := f) (h := a.heap) (hv.ty a (by rw [ha]; simp)) hc
    have hi := fun L b f => rheapW (c := c) (H := H) (L := L) (b := b) (f := f) (h := d.heap) (hv.ty d (by rw [ha]; simp)) hc
    have j0 := fun K => bsR_j (n := 0) (K := K) (by decide)
    have j1 := fun K => bsR_j (n := 1) (K := K) (by decide)
    have j2 := fun K => bsR_j (n := 2) (K := K) (by decide)
    have j3 := fun K => bsR_j (n := 3) (K := K) (by decide)
    simp only [List.length_cons, List.length_append] at hs ⊢
    rw [ho] at hrf
    unfold cs_IG
    cases hna : a.nul <;> cases hnd : d.nul <;> rw [hna] at hia <;> rw [hnd] at hib <;>
    simp (contextual := true) (dsimp := false) (disch := first | omega | (simp only [List.length_append, List.length_cons, List.length_nil, Int.toNat_natCast]; omega)) only [↓kDown, kUp, ↓goDown, goUp, List.length_cons, List.length_nil, List.map_cons, List.map_nil, List.take_succ_cons, List.take_zero, List.drop_succ_cons, List.drop_zero, List.drop_nil, List.take_nil, List.cons_append, List.nil_append, List.append_nil, List.set_cons_zero, List.set_cons_succ, List.all_cons, List.all_nil, ↓reduceIte, reduceCtorEq, ge_iff_le, gt_iff_lt, eq_self_iff_true, beq_self_eq_true, beq_iff_eq, bne_iff_ne, ne_eq, ite_not, Int.reduceEq, Option.getD_some, Option.getD_none, ite_self, Nat.reduceAdd, Nat.reduceSub, Nat.reduceMul, Nat.reduceLeDiff, Nat.reduceEqDiff, Nat.reduceBEq, Nat.reduceBNe, Int.reduceLT, Int.reduceLE, Int.reduceAdd, Int.reduceSub, Int.reduceMul, Int.reduceNeg, Int.reduceNe, Int.reduceBEq, Int.reduceBNe, Int.reduceToNat, toK (m := C k_ratchetref09_Form [.int .i64 v.op]), hform, bytes_toList, q13, q14, q15, decide_true, decide_false, hrf, hia, hib, ba1, ba2, ba3, p_ratchetref09_writing_casts_1101111101011_eq, p_ratchetref09_writing_casts_11011111010111_eq, j0, j1, j2, j3, ap_S1, ruW, hh, hi, encU_is, cells_Z, isCell_Z, low_Z, stripC_Z, isTup_Z, strip_Z, isCell_B, cells_B, low_B, List.append_assoc, List.append_nil, List.cons_append, List.nil_append, Bool.or_assoc, Bool.not_true, Bool.not_false, Bool.or_false, Bool.false_or, Bool.true_or, Bool.or_true]
  · have ho' : okRefs v.types.l 2 = false := by simpa using ho
    have er : rCast 15 v = ([], true) := by
      show rc15 v.x v.types.l = _
      unfold rc15
      split
      · rename_i a d ha
        rw [if_neg (fun h5 => ho (okRefs_two.mpr ⟨a, d, ha, h5⟩))]
      · rfl
    rw [er] at hs ⊢
    rw [ho'] at hrf
    unfold cs_IG
    simp (contextual := true) (dsimp := false) (disch := first | omega | (simp only [List.length_append, List.length_cons, List.length_nil, Int.toNat_natCast]; omega)) only [↓kDown, kUp, ↓goDown, goUp, List.length_cons, List.length_nil, List.map_cons, List.map_nil, List.take_succ_cons, List.take_zero, List.drop_succ_cons, List.drop_zero, List.drop_nil, List.take_nil, List.cons_append, List.nil_append, List.append_nil, List.set_cons_zero, List.set_cons_succ, List.all_cons, List.all_nil, ↓reduceIte, reduceCtorEq, ge_iff_le, gt_iff_lt, eq_self_iff_true, beq_self_eq_true, beq_iff_eq, bne_iff_ne, ne_eq, ite_not, Int.reduceEq, Option.getD_some, Option.getD_none, ite_self, Nat.reduceAdd, Nat.reduceSub, Nat.reduceMul, Nat.reduceLeDiff, Nat.reduceEqDiff, Nat.reduceBEq, Nat.reduceBNe, Int.reduceLT, Int.reduceLE, Int.reduceAdd, Int.reduceSub, Int.reduceMul, Int.reduceNeg, Int.reduceNe, Int.reduceBEq, Int.reduceBNe, Int.reduceToNat, toK (m := C k_ratchetref09_Form [.int .i64 v.op]), hform, bytes_toList, q13, q14, q15, decide_true, decide_false, hrf, encU_is, cells_Z, isCell_Z, low_Z, stripC_Z, isTup_Z, strip_Z, isCell_B, cells_B, low_B, List.append_assoc, List.append_nil, List.cons_append, List.nil_append, Bool.or_assoc, Bool.not_true, Bool.not_false, Bool.or_false, Bool.false_or, Bool.true_or, Bool.or_true]
theorem rconsts_15 {v : IG} (hv : v.w) (hk : formN v.op = 15) : IWr c (C k_ratchetref09_writing_consts [.ptr c 0, .agg (cs_IG v)]) (rConst 15 v.n) := IWr.mk fun H b f hc hs => by
  have hform : ∀ K, run (C k_ratchetref09_Form [.int .i64 v.op]) K = some (.ok (.str ⟨List.toArray [98, 114, 95, 99, 97, 115, 116]⟩) K) := fun K => by
    rw [rform_is hv.op.1 hv.op.2, formR_is, hk]
    rfl
  have q9 : (([98, 114, 95, 99, 97, 115, 116] : List UInt8) = [105, 51, 50]) = False := eq_false (by decide)
  have q10 : (([98, 114, 95, 99, 97, 115, 116] : List UInt8) = [105, 54, 52]) = False := eq_false (by decide)
  have q11 : (([98, 114, 95, 99, 97, 115, 116] : List UInt8) = [102, 51, 50]) = False := eq_false (by decide)
  have q12 : (([98, 114, 95, 99, 97, 115, 116] : List UInt8) = [102, 54, 52]) = False := eq_false (by decide)
  obtain ⟨n0, n1⟩ := hv.n
  rw [ratchetref09_writing_consts_eq]
  unfold cs_IG
  simp (contextual := true) (dsimp := false) (disch := first | omega | (simp only [List.length_append, List.length_cons, List.length_nil, Int.toNat_natCast]; omega)) only [↓kDown, kUp, ↓goDown, goUp, List.length_cons, List.length_nil, List.map_cons, List.map_nil, List.take_succ_cons, List.take_zero, List.drop_succ_cons, List.drop_zero, List.drop_nil, List.take_nil, List.cons_append, List.nil_append, List.append_nil, List.set_cons_zero, List.set_cons_succ, List.all_cons, List.all_nil, ↓reduceIte, reduceCtorEq, ge_iff_le, gt_iff_lt, eq_self_iff_true, beq_self_eq_true, beq_iff_eq, bne_iff_ne, ne_eq, ite_not, Int.reduceEq, Option.getD_some, Option.getD_none, ite_self, Nat.reduceAdd, Nat.reduceSub, Nat.reduceMul, Nat.reduceLeDiff, Nat.reduceEqDiff, Nat.reduceBEq, Nat.reduceBNe, Int.reduceLT, Int.reduceLE, Int.reduceAdd, Int.reduceSub, Int.reduceMul, Int.reduceNeg, Int.reduceNe, Int.reduceBEq, Int.reduceBNe, Int.reduceToNat, toK (m := C k_ratchetref09_Form [.int .i64 v.op]), hform, bytes_toList, q9, q10, q11, q12, decide_true, decide_false, rConst, encU_is, cells_Z, isCell_Z, low_Z, stripC_Z, isTup_Z, strip_Z, isCell_B, cells_B, low_B, List.append_assoc, List.append_nil, List.cons_append, List.nil_append, Bool.or_assoc, Bool.not_true, Bool.not_false, Bool.or_false, Bool.false_or, Bool.true_or, Bool.or_true]
theorem rcasts_16 {v : IG} (hv : v.w) (hk : formN v.op = 16) : IWr c (C k_ratchetref09_writing_casts [.ptr c 0, .agg (cs_IG v)]) (rCast 16 v) := IWr.mk fun H b f hc hs => by
  have hform : ∀ K, run (C k_ratchetref09_Form [.int .i64 v.op]) K = some (.ok (.str ⟨List.toArray [120, 110]⟩) K) := fun K => by
    rw [rform_is hv.op.1 hv.op.2, formR_is, hk]
    rfl
  have q13 : (([120, 110] : List UInt8) = [104, 101, 97, 112]) = False := eq_false (by decide)
  have q14 : (([120, 110] : List UInt8) = [99, 97, 115, 116]) = False := eq_false (by decide)
  have q15 : (([120, 110] : List UInt8) = [98, 114, 95, 99, 97, 115, 116]) = False := eq_false (by decide)
  rw [ratchetref09_writing_casts_eq]
  unfold cs_IG
  simp (contextual := true) (dsimp := false) (disch := first | omega | (simp only [List.length_append, List.length_cons, List.length_nil, Int.toNat_natCast]; omega)) only [↓kDown, kUp, ↓goDown, goUp, List.length_cons, List.length_nil, List.map_cons, List.map_nil, List.take_succ_cons, List.take_zero, List.drop_succ_cons, List.drop_zero, List.drop_nil, List.take_nil, List.cons_append, List.nil_append, List.append_nil, List.set_cons_zero, List.set_cons_succ, List.all_cons, List.all_nil, ↓reduceIte, reduceCtorEq, ge_iff_le, gt_iff_lt, eq_self_iff_true, beq_self_eq_true, beq_iff_eq, bne_iff_ne, ne_eq, ite_not, Int.reduceEq, Option.getD_some, Option.getD_none, ite_self, Nat.reduceAdd, Nat.reduceSub, Nat.reduceMul, Nat.reduceLeDiff, Nat.reduceEqDiff, Nat.reduceBEq, Nat.reduceBNe, Int.reduceLT, Int.reduceLE, Int.reduceAdd, Int.reduceSub, Int.reduceMul, Int.reduceNeg, Int.reduceNe, Int.reduceBEq, Int.reduceBNe, Int.reduceToNat, toK (m := C k_ratchetref09_Form [.int .i64 v.op]), hform, bytes_toList, q13, q14, q15, decide_true, decide_false, rCast, encU_is, cells_Z, isCell_Z, low_Z, stripC_Z, isTup_Z, strip_Z, isCell_B, cells_B, low_B, List.append_assoc, List.append_nil, List.cons_append, List.nil_append, Bool.or_assoc, Bool.not_true, Bool.not_false, Bool.or_false, Bool.false_or, Bool.true_or, Bool.or_true]
theorem rconsts_16 {v : IG} (hv : v.w) (hk : formN v.op = 16) : IWr c (C k_ratchetref09_writing_consts [.ptr c 0, .agg (cs_IG v)]) (rConst 16 v.n) := IWr.mk fun H b f hc hs => by
  have hform : ∀ K, run (C k_ratchetref09_Form [.int .i64 v.op]) K = some (.ok (.str ⟨List.toArray [120, 110]⟩) K) := fun K => by
    rw [rform_is hv.op.1 hv.op.2, formR_is, hk]
    rfl
  have q9 : (([120, 110] : List UInt8) = [105, 51, 50]) = False := eq_false (by decide)
  have q10 : (([120, 110] : List UInt8) = [105, 54, 52]) = False := eq_false (by decide)
  have q11 : (([120, 110] : List UInt8) = [102, 51, 50]) = False := eq_false (by decide)
  have q12 : (([120, 110] : List UInt8) = [102, 54, 52]) = False := eq_false (by decide)
  obtain ⟨n0, n1⟩ := hv.n
  rw [ratchetref09_writing_consts_eq]
  unfold cs_IG
  simp (contextual := true) (dsimp := false) (disch := first | omega | (simp only [List.length_append, List.length_cons, List.length_nil, Int.toNat_natCast]; omega)) only [↓kDown, kUp, ↓goDown, goUp, List.length_cons, List.length_nil, List.map_cons, List.map_nil, List.take_succ_cons, List.take_zero, List.drop_succ_cons, List.drop_zero, List.drop_nil, List.take_nil, List.cons_append, List.nil_append, List.append_nil, List.set_cons_zero, List.set_cons_succ, List.all_cons, List.all_nil, ↓reduceIte, reduceCtorEq, ge_iff_le, gt_iff_lt, eq_self_iff_true, beq_self_eq_true, beq_iff_eq, bne_iff_ne, ne_eq, ite_not, Int.reduceEq, Option.getD_some, Option.getD_none, ite_self, Nat.reduceAdd, Nat.reduceSub, Nat.reduceMul, Nat.reduceLeDiff, Nat.reduceEqDiff, Nat.reduceBEq, Nat.reduceBNe, Int.reduceLT, Int.reduceLE, Int.reduceAdd, Int.reduceSub, Int.reduceMul, Int.reduceNeg, Int.reduceNe, Int.reduceBEq, Int.reduceBNe, Int.reduceToNat, toK (m := C k_ratchetref09_Form [.int .i64 v.op]), hform, bytes_toList, q9, q10, q11, q12, decide_true, decide_false, rConst, encU_is, cells_Z, isCell_Z, low_Z, stripC_Z, isTup_Z, strip_Z, isCell_B, cells_B, low_B, List.append_assoc, List.append_nil, List.cons_append, List.nil_append, Bool.or_assoc, Bool.not_true, Bool.not_false, Bool.or_false, Bool.false_or, Bool.true_or, Bool.or_true]
end Go.Proofs.Ythidcpkcfoldmaa.Pi.Q
namespace Go.Proofs.Ythidcpkcfoldmaa.Pi.Q
open Go Go.Proofs.Ythidcpkcfoldmaa.Pi
set_option linter.unusedVariables false
set_option linter.unusedSimpArgs false
set_option maxRecDepth 100000
attribute [local congr] ite_congr
variable {c : Nat} {H : Heap} {L : List Box} {b : List UInt8} {f : Bool}
theorem iw_use2 {m : M PV} {w : IW} {x : Box} (h : IWr (List.length H + 1) m w) (hs : b.length + w.1.length ≤ 140737488355328) : run m (hadd H [x, .cells [accB b, .bool f]]) = some (.ok (.tup []) (hadd H [x, .cells [accB (b ++ w.1), .bool (f || w.2)]])) := by
  have := @h (hadd H [x, .dead]) [] b f (by rw [len_add]; simp) hs
  rw [← St_2, ← St_2] at this
  exact run_of_ok this
theorem ok_ite {p : Prop} [Decidable p] {a d : PV} : some (Out.ok (if p then a else d) H) = if p then some (Out.ok a H) else some (Out.ok d H) := by split <;> rfl
def rSw (fm : Nat) (v : IG) : IW :=
  match fm with
  | 0 => ([], true)
  | 2 => iEnt (eB v.block)
  | 3 => iCat (iEnt (eB v.block)) (iClauses v.catches.l)
  | 4 => (putU v.x.toNat, false)
  | 5 => (putU v.x.toNat ++ putU v.y.toNat, false)
  | 6 => (putU v.labels.l.length ++ ((iAll iNum v.labels.l).1 ++ putU v.x.toNat), decide (65536 < (v.labels.l.length : Int)))
  | 7 => (putU v.types.l.length ++ (iAll iVal v.types.l).1, decide (1000 < (v.types.l.length : Int)) || (iAll iVal v.types.l).2)
  | 8 => iMem v.mem
  | 16 => (putU v.x.toNat ++ putU v.n.toNat, decide (4294967296 ≤ v.n))
  | _ => ([], false)
theorem iNum_false : ∀ l : List Int, (iAll iNum l).2 = false
  | [] => rfl
  | a :: l => by
    show (false || (iAll iNum l).2) = false
    rw [iNum_false l]
    rfl
theorem rlabs_loop {v : IG} {v2 v3 : PV} (hv : v.w) : ∀ (m i : Nat) (b : List UInt8) (f : Bool) (H : Heap), i + m = v.labels.l.length → b.length + ((iAll iNum (v.labels.l.drop i)).1.length + (putU v.x.toNat).length) ≤ 140737488355328 →
    run (p_ratchetref09_Write_1110101111111111111011010 (.ptr (List.length H) 0) v2 v3 (.ptr (List.length H + 1) 0) (.int .i64 i)) (hadd H [.cells (cs_IG v), .cells [accB b, .bool f]]) = run (p_ratchetref09_Write_1111 (.ptr (List.length H) 0) v2 v3 (.ptr (List.length H + 1) 0)) (hadd H [.cells (cs_IG v), .cells [accB (b ++ ((iAll iNum (v.labels.l.drop i)).1 ++ putU v.x.toNat)), .bool f]])
  | 0, i, b, f, H, hi, hs => by
    have c1 : ¬ (i : Int) < v.labels.l.length := by omega
    have e0 : v.labels.l.drop i = [] := List.drop_eq_nil_of_le (by omega)
    obtain ⟨x0, x1⟩ := hv.x
    have hu := fun (hs : b.length + (putU v.x.toNat).length ≤ 140737488355328) => iw_use2 (ruI (c := List.length H + 1) (n := v.x) x0 (by omega)) (H := H) (x := .cells (cs_IG v)) (b := b) (f := f) hs
    rw [e0] at hs ⊢
    simp only [iAll, List.length_nil, Nat.zero_add, List.nil_append] at hs ⊢
    have hu := hu hs
    unfold cs_IG at hu ⊢
    rw [p_ratchetref09_Write_1110101111111111111011010_eq]
    simp (contextual := true) (dsimp := false) (disch := omega) only [↓goDown, goUp, List.length_cons, List.length_nil, List.map_cons, List.map_nil, List.take_succ_cons, List.take_zero, List.drop_succ_cons, List.drop_zero, List.drop_nil, List.take_nil, List.cons_append, List.nil_append, List.append_nil, List.set_cons_zero, List.set_cons_succ, List.all_cons, List.all_nil, ↓reduceIte, reduceCtorEq, ge_iff_le, gt_iff_lt, eq_self_iff_true, beq_self_eq_true, beq_iff_eq, bne_iff_ne, ne_eq, ite_not, Int.reduceEq, Option.getD_some, Option.getD_none, ite_self, Nat.reduceAdd, Nat.reduceSub, Nat.reduceMul, Nat.reduceLeDiff, Nat.reduceEqDiff, Nat.reduceBEq, Nat.reduceBNe, Int.reduceLT, Int.reduceLE, Int.reduceAdd, Int.reduceSub, Int.reduceMul, Int.reduceNeg, Int.reduceNe, Int.reduceBEq, Int.reduceBNe, Int.reduceToNat, strip_Z, ln_Z, List.length_map, c1, hu, Bool.or_false, cells_Z, isCell_Z, low_Z, stripC_Z, isTup_Z]
  | m + 1, i, b, f, H, hi, hs => by
    have c1 : (i : Int) < v.labels.l.length := by omega
    have hil : i < v.labels.l.length := by omega
    have hg : (v.labels.l.map encU32)[i]? = some (encU32 v.labels.l[i]) := by simp [hil]
    have hia : ∀ K, run (iaS 1 (LZ v.labels.z 1 (v.labels.l.map encU32)) (.int .i64 i)) K = some (.ok (.elem [.int .u32 v.labels.l[i]]) K) := fun K => (ia_Z hg).trans rfl
    have hd : v.labels.l.drop i = v.labels.l[i] :: v.labels.l.drop (i + 1) := List.drop_eq_getElem_cons hil
    have e1 : ((i : Int) + 1) = ((i + 1 : Nat) : Int) := rfl
    obtain ⟨u0, u1⟩ := hv.lab v.labels.l[i] (List.getElem_mem hil)
    have i2 : (i : Int) + 1 ≤ 9223372036854775807 := by have := hv.ll; omega
    rw [hd] at hs ⊢
    simp only [iAll, iCat, iNum, List.length_append] at hs ⊢
    have hu := iw_use2 (ruI (c := List.length H + 1) (n := v.labels.l[i]) u0 (by omega)) (H := H) (x := .cells (cs_IG v)) (b := b) (f := f) (by simp only; omega)
    have ih := rlabs_loop (v2 := v2) (v3 := v3) hv m (i + 1) (b ++ putU v.labels.l[i].toNat) f H (by omega) (by rw [List.length_append]; omega)
    simp only [List.append_assoc, Bool.or_false] at ih hu
    unfold cs_IG at hu ih ⊢
    rw [p_ratchetref09_Write_1110101111111111111011010_eq]
    simp (contextual := true) (dsimp := false) (disch := omega) only [↓goDown, goUp, List.length_cons, List.length_nil, List.map_cons, List.map_nil, List.take_succ_cons, List.take_zero, List.drop_succ_cons, List.drop_zero, List.drop_nil, List.take_nil, List.cons_append, List.nil_append, List.append_nil, List.set_cons_zero, List.set_cons_succ, List.all_cons, List.all_nil, ↓reduceIte, reduceCtorEq, ge_iff_le, gt_iff_lt, eq_self_iff_true, beq_self_eq_true, beq_iff_eq, bne_iff_ne, ne_eq, ite_not, Int.reduceEq, Option.getD_some, Option.getD_none, ite_self, Nat.reduceAdd, Nat.reduceSub, Nat.reduceMul, Nat.reduceLeDiff, Nat.reduceEqDiff, Nat.reduceBEq, Nat.reduceBNe, Int.reduceLT, Int.reduceLE, Int.reduceAdd, Int.reduceSub, Int.reduceMul, Int.reduceNeg, Int.reduceNe, Int.reduceBEq, Int.reduceBNe, Int.reduceToNat, strip_Z, ln_Z, List.length_map, c1, hia, hu, e1, ih, List.append_assoc, cells_Z, isCell_Z, low_Z, stripC_Z, isTup_Z]
theorem rvals_loop' {v : IG} {v2 v3 : PV} (hv : v.w) : ∀ (m i : Nat) (b : List UInt8) (f : Bool) (H : Heap), i + m = v.types.l.length → b.length + (iAll iVal (v.types.l.drop i)).1.length ≤ 140737488355328 →
    run (p_ratchetref09_Write_11101011111111111111101110 (.ptr (List.length H) 0) v2 v3 (.ptr (List.length H + 1) 0) (.int .i64 i)) (hadd H [.cells (cs_IG v), .cells [accB b, .bool f]]) = run (p_ratchetref09_Write_1111 (.ptr (List.length H) 0) v2 v3 (.ptr (List.length H + 1) 0)) (hadd H [.cells (cs_IG v), .cells [accB (b ++ (iAll iVal (v.types.l.drop i)).1), .bool (f || (iAll iVal (v.types.l.drop i)).2)]])
  | 0, i, b, f, H, hi, hs => by
    have c1 : ¬ (i : Int) < v.types.l.length := by omega
    have e0 : v.types.l.drop i = [] := List.drop_eq_nil_of_le (by omega)
    rw [e0] at hs ⊢
    simp only [iAll, List.append_nil, Bool.or_false] at hs ⊢
    unfold cs_IG
    rw [p_ratchetref09_Write_11101011111111111111101110_eq]
    simp (contextual := true) (dsimp := false) (disch := omega) only [↓goDown, goUp, List.length_cons, List.length_nil, List.map_cons, List.map_nil, List.take_succ_cons, List.take_zero, List.drop_succ_cons, List.drop_zero, List.drop_nil, List.take_nil, List.cons_append, List.nil_append, List.append_nil, List.set_cons_zero, List.set_cons_succ, List.all_cons, List.all_nil, ↓reduceIte, reduceCtorEq, ge_iff_le, gt_iff_lt, eq_self_iff_true, beq_self_eq_true, beq_iff_eq, bne_iff_ne, ne_eq, ite_not, Int.reduceEq, Option.getD_some, Option.getD_none, ite_self, Nat.reduceAdd, Nat.reduceSub, Nat.reduceMul, Nat.reduceLeDiff, Nat.reduceEqDiff, Nat.reduceBEq, Nat.reduceBNe, Int.reduceLT, Int.reduceLE, Int.reduceAdd, Int.reduceSub, Int.reduceMul, Int.reduceNeg, Int.reduceNe, Int.reduceBEq, Int.reduceBNe, Int.reduceToNat, strip_Z, ln_Z, List.length_map, c1, Bool.or_false, cells_Z, isCell_Z, low_Z, stripC_Z, isTup_Z]
  | m + 1, i, b, f, H, hi, hs => by
    have c1 : (i : Int) < v.types.l.length := by omega
    have hil : i < v.types.l.length := by omega
    have hg : (v.types.l.map encV)[i]? = some (encV v.types.l[i]) := by simp [hil]
    have hia : ∀ K, run (iaS 3 (LZ v.types.z 3 (v.types.l.map encV)) (.int .i64 i)) K = some (.ok (.elem [.int .i64 v.types.l[i].num, .bool v.types.l[i].nul, .int .i64 v.types.l[i].heap]) K) := fun K => (ia_Z hg).trans rfl
    have hd : v.types.l.drop i = v.types.l[i] :: v.types.l.drop (i + 1) := List.drop_eq_getElem_cons hil
    have e1 : ((i : Int) + 1) = ((i + 1 : Nat) : Int) := rfl
    have i2 : (i : Int) + 1 ≤ 9223372036854775807 := by have := hv.lt; omega
    rw [hd] at hs ⊢
    simp only [iAll, iCat, List.length_append] at hs ⊢
    have hu := iw_use2 (rvalI (c := List.length H + 1) (v := v.types.l[i]) (hv.ty _ (List.getElem_mem hil))) (H := H) (x := .cells (cs_IG v)) (b := b) (f := f) (by omega)
    have ih := rvals_loop' (v2 := v2) (v3 := v3) hv m (i + 1) (b ++ (iVal v.types.l[i]).1) (f || (iVal v.types.l[i]).2) H (by omega) (by rw [List.length_append]; omega)
    simp only [List.append_assoc, Bool.or_assoc] at ih hu
    unfold cs_IG at hu ih ⊢
    rw [p_ratchetref09_Write_11101011111111111111101110_eq]
    simp (contextual := true) (dsimp := false) (disch := omega) only [↓goDown, goUp, List.length_cons, List.length_nil, List.map_cons, List.map_nil, List.take_succ_cons, List.take_zero, List.drop_succ_cons, List.drop_zero, List.drop_nil, List.take_nil, List.cons_append, List.nil_append, List.append_nil, List.set_cons_zero, List.set_cons_succ, List.all_cons, List.all_nil, ↓reduceIte, reduceCtorEq, ge_iff_le, gt_iff_lt, eq_self_iff_true, beq_self_eq_true, beq_iff_eq, bne_iff_ne, ne_eq, ite_not, Int.reduceEq, Option.getD_some, Option.getD_none, ite_self, Nat.reduceAdd, Nat.reduceSub, Nat.reduceMul, Nat.reduceLeDiff, Nat.reduceEqDiff, Nat.reduceBEq, Nat.reduceBNe, Int.reduceLT, Int.reduceLE, Int.reduceAdd, Int.reduceSub, Int.reduceMul, Int.reduceNeg, Int.reduceNe, Int.reduceBEq, Int.reduceBNe, Int.reduceToNat, strip_Z, ln_Z, List.length_map, c1, hia, hu, e1, ih, List.append_assoc, cells_Z, isCell_Z, low_Z, stripC_Z, isTup_Z]
def refB (fm : Nat) (v : IG) : IW := iCat (rSw fm v) (iCat (rCast fm v) (rConst fm v.n))
def refW (v : IG) : IW := iCat (iOp v.op) (refB (formN v.op) v)
theorem iOp_2 {op : Int} : (iOp op).2 = false := nrfl rfl
theorem rwrite_0 {v : IG} (hv : v.w) (hk : formN v.op = 0) (hp : 0 ≤ v.op ∨ 0 ≠ 14) (hs : (iCat (iOp v.op) (refB 0 v)).1.length ≤ 140737488355328) : run (C k_ratchetref09_Write [.agg (cs_IG v)]) H = some (.ok (wOut (iCat (iOp v.op) (refB 0 v))) H) := by
  have hform : ∀ K, run (C k_ratchetref09_Form [.int .i64 v.op]) K = some (.ok (.str ⟨List.toArray []⟩) K) := fun K => by
    rw [rform_is hv.op.1 hv.op.2, formR_is, hk]
    rfl
  have q0 : (([] : List UInt8) = []) = True := eq_true rfl
  have q2 : (([] : List UInt8) = [98, 108, 111, 99, 107]) = False := eq_false (by decide)
  have q3 : (([] : List UInt8) = [116, 114, 121]) = False := eq_false (by decide)
  have q4 : (([] : List UInt8) = [120]) = False := eq_false (by decide)
  have q5 : (([] : List UInt8) = [120, 121]) = False := eq_false (by decide)
  have q16 : (([] : List UInt8) = [120, 110]) = False := eq_false (by decide)
  have q6 : (([] : List UInt8) = [116, 97, 98, 108, 101]) = False := eq_false (by decide)
  have q7 : (([] : List UInt8) = [115, 101, 108, 101, 99, 116]) = False := eq_false (by decide)
  have q8 : (([] : List UInt8) = [109, 101, 109]) = False := eq_false (by decide)
  simp only [iCat, refB, List.length_append] at hs
  have hop : run (C k_ratchetref09_writing_opcode [.ptr (List.length H + 1) 0, .int .i64 v.op]) (hadd H [.cells (cs_IG v), .cells [.slice false true 0 [], .bool false]]) = some (.ok (.tup []) (hadd H [.cells (cs_IG v), .cells [accB (iOp v.op).1, .bool false]])) := iw_use2 (ropcodeI (c := List.length H + 1) hv.op) (H := H) (x := .cells (cs_IG v)) (b := []) (f := false) (by simp only [List.length_nil]; omega)
  have hca := fun (b : List UInt8) (f : Bool) (hs : b.length + (rCast 0 v).1.length ≤ 140737488355328) => iw_use2 (rcasts_0 (c := List.length H + 1) hv hk) (H := H) (x := .cells (cs_IG v)) (b := b) (f := f) hs
  have hco := fun (b : List UInt8) (f : Bool) (hs : b.length + (rConst 0 v.n).1.length ≤ 140737488355328) => iw_use2 (rconsts_0 (c := List.length H + 1) hv hk) (H := H) (x := .cells (cs_IG v)) (b := b) (f := f) hs
  unfold cs_IG at hop hca hco ⊢
  rw [ratchetref09_Write_eq]
  simp (contextual := true) (dsimp := false) (disch := first | omega | (simp only [List.length_append, List.length_cons, List.length_nil, Int.toNat_natCast]; omega)) only [↓goDown, goUp, List.length_cons, List.length_nil, List.map_cons, List.map_nil, List.take_succ_cons, List.take_zero, List.drop_succ_cons, List.drop_zero, List.drop_nil, List.take_nil, List.cons_append, List.nil_append, List.append_nil, List.set_cons_zero, List.set_cons_succ, List.all_cons, List.all_nil, ↓reduceIte, reduceCtorEq, ge_iff_le, gt_iff_lt, eq_self_iff_true, beq_self_eq_true, beq_iff_eq, bne_iff_ne, ne_eq, ite_not, Int.reduceEq, Option.getD_some, Option.getD_none, ite_self, Nat.reduceAdd, Nat.reduceSub, Nat.reduceMul, Nat.reduceLeDiff, Nat.reduceEqDiff, Nat.reduceBEq, Nat.reduceBNe, Int.reduceLT, Int.reduceLE, Int.reduceAdd, Int.reduceSub, Int.reduceMul, Int.reduceNeg, Int.reduceNe, Int.reduceBEq, Int.reduceBNe, Int.reduceToNat, hop, hform, bytes_toList, q0, q2, q3, q4, q5, q16, q6, q7, q8, p_ratchetref09_Write_1111_eq, hca, hco, wOut, iCat, refB, rSw, iOp_2, ok_ite, cells_Z, isCell_Z, low_Z, stripC_Z, isTup_Z, strip_Z, isCell_B, cells_B, low_B, isTup_B, List.append_assoc, List.append_nil, List.nil_append, Bool.or_assoc, Bool.not_true, Bool.not_false, Bool.or_false, Bool.false_or, Bool.true_or, Bool.or_true]
theorem rwrite_1 {v : IG} (hv : v.w) (hk : formN v.op = 1) (hp : 0 ≤ v.op ∨ 1 ≠ 14) (hs : (iCat (iOp v.op) (refB 1 v)).1.length ≤ 140737488355328) : run (C k_ratchetref09_Write [.agg (cs_IG v)]) H = some (.ok (wOut (iCat (iOp v.op) (refB 1 v))) H) := by
  have hform : ∀ K, run (C k_ratchetref09_Form [.int .i64 v.op]) K = some (.ok (.str ⟨List.toArray [45]⟩) K) := fun K => by
    rw [rform_is hv.op.1 hv.op.2, formR_is, hk]
    rfl
  have q0 : (([45] : List UInt8) = []) = False := eq_false (by decide)
  have q2 : (([45] : List UInt8) = [98, 108, 111, 99, 107]) = False := eq_false (by decide)
  have q3 : (([45] : List UInt8) = [116, 114, 121]) = False := eq_false (by decide)
  have q4 : (([45] : List UInt8) = [120]) = False := eq_false (by decide)
  have q5 : (([45] : List UInt8) = [120, 121]) = False := eq_false (by decide)
  have q16 : (([45] : List UInt8) = [120, 110]) = False := eq_false (by decide)
  have q6 : (([45] : List UInt8) = [116, 97, 98, 108, 101]) = False := eq_false (by decide)
  have q7 : (([45] : List UInt8) = [115, 101, 108, 101, 99, 116]) = False := eq_false (by decide)
  have q8 : (([45] : List UInt8) = [109, 101, 109]) = False := eq_false (by decide)
  simp only [iCat, refB, List.length_append] at hs
  have hop : run (C k_ratchetref09_writing_opcode [.ptr (List.length H + 1) 0, .int .i64 v.op]) (hadd H [.cells (cs_IG v), .cells [.slice false true 0 [], .bool false]]) = some (.ok (.tup []) (hadd H [.cells (cs_IG v), .cells [accB (iOp v.op).1, .bool false]])) := iw_use2 (ropcodeI (c := List.length H + 1) hv.op) (H := H) (x := .cells (cs_IG v)) (b := []) (f := false) (by simp only [List.length_nil]; omega)
  have hca := fun (b : List UInt8) (f : Bool) (hs : b.length + (rCast 1 v).1.length ≤ 140737488355328) => iw_use2 (rcasts_1 (c := List.length H + 1) hv hk) (H := H) (x := .cells (cs_IG v)) (b := b) (f := f) hs
  have hco := fun (b : List UInt8) (f : Bool) (hs : b.length + (rConst 1 v.n).1.length ≤ 140737488355328) => iw_use2 (rconsts_1 (c := List.length H + 1) hv hk) (H := H) (x := .cells (cs_IG v)) (b := b) (f := f) hs
  unfold cs_IG at hop hca hco ⊢
  rw [ratchetref09_Write_eq]
  simp (contextual := true) (dsimp := false) (disch := first | omega | (simp only [List.length_append, List.length_cons, List.length_nil, Int.toNat_natCast]; omega)) only [↓goDown, goUp, List.length_cons, List.length_nil, List.map_cons, List.map_nil, List.take_succ_cons, List.take_zero, List.drop_succ_cons, List.drop_zero, List.drop_nil, List.take_nil, List.cons_append, List.nil_append, List.append_nil, List.set_cons_zero, List.set_cons_succ, List.all_cons, List.all_nil, ↓reduceIte, reduceCtorEq, ge_iff_le, gt_iff_lt, eq_self_iff_true, beq_self_eq_true, beq_iff_eq, bne_iff_ne, ne_eq, ite_not, Int.reduceEq, Option.getD_some, Option.getD_none, ite_self, Nat.reduceAdd, Nat.reduceSub, Nat.reduceMul, Nat.reduceLeDiff, Nat.reduceEqDiff, Nat.reduceBEq, Nat.reduceBNe, Int.reduceLT, Int.reduceLE, Int.reduceAdd, Int.reduceSub, Int.reduceMul, Int.reduceNeg, Int.reduceNe, Int.reduceBEq, Int.reduceBNe, Int.reduceToNat, hop, hform, bytes_toList, q0, q2, q3, q4, q5, q16, q6, q7, q8, p_ratchetref09_Write_1111_eq, hca, hco, wOut, iCat, refB, rSw, iOp_2, ok_ite, cells_Z, isCell_Z, low_Z, stripC_Z, isTup_Z, strip_Z, isCell_B, cells_B, low_B, isTup_B, List.append_assoc, List.append_nil, List.nil_append, Bool.or_assoc, Bool.not_true, Bool.not_false, Bool.or_false, Bool.false_or, Bool.true_or, Bool.or_true]
theorem rwrite_2 {v : IG} (hv : v.w) (hk : formN v.op = 2) (hp : 0 ≤ v.op ∨ 2 ≠ 14) (hs : (iCat (iOp v.op) (refB 2 v)).1.length ≤ 140737488355328) : run (C k_ratchetref09_Write [.agg (cs_IG v)]) H = some (.ok (wOut (iCat (iOp v.op) (refB 2 v))) H) := by
  have hform : ∀ K, run (C k_ratchetref09_Form [.int .i64 v.op]) K = some (.ok (.str ⟨List.toArray [98, 108, 111, 99, 107]⟩) K) := fun K => by
    rw [rform_is hv.op.1 hv.op.2, formR_is, hk]
    rfl
  have q0 : (([98, 108, 111, 99, 107] : List UInt8) = []) = False := eq_false (by decide)
  have q2 : (([98, 108, 111, 99, 107] : List UInt8) = [98, 108, 111, 99, 107]) = True := eq_true rfl
  have q3 : (([98, 108, 111, 99, 107] : List UInt8) = [116, 114, 121]) = False := eq_false (by decide)
  have q4 : (([98, 108, 111, 99, 107] : List UInt8) = [120]) = False := eq_false (by decide)
  have q5 : (([98, 108, 111, 99, 107] : List UInt8) = [120, 121]) = False := eq_false (by decide)
  have q16 : (([98, 108, 111, 99, 107] : List UInt8) = [120, 110]) = False := eq_false (by decide)
  have q6 : (([98, 108, 111, 99, 107] : List UInt8) = [116, 97, 98, 108, 101]) = False := eq_false (by decide)
  have q7 : (([98, 108, 111, 99, 107] : List UInt8) = [115, 101, 108, 101, 99, 116]) = False := eq_false (by decide)
  have q8 : (([98, 108, 111, 99, 107] : List UInt8) = [109, 101, 109]) = False := eq_false (by decide)
  simp only [iCat, refB, List.length_append, rSw] at hs
  have hop : run (C k_ratchetref09_writing_opcode [.ptr (List.length H + 1) 0, .int .i64 v.op]) (hadd H [.cells (cs_IG v), .cells [.slice false true 0 [], .bool false]]) = some (.ok (.tup []) (hadd H [.cells (cs_IG v), .cells [accB (iOp v.op).1, .bool false]])) := iw_use2 (ropcodeI (c := List.length H + 1) hv.op) (H := H) (x := .cells (cs_IG v)) (b := []) (f := false) (by simp only [List.length_nil]; omega)
  have hca := fun (b : List UInt8) (f : Bool) (hs : b.length + (rCast 2 v).1.length ≤ 140737488355328) => iw_use2 (rcasts_2 (c := List.length H + 1) hv hk) (H := H) (x := .cells (cs_IG v)) (b := b) (f := f) hs
  have hco := fun (b : List UInt8) (f : Bool) (hs : b.length + (rConst 2 v.n).1.length ≤ 140737488355328) => iw_use2 (rconsts_2 (c := List.length H + 1) hv hk) (H := H) (x := .cells (cs_IG v)) (b := b) (f := f) hs
  have hb := iw_use2 (rblockI (c := List.length H + 1) (v := v.block) hv.bh hv.bt) (H := H) (x := .cells (cs_IG v)) (b := (iOp v.op).1) (f := false) (by omega)
  unfold cs_IG at hop hca hco hb ⊢
  rw [ratchetref09_Write_eq]
  simp (contextual := true) (dsimp := false) (disch := first | omega | (simp only [List.length_append, List.length_cons, List.length_nil, Int.toNat_natCast]; omega)) only [↓goDown, goUp, List.length_cons, List.length_nil, List.map_cons, List.map_nil, List.take_succ_cons, List.take_zero, List.drop_succ_cons, List.drop_zero, List.drop_nil, List.take_nil, List.cons_append, List.nil_append, List.append_nil, List.set_cons_zero, List.set_cons_succ, List.all_cons, List.all_nil, ↓reduceIte, reduceCtorEq, ge_iff_le, gt_iff_lt, eq_self_iff_true, beq_self_eq_true, beq_iff_eq, bne_iff_ne, ne_eq, ite_not, Int.reduceEq, Option.getD_some, Option.getD_none, ite_self, Nat.reduceAdd, Nat.reduceSub, Nat.reduceMul, Nat.reduceLeDiff, Nat.reduceEqDiff, Nat.reduceBEq, Nat.reduceBNe, Int.reduceLT, Int.reduceLE, Int.reduceAdd, Int.reduceSub, Int.reduceMul, Int.reduceNeg, Int.reduceNe, Int.reduceBEq, Int.reduceBNe, Int.reduceToNat, hop, hform, bytes_toList, q0, q2, q3, q4, q5, q16, q6, q7, q8, hb, p_ratchetref09_Write_1111_eq, hca, hco, wOut, iCat, refB, rSw, iOp_2, ok_ite, cells_Z, isCell_Z, low_Z, stripC_Z, isTup_Z, strip_Z, isCell_B, cells_B, low_B, isTup_B, List.append_assoc, List.append_nil, List.nil_append, Bool.or_assoc, Bool.not_true, Bool.not_false, Bool.or_false, Bool.false_or, Bool.true_or, Bool.or_true]
theorem rwrite_3 {v : IG} (hv : v.w) (hk : formN v.op = 3) (hp : 0 ≤ v.op ∨ 3 ≠ 14) (hs : (iCat (iOp v.op) (refB 3 v)).1.length ≤ 140737488355328) : run (C k_ratchetref09_Write [.agg (cs_IG v)]) H = some (.ok (wOut (iCat (iOp v.op) (refB 3 v))) H) := by
  have hform : ∀ K, run (C k_ratchetref09_Form [.int .i64 v.op]) K = some (.ok (.str ⟨List.toArray [116, 114, 121]⟩) K) := fun K => by
    rw [rform_is hv.op.1 hv.op.2, formR_is, hk]
    rfl
  have q0 : (([116, 114, 121] : List UInt8) = []) = False := eq_false (by decide)
  have q2 : (([116, 114, 121] : List UInt8) = [98, 108, 111, 99, 107]) = False := eq_false (by decide)
  have q3 : (([116, 114, 121] : List UInt8) = [116, 114, 121]) = True := eq_true rfl
  have q4 : (([116, 114, 121] : List UInt8) = [120]) = False := eq_false (by decide)
  have q5 : (([116, 114, 121] : List UInt8) = [120, 121]) = False := eq_false (by decide)
  have q16 : (([116, 114, 121] : List UInt8) = [120, 110]) = False := eq_false (by decide)
  have q6 : (([116, 114, 121] : List UInt8) = [116, 97, 98, 108, 101]) = False := eq_false (by decide)
  have q7 : (([116, 114, 121] : List UInt8) = [115, 101, 108, 101, 99, 116]) = False := eq_false (by decide)
  have q8 : (([116, 114, 121] : List UInt8) = [109, 101, 109]) = False := eq_false (by decide)
  simp only [iCat, refB, List.length_append, rSw, iEnt] at hs
  have hop : run (C k_ratchetref09_writing_opcode [.ptr (List.length H + 1) 0, .int .i64 v.op]) (hadd H [.cells (cs_IG v), .cells [.slice false true 0 [], .bool false]]) = some (.ok (.tup []) (hadd H [.cells (cs_IG v), .cells [accB (iOp v.op).1, .bool false]])) := iw_use2 (ropcodeI (c := List.length H + 1) hv.op) (H := H) (x := .cells (cs_IG v)) (b := []) (f := false) (by simp only [List.length_nil]; omega)
  have hca := fun (b : List UInt8) (f : Bool) (hs : b.length + (rCast 3 v).1.length ≤ 140737488355328) => iw_use2 (rcasts_3 (c := List.length H + 1) hv hk) (H := H) (x := .cells (cs_IG v)) (b := b) (f := f) hs
  have hco := fun (b : List UInt8) (f : Bool) (hs : b.length + (rConst 3 v.n).1.length ≤ 140737488355328) => iw_use2 (rconsts_3 (c := List.length H + 1) hv hk) (H := H) (x := .cells (cs_IG v)) (b := b) (f := f) hs
  have hb := iw_use2 (rblockI (c := List.length H + 1) (v := v.block) hv.bh hv.bt) (H := H) (x := .cells (cs_IG v)) (b := (iOp v.op).1) (f := false) (by simp only [iEnt]; omega)
  have hcl := fun (b : List UInt8) (f : Bool) (hs : b.length + (iClauses v.catches.l).1.length ≤ 140737488355328) => iw_use2 (rclausesI (c := List.length H + 1) (z := v.catches.z) (l := v.catches.l) (by have := hv.lc; omega) hv.ca) (H := H) (x := .cells (cs_IG v)) (b := b) (f := f) hs
  simp only [iEnt] at hb
  unfold cs_IG at hop hca hco hb hcl ⊢
  rw [ratchetref09_Write_eq]
  simp (contextual := true) (dsimp := false) (disch := first | omega | (simp only [List.length_append, List.length_cons, List.length_nil, Int.toNat_natCast]; omega)) only [↓goDown, goUp, List.length_cons, List.length_nil, List.map_cons, List.map_nil, List.take_succ_cons, List.take_zero, List.drop_succ_cons, List.drop_zero, List.drop_nil, List.take_nil, List.cons_append, List.nil_append, List.append_nil, List.set_cons_zero, List.set_cons_succ, List.all_cons, List.all_nil, ↓reduceIte, reduceCtorEq, ge_iff_le, gt_iff_lt, eq_self_iff_true, beq_self_eq_true, beq_iff_eq, bne_iff_ne, ne_eq, ite_not, Int.reduceEq, Option.getD_some, Option.getD_none, ite_self, Nat.reduceAdd, Nat.reduceSub, Nat.reduceMul, Nat.reduceLeDiff, Nat.reduceEqDiff, Nat.reduceBEq, Nat.reduceBNe, Int.reduceLT, Int.reduceLE, Int.reduceAdd, Int.reduceSub, Int.reduceMul, Int.reduceNeg, Int.reduceNe, Int.reduceBEq, Int.reduceBNe, Int.reduceToNat, hop, hform, bytes_toList, q0, q2, q3, q4, q5, q16, q6, q7, q8, hb, hcl, p_ratchetref09_Write_1111_eq, hca, hco, wOut, iCat, refB, rSw, iEnt, iOp_2, ok_ite, cells_Z, isCell_Z, low_Z, stripC_Z, isTup_Z, strip_Z, isCell_B, cells_B, low_B, isTup_B, List.append_assoc, List.append_nil, List.nil_append, Bool.or_assoc, Bool.not_true, Bool.not_false, Bool.or_false, Bool.false_or, Bool.true_or, Bool.or_true]
theorem rwrite_4 {v : IG} (hv : v.w) (hk : formN v.op = 4) (hp : 0 ≤ v.op ∨ 4 ≠ 14) (hs : (iCat (iOp v.op) (refB 4 v)).1.length ≤ 140737488355328) : run (C k_ratchetref09_Write [.agg (cs_IG v)]) H = some (.ok (wOut (iCat (iOp v.op) (refB 4 v))) H) := by
  have hform : ∀ K, run (C k_ratchetref09_Form [.int .i64 v.op]) K = some (.ok (.str ⟨List.toArray [120]⟩) K) := fun K => by
    rw [rform_is hv.op.1 hv.op.2, formR_is, hk]
    rfl
  have q0 : (([120] : List UInt8) = []) = False := eq_false (by decide)
  have q2 : (([120] : List UInt8) = [98, 108, 111, 99, 107]) = False := eq_false (by decide)
  have q3 : (([120] : List UInt8) = [116, 114, 121]) = False := eq_false (by decide)
  have q4 : (([120] : List UInt8) = [120]) = True := eq_true rfl
  have q5 : (([120] : List UInt8) = [120, 121]) = False := eq_false (by decide)
  have q16 : (([120] : List UInt8) = [120, 110]) = False := eq_false (by decide)
  have q6 : (([120] : List UInt8) = [116, 97, 98, 108, 101]) = False := eq_false (by decide)
  have q7 : (([120] : List UInt8) = [115, 101, 108, 101, 99, 116]) = False := eq_false (by decide)
  have q8 : (([120] : List UInt8) = [109, 101, 109]) = False := eq_false (by decide)
  simp only [iCat, refB, List.length_append, rSw] at hs
  have hop : run (C k_ratchetref09_writing_opcode [.ptr (List.length H + 1) 0, .int .i64 v.op]) (hadd H [.cells (cs_IG v), .cells [.slice false true 0 [], .bool false]]) = some (.ok (.tup []) (hadd H [.cells (cs_IG v), .cells [accB (iOp v.op).1, .bool false]])) := iw_use2 (ropcodeI (c := List.length H + 1) hv.op) (H := H) (x := .cells (cs_IG v)) (b := []) (f := false) (by simp only [List.length_nil]; omega)
  have hca := fun (b : List UInt8) (f : Bool) (hs : b.length + (rCast 4 v).1.length ≤ 140737488355328) => iw_use2 (rcasts_4 (c := List.length H + 1) hv hk) (H := H) (x := .cells (cs_IG v)) (b := b) (f := f) hs
  have hco := fun (b : List UInt8) (f : Bool) (hs : b.length + (rConst 4 v.n).1.length ≤ 140737488355328) => iw_use2 (rconsts_4 (c := List.length H + 1) hv hk) (H := H) (x := .cells (cs_IG v)) (b := b) (f := f) hs
  obtain ⟨⟨x0, x1⟩, ⟨y0, y1⟩, ⟨n0, n1⟩⟩ := And.intro hv.x (And.intro hv.y hv.n)
  have hu := fun (n : Int) (h0 : 0 ≤ n) (h1 : n < 18446744073709551616) (b : List UInt8) (f : Bool) (hs : b.length + (putU n.toNat).length ≤ 140737488355328) => iw_use2 (ruI (c := List.length H + 1) h0 h1) (H := H) (x := .cells (cs_IG v)) (b := b) (f := f) hs
  unfold cs_IG at hop hca hco hu ⊢
  rw [ratchetref09_Write_eq]
  simp (contextual := true) (dsimp := false) (disch := first | omega | (simp only [List.length_append, List.length_cons, List.length_nil, Int.toNat_natCast]; omega)) only [↓goDown, goUp, List.length_cons, List.length_nil, List.map_cons, List.map_nil, List.take_succ_cons, List.take_zero, List.drop_succ_cons, List.drop_zero, List.drop_nil, List.take_nil, List.cons_append, List.nil_append, List.append_nil, List.set_cons_zero, List.set_cons_succ, List.all_cons, List.all_nil, ↓reduceIte, reduceCtorEq, ge_iff_le, gt_iff_lt, eq_self_iff_true, beq_self_eq_true, beq_iff_eq, bne_iff_ne, ne_eq, ite_not, Int.reduceEq, Option.getD_some, Option.getD_none, ite_self, Nat.reduceAdd, Nat.reduceSub, Nat.reduceMul, Nat.reduceLeDiff, Nat.reduceEqDiff, Nat.reduceBEq, Nat.reduceBNe, Int.reduceLT, Int.reduceLE, Int.reduceAdd, Int.reduceSub, Int.reduceMul, Int.reduceNeg, Int.reduceNe, Int.reduceBEq, Int.reduceBNe, Int.reduceToNat, hop, hform, bytes_toList, q0, q2, q3, q4, q5, q16, q6, q7, q8, hu, p_ratchetref09_Write_1111_eq, hca, hco, wOut, iCat, refB, rSw, iOp_2, ok_ite, cells_Z, isCell_Z, low_Z, stripC_Z, isTup_Z, strip_Z, isCell_B, cells_B, low_B, isTup_B, List.append_assoc, List.append_nil, List.nil_append, Bool.or_assoc, Bool.not_true, Bool.not_false, Bool.or_false, Bool.false_or, Bool.true_or, Bool.or_true]
theorem rwrite_5 {v : IG} (hv : v.w) (hk : formN v.op = 5) (hp : 0 ≤ v.op ∨ 5 ≠ 14) (hs : (iCat (iOp v.op) (refB 5 v)).1.length ≤ 140737488355328) : run (C k_ratchetref09_Write [.agg (cs_IG v)]) H = some (.ok (wOut (iCat (iOp v.op) (refB 5 v))) H) := by
  have hform : ∀ K, run (C k_ratchetref09_Form [.int .i64 v.op]) K = some (.ok (.str ⟨List.toArray [120, 121]⟩) K) := fun K => by
    rw [rform_is hv.op.1 hv.op.2, formR_is, hk]
    rfl
  have q0 : (([120, 121] : List UInt8) = []) = False := eq_false (by decide)
  have q2 : (([120, 121] : List UInt8) = [98, 108, 111, 99, 107]) = False := eq_false (by decide)
  have q3 : (([120, 121] : List UInt8) = [116, 114, 121]) = False := eq_false (by decide)
  have q4 : (([120, 121] : List UInt8) = [120]) = False := eq_false (by decide)
  have q5 : (([120, 121] : List UInt8) = [120, 121]) = True := eq_true rfl
  have q16 : (([120, 121] : List UInt8) = [120, 110]) = False := eq_false (by decide)
  have q6 : (([120, 121] : List UInt8) = [116, 97, 98, 108, 101]) = False := eq_false (by decide)
  have q7 : (([120, 121] : List UInt8) = [115, 101, 108, 101, 99, 116]) = False := eq_false (by decide)
  have q8 : (([120, 121] : List UInt8) = [109, 101, 109]) = False := eq_false (by decide)
  simp only [iCat, refB, List.length_append, rSw] at hs
  have hop : run (C k_ratchetref09_writing_opcode [.ptr (List.length H + 1) 0, .int .i64 v.op]) (hadd H [.cells (cs_IG v), .cells [.slice false true 0 [], .bool false]]) = some (.ok (.tup []) (hadd H [.cells (cs_IG v), .cells [accB (iOp v.op).1, .bool false]])) := iw_use2 (ropcodeI (c := List.length H + 1) hv.op) (H := H) (x := .cells (cs_IG v)) (b := []) (f := false) (by simp only [List.length_nil]; omega)
  have hca := fun (b : List UInt8) (f : Bool) (hs : b.length + (rCast 5 v).1.length ≤ 140737488355328) => iw_use2 (rcasts_5 (c := List.length H + 1) hv hk) (H := H) (x := .cells (cs_IG v)) (b := b) (f := f) hs
  have hco := fun (b : List UInt8) (f : Bool) (hs : b.length + (rConst 5 v.n).1.length ≤ 140737488355328) => iw_use2 (rconsts_5 (c := List.length H + 1) hv hk) (H := H) (x := .cells (cs_IG v)) (b := b) (f := f) hs
  obtain ⟨⟨x0, x1⟩, ⟨y0, y1⟩, ⟨n0, n1⟩⟩ := And.intro hv.x (And.intro hv.y hv.n)
  have hu := fun (n : Int) (h0 : 0 ≤ n) (h1 : n < 18446744073709551616) (b : List UInt8) (f : Bool) (hs : b.length + (putU n.toNat).length ≤ 140737488355328) => iw_use2 (ruI (c := List.length H + 1) h0 h1) (H := H) (x := .cells (cs_IG v)) (b := b) (f := f) hs
  unfold cs_IG at hop hca hco hu ⊢
  rw [ratchetref09_Write_eq]
  simp (contextual := true) (dsimp := false) (disch := first | omega | (simp only [List.length_append, List.length_cons, List.length_nil, Int.toNat_natCast]; omega)) only [↓goDown, goUp, List.length_cons, List.length_nil, List.map_cons, List.map_nil, List.take_succ_cons, List.take_zero, List.drop_succ_cons, List.drop_zero, List.drop_nil, List.take_nil, List.cons_append, List.nil_append, List.append_nil, List.set_cons_zero, List.set_cons_succ, List.all_cons, List.all_nil, ↓reduceIte, reduceCtorEq, ge_iff_le, gt_iff_lt, eq_self_iff_true, beq_self_eq_true, beq_iff_eq, bne_iff_ne, ne_eq, ite_not, Int.reduceEq, Option.getD_some, Option.getD_none, ite_self, Nat.reduceAdd, Nat.reduceSub, Nat.reduceMul, Nat.reduceLeDiff, Nat.reduceEqDiff, Nat.reduceBEq, Nat.reduceBNe, Int.reduceLT, Int.reduceLE, Int.reduceAdd, Int.reduceSub, Int.reduceMul, Int.reduceNeg, Int.reduceNe, Int.reduceBEq, Int.reduceBNe, Int.reduceToNat, hop, hform, bytes_toList, q0, q2, q3, q4, q5, q16, q6, q7, q8, hu, p_ratchetref09_Write_1111_eq, hca, hco, wOut, iCat, refB, rSw, iOp_2, ok_ite, cells_Z, isCell_Z, low_Z, stripC_Z, isTup_Z, strip_Z, isCell_B, cells_B, low_B, isTup_B, List.append_assoc, List.append_nil, List.nil_append, Bool.or_assoc, Bool.not_true, Bool.not_false, Bool.or_false, Bool.false_or, Bool.true_or, Bool.or_true]
theorem rwrite_6 {v : IG} (hv : v.w) (hk : formN v.op = 6) (hp : 0 ≤ v.op ∨ 6 ≠ 14) (hs : (iCat (iOp v.op) (refB 6 v)).1.length ≤ 140737488355328) : run (C k_ratchetref09_Write [.agg (cs_IG v)]) H = some (.ok (wOut (iCat (iOp v.op) (refB 6 v))) H) := by
  have hform : ∀ K, run (C k_ratchetref09_Form [.int .i64 v.op]) K = some (.ok (.str ⟨List.toArray [116, 97, 98, 108, 101]⟩) K) := fun K => by
    rw [rform_is hv.op.1 hv.op.2, formR_is, hk]
    rfl
  have q0 : (([116, 97, 98, 108, 101] : List UInt8) = []) = False := eq_false (by decide)
  have q2 : (([116, 97, 98, 108, 101] : List UInt8) = [98, 108, 111, 99, 107]) = False := eq_false (by decide)
  have q3 : (([116, 97, 98, 108, 101] : List UInt8) = [116, 114, 121]) = False := eq_false (by decide)
  have q4 : (([116, 97, 98, 108, 101] : List UInt8) = [120]) = False := eq_false (by decide)
  have q5 : (([116, 97, 98, 108, 101] : List UInt8) = [120, 121]) = False := eq_false (by decide)
  have q16 : (([116, 97, 98, 108, 101] : List UInt8) = [120, 110]) = False := eq_false (by decide)
  have q6 : (([116, 97, 98, 108, 101] : List UInt8) = [116, 97, 98, 108, 101]) = True := eq_true rfl
  have q7 : (([116, 97, 98, 108, 101] : List UInt8) = [115, 101, 108, 101, 99, 116]) = False := eq_false (by decide)
  have q8 : (([116, 97, 98, 108, 101] : List UInt8) = [109, 101, 109]) = False := eq_false (by decide)
  simp only [iCat, refB, List.length_append, rSw] at hs
  have hop : run (C k_ratchetref09_writing_opcode [.ptr (List.length H + 1) 0, .int .i64 v.op]) (hadd H [.cells (cs_IG v), .cells [.slice false true 0 [], .bool false]]) = some (.ok (.tup []) (hadd H [.cells (cs_IG v), .cells [accB (iOp v.op).1, .bool false]])) := iw_use2 (ropcodeI (c := List.length H + 1) hv.op) (H := H) (x := .cells (cs_IG v)) (b := []) (f := false) (by simp only [List.length_nil]; omega)
  have hca := fun (b : List UInt8) (f : Bool) (hs : b.length + (rCast 6 v).1.length ≤ 140737488355328) => iw_use2 (rcasts_6 (c := List.length H + 1) hv hk) (H := H) (x := .cells (cs_IG v)) (b := b) (f := f) hs
  have hco := fun (b : List UInt8) (f : Bool) (hs : b.length + (rConst 6 v.n).1.length ≤ 140737488355328) => iw_use2 (rconsts_6 (c := List.length H + 1) hv hk) (H := H) (x := .cells (cs_IG v)) (b := b) (f := f) hs
  obtain ⟨⟨x0, x1⟩, ⟨y0, y1⟩, ⟨n0, n1⟩⟩ := And.intro hv.x (And.intro hv.y hv.n)
  have hu := fun (n : Int) (h0 : 0 ≤ n) (h1 : n < 18446744073709551616) (b : List UInt8) (f : Bool) (hs : b.length + (putU n.toNat).length ≤ 140737488355328) => iw_use2 (ruI (c := List.length H + 1) h0 h1) (H := H) (x := .cells (cs_IG v)) (b := b) (f := f) hs
  have hl := rlabs_loop (v2 := .slice false true 0 []) (v3 := .int .i64 0) hv v.labels.l.length 0 ((iOp v.op).1 ++ putU v.labels.l.length) (decide (65536 < (v.labels.l.length : Int))) H (by omega) (by simp only [List.drop_zero, List.length_append]; omega)
  rw [show ((0 : Nat) : Int) = 0 from rfl, List.drop_zero] at hl
  simp only [List.append_assoc] at hl
  have ll := hv.ll
  unfold cs_IG at hop hca hco hu hl ⊢
  rw [ratchetref09_Write_eq]
  simp (contextual := true) (dsimp := false) (disch := first | omega | (simp only [List.length_append, List.length_cons, List.length_nil, Int.toNat_natCast]; omega)) only [↓goDown, goUp, List.length_cons, List.length_nil, List.map_cons, List.map_nil, List.take_succ_cons, List.take_zero, List.drop_succ_cons, List.drop_zero, List.drop_nil, List.take_nil, List.cons_append, List.nil_append, List.append_nil, List.set_cons_zero, List.set_cons_succ, List.all_cons, List.all_nil, ↓reduceIte, reduceCtorEq, ge_iff_le, gt_iff_lt, eq_self_iff_true, beq_self_eq_true, beq_iff_eq, bne_iff_ne, ne_eq, ite_not, Int.reduceEq, Option.getD_some, Option.getD_none, ite_self, Nat.reduceAdd, Nat.reduceSub, Nat.reduceMul, Nat.reduceLeDiff, Nat.reduceEqDiff, Nat.reduceBEq, Nat.reduceBNe, Int.reduceLT, Int.reduceLE, Int.reduceAdd, Int.reduceSub, Int.reduceMul, Int.reduceNeg, Int.reduceNe, Int.reduceBEq, Int.reduceBNe, Int.reduceToNat, hop, hform, bytes_toList, q0, q2, q3, q4, q5, q16, q6, q7, q8, hu, ln_Z, List.length_map, Int.toNat_natCast, hl, p_ratchetref09_Write_1111_eq, hca, hco, wOut, iCat, refB, rSw, iOp_2, ok_ite, cells_Z, isCell_Z, low_Z, stripC_Z, isTup_Z, strip_Z, isCell_B, cells_B, low_B, isTup_B, List.append_assoc, List.append_nil, List.nil_append, Bool.or_assoc, Bool.not_true, Bool.not_false, Bool.or_false, Bool.false_or, Bool.true_or, Bool.or_true]
theorem rwrite_7 {v : IG} (hv : v.w) (hk : formN v.op = 7) (hp : 0 ≤ v.op ∨ 7 ≠ 14) (hs : (iCat (iOp v.op) (refB 7 v)).1.length ≤ 140737488355328) : run (C k_ratchetref09_Write [.agg (cs_IG v)]) H = some (.ok (wOut (iCat (iOp v.op) (refB 7 v))) H) := by
  have hform : ∀ K, run (C k_ratchetref09_Form [.int .i64 v.op]) K = some (.ok (.str ⟨List.toArray [115, 101, 108, 101, 99, 116]⟩) K) := fun K => by
    rw [rform_is hv.op.1 hv.op.2, formR_is, hk]
    rfl
  have q0 : (([115, 101, 108, 101, 99, 116] : List UInt8) = []) = False := eq_false (by decide)
  have q2 : (([115, 101, 108, 101, 99, 116] : List UInt8) = [98, 108, 111, 99, 107]) = False := eq_false (by decide)
  have q3 : (([115, 101, 108, 101, 99, 116] : List UInt8) = [116, 114, 121]) = False := eq_false (by decide)
  have q4 : (([115, 101, 108, 101, 99, 116] : List UInt8) = [120]) = False := eq_false (by decide)
  have q5 : (([115, 101, 108, 101, 99, 116] : List UInt8) = [120, 121]) = False := eq_false (by decide)
  have q16 : (([115, 101, 108, 101, 99, 116] : List UInt8) = [120, 110]) = False := eq_false (by decide)
  have q6 : (([115, 101, 108, 101, 99, 116] : List UInt8) = [116, 97, 98, 108, 101]) = False := eq_false (by decide)
  have q7 : (([115, 101, 108, 101, 99, 116] : List UInt8) = [115, 101, 108, 101, 99, 116]) = True := eq_true rfl
  have q8 : (([115, 101, 108, 101, 99, 116] : List UInt8) = [109, 101, 109]) = False := eq_false (by decide)
  simp only [iCat, refB, List.length_append, rSw] at hs
  have hop : run (C k_ratchetref09_writing_opcode [.ptr (List.length H + 1) 0, .int .i64 v.op]) (hadd H [.cells (cs_IG v), .cells [.slice false true 0 [], .bool false]]) = some (.ok (.tup []) (hadd H [.cells (cs_IG v), .cells [accB (iOp v.op).1, .bool false]])) := iw_use2 (ropcodeI (c := List.length H + 1) hv.op) (H := H) (x := .cells (cs_IG v)) (b := []) (f := false) (by simp only [List.length_nil]; omega)
  have hca := fun (b : List UInt8) (f : Bool) (hs : b.length + (rCast 7 v).1.length ≤ 140737488355328) => iw_use2 (rcasts_7 (c := List.length H + 1) hv hk) (H := H) (x := .cells (cs_IG v)) (b := b) (f := f) hs
  have hco := fun (b : List UInt8) (f : Bool) (hs : b.length + (rConst 7 v.n).1.length ≤ 140737488355328) => iw_use2 (rconsts_7 (c := List.length H + 1) hv hk) (H := H) (x := .cells (cs_IG v)) (b := b) (f := f) hs
  obtain ⟨⟨x0, x1⟩, ⟨y0, y1⟩, ⟨n0, n1⟩⟩ := And.intro hv.x (And.intro hv.y hv.n)
  have hu := fun (n : Int) (h0 : 0 ≤ n) (h1 : n < 18446744073709551616) (b : List UInt8) (f : Bool) (hs : b.length + (putU n.toNat).length ≤ 140737488355328) => iw_use2 (ruI (c := List.length H + 1) h0 h1) (H := H) (x := .cells (cs_IG v)) (b := b) (f := f) hs
  have hl := rvals_loop' (v2 := .slice false true 0 []) (v3 := .int .i64 0) hv v.types.l.length 0 ((iOp v.op).1 ++ putU v.types.l.length) (decide (1000 < (v.types.l.length : Int))) H (by omega) (by simp only [List.drop_zero, List.length_append]; omega)
  rw [show ((0 : Nat) : Int) = 0 from rfl, List.drop_zero] at hl
  simp only [List.append_assoc] at hl
  have ll := hv.lt
  unfold cs_IG at hop hca hco hu hl ⊢
  rw [ratchetref09_Write_eq]
  simp (contextual := true) (dsimp := false) (disch := first | omega | (simp only [List.length_append, List.length_cons, List.length_nil, Int.toNat_natCast]; omega)) only [↓goDown, goUp, List.length_cons, List.length_nil, List.map_cons, List.map_nil, List.take_succ_cons, List.take_zero, List.drop_succ_cons, List.drop_zero, List.drop_nil, List.take_nil, List.cons_append, List.nil_append, List.append_nil, List.set_cons_zero, List.set_cons_succ, List.all_cons, List.all_nil, ↓reduceIte, reduceCtorEq, ge_iff_le, gt_iff_lt, eq_self_iff_true, beq_self_eq_true, beq_iff_eq, bne_iff_ne, ne_eq, ite_not, Int.reduceEq, Option.getD_some, Option.getD_none, ite_self, Nat.reduceAdd, Nat.reduceSub, Nat.reduceMul, Nat.reduceLeDiff, Nat.reduceEqDiff, Nat.reduceBEq, Nat.reduceBNe, Int.reduceLT, Int.reduceLE, Int.reduceAdd, Int.reduceSub, Int.reduceMul, Int.reduceNeg, Int.reduceNe, Int.reduceBEq, Int.reduceBNe, Int.reduceToNat, hop, hform, bytes_toList, q0, q2, q3, q4, q5, q16, q6, q7, q8, hu, ln_Z, List.length_map, Int.toNat_natCast, hl, p_ratchetref09_Write_1111_eq, hca, hco, wOut, iCat, refB, rSw, iOp_2, ok_ite, cells_Z, isCell_Z, low_Z, stripC_Z, isTup_Z, strip_Z, isCell_B, cells_B, low_B, isTup_B, List.append_assoc, List.append_nil, List.nil_append, Bool.or_assoc, Bool.not_true, Bool.not_false, Bool.or_false, Bool.false_or, Bool.true_or, Bool.or_true]
theorem rwrite_8 {v : IG} (hv : v.w) (hk : formN v.op = 8) (hp : 0 ≤ v.op ∨ 8 ≠ 14) (hs : (iCat (iOp v.op) (refB 8 v)).1.length ≤ 140737488355328) : run (C k_ratchetref09_Write [.agg (cs_IG v)]) H = some (.ok (wOut (iCat (iOp v.op) (refB 8 v))) H) := by
  have hform : ∀ K, run (C k_ratchetref09_Form [.int .i64 v.op]) K = some (.ok (.str ⟨List.toArray [109, 101, 109]⟩) K) := fun K => by
    rw [rform_is hv.op.1 hv.op.2, formR_is, hk]
    rfl
  have q0 : (([109, 101, 109] : List UInt8) = []) = False := eq_false (by decide)
  have q2 : (([109, 101, 109] : List UInt8) = [98, 108, 111, 99, 107]) = False := eq_false (by decide)
  have q3 : (([109, 101, 109] : List UInt8) = [116, 114, 121]) = False := eq_false (by decide)
  have q4 : (([109, 101, 109] : List UInt8) = [120]) = False := eq_false (by decide)
  have q5 : (([109, 101, 109] : List UInt8) = [120, 121]) = False := eq_false (by decide)
  have q16 : (([109, 101, 109] : List UInt8) = [120, 110]) = False := eq_false (by decide)
  have q6 : (([109, 101, 109] : List UInt8) = [116, 97, 98, 108, 101]) = False := eq_false (by decide)
  have q7 : (([109, 101, 109] : List UInt8) = [115, 101, 108, 101, 99, 116]) = False := eq_false (by decide)
  have q8 : (([109, 101, 109] : List UInt8) = [109, 101, 109]) = True := eq_true rfl
  simp only [iCat, refB, List.length_append, rSw] at hs
  have hop : run (C k_ratchetref09_writing_opcode [.ptr (List.length H + 1) 0, .int .i64 v.op]) (hadd H [.cells (cs_IG v), .cells [.slice false true 0 [], .bool false]]) = some (.ok (.tup []) (hadd H [.cells (cs_IG v), .cells [accB (iOp v.op).1, .bool false]])) := iw_use2 (ropcodeI (c := List.length H + 1) hv.op) (H := H) (x := .cells (cs_IG v)) (b := []) (f := false) (by simp only [List.length_nil]; omega)
  have hca := fun (b : List UInt8) (f : Bool) (hs : b.length + (rCast 8 v).1.length ≤ 140737488355328) => iw_use2 (rcasts_8 (c := List.length H + 1) hv hk) (H := H) (x := .cells (cs_IG v)) (b := b) (f := f) hs
  have hco := fun (b : List UInt8) (f : Bool) (hs : b.length + (rConst 8 v.n).1.length ≤ 140737488355328) => iw_use2 (rconsts_8 (c := List.length H + 1) hv hk) (H := H) (x := .cells (cs_IG v)) (b := b) (f := f) hs
  have hb := iw_use2 (rmemI (c := List.length H + 1) (m := v.mem) hv.al hv.me hv.off) (H := H) (x := .cells (cs_IG v)) (b := (iOp v.op).1) (f := false) (by omega)
  unfold cs_IG at hop hca hco hb ⊢
  rw [ratchetref09_Write_eq]
  simp (contextual := true) (dsimp := false) (disch := first | omega | (simp only [List.length_append, List.length_cons, List.length_nil, Int.toNat_natCast]; omega)) only [↓goDown, goUp, List.length_cons, List.length_nil, List.map_cons, List.map_nil, List.take_succ_cons, List.take_zero, List.drop_succ_cons, List.drop_zero, List.drop_nil, List.take_nil, List.cons_append, List.nil_append, List.append_nil, List.set_cons_zero, List.set_cons_succ, List.all_cons, List.all_nil, ↓reduceIte, reduceCtorEq, ge_iff_le, gt_iff_lt, eq_self_iff_true, beq_self_eq_true, beq_iff_eq, bne_iff_ne, ne_eq, ite_not, Int.reduceEq, Option.getD_some, Option.getD_none, ite_self, Nat.reduceAdd, Nat.reduceSub, Nat.reduceMul, Nat.reduceLeDiff, Nat.reduceEqDiff, Nat.reduceBEq, Nat.reduceBNe, Int.reduceLT, Int.reduceLE, Int.reduceAdd, Int.reduceSub, Int.reduceMul, Int.reduceNeg, Int.reduceNe, Int.reduceBEq, Int.reduceBNe, Int.reduceToNat, hop, hform, bytes_toList, q0, q2, q3, q4, q5, q16, q6, q7, q8, hb, p_ratchetref09_Write_1111_eq, hca, hco, wOut, iCat, refB, rSw, iOp_2, ok_ite, cells_Z, isCell_Z, low_Z, stripC_Z, isTup_Z, strip_Z, isCell_B, cells_B, low_B, isTup_B, List.append_assoc, List.append_nil, List.nil_append, Bool.or_assoc, Bool.not_true, Bool.not_false, Bool.or_false, Bool.false_or, Bool.true_or, Bool.or_true]
theorem rwrite_9 {v : IG} (hv : v.w) (hk : formN v.op = 9) (hp : 0 ≤ v.op ∨ 9 ≠ 14) (hs : (iCat (iOp v.op) (refB 9 v)).1.length ≤ 140737488355328) : run (C k_ratchetref09_Write [.agg (cs_IG v)]) H = some (.ok (wOut (iCat (iOp v.op) (refB 9 v))) H) := by
  have hform : ∀ K, run (C k_ratchetref09_Form [.int .i64 v.op]) K = some (.ok (.str ⟨List.toArray [105, 51, 50]⟩) K) := fun K => by
    rw [rform_is hv.op.1 hv.op.2, formR_is, hk]
    rfl
  have q0 : (([105, 51, 50] : List UInt8) = []) = False := eq_false (by decide)
  have q2 : (([105, 51, 50] : List UInt8) = [98, 108, 111, 99, 107]) = False := eq_false (by decide)
  have q3 : (([105, 51, 50] : List UInt8) = [116, 114, 121]) = False := eq_false (by decide)
  have q4 : (([105, 51, 50] : List UInt8) = [120]) = False := eq_false (by decide)
  have q5 : (([105, 51, 50] : List UInt8) = [120, 121]) = False := eq_false (by decide)
  have q16 : (([105, 51, 50] : List UInt8) = [120, 110]) = False := eq_false (by decide)
  have q6 : (([105, 51, 50] : List UInt8) = [116, 97, 98, 108, 101]) = False := eq_false (by decide)
  have q7 : (([105, 51, 50] : List UInt8) = [115, 101, 108, 101, 99, 116]) = False := eq_false (by decide)
  have q8 : (([105, 51, 50] : List UInt8) = [109, 101, 109]) = False := eq_false (by decide)
  simp only [iCat, refB, List.length_append] at hs
  have hop : run (C k_ratchetref09_writing_opcode [.ptr (List.length H + 1) 0, .int .i64 v.op]) (hadd H [.cells (cs_IG v), .cells [.slice false true 0 [], .bool false]]) = some (.ok (.tup []) (hadd H [.cells (cs_IG v), .cells [accB (iOp v.op).1, .bool false]])) := iw_use2 (ropcodeI (c := List.length H + 1) hv.op) (H := H) (x := .cells (cs_IG v)) (b := []) (f := false) (by simp only [List.length_nil]; omega)
  have hca := fun (b : List UInt8) (f : Bool) (hs : b.length + (rCast 9 v).1.length ≤ 140737488355328) => iw_use2 (rcasts_9 (c := List.length H + 1) hv hk) (H := H) (x := .cells (cs_IG v)) (b := b) (f := f) hs
  have hco := fun (b : List UInt8) (f : Bool) (hs : b.length + (rConst 9 v.n).1.length ≤ 140737488355328) => iw_use2 (rconsts_9 (c := List.length H + 1) hv hk) (H := H) (x := .cells (cs_IG v)) (b := b) (f := f) hs
  unfold cs_IG at hop hca hco ⊢
  rw [ratchetref09_Write_eq]
  simp (contextual := true) (dsimp := false) (disch := first | omega | (simp only [List.length_append, List.length_cons, List.length_nil, Int.toNat_natCast]; omega)) only [↓goDown, goUp, List.length_cons, List.length_nil, List.map_cons, List.map_nil, List.take_succ_cons, List.take_zero, List.drop_succ_cons, List.drop_zero, List.drop_nil, List.take_nil, List.cons_append, List.nil_append, List.append_nil, List.set_cons_zero, List.set_cons_succ, List.all_cons, List.all_nil, ↓reduceIte, reduceCtorEq, ge_iff_le, gt_iff_lt, eq_self_iff_true, beq_self_eq_true, beq_iff_eq, bne_iff_ne, ne_eq, ite_not, Int.reduceEq, Option.getD_some, Option.getD_none, ite_self, Nat.reduceAdd, Nat.reduceSub, Nat.reduceMul, Nat.reduceLeDiff, Nat.reduceEqDiff, Nat.reduceBEq, Nat.reduceBNe, Int.reduceLT, Int.reduceLE, Int.reduceAdd, Int.reduceSub, Int.reduceMul, Int.reduceNeg, Int.reduceNe, Int.reduceBEq, Int.reduceBNe, Int.reduceToNat, hop, hform, bytes_toList, q0, q2, q3, q4, q5, q16, q6, q7, q8, p_ratchetref09_Write_1111_eq, hca, hco, wOut, iCat, refB, rSw, iOp_2, ok_ite, cells_Z, isCell_Z, low_Z, stripC_Z, isTup_Z, strip_Z, isCell_B, cells_B, low_B, isTup_B, List.append_assoc, List.append_nil, List.nil_append, Bool.or_assoc, Bool.not_true, Bool.not_false, Bool.or_false, Bool.false_or, Bool.true_or, Bool.or_true]
theorem rwrite_10 {v : IG} (hv : v.w) (hk : formN v.op = 10) (hp : 0 ≤ v.op ∨ 10 ≠ 14) (hs : (iCat (iOp v.op) (refB 10 v)).1.length ≤ 140737488355328) : run (C k_ratchetref09_Write [.agg (cs_IG v)]) H = some (.ok (wOut (iCat (iOp v.op) (refB 10 v))) H) := by
  have hform : ∀ K, run (C k_ratchetref09_Form [.int .i64 v.op]) K = some (.ok (.str ⟨List.toArray [105, 54, 52]⟩) K) := fun K => by
    rw [rform_is hv.op.1 hv.op.2, formR_is, hk]
    rfl
  have q0 : (([105, 54, 52] : List UInt8) = []) = False := eq_false (by decide)
  have q2 : (([105, 54, 52] : List UInt8) = [98, 108, 111, 99, 107]) = False := eq_false (by decide)
  have q3 : (([105, 54, 52] : List UInt8) = [116, 114, 121]) = False := eq_false (by decide)
  have q4 : (([105, 54, 52] : List UInt8) = [120]) = False := eq_false (by decide)
  have q5 : (([105, 54, 52] : List UInt8) = [120, 121]) = False := eq_false (by decide)
  have q16 : (([105, 54, 52] : List UInt8) = [120, 110]) = False := eq_false (by decide)
  have q6 : (([105, 54, 52] : List UInt8) = [116, 97, 98, 108, 101]) = False := eq_false (by decide)
  have q7 : (([105, 54, 52] : List UInt8) = [115, 101, 108, 101, 99, 116]) = False := eq_false (by decide)
  have q8 : (([105, 54, 52] : List UInt8) = [109, 101, 109]) = False := eq_false (by decide)
  simp only [iCat, refB, List.length_append] at hs
  have hop : run (C k_ratchetref09_writing_opcode [.ptr (List.length H + 1) 0, .int .i64 v.op]) (hadd H [.cells (cs_IG v), .cells [.slice false true 0 [], .bool false]]) = some (.ok (.tup []) (hadd H [.cells (cs_IG v), .cells [accB (iOp v.op).1, .bool false]])) := iw_use2 (ropcodeI (c := List.length H + 1) hv.op) (H := H) (x := .cells (cs_IG v)) (b := []) (f := false) (by simp only [List.length_nil]; omega)
  have hca := fun (b : List UInt8) (f : Bool) (hs : b.length + (rCast 10 v).1.length ≤ 140737488355328) => iw_use2 (rcasts_10 (c := List.length H + 1) hv hk) (H := H) (x := .cells (cs_IG v)) (b := b) (f := f) hs
  have hco := fun (b : List UInt8) (f : Bool) (hs : b.length + (rConst 10 v.n).1.length ≤ 140737488355328) => iw_use2 (rconsts_10 (c := List.length H + 1) hv hk) (H := H) (x := .cells (cs_IG v)) (b := b) (f := f) hs
  unfold cs_IG at hop hca hco ⊢
  rw [ratchetref09_Write_eq]
  simp (contextual := true) (dsimp := false) (disch := first | omega | (simp only [List.length_append, List.length_cons, List.length_nil, Int.toNat_natCast]; omega)) only [↓goDown, goUp, List.length_cons, List.length_nil, List.map_cons, List.map_nil, List.take_succ_cons, List.take_zero, List.drop_succ_cons, List.drop_zero, List.drop_nil, List.take_nil, List.cons_append, List.nil_append, List.append_nil, List.set_cons_zero, List.set_cons_succ, List.all_cons, List.all_nil, ↓reduceIte, reduceCtorEq, ge_iff_le, gt_iff_lt, eq_self_iff_true, beq_self_eq_true, beq_iff_eq, bne_iff_ne, ne_eq, ite_not, Int.reduceEq, Option.getD_some, Option.getD_none, ite_self, Nat.reduceAdd, Nat.reduceSub, Nat.reduceMul, Nat.reduceLeDiff, Nat.reduceEqDiff, Nat.reduceBEq, Nat.reduceBNe, Int.reduceLT, Int.reduceLE, Int.reduceAdd, Int.reduceSub, Int.reduceMul, Int.reduceNeg, Int.reduceNe, Int.reduceBEq, Int.reduceBNe, Int.reduceToNat, hop, hform, bytes_toList, q0, q2, q3, q4, q5, q16, q6, q7, q8, p_ratchetref09_Write_1111_eq, hca, hco, wOut, iCat, refB, rSw, iOp_2, ok_ite, cells_Z, isCell_Z, low_Z, stripC_Z, isTup_Z, strip_Z, isCell_B, cells_B, low_B, isTup_B, List.append_assoc, List.append_nil, List.nil_append, Bool.or_assoc, Bool.not_true, Bool.not_false, Bool.or_false, Bool.false_or, Bool.true_or, Bool.or_true]
theorem rwrite_11 {v : IG} (hv : v.w) (hk : formN v.op = 11) (hp : 0 ≤ v.op ∨ 11 ≠ 14) (hs : (iCat (iOp v.op) (refB 11 v)).1.length ≤ 140737488355328) : run (C k_ratchetref09_Write [.agg (cs_IG v)]) H = some (.ok (wOut (iCat (iOp v.op) (refB 11 v))) H) := by
  have hform : ∀ K, run (C k_ratchetref09_Form [.int .i64 v.op]) K = some (.ok (.str ⟨List.toArray [102, 51, 50]⟩) K) := fun K => by
    rw [rform_is hv.op.1 hv.op.2, formR_is, hk]
    rfl
  have q0 : (([102, 51, 50] : List UInt8) = []) = False := eq_false (by decide)
  have q2 : (([102, 51, 50] : List UInt8) = [98, 108, 111, 99, 107]) = False := eq_false (by decide)
  have q3 : (([102, 51, 50] : List UInt8) = [116, 114, 121]) = False := eq_false (by decide)
  have q4 : (([102, 51, 50] : List UInt8) = [120]) = False := eq_false (by decide)
  have q5 : (([102, 51, 50] : List UInt8) = [120, 121]) = False := eq_false (by decide)
  have q16 : (([102, 51, 50] : List UInt8) = [120, 110]) = False := eq_false (by decide)
  have q6 : (([102, 51, 50] : List UInt8) = [116, 97, 98, 108, 101]) = False := eq_false (by decide)
  have q7 : (([102, 51, 50] : List UInt8) = [115, 101, 108, 101, 99, 116]) = False := eq_false (by decide)
  have q8 : (([102, 51, 50] : List UInt8) = [109, 101, 109]) = False := eq_false (by decide)
  simp only [iCat, refB, List.length_append] at hs
  have hop : run (C k_ratchetref09_writing_opcode [.ptr (List.length H + 1) 0, .int .i64 v.op]) (hadd H [.cells (cs_IG v), .cells [.slice false true 0 [], .bool false]]) = some (.ok (.tup []) (hadd H [.cells (cs_IG v), .cells [accB (iOp v.op).1, .bool false]])) := iw_use2 (ropcodeI (c := List.length H + 1) hv.op) (H := H) (x := .cells (cs_IG v)) (b := []) (f := false) (by simp only [List.length_nil]; omega)
  have hca := fun (b : List UInt8) (f : Bool) (hs : b.length + (rCast 11 v).1.length ≤ 140737488355328) => iw_use2 (rcasts_11 (c := List.length H + 1) hv hk) (H := H) (x := .cells (cs_IG v)) (b := b) (f := f) hs
  have hco := fun (b : List UInt8) (f : Bool) (hs : b.length + (rConst 11 v.n).1.length ≤ 140737488355328) => iw_use2 (rconsts_11 (c := List.length H + 1) hv hk) (H := H) (x := .cells (cs_IG v)) (b := b) (f := f) hs
  unfold cs_IG at hop hca hco ⊢
  rw [ratchetref09_Write_eq]
  simp (contextual := true) (dsimp := false) (disch := first | omega | (simp only [List.length_append, List.length_cons, List.length_nil, Int.toNat_natCast]; omega)) only [↓goDown, goUp, List.length_cons, List.length_nil, List.map_cons, List.map_nil, List.take_succ_cons, List.take_zero, List.drop_succ_cons, List.drop_zero, List.drop_nil, List.take_nil, List.cons_append, List.nil_append, List.append_nil, List.set_cons_zero, List.set_cons_succ, List.all_cons, List.all_nil, ↓reduceIte, reduceCtorEq, ge_iff_le, gt_iff_lt, eq_self_iff_true, beq_self_eq_true, beq_iff_eq, bne_iff_ne, ne_eq, ite_not, Int.reduceEq, Option.getD_some, Option.getD_none, ite_self, Nat.reduceAdd, Nat.reduceSub, Nat.reduceMul, Nat.reduceLeDiff, Nat.reduceEqDiff, Nat.reduceBEq, Nat.reduceBNe, Int.reduceLT, Int.reduceLE, Int.reduceAdd, Int.reduceSub, Int.reduceMul, Int.reduceNeg, Int.reduceNe, Int.reduceBEq, Int.reduceBNe, Int.reduceToNat, hop, hform, bytes_toList, q0, q2, q3, q4, q5, q16, q6, q7, q8, p_ratchetref09_Write_1111_eq, hca, hco, wOut, iCat, refB, rSw, iOp_2, ok_ite, cells_Z, isCell_Z, low_Z, stripC_Z, isTup_Z, strip_Z, isCell_B, cells_B, low_B, isTup_B, List.append_assoc, List.append_nil, List.nil_append, Bool.or_assoc, Bool.not_true, Bool.not_false, Bool.or_false, Bool.false_or, Bool.true_or, Bool.or_true]
theorem rwrite_12 {v : IG} (hv : v.w) (hk : formN v.op = 12) (hp : 0 ≤ v.op ∨ 12 ≠ 14) (hs : (iCat (iOp v.op) (refB 12 v)).1.length ≤ 140737488355328) : run (C k_ratchetref09_Write [.agg (cs_IG v)]) H = some (.ok (wOut (iCat (iOp v.op) (refB 12 v))) H) := by
  have hform : ∀ K, run (C k_ratchetref09_Form [.int .i64 v.op]) K = some (.ok (.str ⟨List.toArray [102, 54, 52]⟩) K) := fun K => by
    rw [rform_is hv.op.1 hv.op.2, formR_is, hk]
    rfl
  have q0 : (([102, 54, 52] : List UInt8) = []) = False := eq_false (by decide)
  have q2 : (([102, 54, 52] : List UInt8) = [98, 108, 111, 99, 107]) = False := eq_false (by decide)
  have q3 : (([102, 54, 52] : List UInt8) = [116, 114, 121]) = False := eq_false (by decide)
  have q4 : (([102, 54, 52] : List UInt8) = [120]) = False := eq_false (by decide)
  have q5 : (([102, 54, 52] : List UInt8) = [120, 121]) = False := eq_false (by decide)
  have q16 : (([102, 54, 52] : List UInt8) = [120, 110]) = False := eq_false (by decide)
  have q6 : (([102, 54, 52] : List UInt8) = [116, 97, 98, 108, 101]) = False := eq_false (by decide)
  have q7 : (([102, 54, 52] : List UInt8) = [115, 101, 108, 101, 99, 116]) = False := eq_false (by decide)
  have q8 : (([102, 54, 52] : List UInt8) = [109, 101, 109]) = False := eq_false (by decide)
  simp only [iCat, refB, List.length_append] at hs
  have hop : run (C k_ratchetref09_writing_opcode [.ptr (List.length H + 1) 0, .int .i64 v.op]) (hadd H [.cells (cs_IG v), .cells [.slice false true 0 [], .bool false]]) = some (.ok (.tup []) (hadd H [.cells (cs_IG v), .cells [accB (iOp v.op).1, .bool false]])) := iw_use2 (ropcodeI (c := List.length H + 1) hv.op) (H := H) (x := .cells (cs_IG v)) (b := []) (f := false) (by simp only [List.length_nil]; omega)
  have hca := fun (b : List UInt8) (f : Bool) (hs : b.length + (rCast 12 v).1.length ≤ 140737488355328) => iw_use2 (rcasts_12 (c := List.length H + 1) hv hk) (H := H) (x := .cells (cs_IG v)) (b := b) (f := f) hs
  have hco := fun (b : List UInt8) (f : Bool) (hs : b.length + (rConst 12 v.n).1.length ≤ 140737488355328) => iw_use2 (rconsts_12 (c := List.length H + 1) hv hk) (H := H) (x := .cells (cs_IG v)) (b := b) (f := f) hs
  unfold cs_IG at hop hca hco ⊢
  rw [ratchetref09_Write_eq]
  simp (contextual := true) (dsimp := false) (disch := first | omega | (simp only [List.length_append, List.length_cons, List.length_nil, Int.toNat_natCast]; omega)) only [↓goDown, goUp, List.length_cons, List.length_nil, List.map_cons, List.map_nil, List.take_succ_cons, List.take_zero, List.drop_succ_cons, List.drop_zero, List.drop_nil, List.take_nil, List.cons_append, List.nil_append, List.append_nil, List.set_cons_zero, List.set_cons_succ, List.all_cons, List.all_nil, ↓reduceIte, reduceCtorEq, ge_iff_le, gt_iff_lt, eq_self_iff_true, beq_self_eq_true, beq_iff_eq, bne_iff_ne, ne_eq, ite_not, Int.reduceEq, Option.getD_some, Option.getD_none, ite_self, Nat.reduceAdd, Nat.reduceSub, Nat.reduceMul, Nat.reduceLeDiff, Nat.reduceEqDiff, Nat.reduceBEq, Nat.reduceBNe, Int.reduceLT, Int.reduceLE, Int.reduceAdd, Int.reduceSub, Int.reduceMul, Int.reduceNeg, Int.reduceNe, Int.reduceBEq, Int.reduceBNe, Int.reduceToNat, hop, hform, bytes_toList, q0, q2, q3, q4, q5, q16, q6, q7, q8, p_ratchetref09_Write_1111_eq, hca, hco, wOut, iCat, refB, rSw, iOp_2, ok_ite, cells_Z, isCell_Z, low_Z, stripC_Z, isTup_Z, strip_Z, isCell_B, cells_B, low_B, isTup_B, List.append_assoc, List.append_nil, List.nil_append, Bool.or_assoc, Bool.not_true, Bool.not_false, Bool.or_false, Bool.false_or, Bool.true_or, Bool.or_true]
theorem rwrite_13 {v : IG} (hv : v.w) (hk : formN v.op = 13) (hp : 0 ≤ v.op ∨ 13 ≠ 14) (hs : (iCat (iOp v.op) (refB 13 v)).1.length ≤ 140737488355328) : run (C k_ratchetref09_Write [.agg (cs_IG v)]) H = some (.ok (wOut (iCat (iOp v.op) (refB 13 v))) H) := by
  have hform : ∀ K, run (C k_ratchetref09_Form [.int .i64 v.op]) K = some (.ok (.str ⟨List.toArray [104, 101, 97, 112]⟩) K) := fun K => by
    rw [rform_is hv.op.1 hv.op.2, formR_is, hk]
    rfl
  have q0 : (([104, 101, 97, 112] : List UInt8) = []) = False := eq_false (by decide)
  have q2 : (([104, 101, 97, 112] : List UInt8) = [98, 108, 111, 99, 107]) = False := eq_false (by decide)
  have q3 : (([104, 101, 97, 112] : List UInt8) = [116, 114, 121]) = False := eq_false (by decide)
  have q4 : (([104, 101, 97, 112] : List UInt8) = [120]) = False := eq_false (by decide)
  have q5 : (([104, 101, 97, 112] : List UInt8) = [120, 121]) = False := eq_false (by decide)
  have q16 : (([104, 101, 97, 112] : List UInt8) = [120, 110]) = False := eq_false (by decide)
  have q6 : (([104, 101, 97, 112] : List UInt8) = [116, 97, 98, 108, 101]) = False := eq_false (by decide)
  have q7 : (([104, 101, 97, 112] : List UInt8) = [115, 101, 108, 101, 99, 116]) = False := eq_false (by decide)
  have q8 : (([104, 101, 97, 112] : List UInt8) = [109, 101, 109]) = False := eq_false (by decide)
  simp only [iCat, refB, List.length_append] at hs
  have hop : run (C k_ratchetref09_writing_opcode [.ptr (List.length H + 1) 0, .int .i64 v.op]) (hadd H [.cells (cs_IG v), .cells [.slice false true 0 [], .bool false]]) = some (.ok (.tup []) (hadd H [.cells (cs_IG v), .cells [accB (iOp v.op).1, .bool false]])) := iw_use2 (ropcodeI (c := List.length H + 1) hv.op) (H := H) (x := .cells (cs_IG v)) (b := []) (f := false) (by simp only [List.length_nil]; omega)
  have hca := fun (b : List UInt8) (f : Bool) (hs : b.length + (rCast 13 v).1.length ≤ 140737488355328) => iw_use2 (rcasts_13 (c := List.length H + 1) hv hk) (H := H) (x := .cells (cs_IG v)) (b := b) (f := f) hs
  have hco := fun (b : List UInt8) (f : Bool) (hs : b.length + (rConst 13 v.n).1.length ≤ 140737488355328) => iw_use2 (rconsts_13 (c := List.length H + 1) hv hk) (H := H) (x := .cells (cs_IG v)) (b := b) (f := f) hs
  unfold cs_IG at hop hca hco ⊢
  rw [ratchetref09_Write_eq]
  simp (contextual := true) (dsimp := false) (disch := first | omega | (simp only [List.length_append, List.length_cons, List.length_nil, Int.toNat_natCast]; omega)) only [↓goDown, goUp, List.length_cons, List.length_nil, List.map_cons, List.map_nil, List.take_succ_cons, List.take_zero, List.drop_succ_cons, List.drop_zero, List.drop_nil, List.take_nil, List.cons_append, List.nil_append, List.append_nil, List.set_cons_zero, List.set_cons_succ, List.all_cons, List.all_nil, ↓reduceIte, reduceCtorEq, ge_iff_le, gt_iff_lt, eq_self_iff_true, beq_self_eq_true, beq_iff_eq, bne_iff_ne, ne_eq, ite_not, Int.reduceEq, Option.getD_some, Option.getD_none, ite_self, Nat.reduceAdd, Nat.reduceSub, Nat.reduceMul, Nat.reduceLeDiff, Nat.reduceEqDiff, Nat.reduceBEq, Nat.reduceBNe, Int.reduceLT, Int.reduceLE, Int.reduceAdd, Int.reduceSub, Int.reduceMul, Int.reduceNeg, Int.reduceNe, Int.reduceBEq, Int.reduceBNe, Int.reduceToNat, hop, hform, bytes_toList, q0, q2, q3, q4, q5, q16, q6, q7, q8, p_ratchetref09_Write_1111_eq, hca, hco, wOut, iCat, refB, rSw, iOp_2, ok_ite, cells_Z, isCell_Z, low_Z, stripC_Z, isTup_Z, strip_Z, isCell_B, cells_B, low_B, isTup_B, List.append_assoc, List.append_nil, List.nil_append, Bool.or_assoc, Bool.not_true, Bool.not_false, Bool.or_false, Bool.false_or, Bool.true_or, Bool.or_true]
theorem rwrite_14 {v : IG} (hv : v.w) (hk : formN v.op = 14) (hp : 0 ≤ v.op ∨ 14 ≠ 14) (hs : (iCat (iOp v.op) (refB 14 v)).1.length ≤ 140737488355328) : run (C k_ratchetref09_Write [.agg (cs_IG v)]) H = some (.ok (wOut (iCat (iOp v.op) (refB 14 v))) H) := by
  have hform : ∀ K, run (C k_ratchetref09_Form [.int .i64 v.op]) K = some (.ok (.str ⟨List.toArray [99, 97, 115, 116]⟩) K) := fun K => by
    rw [rform_is hv.op.1 hv.op.2, formR_is, hk]
    rfl
  have q0 : (([99, 97, 115, 116] : List UInt8) = []) = False := eq_false (by decide)
  have q2 : (([99, 97, 115, 116] : List UInt8) = [98, 108, 111, 99, 107]) = False := eq_false (by decide)
  have q3 : (([99, 97, 115, 116] : List UInt8) = [116, 114, 121]) = False := eq_false (by decide)
  have q4 : (([99, 97, 115, 116] : List UInt8) = [120]) = False := eq_false (by decide)
  have q5 : (([99, 97, 115, 116] : List UInt8) = [120, 121]) = False := eq_false (by decide)
  have q16 : (([99, 97, 115, 116] : List UInt8) = [120, 110]) = False := eq_false (by decide)
  have q6 : (([99, 97, 115, 116] : List UInt8) = [116, 97, 98, 108, 101]) = False := eq_false (by decide)
  have q7 : (([99, 97, 115, 116] : List UInt8) = [115, 101, 108, 101, 99, 116]) = False := eq_false (by decide)
  have q8 : (([99, 97, 115, 116] : List UInt8) = [109, 101, 109]) = False := eq_false (by decide)
  simp only [iCat, refB, List.length_append] at hs
  have hop : run (C k_ratchetref09_writing_opcode [.ptr (List.length H + 1) 0, .int .i64 v.op]) (hadd H [.cells (cs_IG v), .cells [.slice false true 0 [], .bool false]]) = some (.ok (.tup []) (hadd H [.cells (cs_IG v), .cells [accB (iOp v.op).1, .bool false]])) := iw_use2 (ropcodeI (c := List.length H + 1) hv.op) (H := H) (x := .cells (cs_IG v)) (b := []) (f := false) (by simp only [List.length_nil]; omega)
  have hca := fun (b : List UInt8) (f : Bool) (hs : b.length + (rCast 14 v).1.length ≤ 140737488355328) => iw_use2 (rcasts_14 (c := List.length H + 1) hv hk (hp.resolve_right (fun h => h rfl))) (H := H) (x := .cells (cs_IG v)) (b := b) (f := f) hs
  have hco := fun (b : List UInt8) (f : Bool) (hs : b.length + (rConst 14 v.n).1.length ≤ 140737488355328) => iw_use2 (rconsts_14 (c := List.length H + 1) hv hk) (H := H) (x := .cells (cs_IG v)) (b := b) (f := f) hs
  unfold cs_IG at hop hca hco ⊢
  rw [ratchetref09_Write_eq]
  simp (contextual := true) (dsimp := false) (disch := first | omega | (simp only [List.length_append, List.length_cons, List.length_nil, Int.toNat_natCast]; omega)) only [↓goDown, goUp, List.length_cons, List.length_nil, List.map_cons, List.map_nil, List.take_succ_cons, List.take_zero, List.drop_succ_cons, List.drop_zero, List.drop_nil, List.take_nil, List.cons_append, List.nil_append, List.append_nil, List.set_cons_zero, List.set_cons_succ, List.all_cons, List.all_nil, ↓reduceIte, reduceCtorEq, ge_iff_le, gt_iff_lt, eq_self_iff_true, beq_self_eq_true, beq_iff_eq, bne_iff_ne, ne_eq, ite_not, Int.reduceEq, Option.getD_some, Option.getD_none, ite_self, Nat.reduceAdd, Nat.reduceSub, Nat.reduceMul, Nat.reduceLeDiff, Nat.reduceEqDiff, Nat.reduceBEq, Nat.reduceBNe, Int.reduceLT, Int.reduceLE, Int.reduceAdd, Int.reduceSub, Int.reduceMul, Int.reduceNeg, Int.reduceNe, Int.reduceBEq, Int.reduceBNe, Int.reduceToNat, hop, hform, bytes_toList, q0, q2, q3, q4, q5, q16, q6, q7, q8, p_ratchetref09_Write_1111_eq, hca, hco, wOut, iCat, refB, rSw, iOp_2, ok_ite, cells_Z, isCell_Z, low_Z, stripC_Z, isTup_Z, strip_Z, isCell_B, cells_B, low_B, isTup_B, List.append_assoc, List.append_nil, List.nil_append, Bool.or_assoc, Bool.not_true, Bool.not_false, Bool.or_false, Bool.false_or, Bool.true_or, Bool.or_true]
theorem rwrite_15 {v : IG} (hv : v.w) (hk : formN v.op = 15) (hp : 0 ≤ v.op ∨ 15 ≠ 14) (hs : (iCat (iOp v.op) (refB 15 v)).1.length ≤ 140737488355328) : run (C k_ratchetref09_Write [.agg (cs_IG v)]) H = some (.ok (wOut (iCat (iOp v.op) (refB 15 v))) H) := by
  have hform : ∀ K, run (C k_ratchetref09_Form [.int .i64 v.op]) K = some (.ok (.str ⟨List.toArray [98, 114, 95, 99, 97, 115, 116]⟩) K) := fun K => by
    rw [rform_is hv.op.1 hv.op.2, formR_is, hk]
    rfl
  have q0 : (([98, 114, 95, 99, 97, 115, 116] : List UInt8) = []) = False := eq_false (by decide)
  have q2 : (([98, 114, 95, 99, 97, 115, 116] : List UInt8) = [98, 108, 111, 99, 107]) = False := eq_false (by decide)
  have q3 : (([98, 114, 95, 99, 97, 115, 116] : List UInt8) = [116, 114, 121]) = False := eq_false (by decide)
  have q4 : (([98, 114, 95, 99, 97, 115, 116] : List UInt8) = [120]) = False := eq_false (by decide)
  have q5 : (([98, 114, 95, 99, 97, 115, 116] : List UInt8) = [120, 121]) = False := eq_false (by decide)
  have q16 : (([98, 114, 95, 99, 97, 115, 116] : List UInt8) = [120, 110]) = False := eq_false (by decide)
  have q6 : (([98, 114, 95, 99, 97, 115, 116] : List UInt8) = [116, 97, 98, 108, 101]) = False := eq_false (by decide)
  have q7 : (([98, 114, 95, 99, 97, 115, 116] : List UInt8) = [115, 101, 108, 101, 99, 116]) = False := eq_false (by decide)
  have q8 : (([98, 114, 95, 99, 97, 115, 116] : List UInt8) = [109, 101, 109]) = False := eq_false (by decide)
  simp only [iCat, refB, List.length_append] at hs
  have hop : run (C k_ratchetref09_writing_opcode [.ptr (List.length H + 1) 0, .int .i64 v.op]) (hadd H [.cells (cs_IG v), .cells [.slice false true 0 [], .bool false]]) = some (.ok (.tup []) (hadd H [.cells (cs_IG v), .cells [accB (iOp v.op).1, .bool false]])) := iw_use2 (ropcodeI (c := List.length H + 1) hv.op) (H := H) (x := .cells (cs_IG v)) (b := []) (f := false) (by simp only [List.length_nil]; omega)
  have hca := fun (b : List UInt8) (f : Bool) (hs : b.length + (rCast 15 v).1.length ≤ 140737488355328) => iw_use2 (rcasts_15 (c := List.length H + 1) hv hk) (H := H) (x := .cells (cs_IG v)) (b := b) (f := f) hs
  have hco := fun (b : List UInt8) (f : Bool) (hs : b.length + (rConst 15 v.n).1.length ≤ 140737488355328) => iw_use2 (rconsts_15 (c := List.length H + 1) hv hk) (H := H) (x := .cells (cs_IG v)) (b := b) (f := f) hs
  unfold cs_IG at hop hca hco ⊢
  rw [ratchetref09_Write_eq]
  simp (contextual := true) (dsimp := false) (disch := first | omega | (simp only [List.length_append, List.length_cons, List.length_nil, Int.toNat_natCast]; omega)) only [↓goDown, goUp, List.length_cons, List.length_nil, List.map_cons, List.map_nil, List.take_succ_cons, List.take_zero, List.drop_succ_cons, List.drop_zero, List.drop_nil, List.take_nil, List.cons_append, List.nil_append, List.append_nil, List.set_cons_zero, List.set_cons_succ, List.all_cons, List.all_nil, ↓reduceIte, reduceCtorEq, ge_iff_le, gt_iff_lt, eq_self_iff_true, beq_self_eq_true, beq_iff_eq, bne_iff_ne, ne_eq, ite_not, Int.reduceEq, Option.getD_some, Option.getD_none, ite_self, Nat.reduceAdd, Nat.reduceSub, Nat.reduceMul, Nat.reduceLeDiff, Nat.reduceEqDiff, Nat.reduceBEq, Nat.reduceBNe, Int.reduceLT, Int.reduceLE, Int.reduceAdd, Int.reduceSub, Int.reduceMul, Int.reduceNeg, Int.reduceNe, Int.reduceBEq, Int.reduceBNe, Int.reduceToNat, hop, hform, bytes_toList, q0, q2, q3, q4, q5, q16, q6, q7, q8, p_ratchetref09_Write_1111_eq, hca, hco, wOut, iCat, refB, rSw, iOp_2, ok_ite, cells_Z, isCell_Z, low_Z, stripC_Z, isTup_Z, strip_Z, isCell_B, cells_B, low_B, isTup_B, List.append_assoc, List.append_nil, List.nil_append, Bool.or_assoc, Bool.not_true, Bool.not_false, Bool.or_false, Bool.false_or, Bool.true_or, Bool.or_true]
theorem rwrite_16 {v : IG} (hv : v.w) (hk : formN v.op = 16) (hp : 0 ≤ v.op ∨ 16 ≠ 14) (hs : (iCat (iOp v.op) (refB 16 v)).1.length ≤ 140737488355328) : run (C k_ratchetref09_Write [.agg (cs_IG v)]) H = some (.ok (wOut (iCat (iOp v.op) (refB 16 v))) H) := by
  have hform : ∀ K, run (C k_ratchetref09_Form [.int .i64 v.op]) K = some (.ok (.str ⟨List.toArray [120, 110]⟩) K) := fun K => by
    rw [rform_is hv.op.1 hv.op.2, formR_is, hk]
    rfl
  have q0 : (([120, 110] : List UInt8) = []) = False := eq_false (by decide)
  have q2 : (([120, 110] : List UInt8) = [98, 108, 111, 99, 107]) = False := eq_false (by decide)
  have q3 : (([120, 110] : List UInt8) = [116, 114, 121]) = False := eq_false (by decide)
  have q4 : (([120, 110] : List UInt8) = [120]) = False := eq_false (by decide)
  have q5 : (([120, 110] : List UInt8) = [120, 121]) = False := eq_false (by decide)
  have q16 : (([120, 110] : List UInt8) = [120, 110]) = True := eq_true rfl
  have q6 : (([120, 110] : List UInt8) = [116, 97, 98, 108, 101]) = False := eq_false (by decide)
  have q7 : (([120, 110] : List UInt8) = [115, 101, 108, 101, 99, 116]) = False := eq_false (by decide)
  have q8 : (([120, 110] : List UInt8) = [109, 101, 109]) = False := eq_false (by decide)
  simp only [iCat, refB, List.length_append, rSw] at hs
  have hop : run (C k_ratchetref09_writing_opcode [.ptr (List.length H + 1) 0, .int .i64 v.op]) (hadd H [.cells (cs_IG v), .cells [.slice false true 0 [], .bool false]]) = some (.ok (.tup []) (hadd H [.cells (cs_IG v), .cells [accB (iOp v.op).1, .bool false]])) := iw_use2 (ropcodeI (c := List.length H + 1) hv.op) (H := H) (x := .cells (cs_IG v)) (b := []) (f := false) (by simp only [List.length_nil]; omega)
  have hca := fun (b : List UInt8) (f : Bool) (hs : b.length + (rCast 16 v).1.length ≤ 140737488355328) => iw_use2 (rcasts_16 (c := List.length H + 1) hv hk) (H := H) (x := .cells (cs_IG v)) (b := b) (f := f) hs
  have hco := fun (b : List UInt8) (f : Bool) (hs : b.length + (rConst 16 v.n).1.length ≤ 140737488355328) => iw_use2 (rconsts_16 (c := List.length H + 1) hv hk) (H := H) (x := .cells (cs_IG v)) (b := b) (f := f) hs
  obtain ⟨⟨x0, x1⟩, ⟨y0, y1⟩, ⟨n0, n1⟩⟩ := And.intro hv.x (And.intro hv.y hv.n)
  have hu := fun (n : Int) (h0 : 0 ≤ n) (h1 : n < 18446744073709551616) (b : List UInt8) (f : Bool) (hs : b.length + (putU n.toNat).length ≤ 140737488355328) => iw_use2 (ruI (c := List.length H + 1) h0 h1) (H := H) (x := .cells (cs_IG v)) (b := b) (f := f) hs
  unfold cs_IG at hop hca hco hu ⊢
  rw [ratchetref09_Write_eq]
  simp (contextual := true) (dsimp := false) (disch := first | omega | (simp only [List.length_append, List.length_cons, List.length_nil, Int.toNat_natCast]; omega)) only [↓goDown, goUp, List.length_cons, List.length_nil, List.map_cons, List.map_nil, List.take_succ_cons, List.take_zero, List.drop_succ_cons, List.drop_zero, List.drop_nil, List.take_nil, List.cons_append, List.nil_append, List.append_nil, List.set_cons_zero, List.set_cons_succ, List.all_cons, List.all_nil, ↓reduceIte, reduceCtorEq, ge_iff_le, gt_iff_lt, eq_self_iff_true, beq_self_eq_true, beq_iff_eq, bne_iff_ne, ne_eq, ite_not, Int.reduceEq, Option.getD_some, Option.getD_none, ite_self, Nat.reduceAdd, Nat.reduceSub, Nat.reduceMul, Nat.reduceLeDiff, Nat.reduceEqDiff, Nat.reduceBEq, Nat.reduceBNe, Int.reduceLT, Int.reduceLE, Int.reduceAdd, Int.reduceSub, Int.reduceMul, Int.reduceNeg, Int.reduceNe, Int.reduceBEq, Int.reduceBNe, Int.reduceToNat, hop, hform, bytes_toList, q0, q2, q3, q4, q5, q16, q6, q7, q8, hu, p_ratchetref09_Write_1111_eq, hca, hco, wOut, iCat, refB, rSw, iOp_2, ok_ite, cells_Z, isCell_Z, low_Z, stripC_Z, isTup_Z, strip_Z, isCell_B, cells_B, low_B, isTup_B, List.append_assoc, List.append_nil, List.nil_append, Bool.or_assoc, Bool.not_true, Bool.not_false, Bool.or_false, Bool.false_or, Bool.true_or, Bool.or_true]
end Go.Proofs.Ythidcpkcfoldmaa.Pi.Q
namespace Go.Proofs.Ythidcpkcfoldmaa.Pi.Q
open Go Go.Proofs.Ythidcpkcfoldmaa.Pi
set_option linter.unusedVariables false
set_option linter.unusedSimpArgs false
set_option maxRecDepth 100000
attribute [local congr] ite_congr
theorem sumL_len {α : Type} {m : α → Nat} : ∀ (l : List α), (∀ a ∈ l, 1 ≤ m a) → l.length ≤ sumL m l
  | [], _ => Nat.le_refl _
  | a :: l, h => by
    have h1 := h a (by simp)
    have h2 := sumL_len l (fun b hb => h b (by simp [hb]))
    simp only [List.length_cons, sumL]
    omega
theorem sim_len {n : Nat} {k : List UInt8 → KR} {g : WS → GR} (h : Sim n k g) (hn : n ≤ 140737488355328) : (resU (k [])).1.length ≤ n := by
  rcases h.1 [] (by simpa using hn) with ⟨a, h1, h2, h3⟩ | ⟨e, b, h1, h2, h3, h4⟩
  · rw [h2]; simpa [resU] using h1
  · rw [h3]; simp [resU]
theorem eH_len {h : Int} (hw : I64 h) : (eH h).1.length ≤ 10 := sim_len (heap_sim hw.1 hw.2) (by decide)
theorem eV_len {v : VT} (hw : I64 v.heap) : (eV v).1.length ≤ 11 := sim_len (val_sim hw) (by decide)
theorem eB_len {v : BK} (hw : I64 v.res.heap) (ht : I64 v.ty) : (eB v).1.length ≤ 11 := by
  unfold eB kBlock
  split
  · split
    · have := putS_len 9 v.ty (by have := ht.1; omega) (by have := ht.2; omega)
      show (putS v.ty).length ≤ 11
      omega
    · simp [resU]
  · split
    · simp [resU]
    · split
      · unfold kPut
        split <;> simp [resU]
      · exact eV_len hw
theorem iAll_len {α : Type} {one : α → IW} {n : Nat} : ∀ l : List α, (∀ a ∈ l, (one a).1.length ≤ n) → (iAll one l).1.length ≤ n * l.length
  | [], _ => by simp [iAll]
  | a :: l, h => by
    have h1 := h a (by simp)
    have h2 := iAll_len l (fun d hd => h d (by simp [hd]))
    simp only [iAll, iCat, List.length_append, List.length_cons, Nat.mul_add, Nat.mul_one]
    omega
theorem iAll_snoc {α : Type} {one : α → IW} {x : α} : ∀ l : List α, iAll one (l ++ [x]) = iCat (iAll one l) (one x)
  | [] => by simp [iAll, iCat]
  | a :: l => by
    show iCat (one a) (iAll one (l ++ [x])) = iCat (iCat (one a) (iAll one l)) (one x)
    rw [iAll_snoc l]
    simp only [iCat, List.append_assoc, Bool.or_assoc]
theorem putU_u32 {n : Int} (h : U32 n) : (putU n.toNat).length ≤ 10 := putU_ten (by have := h.2; omega)
def lens (v : IG) : Nat := v.labels.l.length + v.types.l.length + v.catches.l.length
theorem iCatch_len {v : CH} (h : U32 v.tag ∧ U32 v.label) : (iCatch v).1.length ≤ 21 := by
  have h1 := putU_u32 h.1
  have h2 := putU_u32 h.2
  simp only [iCatch, iTag, List.length_append, List.length_cons, List.length_nil]
  split <;> (try simp only [List.length_nil]) <;> omega
theorem iRefs_len {v : IG} (hv : v.w) {n : Int} : (iRefs v.types.l n).1.length ≤ 10 * v.types.l.length := by
  have := iAll_len (one := iRef) (n := 10) v.types.l (fun a ha => eH_len (hv.ty a ha))
  simp only [iRefs, iCat, List.nil_append]
  exact this
theorem iMem_len {v : IG} (hv : v.w) : (iMem v.mem).1.length ≤ 40 := by
  have h1 := putU_u32 hv.al
  have h2 := putU_u32 hv.me
  have h3 : (putU v.mem.off.toNat).length ≤ 10 := putU_ten (by have := hv.off; omega)
  have h4 : (putU (v.mem.align + 64).toNat).length ≤ 10 := putU_ten (by have := hv.al.2; omega)
  simp only [iMem, List.length_append]
  split <;> (try simp only [List.length_append]) <;> omega
theorem iConst_len {k : Nat} {n : Int} : (iConst k n).1.length ≤ 12 := by
  have h1 := putS_len 9 (IntKind.i32.wrap n) (by have := i32_range n; omega) (by have := i32_range n; omega)
  have h2 := putS_len 9 (IntKind.i64.wrap n) (by have := i64_range n; omega) (by have := i64_range n; omega)
  have h3 := fixL_len 4 (IntKind.u32.wrap n)
  have h4 := fixL_len 8 n
  simp only [iConst]
  split
  · omega
  · split
    · omega
    · split
      · omega
      · split
        · omega
        · simp
theorem rConst_len {k : Nat} {n : Int} : (rConst k n).1.length ≤ 12 := by
  have h1 := putS_len 9 (IntKind.i32.wrap n) (by have := i32_range n; omega) (by have := i32_range n; omega)
  have h2 := putS_len 9 (IntKind.i64.wrap n) (by have := i64_range n; omega) (by have := i64_range n; omega)
  have h3 := fixL_len 4 n
  have h4 := fixL_len 8 n
  unfold rConst
  split <;> simp only [List.length_nil] <;> omega
theorem iClauses_len {v : IG} (hv : v.w) : (iClauses v.catches.l).1.length ≤ 10 + 21 * v.catches.l.length := by
  have h1 := iAll_len (one := iCatch) (n := 21) v.catches.l (fun a ha => iCatch_len (hv.ca a ha))
  have h2 : (putU v.catches.l.length).length ≤ 10 := putU_ten (by have := hv.lc; omega)
  simp only [iClauses, iCat, List.nil_append, List.length_append]
  omega
theorem iTypes_len {v : IG} (hv : v.w) : (iTypes v).1.length ≤ 10 + 11 * v.types.l.length := by
  have h1 := iAll_len (one := iVal) (n := 11) v.types.l (fun a ha => eV_len (hv.ty a ha))
  have h2 : (putU v.types.l.length).length ≤ 10 := putU_ten (by have := hv.lt; omega)
  simp only [iTypes, iCat, List.nil_append, List.length_append]
  omega
theorem labs_len {v : IG} (hv : v.w) : (iAll iNum v.labels.l).1.length ≤ 10 * v.labels.l.length :=
  iAll_len (one := iNum) (n := 10) v.labels.l (fun a ha => putU_u32 (hv.lab a ha))
theorem iLabels_len {v : IG} (hv : v.w) : (iLabels v).1.length ≤ 20 + 10 * v.labels.l.length := by
  have h1 := labs_len hv
  have h2 : (putU v.labels.l.length).length ≤ 10 := putU_ten (by have := hv.ll; omega)
  have h3 := putU_u32 hv.x
  simp only [iLabels, iAll_snoc, iCat, iNum, List.nil_append, List.length_append]
  omega
theorem iBody_len {v : IG} (hv : v.w) (k : Nat) : (iBody k v).1.length ≤ 60 + 21 * lens v := by
  have hx := putU_u32 hv.x
  have hy := putU_u32 hv.y
  have hn : (putU v.n.toNat).length ≤ 10 := putU_ten (by have := hv.n; omega)
  have hb := eB_len hv.bh hv.bt
  unfold lens
  unfold iBody
  split
  · simp
  · simp only [iEnt]; omega
  · have := iClauses_len hv
    have e : iTry v = iCat (iEnt (eB v.block)) (iClauses v.catches.l) := rfl
    rw [e]
    simp only [iCat, iEnt, List.length_append]
    omega
  · simp only; omega
  · simp only [List.length_append]; omega
  · have := iLabels_len hv; omega
  · have := iTypes_len hv; omega
  · have := iMem_len hv; omega
  · have := iRefs_len hv (n := 1)
    simp only [iCat, List.append_nil]; omega
  · have := iRefs_len hv (n := 1)
    simp only [iCat, List.append_nil]; omega
  · have := iRefs_len hv (n := 2)
    simp only [iCasts, iCat, List.length_append, List.length_cons, List.length_nil]; omega
  · simp only [List.length_append]; omega
  · exact Nat.le_trans iConst_len (by omega)
theorem rCast_len {v : IG} (hv : v.w) (k : Nat) : (rCast k v).1.length ≤ 40 := by
  have hx := putU_u32 hv.x
  unfold rCast
  split
  · unfold rc13
    split
    · rename_i a ha
      have := eH_len (hv.ty a (by rw [ha]; simp))
      split <;> simp <;> omega
    · simp
  · unfold rc14
    split
    · rename_i a ha
      have := eH_len (hv.ty a (by rw [ha]; simp))
      split <;> simp <;> omega
    · simp
  · unfold rc15
    split
    · rename_i a d ha
      have h1 := eH_len (hv.ty a (by rw [ha]; simp))
      have h2 := eH_len (hv.ty d (by rw [ha]; simp))
      split <;> simp <;> omega
    · simp
  · simp
theorem rSw_len {v : IG} (hv : v.w) (k : Nat) : (rSw k v).1.length ≤ 60 + 21 * lens v := by
  have hx := putU_u32 hv.x
  have hy := putU_u32 hv.y
  have hn : (putU v.n.toNat).length ≤ 10 := putU_ten (by have := hv.n; omega)
  have hb := eB_len hv.bh hv.bt
  unfold lens
  unfold rSw
  split
  · simp
  · simp only [iEnt]; omega
  · have := iClauses_len hv
    simp only [iCat, iEnt, List.length_append]
    omega
  · simp only; omega
  · simp only [List.length_append]; omega
  · have h1 := labs_len hv
    have h2 : (putU v.labels.l.length).length ≤ 10 := putU_ten (by have := hv.ll; omega)
    simp only [List.length_append]; omega
  · have h1 := iTypes_len hv
    simp only [iTypes, iCat, List.nil_append, List.length_append] at h1
    simp only [List.length_append]; omega
  · have := iMem_len hv; omega
  · simp only [List.length_append]; omega
  · simp
theorem iOp_len {op : Int} : (iOp op).1.length ≤ 11 := by
  have : (putU (op % 256).toNat).length ≤ 10 := putU_ten (by omega)
  unfold iOp
  simp only
  split <;> simp <;> omega
theorem not_dec_le {a b : Int} : (!decide (a ≤ b)) = decide (b < a) := by
  by_cases h : a ≤ b
  · rw [decide_eq_true h, decide_eq_false (show ¬ b < a by omega)]; rfl
  · rw [decide_eq_false h, decide_eq_true (show b < a by omega)]; rfl
theorem not_dec_lt {a b : Int} : (!decide (a < b)) = decide (b ≤ a) := by
  by_cases h : a < b
  · rw [decide_eq_true h, decide_eq_false (show ¬ b ≤ a by omega)]; rfl
  · rw [decide_eq_false h, decide_eq_true (show b ≤ a by omega)]; rfl
def Alike (p r : IW) : Prop := p.2 = r.2 ∧ (p.2 = false → p.1 = r.1)
theorem alike_eq {p r : IW} (h : p = r) : Alike p r := ⟨by rw [h], fun _ => by rw [h]⟩
theorem alike_body {v : IG} (hv : v.w) {k : Nat} (hk : k < 17) : Alike (iBody k v) (refB k v) := by
  have h : k = 0 ∨ k = 1 ∨ k = 2 ∨ k = 3 ∨ k = 4 ∨ k = 5 ∨ k = 6 ∨ k = 7 ∨ k = 8 ∨ k = 9 ∨ k = 10 ∨ k = 11 ∨ k = 12 ∨ k = 13 ∨ k = 14 ∨ k = 15 ∨ k = 16 := by omega
  have nl := not_dec_le (a := (v.labels.l.length : Int)) (b := 65536)
  have nt := not_dec_le (a := (v.types.l.length : Int)) (b := 1000)
  have nn := not_dec_lt (a := v.n) (b := 4294967296)
  rcases h with rfl | rfl | rfl | rfl | rfl | rfl | rfl | rfl | rfl | rfl | rfl | rfl | rfl | rfl | rfl | rfl | rfl
  · exact alike_eq rfl
  · exact alike_eq rfl
  · refine alike_eq ?_
    simp only [iBody, refB, rSw, rCast, rConst, iCat, iEnt, List.append_nil, Bool.or_false]
  · refine alike_eq ?_
    have e : iTry v = iCat (iEnt (eB v.block)) (iClauses v.catches.l) := rfl
    simp only [iBody, refB, rSw, rCast, rConst, e, iCat, iEnt, List.append_nil, Bool.or_false]
  · refine alike_eq ?_
    simp only [iBody, refB, rSw, rCast, rConst, iCat, List.append_nil, Bool.or_false]
  · refine alike_eq ?_
    simp only [iBody, refB, rSw, rCast, rConst, iCat, List.append_nil, Bool.or_false]
  · refine alike_eq ?_
    simp only [iBody, refB, rSw, rCast, rConst, iCat, iLabels, iAll_snoc, iNum, iNum_false, nl, List.nil_append, List.append_nil, Bool.or_false]
  · refine alike_eq ?_
    simp only [iBody, refB, rSw, rCast, rConst, iCat, iTypes, nt, List.nil_append, List.append_nil, Bool.or_false, Bool.false_or]
  · refine alike_eq ?_
    simp only [iBody, refB, rSw, rCast, rConst, iCat, iMem, List.append_nil, Bool.or_false]
  · exact alike_eq rfl
  · exact alike_eq rfl
  · constructor
    · rfl
    · intro hb
      have hb' : (!decide (v.n < 4294967296)) = false := hb
      have hlt : v.n < 4294967296 := by simpa using hb'
      show fixL 4 (IntKind.u32.wrap v.n) = fixL 4 v.n
      rw [w_u32 (by have := hv.n; omega)]
  · exact alike_eq rfl
  · show Alike (iCat (iRefs v.types.l 1) ([], !oneNull v.types.l)) (iCat ([], false) (iCat (rc13 v.types.l) ([], false)))
    unfold Alike rc13 oneNull iRefs
    match v.types.l with
    | [] => exact ⟨rfl, fun h => by cases h⟩
    | [a] =>
      by_cases h5 : a.num = 5
      · have e5 : (a.num == 5) = true := beq_iff_eq.mpr h5
        cases hn : a.nul <;> cases he : ((eH a.heap).2 == 0) <;> simp [iAll, iCat, iRef, h5, hn, he]
      · have e5 : (a.num == 5) = false := beq_false_of_ne h5
        simp [iAll, iCat, iRef, h5, e5]
    | a :: d :: r =>
      have e1 : (((a :: d :: r).length : Int) == 1) = false := beq_false_of_ne (by simp; omega)
      simp [iCat, e1]
  · show Alike (iCat (iRefs v.types.l 1) ([], !oneCast (v.op % 2 == 1) v.types.l)) (iCat ([], false) (iCat (rc14 (v.op % 2 == 1) v.types.l) ([], false)))
    generalize (v.op % 2 == 1) = odd
    unfold Alike rc14 oneCast iRefs
    match v.types.l with
    | [] => exact ⟨rfl, fun h => by cases h⟩
    | [a] =>
      by_cases h5 : a.num = 5
      · have e5 : (a.num == 5) = true := beq_iff_eq.mpr h5
        cases hn : (a.nul == odd) <;> cases he : ((eH a.heap).2 == 0) <;> simp [iAll, iCat, iRef, h5, hn, he]
      · have e5 : (a.num == 5) = false := beq_false_of_ne h5
        simp [iAll, iCat, iRef, h5, e5]
    | a :: d :: r =>
      have e1 : (((a :: d :: r).length : Int) == 1) = false := beq_false_of_ne (by simp; omega)
      simp [iCat, e1]
  · show Alike (iCasts v.x v.types.l (castC v.types.l)) (iCat ([], false) (iCat (rc15 v.x v.types.l) ([], false)))
    unfold Alike rc15 iCasts iRefs castC
    match v.types.l with
    | [] => exact ⟨rfl, fun h => by cases h⟩
    | [a] => exact ⟨rfl, fun h => by cases h⟩
    | [a, d] =>
      by_cases h5 : a.num = 5
      · by_cases h6 : d.num = 5
        · cases he : ((eH a.heap).2 == 0) <;> cases hf : ((eH d.heap).2 == 0) <;> simp [iAll, iCat, iRef, h5, h6, he, hf]
        · have e6 : (d.num == 5) = false := beq_false_of_ne h6
          simp [iAll, iCat, iRef, h5, h6, e6]
      · have e5 : (a.num == 5) = false := beq_false_of_ne h5
        simp [iAll, iCat, iRef, h5, e5]
    | a :: d :: e :: r =>
      have e1 : (((a :: d :: e :: r).length : Int) == 2) = false := beq_false_of_ne (by simp; omega)
      simp only [iCat, e1, Bool.not_false, Bool.true_or, Bool.false_or, Bool.or_false]
      exact ⟨trivial, fun h => by cases h⟩
  · refine alike_eq ?_
    simp only [iBody, refB, rSw, rCast, rConst, iCat, nn, List.append_nil, Bool.or_false]
theorem alike_all {v : IG} (hv : v.w) : Alike (progW v) (refW v) := by
  obtain ⟨h1, h2⟩ := alike_body hv (formN_lt v.op)
  unfold progW refW
  refine ⟨?_, fun h => ?_⟩
  · simp only [iCat, iOp_2, Bool.false_or]; exact h1
  · simp only [iCat, iOp_2, Bool.false_or] at h ⊢
    rw [h2 h]
theorem form_pos {op : Int} (h : formN op ≠ 0) : 0 ≤ op := by
  refine Decidable.byContradiction fun hn => h ?_
  have e2 := pickP_none (op := op) othP (fun r hr => by have := othP_u r hr; unfold inU at this; omega)
  unfold formN opP
  rw [if_neg (fun q => hn q.1), e2]
  rfl
theorem rwrite_is {v : IG} {H : Heap} (hv : v.w) (hs : (refW v).1.length ≤ 140737488355328) : run (C k_ratchetref09_Write [.agg (cs_IG v)]) H = some (.ok (wOut (refW v)) H) := by
  unfold refW at hs ⊢
  have hl := formN_lt v.op
  have hp : 0 ≤ v.op ∨ formN v.op ≠ 14 := by
    by_cases h : formN v.op = 14
    · exact .inl (form_pos (by rw [h]; decide))
    · exact .inr h
  generalize hk : formN v.op = k at hs hl hp ⊢
  have h : k = 0 ∨ k = 1 ∨ k = 2 ∨ k = 3 ∨ k = 4 ∨ k = 5 ∨ k = 6 ∨ k = 7 ∨ k = 8 ∨ k = 9 ∨ k = 10 ∨ k = 11 ∨ k = 12 ∨ k = 13 ∨ k = 14 ∨ k = 15 ∨ k = 16 := by omega
  rcases h with rfl | rfl | rfl | rfl | rfl | rfl | rfl | rfl | rfl | rfl | rfl | rfl | rfl | rfl | rfl | rfl | rfl
  · exact rwrite_0 hv hk hp hs
  · exact rwrite_1 hv hk hp hs
  · exact rwrite_2 hv hk hp hs
  · exact rwrite_3 hv hk hp hs
  · exact rwrite_4 hv hk hp hs
  · exact rwrite_5 hv hk hp hs
  · exact rwrite_6 hv hk hp hs
  · exact rwrite_7 hv hk hp hs
  · exact rwrite_8 hv hk hp hs
  · exact rwrite_9 hv hk hp hs
  · exact rwrite_10 hv hk hp hs
  · exact rwrite_11 hv hk hp hs
  · exact rwrite_12 hv hk hp hs
  · exact rwrite_13 hv hk hp hs
  · exact rwrite_14 hv hk hp hs
  · exact rwrite_15 hv hk hp hs
  · exact rwrite_16 hv hk hp hs
theorem iwrites_true {v : IG} {H : Heap} (hv : v.w) (hl : lens v ≤ 1048576) : run (C k_ratchetlaw09_InstrWrites [.agg (cs_IG v)]) H = some (.ok (.bool true) H) := by
  have l1 := iBody_len hv (formN v.op)
  have l2 := rSw_len hv (formN v.op)
  have l3 := rCast_len hv (formN v.op)
  have l4 := rConst_len (k := formN v.op) (n := v.n)
  have l5 := iOp_len (op := v.op)
  have p := fun K => iwrite_is (H := K) hv (by simp only [progW, iCat, List.length_append]; omega)
  have r := fun K => rwrite_is (H := K) hv (by simp only [refW, refB, iCat, List.length_append]; omega)
  obtain ⟨a1, a2⟩ := alike_all hv
  have hc0 : ∀ K, run (cv .bytesToStr true (.slice false true 0 [])) K = some (.ok (.str ⟨#[]⟩) K) := fun K => rfl
  unfold wOut at p r
  rw [← a1] at r
  cases hb : (progW v).2 with
  | true =>
    rw [hb] at p r
    simp only [↓reduceIte] at p r
    unfold cs_IG at p r ⊢
    rw [ratchetlaw09_InstrWrites_eq]
    simp (contextual := true) (dsimp := false) (disch := omega) only [↓goDown, goUp, List.length_cons, List.length_nil, List.map_cons, List.map_nil, List.take_succ_cons, List.take_zero, List.drop_succ_cons, List.drop_zero, List.drop_nil, List.take_nil, List.cons_append, List.nil_append, List.append_nil, List.set_cons_zero, List.set_cons_succ, List.all_cons, List.all_nil, ↓reduceIte, reduceCtorEq, ge_iff_le, gt_iff_lt, eq_self_iff_true, beq_self_eq_true, beq_iff_eq, bne_iff_ne, ne_eq, ite_not, Int.reduceEq, Option.getD_some, Option.getD_none, ite_self, Nat.reduceAdd, Nat.reduceSub, Nat.reduceMul, Nat.reduceLeDiff, Nat.reduceEqDiff, Nat.reduceBEq, Nat.reduceBNe, Int.reduceLT, Int.reduceLE, Int.reduceAdd, Int.reduceSub, Int.reduceMul, Int.reduceNeg, Int.reduceNe, Int.reduceBEq, Int.reduceBNe, Int.reduceToNat, p, r, hc0, str_eq, iawake_is, cells_Z, isCell_Z, low_Z, stripC_Z, isTup_Z, strip_Z]
  | false =>
    rw [← a2 hb, hb] at r
    rw [hb] at p
    simp only [Bool.false_eq_true, ↓reduceIte] at p r
    have hst : ∀ u : List UInt8, stripC (accB u) = LZ true 1 (bytes u) := fun u => stripC_B
    unfold cs_IG at p r ⊢
    rw [ratchetlaw09_InstrWrites_eq]
    simp (contextual := true) (dsimp := false) (disch := omega) only [↓goDown, goUp, List.length_cons, List.length_nil, List.map_cons, List.map_nil, List.take_succ_cons, List.take_zero, List.drop_succ_cons, List.drop_zero, List.drop_nil, List.take_nil, List.cons_append, List.nil_append, List.append_nil, List.set_cons_zero, List.set_cons_succ, List.all_cons, List.all_nil, ↓reduceIte, reduceCtorEq, ge_iff_le, gt_iff_lt, eq_self_iff_true, beq_self_eq_true, beq_iff_eq, bne_iff_ne, ne_eq, ite_not, Int.reduceEq, Option.getD_some, Option.getD_none, ite_self, Nat.reduceAdd, Nat.reduceSub, Nat.reduceMul, Nat.reduceLeDiff, Nat.reduceEqDiff, Nat.reduceBEq, Nat.reduceBNe, Int.reduceLT, Int.reduceLE, Int.reduceAdd, Int.reduceSub, Int.reduceMul, Int.reduceNeg, Int.reduceNe, Int.reduceBEq, Int.reduceBNe, Int.reduceToNat, p, r, hst, cv_LZ, str_eq, iawake_is, cells_Z, isCell_Z, low_Z, stripC_Z, isTup_Z, strip_Z]
theorem iwrites_of {v : IG} {H : Heap} (h : ok_IG v) (hm : ms_IG v ≤ 1048576) : run (C k_ratchetlaw09_InstrWrites [.agg (cs_IG v)]) H = some (.ok (.bool true) H) := by
  have u32 : ∀ {n : Int}, (Lit.int .u32 n).wf = true → U32 n := fun h => by
    simp [Lit.wf, IntKind.min, IntKind.max, IntKind.bits, IntKind.signed] at h
    exact ⟨by omega, by omega⟩
  have i64 : ∀ {n : Int}, (Lit.int .i64 n).wf = true → I64 n := fun h => wf_i64 h
  obtain ⟨o1, o2, o3, o4, o5, o6, _, _, _, o7, o8, o9, _⟩ := h
  obtain ⟨m1, m2, m3, _⟩ := o5
  obtain ⟨k1, k2, _⟩ := o6
  have s1 : v.labels.l.length ≤ sumL (fun _ : Int => 1) v.labels.l := sumL_len v.labels.l (fun _ _ => Nat.le_refl _)
  have s2 : v.types.l.length ≤ sumL (fun a => ms_V a) v.types.l := sumL_len v.types.l (fun a _ => by unfold ms_V; omega)
  have s3 : v.catches.l.length ≤ sumL (fun a => ms_CH a) v.catches.l := sumL_len v.catches.l (fun a _ => by unfold ms_CH; omega)
  unfold ms_IG at hm
  have hv : v.w := ⟨i64 o1, u32 o2, u32 o3, wf_u64 o4, u32 m1, u32 m2, wf_u64 m3, i64 k1, i64 k2.2.2.1, fun a ha => u32 (o7 a ha), fun a ha => i64 (o8 a ha).2.2.1, fun a ha => ⟨u32 (o9 a ha).2.1, u32 (o9 a ha).2.2.1⟩, by omega, by omega, by omega⟩
  exact iwrites_true hv (by unfold lens; omega)
end Go.Proofs.Ythidcpkcfoldmaa.Pi.Q
