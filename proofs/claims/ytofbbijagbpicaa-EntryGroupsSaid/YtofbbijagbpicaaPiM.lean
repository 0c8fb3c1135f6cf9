/- Alike is what is the same: the reference's comparisons. -/
import Derived.Test.YtofbbijagbpicaaPiL
import Derived.Test.YtofbbijagbpicaaPiH
namespace Go.Proofs.Ytofbbijagbpicaa.Pi.Q
open Go Go.Proofs.Ytofbbijagbpicaa.Pi
set_option linter.unusedVariables false
set_option linter.unusedSimpArgs false
set_option maxRecDepth 100000
attribute [local congr] ite_congr
theorem eql_int {H : Heap} {k : IntKind} {n : Int} : run (bi .eql .none (.int k n) (.int k n)) H = some (.ok (.bool true) H) := by
  unfold run
  rw [bi_eql, beq_self_eq_true]
  rfl
theorem eql_bool {H : Heap} {t : Bool} : run (bi .eql .bool (.bool t) (.bool t)) H = some (.ok (.bool true) H) := by cases t <;> rfl
theorem neq_bool {H : Heap} {t : Bool} : run (bi .neq .bool (.bool t) (.bool t)) H = some (.ok (.bool false) H) := by cases t <;> rfl
theorem same_self {H : Heap} {v : VT} : run (C k_ratchetref05_Same [encV v, encV v]) H = some (.ok (.bool true) H) := by
  rw [ratchetref05_Same_eq]
  by_cases h : v.num = 5
  · have e : (v.num = 5) = True := eq_true h
    simp (contextual := true) (dsimp := false) (disch := omega) only [↓goDown, goUp, List.length_cons, List.length_nil, List.map_cons, List.map_nil, List.take_succ_cons, List.take_zero, List.drop_succ_cons, List.drop_zero, List.drop_nil, List.take_nil, List.cons_append, List.nil_append, List.append_nil, List.set_cons_zero, List.set_cons_succ, List.all_cons, List.all_nil, ↓reduceIte, reduceCtorEq, ge_iff_le, gt_iff_lt, eq_self_iff_true, beq_self_eq_true, beq_iff_eq, bne_iff_ne, ne_eq, ite_not, Int.reduceEq, Option.getD_some, Option.getD_none, ite_self, Nat.reduceAdd, Nat.reduceSub, Nat.reduceMul, Nat.reduceLeDiff, Nat.reduceEqDiff, Nat.reduceBEq, Nat.reduceBNe, Int.reduceLT, Int.reduceLE, Int.reduceAdd, Int.reduceSub, Int.reduceMul, Int.reduceNeg, Int.reduceNe, Int.reduceBEq, Int.reduceBNe, Int.reduceToNat, cells_V, eql_int, eql_bool, e]
  · have e : (v.num = 5) = False := eq_false h
    simp (contextual := true) (dsimp := false) (disch := omega) only [↓goDown, goUp, List.length_cons, List.length_nil, List.map_cons, List.map_nil, List.take_succ_cons, List.take_zero, List.drop_succ_cons, List.drop_zero, List.drop_nil, List.take_nil, List.cons_append, List.nil_append, List.append_nil, List.set_cons_zero, List.set_cons_succ, List.all_cons, List.all_nil, ↓reduceIte, reduceCtorEq, ge_iff_le, gt_iff_lt, eq_self_iff_true, beq_self_eq_true, beq_iff_eq, bne_iff_ne, ne_eq, ite_not, Int.reduceEq, Option.getD_some, Option.getD_none, ite_self, Nat.reduceAdd, Nat.reduceSub, Nat.reduceMul, Nat.reduceLeDiff, Nat.reduceEqDiff, Nat.reduceBEq, Nat.reduceBNe, Int.reduceLT, Int.reduceLE, Int.reduceAdd, Int.reduceSub, Int.reduceMul, Int.reduceNeg, Int.reduceNe, Int.reduceBEq, Int.reduceBNe, Int.reduceToNat, cells_V, eql_int, eql_bool, e]
theorem ln_P {H : Heap} {sz : Nat} {l : List PV} : run (lnL (shutP sz l)) H = some (.ok (.int .i64 l.length) H) := by cases l <;> rfl
theorem ia_P {H : Heap} {sz : Nat} {l : List PV} {i : Nat} {x : PV} (h : l[i]? = some x) : run (iaS sz (shutP sz l) (.int .i64 i)) H = run (iaS sz (.slice false false sz l) (.int .i64 i)) H := by
  cases l with
  | nil => simp at h
  | cons a r => rfl
theorem sameVals_loop {H : Heap} {v4 : PV} {l : List VT} (hl : l.length < 2 ^ 62) : ∀ (m i : Nat), i + m = l.length → run (p_ratchetref05_SameVals_11010 (shutP 3 (l.map encV)) (shutP 3 (l.map encV)) v4 (.int .i64 i)) H = some (.ok (.bool true) H)
  | 0, i, h => by
    rw [p_ratchetref05_SameVals_11010_eq]
    have c1 : ¬ (i : Int) < l.length := by omega
    simp (contextual := true) (dsimp := false) (disch := omega) only [↓goDown, goUp, List.length_cons, List.length_nil, List.map_cons, List.map_nil, List.take_succ_cons, List.take_zero, List.drop_succ_cons, List.drop_zero, List.drop_nil, List.take_nil, List.cons_append, List.nil_append, List.append_nil, List.set_cons_zero, List.set_cons_succ, List.all_cons, List.all_nil, ↓reduceIte, reduceCtorEq, ge_iff_le, gt_iff_lt, eq_self_iff_true, beq_self_eq_true, beq_iff_eq, bne_iff_ne, ne_eq, ite_not, Int.reduceEq, Option.getD_some, Option.getD_none, ite_self, Nat.reduceAdd, Nat.reduceSub, Nat.reduceMul, Nat.reduceLeDiff, Nat.reduceEqDiff, Nat.reduceBEq, Nat.reduceBNe, Int.reduceLT, Int.reduceLE, Int.reduceAdd, Int.reduceSub, Int.reduceMul, Int.reduceNeg, Int.reduceNe, Int.reduceBEq, Int.reduceBNe, Int.reduceToNat, strip_P, ln_P, List.length_map, c1]
  | m + 1, i, h => by
    have ih := sameVals_loop hl (v4 := v4) (H := H) m (i + 1) (by omega)
    rw [p_ratchetref05_SameVals_11010_eq]
    have c1 : (i : Int) < l.length := by omega
    have hi : i < l.length := by omega
    have hg : (l.map encV)[i]? = some (encV l[i]) := by simp [hi]
    have hia : run (iaS 3 (shutP 3 (l.map encV)) (.int .i64 i)) H = some (.ok (.elem [.int .i64 l[i].num, .bool l[i].nul, .int .i64 l[i].heap]) H) := by
      rw [ia_P hg, run_iaS (by omega), Int.toNat_natCast, hg]
      rfl
    have hsame : run (C k_ratchetref05_Same [.agg [.int .i64 l[i].num, .bool l[i].nul, .int .i64 l[i].heap], .agg [.int .i64 l[i].num, .bool l[i].nul, .int .i64 l[i].heap]]) H = some (.ok (.bool true) H) := same_self
    simp (contextual := true) (dsimp := false) (disch := omega) only [↓goDown, goUp, List.length_cons, List.length_nil, List.map_cons, List.map_nil, List.take_succ_cons, List.take_zero, List.drop_succ_cons, List.drop_zero, List.drop_nil, List.take_nil, List.cons_append, List.nil_append, List.append_nil, List.set_cons_zero, List.set_cons_succ, List.all_cons, List.all_nil, ↓reduceIte, reduceCtorEq, ge_iff_le, gt_iff_lt, eq_self_iff_true, beq_self_eq_true, beq_iff_eq, bne_iff_ne, ne_eq, ite_not, Int.reduceEq, Option.getD_some, Option.getD_none, ite_self, Nat.reduceAdd, Nat.reduceSub, Nat.reduceMul, Nat.reduceLeDiff, Nat.reduceEqDiff, Nat.reduceBEq, Nat.reduceBNe, Int.reduceLT, Int.reduceLE, Int.reduceAdd, Int.reduceSub, Int.reduceMul, Int.reduceNeg, Int.reduceNe, Int.reduceBEq, Int.reduceBNe, Int.reduceToNat, strip_P, ln_P, List.length_map, c1, hia, hsame, un_not, ns]
    exact ih
theorem sameVals_self {H : Heap} {l : List VT} (hl : l.length < 2 ^ 62) : run (C k_ratchetref05_SameVals [shutP 3 (l.map encV), shutP 3 (l.map encV)]) H = some (.ok (.bool true) H) := by
  rw [ratchetref05_SameVals_eq]
  have lp : ∀ (v4 : PV) , run (p_ratchetref05_SameVals_11010 (shutP 3 (l.map encV)) (shutP 3 (l.map encV)) v4 (.int .i64 0)) H = some (.ok (.bool true) H) := fun v4 => sameVals_loop hl l.length 0 (by omega)
  simp (contextual := true) (dsimp := false) (disch := omega) only [↓goDown, goUp, List.length_cons, List.length_nil, List.map_cons, List.map_nil, List.take_succ_cons, List.take_zero, List.drop_succ_cons, List.drop_zero, List.drop_nil, List.take_nil, List.cons_append, List.nil_append, List.append_nil, List.set_cons_zero, List.set_cons_succ, List.all_cons, List.all_nil, ↓reduceIte, reduceCtorEq, ge_iff_le, gt_iff_lt, eq_self_iff_true, beq_self_eq_true, beq_iff_eq, bne_iff_ne, ne_eq, ite_not, Int.reduceEq, Option.getD_some, Option.getD_none, ite_self, Nat.reduceAdd, Nat.reduceSub, Nat.reduceMul, Nat.reduceLeDiff, Nat.reduceEqDiff, Nat.reduceBEq, Nat.reduceBNe, Int.reduceLT, Int.reduceLE, Int.reduceAdd, Int.reduceSub, Int.reduceMul, Int.reduceNeg, Int.reduceNe, Int.reduceBEq, Int.reduceBNe, Int.reduceToNat, strip_P, ln_P, neq_int, lp]
theorem sameFields_loop {H : Heap} {v4 : PV} {l : List FT} (hl : l.length < 2 ^ 62) : ∀ (m i : Nat), i + m = l.length → run (p_ratchetref05_sameFields_11010 (shutP 4 (l.map encF)) (shutP 4 (l.map encF)) v4 (.int .i64 i)) H = some (.ok (.bool true) H)
  | 0, i, h => by
    rw [p_ratchetref05_sameFields_11010_eq]
    have c1 : ¬ (i : Int) < l.length := by omega
    simp (contextual := true) (dsimp := false) (disch := omega) only [↓goDown, goUp, List.length_cons, List.length_nil, List.map_cons, List.map_nil, List.take_succ_cons, List.take_zero, List.drop_succ_cons, List.drop_zero, List.drop_nil, List.take_nil, List.cons_append, List.nil_append, List.append_nil, List.set_cons_zero, List.set_cons_succ, List.all_cons, List.all_nil, ↓reduceIte, reduceCtorEq, ge_iff_le, gt_iff_lt, eq_self_iff_true, beq_self_eq_true, beq_iff_eq, bne_iff_ne, ne_eq, ite_not, Int.reduceEq, Option.getD_some, Option.getD_none, ite_self, Nat.reduceAdd, Nat.reduceSub, Nat.reduceMul, Nat.reduceLeDiff, Nat.reduceEqDiff, Nat.reduceBEq, Nat.reduceBNe, Int.reduceLT, Int.reduceLE, Int.reduceAdd, Int.reduceSub, Int.reduceMul, Int.reduceNeg, Int.reduceNe, Int.reduceBEq, Int.reduceBNe, Int.reduceToNat, strip_P, ln_P, List.length_map, c1]
  | m + 1, i, h => by
    have ih := sameFields_loop hl (v4 := v4) (H := H) m (i + 1) (by omega)
    rw [p_ratchetref05_sameFields_11010_eq]
    have c1 : (i : Int) < l.length := by omega
    have hi : i < l.length := by omega
    have hg : (l.map encF)[i]? = some (encF l[i]) := by simp [hi]
    have hia : run (iaS 4 (shutP 4 (l.map encF)) (.int .i64 i)) H = some (.ok (.elem [.int .i64 l[i].ty.num, .bool l[i].ty.nul, .int .i64 l[i].ty.heap, .bool l[i].mu]) H) := by
      rw [ia_P hg, run_iaS (by omega), Int.toNat_natCast, hg]
      rfl
    have hsame : run (C k_ratchetref05_Same [.agg [.int .i64 l[i].ty.num, .bool l[i].ty.nul, .int .i64 l[i].ty.heap], .agg [.int .i64 l[i].ty.num, .bool l[i].ty.nul, .int .i64 l[i].ty.heap]]) H = some (.ok (.bool true) H) := same_self
    simp (contextual := true) (dsimp := false) (disch := omega) only [↓goDown, goUp, List.length_cons, List.length_nil, List.map_cons, List.map_nil, List.take_succ_cons, List.take_zero, List.drop_succ_cons, List.drop_zero, List.drop_nil, List.take_nil, List.cons_append, List.nil_append, List.append_nil, List.set_cons_zero, List.set_cons_succ, List.all_cons, List.all_nil, ↓reduceIte, reduceCtorEq, ge_iff_le, gt_iff_lt, eq_self_iff_true, beq_self_eq_true, beq_iff_eq, bne_iff_ne, ne_eq, ite_not, Int.reduceEq, Option.getD_some, Option.getD_none, ite_self, Nat.reduceAdd, Nat.reduceSub, Nat.reduceMul, Nat.reduceLeDiff, Nat.reduceEqDiff, Nat.reduceBEq, Nat.reduceBNe, Int.reduceLT, Int.reduceLE, Int.reduceAdd, Int.reduceSub, Int.reduceMul, Int.reduceNeg, Int.reduceNe, Int.reduceBEq, Int.reduceBNe, Int.reduceToNat, strip_P, ln_P, List.length_map, c1, hia, hsame, un_not, ns, neq_bool]
    exact ih
theorem sameFields_self {H : Heap} {l : List FT} (hl : l.length < 2 ^ 62) : run (C k_ratchetref05_sameFields [shutP 4 (l.map encF), shutP 4 (l.map encF)]) H = some (.ok (.bool true) H) := by
  rw [ratchetref05_sameFields_eq]
  have lp : ∀ (v4 : PV) , run (p_ratchetref05_sameFields_11010 (shutP 4 (l.map encF)) (shutP 4 (l.map encF)) v4 (.int .i64 0)) H = some (.ok (.bool true) H) := fun v4 => sameFields_loop hl l.length 0 (by omega)
  simp (contextual := true) (dsimp := false) (disch := omega) only [↓goDown, goUp, List.length_cons, List.length_nil, List.map_cons, List.map_nil, List.take_succ_cons, List.take_zero, List.drop_succ_cons, List.drop_zero, List.drop_nil, List.take_nil, List.cons_append, List.nil_append, List.append_nil, List.set_cons_zero, List.set_cons_succ, List.all_cons, List.all_nil, ↓reduceIte, reduceCtorEq, ge_iff_le, gt_iff_lt, eq_self_iff_true, beq_self_eq_true, beq_iff_eq, bne_iff_ne, ne_eq, ite_not, Int.reduceEq, Option.getD_some, Option.getD_none, ite_self, Nat.reduceAdd, Nat.reduceSub, Nat.reduceMul, Nat.reduceLeDiff, Nat.reduceEqDiff, Nat.reduceBEq, Nat.reduceBNe, Int.reduceLT, Int.reduceLE, Int.reduceAdd, Int.reduceSub, Int.reduceMul, Int.reduceNeg, Int.reduceNe, Int.reduceBEq, Int.reduceBNe, Int.reduceToNat, strip_P, ln_P, neq_int, lp]
def CT.fit (v : CT) : Prop := v.ps.length < 2 ^ 62 ∧ v.rs.length < 2 ^ 62 ∧ v.fs.length < 2 ^ 62
def ST.fit (v : ST) : Prop := v.sup.length < 2 ^ 62 ∧ v.comp.fit
def RT.fit (v : RT) : Prop := v.types.length < 2 ^ 62 ∧ ∀ t ∈ v.types, t.fit
theorem sameSub_loop {H : Heap} {v4 : PV} {v : ST} (hv : v.fit) : ∀ (m i : Nat), i + m = v.sup.length → run (p_ratchetref05_SameSub_11010 (.ptr H.length 0) (.ptr (H.length + 1) 0) v4 (.int .i64 i)) (hadd H [.cells (csS v), .cells (csS v)]) = some (.ok (.bool true) (hadd H [.cells (csS v), .cells (csS v)]))
  | 0, i, h => by
    obtain ⟨h1, h2, h3, h4⟩ := hv
    have s1 := fun L => sameVals_self (H := hadd H L) h2
    have s2 := fun L => sameVals_self (H := hadd H L) h3
    have s3 := fun L => sameFields_self (H := hadd H L) h4
    rw [p_ratchetref05_SameSub_11010_eq]
    have c1 : ¬ (i : Int) < v.sup.length := by omega
    simp (contextual := true) (dsimp := false) (disch := omega) only [↓goDown, goUp, List.length_cons, List.length_nil, List.map_cons, List.map_nil, List.take_succ_cons, List.take_zero, List.drop_succ_cons, List.drop_zero, List.drop_nil, List.take_nil, List.cons_append, List.nil_append, List.append_nil, List.set_cons_zero, List.set_cons_succ, List.all_cons, List.all_nil, ↓reduceIte, reduceCtorEq, ge_iff_le, gt_iff_lt, eq_self_iff_true, beq_self_eq_true, beq_iff_eq, bne_iff_ne, ne_eq, ite_not, Int.reduceEq, Option.getD_some, Option.getD_none, ite_self, Nat.reduceAdd, Nat.reduceSub, Nat.reduceMul, Nat.reduceLeDiff, Nat.reduceEqDiff, Nat.reduceBEq, Nat.reduceBNe, Int.reduceLT, Int.reduceLE, Int.reduceAdd, Int.reduceSub, Int.reduceMul, Int.reduceNeg, Int.reduceNe, Int.reduceBEq, Int.reduceBNe, Int.reduceToNat, csS, strip_P, ln_P, List.length_map, c1, cells_P, isCell_P, low_P, stripC_P, isTup_P, s1, s2, s3]
  | m + 1, i, h => by
    have ih := sameSub_loop hv (v4 := v4) (H := H) m (i + 1) (by omega)
    have h1 := hv.1
    rw [p_ratchetref05_SameSub_11010_eq]
    have c1 : (i : Int) < v.sup.length := by omega
    have hi : i < v.sup.length := by omega
    have hg : (v.sup.map encI)[i]? = some (encI v.sup[i]) := by simp [hi]
    have hia : ∀ K, run (iaS 1 (shutP 1 (v.sup.map encI)) (.int .i64 i)) K = some (.ok (.elem [.int .i64 v.sup[i]]) K) := fun K => by
      rw [ia_P hg, run_iaS (by omega), Int.toNat_natCast, hg]
      rfl
    unfold csS at ih ⊢
    simp (contextual := true) (dsimp := false) (disch := omega) only [↓goDown, goUp, List.length_cons, List.length_nil, List.map_cons, List.map_nil, List.take_succ_cons, List.take_zero, List.drop_succ_cons, List.drop_zero, List.drop_nil, List.take_nil, List.cons_append, List.nil_append, List.append_nil, List.set_cons_zero, List.set_cons_succ, List.all_cons, List.all_nil, ↓reduceIte, reduceCtorEq, ge_iff_le, gt_iff_lt, eq_self_iff_true, beq_self_eq_true, beq_iff_eq, bne_iff_ne, ne_eq, ite_not, Int.reduceEq, Option.getD_some, Option.getD_none, ite_self, Nat.reduceAdd, Nat.reduceSub, Nat.reduceMul, Nat.reduceLeDiff, Nat.reduceEqDiff, Nat.reduceBEq, Nat.reduceBNe, Int.reduceLT, Int.reduceLE, Int.reduceAdd, Int.reduceSub, Int.reduceMul, Int.reduceNeg, Int.reduceNe, Int.reduceBEq, Int.reduceBNe, Int.reduceToNat, strip_P, ln_P, List.length_map, c1, cells_P, isCell_P, low_P, stripC_P, isTup_P, hia, neq_int, ns]
    exact ih
theorem sameSub_self {H : Heap} {v : ST} (hv : v.fit) : run (C k_ratchetref05_SameSub [encS v, encS v]) H = some (.ok (.bool true) H) := by
  rw [ratchetref05_SameSub_eq]
  have lp : ∀ v4, run (p_ratchetref05_SameSub_11010 (.ptr H.length 0) (.ptr (H.length + 1) 0) v4 (.int .i64 0)) (hadd H [.cells (csS v), .cells (csS v)]) = some (.ok (.bool true) (hadd H [.cells (csS v), .cells (csS v)])) := fun v4 => sameSub_loop (H := H) (v4 := v4) hv v.sup.length 0 (by omega)
  unfold encS
  unfold csS at lp ⊢
  simp (contextual := true) (dsimp := false) (disch := omega) only [↓goDown, goUp, List.length_cons, List.length_nil, List.map_cons, List.map_nil, List.take_succ_cons, List.take_zero, List.drop_succ_cons, List.drop_zero, List.drop_nil, List.take_nil, List.cons_append, List.nil_append, List.append_nil, List.set_cons_zero, List.set_cons_succ, List.all_cons, List.all_nil, ↓reduceIte, reduceCtorEq, ge_iff_le, gt_iff_lt, eq_self_iff_true, beq_self_eq_true, beq_iff_eq, bne_iff_ne, ne_eq, ite_not, Int.reduceEq, Option.getD_some, Option.getD_none, ite_self, Nat.reduceAdd, Nat.reduceSub, Nat.reduceMul, Nat.reduceLeDiff, Nat.reduceEqDiff, Nat.reduceBEq, Nat.reduceBNe, Int.reduceLT, Int.reduceLE, Int.reduceAdd, Int.reduceSub, Int.reduceMul, Int.reduceNeg, Int.reduceNe, Int.reduceBEq, Int.reduceBNe, Int.reduceToNat, strip_P, ln_P, cells_P, isCell_P, low_P, stripC_P, isTup_P, neq_int, neq_bool, lp]
theorem sameRec_loop {H : Heap} {v4 : PV} {v : RT} (hv : v.fit) : ∀ (m i : Nat), i + m = v.types.length → run (p_ratchetref05_SameRec_11010 (.ptr H.length 0) (.ptr (H.length + 1) 0) v4 (.int .i64 i)) (hadd H [.cells [shutP 6 (v.types.map encS), .bool v.exp], .cells [shutP 6 (v.types.map encS), .bool v.exp]]) = some (.ok (.bool true) (hadd H [.cells [shutP 6 (v.types.map encS), .bool v.exp], .cells [shutP 6 (v.types.map encS), .bool v.exp]]))
  | 0, i, h => by
    rw [p_ratchetref05_SameRec_11010_eq]
    have c1 : ¬ (i : Int) < v.types.length := by omega
    simp (contextual := true) (dsimp := false) (disch := omega) only [↓goDown, goUp, List.length_cons, List.length_nil, List.map_cons, List.map_nil, List.take_succ_cons, List.take_zero, List.drop_succ_cons, List.drop_zero, List.drop_nil, List.take_nil, List.cons_append, List.nil_append, List.append_nil, List.set_cons_zero, List.set_cons_succ, List.all_cons, List.all_nil, ↓reduceIte, reduceCtorEq, ge_iff_le, gt_iff_lt, eq_self_iff_true, beq_self_eq_true, beq_iff_eq, bne_iff_ne, ne_eq, ite_not, Int.reduceEq, Option.getD_some, Option.getD_none, ite_self, Nat.reduceAdd, Nat.reduceSub, Nat.reduceMul, Nat.reduceLeDiff, Nat.reduceEqDiff, Nat.reduceBEq, Nat.reduceBNe, Int.reduceLT, Int.reduceLE, Int.reduceAdd, Int.reduceSub, Int.reduceMul, Int.reduceNeg, Int.reduceNe, Int.reduceBEq, Int.reduceBNe, Int.reduceToNat, strip_P, ln_P, List.length_map, c1, cells_P, isCell_P, low_P, stripC_P, isTup_P]
  | m + 1, i, h => by
    have ih := sameRec_loop hv (v4 := v4) (H := H) m (i + 1) (by omega)
    have h1 := hv.1
    rw [p_ratchetref05_SameRec_11010_eq]
    have c1 : (i : Int) < v.types.length := by omega
    have hi : i < v.types.length := by omega
    have hf := hv.2 _ (List.getElem_mem hi)
    have hg : (v.types.map encS)[i]? = some (encS v.types[i]) := by simp [hi]
    have hia : ∀ K, run (iaS 6 (shutP 6 (v.types.map encS)) (.int .i64 i)) K = some (.ok (.elem (csS v.types[i])) K) := fun K => by
      rw [ia_P hg, run_iaS (by omega), Int.toNat_natCast, hg]
      rfl
    have hs : ∀ L, run (C k_ratchetref05_SameSub [.agg (csS v.types[i]), .agg (csS v.types[i])]) (hadd H L) = some (.ok (.bool true) (hadd H L)) := fun L => sameSub_self hf
    unfold csS at hia hs
    simp (contextual := true) (dsimp := false) (disch := omega) only [↓goDown, goUp, List.length_cons, List.length_nil, List.map_cons, List.map_nil, List.take_succ_cons, List.take_zero, List.drop_succ_cons, List.drop_zero, List.drop_nil, List.take_nil, List.cons_append, List.nil_append, List.append_nil, List.set_cons_zero, List.set_cons_succ, List.all_cons, List.all_nil, ↓reduceIte, reduceCtorEq, ge_iff_le, gt_iff_lt, eq_self_iff_true, beq_self_eq_true, beq_iff_eq, bne_iff_ne, ne_eq, ite_not, Int.reduceEq, Option.getD_some, Option.getD_none, ite_self, Nat.reduceAdd, Nat.reduceSub, Nat.reduceMul, Nat.reduceLeDiff, Nat.reduceEqDiff, Nat.reduceBEq, Nat.reduceBNe, Int.reduceLT, Int.reduceLE, Int.reduceAdd, Int.reduceSub, Int.reduceMul, Int.reduceNeg, Int.reduceNe, Int.reduceBEq, Int.reduceBNe, Int.reduceToNat, strip_P, ln_P, List.length_map, c1, cells_P, isCell_P, low_P, stripC_P, isTup_P, hia, hs, un_not, ns]
    exact ih
theorem sameRec_self {H : Heap} {v : RT} (hv : v.fit) : run (C k_ratchetref05_SameRec [encR v, encR v]) H = some (.ok (.bool true) H) := by
  rw [ratchetref05_SameRec_eq]
  have lp : ∀ v4, run (p_ratchetref05_SameRec_11010 (.ptr H.length 0) (.ptr (H.length + 1) 0) v4 (.int .i64 0)) (hadd H [.cells [shutP 6 (v.types.map encS), .bool v.exp], .cells [shutP 6 (v.types.map encS), .bool v.exp]]) = some (.ok (.bool true) (hadd H [.cells [shutP 6 (v.types.map encS), .bool v.exp], .cells [shutP 6 (v.types.map encS), .bool v.exp]])) := fun v4 => sameRec_loop (H := H) (v4 := v4) hv v.types.length 0 (by omega)
  unfold encR
  simp (contextual := true) (dsimp := false) (disch := omega) only [↓goDown, goUp, List.length_cons, List.length_nil, List.map_cons, List.map_nil, List.take_succ_cons, List.take_zero, List.drop_succ_cons, List.drop_zero, List.drop_nil, List.take_nil, List.cons_append, List.nil_append, List.append_nil, List.set_cons_zero, List.set_cons_succ, List.all_cons, List.all_nil, ↓reduceIte, reduceCtorEq, ge_iff_le, gt_iff_lt, eq_self_iff_true, beq_self_eq_true, beq_iff_eq, bne_iff_ne, ne_eq, ite_not, Int.reduceEq, Option.getD_some, Option.getD_none, ite_self, Nat.reduceAdd, Nat.reduceSub, Nat.reduceMul, Nat.reduceLeDiff, Nat.reduceEqDiff, Nat.reduceBEq, Nat.reduceBNe, Int.reduceLT, Int.reduceLE, Int.reduceAdd, Int.reduceSub, Int.reduceMul, Int.reduceNeg, Int.reduceNe, Int.reduceBEq, Int.reduceBNe, Int.reduceToNat, strip_P, ln_P, cells_P, isCell_P, low_P, stripC_P, isTup_P, neq_int, neq_bool, lp]
/-! ### What is read is of moderate length -/
theorem rComp_fit {b : List UInt8} {p q : Nat} {v : CT} (h : rComp b p = .ok v q) : v.fit := by
  have hV : ∀ {p q l}, rVals b p = .ok l q → l.length < 2 ^ 62 := fun h => by have := (rList_le (fun p v q h => rVal_le h) h).2; omega
  have hF : ∀ {p q l}, rFields b p = .ok l q → l.length < 2 ^ 62 := fun h => by have := (rList_le (fun p v q h => rField_le h) h).2; omega
  unfold rComp at h
  split at h
  · split at h
    · unfold rFunc at h
      cases h1 : rVals b (p + 1) with
      | ok ps q1 =>
        rw [h1] at h
        dsimp only at h
        cases h2 : rVals b q1 with
        | ok rs q2 =>
          rw [h2] at h
          simp only [rsFunc, Rs.ok.injEq] at h
          obtain ⟨rfl, -⟩ := h
          exact ⟨hV h1, hV h2, by simp⟩
        | err a w => rw [h2] at h; cases h
      | err a w => rw [h1] at h; cases h
    · split at h
      · cases h1 : rFields b (p + 1) with
        | ok fs q1 =>
          rw [h1] at h
          simp only [rsStruct, Rs.ok.injEq] at h
          obtain ⟨rfl, -⟩ := h
          exact ⟨by simp, by simp, hF h1⟩
        | err a w => rw [h1] at h; cases h
      · split at h
        · cases h1 : rField b (p + 1) with
          | ok fs q1 =>
            rw [h1] at h
            simp only [rsArray, Rs.ok.injEq] at h
            obtain ⟨rfl, -⟩ := h
            exact ⟨by simp, by simp, by simp⟩
          | err a w => rw [h1] at h; cases h
        · cases h
  · cases h
theorem rsSub_fit {b : List UInt8} {f : Bool} {s : List Int} {p q : Nat} {v : ST} (hs : s.length < 2 ^ 62) (h : rsSub f s (rComp b p) = .ok v q) : v.fit := by
  cases h1 : rComp b p with
  | ok c q1 =>
    rw [h1] at h
    simp only [rsSub, Rs.ok.injEq] at h
    obtain ⟨rfl, -⟩ := h
    exact ⟨hs, rComp_fit h1⟩
  | err a w => rw [h1] at h; cases h
theorem rSub_fit {b : List UInt8} {p q : Nat} {v : ST} (h : rSub b p = .ok v q) : v.fit := by
  have hS : ∀ {f p q v}, rSubs b f p = .ok v q → v.fit := fun {f p q v} h => by
    unfold rSubs at h
    cases h1 : rSupers b p with
    | ok s q1 =>
      rw [h1] at h
      have := (rList_le (fun p v q h => rIndex_le h) h1).2
      exact rsSub_fit (by omega) h
    | err a w => rw [h1] at h; cases h
  unfold rSub at h
  split at h
  · split at h
    · exact hS h
    · split at h
      · exact hS h
      · exact rsSub_fit (by simp) h
  · cases h
theorem rRep_all {α : Type} {one : Nat → Rs α} {P : α → Prop} (h1 : ∀ p v q, one p = .ok v q → P v) : ∀ n p l q, rRep one n p = .ok l q → ∀ v ∈ l, P v
  | 0, p, l, q, h => by unfold rRep at h; cases h; simp
  | n + 1, p, l, q, h => by
    unfold rRep at h
    cases hr : one p with
    | ok v q1 =>
      rw [hr] at h
      dsimp only at h
      cases hs : rRep one n q1 with
      | ok l2 q2 =>
        rw [hs] at h
        simp only [rsCons, Rs.ok.injEq] at h
        obtain ⟨rfl, rfl⟩ := h
        intro u hu
        rcases List.mem_cons.mp hu with rfl | hu
        · exact h1 _ _ _ hr
        · exact rRep_all h1 n q1 l2 q2 hs u hu
      | err a w => rw [hs] at h; cases h
    | err a w => rw [hr] at h; cases h
theorem rRec_fit {b : List UInt8} {p q : Nat} {v : RT} (h : rRec b p = .ok v q) : v.fit := by
  unfold rRec at h
  split at h
  · split at h
    · cases h1 : rTypes b (p + 1) with
      | ok l q1 =>
        rw [h1] at h
        simp only [rsExp, Rs.ok.injEq] at h
        obtain ⟨rfl, -⟩ := h
        have hl := (rList_le (fun p v q h => rSub_le h) h1).2
        refine ⟨by show l.length < _; omega, ?_⟩
        unfold rTypes at h1
        rw [rList_many] at h1
        cases hm : rMany b 10000 (p + 1) with
        | ok n q2 => rw [hm] at h1; exact rRep_all (fun p v q h => rSub_fit h) _ _ _ _ h1
        | err a w => rw [hm] at h1; cases h1
      | err a w => rw [h1] at h; cases h
    · cases h1 : rSub b p with
      | ok t q1 =>
        rw [h1] at h
        simp only [rsOne, Rs.ok.injEq] at h
        obtain ⟨rfl, -⟩ := h
        refine ⟨by simp, fun u hu => ?_⟩
        obtain rfl := List.mem_singleton.mp hu
        exact rSub_fit h1
      | err a w => rw [h1] at h; cases h
  · cases h
end Go.Proofs.Ytofbbijagbpicaa.Pi.Q
/- The law EntryGroups, told: it answers true. -/
namespace Go.Proofs.Ytofbbijagbpicaa.Pi.Q
open Go Go.Proofs.Ytofbbijagbpicaa.Pi
set_option linter.unusedVariables false
set_option linter.unusedSimpArgs false
set_option maxRecDepth 100000
attribute [local congr] ite_congr
theorem atPl_F {at_ : Int} {b : List UInt8} {r : Rs FT} : ∃ v p e, atPl at_ b (encF zF) (outR encF (encF zF) r) = .tup [encF v, .int .i64 p, .int .i64 e] :=
  atPl_cases (fun t => ∃ v p e, t = .tup [encF v, .int .i64 p, .int .i64 e]) ⟨_, _, _, rfl⟩ (fun v p _ => ⟨_, _, _, rfl⟩) (fun a w _ => ⟨_, _, _, rfl⟩)
theorem atPl_C {at_ : Int} {b : List UInt8} : ∃ v p e, CT.fit v ∧ atPl at_ b (encC zC) (outR encC (encC zC) (rComp b at_.toNat)) = .tup [encC v, .int .i64 p, .int .i64 e] :=
  have hz : CT.fit zC := ⟨by simp, by simp, by simp⟩
  atPl_cases (fun t => ∃ v p e, CT.fit v ∧ t = .tup [encC v, .int .i64 p, .int .i64 e]) ⟨_, _, _, hz, rfl⟩ (fun v p h => ⟨_, _, _, rComp_fit h, rfl⟩) (fun a w _ => ⟨_, _, _, hz, rfl⟩)
theorem atPl_S {at_ : Int} {b : List UInt8} : ∃ v p e, ST.fit v ∧ atPl at_ b (encS zSu) (outR encS (encS zSu) (rSub b at_.toNat)) = .tup [encS v, .int .i64 p, .int .i64 e] :=
  have hz : ST.fit zSu := ⟨by simp, by simp, by simp, by simp⟩
  atPl_cases (fun t => ∃ v p e, ST.fit v ∧ t = .tup [encS v, .int .i64 p, .int .i64 e]) ⟨_, _, _, hz, rfl⟩ (fun v p h => ⟨_, _, _, rSub_fit h, rfl⟩) (fun a w _ => ⟨_, _, _, hz, rfl⟩)
theorem atPl_R {at_ : Int} {b : List UInt8} : ∃ v p e, RT.fit v ∧ atPl at_ b (encR zR) (outR encR (encR zR) (rRec b at_.toNat)) = .tup [encR v, .int .i64 p, .int .i64 e] :=
  have hz : RT.fit zR := ⟨by simp, by simp⟩
  atPl_cases (fun t => ∃ v p e, RT.fit v ∧ t = .tup [encR v, .int .i64 p, .int .i64 e]) ⟨_, _, _, hz, rfl⟩ (fun v p h => ⟨_, _, _, rRec_fit h, rfl⟩) (fun a w _ => ⟨_, _, _, hz, rfl⟩)
theorem neq_F {H : Heap} {a c : Int} {t u : Bool} : run (bi .neq (.struct [.int, .bool, .int, .bool]) (.agg [.int .i64 a, .bool t, .int .i64 c, .bool u]) (.agg [.int .i64 a, .bool t, .int .i64 c, .bool u])) H = some (.ok (.bool false) H) := by
  unfold run bi
  simp [eqPV, eqCells, eqScalar, M.pure]
theorem groups_true {b : List UInt8} {z : Bool} (hb : b.length < 2 ^ 61) {at_ : Int} {H : Heap} : run (C k_ratchetlaw08_EntryGroups [BS z b, .int .i64 at_]) H = some (.ok (.bool true) H) := by
  obtain ⟨v1, p1, e1, q1⟩ := atPl_F (at_ := at_) (b := b) (r := rField b at_.toNat)
  obtain ⟨v2, p2, e2, f2, q2⟩ := atPl_C (at_ := at_) (b := b)
  obtain ⟨v3, p3, e3, f3, q3⟩ := atPl_S (at_ := at_) (b := b)
  obtain ⟨v4, p4, e4, f4, q4⟩ := atPl_R (at_ := at_) (b := b)
  have a1 := fun K => own_Field (H := K) (z := z) hb (at_ := at_)
  have a2 := fun K => ref_Field (H := K) (z := z) hb (at_ := at_)
  have a3 := fun K => own_CompType (H := K) (z := z) hb (at_ := at_)
  have a4 := fun K => ref_CompType (H := K) (z := z) hb (at_ := at_)
  have a5 := fun K => own_SubType (H := K) (z := z) hb (at_ := at_)
  have a6 := fun K => ref_SubType (H := K) (z := z) hb (at_ := at_)
  have a7 := fun K => own_RecType (H := K) (z := z) hb (at_ := at_)
  have a8 := fun K => ref_RecType (H := K) (z := z) hb (at_ := at_)
  simp only [q1, q2, q3, q4] at a1 a2 a3 a4 a5 a6 a7 a8
  have s1 : ∀ K, run (C k_ratchetref05_SameSub [encS ⟨false, [], v2⟩, encS ⟨false, [], v2⟩]) K = some (.ok (.bool true) K) := fun K => sameSub_self ⟨by simp, f2⟩
  have s2 : ∀ K, run (C k_ratchetref05_SameSub [encS v3, encS v3]) K = some (.ok (.bool true) K) := fun K => sameSub_self f3
  have s3 : ∀ K, run (C k_ratchetref05_SameRec [encR v4, encR v4]) K = some (.ok (.bool true) K) := fun K => sameRec_self f4
  simp only [encF, encC, csC, encS, csS, encR, List.map_nil, shutP_nil] at a1 a2 a3 a4 a5 a6 a7 a8 s1 s2 s3
  rw [ratchetlaw08_EntryGroups_eq]
  simp (contextual := true) (dsimp := false) (disch := omega) only [↓goDown, goUp, List.length_cons, List.length_nil, List.map_cons, List.map_nil, List.take_succ_cons, List.take_zero, List.drop_succ_cons, List.drop_zero, List.drop_nil, List.take_nil, List.cons_append, List.nil_append, List.append_nil, List.set_cons_zero, List.set_cons_succ, List.all_cons, List.all_nil, ↓reduceIte, reduceCtorEq, ge_iff_le, gt_iff_lt, eq_self_iff_true, beq_self_eq_true, beq_iff_eq, bne_iff_ne, ne_eq, ite_not, Int.reduceEq, Option.getD_some, Option.getD_none, ite_self, Nat.reduceAdd, Nat.reduceSub, Nat.reduceMul, Nat.reduceLeDiff, Nat.reduceEqDiff, Nat.reduceBEq, Nat.reduceBNe, Int.reduceLT, Int.reduceLE, Int.reduceAdd, Int.reduceSub, Int.reduceMul, Int.reduceNeg, Int.reduceNe, Int.reduceBEq, Int.reduceBNe, Int.reduceToNat, a1, a2, a3, a4, a5, a6, a7, a8, s1, s2, s3, neq_F, neq_int, eql_int, un_not, awake_is, cells_P, isCell_P, low_P, stripC_P, strip_P, isTup_P, bne_self_eq_false]
end Go.Proofs.Ytofbbijagbpicaa.Pi.Q
